/- An abstract machine over the model, and contracts of functions of this program on it (part 6): words and lemmas for the proof in the last text. -/
import Derived.Lib.Walk
import Derived.Handy
import Derived.Lib.Small
import Derived.Deep.RegionHeld3
import Derived.Deep.DrawnRows
import Derived.Shelf.SlSortCmp.WholeK
import Derived.Shelf.SlSortCmp.NoneTotal
import Derived.WalkKit
import Derived.ProofKit
import Derived.OpenShut
import Derived.JoinedCond
import Derived.Carry
import Derived.Test.YtbehhclclhfhkaaGreatDoorCards
import Derived.Test.YtbehhclclhfhkaaGreatDoorTie
import Derived.Deep.DeepHandedRow
import Derived.Shelf.Vars
import Derived.MakeChecks
import Derived.Test.YtbehhclclhfhkaaGreatDoorKE
set_option linter.unusedSimpArgs false
set_option linter.unusedVariables false
set_option linter.unusedSectionVars false

namespace Go.Aw.Try
open Go Go.Proofs Go.Aw
set_option maxRecDepth 100000
set_option maxHeartbeats 4000000
noncomputable def walkF (l:List TN):List Id:=visF (l.length+1) l rootI []
theorem keep_app {α:Type} {H H':List α} (hl:H.length≤H'.length) (h:∀ q,q<H.length→H'[q]? = H[q]?):H'=H ++ H'.drop H.length:=by
 have:H'.take H.length=H:=by
  apply List.ext_getElem?
  intro i
  rw [List.getElem?_take]
  split
  ·rename_i q; exact h i q
  ·rename_i q; rw [List.getElem?_eq_none (by omega)]
 conv=>lhs; rw [← List.take_append_drop H.length H']
 rw [this]
theorem k2015 (l:List TN) (hq:∀ t∈l,OkQ t.pl) (hl:l.length<1000000000000) (H:List O) :
  ACalls Tryz.prog G0 15 [.c (.d (.sl (l.map TN.row)))] H fun t H'=>t = .v (.c (.d (.sl ((walkF l).map Id.row))))∧H'=H:=by
 refine acallsX (X:=[]) trivial tab hmix Tryz.func15 c2015 (by rfl) fun hw=>?_
 have mk:Value.agg [Value.string ⟨#[]⟩,Value.int IntKind.i64 0].toArray=keyI rootI:=rfl
 have m3:mput [] (keyI rootI) (.c (.v (.bool true)))=KB (rootI :: []):=rfl
 have cf:=conf_I rootI
 simp (implicitDefEqProofs:=false) (disch:=omega) [gz,ir2015,b2015,keyOf,mk,m3,cf,toPV,toD,fillC,splice,Nat.add_assoc]
 have hW:WH H.length (H ++ [.cells [.d (.sl (l.map TN.row))],.cells [.d (.v (.slice none 0 0))],.map KI (KB (rootI :: [])),.cells [.mp (H.length+2)],.cells [.fn 43 [(H.length,0),(H.length+3,0),(H.length+1,0),(H.length+4,0)]]])
   H.length (H.length+3) (H.length+1) (H.length+4) (H.length+2) l []:=by
  refine ⟨?_,?_,?_,.inl ⟨?_,rfl⟩,?_,⟨by omega,by omega⟩,⟨by omega,by omega⟩,by omega,⟨by omega,by omega⟩,by omega,by omega⟩
  ·rw [app_get0]; rfl
  ·rw [app_get]; rfl
  ·rw [app_get]; rfl
  ·rw [app_get]; rfl
  ·rw [app_get]; rfl
 have hk:=k2043 H.length (l.length+1) l rootI [] _ H.length (H.length+3) (H.length+1) (H.length+4) (H.length+2) hq hl hW (by simp) List.nodup_nil (fun y hy=>nomatch hy)
 rw [show rootI.row=[.v (.string ⟨#[]⟩),.v (.int .i64 0)] from rfl] at hk
 refine hk.mono ?_
 rintro t H' ⟨rfl,hl1,hW2,hfr⟩
 rw [show visF (l.length+1) l rootI []=walkF l from rfl] at hW2
 have hH':H'=H ++ H'.drop H.length:=keep_app (by simp at hl1; omega) (fun q hq2=>by rw [hfr q hq2,List.getElem?_append_left hq2])
 have hbo:=hW2.bo
 rcases hW2.o with ⟨q1,q2⟩ | ⟨r,q1,q2,q3⟩
 ·simp (implicitDefEqProofs:=false) (disch:=omega) [gz,callK,q1,fillC,splice]
  rw [q2,hH']
  exact fin_pre_pv (p:=.c (.sl [])) (L':=H'.drop H.length) hw (by simp [toPV,toD]) (by simp [frz,frz1,V.cells]) ⟨rfl,rfl⟩
 ·simp (implicitDefEqProofs:=false) (disch:=omega) [gz,callK,q1,fillC,splice]
  have hrl:=lt_of_get q2
  rw [hH'] at q2 ⊢
  refine fin_pre_pv (p:=.c (.sl ((walkF l).map Id.row))) (L':=(H'.drop H.length).set (r-H.length) (.frow 2 ((walkF l).map Id.row))) hw ?_ ?_ ⟨rfl,rfl⟩
  ·simp [toPV,toD,q2,List.take_of_length_le]
  ·simp only [frz,frz1,V.cells,q2]
   rw [List.set_append_right _ _ q3]
noncomputable def x2015:XE:=mkX false (fun (l:List TN)=>[.c (.sl (l.map TN.row))]) (fun l=>(∀ t∈l,OkQ t.pl)∧l.length<1000000000000) (fun l=>.v (.c (.d (.sl ((walkF l).map Id.row)))))
theorem kx2015:Contract Tryz.prog G0 15 x2015:=mkX_data fun l h H=>k2015 l h.1 h.2 H
theorem xg2015 (l:List TN) (hq:∀ t∈l,OkQ t.pl) (hl:l.length<1000000000000):x2015.g [.c (.sl (l.map TN.row))]=some (True,.v (.c (.d (.sl ((walkF l).map Id.row))))):=mkX_g inj1T l ⟨hq,hl⟩
open Go Go.Proofs Go.Aw Go.Sort Go.Lib
theorem w127 (x:ByteArray) (w:World):Calls Tryz.prog 127 #[.string x] w fun e w'=>e = .returned (.bool false)∧w'=w:=by
 go_enter Tryz.func127,Tryz.ntmps127
 go_wp2
 go_ret
 exact ⟨by simp,rfl⟩
theorem w128 (x:Int) (w:World):Calls Tryz.prog 128 #[.int .i64 x] w fun e w'=>e = .returned (.bool false)∧w'=w:=by
 go_enter Tryz.func128,Tryz.ntmps128
 go_wp2
 go_ret
 exact ⟨by simp,rfl⟩
theorem w84 (x y:ByteArray) (w:World):Calls Tryz.prog 84 #[.string x,.string y] w fun e w'=>e = .returned (.int .i64 (cmpA x y))∧w'=w:=by
 have hb:Op.bytesLess x.toList y.toList=decide (cmpS x y<0):=strLt_eq x y
 have hg:∀ w,(binOp .gtr 9 (.string x) (.string y)).run Tryz.prog w = .ok (.bool (decide (0<cmpS x y))) w:=fun w=>by
  have e:decide (0<cmpS x y) = !(strLt x y || decide (x=y)):=by
   have h:=cmpS_eq x y
   rw [strLt_eq,Bool.eq_iff_iff]
   simp
   constructor
   ·intro q; exact ⟨by omega,fun q2=>by rw [h.2 q2] at q; omega⟩
   ·rintro ⟨q1,q2⟩
    have:cmpS x y≠0:=fun q=>q2 (h.1 q)
    omega
  rw [e]; simp [binOp,Op.stringOp,strLt,toList_eq_decide]
 have hr:cmpA x y=if cmpS x y<0 then -1 else if 0<cmpS x y then 1 else 0:=rfl
 rw [hr]
 obtain ⟨z,hz⟩:∃ z,z=cmpS x y:=⟨_,rfl⟩
 rw [← hz] at hb hg ⊢
 clear hr hz
 go_enter Tryz.func84,Tryz.ntmps84
 go_wp2_with (go_at_call 127; refine (w127 _ _).mono ?_; rintro e w' ⟨rfl,hw⟩; rw [hw])
 all_goals (go_ret; refine ⟨?_,rfl⟩; (repeat' split) <;> first | rfl | (exfalso; omega) | (exfalso; simp [hb] at *; omega))
theorem w85 (x y:Int) (w:World):Calls Tryz.prog 85 #[.int .i64 x,.int .i64 y] w fun e w'=>e = .returned (.int .i64 (cmpI x y))∧w'=w:=by
 go_enter Tryz.func85,Tryz.ntmps85
 go_wp2_with (go_at_call 128; refine (w128 _ _).mono ?_; rintro e w' ⟨rfl,hw⟩; rw [hw])
 all_goals (go_ret; refine ⟨?_,rfl⟩)
 all_goals (unfold cmpI; (repeat' split) <;> first | rfl | (exfalso; omega))
theorem w83 (x y:Int) (b cap:Nat) (w:World) (h0:w.cell? ⟨b,0,none⟩=some (.int .i64 x)) (h1:w.cell? ⟨b,1,none⟩=some (.int .i64 y)) :
  Calls Tryz.prog 83 #[.slice (some ⟨b,0,none⟩) 2 cap] w fun e w'=>e = .returned (.int .i64 (orI [x,y]))∧w'=w:=by
 have hr:orI [x,y]=if x≠0 then x else if y≠0 then y else 0:=rfl
 rw [hr]
 go_enter Tryz.func83,Tryz.ntmps83
 go_wp2
 go_rounds 3
 all_goals (go_ret; refine ⟨?_,rfl⟩; (repeat' split) <;> first | rfl | (exfalso; simp_all; done) | (simp_all; done))
theorem cell_new (W:World) (cs:Array Value) (t:TypeId) (j:Nat) (v:Value) (N:Nat) (hN:N=W.heap.size) (h:cs[j]? = some v):((W.alloc (.cells cs t)).drew).cell? ⟨N,j,none⟩=some v:=by
 subst hN
 have e:((W.alloc (.cells cs t)).drew).heap=W.heap.push (.cells cs t):=rfl
 simp only [World.cell?,e,Array.getElem?_push_size]
 simpa using h
theorem gr3 (W:World) (A B C:Obj):(((W.alloc A).alloc B).alloc C).drew=grow (W.drewN 1) (#[A] ++ #[B] ++ #[C]):=by
 rw [alloc_eq_grow,alloc_eq_grow,alloc_eq_grow,grow_grow,grow_grow]; rfl
theorem gr2 (W:World) (A B:Obj) (q:Nat) (os:Array Obj):grow (((W.alloc A).alloc B).drewN q) os=grow (W.drewN q) (#[A] ++ #[B] ++ os):=by
 rw [alloc_eq_grow,alloc_eq_grow,grow_grow]
 show grow (grow (W.drewN q) _) os=_
 rw [grow_grow]
theorem w41 (a b:Id) (w:World):Calls Tryz.prog 41 #[.agg #[.string a.a,.int .i64 a.n],.agg #[.string b.a,.int .i64 b.n]] w fun e w'=>e = .returned (.int .i64 (lessZ a b))∧∃ q os',w'=grow (w.drewN q) os':=by
 have hr:lessZ a b=orI [cmpA a.a b.a,cmpI a.n b.n]:=rfl
 rw [hr]
 obtain ⟨a,n⟩:=a
 obtain ⟨b,m⟩:=b
 show Calls _ _ _ _ fun e w'=>e = .returned (.int .i64 (orI [cmpA a b,cmpI n m]))∧_
 have k84:=fun W=>w84 a b W
 have k85:=fun W=>w85 n m W
 obtain ⟨u,hu⟩:∃ u,u=cmpA a b:=⟨_,rfl⟩
 obtain ⟨v,hv⟩:∃ v,v=cmpI n m:=⟨_,rfl⟩
 rw [← hu] at k84 ⊢
 rw [← hv] at k85 ⊢
 obtain ⟨z,hz⟩:∃ z,z=orI [u,v]:=⟨_,rfl⟩
 rw [← hz]
 clear hr hu hv
 have k83:=fun b c W h0 h1=>hz▸w83 u v b c W h0 h1
 clear hz
 go_enter Tryz.func41,Tryz.ntmps41
 go_wp2
 go_region_held3 (fun w'=>w'.cell? ⟨w.heap.size,0,none⟩=some (.string a)∧w'.cell? ⟨w.heap.size,1,none⟩=some (.int .i64 n)∧w'.cell? ⟨w.heap.size+1,0,none⟩=some (.string b)∧w'.cell? ⟨w.heap.size+1,1,none⟩=some (.int .i64 m)) (go_keep)
  (first | (go_at_call 84; refine (k84 _).mono ?_; rintro e w' ⟨rfl,rfl⟩) | (go_at_call 85; refine (k85 _).mono ?_; rintro e w' ⟨rfl,rfl⟩) | (go_at_call 83; refine (k83 _ _ _ (cell_new _ _ _ _ _ _ (by simp) (by rfl)) (cell_new _ _ _ _ _ _ (by simp) (by rfl))).mono ?_; rintro e w' ⟨rfl,rfl⟩))
 all_goals go_wp2
 all_goals (go_ret; exact ⟨rfl,1,_,gr3 _ _ _ _⟩)
def cmpN' (a b:TN):Int:=lessZ a.node b.node
def encN (t:TN):List Value:=[.string t.node.a,.int .i64 t.node.n,.string t.par.a,.int .i64 t.par.n,.bool t.pl.neg,.string t.pl.num,.string t.pl.den,.string t.kind]
theorem w40 (s t:TN) (w:World):Calls Tryz.prog 40 #[.agg (encN s).toArray,.agg (encN t).toArray] w fun e w'=>e = .returned (.int .i64 (lessZ s.node t.node))∧∃ q os',w'=grow (w.drewN q) os':=by
 obtain ⟨⟨a1,a2⟩,⟨a3,a4⟩,⟨a5,a6,a7⟩,a8⟩:=s
 obtain ⟨⟨b1,b2⟩,⟨b3,b4⟩,⟨b5,b6,b7⟩,b8⟩:=t
 have k41:=fun W=>w41 ⟨a1,a2⟩ ⟨b1,b2⟩ W
 show Calls _ _ _ _ fun e w'=>e = .returned (.int .i64 (lessZ ⟨a1,a2⟩ ⟨b1,b2⟩))∧_
 obtain ⟨z,hz⟩:∃ z,z=lessZ ⟨a1,a2⟩ ⟨b1,b2⟩:=⟨_,rfl⟩
 rw [← hz] at k41 ⊢
 clear hz
 simp only [encN]
 go_enter Tryz.func40,Tryz.ntmps40
 go_wp2_with (go_at_call 41; refine (k41 _).mono ?_; rintro e w' ⟨rfl,q,os',rfl⟩)
 all_goals (go_ret; exact ⟨rfl,q,_,gr2 _ _ _ _ _⟩)
theorem cmpLN (blk off size:Nat) (w:World):CmpLays Tryz.prog 40 #[] encN 8 cmpN' blk off size w:=fun _ _ _ _ x y=>w40 x y _
open Go Go.Proofs Go.Aw Go.Sort Go.Shelf
def renF:Go.Shelf.Ren:=⟨fun n=>match n with | 6=>39 | 14=>81 | 15=>82 | 20=>117 | 21=>118 | 22=>119 | 23=>120 | 24=>121 | 25=>122 | 26=>123 | 27=>124 | 28=>125 | 29=>126 | 46=>149 | 47=>150 | 48=>151 | 49=>152 | 50=>153 | 57=>165 | n=>n,fun n=>match n with | 0=>0 | 3=>3 | 4=>4 | 5=>5 | 9=>9 | 22=>22 | 24=>40 | 25=>72 | 39=>105 | 45=>127 | 46=>128 | 50=>132 | 53=>114 | 55=>95 | 66=>147 | 70=>151 | 76=>163 | 77=>164 | n=>n,fun n=>n⟩
theorem lyF6:SlLaysF0.n6 Tryz.prog renF :=
  { mixed:=hmix
    f6:=⟨"slices.SortFunc[[]voussoir/api.TreeNode,voussoir/api.TreeNode]",by decide,Tryz.func39.trans (congrArg some (by kernel_rfl))⟩
    f14:=⟨"slices.pdqsortCmpFunc[voussoir/api.TreeNode]",by decide,Tryz.func81.trans (congrArg some (by kernel_rfl))⟩
    f15:=Tryz.func82.trans (congrArg some (by kernel_rfl))
    f20:=⟨"slices.insertionSortCmpFunc[voussoir/api.TreeNode]",by decide,Tryz.func117.trans (congrArg some (by kernel_rfl))⟩
    f21:=⟨"slices.heapSortCmpFunc[voussoir/api.TreeNode]",by decide,Tryz.func118.trans (congrArg some (by kernel_rfl))⟩
    f22:=⟨"slices.breakPatternsCmpFunc[voussoir/api.TreeNode]",by decide,Tryz.func119.trans (congrArg some (by kernel_rfl))⟩
    f23:=⟨"slices.choosePivotCmpFunc[voussoir/api.TreeNode]",by decide,Tryz.func120.trans (congrArg some (by kernel_rfl))⟩
    f24:=⟨"slices.reverseRangeCmpFunc[voussoir/api.TreeNode]",by decide,Tryz.func121.trans (congrArg some (by kernel_rfl))⟩
    f25:=⟨"slices.partialInsertionSortCmpFunc[voussoir/api.TreeNode]",by decide,Tryz.func122.trans (congrArg some (by kernel_rfl))⟩
    f26:=⟨"slices.partitionEqualCmpFunc[voussoir/api.TreeNode]",by decide,Tryz.func123.trans (congrArg some (by kernel_rfl))⟩
    f27:=⟨"slices.partitionCmpFunc[voussoir/api.TreeNode]",by decide,Tryz.func124.trans (congrArg some (by kernel_rfl))⟩
    f28:=Tryz.func125.trans (congrArg some (by kernel_rfl))
    f29:=Tryz.func126.trans (congrArg some (by kernel_rfl))
    f46:=⟨"slices.siftDownCmpFunc[voussoir/api.TreeNode]",by decide,Tryz.func149.trans (congrArg some (by kernel_rfl))⟩
    f47:=Tryz.func150.trans (congrArg some (by kernel_rfl))
    f48:=Tryz.func151.trans (congrArg some (by kernel_rfl))
    f49:=⟨"slices.medianAdjacentCmpFunc[voussoir/api.TreeNode]",by decide,Tryz.func152.trans (congrArg some (by kernel_rfl))⟩
    f50:=⟨"slices.medianCmpFunc[voussoir/api.TreeNode]",by decide,Tryz.func153.trans (congrArg some (by kernel_rfl))⟩
    f57:=⟨"slices.order2CmpFunc[voussoir/api.TreeNode]",by decide,Tryz.func165.trans (congrArg some (by kernel_rfl))⟩
    t0:=Tryz.underlying0
    a0:=Tryz.isAgg0
    z0:=Tryz.sizeOf0
    v0:=Tryz.zeroValue0
    t3:=Tryz.underlying3
    a3:=Tryz.isAgg3
    z3:=Tryz.sizeOf3
    v3:=Tryz.zeroValue3
    t4:=Tryz.underlying4
    a4:=Tryz.isAgg4
    z4:=Tryz.sizeOf4
    v4:=Tryz.zeroValue4
    t5:=Tryz.underlying5
    a5:=Tryz.isAgg5
    z5:=Tryz.sizeOf5
    v5:=Tryz.zeroValue5
    t9:=Tryz.underlying9
    a9:=Tryz.isAgg9
    z9:=Tryz.sizeOf9
    v9:=Tryz.zeroValue9
    t22:=Tryz.underlying22
    a22:=Tryz.isAgg22
    z22:=Tryz.sizeOf22
    v22:=Tryz.zeroValue22
    t25:=Tryz.underlying72
    a25:=Tryz.isAgg72
    z25:=Tryz.sizeOf72
    v25:=Tryz.zeroValue72
    t39:=Tryz.underlying105
    a39:=Tryz.isAgg105
    z39:=Tryz.sizeOf105
    v39:=Tryz.zeroValue105
    t45:=Tryz.underlying127
    a45:=Tryz.isAgg127
    z45:=Tryz.sizeOf127
    v45:=Tryz.zeroValue127
    t46:=Tryz.underlying128
    a46:=Tryz.isAgg128
    z46:=Tryz.sizeOf128
    v46:=Tryz.zeroValue128
    t50:=Tryz.underlying132
    a50:=Tryz.isAgg132
    z50:=Tryz.sizeOf132
    v50:=Tryz.zeroValue132
    t53:=Tryz.underlying114
    a53:=Tryz.isAgg114
    z53:=Tryz.sizeOf114
    v53:=Tryz.zeroValue114
    t55:=Tryz.underlying95
    a55:=Tryz.isAgg95
    z55:=Tryz.sizeOf95
    v55:=Tryz.zeroValue95
    t66:=Tryz.underlying147
    a66:=Tryz.isAgg147
    z66:=Tryz.sizeOf147
    v66:=Tryz.zeroValue147
    t70:=Tryz.underlying151
    a70:=Tryz.isAgg151
    z70:=Tryz.sizeOf151
    v70:=Tryz.zeroValue151
    t76:=Tryz.underlying163
    a76:=Tryz.isAgg163
    z76:=Tryz.sizeOf163
    v76:=Tryz.zeroValue163
    t77:=Tryz.underlying164
    a77:=Tryz.isAgg164
    z77:=Tryz.sizeOf164
    v77:=Tryz.zeroValue164 }
end Go.Aw.Try
namespace Go.Aw
open Go Go.Proofs Go.Sort
section
variable {P:Program} {G:Gl} {α:Type} [Inhabited α] (enc:α→List Value) (k:Nat)
theorem row_holdsK (hk0:0<k) (hk:∀ x,(enc x).length=k) {ρ:Nat→Option Nat} {H:List O} {w:World} {r:Nat} {ss:List α} (hH:HRel P ρ H w) (hr:H[r]? = some (.row k (ss.map fun x=>(enc x).map D.v))) {v:Value} (hv:VRel P (ctx ρ H w) (.c (.os r k 0 ss.length)) v) (h0:ss≠[]) :
  ∃ b c e cap,ρ r=some b∧w.heap[b]? = some (.cells c e (0,0))∧ss.length*k≤c.size∧v = .slice (some ⟨b,0,none⟩) ss.length cap∧b<w.heap.size∧HoldsK enc k w b 0 ss.toArray:=by
 have hp:0<ss.length:=List.length_pos_iff.2 h0
 obtain ⟨_,h | ⟨b,cap,e,n,h1,h2,h3,h4,h5⟩⟩:=hv
 ·omega
 have ho:=(hH.objs r _ hr).2
 rcases ho with ⟨_,q⟩ | ⟨a,c,e',q1,q2,q3⟩
 ·exact absurd (List.map_eq_nil_iff.1 q) h0
 have q1:ρ r=some a:=q1
 have h1:ρ r=some b:=h1
 rw [h1] at q1
 injection q1 with q1
 subst q1
 have hlen:ss.length*k≤c.size:=by have:=q3.1; rw [List.length_map] at this; omega
 refine ⟨b,c,e',cap,h1,q2,hlen,by simpa using h2,(hH.small r b h1).2,fun j hj=>?_⟩
 rw [Go.Sort.size_flatK] at hj
 have hj:j<ss.length*k:=hj
 have hw:w.heap[b]? = some (.cells c e' (0,0)):=q2
 have hi:j / k<ss.length:=(Nat.div_lt_iff_lt_mul hk0).2 hj
 have hm:j % k<k:=Nat.mod_lt _ hk0
 have e0:ss.toArray[j / k]! = ss[j / k]'hi:=by rw [getElem!_pos ss.toArray (j / k) (by simpa using hi)]; simp
 have hx:(ss.map fun x=>(enc x).map D.v)[j / k]? = some ((enc (ss[j / k]'hi)).map D.v):=by simp [hi]
 have hy:((enc (ss[j / k]'hi)).map D.v)[j % k]? = some (.v (enc (ss[j / k]'hi))[j % k]!):=by
  rw [List.getElem?_map,List.getElem?_eq_getElem (by rw [hk]; exact hm),getElem!_pos _ _ (by rw [hk]; exact hm)]; rfl
 obtain ⟨u,hu,hd⟩:=q3.2.2 _ _ _ _ hx hy
 have hu2:=drel_v hd
 refine ⟨?_,by simp [World.frozen?,hw]⟩
 have e1:w.cell? ⟨b,0+j,none⟩=c[j]? := by simp [World.cell?,hw]
 rw [e1,get_flatK enc k _ j hj,e0]
 rw [Nat.div_add_mod' j k,hu2] at hu
 exact hu
theorem flat_get (hk0:0<k) (hk:∀ x,(enc x).length=k) (ts:List α) (c:Array Value) (hc:ts.length*k≤c.size) {i j:Nat} {x:α} {d:Value} (hi:ts[i]? = some x) (hj:(enc x)[j]? = some d) :
  (putCells id 0 (Go.Sort.flatK enc k ts.toArray) c)[i*k+j]? = some d:=by
 have h1:i<ts.length:=lt_of_get hi
 have h2:j<k:=by have:=lt_of_get hj; rwa [hk] at this
 have h3:i*k+j<ts.length*k:=by
  have:(i+1)*k≤ts.length*k:=Nat.mul_le_mul_right k h1
  rw [Nat.add_mul,Nat.one_mul] at this
  omega
 simp only [putCells,Array.getElem?_mapIdx]
 rw [Array.getElem?_eq_getElem (by omega),Option.map_some]
 rw [if_pos ⟨by omega,by simp; exact h3⟩]
 rw [Nat.sub_zero,get_flatK enc k _ _ (by simpa using h3)]
 have e1:(i*k+j) / k=i:=by rw [Nat.mul_comm,Nat.mul_add_div hk0,Nat.div_eq_of_lt h2,Nat.add_zero]
 have e2:(i*k+j) % k=j:=by rw [Nat.mul_comm,Nat.mul_add_mod,Nat.mod_eq_of_lt h2]
 rw [e1,e2]
 have e3:ts.toArray[i]! = x:=by
  rw [getElem!_pos ts.toArray i (by simpa using h1)]
  simp
  rw [List.getElem?_eq_getElem h1] at hi
  injection hi
 rw [e3]
 rw [List.getElem!_eq_getElem?_getD,hj]
 rfl
theorem row_putK (hk0:0<k) (hk:∀ x,(enc x).length=k) (h1c:∀ x,∀ v∈enc x,v.oneCell'=true) {ρ:Nat→Option Nat} {H:List O} {w:World} {r b:Nat} {c:Array Value} {e:TypeId} {ss ts:List α} (hH:HRel P ρ H w) (hr:H[r]? = some (.row k (ss.map fun x=>(enc x).map D.v))) (hρ:ρ r=some b)
  (hb:w.heap[b]? = some (.cells c e (0,0))) (hc:ts.length*k≤c.size) (n:Nat) (os:Array Obj) :
  HRel P ρ (H.set r (.row k (ts.map fun x=>(enc x).map D.v))) (sortWorldK enc k w b 0 n ts.toArray os) ∧
   (ctx ρ H w).le (ctx ρ (H.set r (.row k (ts.map fun x=>(enc x).map D.v))) (sortWorldK enc k w b 0 n ts.toArray os)):=by
 have hlt:b<w.heap.size:=(hH.small r b hρ).2
 have hpz:(putCells id 0 (Go.Sort.flatK enc k ts.toArray) c).size=c.size:=by simp [putCells]
 have hsh:Obj.shape (.cells (putCells id 0 (Go.Sort.flatK enc k ts.toArray) c) e (0,0))=Obj.shape (.cells c e (0,0)):=by simp [Obj.shape,hpz]
 have le1:=HRel.le_setB (ρ:=ρ) (H:=H) hr rfl hρ hb hsh (.row k (ts.map fun x=>(enc x).map D.v)) rfl
 have h1:HRel P ρ (H.set r (.row k (ts.map fun x=>(enc x).map D.v))) (setB w b (.cells (putCells id 0 (Go.Sort.flatK enc k ts.toArray) c) e (0,0))):=by
  refine hH.setB hr rfl hρ hb hsh (.row k (ts.map fun x=>(enc x).map D.v)) rfl ⟨hk0,.inr ⟨b,_,e,rfl,setB_same _ _ _ hlt,?_,?_,?_⟩⟩
  ·rw [hpz,List.length_map]; omega
  ·intro x hx; obtain ⟨s,_,rfl⟩:=List.mem_map.1 hx; rw [List.length_map]; exact hk s
  ·intro i x j d hi hj
   rw [List.getElem?_map] at hi
   cases hs:ts[i]? with
   | none=>rw [hs] at hi; cases hi
   | some s =>
    rw [hs] at hi
    injection hi with hi
    subst hi
    rw [List.getElem?_map] at hj
    cases hs2:(enc s)[j]? with
    | none=>rw [hs2] at hj; cases hj
    | some u =>
     rw [hs2] at hj
     injection hj with hj
     subst hj
     exact ⟨u,flat_get enc k hk0 hk ts c hc hs hs2,DRel.v _ (h1c s u (List.mem_of_getElem? hs2))⟩
 have hheap:(putRow id (Sort.ahead w n) b 0 (Go.Sort.flatK enc k ts.toArray)).heap=(setB w b (.cells (putCells id 0 (Go.Sort.flatK enc k ts.toArray) c) e (0,0))).heap:=by
  show w.heap.modify b (onCells _)=w.heap.setIfInBounds b _
  apply Array.ext_getElem?
  intro i
  rw [Array.getElem?_modify]
  by_cases q:b=i
  ·subst q
   rw [if_pos rfl,hb,Array.getElem?_setIfInBounds_self_of_lt hlt]
   rfl
  ·rw [if_neg q,Array.getElem?_setIfInBounds_ne q]
 have hs:Step (allB (setB w b (.cells (putCells id 0 (Go.Sort.flatK enc k ts.toArray) c) e (0,0)))) (setB w b (.cells (putCells id 0 (Go.Sort.flatK enc k ts.toArray) c) e (0,0))) (allB (grow (putRow id (Sort.ahead w n) b 0 (Go.Sort.flatK enc k ts.toArray)) os)) (grow (putRow id (Sort.ahead w n) b 0 (Go.Sort.flatK enc k ts.toArray)) os):=by
  have key:∀ i,i<(setB w b (.cells (putCells id 0 (Go.Sort.flatK enc k ts.toArray) c) e (0,0))).heap.size→(grow (putRow id (Sort.ahead w n) b 0 (Go.Sort.flatK enc k ts.toArray)) os).heap[i]? = (setB w b (.cells (putCells id 0 (Go.Sort.flatK enc k ts.toArray) c) e (0,0))).heap[i]? := fun i hi=>by
   rw [heap_grow_old _ _ (by rw [hheap]; exact hi),hheap]
  have hsz:(setB w b (.cells (putCells id 0 (Go.Sort.flatK enc k ts.toArray) c) e (0,0))).heap.size≤(grow (putRow id (Sort.ahead w n) b 0 (Go.Sort.flatK enc k ts.toArray)) os).heap.size:=by
   rw [size_grow,hheap]; omega
  refine ⟨fun i hi=>Nat.lt_of_lt_of_le hi hsz,fun i hi=>key i hi,hsz,fun i e' m hi=>?_,rfl,rfl,rfl⟩
  have hi':i<(setB w b (.cells (putCells id 0 (Go.Sort.flatK enc k ts.toArray) c) e (0,0))).heap.size:=by
   by_cases q:i<(setB w b (.cells (putCells id 0 (Go.Sort.flatK enc k ts.toArray) c) e (0,0))).heap.size
   ·exact q
   ·simp only [World.shape?] at hi
    rw [Array.getElem?_eq_none (by omega)] at hi
    cases hi
  rw [shape_of_block (key i hi')]; exact hi
 obtain ⟨h2,le2⟩:=h1.grow hs
 exact ⟨h2,le1.trans le2⟩
end
end Go.Aw
namespace Go.Aw.Try
open Go Go.Proofs Go.Aw
set_option maxRecDepth 100000
set_option maxHeartbeats 4000000
theorem insF_perm (c:TN→TN→Int) (x:TN):∀ l:List TN,(insF c x l).Perm (x :: l)
 | []=>List.Perm.refl _
 | y :: l=>by
  simp only [insF]
  split
  ·exact List.Perm.refl _
  ·exact ((insF_perm c x l).cons y).trans (List.Perm.swap x y l)
theorem ssort_perm (c:TN→TN→Int):∀ l:List TN,(ssort c l).Perm l
 | []=>List.Perm.refl _
 | x :: l=>(insF_perm c x _).trans ((ssort_perm c l).cons x)
theorem lessZ_eq {a b:Id} (h:lessZ a b=0):a=b:=by
 unfold lessZ at h
 simp only [orI] at h
 have h1:cmpA a.a b.a=0:=by
  by_cases q:cmpA a.a b.a=0
  ·exact q
  ·rw [if_pos q] at h; exact h
 rw [if_neg (by omega)] at h
 have h2:cmpI a.n b.n=0:=by
  by_cases q:cmpI a.n b.n=0
  ·exact q
  ·rw [if_pos q] at h; exact h
 have e1:cmpS a.a b.a=0:=by
  unfold cmpA sg3 at h1
  repeat' split at h1
  all_goals omega
 have e2:a.n=b.n:=by
  unfold cmpI at h2
  repeat' split at h2
  all_goals omega
 exact id_iff.2 ⟨(cmpS_eq _ _).1 e1,e2⟩
theorem cmpN_pre:Pre cmpN':=pre_map lessZ_pre TN.node
theorem sort_strict {l:List TN} (h:(l.map TN.node).Nodup) (hs:Srt cmpN' l):l.Pairwise fun a b=>cmpN' a b<0:=by
 induction l with
 | nil=>exact List.Pairwise.nil
 | cons x l ih =>
  obtain ⟨h1,h2⟩:=List.pairwise_cons.1 hs
  rw [List.map_cons,List.nodup_cons] at h
  refine List.pairwise_cons.2 ⟨fun y hy=>?_,ih h.2 h2⟩
  have:=h1 y hy
  rcases Int.lt_or_eq_of_le this with q | q
  ·exact q
  ·have e:=lessZ_eq (show lessZ x.node y.node=0 from q)
   exact absurd (List.mem_map_of_mem (f:=TN.node) hy) (by rw [← e]; exact h.1)
theorem sort_unique {l l':List TN} (hp:l.Perm l') (h:(l.map TN.node).Nodup):ssort cmpN' l=ssort cmpN' l':=by
 have n1:((ssort cmpN' l).map TN.node).Nodup:=((ssort_perm cmpN' l).map TN.node).nodup_iff.2 h
 have n2:((ssort cmpN' l').map TN.node).Nodup:=((ssort_perm cmpN' l').map TN.node).nodup_iff.2 ((hp.map TN.node).nodup_iff.1 h)
 refine pw_ext (R:=fun a b=>cmpN' a b<0) (fun a b h1 h2=>?_) (fun a h=>?_) (sort_strict n1 (ssort_srt cmpN_pre l)) (sort_strict n2 (ssort_srt cmpN_pre l')) fun x=>?_
 ·have:=cmpN_pre.sgn a b; omega
 ·have:=cmpN_pre.rf a; omega
 ·rw [(ssort_perm cmpN' l).mem_iff,(ssort_perm cmpN' l').mem_iff,hp.mem_iff]
open Go.Sort in
theorem swoN:SWO (ltOf cmpN') where
 irrefl x:=by have:=cmpN_pre.rf x; simp [ltOf]; omega
 trans x y z h1 h2:=by
  simp [ltOf] at *
  have a:=cmpN_pre.tr x y z (by omega) (by omega)
  have b:=cmpN_pre.tr z x y
  have c:=cmpN_pre.sgn x z
  have d:=cmpN_pre.sgn x y
  have e:=cmpN_pre.sgn y z
  omega
 ntrans x y z h1 h2:=by
  simp [ltOf] at *
  have a:=cmpN_pre.tr z y x
  have c:=cmpN_pre.sgn x z
  have d:=cmpN_pre.sgn x y
  have e:=cmpN_pre.sgn y z
  omega
theorem encN_one (t:TN):∀ v∈encN t,v.oneCell'=true:=fun v hv=>by
 simp [encN] at hv
 rcases hv with rfl | rfl | rfl | rfl | rfl | rfl | rfl | rfl <;> rfl
theorem os_zero8 {P:Program} {k:K} {r:Nat} {v:Value} (h:VRel P k (.c (.os r 8 0 0)) v):∃ a cap,v = .slice a 0 cap:=by
 obtain ⟨_,⟨_,p,h⟩ | ⟨b,cap,e,n,_,h,_⟩⟩:=h
 ·exact ⟨_,_,h⟩
 ·exact ⟨_,_,h⟩
theorem kSortF (l:List TN) (hl:l.length<4611686018427387904) (hd:(l.map TN.node).Nodup) (H:List O) (r:Nat) (hr:H[r]? = some (.row 8 (l.map TN.row))) :
  ACalls Tryz.prog G0 39 [.c (.os r 8 0 l.length),.c (.fn 40 [])] H fun t H'=>t = .tup []∧H'=H.set r (.row 8 ((ssort cmpN' l).map TN.row)):=by
 refine ⟨callable_of Tryz.func39 (by kernel_rfl) (by decide +kernel),fun ρ w vs hH hG hv=>?_⟩
 obtain ⟨u,v,rfl⟩:=two_args hv.1
 have hu:=hv.2 0 _ u rfl rfl
 obtain ⟨cv,rfl,hcv,_⟩:=hv.2 1 _ v rfl rfl
 have hcv:cv = #[]:=Array.eq_empty_of_size_eq_zero hcv
 subst hcv
 by_cases h0:l=[]
 ·subst h0
  obtain ⟨a,cap,rfl⟩:=os_zero8 hu
  have h:=AnyF.slices_SortFunc_none lyF6 a cap (.func (.func 40) #[] #[]) w
  refine Calls.mono h ?_
  rintro e1 w' ⟨rfl,rfl⟩
  exact ⟨_,_,ρ,H,rfl,⟨rfl,(set_self hr).symm⟩,hH,⟨#[],rfl,rfl,fun i c v h=>by simp at h⟩,.refl _⟩
 ·obtain ⟨b,c,e,cap,q1,q2,q3,q4,q5,q6⟩:=row_holdsK encN 8 (by omega) (fun _=>rfl) hH hr hu h0
  subst q4
  have eg:∀ args w,(callFunc 40 args).run Tryz.prog w = .ok (.enter 40 args) w:=enters_of Tryz.func40 (by kernel_rfl) rfl
  have h:=AnyQ.slices_SortFunc lyF6 8 Tryz.isAgg40 Tryz.sizeOf40 encN (fun _=>rfl) encN_one cmpN' swoN 40 #[] b 0 cap l.toArray w eg (cmpLN b 0 _ w) q6 q5 (by simpa using hl)
  refine Calls.mono h ?_
  rintro e1 w' ⟨rfl,d',n,os,hp,hs,rfl⟩
  have hsz:d'.size=l.length:=by simpa using hp.1
  have hperm:d'.toList.Perm l:=by
   have h1:=hp.2.2
   simp only [List.size_toArray] at h1
   rw [← hsz,Array.extract_size] at h1
   rw [hsz] at h1
   have e2:l.toArray.extract 0 l.length=l.toArray:=by rw [← List.size_toArray,Array.extract_size]
   rw [e2] at h1
   exact h1
  have hsrt:Srt cmpN' d'.toList:=by
   unfold Srt
   rw [List.pairwise_iff_getElem]
   intro i j hi hj hij
   have:=hs i j (Nat.zero_le _) hij (by simpa [hsz] using hj)
   simp at hi hj
   rw [getElem!_pos d' i hi,getElem!_pos d' j hj] at this
   have h2:=cmpN_pre.sgn d'[j] d'[i]
   simp [Go.Proofs.ltOf] at this
   simp
   omega
  have hts:d'.toList=ssort cmpN' l:=by
   have e1:=sort_unique hperm ((hperm.map TN.node).nodup_iff.2 hd)
   rw [← e1]
   have nd:=(hperm.map TN.node).nodup_iff.2 hd
   have n1:((ssort cmpN' d'.toList).map TN.node).Nodup:=((ssort_perm cmpN' _).map TN.node).nodup_iff.2 nd
   refine pw_ext (R:=fun a b=>cmpN' a b<0) (fun a b h1 h2=>?_) (fun a h=>?_) (sort_strict nd hsrt) (sort_strict n1 (ssort_srt cmpN_pre _)) fun x=>?_
   ·have:=cmpN_pre.sgn a b; omega
   ·have:=cmpN_pre.rf a; omega
   ·rw [(ssort_perm cmpN' _).mem_iff]
  obtain ⟨ts,hd'⟩:∃ ts,d'=List.toArray ts:=⟨d'.toList,by simp⟩
  subst hd'
  have hts:ts=ssort cmpN' l:=by simpa using hts
  obtain ⟨g1,g2⟩:=row_putK encN 8 (by omega) (fun _=>rfl) encN_one hH hr q1 q2 (ts:=ts) (by simp at hsz; omega) n os
  rw [hts] at g1 g2 ⊢
  exact ⟨_,_,ρ,_,rfl,⟨rfl,rfl⟩,g1,⟨#[],rfl,rfl,fun i c v h=>by simp at h⟩,g2⟩
abbrev Spots:=List (Id×TN)
def addM (l:List TN):Spots:=l.foldl (fun m t=>aput m t.node t) []
def parB (m:Spots) (e:Edit):Bool:=(alook m e.parent).isSome || decide (e.parent=rootI)
def stepM (m:Spots) (e:Edit):Spots :=
 if e.kind=1 then (if (alook m e.id).isNone && parB m e then aput m e.id ⟨e.id,e.parent,plc e,e.value⟩ else m)
 else if e.kind=2 then (match alook m e.node with
  | some s=>if (parB m e || decide (e.parent=binI0)) && !undF m e.parent e.node then aput m e.node ⟨s.node,e.parent,plc e,s.kind⟩ else m
  | none=>m)
 else m
def runM (m:Spots) (es:List Edit):Spots:=es.foldl stepM m
def appF (l:List TN) (es:List Edit):List TN:=ssort cmpN' ((runM (addM l) es).map Prod.snd)
structure OkM (m:Spots):Prop where
 key:∀ p∈m,p.2.node=p.1
 nd:(m.map Prod.fst).Nodup
theorem aput_keys {m:Spots} {x:Id} {t:TN}:(aput m x t).map Prod.fst=if x∈m.map Prod.fst then m.map Prod.fst else m.map Prod.fst ++ [x]:=by
 induction m with
 | nil=>simp [aput]
 | cons p m ih =>
  obtain ⟨k,v⟩:=p
  simp only [aput]
  by_cases h:k=x
  ·subst h; simp
  ·rw [if_neg h,List.map_cons,ih]
   have hx:¬ x=k:=fun q=>h q.symm
   simp only [List.map_cons,List.mem_cons,hx,false_or]
   split <;> simp
theorem aput_mem {m:Spots} {x:Id} {t:TN} {p:Id×TN} (h:p∈aput m x t):p=(x,t)∨p∈m:=by
 induction m with
 | nil=>simp [aput] at h; exact .inl h
 | cons q m ih =>
  obtain ⟨k,v⟩:=q
  simp only [aput] at h
  split at h
  ·rcases List.mem_cons.1 h with h | h
   ·exact .inl h
   ·exact .inr (List.mem_cons_of_mem _ h)
  ·rcases List.mem_cons.1 h with h | h
   ·exact .inr (h▸List.mem_cons_self ..)
   ·rcases ih h with h | h
    ·exact .inl h
    ·exact .inr (List.mem_cons_of_mem _ h)
theorem okM_put {m:Spots} (h:OkM m) {x:Id} {t:TN} (ht:t.node=x):OkM (aput m x t):=by
 refine ⟨fun p hp=>?_,?_⟩
 ·rcases aput_mem hp with rfl | hp
  ·exact ht
  ·exact h.key p hp
 ·rw [aput_keys]
  split
  ·exact h.nd
  ·rename_i q
   rw [List.nodup_append]
   exact ⟨h.nd,by simp,fun a ha b hb=>by simp at hb; subst hb; exact fun e=>q (e▸ha)⟩
theorem alook_pair {m:Spots} {x:Id} {t:TN} (h:alook m x=some t):(x,t)∈m:=by
 induction m with
 | nil=>cases h
 | cons p m ih =>
  obtain ⟨k,v⟩:=p
  simp only [alook] at h
  split at h
  ·rename_i q; subst q; injection h with h; subst h; exact List.mem_cons_self ..
  ·exact List.mem_cons_of_mem _ (ih h)
theorem addM_ok (l:List TN):OkM (addM l):=by
 unfold addM
 have:∀ (l:List TN) (m:Spots),OkM m→OkM (l.foldl (fun m t=>aput m t.node t) m):=by
  intro l
  induction l with
  | nil=>intro m h; exact h
  | cons t l ih=>intro m h; exact ih _ (okM_put h rfl)
 exact this l [] ⟨(fun p hp=>nomatch hp),List.nodup_nil⟩
theorem stepM_ok {m:Spots} (h:OkM m) (e:Edit):OkM (stepM m e):=by
 unfold stepM
 split
 ·split
  ·exact okM_put h rfl
  ·exact h
 ·split
  ·split
   ·rename_i s hs
    split
    ·exact okM_put h (h.key _ (alook_pair hs))
    ·exact h
   ·exact h
  ·exact h
theorem runM_ok {m:Spots} (h:OkM m):∀ es:List Edit,OkM (runM m es):=fun es=>by
 unfold runM
 induction es generalizing m with
 | nil=>exact h
 | cons e es ih=>exact ih (stepM_ok h e)
theorem aput_len (m:Spots) (x:Id) (t:TN):(aput m x t).length≤m.length+1:=by
 have:=congrArg List.length (aput_keys (m:=m) (x:=x) (t:=t))
 rw [List.length_map] at this
 rw [this]
 split <;> simp
theorem stepM_len (m:Spots) (e:Edit):(stepM m e).length≤m.length+1:=by
 unfold stepM
 repeat' split
 all_goals first | exact aput_len _ _ _ | omega
theorem runM_len (es:List Edit):∀ m:Spots,(runM m es).length≤m.length+es.length:=by
 unfold runM
 induction es with
 | nil=>intro m; exact Nat.le_refl _
 | cons e es ih =>
  intro m
  have h1:=ih (stepM m e)
  have h2:=stepM_len m e
  simp only [List.foldl_cons,List.length_cons]
  omega
theorem addM_len (l:List TN):(addM l).length≤l.length:=by
 unfold addM
 have:∀ (l:List TN) (m:Spots),(l.foldl (fun m t=>aput m t.node t) m).length≤m.length+l.length:=by
  intro l
  induction l with
  | nil=>intro m; exact Nat.le_refl _
  | cons t l ih =>
   intro m
   have h1:=ih (aput m t.node t)
   have h2:=aput_len m t.node t
   simp only [List.foldl_cons,List.length_cons]
   omega
 have:=this l []
 simpa using this
theorem erow_x (e:Edit):e.row=[.v (.string e.id.a),.v (.int .i64 e.id.n),.v (.int .i64 e.clock),.v (.int .i64 e.floor),.sl (e.deps.map Id.row),.v (.int .i64 e.kind),.v (.string e.node.a),.v (.int .i64 e.node.n),.v (.string e.parent.a),.v (.int .i64 e.parent.n),.v (.bool e.neg),.v (.string e.num),.v (.string e.den),.v (.string e.field),.v (.string e.value),.v (.string e.target.a),.v (.int .i64 e.target.n),.v (.string e.who)]:=rfl
theorem map_erase {α β:Type} (f:α→β):∀ (l:List α) (i:Nat),(l.map f).eraseIdx i=(l.eraseIdx i).map f
 | [],i=>by simp
 | x :: l,0=>rfl
 | x :: l,i+1=>by simp only [List.map_cons,List.eraseIdx_cons_succ,map_erase f l i]
theorem perm_erase {α:Type}:∀ {l:List α} {i:Nat} {x:α},l[i]? = some x→l.Perm (x :: l.eraseIdx i)
 | [],i,x,h=>by simp at h
 | y :: l,0,x,h=>by simp at h; subst h; exact List.Perm.refl _
 | y :: l,i+1,x,h=>by
  rw [List.getElem?_cons_succ] at h
  rw [List.eraseIdx_cons_succ]
  exact ((perm_erase h).cons y).trans (List.Perm.swap x y _)
theorem cells_id (x y:Id):cellsEq [.s,.i .i64] [.d (.v (.string x.a)),.d (.v (.int .i64 x.n))] [.d (.v (.string y.a)),.d (.v (.int .i64 y.n))]=some (decide (x=y)):=by
 simp only [cellsEq,skEq,if_true,Bool.and_true,and_self]
 congr 1
 rw [Bool.eq_iff_iff]
 simp [id_iff]
theorem k2011 (l:List TN) (es:List Edit) (hl:l.length<100000000000) (he:es.length<100000000000) (H:List O) :
    ACalls Tryz.prog (GM 0) 11 [.c (.d (.sl (l.map TN.row))),.c (.d (.sl (es.map Edit.row)))] H fun t H'=>t = .v (.c (.d (.sl ((appF l es).map TN.row))))∧H'=H:=by
  refine acallsX (X:=[]) trivial tab hmix Tryz.func11 c2011 (by rfl) fun hw=>?_
  simp (implicitDefEqProofs:=false) (disch:=omega) [gz,ir2011,b2011,b2011_0,b2011_1,b2011_2,wrap64,fillC,splice]
  refine loopE (fun k st=>∃ i,i≤l.length∧k=l.length-i ∧
      st=⟨ofL [(1,.v (.c (.d (.sl (es.map Edit.row))))),(5,.v (.c (.mp H.length))),(20,.v (.c (.d (.sl (l.map TN.row))))),(21,.int .i64 l.length),(22,.int .i64 i)],H ++ [.map KI (encIT (addM (l.take i)))]⟩)
    (fun st=>AtS [(1,.v (.c (.d (.sl (es.map Edit.row))))),(5,.v (.c (.mp H.length)))] (H ++ [.map KI (encIT (addM l))]) st) ?_ ?_ ?_
  · refine wk_pre [0] [1,5,20,21,22] hw rfl ⟨_,0,by omega,rfl,?_⟩
    simp [phiP,phi,O.ren,C.ren,addM,encM]
  · rintro J L hJ hL k st ⟨i,hi,rfl,rfl⟩
    by_cases hlt:i<l.length
    · obtain ⟨t,ht⟩:∃ t,nth l i=t:=⟨_,rfl⟩
      have hnext:addM (l.take (i+1))=aput (addM (l.take i)) t.node t:=by
        unfold addM
        rw [take_nth hlt,List.foldl_append,ht]; rfl
      obtain ⟨m,hm⟩:∃ m,m=addM (l.take i):=⟨_,rfl⟩
      rw [← hm] at hnext ⊢
      have mk:Value.agg [Value.string t.node.a,Value.int IntKind.i64 t.node.n].toArray=keyI t.node:=rfl
      have cf:=conf_I t.node
      have m3:=mp_IT m t.node t
      rw [trw] at m3
      simp (implicitDefEqProofs:=false) (disch:=omega) [gz,hlt,wrap64,nth_map,ht,trw,keyOf,mk,cf,m3,toPV,toDs,toD,fillC,splice,Nat.add_assoc]
      repeat' (with_reducible apply And.intro)
      all_goals first | omega | kernel_rfl | exact fun _ _=>rfl | skip
      subst hJ
      refine wk_pre [0] [1,5,20,21,22] hw rfl ⟨l.length-(i+1),by omega,i+1,by omega,rfl,?_⟩
      rw [hnext]
      simp [phiP,phi,O.ren,C.ren]
    · have:i=l.length:=by omega
      subst this
      rw [List.take_length]
      simp (implicitDefEqProofs:=false) (disch:=omega) [gz,hlt]
      subst hL
      exact at_mk (by simp) rfl
  · rintro _ ⟨sl,rfl⟩
    have hml:=addM_len l
    obtain ⟨m0,hm0⟩:∃ m0,m0=addM l:=⟨_,rfl⟩
    have hok0:OkM m0:=by rw [hm0]; exact addM_ok l
    have happ:appF l es=ssort cmpN' ((runM m0 es).map Prod.snd):=by rw [hm0]; rfl
    rw [happ]
    rw [← hm0] at hml ⊢
    simp (implicitDefEqProofs:=false) (disch:=omega) [gz,b2011_3,wrap64,fillC,splice]
    refine loopE (fun k st=>∃ i,i≤es.length∧k=es.length-i ∧
        st=⟨ofL [(5,.v (.c (.mp H.length))),(31,.v (.c (.d (.sl (es.map Edit.row))))),(32,.int .i64 es.length),(33,.int .i64 i)],H ++ [.map KI (encIT (runM m0 (es.take i)))]⟩)
      (fun st=>AtS [(5,.v (.c (.mp H.length)))] (H ++ [.map KI (encIT (runM m0 es))]) st) ?_ ?_ ?_
    · refine wk_pre [0] [5,31,32,33] hw rfl ⟨_,0,by omega,rfl,?_⟩
      simp [phiP,phi,O.ren,C.ren,runM]
    · rintro J L hJ hL k st ⟨i,hi,rfl,rfl⟩
      by_cases hlt:i<es.length
      · obtain ⟨e,het⟩:∃ e,nth es i=e:=⟨_,rfl⟩
        have hnx:runM m0 (es.take (i+1))=stepM (runM m0 (es.take i)) e:=by
          unfold runM
          rw [take_nth hlt,List.foldl_append,het]; rfl
        obtain ⟨m,hm⟩:∃ m,m=runM m0 (es.take i):=⟨_,rfl⟩
        rw [← hm] at hnx ⊢
        have mkP:Value.agg [Value.string e.parent.a,Value.int IntKind.i64 e.parent.n].toArray=keyI e.parent:=rfl
        have cfP:=conf_I e.parent
        have mP:=mf_IT m e.parent
        have mkI:Value.agg [Value.string e.id.a,Value.int IntKind.i64 e.id.n].toArray=keyI e.id:=rfl
        have cfI:=conf_I e.id
        have mI:=mf_IT m e.id
        have mkN:Value.agg [Value.string e.node.a,Value.int IntKind.i64 e.node.n].toArray=keyI e.node:=rfl
        have cfN:=conf_I e.node
        have mN:=mf_IT m e.node
        have hroot:cellsEq [.s,.i .i64] [.d (.v (.string e.parent.a)),.d (.v (.int .i64 e.parent.n))] [.d (.v (.string ⟨#[]⟩)),.d (.v (.int .i64 0))]=some (decide (e.parent=rootI)):=cells_id e.parent rootI
        have hbin:cellsEq [.s,.i .i64] [.d (.v (.string e.parent.a)),.d (.v (.int .i64 e.parent.n))] [.d (.v (.string ⟨#[45]⟩)),.d (.v (.int .i64 0))]=some (decide (e.parent=binI0)):=cells_id e.parent binI0
        have m3:mput (encIT m) (keyI e.id) (.agg [.v (.string e.id.a),.v (.int .i64 e.id.n),.v (.string e.parent.a),.v (.int .i64 e.parent.n),.v (.bool e.neg),.v (.string e.num),.v (.string e.den),.v (.string e.value)])=encIT (aput m e.id ⟨e.id,e.parent,plc e,e.value⟩):=mp_IT m e.id ⟨e.id,e.parent,plc e,e.value⟩
        cases hP:alook m e.parent with
        | some s1 =>
          rw [hP] at mP
          have hPs:True:=trivial
          have hp:parB m e=true:=by unfold parB; rw [hP]; rfl
          by_cases k1:e.kind=1
          · cases hI:alook m e.id with
            | some s0 =>
              have hs:stepM m e=m:=by unfold stepM; rw [if_pos k1,hI]; simp
              rw [hI] at mI
              simp (implicitDefEqProofs:=false) (disch:=omega) [gz,hlt,wrap64,nth_map,het,erow_x,GM,trw,keyOf,mkP,cfP,mP,mkI,cfI,mkN,cfN,PV.toV,toPV,toDs,toD,fillC,splice,Nat.add_assoc,hPs,k1,mI]
              repeat' (with_reducible apply And.intro)
              all_goals first | omega | kernel_rfl | exact fun _ _=>rfl | skip
              subst hJ
              refine wk_pre [0] [5,31,32,33] hw rfl ⟨es.length-(i+1),by omega,i+1,by omega,rfl,?_⟩
              rw [hnx,hs]
              simp [phiP,phi,O.ren,C.ren]
            | none =>
              rw [hI] at mI
              have hs:stepM m e=aput m e.id ⟨e.id,e.parent,plc e,e.value⟩:=by unfold stepM; rw [if_pos k1,hI,hp]; simp
              simp (implicitDefEqProofs:=false) (disch:=omega) [gz,hlt,wrap64,nth_map,het,erow_x,GM,trw,keyOf,mkP,cfP,mP,mkI,cfI,mkN,cfN,PV.toV,toPV,toDs,toD,fillC,splice,Nat.add_assoc,hPs,k1,mI,m3]
              repeat' (with_reducible apply And.intro)
              all_goals first | omega | kernel_rfl | exact fun _ _=>rfl | skip
              subst hJ
              refine wk_pre [0] [5,31,32,33] hw rfl ⟨es.length-(i+1),by omega,i+1,by omega,rfl,?_⟩
              rw [hnx,hs]
              simp [phiP,phi,O.ren,C.ren]
          · by_cases k2:e.kind=2
            · cases hN:alook m e.node with
              | none =>
                have hs:stepM m e=m:=by unfold stepM; rw [if_neg k1,if_pos k2,hN]
                rw [hN] at mN
                simp (implicitDefEqProofs:=false) (disch:=omega) [gz,hlt,wrap64,nth_map,het,erow_x,GM,trw,keyOf,mkP,cfP,mP,mkI,cfI,mkN,cfN,PV.toV,toPV,toDs,toD,fillC,splice,Nat.add_assoc,hPs,k1,k2,mN]
                repeat' (with_reducible apply And.intro)
                all_goals first | omega | kernel_rfl | exact fun _ _=>rfl | skip
                subst hJ
                refine wk_pre [0] [5,31,32,33] hw rfl ⟨es.length-(i+1),by omega,i+1,by omega,rfl,?_⟩
                rw [hnx,hs]
                simp [phiP,phi,O.ren,C.ren]
              | some s =>
                rw [hN] at mN
                have m4:mput (encIT m) (keyI e.node) (.agg [.v (.string s.node.a),.v (.int .i64 s.node.n),.v (.string e.parent.a),.v (.int .i64 e.parent.n),.v (.bool e.neg),.v (.string e.num),.v (.string e.den),.v (.string s.kind)])=encIT (aput m e.node ⟨s.node,e.parent,plc e,s.kind⟩):=mp_IT m e.node ⟨s.node,e.parent,plc e,s.kind⟩
                simp (implicitDefEqProofs:=false) (disch:=omega) [gz,hlt,wrap64,nth_map,het,erow_x,GM,trw,keyOf,mkP,cfP,mP,mkI,cfI,mkN,cfN,PV.toV,toPV,toDs,toD,fillC,splice,Nat.add_assoc,hPs,k1,k2,mN]
                refine ((k2038 m e.parent e.node _ H.length (by rw [app_get0]; rfl)).gm).mono ?_
                rintro t H' ⟨rfl,rfl⟩
                cases hUv:undF m e.parent e.node
                · have hs:stepM m e=aput m e.node ⟨s.node,e.parent,plc e,s.kind⟩:=by unfold stepM; rw [if_neg k1,if_pos k2,hN]; simp [hp,hUv]
                  simp (implicitDefEqProofs:=false) (disch:=omega) [gz,callK,hlt,wrap64,nth_map,het,erow_x,GM,trw,keyOf,mkP,cfP,mP,mkI,cfI,mkN,cfN,PV.toV,toPV,toDs,toD,fillC,splice,Nat.add_assoc,hPs,k1,k2,mN,m4]
                  repeat' (with_reducible apply And.intro)
                  all_goals first | omega | kernel_rfl | exact fun _ _=>rfl | skip
                  subst hJ
                  refine wk_pre [0] [5,31,32,33] hw rfl ⟨es.length-(i+1),by omega,i+1,by omega,rfl,?_⟩
                  rw [hnx,hs]
                  simp [phiP,phi,O.ren,C.ren]
                · have hs:stepM m e=m:=by unfold stepM; rw [if_neg k1,if_pos k2,hN]; simp [hp,hUv]
                  simp (implicitDefEqProofs:=false) (disch:=omega) [gz,callK,hlt,wrap64,nth_map,het,erow_x,GM,trw,keyOf,mkP,cfP,mP,mkI,cfI,mkN,cfN,PV.toV,toPV,toDs,toD,fillC,splice,Nat.add_assoc,hPs,k1,k2,mN]
                  repeat' (with_reducible apply And.intro)
                  all_goals first | omega | kernel_rfl | exact fun _ _=>rfl | skip
                  subst hJ
                  refine wk_pre [0] [5,31,32,33] hw rfl ⟨es.length-(i+1),by omega,i+1,by omega,rfl,?_⟩
                  rw [hnx,hs]
                  simp [phiP,phi,O.ren,C.ren]
            · have hs:stepM m e=m:=by unfold stepM; rw [if_neg k1,if_neg k2]
              simp (implicitDefEqProofs:=false) (disch:=omega) [gz,hlt,wrap64,nth_map,het,erow_x,GM,trw,keyOf,mkP,cfP,mP,mkI,cfI,mkN,cfN,PV.toV,toPV,toDs,toD,fillC,splice,Nat.add_assoc,hPs,k1,k2]
              repeat' (with_reducible apply And.intro)
              all_goals first | omega | kernel_rfl | exact fun _ _=>rfl | skip
              subst hJ
              refine wk_pre [0] [5,31,32,33] hw rfl ⟨es.length-(i+1),by omega,i+1,by omega,rfl,?_⟩
              rw [hnx,hs]
              simp [phiP,phi,O.ren,C.ren]
        | none =>
          rw [hP] at mP
          cases hB1:decide (e.parent=rootI)
          · rw [hB1] at hroot
            have hp:parB m e=false:=by unfold parB; rw [hP,hB1]; rfl
            by_cases k1:e.kind=1
            · cases hI:alook m e.id with
              | some s0 =>
                have hs:stepM m e=m:=by unfold stepM; rw [if_pos k1,hI]; simp
                rw [hI] at mI
                simp (implicitDefEqProofs:=false) (disch:=omega) [gz,hlt,wrap64,nth_map,het,erow_x,GM,trw,keyOf,mkP,cfP,mP,mkI,cfI,mkN,cfN,PV.toV,toPV,toDs,toD,fillC,splice,Nat.add_assoc,hroot,k1,mI]
                repeat' (with_reducible apply And.intro)
                all_goals first | omega | kernel_rfl | exact fun _ _=>rfl | skip
                subst hJ
                refine wk_pre [0] [5,31,32,33] hw rfl ⟨es.length-(i+1),by omega,i+1,by omega,rfl,?_⟩
                rw [hnx,hs]
                simp [phiP,phi,O.ren,C.ren]
              | none =>
                rw [hI] at mI
                have hs:stepM m e=m:=by unfold stepM; rw [if_pos k1,hI,hp]; simp
                simp (implicitDefEqProofs:=false) (disch:=omega) [gz,hlt,wrap64,nth_map,het,erow_x,GM,trw,keyOf,mkP,cfP,mP,mkI,cfI,mkN,cfN,PV.toV,toPV,toDs,toD,fillC,splice,Nat.add_assoc,hroot,k1,mI]
                repeat' (with_reducible apply And.intro)
                all_goals first | omega | kernel_rfl | exact fun _ _=>rfl | skip
                subst hJ
                refine wk_pre [0] [5,31,32,33] hw rfl ⟨es.length-(i+1),by omega,i+1,by omega,rfl,?_⟩
                rw [hnx,hs]
                simp [phiP,phi,O.ren,C.ren]
            · by_cases k2:e.kind=2
              · cases hN:alook m e.node with
                | none =>
                  have hs:stepM m e=m:=by unfold stepM; rw [if_neg k1,if_pos k2,hN]
                  rw [hN] at mN
                  simp (implicitDefEqProofs:=false) (disch:=omega) [gz,hlt,wrap64,nth_map,het,erow_x,GM,trw,keyOf,mkP,cfP,mP,mkI,cfI,mkN,cfN,PV.toV,toPV,toDs,toD,fillC,splice,Nat.add_assoc,hroot,k1,k2,mN]
                  repeat' (with_reducible apply And.intro)
                  all_goals first | omega | kernel_rfl | exact fun _ _=>rfl | skip
                  subst hJ
                  refine wk_pre [0] [5,31,32,33] hw rfl ⟨es.length-(i+1),by omega,i+1,by omega,rfl,?_⟩
                  rw [hnx,hs]
                  simp [phiP,phi,O.ren,C.ren]
                | some s =>
                  rw [hN] at mN
                  have m4:mput (encIT m) (keyI e.node) (.agg [.v (.string s.node.a),.v (.int .i64 s.node.n),.v (.string e.parent.a),.v (.int .i64 e.parent.n),.v (.bool e.neg),.v (.string e.num),.v (.string e.den),.v (.string s.kind)])=encIT (aput m e.node ⟨s.node,e.parent,plc e,s.kind⟩):=mp_IT m e.node ⟨s.node,e.parent,plc e,s.kind⟩
                  cases hB2v:decide (e.parent=binI0)
                  · rw [hB2v] at hbin
                    have hs:stepM m e=m:=by unfold stepM; rw [if_neg k1,if_pos k2,hN]; simp [hp,hB2v]
                    simp (implicitDefEqProofs:=false) (disch:=omega) [gz,hlt,wrap64,nth_map,het,erow_x,GM,trw,keyOf,mkP,cfP,mP,mkI,cfI,mkN,cfN,PV.toV,toPV,toDs,toD,fillC,splice,Nat.add_assoc,hroot,hbin,k1,k2,mN]
                    repeat' (with_reducible apply And.intro)
                    all_goals first | omega | kernel_rfl | exact fun _ _=>rfl | skip
                    subst hJ
                    refine wk_pre [0] [5,31,32,33] hw rfl ⟨es.length-(i+1),by omega,i+1,by omega,rfl,?_⟩
                    rw [hnx,hs]
                    simp [phiP,phi,O.ren,C.ren]
                  · rw [hB2v] at hbin
                    simp (implicitDefEqProofs:=false) (disch:=omega) [gz,hlt,wrap64,nth_map,het,erow_x,GM,trw,keyOf,mkP,cfP,mP,mkI,cfI,mkN,cfN,PV.toV,toPV,toDs,toD,fillC,splice,Nat.add_assoc,hroot,hbin,k1,k2,mN]
                    refine ((k2038 m e.parent e.node _ H.length (by rw [app_get0]; rfl)).gm).mono ?_
                    rintro t H' ⟨rfl,rfl⟩
                    cases hUv:undF m e.parent e.node
                    · have hs:stepM m e=aput m e.node ⟨s.node,e.parent,plc e,s.kind⟩:=by unfold stepM; rw [if_neg k1,if_pos k2,hN]; simp [hp,hUv,hB2v]
                      simp (implicitDefEqProofs:=false) (disch:=omega) [gz,callK,hlt,wrap64,nth_map,het,erow_x,GM,trw,keyOf,mkP,cfP,mP,mkI,cfI,mkN,cfN,PV.toV,toPV,toDs,toD,fillC,splice,Nat.add_assoc,hroot,hbin,k1,k2,mN,m4]
                      repeat' (with_reducible apply And.intro)
                      all_goals first | omega | kernel_rfl | exact fun _ _=>rfl | skip
                      subst hJ
                      refine wk_pre [0] [5,31,32,33] hw rfl ⟨es.length-(i+1),by omega,i+1,by omega,rfl,?_⟩
                      rw [hnx,hs]
                      simp [phiP,phi,O.ren,C.ren]
                    · have hs:stepM m e=m:=by unfold stepM; rw [if_neg k1,if_pos k2,hN]; simp [hp,hUv,hB2v]
                      simp (implicitDefEqProofs:=false) (disch:=omega) [gz,callK,hlt,wrap64,nth_map,het,erow_x,GM,trw,keyOf,mkP,cfP,mP,mkI,cfI,mkN,cfN,PV.toV,toPV,toDs,toD,fillC,splice,Nat.add_assoc,hroot,hbin,k1,k2,mN]
                      repeat' (with_reducible apply And.intro)
                      all_goals first | omega | kernel_rfl | exact fun _ _=>rfl | skip
                      subst hJ
                      refine wk_pre [0] [5,31,32,33] hw rfl ⟨es.length-(i+1),by omega,i+1,by omega,rfl,?_⟩
                      rw [hnx,hs]
                      simp [phiP,phi,O.ren,C.ren]
              · have hs:stepM m e=m:=by unfold stepM; rw [if_neg k1,if_neg k2]
                simp (implicitDefEqProofs:=false) (disch:=omega) [gz,hlt,wrap64,nth_map,het,erow_x,GM,trw,keyOf,mkP,cfP,mP,mkI,cfI,mkN,cfN,PV.toV,toPV,toDs,toD,fillC,splice,Nat.add_assoc,hroot,k1,k2]
                repeat' (with_reducible apply And.intro)
                all_goals first | omega | kernel_rfl | exact fun _ _=>rfl | skip
                subst hJ
                refine wk_pre [0] [5,31,32,33] hw rfl ⟨es.length-(i+1),by omega,i+1,by omega,rfl,?_⟩
                rw [hnx,hs]
                simp [phiP,phi,O.ren,C.ren]
          · rw [hB1] at hroot
            have hp:parB m e=true:=by unfold parB; rw [hP,hB1]; rfl
            by_cases k1:e.kind=1
            · cases hI:alook m e.id with
              | some s0 =>
                have hs:stepM m e=m:=by unfold stepM; rw [if_pos k1,hI]; simp
                rw [hI] at mI
                simp (implicitDefEqProofs:=false) (disch:=omega) [gz,hlt,wrap64,nth_map,het,erow_x,GM,trw,keyOf,mkP,cfP,mP,mkI,cfI,mkN,cfN,PV.toV,toPV,toDs,toD,fillC,splice,Nat.add_assoc,hroot,k1,mI]
                repeat' (with_reducible apply And.intro)
                all_goals first | omega | kernel_rfl | exact fun _ _=>rfl | skip
                subst hJ
                refine wk_pre [0] [5,31,32,33] hw rfl ⟨es.length-(i+1),by omega,i+1,by omega,rfl,?_⟩
                rw [hnx,hs]
                simp [phiP,phi,O.ren,C.ren]
              | none =>
                rw [hI] at mI
                have hs:stepM m e=aput m e.id ⟨e.id,e.parent,plc e,e.value⟩:=by unfold stepM; rw [if_pos k1,hI,hp]; simp
                simp (implicitDefEqProofs:=false) (disch:=omega) [gz,hlt,wrap64,nth_map,het,erow_x,GM,trw,keyOf,mkP,cfP,mP,mkI,cfI,mkN,cfN,PV.toV,toPV,toDs,toD,fillC,splice,Nat.add_assoc,hroot,k1,mI,m3]
                repeat' (with_reducible apply And.intro)
                all_goals first | omega | kernel_rfl | exact fun _ _=>rfl | skip
                subst hJ
                refine wk_pre [0] [5,31,32,33] hw rfl ⟨es.length-(i+1),by omega,i+1,by omega,rfl,?_⟩
                rw [hnx,hs]
                simp [phiP,phi,O.ren,C.ren]
            · by_cases k2:e.kind=2
              · cases hN:alook m e.node with
                | none =>
                  have hs:stepM m e=m:=by unfold stepM; rw [if_neg k1,if_pos k2,hN]
                  rw [hN] at mN
                  simp (implicitDefEqProofs:=false) (disch:=omega) [gz,hlt,wrap64,nth_map,het,erow_x,GM,trw,keyOf,mkP,cfP,mP,mkI,cfI,mkN,cfN,PV.toV,toPV,toDs,toD,fillC,splice,Nat.add_assoc,hroot,k1,k2,mN]
                  repeat' (with_reducible apply And.intro)
                  all_goals first | omega | kernel_rfl | exact fun _ _=>rfl | skip
                  subst hJ
                  refine wk_pre [0] [5,31,32,33] hw rfl ⟨es.length-(i+1),by omega,i+1,by omega,rfl,?_⟩
                  rw [hnx,hs]
                  simp [phiP,phi,O.ren,C.ren]
                | some s =>
                  rw [hN] at mN
                  have m4:mput (encIT m) (keyI e.node) (.agg [.v (.string s.node.a),.v (.int .i64 s.node.n),.v (.string e.parent.a),.v (.int .i64 e.parent.n),.v (.bool e.neg),.v (.string e.num),.v (.string e.den),.v (.string s.kind)])=encIT (aput m e.node ⟨s.node,e.parent,plc e,s.kind⟩):=mp_IT m e.node ⟨s.node,e.parent,plc e,s.kind⟩
                  simp (implicitDefEqProofs:=false) (disch:=omega) [gz,hlt,wrap64,nth_map,het,erow_x,GM,trw,keyOf,mkP,cfP,mP,mkI,cfI,mkN,cfN,PV.toV,toPV,toDs,toD,fillC,splice,Nat.add_assoc,hroot,k1,k2,mN]
                  refine ((k2038 m e.parent e.node _ H.length (by rw [app_get0]; rfl)).gm).mono ?_
                  rintro t H' ⟨rfl,rfl⟩
                  cases hUv:undF m e.parent e.node
                  · have hs:stepM m e=aput m e.node ⟨s.node,e.parent,plc e,s.kind⟩:=by unfold stepM; rw [if_neg k1,if_pos k2,hN]; simp [hp,hUv]
                    simp (implicitDefEqProofs:=false) (disch:=omega) [gz,callK,hlt,wrap64,nth_map,het,erow_x,GM,trw,keyOf,mkP,cfP,mP,mkI,cfI,mkN,cfN,PV.toV,toPV,toDs,toD,fillC,splice,Nat.add_assoc,hroot,k1,k2,mN,m4]
                    repeat' (with_reducible apply And.intro)
                    all_goals first | omega | kernel_rfl | exact fun _ _=>rfl | skip
                    subst hJ
                    refine wk_pre [0] [5,31,32,33] hw rfl ⟨es.length-(i+1),by omega,i+1,by omega,rfl,?_⟩
                    rw [hnx,hs]
                    simp [phiP,phi,O.ren,C.ren]
                  · have hs:stepM m e=m:=by unfold stepM; rw [if_neg k1,if_pos k2,hN]; simp [hp,hUv]
                    simp (implicitDefEqProofs:=false) (disch:=omega) [gz,callK,hlt,wrap64,nth_map,het,erow_x,GM,trw,keyOf,mkP,cfP,mP,mkI,cfI,mkN,cfN,PV.toV,toPV,toDs,toD,fillC,splice,Nat.add_assoc,hroot,k1,k2,mN]
                    repeat' (with_reducible apply And.intro)
                    all_goals first | omega | kernel_rfl | exact fun _ _=>rfl | skip
                    subst hJ
                    refine wk_pre [0] [5,31,32,33] hw rfl ⟨es.length-(i+1),by omega,i+1,by omega,rfl,?_⟩
                    rw [hnx,hs]
                    simp [phiP,phi,O.ren,C.ren]
              · have hs:stepM m e=m:=by unfold stepM; rw [if_neg k1,if_neg k2]
                simp (implicitDefEqProofs:=false) (disch:=omega) [gz,hlt,wrap64,nth_map,het,erow_x,GM,trw,keyOf,mkP,cfP,mP,mkI,cfI,mkN,cfN,PV.toV,toPV,toDs,toD,fillC,splice,Nat.add_assoc,hroot,k1,k2]
                repeat' (with_reducible apply And.intro)
                all_goals first | omega | kernel_rfl | exact fun _ _=>rfl | skip
                subst hJ
                refine wk_pre [0] [5,31,32,33] hw rfl ⟨es.length-(i+1),by omega,i+1,by omega,rfl,?_⟩
                rw [hnx,hs]
                simp [phiP,phi,O.ren,C.ren]
      · have:i=es.length:=by omega
        subst this
        rw [List.take_length]
        simp (implicitDefEqProofs:=false) (disch:=omega) [gz,hlt]
        subst hL
        exact at_mk (by simp) rfl
    · rintro _ ⟨sl,rfl⟩
      have hrl:=runM_len es m0
      have hokm:=runM_ok hok0 es
      obtain ⟨m,hm⟩:∃ m,m=runM m0 es:=⟨_,rfl⟩
      rw [← hm] at hrl hokm ⊢
      have hel:(encIT m).length=m.length:=by simp [encM]
      have hnd:((m.map Prod.snd).map TN.node).Nodup:=by
        have:(m.map Prod.snd).map TN.node=m.map Prod.fst:=by
          rw [List.map_map]
          exact List.map_congr_left fun p hp=>hokm.key p hp
        rw [this]; exact hokm.nd
      simp (implicitDefEqProofs:=false) (disch:=omega) [gz,b2011_4,b2011_5,wrap64,hel,rngW,fillC,splice,Nat.add_assoc]
      repeat' (with_reducible apply And.intro)
      all_goals first | omega | kernel_rfl | exact fun _ _=>rfl | skip
      refine loopE (fun k st=>∃ (acc:List TN) (cur:Option (Value×PV)) (left:Spots),k=left.length∧(acc ++ left.map Prod.snd).Perm (m.map Prod.snd) ∧
          st=⟨ofL [(16,.v (.c (.os H.length 8 0 acc.length))),(122,.v (.c (.ptr (H.length+1) 0)))],H ++ [.row 8 (acc.map TN.row),.iter KI cur (encIT left)]⟩)
        (fun st=>∃ (acc:List TN) (cur:Option (Value×PV)),acc.Perm (m.map Prod.snd)∧AtS [(16,.v (.c (.os H.length 8 0 acc.length)))] (H ++ [.row 8 (acc.map TN.row),.iter KI cur []]) st) ?_ ?_ ?_
      · refine wk_pre [1,2] [16,122] hw rfl ⟨_,[],none,m,rfl,by simp,?_⟩
        have n1:¬ H.length+1<H.length:=by omega
        have n2:¬ H.length+2<H.length:=by omega
        simp [phiP,phi,O.ren,C.ren,n1,n2]
      · rintro J L hJ hL k st ⟨acc,cur,left,rfl,hp,rfl⟩
        have hal:acc.length≤m.length:=by
          have:=hp.length_eq
          simp at this; omega
        simp (implicitDefEqProofs:=false) (disch:=omega) [gz,nxtW,entW]
        refine ⟨fun h0=>?_,fun i ky pv hi=>?_⟩
        · have h0':left=[]:=by
            first
              | exact h0
              | (cases left with
                 | nil=>rfl
                 | cons q l'=>simp [encM] at h0)
          subst h0'
          subst hL
          refine ⟨acc,cur,by simpa using hp,?_⟩
          exact at_mk (by simp) (by simp [encM])
        · obtain ⟨q,hq,hq2⟩:∃ q,left[i]? = some q∧(keyI q.1,PVo.agg q.2.row)=(ky,pv):=by
            rw [show encIT left=left.map fun p=>(keyI p.1,PVo.agg p.2.row) from rfl,List.getElem?_map] at hi
            cases hx:left[i]? with
            | none=>rw [hx] at hi; cases hi
            | some q=>rw [hx] at hi; simp at hi; exact ⟨q,rfl,by rw [← hi.1,← hi.2]⟩
          injection hq2 with e1 e2
          subst e1; subst e2
          obtain ⟨x,t⟩:=q
          have her:(encIT left).eraseIdx i=encIT (left.eraseIdx i):=map_erase _ _ _
          have hpe:=perm_erase hq
          have hlen:(left.eraseIdx i).length+1=left.length:=by
            have:=hpe.length_eq
            simp at this; omega
          have hp2:((acc ++ [t]) ++ (left.eraseIdx i).map Prod.snd).Perm (m.map Prod.snd):=by
            refine List.Perm.trans ?_ hp
            rw [List.append_assoc]
            exact List.Perm.append_left acc (hpe.map Prod.snd).symm
          have hal2:acc.length+1≤m.length:=by
            have:=hp2.length_eq
            simp at this; omega
          have hb:(acc.length+1)*104≤140737488355328:=by omega
          have tA:(acc.map TN.row).take acc.length=acc.map TN.row:=List.take_of_length_le (by simp)
          simp (implicitDefEqProofs:=false) (disch:=omega) [gz,her,trw,PV.toV,fillC,fillR,splice,hb,tA,Nat.add_assoc]
          repeat' (with_reducible apply And.intro)
          all_goals first | omega | kernel_rfl | exact fun _ _=>rfl | skip
          subst hJ
          have n1:¬ H.length+1<H.length:=by omega
          have n4:¬ H.length+4<H.length:=by omega
          refine wk_pre [4,1] [16,122] hw rfl ⟨_,by omega,acc ++ [t],some (keyI x,.agg t.row),left.eraseIdx i,rfl,hp2,?_⟩
          simp [phiP,phi,O.ren,C.ren,n1,n4,trw]
      · rintro _ ⟨acc,cur,hperm,sl,rfl⟩
        have hal:acc.length=m.length:=by
          have:=hperm.length_eq
          simpa using this
        have hnd2:(acc.map TN.node).Nodup:=(hperm.map TN.node).nodup_iff.2 hnd
        simp (implicitDefEqProofs:=false) (disch:=omega) [gz,b2011_6]
        refine ((kSortF acc (by omega) hnd2 _ H.length (by rw [app_get0]; rfl)).gm).mono ?_
        rintro t H' ⟨rfl,rfl⟩
        simp (implicitDefEqProofs:=false) (disch:=omega) [gz,callK,b2011_7,b2011_8,fillC,splice]
        refine fin_tell (r:=H.length) hw (Nat.le_refl _) (by rw [app_get0]; rfl) ?_ ⟨?_,rfl⟩
        · rw [List.length_map,(ssort_perm cmpN' acc).length_eq]
        · rw [sort_unique hperm hnd2]
noncomputable def x2011:XE:=mkX false (fun (p:List TN×List Edit)=>[.c (.sl (p.1.map TN.row)),.c (.sl (p.2.map Edit.row))]) (fun p=>p.1.length<100000000000∧p.2.length<100000000000) (fun p=>.v (.c (.d (.sl ((appF p.1 p.2).map TN.row)))))
theorem kx2011:Contract Tryz.prog (GM 0) 11 x2011:=mkX_data fun p h H=>k2011 p.1 p.2 h.1 h.2 H
theorem injTE (a b:List TN×List Edit) (h:[PVo.c (D.sl (a.1.map TN.row)),PVo.c (D.sl (a.2.map Edit.row))]=[PVo.c (D.sl (b.1.map TN.row)),PVo.c (D.sl (b.2.map Edit.row))]):a=b:=by
 simp only [List.cons.injEq,PVo.c.injEq,D.sl.injEq,and_true] at h
 exact Prod.ext (tn_inj h.1) (rows_inj h.2)
theorem xg2011 (l:List TN) (es:List Edit) (h1:l.length<100000000000) (h2:es.length<100000000000):x2011.g [.c (.sl (l.map TN.row)),.c (.sl (es.map Edit.row))]=some (True,.v (.c (.d (.sl ((appF l es).map TN.row))))):=mkX_g injTE (l,es) ⟨h1,h2⟩
theorem injTIN (a b:List TN×Id×Int) (h:[PVo.c (D.sl (a.1.map TN.row)),PVo.agg a.2.1.row,PVo.c (D.v (.int .i64 a.2.2))]=[PVo.c (D.sl (b.1.map TN.row)),PVo.agg b.2.1.row,PVo.c (D.v (.int .i64 b.2.2))]):a=b:=by
 simp only [List.cons.injEq,PVo.c.injEq,D.sl.injEq,PVo.agg.injEq,D.v.injEq,Value.int.injEq,true_and,and_true] at h
 exact Prod.ext (tn_inj h.1) (Prod.ext (Id.row_inj h.2.1) h.2.2)
noncomputable def x2022 (n:Nat):XE:=mkX true (fun (p:List TN×Id×Int)=>[.c (.sl (p.1.map TN.row)),.agg p.2.1.row,.c (.v (.int .i64 p.2.2))]) (fun p=>okK n p.1 p.2.1 p.2.2∧(-9223372036854775808≤p.2.2∧p.2.2≤9223372036854775807)) (fun p=>.v (ratV (keyF n p.1 p.2.1 p.2.2)))
theorem kx2022 (n:Nat):Contract Tryz.prog G0 22 (x2022 n):=mkX_scal (fun _=>rfl) fun p h=>k2022 n p.1 p.2.1 p.2.2 h.1 h.2
theorem xg2022 (n:Nat) (l:List TN) (b:Id) (at':Int) (h:okK n l b at') (hr:-9223372036854775808≤at'∧at'≤9223372036854775807):(x2022 n).g [.c (.sl (l.map TN.row)),.agg b.row,.c (.v (.int .i64 at'))]=some (True,.v (ratV (keyF n l b at'))):=mkX_g injTIN (l,b,at') ⟨h,hr⟩
def eA:List Edit:=[⟨⟨⟨#[97]⟩,1⟩,1,0,[],1,⟨⟨#[]⟩,0⟩,⟨⟨#[]⟩,0⟩,false,⟨#[]⟩,⟨#[]⟩,⟨#[]⟩,⟨#[103,114,111,117,112]⟩,⟨⟨#[]⟩,0⟩,⟨#[]⟩⟩,⟨⟨⟨#[97]⟩,2⟩,2,0,[⟨⟨#[97]⟩,1⟩],1,⟨⟨#[]⟩,0⟩,⟨⟨#[97]⟩,1⟩,false,⟨#[1]⟩,⟨#[]⟩,⟨#[]⟩,⟨#[112,97,114,97,109]⟩,⟨⟨#[]⟩,0⟩,⟨#[]⟩⟩,⟨⟨⟨#[97]⟩,3⟩,3,0,[⟨⟨#[97]⟩,2⟩],2,⟨⟨#[97]⟩,1⟩,⟨⟨#[97]⟩,2⟩,false,⟨#[]⟩,⟨#[]⟩,⟨#[]⟩,⟨#[]⟩,⟨⟨#[]⟩,0⟩,⟨#[]⟩⟩,⟨⟨⟨#[97]⟩,4⟩,4,0,[⟨⟨#[97]⟩,3⟩],1,⟨⟨#[]⟩,0⟩,⟨⟨#[97]⟩,1⟩,false,⟨#[]⟩,⟨#[]⟩,⟨#[]⟩,⟨#[112,97,114,97,109]⟩,⟨⟨#[]⟩,0⟩,⟨#[]⟩⟩]
def oA:Nv.Rt:=⟨false,⟨#[1]⟩,⟨#[]⟩⟩
def tA:Nv.Rt:=⟨false,⟨#[2]⟩,⟨#[]⟩⟩
def hA:Nv.Rt:=⟨false,⟨#[1]⟩,⟨#[2]⟩⟩
def gA:List TN:=[⟨⟨⟨#[97]⟩,1⟩,⟨⟨#[]⟩,0⟩,zR,⟨#[103,114,111,117,112]⟩⟩,⟨⟨⟨#[97]⟩,2⟩,⟨⟨#[97]⟩,1⟩,oA,⟨#[112,97,114,97,109]⟩⟩,⟨⟨⟨#[97]⟩,4⟩,⟨⟨#[97]⟩,1⟩,zR,⟨#[112,97,114,97,109]⟩⟩]
theorem gA_app:appF [] eA=gA:=by kernel_rfl
theorem gA_walk:walkF gA=[idA 1,idA 4,idA 2]:=by kernel_rfl
theorem gA_key:keyF 3 gA (idA 1) 1=hA:=by kernel_rfl
theorem oA_mk:Nv.mkI 1 1=oA:=by kernel_rfl
theorem tA_mk:Nv.mkI 2 1=tA:=by kernel_rfl
theorem hA_div:divQ oA tA=(hA,true):=by kernel_rfl
theorem okA {x:Nv.Rt} (h:(decide (x.num.size<100000000) && decide (x.den.size<100000000))=true):OkQ x:=by
 rw [Bool.and_eq_true,decide_eq_true_eq,decide_eq_true_eq] at h
 exact ⟨h.1,h.2⟩
noncomputable def okQb (x:Nv.Rt):Bool:=decide (x.num.size<100000000) && decide (x.den.size<100000000)
noncomputable def okSb:Nat→Nv.Rt→Nv.Rt→Bool→Bool
 | 0,_,_,_=>false
 | n+1,lo,hi,bd=>okQb lo && okQb hi && okQb (flR lo) && decide ((flR lo).den.size<90000000) && okQb (nxR lo) && (stopB lo hi bd ||
   (okQb (subR hi (flR lo)) && okQb (subR lo (flR lo)) && okSb n (divQ oneR (subR hi (flR lo))).1 (divQ oneR (subR lo (flR lo))).1 (divQ oneR (subR lo (flR lo))).2 &&
   okQb (simpF n (divQ oneR (subR hi (flR lo))).1 (divQ oneR (subR lo (flR lo))).1 (divQ oneR (subR lo (flR lo))).2) &&
   okQb (divQ oneR (simpF n (divQ oneR (subR hi (flR lo))).1 (divQ oneR (subR lo (flR lo))).1 (divQ oneR (subR lo (flR lo))).2)).1))
theorem okSb_ok:∀ (n:Nat) (lo hi:Nv.Rt) (bd:Bool),okSb n lo hi bd=true→okS n lo hi bd:=by
 intro n
 induction n with
 | zero=>intro lo hi bd h; simp [okSb] at h
 | succ n ih =>
  intro lo hi bd h
  simp only [okSb,Bool.and_eq_true,decide_eq_true_eq] at h
  obtain ⟨⟨⟨⟨⟨h1,h2⟩,h3⟩,h4⟩,h5⟩,h6⟩:=h
  refine ⟨okA h1,okA h2,okA h3,h4,okA h5,fun hs=>?_⟩
  rw [hs,Bool.false_or] at h6
  simp only [Bool.and_eq_true] at h6
  obtain ⟨⟨⟨⟨k1,k2⟩,k3⟩,k4⟩,k5⟩:=h6
  exact ⟨okA k1,okA k2,ih _ _ _ k3,okA k4,okA k5⟩
theorem okA_pl:∀ t∈gA,OkQ t.pl:=by
 intro t ht
 simp [gA] at ht
 rcases ht with rfl | rfl | rfl
 ·exact okA (by kernel_rfl)
 ·exact okA (by kernel_rfl)
 ·exact okA (by kernel_rfl)
theorem okA_key:okK 3 gA (idA 1) 1:=by
 refine ⟨okA_pl,by decide,fun _ _ _=>?_⟩
 have e1:(nth (sibF gA (idA 1)) ((1:Int).toNat-1)).pl=zR:=by kernel_rfl
 have e2:(nth (sibF gA (idA 1)) (1:Int).toNat).pl=oA:=by kernel_rfl
 rw [e1,e2]
 have q0:OkQ zR:=okA (by kernel_rfl)
 have q1:OkQ oA:=okA (by kernel_rfl)
 refine ⟨q0,q1,fun _=>⟨fun h=>absurd h (by decide +kernel),fun _=>?_⟩⟩
 exact okSb_ok _ _ _ _ (by kernel_rfl)
theorem k2010:ACalls Tryz.prog (GM 0) 10 [] [] fun t H=>t = .bool true∧H=[]:=by
 have s1:x2026.sc=true:=rfl
 have s2:x2028.sc=true:=rfl
 have s3:x2027.sc=true:=rfl
 have s4:x2015.sc=false:=rfl
 have s5:x2014.sc=true:=rfl
 have s6:(x2022 3).sc=true:=rfl
 have s7:x2011.sc=false:=rfl
 have g1:=xg2026
 have i1:∀ n,(idA n).row=[.v (.string ⟨#[97]⟩),.v (.int .i64 n)]:=fun _=>rfl
 have g2a:x2028.g [.c (.v (.int .i64 1))]=some (True,.v (ratV oA)):=(xg2028 1 (by decide)).trans (by rw [show Nv.mkI ((1:Nat):Int) 1=oA from oA_mk])
 have g2b:x2028.g [.c (.v (.int .i64 2))]=some (True,.v (ratV tA)):=(xg2028 2 (by decide)).trans (by rw [show Nv.mkI ((2:Nat):Int) 1=tA from tA_mk])
 have g3:x2027.g [ratP oA,ratP tA]=some (True,.tup [ratV hA,.c (.d (.v (.bool true)))]):=(xgDiv oA tA (okA (by kernel_rfl)) (okA (by kernel_rfl))).trans (by rw [hA_div])
 have g4:=(xg2015 gA okA_pl (by decide)).trans (by rw [gA_walk])
 have g5:x2014.g [.c (.sl ([idA 1,idA 4,idA 2].map Id.row)),.c (.sl ([idA 1,idA 4,idA 2].map Id.row))]=some (True,.bool true):=(xg2014 [idA 1,idA 4,idA 2] [idA 1,idA 4,idA 2] (by decide)).trans (by unfold samI; simp)
 have g6:=(xg2022 3 gA (idA 1) 1 okA_key (by decide)).trans (by rw [gA_key])
 have g7:=(xg2011 [] eA (by decide) (by decide)).trans (by rw [gA_app])
 have hea:eA.map Edit.row=[[.v (.string ⟨#[97]⟩),.v (.int .i64 1),.v (.int .i64 1),.v (.int .i64 0),.sl [],.v (.int .i64 1),.v (.string ⟨#[]⟩),.v (.int .i64 0),.v (.string ⟨#[]⟩),.v (.int .i64 0),.v (.bool false),.v (.string ⟨#[]⟩),.v (.string ⟨#[]⟩),.v (.string ⟨#[]⟩),.v (.string ⟨#[103,114,111,117,112]⟩),.v (.string ⟨#[]⟩),.v (.int .i64 0),.v (.string ⟨#[]⟩)],[.v (.string ⟨#[97]⟩),.v (.int .i64 2),.v (.int .i64 2),.v (.int .i64 0),.sl [[.v (.string ⟨#[97]⟩),.v (.int .i64 1)]],.v (.int .i64 1),.v (.string ⟨#[]⟩),.v (.int .i64 0),.v (.string ⟨#[97]⟩),.v (.int .i64 1),.v (.bool false),.v (.string ⟨#[1]⟩),.v (.string ⟨#[]⟩),.v (.string ⟨#[]⟩),.v (.string ⟨#[112,97,114,97,109]⟩),.v (.string ⟨#[]⟩),.v (.int .i64 0),.v (.string ⟨#[]⟩)],[.v (.string ⟨#[97]⟩),.v (.int .i64 3),.v (.int .i64 3),.v (.int .i64 0),.sl [[.v (.string ⟨#[97]⟩),.v (.int .i64 2)]],.v (.int .i64 2),.v (.string ⟨#[97]⟩),.v (.int .i64 1),.v (.string ⟨#[97]⟩),.v (.int .i64 2),.v (.bool false),.v (.string ⟨#[]⟩),.v (.string ⟨#[]⟩),.v (.string ⟨#[]⟩),.v (.string ⟨#[]⟩),.v (.string ⟨#[]⟩),.v (.int .i64 0),.v (.string ⟨#[]⟩)],[.v (.string ⟨#[97]⟩),.v (.int .i64 4),.v (.int .i64 4),.v (.int .i64 0),.sl [[.v (.string ⟨#[97]⟩),.v (.int .i64 3)]],.v (.int .i64 1),.v (.string ⟨#[]⟩),.v (.int .i64 0),.v (.string ⟨#[97]⟩),.v (.int .i64 1),.v (.bool false),.v (.string ⟨#[]⟩),.v (.string ⟨#[]⟩),.v (.string ⟨#[]⟩),.v (.string ⟨#[112,97,114,97,109]⟩),.v (.string ⟨#[]⟩),.v (.int .i64 0),.v (.string ⟨#[]⟩)]]:=rfl
 rw [hea] at g7
 have hgl:gA.length=3:=rfl
 rw [i1] at g6
 simp only [List.map_cons,List.map_nil,i1] at g4 g5 g7
 simp only [ratP,ratV,oA,tA,hA] at g2a g2b g3 g6
 have ce:cellsEq [.b,.s,.s] [.d (.v (.bool false)),.d (.v (.string ⟨#[1]⟩)),.d (.v (.string ⟨#[2]⟩))] [.d (.v (.bool false)),.d (.v (.string ⟨#[1]⟩)),.d (.v (.string ⟨#[2]⟩))]=some true:=by kernel_rfl
 obtain ⟨G,hG⟩:∃ G,G=gA:=⟨_,rfl⟩
 rw [← hG] at g4 g6 g7 hgl
 clear hG hea
 refine acallsX (X:=[(26,x2026),(28,x2028),(27,x2027),(15,x2015),(14,x2014),(22,x2022 3),(11,x2011)]) ⟨kx2026.gm,kx2028.gm,kx2027.gm,kx2015.gm,kx2014.gm,(kx2022 3).gm,kx2011,trivial⟩ tab hmix Tryz.func10 c2010 (by rfl) fun hw=>?_
 simp (implicitDefEqProofs:=false) (disch:=omega) [gz,ir2010,b2010,b2010_0,b2010_1,b2010_2,b2010_3,b2010_4,b2010_5,s1,s2,s3,s4,s5,s6,s7,g1,i1,g2a,g2b,g3,g4,g5,g6,g7,hgl,ce,ratV,ratP,oA,tA,hA,wrap64,fillC,fillR,splice,toPVs,toPV,toDs,toD,frzVs,osVs,Nat.add_assoc]
 repeat' (with_reducible apply And.intro)
 all_goals first | omega | kernel_rfl | exact fun _ _=>rfl | skip
 exact fin_junk (A:=[]) hw rfl trivial ⟨rfl,rfl⟩
noncomputable def x2010:XE:=mkX true (fun (_:Unit)=>[]) (fun _=>True) (fun _=>.bool true)
theorem kx2010:Contract Tryz.prog (GM 0) 10 x2010:=mkX_scal (fun _=>rfl) fun _ _=>k2010
theorem xg2010:x2010.g []=some (True,.bool true):=mkX_g (fun _ _ _=>rfl) () trivial
noncomputable def fw1 (e:Edit):Bool:=!bigB e && decide (chkE e=0)
noncomputable def fewT (l:List TN) (es:List Edit):Bool:=(decide (l.length≤12) && (decide (es.length≤20) && sptT l)) && (List.range es.length).all (fun i=>fw1 (nth es i))
structure OkT (l:List TN) (es:List Edit):Prop where
 ll:l.length<1152921504606846976
 n:∀ t∈l,OkN t
 el:es.length<1152921504606846976
 e:∀ e∈es,OkE e
 s:∀ e∈es,Siz e
theorem fewT_step {l:List TN} {es:List Edit} {i:Nat} (hi:i<es.length) (hc:fw1 (nth es i)=false):fewT l es=false:=by
 have:(List.range es.length).all (fun i=>fw1 (nth es i))=false:=by
  rw [List.all_eq_false]
  exact ⟨i,List.mem_range.2 hi,by simp [hc]⟩
 unfold fewT
 rw [this]; simp
theorem fewT_all {l:List TN} {es:List Edit} (h1:l.length≤12) (h2:es.length≤20) (h3:sptT l=true) (h:∀ j,j<es.length→fw1 (nth es j)=true):fewT l es=true:=by
 have:(List.range es.length).all (fun i=>fw1 (nth es i))=true:=by
  rw [List.all_eq_true]
  exact fun j hj=>h j (List.mem_range.1 hj)
 unfold fewT
 rw [this,h3]; simp [h1,h2]
theorem k2009 (l:List TN) (es:List Edit) (h:OkT l es):ACalls Tryz.prog G0 9 [.c (.d (.sl (l.map TN.row))),.c (.d (.sl (es.map Edit.row)))] [] fun t H=>t = .bool (fewT l es)∧H=[]:=by
 have s1:x2021.sc=true:=rfl
 have s2:x1028.sc=true:=rfl
 have s3:x1025.sc=true:=rfl
 have g1:=xg2021 l h.ll h.n
 have hl1:=h.ll
 have hl2:=h.el
 obtain ⟨S,hS⟩:∃ S,S=sptT l:=⟨_,rfl⟩
 obtain ⟨R,hR⟩:∃ R,R=fewT l es:=⟨_,rfl⟩
 rw [← hS] at g1
 rw [← hR]
 refine acallsX (X:=[(21,x2021),(36,x1028),(37,x1025)]) ⟨kx2021,kx1028,kx1025,trivial⟩ tab hmix Tryz.func9 c2009 (by rfl) fun hw=>?_
 by_cases h1:12<l.length
 ·have hv:R=false:=by rw [hR]; unfold fewT; rw [decide_eq_false (show ¬ l.length≤12 by omega)]; rfl
  have h1i:(12:Int)<(l.length:Int):=by omega
  simp (implicitDefEqProofs:=false) (disch:=omega) [gz,ir2009,b2009,h1,h1i,wrap64]
  exact fin_nil ⟨by rw [hv]; rfl,rfl⟩
 have h1i:¬ (12:Int)<(l.length:Int):=by omega
 by_cases h2:20<es.length
 ·have hv:R=false:=by rw [hR]; unfold fewT; rw [decide_eq_false (show ¬ es.length≤20 by omega)]; simp
  have h2i:(20:Int)<(es.length:Int):=by omega
  simp (implicitDefEqProofs:=false) (disch:=omega) [gz,ir2009,b2009,h1,h1i,h2,h2i,wrap64]
  exact fin_nil ⟨by rw [hv]; rfl,rfl⟩
 have h2i:¬ (20:Int)<(es.length:Int):=by omega
 cases hSv:S
 ·rw [hSv] at g1
  have hv:R=false:=by rw [hR]; unfold fewT; rw [← hS,hSv]; simp
  simp (implicitDefEqProofs:=false) (disch:=omega) [gz,ir2009,b2009,h1,h1i,h2,h2i,s1,g1,wrap64]
  exact fin_nil ⟨by rw [hv]; rfl,rfl⟩
 rw [hSv] at g1
 simp (implicitDefEqProofs:=false) (disch:=omega) [gz,ir2009,b2009,h1,h1i,h2,h2i,s1,g1,wrap64]
 refine loopE (fun k st=>∃ i,i≤es.length∧k=es.length-i∧(∀ j,j<i→fw1 (nth es j)=true) ∧
   st=⟨ofL [(1,.v (.c (.d (.sl (es.map Edit.row))))),(20,.int .i64 es.length),(21,.int .i64 i)],[]⟩)
  (fun st=>∀ j,j<es.length→fw1 (nth es j)=true) ?_ ?_ ?_
 ·refine wk_nil [] [1,20,21] rfl ⟨_,0,by omega,rfl,(fun j hj=>absurd hj (Nat.not_lt_zero j)),?_⟩
  simp
 ·rintro J M hJ hM k st ⟨i,hi,rfl,hb,rfl⟩
  by_cases hlt:i<es.length
  ·obtain ⟨e,ht⟩:∃ e,nth es i=e:=⟨_,rfl⟩
   have htm:e∈es:=by rw [← ht]; exact nth_mem hlt
   have g2:=xg1028 e (h.s e htm)
   have g3:=xg1025 e (h.e e htm)
   rw [erow_x] at g2 g3
   have hno:=fun (hc:fw1 (nth es i)=false)=>fewT_step (l:=l) hlt hc
   have hc1:fw1 (nth es i)=(!bigB e && decide (chkE e=0)):=by rw [ht]; rfl
   rw [← hR] at hno
   obtain ⟨B,hB⟩:∃ B,B=bigB e:=⟨_,rfl⟩
   obtain ⟨C,hC⟩:∃ C,C=chkE e:=⟨_,rfl⟩
   rw [← hB] at g2 hc1
   rw [← hC] at g3 hc1
   cases hBv:B
   ·rw [hBv] at g2 hc1
    simp only [Bool.false_eq_true,if_false] at g2
    by_cases hCv:C=0
    ·rw [hCv] at g3 hc1
     have hok:fw1 (nth es i)=true:=by rw [hc1]; rfl
     simp (implicitDefEqProofs:=false) (disch:=omega) [gz,hlt,wrap64,nth_map,ht,erow_x,s2,g2,s3,g3,fillC,splice]
     repeat' (with_reducible apply And.intro)
     all_goals first | omega | kernel_rfl | exact fun _ _=>rfl | skip
     subst hJ
     refine wk_nil [] [1,20,21] rfl ⟨es.length-(i+1),by omega,i+1,by omega,rfl,(fun j hj=>?_),?_⟩
     ·by_cases q:j=i
      ·rw [q]; exact hok
      ·exact hb j (by omega)
     ·simp
    ·have hv:=hno (by rw [hc1,decide_eq_false hCv]; rfl)
     simp (implicitDefEqProofs:=false) (disch:=omega) [gz,hlt,wrap64,nth_map,ht,erow_x,s2,g2,s3,g3,hCv,fillC,splice]
     repeat' (with_reducible apply And.intro)
     all_goals first | omega | kernel_rfl | exact fun _ _=>rfl | skip
     exact fin_nil ⟨by rw [hv]; rfl,rfl⟩
   ·rw [hBv] at g2 hc1
    simp only [if_true] at g2
    have hv:=hno (by rw [hc1]; rfl)
    simp (implicitDefEqProofs:=false) (disch:=omega) [gz,hlt,wrap64,nth_map,ht,erow_x,s2,g2,fillC,splice]
    repeat' (with_reducible apply And.intro)
    all_goals first | omega | kernel_rfl | exact fun _ _=>rfl | skip
    exact fin_nil ⟨by rw [hv]; rfl,rfl⟩
  ·have:i=es.length:=by omega
   subst this
   simp (implicitDefEqProofs:=false) (disch:=omega) [gz,hlt]
   subst hM
   exact hb
 ·intro st hb
  have hv:R=true:=by rw [hR]; exact fewT_all (by omega) (by omega) (by rw [← hS]; exact hSv) hb
  rw [hv]
  simp (implicitDefEqProofs:=false) (disch:=omega) [gz,wrap64]
  exact fin_nil ⟨rfl,rfl⟩
noncomputable def x2009:XE:=mkX true (fun (p:List TN×List Edit)=>[.c (.sl (p.1.map TN.row)),.c (.sl (p.2.map Edit.row))]) (fun p=>OkT p.1 p.2) (fun p=>.bool (fewT p.1 p.2))
theorem kx2009:Contract Tryz.prog G0 9 x2009:=mkX_scal (fun _=>rfl) fun p h=>k2009 p.1 p.2 h
theorem xg2009 (l:List TN) (es:List Edit) (h:OkT l es):x2009.g [.c (.sl (l.map TN.row)),.c (.sl (es.map Edit.row))]=some (True,.bool (fewT l es)):=mkX_g injTE (l,es) h
end Go.Aw.Try
namespace Go.Aw
open Go
inductive Sh where
 | i (k:IntKind)
 | b
 | s
 | sl (es:List Sh)
mutual
def okSh:Sh→D→Prop
 | .i k,d=>∃ n,d = .v (.int k n)∧(Lit.int k n).wf=true
 | .b,d=>∃ x,d = .v (.bool x)
 | .s,d=>∃ x,d = .v (.string x)
 | .sl es,d=>∃ xs,d = .sl xs∧∀ x∈xs,okShs es x
def okShs:List Sh→List D→Prop
 | [],l=>l=[]
 | e :: es,l=>∃ d r,l=d :: r∧okSh e d∧okShs es r
end
theorem okShs_len:∀ {es:List Sh} {l:List D},okShs es l→l.length=es.length
 | [],l,h=>by simp only [okShs] at h; subst h; rfl
 | e :: es,l,h=>by
  simp only [okShs] at h
  obtain ⟨d,r,rfl,_,h⟩:=h
  simp [okShs_len h]
theorem okShs_app:∀ {es es':List Sh} {l l':List D},okShs es l→okShs es' l'→okShs (es ++ es') (l ++ l')
 | [],es',l,l',h,h'=>by simp only [okShs] at h; subst h; exact h'
 | e :: es,es',l,l',h,h'=>by
  simp only [okShs] at h
  obtain ⟨d,r,rfl,h1,h⟩:=h
  simp only [List.cons_append,okShs]
  exact ⟨d,r ++ l',rfl,h1,okShs_app h h'⟩
section
variable (P:Program)
mutual
def shT:Nat→TypeId→Option (List Sh)
 | 0,_=>none
 | n+1,t=>match P.underlying t with
  | some .bool=>some [.b]
  | some (.int k)=>some [.i k]
  | some .string=>some [.s]
  | some (.slice e)=>match shT n e with
   | some es=>if P.cellsOf e=es.length∧0<es.length then some [.sl es] else none
   | none=>none
  | some (.struct fs)=>match shF n 0 fs.toList with
   | some es=>if P.cellsOf t=es.length then some es else none
   | none=>none
  | _=>none
def shF:Nat→Nat→List Field→Option (List Sh)
 | _,_,[]=>some []
 | 0,_,_=>none
 | n+1,run,f :: r=>if f.offset=run then match shT n f.type with
  | some es=>if P.cellsOf f.type=es.length then match shF n (run+es.length) r with
   | some l=>some (es ++ l)
   | none=>none else none
  | none=>none else none
end
end
section
variable {H:Type}
mutual
def datD:DataW H→List D
 | .lit (.int k n)=>[.v (.int k n)]
 | .lit (.bool b)=>[.v (.bool b)]
 | .lit (.string bs)=>[.v (.string ⟨bs.toArray⟩)]
 | .nil=>[.sl []]
 | .slice es _=>[.sl (datDs es)]
 | .agg ps=>datF ps
 | _=>[]
def datDs:List (DataW H)→List (List D)
 | []=>[]
 | d :: r=>datD d :: datDs r
def datF:List (DataW H)→List D
 | []=>[]
 | d :: r=>datD d ++ datF r
end
theorem datDs_len:∀ l:List (DataW H),(datDs l).length=l.length
 | []=>rfl
 | d :: r=>by simp [datDs,datDs_len r]
theorem datDs_get:∀ (l:List (DataW H)) (i:Nat),(datDs l)[i]? = (l[i]?).map datD
 | [],i=>by simp [datDs]
 | d :: r,0=>by simp [datDs]
 | d :: r,i+1=>by simp [datDs,datDs_get r i]
end
theorem mapM_some {α β:Type} {f:α→Option β}:∀ {l:List α} {r:List β},l.mapM f=some r→r.length=l.length∧∀ (i:Nat) x,l[i]? = some x→∃ y,r[i]? = some y∧f x=some y
 | [],r,h=>by simp at h; subst h; simp
 | a :: l,r,h=>by
  rw [List.mapM_cons] at h
  cases hf:f a with
  | none=>rw [hf] at h; cases h
  | some b =>
   rw [hf] at h
   cases hm:l.mapM f with
   | none=>rw [hm] at h; cases h
   | some r' =>
    rw [hm] at h
    have h:some (b :: r')=some r:=h
    injection h with h; subst h
    obtain ⟨h1,h2⟩:=mapM_some hm
    refine ⟨by simp [h1],fun i x hx=>?_⟩
    cases i with
    | zero=>simp at hx; subst hx; exact ⟨b,by simp,hf⟩
    | succ i=>simp at hx; obtain ⟨y,hy,hz⟩:=h2 i x hx; exact ⟨y,by simpa using hy,hz⟩
def Rd (w:World) (es:List Sh) (cs:List Value) (ds:List D):Prop :=
 okShs es ds∧cs.length=es.length∧∀ (i:Nat) d v,ds[i]? = some d→cs[i]? = some v→DRel (fun b=>b<w.heap.size) w d v
theorem Rd.one {w:World} {e:Sh} {v:Value} {d:D} (h:okSh e d) (hd:DRel (fun b=>b<w.heap.size) w d v):Rd w [e] [v] [d] :=
 ⟨by simp only [okShs]; exact ⟨d,[],rfl,h,rfl⟩,rfl,fun i d' v' h1 h2=>by
  cases i with
  | zero=>simp at h1 h2; subst h1; subst h2; exact hd
  | succ i=>simp at h1⟩
theorem Rd.app {w:World} {es es':List Sh} {cs cs':List Value} {ds ds':List D} (h:Rd w es cs ds) (k:Rd w es' cs' ds'):Rd w (es ++ es') (cs ++ cs') (ds ++ ds'):=by
 have l1:=okShs_len h.1
 refine ⟨okShs_app h.1 k.1,by simp [h.2.1,k.2.1],fun i d v h1 h2=>?_⟩
 rw [List.getElem?_append] at h1 h2
 rw [l1] at h1
 rw [h.2.1] at h2
 split at h1
 ·rename_i hi; rw [if_pos hi] at h2; exact h.2.2 i d v h1 h2
 ·rename_i hi; rw [if_neg hi] at h2; exact k.2.2 _ d v h1 h2
theorem cells_get {w:World} {a:Addr} {n:Nat} {cs:List Value} (h:w.cells? 0 a n=some cs):cs.length=n∧∀ (j:Nat) v,cs[j]? = some v→w.cell? (a.add j)=some v:=by
 unfold World.cells? at h
 rw [if_pos (Nat.zero_le _)] at h
 obtain ⟨h1,h2⟩:=mapM_some h
 rw [List.length_range] at h1
 refine ⟨h1,fun j v hv=>?_⟩
 have hj:j<n:=by
  have:=(List.getElem?_eq_some_iff.1 hv).1; omega
 obtain ⟨y,hy,hz⟩:=h2 j j (by simp [hj])
 rw [hv] at hy; injection hy with hy; subst hy
 exact hz
theorem cell_spot {w:World} {a:Addr} {v:Value} (h:w.cell? a=some v):a.spot=none∧a.block<w.heap.size:=by
 unfold World.cell? at h
 split at h
 ·rename_i c _ _ hb
  refine ⟨?_,(Array.getElem?_eq_some_iff.1 hb).1⟩
  cases hs:a.spot with
  | none=>rfl
  | some x=>rw [hs] at h; simp at h
 ·cases h
section
variable {H:Type} {enc:TypeId×Value→H} {P:Program} {w:World} {sp:Nat→Bool} {held:Bool}
theorem trod_fields {fuel:Nat} (ih:∀ (n:Nat) (t:TypeId) (es:List Sh) (cs:List Value) (d:DataW H) (ps:List MemPlace),shT P n t=some es→DataW.trod enc P w 0 sp held fuel t cs=some (d,ps)→Rd w es cs (datD d)) :
  ∀ (fs:List Field) (n run:Nat) (es:List Sh) (cs:List Value) (xs:List (DataW H×List MemPlace)),shF P n run fs=some es →
   fs.mapM (fun f=>DataW.trod enc P w 0 sp held fuel f.type ((cs.drop f.offset).take (P.cellsOf f.type)))=some xs→run+es.length≤cs.length→Rd w es ((cs.drop run).take es.length) (datF (xs.map (·.1)))
 | [],n,run,es,cs,xs,h,hm,hl=>by
  have:es=[]:=by cases n <;> · simp only [shF] at h; injection h with h; exact h.symm
  subst this
  simp at hm; subst hm
  exact ⟨by simp [datF,okShs],by simp,fun i d v h1=>by simp [datF] at h1⟩
 | f :: fs,0,run,es,cs,xs,h,hm,hl=>by simp [shF] at h
 | f :: fs,n+1,run,es,cs,xs,h,hm,hl=>by
  simp only [shF] at h
  split at h
  ·rename_i ho
   split at h
   ·rename_i es1 h1
    split at h
    ·rename_i hc
     split at h
     ·rename_i l h2
      injection h with h; subst h
      rw [List.mapM_cons] at hm
      cases hf:DataW.trod enc P w 0 sp held fuel f.type ((cs.drop f.offset).take (P.cellsOf f.type)) with
      | none=>rw [hf] at hm; cases hm
      | some x =>
       rw [hf] at hm
       cases hr:fs.mapM (fun f=>DataW.trod enc P w 0 sp held fuel f.type ((cs.drop f.offset).take (P.cellsOf f.type))) with
       | none=>rw [hr] at hm; cases hm
       | some xs' =>
        rw [hr] at hm
        have hm:some (x :: xs')=some xs:=hm
        injection hm with hm; subst hm
        simp only [List.length_append] at hl
        have g1:=ih n f.type es1 _ x.1 x.2 h1 hf
        have g2:=trod_fields ih fs n (run+es1.length) l cs xs' h2 hr (by omega)
        rw [ho,hc] at g1
        have e:(cs.drop run).take (es1 ++ l).length=(cs.drop run).take es1.length ++ (cs.drop (run+es1.length)).take l.length:=by
         rw [List.length_append,List.take_add,List.drop_drop]
        rw [e]
        exact g1.app g2
     ·cases h
    ·cases h
   ·cases h
  ·cases h
theorem trod_rd:∀ (fuel n:Nat) (t:TypeId) (es:List Sh) (cs:List Value) (d:DataW H) (ps:List MemPlace),shT P n t=some es→DataW.trod enc P w 0 sp held fuel t cs=some (d,ps)→Rd w es cs (datD d)
 | 0,n,t,es,cs,d,ps,hs,h=>by simp [DataW.trod] at h
 | fuel+1,0,t,es,cs,d,ps,hs,h=>by simp [shT] at hs
 | fuel+1,n+1,t,es,cs,d,ps,hs,h=>by
  have ih:=trod_rd fuel
  cases hu:P.underlying t with
  | none=>simp [shT,hu] at hs
  | some td =>
   unfold DataW.trod at h
   simp only [shT,hu] at hs
   rw [hu] at h
   cases td <;> simp only at hs <;> first | (cases hs; done) | skip
   case bool =>
    injection hs with hs; subst hs
    split at h <;> first | (rename_i e; cases e; done) | (rename_i e _; cases e; done) | (rename_i e _ _; cases e; done) | skip
    ·injection h with h; injection h with h1 h2; subst h1
     exact Rd.one ⟨_,rfl⟩ (.v _ rfl)
    ·cases h
   case int k =>
    injection hs with hs; subst hs
    split at h <;> first | (rename_i e; cases e; done) | (rename_i e _; cases e; done) | (rename_i e _ _; cases e; done) | skip
    ·rename_i e
     injection e with e; injection e with e; subst e
     split at h
     ·rename_i hk
      obtain ⟨rfl,hw⟩:=hk
      injection h with h; injection h with h1 h2; subst h1
      exact Rd.one ⟨_,rfl,hw⟩ (.v _ rfl)
     ·cases h
    ·cases h
   case string =>
    injection hs with hs; subst hs
    split at h <;> first | (rename_i e; cases e; done) | (rename_i e _; cases e; done) | (rename_i e _ _; cases e; done) | skip
    ·rename_i s0 e
     split at h
     ·injection h with h; injection h with h1 h2; subst h1
      exact Rd.one ⟨_,rfl⟩ (by simpa [datD] using DRel.v (.string s0) rfl)
     ·cases h
    ·cases h
   case slice e =>
    split at hs
    ·rename_i es1 h1
     split at hs
     ·rename_i hc
      injection hs with hs; subst hs
      split at h <;> first | (rename_i e; cases e; done) | (rename_i e _; cases e; done) | (rename_i e _ _; cases e; done) | skip
      ·injection h with h; injection h with h1 h2; subst h1
       exact Rd.one ⟨[],rfl,by simp⟩ (.nil none 0)
      ·rename_i e' a len cap heq
       injection heq with heq; injection heq with heq; subst heq
       simp only at h
       split at h
       ·rename_i hcap
        cases hm:(List.range len).mapM (fun i=>(w.cells? 0 (a.add (i*P.cellsOf e)) (P.cellsOf e)).bind (DataW.trod enc P w 0 sp held fuel e)) with
        | none=>rw [hm] at h; cases h
        | some elems =>
         rw [hm] at h
         simp only [Option.bind_some,Option.map_eq_some_iff] at h
         obtain ⟨rest,_,h⟩:=h
         injection h with h2 h3; subst h2
         obtain ⟨hlen,hget⟩:=mapM_some hm
         rw [List.length_range] at hlen
         have hel:∀ (i:Nat) x,elems[i]? = some x→∃ cs,w.cells? 0 (a.add (i*es1.length)) es1.length=some cs∧Rd w es1 cs (datD x.1):=fun i x hx=>by
          have hi:i<len:=by have:=(List.getElem?_eq_some_iff.1 hx).1; omega
          obtain ⟨y,hy,hz⟩:=hget i i (by simp [hi])
          rw [hx] at hy; injection hy with hy; subst hy
          simp only [Option.bind_eq_some_iff] at hz
          obtain ⟨cs,hcs,hz⟩:=hz
          rw [hc.1] at hcs
          exact ⟨cs,hcs,ih n e es1 cs x.1 x.2 h1 hz⟩
         have hget':∀ (i:Nat) y,(datDs (elems.map (·.1)))[i]? = some y→∃ x,elems[i]? = some x∧y=datD x.1:=fun i y hy=>by
          rw [datDs_get,List.getElem?_map] at hy
          cases hx:elems[i]? with
          | none=>rw [hx] at hy; cases hy
          | some x=>rw [hx] at hy; simp at hy; exact ⟨x,rfl,hy.symm⟩
         have hok:∀ y∈datDs (elems.map (·.1)),okShs es1 y:=fun y hy=>by
          obtain ⟨i,hi⟩:=List.getElem?_of_mem hy
          obtain ⟨x,hx,rfl⟩:=hget' i y hi
          obtain ⟨cs,_,hr⟩:=hel i x hx
          exact hr.1
         refine Rd.one ⟨_,rfl,hok⟩ ?_
         by_cases hl0:len=0
         ·have:elems=[]:=List.length_eq_zero_iff.1 (by omega)
          subst this; subst hl0
          exact .nil _ _
         ·obtain ⟨x0,hx0⟩:∃ x0,elems[0]? = some x0:=⟨elems[0]'(by omega),by simp⟩
          obtain ⟨cs0,hcs0,hr0⟩:=hel 0 x0 hx0
          obtain ⟨g1,g2⟩:=cells_get hcs0
          obtain ⟨v0,hv0⟩:∃ v0,cs0[0]? = some v0:=⟨cs0[0]'(by omega),by simp⟩
          have hsp:=cell_spot (g2 0 v0 hv0)
          have ha0:(a.add (0*es1.length)).add 0=a:=by simp [Addr.add]
          rw [ha0] at hsp
          have hadd:∀ i j,(a.add (i*es1.length)).add j=⟨a.block,a.off+i*es1.length+j,none⟩:=fun i j=>by
           cases a with
           | mk b o sp0 =>
            have:sp0=none:=hsp.1
            subst this
            unfold Addr.add
            split
            ·split
             ·rename_i q1 q2; simp [q1,q2]
             ·rename_i q1 q2; simp [q1]
            ·split
             ·rename_i q1 q2; simp [q2]
             ·rfl
          obtain ⟨b,o,sp0⟩:=a
          have:sp0=none:=hsp.1
          subst this
          have hlen':(datDs (elems.map (·.1))).length=len:=by rw [datDs_len,List.length_map,hlen]
          have hcell:∀ (i:Nat) (y:List D) (j:Nat) (d:D),(datDs (elems.map (·.1)))[i]? = some y→y[j]? = some d→∃ v,w.cell? ⟨b,o+i*es1.length+j,none⟩=some v∧DRel (fun b=>b<w.heap.size) w d v:=fun i y j d hy hd=>by
           obtain ⟨x,hx,rfl⟩:=hget' i y hy
           obtain ⟨cs,hcs,hr⟩:=hel i x hx
           obtain ⟨q1,q2⟩:=cells_get hcs
           have hj:j<cs.length:=by
            have:=(List.getElem?_eq_some_iff.1 hd).1
            rw [okShs_len hr.1] at this; omega
           have hv:cs[j]? = some cs[j]:=by simp [hj]
           refine ⟨cs[j],?_,hr.2.2 j d _ hd hv⟩
           have:=q2 j _ hv
           rw [hadd] at this; exact this
          have:=DRel.sl (S:=fun b=>b<w.heap.size) (w:=w) (datDs (elems.map (·.1))) b o cap es1.length (fun i j=>(w.cell? ⟨b,o+i*es1.length+j,none⟩).getD undef) hsp.2 hsp.2 (by rw [hlen']; exact hcap.2.1)
           (fun i x hx=>by
            obtain ⟨x',hx',rfl⟩:=hget' i x hx
            obtain ⟨cs,_,hr⟩:=hel i x' hx'
            exact okShs_len hr.1)
           (fun i x j d hi hj=>by obtain ⟨v,hv,_⟩:=hcell i x j d hi hj; rw [hv]; rfl)
           (fun i x j d hi hj=>by obtain ⟨v,hv,hr⟩:=hcell i x j d hi hj; rw [hv]; exact hr)
          rw [hlen'] at this
          exact this
       ·cases h
      ·cases h
     ·cases hs
    ·cases hs
   case struct fs =>
    split at hs
    ·rename_i es1 h1
     split at hs
     ·rename_i hc
      injection hs with hs; subst hs
      split at h <;> first | (rename_i e; cases e; done) | (rename_i e _; cases e; done) | (rename_i e _ _; cases e; done) | skip
      ·rename_i fs' heq
       injection heq with heq; injection heq with heq; subst heq
       split at h
       ·rename_i hlen
        simp only [Option.map_eq_some_iff] at h
        obtain ⟨xs,hm,h⟩:=h
        injection h with h2 h3; subst h2
        have:=trod_fields ih fs.toList n 0 es1 _ xs h1 hm (by omega)
        rw [List.drop_zero,List.take_of_length_le (by omega)] at this
        exact this
       ·cases h
      ·exact (‹∀ fs_1,some (TypeDesc.struct fs)=some (TypeDesc.struct fs_1)→False› fs rfl).elim
     ·cases hs
    ·cases hs
theorem vals_of_trod:∀ {ts:List TypeId} {vs:List Value} {ds:List (DataW H)} {ps:List MemPlace},DataW.TrodAll enc P w 0 sp held ts vs ds ps →
  ∀ (n:Nat) (ess:List (List Sh)),ts.map (shT P n)=ess.map some→vs.length=ts.length∧ds.length=ts.length ∧
   ∀ (i:Nat) es v d,ess[i]? = some es→vs[i]? = some v→ds[i]? = some d→Rd w es v.cells.toList (datD d)
 | [],[],[],ps,h,n,ess,he=>by
  have:ess=[]:=by cases ess <;> simp_all
  subst this
  simp
 | t :: ts,v :: vs,d :: ds,ps,h,n,ess,he=>by
  obtain ⟨p,q,⟨fuel,h1⟩,h2,_⟩:=h
  match ess,he with
  | es :: ess,he =>
   simp only [List.map_cons,List.cons.injEq] at he
   obtain ⟨g1,g2,g3⟩:=vals_of_trod h2 n ess he.2
   refine ⟨by simp [g1],by simp [g2],fun i es' v' d' hi hv hd=>?_⟩
   cases i with
   | zero=>simp at hi hv hd; subst hi; subst hv; subst hd; exact trod_rd fuel n t es _ _ _ he.1 h1
   | succ i=>simp at hi hv hd; exact g3 i es' v' d' hi hv hd
 | [],_ :: _,_,_,h,_,_,_=>by cases h
 | [],[],_ :: _,_,h,_,_,_=>by cases h
 | _ :: _,[],_,_,h,_,_,_=>by cases h
 | _ :: _,_ :: _,[],_,h,_,_,_=>by cases h
def argV (agg:Bool) (ds:List D):V:=if agg then .agg (ds.map .d) else match ds with | [d]=>.c (.d d) | _=>.any
theorem argV_rel {k:K} (hS:k.S=fun b=>b<k.w.heap.size) {es:List Sh} {v:Value} {ds:List D} {agg:Bool} (h:Rd k.w es v.cells.toList ds) (ha:agg=true→∃ cs,v = .agg cs) (hna:agg=false→v.cells = #[v]∧es.length=1) :
  VRel P k (argV agg ds) v:=by
 cases agg with
 | true =>
  obtain ⟨cs,rfl⟩:=ha rfl
  have hl:=okShs_len h.1
  have h2:=h.2.1
  refine ⟨cs,rfl,?_,fun i c v hc hv=>?_⟩
  ·simp [Value.cells] at h2; simp [hl,h2]
  ·rw [List.getElem?_map] at hc
   cases hd:ds[i]? with
   | none=>rw [hd] at hc; cases hc
   | some d =>
    rw [hd] at hc; simp at hc; subst hc
    have:=h.2.2 i d v hd (by simpa [Value.cells] using hv)
    show DRel k.S k.w d v
    rw [hS]; exact this
 | false =>
  obtain ⟨hc,he⟩:=hna rfl
  have hl:=okShs_len h.1
  match ds,hl with
  | [d],_ =>
   have:=h.2.2 0 d v rfl (by rw [hc]; rfl)
   show DRel k.S k.w d v
   rw [hS]; exact this
  | [],hl=>rw [he] at hl; cases hl
  | _ :: _ :: _,hl=>rw [he] at hl; simp at hl
theorem stab_nil0 (w:World):(ctx (fun _=>none) [] w).S=fun b=>b<w.heap.size:=by
 funext b
 apply propext
 constructor
 ·intro h; exact h.1
 ·intro h; exact ⟨h,fun r o hr=>by simp at hr⟩
theorem hrel_nil (w:World):HRel P (fun _=>none) [] w:=⟨fun r o hr=>by simp at hr,fun r r' o o' b hr=>by simp at hr,fun r b hr=>by cases hr⟩
theorem post_of_acalls {G0:Gl} (hl:laidOutB P=true) {f:Nat} {fn:Func} {s:ChangeSpec} {W:World} (hG0:GRel G0 (stab (fun _=>none) [] W) W) {args:Array Value} {ds gs:List (DataW H)} {before:List MemPlace} {us:List V} {R:T→List O→Prop} {apart handsOn:Bool} {tb:TypeId}
  (hres:fn.resultTypes = #[tb]) (hb:P.underlying tb=some .bool) (hvars:s.vars=[]) (hspec:s.fn H (ds ++ gs) = { results:=[.lit (.bool true)],args:=ds })
  (hparams:∀ t∈fn.params.toList,P.readableRec t=true∧t<P.types.size)
  (hW:DataW.Whole enc P fn.params.toList s.vars apart W args.toList ds gs before)
  (hv:VsRel P (ctx (fun _=>none) [] W) us args) (h:ACalls P G0 f us [] R) (hR:∀ t H,R t H→t = .bool true) :
  Calls P f args W fun e W'=>∃ v,e = .returned v∧s.post enc P fn apart true handsOn false W args v W':=by
 refine (h.2 (fun _=>none) W args (hrel_nil W) hG0 hv).mono ?_
 rintro e W' ⟨v,t,ρ',H',rfl,hRt,hH,ht,le⟩
 have:=hR t H' hRt
 subst this
 have hvt:v = .bool true:=drel_v ht
 subst hvt
 have hstep:=le.step
 rw [stab_nil0] at hstep
 have hkeep:∀ b,b<W.heap.size→W'.heap[b]? = W.heap[b]? := hstep.keep
 obtain ⟨p,q,hA,hV,hpq,hz,hn⟩:=id hW
 have hlt:∀ x∈before,x.block<W.heap.size:=fun x hx=>by simpa using hW.lt x hx
 have hq:q=[]:=by rw [hvars] at hV; cases gs <;> simp [DataW.TrodVars] at hV; exact hV
 subst hq
 rw [List.append_nil] at hpq
 have hbelow:Go.RowKit.Below W.heap.size W W':=⟨hstep.os,hstep.tape,hstep.output,hstep.size,hkeep⟩
 have hargs:∀ (ts:List TypeId) (vs:List Value) (ds:List (DataW H)) (ps:List MemPlace),(∀ t∈ts,P.readableRec t=true∧t<P.types.size)→(∀ x∈ps,x.block<W.heap.size)→DataW.TrodAll enc P W 0 (fun _=>true) true ts vs ds ps →
   DataW.TrodAll enc P W' 0 (fun b=>decide (b<W.heap.size)) true ts vs ds ps:=by
  intro ts
  induction ts with
  | nil=>intro vs ds ps _ _ h; cases vs <;> cases ds <;> exact h
  | cons t ts ih =>
   intro vs ds ps hp hlt h
   cases vs with
   | nil=>cases h
   | cons v vs =>
    cases ds with
    | nil=>cases h
    | cons d ds =>
     obtain ⟨p,q,h1,h2,rfl⟩:=h
     have ht:=hp t List.mem_cons_self
     exact ⟨p,q,Go.RowKit.Below.trod hl ht.1 ht.2 h1 hbelow (fun x hx=>hlt x (List.mem_append_left _ hx)),ih vs ds q (fun t ht=>hp t (List.mem_cons_of_mem _ ht)) (fun x hx=>hlt x (List.mem_append_right _ hx)) h2,rfl⟩
 refine ⟨_,rfl,ds,gs,before,[],before,[],hW,?_,?_,?_,?_,fun h=>by cases h⟩
 ·rw [hspec,hres]
  exact ⟨[],[],Go.RowKit.shut_bool hb true,rfl,rfl⟩
 ·rw [hspec]; exact hargs _ _ _ _ hparams hlt (hpq▸hA)
 ·rw [hspec,hvars]; simp [DataW.TrodVars]
 ·refine ⟨hstep.os,hstep.output,fun i hi=>?_⟩
  rw [hkeep i hi]
  cases W.heap[i]? with
  | none=>simp
  | some o=>cases o <;> simp
end
section
variable {P:Program} {w:World}
def aggT (P:Program) (t:TypeId):Bool:=match P.underlying t with
 | some (.struct _)=>true
 | some (.array _ _)=>true
 | _=>false
theorem okWide_one {r:Reach} {base:Nat} {t:TypeId} {v:Value} (ha:aggT P t=false) (h:Value.okWide P w r base t v):v.cells = #[v]:=by
 unfold aggT at ha
 unfold Value.okWide at h
 cases hu:P.underlying t with
 | none =>
  rw [hu] at h
  cases v <;> first | rfl | (simp [Cell.okWide,Cell.ok,hu] at h)
 | some td =>
  rw [hu] at h ha
  cases td <;> first | (cases ha; done) | (cases v <;> first | rfl | (simp [Cell.okWide,Cell.ok,hu] at h))
theorem okWide_agg {r:Reach} {base:Nat} {t:TypeId} {v:Value} (ha:aggT P t=true) (h:Value.okWide P w r base t v):∃ cs,v = .agg cs:=by
 unfold aggT at ha
 unfold Value.okWide at h
 cases hu:P.underlying t with
 | none=>rw [hu] at ha; cases ha
 | some td =>
  rw [hu] at h ha
  cases td <;> first | (cases ha; done) | (obtain ⟨cs,e,_⟩:=h; exact ⟨cs,e⟩)
theorem shT_one {n:Nat} {t:TypeId} {es:List Sh} (ha:aggT P t=false) (h:shT P n t=some es):es.length=1:=by
 cases n with
 | zero=>simp [shT] at h
 | succ n =>
  unfold aggT at ha
  cases hu:P.underlying t with
  | none=>simp [shT,hu] at h
  | some td =>
   rw [hu] at ha
   simp only [shT,hu] at h
   cases td <;> simp only at h <;> first | (cases h; done) | (cases ha; done) | (injection h with h; subst h; rfl) | skip
   split at h
   ·split at h
    ·injection h with h; subst h; rfl
    ·cases h
   ·cases h
variable {H:Type} {enc:TypeId×Value→H}
theorem law_calls {G0:Gl} (hl:laidOutB P=true) {f:Nat} {fn:Func} {s:ChangeSpec} {W:World} (hG0:GRel G0 (stab (fun _=>none) [] W) W) {base:Nat} {args:Array Value} {ds gs:List (DataW H)} {before:List MemPlace} {apart handsOn:Bool} {tb:TypeId}
  {n:Nat} {ess:List (List Sh)} {aggs:List Bool} (hts:fn.params.toList.map (shT P n)=ess.map some) (hag:fn.params.toList.map (aggT P)=aggs)
  (hres:fn.resultTypes = #[tb]) (hb:P.underlying tb=some .bool) (hvars:s.vars=[]) (hspec:∀ ds:List (DataW H),ds.length=fn.params.toList.length→s.fn H ds = { results:=[.lit (.bool true)],args:=ds })
  (hparams:fn.params.toList.all (fun t=>P.readableRec t && decide (t<P.types.size))=true)
  (hval:∀ (j:Nat) t v,fn.params[j]? = some t→args[j]? = some v→Value.okWide P W .any base t v)
  (hW:DataW.Whole enc P fn.params.toList s.vars apart W args.toList ds gs before)
  (h:(ds.map datD).length=ess.length→(∀ (i:Nat) es u,ess[i]? = some es→(ds.map datD)[i]? = some u→okShs es u)→gs=[]→ACalls P G0 f (List.zipWith argV aggs (ds.map datD)) [] fun t _=>t = .bool true) :
  Calls P f args W fun e W'=>∃ v,e = .returned v∧s.post enc P fn apart true handsOn false W args v W':=by
 obtain ⟨p,q,hA,hV,hpq,hz,hn⟩:=id hW
 have hgs:gs=[]:=by rw [hvars] at hV; cases gs <;> simp [DataW.TrodVars] at hV; rfl
 subst hgs
 obtain ⟨l1,l2,hr⟩:=vals_of_trod hA n ess hts
 have hel:ess.length=fn.params.toList.length:=by have:=congrArg List.length hts; simpa using this.symm
 have hal:aggs.length=fn.params.toList.length:=by rw [← hag]; simp
 have hok:=h (by simp [l2,hel]) (fun i es u he hu=>by
  rw [List.getElem?_map] at hu
  cases hd:ds[i]? with
  | none=>rw [hd] at hu; cases hu
  | some d =>
   rw [hd] at hu; simp at hu; subst hu
   have hi:i<args.toList.length:=by rw [l1,← l2]; exact (List.getElem?_eq_some_iff.1 hd).1
   exact (hr i es _ d he (List.getElem?_eq_getElem hi) hd).1) rfl
 refine post_of_acalls hl hG0 (ds:=ds) (gs:=[]) hres hb hvars (by rw [List.append_nil]; exact hspec ds l2) (fun t ht=>?_) hW ?_ hok (fun t H h=>h)
 ·have:=List.all_eq_true.1 hparams t ht
  simp at this; exact this
 ·refine ⟨by simp [hal,l2]; simpa using l1,fun i c v hc hv=>?_⟩
  rw [List.getElem?_zipWith] at hc
  have hv':args.toList[i]? = some v:=by simpa using hv
  have hi:i<fn.params.toList.length:=by rw [← l1]; exact (List.getElem?_eq_some_iff.1 hv').1
  have hp:fn.params.toList[i]? = some fn.params.toList[i]:=List.getElem?_eq_getElem hi
  obtain ⟨t,ht⟩:∃ t,fn.params.toList[i]? = some t:=⟨_,hp⟩
  have hga:aggs[i]? = some (aggT P t):=by rw [← hag,List.getElem?_map,ht]; rfl
  have hsh:∃ es,ess[i]? = some es∧shT P n t=some es:=by
   have h1:(fn.params.toList.map (shT P n))[i]? = some (shT P n t):=by rw [List.getElem?_map,ht]; rfl
   rw [hts,List.getElem?_map] at h1
   cases he:ess[i]? with
   | none=>rw [he] at h1; cases h1
   | some es=>rw [he] at h1; simp at h1; exact ⟨es,rfl,h1.symm⟩
  obtain ⟨es,he,hse⟩:=hsh
  have hdi:i<ds.length:=by rw [l2]; exact hi
  have hd:ds[i]? = some ds[i]:=List.getElem?_eq_getElem hdi
  have hdm:(ds.map datD)[i]? = some (datD ds[i]):=by rw [List.getElem?_map,hd]; rfl
  rw [hga,hdm] at hc
  simp at hc
  subst hc
  have hrd:=hr i es v ds[i] he hv' hd
  have hok':=hval i t v (by simpa using ht) hv
  exact argV_rel (k:=ctx (fun _=>none) [] W) (stab_nil0 W) hrd (fun ha=>okWide_agg ha hok') (fun ha=>⟨okWide_one ha hok',shT_one ha hse⟩)
mutual
def wD:D→Nat
 | .v (.string s)=>s.size+1
 | .sl xs=>wDss xs+1
 | _=>1
def wDs:List D→Nat
 | []=>0
 | d :: r=>wD d+wDs r
def wDss:List (List D)→Nat
 | []=>0
 | x :: r=>wDs x+wDss r
end
theorem wDs_app:∀ (a b:List D),wDs (a ++ b)=wDs a+wDs b
 | [],b=>by simp [wDs]
 | d :: a,b=>by simp only [List.cons_append,wDs,wDs_app a b]; omega
end
end Go.Aw
namespace Go.Aw.Try
open Go Go.Proofs Go.Proofs.YtbehhclclhfhkaaGreatDoor Go.Aw
set_option maxRecDepth 100000
set_option maxHeartbeats 4000000
abbrev idSh:List Sh:=[.s,.i .i64]
abbrev editSh:List Sh:=[.s,.i .i64,.i .i64,.i .i64,.sl idSh,.i .i64,.s,.i .i64,.s,.i .i64,.b,.s,.s,.s,.s,.s,.i .i64,.s]
theorem dec_id {l:List D} (h:okShs idSh l):∃ x:Id,l=x.row:=by
 simp only [idSh,okShs,okSh] at h
 obtain ⟨_,_,rfl,⟨a,rfl⟩,_,_,rfl,⟨n,rfl,_⟩,rfl⟩:=h
 exact ⟨⟨a,n⟩,rfl⟩
theorem dec_list {α:Type} {row:α→List D} {sh:List Sh} (hd:∀ l,okShs sh l→∃ x,l=row x):∀ {xs:List (List D)},(∀ x∈xs,okShs sh x)→∃ l:List α,xs=l.map row
 | [],_=>⟨[],rfl⟩
 | x :: xs,h=>by
  obtain ⟨a,rfl⟩:=hd x (h x List.mem_cons_self)
  obtain ⟨l,rfl⟩:=dec_list hd (fun y hy=>h y (List.mem_cons_of_mem _ hy))
  exact ⟨a :: l,rfl⟩
theorem dec_edit {l:List D} (h:okShs editSh l):∃ e:Edit,l=e.row:=by
 simp only [editSh,okShs,okSh] at h
 obtain ⟨_,_,rfl,⟨a1,rfl⟩,_,_,rfl,⟨a2,rfl,_⟩,_,_,rfl,⟨a3,rfl,_⟩,_,_,rfl,⟨a4,rfl,_⟩,_,_,rfl,⟨a5,rfl,h5⟩,_,_,rfl,⟨a6,rfl,_⟩,_,_,rfl,⟨a7,rfl⟩,_,_,rfl,⟨a8,rfl,_⟩,_,_,rfl,⟨a9,rfl⟩,_,_,rfl,⟨a10,rfl,_⟩,
  _,_,rfl,⟨a11,rfl⟩,_,_,rfl,⟨a12,rfl⟩,_,_,rfl,⟨a13,rfl⟩,_,_,rfl,⟨a14,rfl⟩,_,_,rfl,⟨a15,rfl⟩,_,_,rfl,⟨a16,rfl⟩,_,_,rfl,⟨a17,rfl,_⟩,_,_,rfl,⟨a18,rfl⟩,rfl⟩:=h
 obtain ⟨ds,rfl⟩:=dec_list (row:=Id.row) (fun l h=>dec_id h) h5
 exact ⟨⟨⟨a1,a2⟩,a3,a4,ds,a6,⟨a7,a8⟩,⟨a9,a10⟩,a11,a12,a13,a14,a15,⟨a16,a17⟩,a18⟩,rfl⟩
theorem dec_edits {l:List D} (h:okShs [.sl editSh] l):∃ es:List Edit,l=[.sl (es.map Edit.row)]:=by
 simp only [okShs,okSh] at h
 obtain ⟨_,_,rfl,⟨xs,rfl,h⟩,rfl⟩:=h
 obtain ⟨es,rfl⟩:=dec_list (row:=Edit.row) (fun l h=>dec_edit h) h
 exact ⟨es,rfl⟩
theorem wrows {α:Type} {row:α→List D} (h:∀ x,row x≠[]):∀ l:List α,l.length≤wDss (l.map row)
 | []=>by simp
 | x :: l=>by
  have:=wrows h l
  have h1:1≤wDs (row x):=by
   cases hx:row x with
   | nil=>exact absurd hx (h x)
   | cons d r =>
    have:1≤wD d:=by unfold wD; split <;> omega
    simp only [wDs]; omega
  simp only [List.map_cons,wDss,List.length_cons]; omega
section
variable {H:Type}
mutual
theorem bulk_D:∀ d:DataW H,wDs (datD d)≤Rows.uptoBulk d
 | .lit l=>by cases l <;> simp [datD,wDs,wD,Rows.uptoBulk,ByteArray.size]
 | .nil=>by simp [datD,wDs,wD,wDss,Rows.uptoBulk]
 | .ptr d=>by simp [datD,wDs]
 | .slice es sp=>by
  have:=bulk_Ds es
  simp only [datD,wDs,wD,Rows.uptoBulk]; omega
 | .agg ps=>by
  have:=bulk_F ps
  simp only [datD,Rows.uptoBulk]; omega
 | .iface t d=>by simp [datD,wDs]
 | .map es=>by simp [datD,wDs]
 | .held h=>by simp [datD,wDs]
theorem bulk_Ds:∀ l:List (DataW H),wDss (datDs l)≤Rows.uptoBulkAll l
 | []=>by simp [datDs,wDss]
 | d :: r=>by
  have h1:=bulk_D d
  have h2:=bulk_Ds r
  simp only [datDs,wDss,Rows.uptoBulkAll]; omega
theorem bulk_F:∀ l:List (DataW H),wDs (datF l)≤Rows.uptoBulkAll l
 | []=>by simp [datF,wDs]
 | d :: r=>by
  have h1:=bulk_D d
  have h2:=bulk_F r
  simp only [datF,Rows.uptoBulkAll]; rw [wDs_app]; omega
end
theorem bulk_args {ds:List (DataW H)} (hk:Rows.uptoSmall H ds=true):∀ (i:Nat) u,(ds.map datD)[i]? = some u→wDs u≤1048576:=by
 have h:Rows.uptoBulkAll ds≤1048576:=of_decide_eq_true hk
 intro i u hu
 have key:∀ (ds:List (DataW H)) (i:Nat) u,(ds.map datD)[i]? = some u→wDs u≤Rows.uptoBulkAll ds:=by
  intro ds
  induction ds with
  | nil=>intro i u hu; simp at hu
  | cons d r ih =>
   intro i u hu
   cases i with
   | zero=>simp at hu; subst hu; have:=bulk_D d; simp only [Rows.uptoBulkAll]; omega
   | succ i=>simp at hu; have:=ih i u (by simpa using hu); simp only [Rows.uptoBulkAll]; omega
 exact Nat.le_trans (key ds i u hu) h
end
theorem own:ownKnob Tryz.prog.godebug=none:=by kernel_rfl
theorem laid:laidOutB Tryz.prog=true:=by kernel_rfl
theorem wmem {α:Type} {row:α→List D}:∀ {l:List α} {x:α},x∈l→wDs (row x)≤wDss (l.map row)
 | [],x,h=>by cases h
 | y :: l,x,h=>by
  simp only [List.map_cons,wDss]
  rcases List.mem_cons.1 h with rfl | h
  ·omega
  ·have:=wmem (row:=row) h; omega
abbrev tnSh:List Sh:=[.s,.i .i64,.s,.i .i64,.b,.s,.s,.s]
theorem dec_tn {l:List D} (h:okShs tnSh l):∃ e:TN,l=e.row:=by
 simp only [tnSh,okShs,okSh] at h
 obtain ⟨_,_,rfl,⟨a1,rfl⟩,_,_,rfl,⟨a2,rfl,_⟩,_,_,rfl,⟨a3,rfl⟩,_,_,rfl,⟨a4,rfl,_⟩,_,_,rfl,⟨a5,rfl⟩,_,_,rfl,⟨a6,rfl⟩,_,_,rfl,⟨a7,rfl⟩,_,_,rfl,⟨a8,rfl⟩,rfl⟩:=h
 exact ⟨⟨⟨a1,a2⟩,⟨a3,a4⟩,⟨a5,a6,a7⟩,a8⟩,rfl⟩
theorem dec_tns {l:List D} (h:okShs [.sl tnSh] l):∃ es:List TN,l=[.sl (es.map TN.row)]:=by
 simp only [okShs,okSh] at h
 obtain ⟨_,_,rfl,⟨xs,rfl,h⟩,rfl⟩:=h
 obtain ⟨es,rfl⟩:=dec_list (row:=TN.row) (fun l h=>dec_tn h) h
 exact ⟨es,rfl⟩
theorem trash {W:World} (h:laidMetH Tryz.prog Rows.movetreeBatchesUptoRow.laid W):GRel (GM 0) (stab (fun _=>none) [] W) W:=by
 rw [Go.MakeChecks.laidMetH_plain _ _ _ (by kernel_rfl)] at h
 obtain ⟨ps,⟨_,_,_,_,_,_,_,_,_,_,⟨g,t,cs,fuel,p,q,hg,ht,hv,hd,_,_⟩,_⟩,_,_⟩:=h
 obtain rfl:=Option.some.inj ((show Tryz.prog.globalNamed "voussoir/movetree.trash" = some 0 by kernel_rfl).symm.trans hg)
 obtain rfl:=Option.some.inj ((show (Tryz.prog.globals[0]?).map (·.type)=some 25 by kernel_rfl).symm.trans ht)
 have hr:=trod_rd fuel 20 25 idSh _ _ _ (by kernel_rfl) hd
 obtain ⟨_,hlen,hr⟩:=hr
 have hd0:datD (H:=Unit) Rows.laid_voussoir_movetree_trash=[.v (.string ⟨#[45]⟩),.v (.int .i64 0)]:=rfl
 rw [hd0] at hr
 have h2:cs.toList.length=2:=hlen
 have c0:W.cell? ⟨0,0,none⟩=some (.string ⟨#[45]⟩):=by
  have e:=World.var?_cell hg hv 0
  have e0:cs.toList[0]? = some (cs.toList[0]'(by omega)):=List.getElem?_eq_getElem (by omega)
  have e1:=drel_v (hr 0 _ _ rfl e0)
  rw [e,← e1,← Array.getElem?_toList]; exact e0
 have c1:W.cell? ⟨0,1,none⟩=some (.int .i64 0):=by
  have e:=World.var?_cell hg hv 1
  have e0:cs.toList[1]? = some (cs.toList[1]'(by omega)):=List.getElem?_eq_getElem (by omega)
  have e1:=drel_v (hr 1 _ _ rfl e0)
  rw [e,← e1,← Array.getElem?_toList]; exact e0
 intro g cs' hg'
 unfold GM at hg'
 split at hg'
 ·rename_i h0
  subst h0
  injection hg' with hg'; subst hg'
  have hlt:0<W.heap.size:=World.block_lt_of_cell? _ _ c0
  refine ⟨⟨hlt,fun r o hr=>by simp at hr⟩,hlt,fun j d hj=>?_⟩
  cases j with
  | zero=>injection hj with hj; subst hj; exact ⟨_,c0,DRel.v _ rfl⟩
  | succ j =>
   cases j with
   | zero=>injection hj with hj; subst hj; exact ⟨_,c1,DRel.v _ rfl⟩
   | succ j=>simp at hj
 ·cases hg'
def litV:DataW Unit→Value
 | .lit (.int k n)=>.int k n
 | _=>undef
def aggV:DataW Unit→List Value
 | .agg xs=>xs.flatMap fun d=>match d with
  | .agg ys=>ys.map litV
  | d=>[litV d]
 | _=>[]
def layO (cs:Array Value):Obj→Obj
 | .cells _ t fz=>.cells cs t fz
 | o=>o
noncomputable def laidWorld (os:Os):World :=
  { World.holding Tryz.prog os ⟨#[],#[],[]⟩ with heap:=(((World.holding Tryz.prog os ⟨#[],#[],[]⟩).heap.modify 2 (layO (aggV Go.Pinned.utf8First).toArray)).modify 3 (layO (aggV (Rows.laid_unicode_utf8_acceptRanges (H:=Unit))).toArray)).modify 0 (layO #[.string ⟨#[45]⟩,.int .i64 0]) }
theorem b_tns {l:List TN} (h:wDs [.sl (l.map TN.row)]≤1048576):l.length<1152921504606846976∧∀ e∈l,OkN e:=by
 simp only [wDs,wD] at h
 have h1:=wrows (row:=TN.row) (fun x=>by simp [TN.row]) l
 refine ⟨by omega,fun e he=>?_⟩
 have h2:=wmem (row:=TN.row) he
 have h5:wDs e.row≤1048576:=by omega
 simp only [TN.row,wDs,wD] at h5
 exact ⟨by omega,by omega,by omega,by omega,by omega⟩
theorem b_es {l:List Edit} (h:wDs [.sl (l.map Edit.row)]≤1048576):l.length<1152921504606846976∧∀ e∈l,OkE e∧Siz e:=by
 simp only [wDs,wD] at h
 have h1:=wrows (row:=Edit.row) (fun x=>by simp [Edit.row]) l
 refine ⟨by omega,fun e he=>?_⟩
 have h2:=wmem (row:=Edit.row) he
 have h4:=wrows (row:=Id.row) (fun x=>by simp [Id.row]) e.deps
 have h5:wDs e.row≤1048576:=by omega
 simp only [Edit.row,wDs,wD] at h5
 refine ⟨⟨by omega,by omega,by omega,by omega,by omega,by omega,by omega,by omega,by omega,by omega,fun x hx=>?_⟩,⟨by omega,by omega,by omega,by omega,by omega,by omega,by omega,by omega,by omega,by omega⟩⟩
 have h6:=wmem (row:=Id.row) hx
 have h7:x.a.size≤wDs (Id.row x):=by simp only [Id.row,wDs,wD]; omega
 omega
theorem okT {l:List TN} {es:List Edit} (h1:l.length<1152921504606846976∧∀ e∈l,OkN e) (h2:es.length<1152921504606846976∧∀ e∈es,OkE e∧Siz e):OkT l es:=⟨h1.1,h1.2,h2.1,fun e he=>(h2.2 e he).1,fun e he=>(h2.2 e he).2⟩
open Go Go.Proofs Go.Aw
abbrev kys (m:Spots):List Id:=m.map Prod.fst
theorem alook_of_mem {m:Spots} (hn:(kys m).Nodup) {x:Id} {t:TN} (h:(x,t)∈m):alook m x=some t:=by
 induction m with
 | nil=>cases h
 | cons p m ih =>
  obtain ⟨k,v⟩:=p
  simp only [kys,List.map_cons,List.nodup_cons] at hn
  simp only [alook]
  rcases List.mem_cons.1 h with q | q
  ·injection q with q1 q2
   subst q1; subst q2; simp
  ·have:¬ k=x:=fun e=>hn.1 (by rw [e]; exact List.mem_map_of_mem (f:=Prod.fst) q)
   rw [if_neg this]
   exact ih hn.2 q
theorem alook_iff {m:Spots} (hn:(kys m).Nodup) {x:Id} {t:TN}:alook m x=some t↔(x,t)∈m:=⟨alook_pair,alook_of_mem hn⟩
theorem alook_perm {m m':Spots} (h:m.Perm m') (hn:(kys m).Nodup) (x:Id):alook m x=alook m' x:=by
 have hn':(kys m').Nodup:=(h.map Prod.fst).nodup_iff.1 hn
 cases q:alook m x with
 | some t=>exact ((alook_iff hn').2 (h.mem_iff.1 ((alook_iff hn).1 q))).symm
 | none =>
  cases q':alook m' x with
  | none=>rfl
  | some t=>rw [(alook_iff hn).2 (h.mem_iff.2 ((alook_iff hn').1 q'))] at q; cases q
theorem alook_none {m:Spots} {x:Id}:alook m x=none↔x ∉ kys m:=by
 induction m with
 | nil=>simp [alook]
 | cons p m ih =>
  obtain ⟨k,v⟩:=p
  simp only [alook,kys,List.map_cons,List.mem_cons,not_or]
  by_cases q:k=x
  ·subst q; simp
  ·rw [if_neg q,ih]
   exact ⟨fun h=>⟨fun e=>q e.symm,h⟩,fun h=>h.2⟩
theorem okM_perm {m m':Spots} (h:m.Perm m') (ho:OkM m):OkM m':=⟨fun p hp=>ho.key p (h.mem_iff.2 hp),(h.map Prod.fst).nodup_iff.1 ho.nd⟩
theorem vals_nodup {m:Spots} (ho:OkM m):((m.map Prod.snd).map TN.node).Nodup:=by
 have:(m.map Prod.snd).map TN.node=m.map Prod.fst:=by
  rw [List.map_map]
  exact List.map_congr_left fun p hp=>ho.key p hp
 rw [this]; exact ho.nd
theorem aput_absent {m:Spots} {x:Id} {t:TN} (h:x ∉ kys m):aput m x t=m ++ [(x,t)]:=by
 induction m with
 | nil=>rfl
 | cons p m ih =>
  obtain ⟨k,v⟩:=p
  simp only [kys,List.map_cons,List.mem_cons,not_or] at h
  simp only [aput]
  rw [if_neg (fun e=>h.1 e.symm),ih h.2]; rfl
theorem addM_nodup {l:List TN} (hn:(l.map TN.node).Nodup):addM l=l.map fun t=>(t.node,t):=by
 have:∀ (l:List TN) (m:Spots),(kys m ++ l.map TN.node).Nodup→l.foldl (fun m t=>aput m t.node t) m=m ++ l.map fun t=>(t.node,t):=by
  intro l
  induction l with
  | nil=>intro m _; simp
  | cons t l ih =>
   intro m h
   have hx:t.node ∉ kys m:=fun q=>by
    rw [List.nodup_append] at h
    exact h.2.2 _ q t.node (by simp) rfl
   rw [List.foldl_cons,aput_absent hx,ih]
   ·simp
   ·rw [show kys (m ++ [(t.node,t)])=kys m ++ [t.node] by simp [kys],List.append_assoc]; exact h
 have h:=this l [] (by simpa using hn)
 simpa [addM] using h
theorem pairs_vals {m:Spots} (ho:OkM m):((m.map Prod.snd).map fun t=>(t.node,t))=m:=by
 rw [List.map_map]
 refine (List.map_congr_left fun p hp=>?_).trans (List.map_id m)
 show (p.2.node,p.2)=p
 rw [ho.key p hp]
theorem app_nodup (l:List TN) (es:List Edit):((appF l es).map TN.node).Nodup :=
 ((ssort_perm cmpN' _).map TN.node).nodup_iff.2 (vals_nodup (runM_ok (addM_ok l) es))
theorem addM_app (l:List TN) (es:List Edit):(addM (appF l es)).Perm (runM (addM l) es):=by
 rw [addM_nodup (app_nodup l es)]
 have h:=(ssort_perm cmpN' ((runM (addM l) es).map Prod.snd)).map fun t:TN=>(t.node,t)
 rw [pairs_vals (runM_ok (addM_ok l) es)] at h
 exact h
theorem app_srt (l:List TN) (es:List Edit):Srt cmpN' (appF l es):=ssort_srt cmpN_pre _
inductive Outs (l:List TN):List Id→Prop where
 | nil:Outs l []
 | snoc {o:List Id} {y:Id} (h:Outs l o) (hn:y ∉ o) (hr:y≠rootI) (t:TN) (ht:t∈l) (hy:t.node=y) (hp:t.par=rootI∨t.par∈o):Outs l (o ++ [y])
theorem Outs.mem {l:List TN} {o:List Id} (h:Outs l o) {y:Id} (hy:y∈o):∃ t∈l,t.node=y∧y≠rootI∧(t.par=rootI∨t.par∈o):=by
 induction h with
 | nil=>cases hy
 | snoc h hn hr t ht he hp ih =>
  rcases List.mem_append.1 hy with q | q
  ·obtain ⟨t',h1,h2,h3,h4⟩:=ih q
   exact ⟨t',h1,h2,h3,h4.imp_right fun h=>List.mem_append_left _ h⟩
  ·rw [List.mem_singleton.1 q]
   exact ⟨t,ht,he,hr,hp.imp_right fun h=>List.mem_append_left _ h⟩
theorem Outs.nodup {l:List TN} {o:List Id} (h:Outs l o):o.Nodup:=by
 induction h with
 | nil=>exact List.nodup_nil
 | snoc h hn hr t ht he hp ih =>
  rw [List.nodup_append]
  exact ⟨ih,by simp,fun a ha b hb=>by simp at hb; subst hb; exact fun e=>hn (e▸ha)⟩
theorem Outs.before {l:List TN} {o:List Id} (h:Outs l o) (i:Nat) (hi:i<o.length):∃ t∈l,t.node=o[i]∧(t.par=rootI∨t.par∈o.take i):=by
 induction h with
 | nil=>simp at hi
 | @snoc o y h hn hr t ht he hp ih =>
  by_cases q:i<o.length
  ·obtain ⟨t',h1,h2,h3⟩:=ih q
   refine ⟨t',h1,by rw [h2,List.getElem_append_left q],?_⟩
   rw [List.take_append_of_le_length (by omega)]; exact h3
  ·have e:i=o.length:=by simp at hi; omega
   subst e
   refine ⟨t,ht,by simp [he],?_⟩
   rw [List.take_append_of_le_length (by omega),List.take_length]; exact hp
theorem ch_mem {l:List TN} {x y:Id} (h:y∈chF l x):∃ t∈l,t.node=y∧t.par=x:=by
 unfold chF at h
 obtain ⟨t,ht,rfl⟩:=List.mem_map.1 h
 refine ⟨t,sib_sub ht,rfl,?_⟩
 unfold sibF at ht
 have h2:∀ {m:List TN} {t:TN},t∈ssort cmpT m→t∈m:=fun {m}=>by
  induction m with
  | nil=>intro t ht; exact ht
  | cons x m ih =>
   intro t ht
   rcases insF_mem.1 ht with rfl | ht
   ·exact List.mem_cons_self ..
   ·exact List.mem_cons_of_mem _ (ih ht)
 have:=(List.mem_filter.1 (h2 ht)).2
 simpa using this
theorem vis_ok (l:List TN):∀ (n:Nat) (x:Id) (out:List Id),Outs l out→(x=rootI∨x∈out)→Outs l (visF n l x out)∧∀ y∈out,y∈visF n l x out:=by
 intro n
 induction n with
 | zero=>intro x out h _; exact ⟨h,fun y hy=>hy⟩
 | succ n ih =>
  intro x out h hx
  simp only [visF]
  have key:∀ (ys:List Id) (o:List Id),(∀ y∈ys,∃ t∈l,t.node=y∧t.par=x)→Outs l o→(x=rootI∨x∈o) →
    Outs l (ys.foldl (fun o y=>if y∈rootI :: o then o else visF n l y (o ++ [y])) o)∧∀ z∈o,z∈ys.foldl (fun o y=>if y∈rootI :: o then o else visF n l y (o ++ [y])) o:=by
   intro ys
   induction ys with
   | nil=>intro o _ ho _; exact ⟨ho,fun z hz=>hz⟩
   | cons y ys ihy =>
    intro o hys ho hxo
    simp only [List.foldl_cons]
    by_cases q:y∈rootI :: o
    ·rw [if_pos q]
     exact ihy o (fun z hz=>hys z (List.mem_cons_of_mem _ hz)) ho hxo
    ·rw [if_neg q]
     have q1:y≠rootI:=fun e=>q (e▸List.mem_cons_self ..)
     have q2:y ∉ o:=fun e=>q (List.mem_cons_of_mem _ e)
     obtain ⟨t,ht,he,hp⟩:=hys y (List.mem_cons_self ..)
     have hs:Outs l (o ++ [y]):=.snoc ho q2 q1 t ht he (by rw [hp]; exact hxo)
     obtain ⟨k1,k2⟩:=ih y (o ++ [y]) hs (.inr (by simp))
     have hxo':x=rootI∨x∈visF n l y (o ++ [y]):=hxo.imp_right fun h=>k2 _ (List.mem_append_left _ h)
     obtain ⟨m1,m2⟩:=ihy _ (fun z hz=>hys z (List.mem_cons_of_mem _ hz)) k1 hxo'
     exact ⟨m1,fun z hz=>m2 z (k2 z (List.mem_append_left _ hz))⟩
  exact key _ _ (fun y hy=>ch_mem hy) h hx
theorem walk_ok (l:List TN):Outs l (walkF l):=(vis_ok l _ rootI [] .nil (.inl rfl)).1
def cho (m:Spots):Nat→Id→Option Id
 | 0,x=>some x
 | j+1,x=>match alook m x with | none=>none | some t=>cho m j t.par
theorem cho_add (m:Spots):∀ (i j:Nat) (x:Id),cho m (i+j) x=(cho m i x).bind (cho m j)
 | 0,j,x=>by simp [cho]
 | i+1,j,x=>by
  rw [show i+1+j=(i+j)+1 by omega]
  simp only [cho]
  cases alook m x with
  | none=>rfl
  | some t=>exact cho_add m i j t.par
structure Tree (m:Spots):Prop where
 ok:OkM m
 no:∀ x∈kys m,x≠rootI∧x≠binI0
 en:∀ x∈kys m,∃ j up,cho m j x=some up∧(up=rootI∨up=binI0)
theorem Tree.up_none {m:Spots} (T:Tree m) {up:Id} (h:up=rootI∨up=binI0):alook m up=none:=by
 rw [alook_none]
 intro q
 rcases h with rfl | rfl
 ·exact (T.no _ q).1 rfl
 ·exact (T.no _ q).2 rfl
theorem Tree.no_cyc {m:Spots} (T:Tree m) {x:Id} (hx:x∈kys m) {p:Nat} (hp:0<p):cho m p x≠some x:=by
 intro hc
 obtain ⟨j,up,hj,hu⟩:=T.en x hx
 have hn:=T.up_none hu
 have key:∀ n j,j≤n→cho m j x=some up→False:=by
  intro n
  induction n with
  | zero =>
   intro j hj0 hj
   have e:j=0:=by omega
   subst e
   simp only [cho,Option.some.injEq] at hj
   subst hj
   rw [alook_none] at hn
   exact hn hx
  | succ n ih =>
   intro j hjn hj
   by_cases q:j<p
   ·have e:p=j+(p-j):=by omega
    rw [e,cho_add,hj] at hc
    obtain ⟨d,hd⟩:∃ d,p-j=d+1:=⟨p-j-1,by omega⟩
    rw [hd] at hc
    simp only [Option.bind_some,cho,hn] at hc
    cases hc
   ·have e:j=p+(j-p):=by omega
    rw [e,cho_add,hc] at hj
    exact ih (j-p) (by omega) hj
 exact key j j (Nat.le_refl _) hj
theorem look_fnd {l:List TN} (hn:(l.map TN.node).Nodup) {x:Id} {k:Nat} (h:fndT l x=some k):alook (addM l) x=some (nth l k):=by
 obtain ⟨h1,h2⟩:=fnd_spec h
 refine alook_of_mem (addM_ok l).nd ?_
 rw [addM_nodup hn]
 exact List.mem_map.2 ⟨nth l k,nth_mem h1,by rw [h2]⟩
theorem bel_true {l:List TN} (hn:(l.map TN.node).Nodup) {up:Id}:∀ {n:Nat} {x:Id},belF n l x up=true→∃ j,cho (addM l) j x=some up:=by
 intro n
 induction n with
 | zero=>intro x h; simp [belF] at h
 | succ n ih =>
  intro x h
  simp only [belF] at h
  split at h
  ·rename_i q; exact ⟨0,by rw [q]; rfl⟩
  ·split at h
   ·rename_i k q
    obtain ⟨j,hj⟩:=ih h
    exact ⟨j+1,by simp only [cho,look_fnd hn q]; exact hj⟩
   ·cases h
theorem lessB_iff (a b:Id):lessB a b=true↔lessZ a b<0:=by
 have e:lessZ a b=orI [cmpA a.a b.a,cmpI a.n b.n]:=rfl
 have l1:=strLt_eq a.a b.a
 have c:=cmpS_eq a.a b.a
 rw [e]
 unfold lessB
 simp only [orI]
 by_cases q:a.a=b.a
 ·have q2:=c.2 q
  rw [if_pos q]
  have:cmpA a.a b.a=0:=by unfold cmpA sg3; rw [q2]; rfl
  rw [if_neg (by omega)]
  unfold cmpI
  simp only [decide_eq_true_eq]
  repeat' split
  all_goals omega
 ·have q2:cmpS a.a b.a≠0:=fun h=>q (c.1 h)
  rw [if_neg q,l1]
  have:cmpA a.a b.a=if cmpS a.a b.a<0 then -1 else 1:=by
   unfold cmpA sg3
   split
   ·rfl
   ·rw [if_pos (by omega)]
  rw [this]
  simp only [decide_eq_true_eq]
  repeat' split
  all_goals omega
theorem chk_parts {l:List TN} (h:chkT l=true) {i:Nat} (hi:i<l.length):chk1 l i=true:=by
 unfold chkT at h
 rw [List.all_eq_true] at h
 exact h i (List.mem_range.2 hi)
theorem pw_chain {l:List TN} (h:∀ i,0<i→i<l.length→cmpN' (nth l (i-1)) (nth l i)<0):∀ i j,i<j→j<l.length→cmpN' (nth l i) (nth l j)<0:=by
 intro i j hij
 induction j with
 | zero=>omega
 | succ j ih =>
  intro hj
  have h1:=h (j+1) (by omega) hj
  rw [show j+1-1=j by omega] at h1
  by_cases q:i=j
  ·subst q; exact h1
  ·have h2:=ih (by omega) (by omega)
   exact cmpN_pre.lt_le h2 (by omega)
theorem chk_less {l:List TN} (h:chkT l=true):l.Pairwise fun a b=>cmpN' a b<0:=by
 rw [List.pairwise_iff_getElem]
 intro i j hi hj hij
 have key:=pw_chain (l:=l) (fun i h0 hi=>by
  have h1:=chk_parts h hi
  unfold chk1 at h1
  simp only [Bool.and_eq_true,Bool.or_eq_true,decide_eq_true_eq] at h1
  rcases h1.2.1 with q | q
  ·omega
  ·exact (lessB_iff _ _).1 q) i j hij hj
 rw [nth_eq hi,nth_eq hj] at key
 exact key
theorem less_nodup {l:List TN} (h:l.Pairwise fun a b=>cmpN' a b<0):(l.map TN.node).Nodup:=by
 rw [List.Nodup,List.pairwise_map]
 refine h.imp fun {a b} h e=>?_
 have:cmpN' a b=cmpN' a a:=by show lessZ a.node b.node=lessZ a.node a.node; rw [e]
 rw [this,cmpN_pre.rf] at h
 omega
theorem chk_tree {l:List TN} (h:chkT l=true):Tree (addM l):=by
 have hn:=less_nodup (chk_less h)
 have hk:∀ x∈kys (addM l),∃ i,i<l.length∧(nth l i).node=x:=by
  intro x hx
  rw [addM_nodup hn] at hx
  simp only [kys,List.map_map] at hx
  obtain ⟨t,ht,rfl⟩:=List.mem_map.1 hx
  obtain ⟨i,hi,e⟩:=List.mem_iff_getElem.1 ht
  exact ⟨i,hi,by rw [nth_eq hi,e]; rfl⟩
 refine ⟨addM_ok l,fun x hx=>?_,fun x hx=>?_⟩
 ·obtain ⟨i,hi,rfl⟩:=hk x hx
  have h1:=chk_parts h hi
  unfold chk1 at h1
  simp only [Bool.and_eq_true,Bool.or_eq_true,decide_eq_true_eq] at h1
  have h2:=h1.1.2.1
  constructor
  ·intro e; rw [e] at h2; simp [rootI] at h2
  ·intro e; rw [e] at h2; simp [binI0] at h2
 ·obtain ⟨i,hi,rfl⟩:=hk x hx
  have h1:=chk_parts h hi
  unfold chk1 at h1
  simp only [Bool.and_eq_true,Bool.or_eq_true,decide_eq_true_eq] at h1
  rcases h1.2.2 with q | q
  ·obtain ⟨j,hj⟩:=bel_true hn q
   exact ⟨j,_,hj,.inl rfl⟩
  ·obtain ⟨j,hj⟩:=bel_true hn q
   exact ⟨j,_,hj,.inr rfl⟩
section
variable {m:Spots} {s:TN} {e1 e2:Edit}
end
theorem mem_addM {l:List TN} (hn:(l.map TN.node).Nodup) {t:TN}:t∈l↔(t.node,t)∈addM l:=by
 rw [addM_nodup hn]
 constructor
 ·intro h; exact List.mem_map_of_mem (f:=fun t:TN=>(t.node,t)) h
 ·intro h
  obtain ⟨t',h1,h2⟩:=List.mem_map.1 h
  injection h2 with h2 h3
  rw [← h3]; exact h1
theorem look_keys {m:Spots} {x:Id} {t:TN} (h:alook m x=some t):x∈kys m:=List.mem_map_of_mem (f:=Prod.fst) (alook_pair h)
theorem cho_mid {m:Spots} {j i:Nat} {x y:Id} (h:cho m j x=some y) (hi:i<j):∃ z,cho m i x=some z∧z∈kys m∧cho m (j-i) z=some y:=by
 have e:j=i+(j-i):=by omega
 rw [e,cho_add] at h
 cases q:cho m i x with
 | none=>rw [q] at h; cases h
 | some z =>
  rw [q] at h
  simp only [Option.bind_some] at h
  refine ⟨z,rfl,?_,h⟩
  obtain ⟨d,hd⟩:∃ d,j-i=d+1:=⟨j-i-1,by omega⟩
  rw [hd] at h
  simp only [cho] at h
  cases q2:alook m z with
  | none=>rw [q2] at h; cases h
  | some t=>exact look_keys q2
theorem Tree.cho_len {m:Spots} (T:Tree m) {x up:Id} {j:Nat} (h:cho m j x=some up):j≤m.length:=by
 have hz:∀ i,i<j→∃ z,cho m i x=some z∧z∈kys m∧cho m (j-i) z=some up:=fun i hi=>cho_mid h hi
 obtain ⟨f,hf⟩:∃ f:Nat→Id,∀ i,f i=(cho m i x).getD rootI:=⟨fun i=>(cho m i x).getD rootI,fun _=>rfl⟩
 have hfz:∀ i,i<j→cho m i x=some (f i)∧f i∈kys m:=by
  intro i hi
  obtain ⟨z,h1,h2,_⟩:=hz i hi
  have:f i=z:=by rw [hf,h1]; rfl
  rw [this]; exact ⟨h1,h2⟩
 have hnd:((List.range j).map f).Nodup:=by
  rw [List.Nodup,List.pairwise_map]
  refine (List.pairwise_lt_range).imp_of_mem fun {a b} ha hb hab e=>?_
  have ha':=List.mem_range.1 ha
  have hb':=List.mem_range.1 hb
  obtain ⟨a1,a2⟩:=hfz a ha'
  obtain ⟨b1,b2⟩:=hfz b hb'
  have e2:b=a+(b-a):=by omega
  rw [e2,cho_add,a1] at b1
  simp only [Option.bind_some] at b1
  rw [← e2,← e] at b1
  exact T.no_cyc a2 (by omega) b1
 have:=nodup_len hnd (A:=kys m) fun y hy=>by
  obtain ⟨i,hi,rfl⟩:=List.mem_map.1 hy
  exact (hfz i (List.mem_range.1 hi)).2
 simpa [kys] using this
theorem Tree.climb {m:Spots} (T:Tree m) {top:Id}:∀ (j n:Nat) (ms:List Id) (x:Id),n+ms.length=m.length+1→ms.Nodup→(∀ z∈ms,z∈kys m∧∃ p,0<p∧cho m p z=some x)→cho m j x=some top→climbF n m ms x top=true:=by
 intro j
 induction j with
 | zero =>
  intro n ms x hn hd hz h
  have hl:ms.length≤m.length:=by
   have:=nodup_len hd (A:=kys m) fun y hy=>(hz y hy).1
   simpa [kys] using this
  obtain ⟨n',rfl⟩:∃ n',n=n'+1:=⟨n-1,by omega⟩
  simp only [cho,Option.some.injEq] at h
  simp [climbF,h]
 | succ j ih =>
  intro n ms x hn hd hz h
  have hl:ms.length≤m.length:=by
   have:=nodup_len hd (A:=kys m) fun y hy=>(hz y hy).1
   simpa [kys] using this
  obtain ⟨n',rfl⟩:∃ n',n=n'+1:=⟨n-1,by omega⟩
  simp only [climbF]
  by_cases q:x=top
  ·rw [if_pos q]
  ·rw [if_neg q]
   simp only [cho] at h
   cases q2:alook m x with
   | none=>rw [q2] at h; cases h
   | some t =>
    rw [q2] at h
    have hx:=look_keys q2
    have hxm:x ∉ ms:=fun hm=>by
     obtain ⟨_,p,hp,hc⟩:=hz x hm
     exact T.no_cyc hx hp hc
    simp only [if_neg hxm]
    refine ih n' (ms ++ [x]) t.par (by simp; omega) ?_ ?_ h
    ·rw [List.nodup_append]
     exact ⟨hd,by simp,fun a ha b hb=>by simp at hb; subst hb; exact fun e=>hxm (e▸ha)⟩
    ·intro z hzm
     rcases List.mem_append.1 hzm with hz1 | hz1
     ·obtain ⟨k1,p,hp,hc⟩:=hz z hz1
      refine ⟨k1,p+1,by omega,?_⟩
      rw [cho_add,hc]
      simp [cho,q2]
     ·rw [List.mem_singleton.1 hz1]
      exact ⟨hx,1,by omega,by simp [cho,q2]⟩
theorem Tree.und_of {m:Spots} (T:Tree m) {x top:Id} {j:Nat} (h:cho m j x=some top):undF m x top=true :=
 T.climb j (m.length+1) [] x (by simp) List.nodup_nil (fun z hz=>nomatch hz) h
theorem cho_keep {m:Spots} {k:Id} {t:TN}:∀ (j:Nat) (x y:Id),cho m j x=some y→(∀ i,i<j→cho m i x≠some k)→cho (aput m k t) j x=some y:=by
 intro j
 induction j with
 | zero=>intro x y h _; exact h
 | succ j ih =>
  intro x y h hk
  have h0:x≠k:=fun e=>hk 0 (by omega) (by rw [e]; rfl)
  simp only [cho] at h ⊢
  rw [alook_aput,if_neg (fun e=>h0 e.symm)]
  cases q:alook m x with
  | none=>rw [q] at h; cases h
  | some u =>
   rw [q] at h
   exact ih u.par y h fun i hi e=>hk (i+1) (by omega) (by simp only [cho,q]; exact e)
theorem cho_first {m:Spots} {k:Id}:∀ (j:Nat) (x y:Id),cho m j x=some y→(∀ i,i<j→cho m i x≠some k)∨∃ i,i<j∧cho m i x=some k∧∀ i',i'<i→cho m i' x≠some k:=by
 intro j
 induction j with
 | zero=>intro x y _; exact .inl fun i hi=>by omega
 | succ j ih =>
  intro x y h
  by_cases q:x=k
  ·exact .inr ⟨0,by omega,by rw [q]; rfl,fun i' hi'=>by omega⟩
  ·simp only [cho] at h
   cases q2:alook m x with
   | none=>rw [q2] at h; cases h
   | some u =>
    rw [q2] at h
    rcases ih u.par y h with h1 | ⟨i,hi,h1,h2⟩
    ·refine .inl fun i hi e=>?_
     cases i with
     | zero=>simp only [cho,Option.some.injEq] at e; exact q e
     | succ i=>simp only [cho,q2] at e; exact h1 i (by omega) e
    ·refine .inr ⟨i+1,by omega,by simp only [cho,q2]; exact h1,fun i' hi' e=>?_⟩
     cases i' with
     | zero=>simp only [cho,Option.some.injEq] at e; exact q e
     | succ i'=>simp only [cho,q2] at e; exact h2 i' (by omega) e
theorem aput_kys {m:Spots} {k x:Id} {t:TN} (h:x∈kys (aput m k t)):x=k∨x∈kys m:=by
 rw [show kys (aput m k t)=_ from aput_keys] at h
 split at h
 ·exact .inr h
 ·rcases List.mem_append.1 h with q | q
  ·exact .inr q
  ·exact .inl (List.mem_singleton.1 q)
theorem Tree.step {m:Spots} (T:Tree m) {e:Edit} (he:e.id≠rootI∧e.id≠binI0):Tree (stepM m e):=by
 have hpar:∀ p,parB m e=true→p=e.parent→∃ j up,cho m j p=some up∧(up=rootI∨up=binI0):=by
  intro p hp e1
  subst e1
  unfold parB at hp
  rw [Bool.or_eq_true,decide_eq_true_eq] at hp
  rcases hp with q | q
  ·cases q2:alook m e.parent with
   | none=>rw [q2] at q; cases q
   | some t=>exact T.en _ (look_keys q2)
  ·exact ⟨0,e.parent,rfl,.inl q⟩
 unfold stepM
 split
 ·split
  ·rename_i hk hc
   rw [Bool.and_eq_true] at hc
   have hnone:alook m e.id=none:=by
    cases q:alook m e.id with
    | none=>rfl
    | some t=>rw [q] at hc; simp at hc
   have hno:∀ {j:Nat} {x y:Id},cho m j x=some y→∀ i,i<j→cho m i x≠some e.id:=by
    intro j x y h i hi e2
    obtain ⟨z,h1,h2,_⟩:=cho_mid h hi
    rw [e2] at h1
    injection h1 with h1
    rw [alook_none] at hnone
    exact hnone (h1▸h2)
   refine ⟨okM_put T.ok rfl,fun x hx=>?_,fun x hx=>?_⟩
   ·rcases aput_kys hx with q | q
    ·rw [q]; exact he
    ·exact T.no x q
   ·by_cases q:x=e.id
    ·obtain ⟨j,up,hj,hu⟩:=hpar e.parent hc.2 rfl
     refine ⟨j+1,up,?_,hu⟩
     rw [q]
     simp only [cho,alook_aput,if_true]
     exact cho_keep j _ _ hj (hno hj)
    ·rcases aput_kys hx with q2 | q2
     ·exact absurd q2 q
     ·obtain ⟨j,up,hj,hu⟩:=T.en x q2
      exact ⟨j,up,cho_keep j _ _ hj (hno hj),hu⟩
  ·exact T
 ·split
  ·split
   ·rename_i s hs
    split
    ·rename_i hc
     rw [Bool.and_eq_true,Bool.or_eq_true,decide_eq_true_eq,Bool.not_eq_true'] at hc
     have hx0:=look_keys hs
     have hp:∃ j up,cho m j e.parent=some up∧(up=rootI∨up=binI0):=by
      rcases hc.1 with q | q
      ·exact hpar _ q rfl
      ·exact ⟨0,e.parent,rfl,.inr q⟩
     obtain ⟨jp,upp,hjp,hup⟩:=hp
     have hav:∀ i,cho m i e.parent≠some e.node:=fun i e2=>by
      rw [T.und_of e2] at hc; exact absurd hc.2 (by simp)
     have hpm:=cho_keep (k:=e.node) (t:=⟨s.node,e.parent,plc e,s.kind⟩) jp _ _ hjp fun i _=>hav i
     have hnode:cho (aput m e.node ⟨s.node,e.parent,plc e,s.kind⟩) (jp+1) e.node=some upp:=by
      simp only [cho,alook_aput,if_true]; exact hpm
     refine ⟨okM_put T.ok (T.ok.key _ (alook_pair hs)),fun x hx=>?_,fun x hx=>?_⟩
     ·rcases aput_kys hx with q | q
      ·rw [q]; exact T.no _ hx0
      ·exact T.no x q
     ·have hxm:x∈kys m:=by
       rcases aput_kys hx with q | q
       ·rw [q]; exact hx0
       ·exact q
      obtain ⟨j,up,hj,hu⟩:=T.en x hxm
      rcases cho_first (k:=e.node) j x up hj with h1 | ⟨i,hi,h1,h2⟩
      ·exact ⟨j,up,cho_keep j _ _ hj h1,hu⟩
      ·refine ⟨i+(jp+1),upp,?_,hup⟩
       rw [cho_add,cho_keep i _ _ h1 h2]
       exact hnode
    ·exact T
   ·exact T
  ·exact T
theorem Tree.run {m:Spots} (T:Tree m) {es:List Edit} (he:∀ e∈es,e.id≠rootI∧e.id≠binI0):Tree (runM m es):=by
 unfold runM
 induction es generalizing m with
 | nil=>exact T
 | cons e es ih=>exact ih (T.step (he e (List.mem_cons_self ..))) fun e' h=>he e' (List.mem_cons_of_mem _ h)
theorem few_len {l:List TN} {es:List Edit} (h:fewT l es=true):l.length≤12∧es.length≤20∧sptT l=true:=by
 unfold fewT at h
 simp only [Bool.and_eq_true,decide_eq_true_eq] at h
 exact ⟨h.1.1,h.1.2.1,h.1.2.2⟩
theorem app_len (l:List TN) (es:List Edit):(appF l es).length≤l.length+es.length:=by
 have h1:=addM_len l
 have h2:=runM_len es (addM l)
 have h3:=(ssort_perm cmpN' ((runM (addM l) es).map Prod.snd)).length_eq
 rw [List.length_map] at h3
 show (ssort cmpN' _).length≤_
 omega
theorem spt_parts {l:List TN} (h:sptT l=true):l.length≤40∧(∀ t∈l,OkQ t.pl)∧chkT l=true:=by
 unfold sptT at h
 simp only [Bool.and_eq_true,decide_eq_true_eq,List.all_eq_true] at h
 refine ⟨h.1,fun t ht=>?_,h.2.2⟩
 obtain ⟨i,hi,e⟩:=List.mem_iff_getElem.1 ht
 have h1:=h.2.1 i (List.mem_range.2 hi)
 rw [nth_eq hi,e] at h1
 unfold spB at h1
 simp only [Bool.and_eq_true,decide_eq_true_eq] at h1
 have h2:=h1.2.1
 unfold fitsR at h2
 simp only [Bool.and_eq_true,decide_eq_true_eq] at h2
 exact ⟨by rw [← h1.1.2.1]; omega,by rw [← h1.1.2.2]; omega⟩
theorem app_pl (P:Nv.Rt→Prop) {l:List TN} {es:List Edit} (h1:∀ t∈l,P t.pl) (h2:∀ e∈es,P (plc e)):∀ t∈appF l es,P t.pl:=by
 have key:∀ (es:List Edit) (m:Spots),(∀ p∈m,P p.2.pl)→(∀ e∈es,P (plc e))→∀ p∈runM m es,P p.2.pl:=by
  intro es
  induction es with
  | nil=>intro m hm _; exact hm
  | cons e es ih =>
   intro m hm he
   refine ih _ (fun p hp=>?_) fun e' h'=>he e' (List.mem_cons_of_mem _ h')
   have hpe:=he e (List.mem_cons_self ..)
   unfold stepM at hp
   split at hp
   ·split at hp
    ·rcases aput_mem hp with q | q
     ·rw [q]; exact hpe
     ·exact hm p q
    ·exact hm p hp
   ·split at hp
    ·split at hp
     ·split at hp
      ·rcases aput_mem hp with q | q
       ·rw [q]; exact hpe
       ·exact hm p q
      ·exact hm p hp
     ·exact hm p hp
    ·exact hm p hp
 have hadd:∀ (l:List TN) (m:Spots),(∀ p∈m,P p.2.pl)→(∀ t∈l,P t.pl)→∀ p∈l.foldl (fun m t=>aput m t.node t) m,P p.2.pl:=by
  intro l
  induction l with
  | nil=>intro m hm _; exact hm
  | cons t l ih =>
   intro m hm hl
   refine ih _ (fun p hp=>?_) fun t' h'=>hl t' (List.mem_cons_of_mem _ h')
   rcases aput_mem hp with q | q
   ·rw [q]; exact hl t (List.mem_cons_self ..)
   ·exact hm p q
 intro t ht
 unfold appF at ht
 rw [(ssort_perm cmpN' _).mem_iff] at ht
 obtain ⟨p,hp,rfl⟩:=List.mem_map.1 ht
 exact key es (addM l) (hadd l [] (fun p hp=>nomatch hp) h1) h2 p hp
theorem walk_len (l:List TN):(walkF l).length≤l.length:=by
 have hW:=walk_ok l
 have:=nodup_len (A:=l.map TN.node) hW.nodup fun y hy=>by
  obtain ⟨t,ht,he,_⟩:=hW.mem hy
  rw [← he]; exact List.mem_map_of_mem ht
 rwa [List.length_map] at this
def tC (s:TN):List C:=[.d (.v (.string s.node.a)),.d (.v (.int .i64 s.node.n)),.d (.v (.string s.par.a)),.d (.v (.int .i64 s.par.n)),.d (.v (.bool s.pl.neg)),.d (.v (.string s.pl.num)),.d (.v (.string s.pl.den)),.d (.v (.string s.kind))]
theorem fnd_ex {g:List TN} {x:Id} (h:x∈g.map TN.node):∃ k,fndT g x=some k:=by
 cases q:fndT g x with
 | some k=>exact ⟨k,rfl⟩
 | none =>
  exfalso
  unfold fndT at q
  rw [List.findIdx?_eq_none_iff] at q
  obtain ⟨t,ht,rfl⟩:=List.mem_map.1 h
  have:=q t ht
  simp at this
theorem kys_addM {g:List TN} (hn:(g.map TN.node).Nodup) {x:Id}:x∈kys (addM g)↔x∈g.map TN.node:=by
 rw [addM_nodup hn]
 simp [kys]
theorem bel_of {g:List TN} (hn:(g.map TN.node).Nodup) {up:Id}:∀ (j n:Nat) (x:Id),j<n→cho (addM g) j x=some up→belF n g x up=true:=by
 intro j
 induction j with
 | zero =>
  intro n x hjn h
  obtain ⟨n',rfl⟩:∃ n',n=n'+1:=⟨n-1,by omega⟩
  simp only [cho,Option.some.injEq] at h
  simp [belF,h]
 | succ j ih =>
  intro n x hjn h
  obtain ⟨n',rfl⟩:∃ n',n=n'+1:=⟨n-1,by omega⟩
  simp only [belF]
  by_cases q:x=up
  ·rw [if_pos q]
  ·rw [if_neg q]
   simp only [cho] at h
   cases q2:alook (addM g) x with
   | none=>rw [q2] at h; cases h
   | some t =>
    rw [q2] at h
    obtain ⟨k,hk⟩:=fnd_ex ((kys_addM hn).1 (look_keys q2))
    have e:=look_fnd hn hk
    rw [q2] at e
    injection e with e
    rw [hk]
    show belF n' g (nth g k).par up=true
    rw [← e]
    exact ih n' t.par (by omega) h
theorem cho_perm {m m':Spots} (h:∀ x,alook m x=alook m' x):∀ (j:Nat) (x:Id),cho m j x=cho m' j x:=by
 intro j
 induction j with
 | zero=>intro x; rfl
 | succ j ih =>
  intro x
  simp only [cho,h x]
  split
  ·rfl
  ·exact ih _
theorem Tree.perm {m m':Spots} (T:Tree m) (h:m.Perm m'):Tree m':=by
 have ha:=alook_perm h T.ok.nd
 have hk:∀ x,x∈kys m'→x∈kys m:=fun x hx=>((h.map Prod.fst).mem_iff).2 hx
 refine ⟨okM_perm h T.ok,fun x hx=>T.no x (hk x hx),fun x hx=>?_⟩
 obtain ⟨j,up,hj,hu⟩:=T.en x (hk x hx)
 exact ⟨j,up,by rw [← cho_perm ha]; exact hj,hu⟩
structure NodeOk (x:Id):Prop where
 a:authB x.a=true
 l:1≤x.n
 u:x.n≤1000000000
theorem NodeOk.no {x:Id} (h:NodeOk x):x≠rootI∧x≠binI0:=by
 have:=h.l
 constructor
 ·intro e; rw [e] at this; simp [rootI] at this
 ·intro e; rw [e] at this; simp [binI0] at this
theorem chkE_node {e:Edit} (h:chkE e=0):NodeOk e.id:=by
 unfold chkE at h
 by_cases h1:authB e.id.a=false
 ·rw [if_pos h1] at h; omega
 ·rw [if_neg h1] at h
  by_cases h2:rngB e=true
  ·rw [if_pos h2] at h; omega
  ·unfold rngB at h2
   simp only [Bool.or_eq_true,not_or,Bool.not_eq_true',Bool.not_eq_false] at h2
   have h3:=h2.1
   unfold validI at h3
   simp only [Bool.and_eq_true,decide_eq_true_eq] at h3
   exact ⟨by simpa using h1,by omega,by omega⟩
theorem step_keys {m:Spots} {e:Edit} {x:Id} (h:x∈kys (stepM m e)):x∈kys m∨x=e.id:=by
 unfold stepM at h
 split at h
 ·split at h
  ·exact (aput_kys h).symm
  ·exact .inl h
 ·split at h
  ·split at h
   ·rename_i s hs
    split at h
    ·rcases aput_kys h with q | q
     ·rw [q]; exact .inl (look_keys hs)
     ·exact .inl q
    ·exact .inl h
   ·exact .inl h
  ·exact .inl h
theorem run_keys {es:List Edit}:∀ {m:Spots} {x:Id},x∈kys (runM m es)→x∈kys m∨∃ e∈es,x=e.id:=by
 unfold runM
 induction es with
 | nil=>intro m x h; exact .inl h
 | cons e es ih =>
  intro m x h
  rcases ih h with q | ⟨e',h1,h2⟩
  ·rcases step_keys q with q2 | q2
   ·exact .inl q2
   ·exact .inr ⟨e,List.mem_cons_self ..,q2⟩
  ·exact .inr ⟨e',List.mem_cons_of_mem _ h1,h2⟩
theorem step_kind {m:Spots} {e:Edit} {x:Id} {t:TN} (h:alook m x=some t):∃ t',alook (stepM m e) x=some t'∧t'.kind=t.kind:=by
 unfold stepM
 split
 ·split
  ·rename_i hc
   rw [Bool.and_eq_true] at hc
   have hx:¬ e.id=x:=fun q=>by rw [q,h] at hc; simp at hc
   exact ⟨t,by rw [alook_aput,if_neg hx]; exact h,rfl⟩
  ·exact ⟨t,h,rfl⟩
 ·split
  ·split
   ·rename_i s hs
    split
    ·by_cases q:e.node=x
     ·rw [q,h] at hs
      injection hs with hs
      exact ⟨_,by rw [alook_aput,if_pos q],by rw [hs]⟩
     ·exact ⟨t,by rw [alook_aput,if_neg q]; exact h,rfl⟩
    ·exact ⟨t,h,rfl⟩
   ·exact ⟨t,h,rfl⟩
  ·exact ⟨t,h,rfl⟩
theorem run_kind {es:List Edit}:∀ {m:Spots} {x:Id} {t:TN},alook m x=some t→∃ t',alook (runM m es) x=some t'∧t'.kind=t.kind:=by
 unfold runM
 induction es with
 | nil=>intro m x t h; exact ⟨t,h,rfl⟩
 | cons e es ih =>
  intro m x t h
  obtain ⟨t1,h1,h2⟩:=step_kind (e:=e) h
  obtain ⟨t2,h3,h4⟩:=ih h1
  exact ⟨t2,h3,h4.trans h2⟩
theorem few_parts {l:List TN} {es:List Edit} (h:fewT l es=true):(∀ t∈l,OkQ t.pl)∧chkT l=true∧∀ e∈es,chkE e=0:=by
 obtain ⟨_,_,h3⟩:=few_len h
 obtain ⟨_,h4,h5⟩:=spt_parts h3
 refine ⟨h4,h5,fun e he=>?_⟩
 unfold fewT at h
 simp only [Bool.and_eq_true,List.all_eq_true] at h
 obtain ⟨i,hi,e2⟩:=List.mem_iff_getElem.1 he
 have h1:=h.2 i (List.mem_range.2 hi)
 rw [nth_eq hi,e2] at h1
 unfold fw1 at h1
 simp only [Bool.and_eq_true,decide_eq_true_eq] at h1
 exact h1.2
theorem chk_node {l:List TN} (h:chkT l=true):∀ t∈l,NodeOk t.node:=by
 intro t ht
 obtain ⟨i,hi,e⟩:=List.mem_iff_getElem.1 ht
 have h1:=chk_parts h hi
 unfold chk1 at h1
 rw [nth_eq hi,e] at h1
 simp only [Bool.and_eq_true,decide_eq_true_eq] at h1
 exact ⟨h1.1.1,h1.1.2.1,h1.1.2.2⟩
theorem app_tree {l:List TN} {es:List Edit} (hc:chkT l=true) (he:∀ e∈es,chkE e=0):Tree (addM (appF l es)) :=
 ((chk_tree hc).run fun e h=>(chkE_node (he e h)).no).perm (addM_app l es).symm
theorem app_node {l:List TN} {es:List Edit} (hc:chkT l=true) (he:∀ e∈es,chkE e=0):∀ t∈appF l es,NodeOk t.node:=by
 intro t ht
 have hn:=less_nodup (chk_less hc)
 have h1:t.node∈kys (addM (appF l es)):=(kys_addM (app_nodup l es)).2 (List.mem_map_of_mem ht)
 have h2:t.node∈kys (runM (addM l) es):=(((addM_app l es).map Prod.fst).mem_iff).1 h1
 rcases run_keys h2 with q | ⟨e,h3,h4⟩
 ·obtain ⟨u,hu,e⟩:=List.mem_map.1 ((kys_addM hn).1 q)
  rw [← e]; exact chk_node hc u hu
 ·rw [h4]; exact chkE_node (he e h3)
theorem app_chk {l:List TN} {es:List Edit} (hc:chkT l=true) (he:∀ e∈es,chkE e=0):chkT (appF l es)=true:=by
 have T:=app_tree hc he
 have hN:=app_node hc he
 have hn:=app_nodup l es
 have hs:=sort_strict hn (app_srt l es)
 obtain ⟨g,hg⟩:∃ g,g=appF l es:=⟨_,rfl⟩
 rw [← hg] at T hN hn hs ⊢
 refine chkT_all fun i hi=>?_
 have ht:nth g i∈g:=nth_mem hi
 have h1:=hN _ ht
 have h2:i=0∨lessB (nth g (i-1)).node (nth g i).node=true:=by
  by_cases q:i=0
  ·exact .inl q
  ·refine .inr ((lessB_iff _ _).2 ?_)
   have:=List.pairwise_iff_getElem.1 hs (i-1) i (by omega) hi (by omega)
   rw [nth_eq hi,nth_eq (show i-1<g.length by omega)]
   exact this
 have h3:belB g (nth g i).node rootI=true∨belB g (nth g i).node binI0=true:=by
  obtain ⟨j,up,hj,hu⟩:=T.en _ ((kys_addM hn).2 (List.mem_map_of_mem ht))
  have hjl:=T.cho_len hj
  have hgl:(addM g).length=g.length:=by rw [addM_nodup hn,List.length_map]
  have:=bel_of hn j (g.length+1) _ (by omega) hj
  rcases hu with rfl | rfl
  ·exact .inl this
  ·exact .inr this
 unfold chk1
 simp only [Bool.and_eq_true,Bool.or_eq_true,decide_eq_true_eq]
 exact ⟨⟨h1.a,h1.l,h1.u⟩,h2,h3⟩
theorem app_kind {l:List TN} {es:List Edit} (hc:chkT l=true) {t:TN} (ht:t∈l):∃ k,fndT (appF l es) t.node=some k∧(nth (appF l es) k).kind=t.kind:=by
 have hn:=less_nodup (chk_less hc)
 have h1:=alook_of_mem (addM_ok l).nd ((mem_addM hn).1 ht)
 obtain ⟨t',h2,h3⟩:=run_kind (es:=es) h1
 rw [alook_perm (addM_app l es).symm (runM_ok (addM_ok l) es).nd] at h2
 have hn2:=app_nodup l es
 obtain ⟨k,hk⟩:=fnd_ex ((kys_addM hn2).1 (look_keys h2))
 refine ⟨k,hk,?_⟩
 have:=look_fnd hn2 hk
 rw [h2] at this
 injection this with this
 rw [← this]; exact h3
noncomputable def metB (p:Id) (o:List Id):Bool:=open Classical in decide (p=rootI∨p∈o)
theorem metB_0 (p:Id):metB p []=decide (p=rootI):=by unfold metB; simp
theorem metB_snoc (p:Id) (o:List Id) (y:Id):metB p (o ++ [y])=(metB p o || decide (y=p)):=by
 unfold metB
 rw [Bool.eq_iff_iff]
 simp only [Bool.or_eq_true,decide_eq_true_eq,List.mem_append,List.mem_singleton]
 constructor
 ·rintro (h | h | h)
  ·exact .inl (.inl h)
  ·exact .inl (.inr h)
  ·exact .inr h.symm
 ·rintro ((h | h) | h)
  ·exact .inl h
  ·exact .inr (.inl h)
  ·exact .inr (.inr h.symm)
theorem fnd_at {g:List TN} {x:Id} {p:Nat} (h:fndT g x=some p):atF g x=(p:Int):=by unfold atF; rw [h]
theorem plcB_ok {x:Nv.Rt} (h:plcB x=true):OkQ x:=by
 unfold plcB fitsR at h
 simp only [Bool.and_eq_true,decide_eq_true_eq] at h
 exact ⟨by rw [← h.1.2.1]; omega,by rw [← h.1.2.2]; omega⟩
theorem zP_ok {x:Nv.Rt} (h:zP x=true):OkQ x:=by
 unfold zP zS at h
 simp only [Bool.and_eq_true,decide_eq_true_eq] at h
 exact ⟨by rw [h.2.1]; decide,by rw [h.2.2]; decide⟩
theorem chkE_pl {e:Edit} (h:chkE e=0):OkQ (plc e):=by
 have hc:carB e=true:=by
  unfold chkE at h
  repeat' split at h
  all_goals first | omega | skip
  rename_i q
  simpa using q
 unfold carB at hc
 repeat' split at hc
 all_goals simp only [Bool.and_eq_true] at hc
 ·exact plcB_ok hc.2.2.1
 ·exact plcB_ok hc.2.2.2
 ·exact zP_ok hc.1.2.2.1
 ·exact zP_ok hc.1.2.2.1
 ·exact zP_ok hc.1.2.2.2.1
 ·exact zP_ok hc.2.2.2.1
theorem auth_size {s:ByteArray} (h:authB s=true):s.size≤24:=by
 unfold authB at h
 simp only [Bool.and_eq_true,decide_eq_true_eq] at h
 exact h.2.2
theorem k2004 (l:List TN) (es:List Edit) (h:OkT l es):ACalls Tryz.prog (GM 0) 4 [.c (.d (.sl (l.map TN.row))),.c (.d (.sl (es.map Edit.row)))] [] fun t H=>t = .bool true∧H=[]:=by
 have s1:x2009.sc=true:=rfl
 have s2:x2010.sc=true:=rfl
 have s3:x2011.sc=false:=rfl
 have s4:x2019.sc=true:=rfl
 have s5:x2020.sc=true:=rfl
 have s7:x2015.sc=false:=rfl
 have g1:=xg2009 l es h
 have g2:=xg2010
 refine acallsX (X:=[(9,x2009),(10,x2010),(11,x2011),(19,x2019),(20,x2020),(15,x2015)]) ⟨kx2009.gm,kx2010,kx2011,kx2019.gm,kx2020.gm,kx2015.gm,trivial⟩ tab hmix Tryz.func4 c2004 (by rfl) fun hw=>?_
 cases hf:fewT l es
 ·rw [hf] at g1
  simp (implicitDefEqProofs:=false) (disch:=omega) [gz,ir2004,b2004,b2004_0,b2004_1,s1,g1,s2,g2,wrap64]
  exact fin_nil ⟨rfl,rfl⟩
 rw [hf] at g1
 obtain ⟨hl,he,_⟩:=few_len hf
 obtain ⟨hq,hc,hce⟩:=few_parts hf
 have hal:=app_len l es
 have hep:∀ e∈es,OkQ (plc e):=fun e he=>chkE_pl (hce e he)
 have hgq:=app_pl OkQ hq hep
 have hgc:=app_chk hc hce
 have hgn:=app_node hc hce
 have hk:=fun t (ht:t∈l)=>app_kind (es:=es) hc ht
 have hW:=walk_ok (appF l es)
 have hwl:=walk_len (appF l es)
 have hnd:=app_nodup l es
 have g3:=xg2011 l es (by omega) (by omega)
 have g4:=xg2019 (appF l es) (by omega) (fun t ht=>by have:=auth_size (hgn t ht).a; omega)
 rw [hgc] at g4
 have g5:=fun x:Id=>xg2020 (appF l es) x (by omega)
 have g6:=xg2015 (appF l es) hgq (by omega)
 obtain ⟨g,hg⟩:∃ g,g=appF l es:=⟨_,rfl⟩
 rw [← hg] at hal hk hW hwl hnd g3 g4 g5 g6
 obtain ⟨w,hw0⟩:∃ w,w=walkF g:=⟨_,rfl⟩
 rw [← hw0] at hW hwl g6
 have irw':∀ x:Id,x.row=[.v (.string x.a),.v (.int .i64 x.n)]:=fun _=>rfl
 simp (implicitDefEqProofs:=false) (disch:=omega) [gz,ir2004,b2004,b2004_0,b2004_1,b2004_2,b2004_3,b2004_4,s1,g1,s3,g3,s4,g4,wrap64,fillC,splice,toPVs,toPV,frzVs,osVs]
 repeat' (with_reducible apply And.intro)
 all_goals first | omega | kernel_rfl | exact fun _ _=>rfl | skip
 refine loopE (fun k st=>∃ i,i≤l.length∧k=l.length-i ∧
   st=⟨ofL [(0,.v (.c (.d (.sl (l.map TN.row))))),(5,.v (.c (.d (.sl (g.map TN.row))))),(25,.int .i64 l.length),(26,.int .i64 i)],[]⟩)
  (AtS [(5,.v (.c (.d (.sl (g.map TN.row)))))] []) ?_ ?_ ?_
 ·refine wk_nil [] [0,5,25,26] rfl ⟨_,0,by omega,rfl,?_⟩
  simp
 ·rintro J M hJ hM k' st ⟨i,hi,rfl,rfl⟩
  by_cases hlt:i<l.length
  ·obtain ⟨t,ht⟩:∃ t,nth l i=t:=⟨_,rfl⟩
   obtain ⟨p,hp,hpk⟩:=hk t (by rw [← ht]; exact nth_mem hlt)
   obtain ⟨p1,_⟩:=fnd_spec hp
   have g10:=g5 t.node
   rw [fnd_at hp,irw'] at g10
   obtain ⟨u,hu⟩:∃ u,nth g p=u:=⟨_,rfl⟩
   rw [hu] at hpk
   have p0:¬ (p:Int)<0:=by omega
   simp (implicitDefEqProofs:=false) (disch:=omega) [gz,hlt,wrap64,nth_map,ht,irw',s5,g10,p0,p1,hu,trw,hpk,binSF,fillC,splice]
   repeat' (with_reducible apply And.intro)
   all_goals first | omega | kernel_rfl | exact fun _ _=>rfl | skip
   subst hJ
   refine wk_nil [] [0,5,25,26] rfl ⟨l.length-(i+1),by omega,i+1,by omega,rfl,?_⟩
   simp
  ·have:i=l.length:=by omega
   subst this
   simp (implicitDefEqProofs:=false) (disch:=omega) [gz,hlt]
   subst hM
   exact at_mk (by simp) rfl
 ·rintro _ ⟨sl,rfl⟩
  simp (implicitDefEqProofs:=false) (disch:=omega) [gz,b2004_5,b2004_6,s7,g6,wrap64,fillC,splice,toPVs,toPV,frzVs,osVs]
  repeat' (with_reducible apply And.intro)
  all_goals first | omega | kernel_rfl | exact fun _ _=>rfl | skip
  refine loopE (fun k st=>∃ i,i≤w.length∧k=w.length-i ∧
    st=⟨ofL [(5,.v (.c (.d (.sl (g.map TN.row))))),(8,.v (.c (.d (.sl (w.map Id.row))))),(55,.int .i64 w.length),(56,.int .i64 i)],[]⟩)
   (fun st=>True) ?_ ?_ ?_
  ·refine wk_nil [] [5,8,55,56] rfl ⟨_,0,by omega,rfl,?_⟩
   simp
  ·rintro J M hJ hM k' st ⟨i,hi,rfl,rfl⟩
   by_cases hlt:i<w.length
   ·obtain ⟨y,hy⟩:∃ y,nth w i=y:=⟨_,rfl⟩
    obtain ⟨t,ht,hte,htp⟩:=hW.before i hlt
    have hyw:w[i]=y:=by rw [← hy,nth_eq hlt]
    rw [hyw] at hte
    obtain ⟨p,hp⟩:=fnd_ex (g:=g) (x:=y) (by rw [← hte]; exact List.mem_map_of_mem ht)
    obtain ⟨p1,p2⟩:=fnd_spec hp
    have hu:nth g p=t:=by
     have a1:=look_fnd hnd hp
     have a2:=alook_of_mem (addM_ok g).nd ((mem_addM hnd).1 ht)
     rw [hte,a1] at a2
     injection a2
    have hmet:metB t.par (w.take i)=true:=by unfold metB; simp [htp]
    have g10:=g5 y
    rw [fnd_at hp,irw'] at g10
    have p0:¬ (p:Int)<0:=by omega
    have b1:cellsEq [.s,.i .i64] [.d (.v (.string t.par.a)),.d (.v (.int .i64 t.par.n))] [.d (.v (.string ⟨#[]⟩)),.d (.v (.int .i64 0))]=some (metB t.par []):=by rw [metB_0]; exact cells_id t.par rootI
    simp (implicitDefEqProofs:=false) (disch:=omega) [gz,hlt,wrap64,nth_map,hy,irw',s5,g10,p0,p1,hu,trw,b1,fillC,splice]
    repeat' (with_reducible apply And.intro)
    all_goals first | omega | kernel_rfl | exact fun _ _=>rfl | skip
    refine loopE (fun k st=>∃ j,j≤i∧k=i-j ∧
      st=⟨ofL [(5,.v (.c (.d (.sl (g.map TN.row))))),(8,.v (.c (.d (.sl (w.map Id.row))))),(9,.int .i64 i),(10,.int .i64 p),(11,.bool (metB t.par (w.take j))),(12,.int .i64 j),(55,.int .i64 w.length),(56,.int .i64 i)],[]⟩)
     (AtS [(5,.v (.c (.d (.sl (g.map TN.row))))),(8,.v (.c (.d (.sl (w.map Id.row))))),(11,.bool true),(55,.int .i64 w.length),(56,.int .i64 i)] []) ?_ ?_ ?_
    ·refine wk_nil [] [5,8,9,10,11,12,55,56] rfl ⟨_,0,by omega,rfl,?_⟩
     simp
    ·rintro J2 M2 hJ2 hM2 k2 st2 ⟨j,hj,rfl,rfl⟩
     by_cases hjl:j<i
     ·have hjw:j<w.length:=by omega
      obtain ⟨z,hz⟩:∃ z,nth w j=z:=⟨_,rfl⟩
      have hzy:¬ z=y:=by
       intro e
       have:=List.pairwise_iff_getElem.1 hW.nodup j i hjw hlt hjl
       rw [hyw,← e,← hz,nth_eq hjw] at this
       exact this rfl
      have b2:=cells_id z y
      rw [decide_eq_false hzy] at b2
      have b3:=cells_id z t.par
      have hnx:metB t.par (w.take (j+1))=(metB t.par (w.take j) || decide (z=t.par)):=by rw [take_nth hjw,metB_snoc,hz]
      cases hm:metB t.par (w.take j)
      ·rw [hm,Bool.false_or] at hnx
       simp (implicitDefEqProofs:=false) (disch:=omega) [gz,hjl,hlt,hjw,wrap64,nth_map,hy,hz,irw',p1,hu,trw,b2,b3,fillC,splice]
       repeat' (with_reducible apply And.intro)
       all_goals first | omega | kernel_rfl | exact fun _ _=>rfl | skip
       subst hJ2
       refine wk_nil [] [5,8,9,10,11,12,55,56] rfl ⟨i-(j+1),by omega,j+1,by omega,rfl,?_⟩
       rw [hnx]
       simp
      ·rw [hm,Bool.true_or] at hnx
       simp (implicitDefEqProofs:=false) (disch:=omega) [gz,hjl,hlt,hjw,wrap64,nth_map,hy,hz,irw',p1,hu,trw,b2,fillC,splice]
       repeat' (with_reducible apply And.intro)
       all_goals first | omega | kernel_rfl | exact fun _ _=>rfl | skip
       subst hJ2
       refine wk_nil [] [5,8,9,10,11,12,55,56] rfl ⟨i-(j+1),by omega,j+1,by omega,rfl,?_⟩
       rw [hnx]
       simp
     ·have:j=i:=by omega
      subst this
      rw [hmet]
      simp (implicitDefEqProofs:=false) (disch:=omega) [gz,hjl]
      subst hM2
      exact at_mk (by simp) rfl
    ·rintro _ ⟨sl2,rfl⟩
     simp (implicitDefEqProofs:=false) (disch:=omega) [gz,wrap64]
     repeat' (with_reducible apply And.intro)
     all_goals first | omega | kernel_rfl | exact fun _ _=>rfl | skip
     subst hJ
     refine wk_nil [] [5,8,55,56] rfl ⟨w.length-(i+1),by omega,i+1,by omega,rfl,?_⟩
     simp
   ·have:i=w.length:=by omega
    subst this
    simp (implicitDefEqProofs:=false) (disch:=omega) [gz,hlt]
    subst hM
    trivial
  ·intro st _
   simp (implicitDefEqProofs:=false) (disch:=omega) [gz,b2004_7,b2004_8,s2,g2,wrap64]
   exact fin_nil ⟨rfl,rfl⟩
end Go.Aw.Try
