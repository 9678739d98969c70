/- An abstract machine over the model, and contracts of functions of this program on it (part 5): words and lemmas for the proof in the last text. -/
import Derived.Lib.SplitLaws
import Derived.Lib.Walk
import Derived.Handy
import Derived.Lib.Small
import Derived.Deep.RegionHeld3
import Derived.Deep.DrawnRows
import Derived.Shelf.SlSortCmp.WholeK
import Derived.Shelf.SlSortCmp.NoneTotal
import Derived.Test.YtbehhclclhfhkaaGreatDoorAD
set_option linter.unusedSimpArgs false
set_option linter.unusedVariables false
set_option linter.unusedSectionVars false
noncomputable section
open Go.Proofs.Tryz

namespace Go.Aw
section
variable {E F:Type}
theorem pre_or {c1 c2:E→E→Int} (h1:Pre c1) (h2:Pre c2):Pre (fun a b=>Try.orI [c1 a b,c2 a b]):=by
 have e:∀ a b,Try.orI [c1 a b,c2 a b]=if c1 a b≠0 then c1 a b else c2 a b:=fun a b=>by
  simp only [Try.orI]
  by_cases q:c1 a b=0
  ·by_cases q2:c2 a b=0 <;> simp [q,q2]
  ·simp [q]
 refine ⟨fun a b=>?_,fun a b c k1 k2=>?_⟩
 ·have p1:=h1.sgn a b
  have p2:=h1.sgn b a
  have p3:=h2.sgn a b
  simp only [e]
  split <;> split <;> omega
 ·simp only [e] at k1 k2 ⊢
  have p1:=h1.sgn a b
  have p2:=h1.sgn b a
  have p3:=h1.sgn b c
  have p4:=h1.sgn c b
  have p5:=h1.sgn a c
  have p6:=h1.sgn c a
  have t0:=h1.tr a b c
  have t1:=h1.tr c a b
  have t2:=h1.tr b c a
  have t3:=h2.tr a b c
  split at k1 <;> split at k2 <;> split <;> omega
theorem pre_map {c:F→F→Int} (h:Pre c) (f:E→F):Pre (fun a b=>c (f a) (f b)):=⟨fun a b=>h.sgn _ _,fun a b d=>h.tr _ _ _⟩
theorem insF_map (c:F→F→Int) (f:E→F) (x:E):∀ l:List E,(insF (fun a b=>c (f a) (f b)) x l).map f=insF c (f x) (l.map f)
 | []=>rfl
 | y :: l=>by
  simp only [insF,List.map_cons]
  split
  ·rfl
  ·rw [List.map_cons,insF_map c f x l]
theorem ssort_map (c:F→F→Int) (f:E→F):∀ l:List E,(ssort (fun a b=>c (f a) (f b)) l).map f=ssort c (l.map f)
 | []=>rfl
 | x :: l=>by
  simp only [ssort,List.map_cons]
  rw [insF_map,ssort_map c f l]
end
end Go.Aw
namespace Go.Aw.Try
open Go Go.Proofs Go.Aw
set_option maxRecDepth 100000
set_option maxHeartbeats 4000000
theorem cmpA_pre:Pre cmpA:=by
 have s3:∀ x,(sg3 x<0↔x<0)∧(0<sg3 x↔0<x):=fun x=>by unfold sg3; (repeat' split) <;> omega
 refine ⟨fun a b=>?_,fun a b c h1 h2=>?_⟩
 ·have h1:=cmpS_sgn a b
  have h2:=s3 (cmpS a b)
  have h3:=s3 (cmpS b a)
  unfold cmpA
  omega
 ·unfold cmpA at h1 h2 ⊢
  have q1:=s3 (cmpS a b)
  have q2:=s3 (cmpS b c)
  have q3:=s3 (cmpS a c)
  by_cases c1:cmpS a b=0
  ·rw [(cmpS_eq a b).1 c1]; exact h2
  ·by_cases c2:cmpS b c=0
   ·rw [← (cmpS_eq b c).1 c2]; exact h1
   ·have:=cmpS_trans (a:=a) (b:=b) (c:=c) (by omega) (by omega)
    omega
theorem lessZ_pre:Pre lessZ:=pre_or (c1:=fun a b:Id=>cmpA a.a b.a) (c2:=fun a b:Id=>cmpI a.n b.n) (pre_map cmpA_pre Id.a) (pre_map cmpI_pre Id.n)
theorem cmpR_pre:Pre cmpR:=by
 refine ⟨fun a b=>?_,fun a b c h1 h2=>?_⟩
 ·unfold cmpR
  rw [sgZ_neg,sgZ_pos]; omega
 ·unfold cmpR at h1 h2 ⊢
  rw [sgZ_le] at h1 h2 ⊢
  have ha:=rd_pos a
  have hb:=rd_pos b
  have hc:=rd_pos c
  have k1:=Int.mul_le_mul_of_nonneg_right (show rn a*rd b≤rn b*rd a by omega) (Int.le_of_lt hc)
  have k2:=Int.mul_le_mul_of_nonneg_right (show rn b*rd c≤rn c*rd b by omega) (Int.le_of_lt ha)
  have e1:rn b*rd a*rd c=rn b*rd c*rd a:=by rw [Int.mul_assoc,Int.mul_assoc,Int.mul_comm (rd a)]
  have e2:rn a*rd b*rd c=rn a*rd c*rd b:=by rw [Int.mul_assoc,Int.mul_assoc,Int.mul_comm (rd b)]
  have e3:rn c*rd b*rd a=rn c*rd a*rd b:=by rw [Int.mul_assoc,Int.mul_assoc,Int.mul_comm (rd b)]
  have k3:rn a*rd c*rd b≤rn c*rd a*rd b:=by omega
  have:=Int.le_of_mul_le_mul_right k3 hb
  omega
theorem cmpT_pre:Pre cmpT:=pre_or (c1:=fun a b:TN=>cmpR a.pl b.pl) (c2:=fun a b:TN=>lessZ a.node b.node) (pre_map cmpR_pre TN.pl) (pre_map lessZ_pre TN.node)
instance:DecidableEq Id:=fun a b=>decidable_of_iff (a.a=b.a∧a.n=b.n) (by cases a; cases b; simp)
def sibF (l:List TN) (b:Id):List TN:=ssort cmpT (l.filter fun t=>decide (t.par=b))
def tq (l:List TN) (h:∀ t∈l,OkQ t.pl):List TQ:=l.pmap (fun t q=>⟨t,q⟩) h
theorem tq_val (l:List TN) (h:∀ t∈l,OkQ t.pl):(tq l h).map Subtype.val=l:=by
 unfold tq
 rw [List.map_pmap]
 simp
theorem tq_len (l:List TN) (h:∀ t∈l,OkQ t.pl):(tq l h).length=l.length:=by unfold tq; simp
theorem set_same {α:Type} {l:List α} {i:Nat} {x:α} (h:l[i]? = some x):l.set i x=l:=by
 apply List.ext_getElem?
 intro k
 rw [List.getElem?_set]
 by_cases q:i=k
 ·subst q
  have hl:=(List.getElem?_eq_some_iff.1 h).1
  rw [if_pos rfl,if_pos hl,h]
 ·rw [if_neg q]
theorem kSortT (l:List TN) (h:∀ t∈l,OkQ t.pl) (hl:l.length<1152921504606846976) (H:List O) (r:Nat) (hr:H[r]? = some (.row 8 (l.map TN.row))) :
  ACalls prog G0 86 [.c (.os r 8 0 l.length),.c (.fn 87 [])] H fun t H'=>t = .tup []∧H'=H.set r (.row 8 ((ssort cmpT l).map TN.row)):=by
 have hlt:r<H.length:=(List.getElem?_eq_some_iff.1 hr).1
 have h1:=k44 (E:=TQ) (fun t=>t.1.row) (fun t=>trow t.1) (fun a b=>cmpT a.1 b.1) (pre_map cmpT_pre Subtype.val) 87 x2087 kx2087 rfl (by decide) (by decide) xg2087 H r hlt (tq l h) (by rw [tq_len]; exact hl)
 have e1:(tq l h).map (fun t=>t.1.row)=l.map TN.row:=by
  rw [show (fun t:TQ=>t.1.row)=TN.row ∘ Subtype.val from rfl,← List.map_map,tq_val]
 have e2:(ssort (fun a b:TQ=>cmpT a.1 b.1) (tq l h)).map (fun t=>t.1.row)=(ssort cmpT l).map TN.row:=by
  rw [show (fun t:TQ=>t.1.row)=TN.row ∘ Subtype.val from rfl,← List.map_map,ssort_map cmpT Subtype.val,tq_val]
 have e3:H.set r (.row 8 (l.map TN.row))=H:=set_same hr
 rw [e1,e2,tq_len,e3] at h1
 exact h1
theorem k2044 (l:List TN) (b:Id) (h:∀ t∈l,OkQ t.pl) (hl:l.length<1000000000000) (H:List O) :
  ACalls prog G0 44 [.c (.d (.sl (l.map TN.row))),.agg (b.row.map .d)] H (Own H 8 ((sibF l b).map TN.row)):=by
 have hb:b.row=[.v (.string b.a),.v (.int .i64 b.n)]:=rfl
 refine acallsX (X:=[]) trivial tab hmix func44 c2044 (by rfl) fun hw=>?_
 simp -implicitDefEqProofs (disch:=omega) [gz,ir2044,b2044,hb,fillC,splice]
 refine loopE (fun k st=>∃ (i:Nat),i≤l.length∧k=l.length-i ∧
   st=⟨ofL [(3,.v (.c (.ptr H.length 0))),(5,.v (.c (.os (H.length+1) 8 0 ((l.take i).filter fun t=>decide (t.par=b)).length))),(8,.v (.c (.d (.sl (l.map TN.row))))),(9,.int .i64 l.length),(10,.int .i64 i)],
    H ++ [.cells [.d (.v (.string b.a)),.d (.v (.int .i64 b.n))],.row 8 (((l.take i).filter fun t=>decide (t.par=b)).map TN.row)]⟩)
  (fun st=>AtS [(5,.v (.c (.os (H.length+1) 8 0 (l.filter fun t=>decide (t.par=b)).length)))] (H ++ [.cells [.d (.v (.string b.a)),.d (.v (.int .i64 b.n))],.row 8 ((l.filter fun t=>decide (t.par=b)).map TN.row)]) st) ?_ ?_ ?_
 ·refine wk_nil_os 5 8 (by decide) (by simp) ?_
  rw [List.append_assoc]
  refine wk_pre [0,1] [3,5,8,9,10] hw rfl ⟨_,0,by omega,rfl,?_⟩
  simp [phiP,phi,O.ren,C.ren]
 ·rintro J L hJ hL k st ⟨i,hi,rfl,rfl⟩
  by_cases hlt:i<l.length
  ·obtain ⟨t,ht⟩:∃ t,nth l i=t:=⟨_,rfl⟩
   have htr:t.row=[.v (.string t.node.a),.v (.int .i64 t.node.n),.v (.string t.par.a),.v (.int .i64 t.par.n),.v (.bool t.pl.neg),.v (.string t.pl.num),.v (.string t.pl.den),.v (.string t.kind)]:=rfl
   have hnext:(l.take (i+1)).filter (fun t=>decide (t.par=b))=(l.take i).filter (fun t=>decide (t.par=b)) ++ (if t.par=b then [t] else []):=by
    rw [take_nth hlt,List.filter_append,ht]
    congr 1
    by_cases q:t.par=b <;> simp [q]
   have hfl:((l.take i).filter fun t=>decide (t.par=b)).length≤i:=Nat.le_trans (List.length_filter_le _ _) (by rw [List.length_take]; omega)
   obtain ⟨A,hA⟩:∃ A,A=(l.take i).filter fun t=>decide (t.par=b):=⟨_,rfl⟩
   rw [← hA] at hnext hfl ⊢
   have tA:(A.map TN.row).take A.length=A.map TN.row:=List.take_of_length_le (by simp)
   have hid:(t.par=b)↔(t.par.a=b.a∧t.par.n=b.n):=by
    constructor
    ·rintro rfl; exact ⟨rfl,rfl⟩
    ·rintro ⟨q1,q2⟩; cases hx:t.par; cases b; rw [hx] at q1 q2; simp at q1 q2; rw [q1,q2]
   by_cases hp:t.par=b
   ·rw [if_pos hp] at hnext
    obtain ⟨p1,p2⟩:=hid.1 hp
    simp -implicitDefEqProofs (disch:=omega) [gz,hlt,wrap64,nth_map,ht,htr,fillC,fillR,splice,cellsEq,skEq,p1,p2,tA,Nat.add_assoc]
    repeat' with_reducible apply And.intro
    all_goals first|omega|kernel_rfl|exact fun _ _=>rfl|skip
    subst hJ
    refine wk_pre [0,4] [3,5,8,9,10] hw rfl ⟨l.length-(i+1),by omega,i+1,by omega,rfl,?_⟩
    rw [hnext]
    have n4:¬ H.length+4<H.length:=by omega
    simp [phiP,phi,O.ren,C.ren,TN.row,p1,p2,n4]
   ·rw [if_neg hp,List.append_nil] at hnext
    have hpn:¬ (t.par.a=b.a∧t.par.n=b.n):=fun q=>hp (hid.2 q)
    have hpn2:(decide (t.par.a=b.a) && decide (t.par.n=b.n))=false:=by simpa using hpn
    simp -implicitDefEqProofs (disch:=omega) [gz,hlt,wrap64,nth_map,ht,htr,fillC,fillR,splice,cellsEq,skEq,hpn,hpn2,Nat.add_assoc]
    repeat' with_reducible apply And.intro
    all_goals first|omega|kernel_rfl|exact fun _ _=>rfl|skip
    subst hJ
    refine wk_pre [0,1] [3,5,8,9,10] hw rfl ⟨l.length-(i+1),by omega,i+1,by omega,rfl,?_⟩
    rw [hnext]
    simp [phiP,phi,O.ren,C.ren]
  ·have:i=l.length:=by omega
   subst this
   rw [List.take_length]
   simp -implicitDefEqProofs (disch:=omega) [gz,hlt]
   subst hL
   exact at_mk (by simp) rfl
 ·rintro _ ⟨sl,rfl⟩
  simp -implicitDefEqProofs (disch:=omega) [gz,wrap64]
  have hfl:(l.filter fun t=>decide (t.par=b)).length≤l.length:=List.length_filter_le _ _
  have hsl:(sibF l b).length=(l.filter fun t=>decide (t.par=b)).length:=by unfold sibF; rw [ssort_len]
  refine (kSortT (l.filter fun t=>decide (t.par=b)) (fun t ht=>h t (List.mem_filter.1 ht).1) (by omega) _ (H.length+1) (by rw [List.getElem?_append_right (by omega)]; simp)).mono ?_
  rintro t H' ⟨rfl,rfl⟩
  simp -implicitDefEqProofs (disch:=omega) [gz,callK,wrap64]
  refine fin_own (k:=1) hw (by simp [sibF]) (by rw [List.length_map,hsl])
def x2044:XE:=mkX false (fun (p:List TN×Id)=>[.c (.sl (p.1.map TN.row)),.agg p.2.row]) (fun p=>(∀ t∈p.1,OkQ t.pl)∧p.1.length<1000000000000) (fun p=>.v (.c (.d (.sl ((sibF p.1 p.2).map TN.row)))))
theorem kx2044:Contract prog G0 44 x2044:=mkX_data fun p h H=>own_data (k2044 p.1 p.2 h.1 h.2 H)
theorem tn_inj {a b:List TN} (h:a.map TN.row=b.map TN.row):a=b:=map_inj (fun _ _=>TN.row_inj) h
theorem injTI (a b:List TN×Id) (h:[PVo.c (D.sl (a.1.map TN.row)),PVo.agg a.2.row]=[PVo.c (D.sl (b.1.map TN.row)),PVo.agg b.2.row]):a=b:=by
 simp only [List.cons.injEq,PVo.c.injEq,D.sl.injEq,PVo.agg.injEq,and_true] at h
 exact Prod.ext (tn_inj h.1) (Id.row_inj h.2)
theorem xg2044 (l:List TN) (b:Id) (h:∀ t∈l,OkQ t.pl) (hl:l.length<1000000000000):x2044.g [.c (.sl (l.map TN.row)),.agg b.row]=some (True,.v (.c (.d (.sl ((sibF l b).map TN.row))))):=mkX_g injTI (l,b) ⟨h,hl⟩
def chF (l:List TN) (b:Id):List Id:=(sibF l b).map TN.node
theorem sib_len (l:List TN) (b:Id):(sibF l b).length≤l.length:=by
 unfold sibF; rw [ssort_len]; exact List.length_filter_le _ _
theorem k2017 (l:List TN) (b:Id) (h:∀ t∈l,OkQ t.pl) (hl:l.length<1000000000000) (H:List O) :
  ACalls prog G0 17 [.c (.d (.sl (l.map TN.row))),.agg (b.row.map .d)] H (Own H 2 ((chF l b).map Id.row)):=by
 have s1:x2044.sc=false:=rfl
 have g1:=xg2044 l b h hl
 have hsl:=sib_len l b
 unfold chF
 obtain ⟨S,hS⟩:∃ S,S=sibF l b:=⟨_,rfl⟩
 rw [← hS] at g1 hsl ⊢
 have hb:b.row=[.v (.string b.a),.v (.int .i64 b.n)]:=rfl
 rw [hb] at g1
 refine acallsX (X:=[(44,x2044)]) ⟨kx2044,trivial⟩ tab hmix func17 c2017 (by rfl) fun hw=>?_
 simp -implicitDefEqProofs (disch:=omega) [gz,ir2017,b2017,hb,s1,g1,fillC,splice,toPVs,frzVs,osVs,toPV]
 refine loopE (fun k st=>∃ (i:Nat),i≤S.length∧k=S.length-i ∧
   st=⟨ofL [(5,.v (.c (.os H.length 2 0 i))),(10,.v (.c (.d (.sl (S.map TN.row))))),(11,.int .i64 S.length),(12,.int .i64 i)],H ++ [.row 2 (((S.take i).map TN.node).map Id.row)]⟩)
  (fun st=>AtS [(5,.v (.c (.os H.length 2 0 S.length)))] (H ++ [.row 2 ((S.map TN.node).map Id.row)]) st) ?_ ?_ ?_
 ·refine wk_nil_os 5 2 (by decide) (by simp) ?_
  rw [List.append_assoc]
  refine wk_pre [1] [5,10,11,12] hw rfl ⟨_,0,by omega,rfl,?_⟩
  have n1:¬ H.length+1<H.length:=by omega
  simp [phiP,phi,O.ren,C.ren,n1]
 ·rintro J L hJ hL k st ⟨i,hi,rfl,rfl⟩
  by_cases hlt:i<S.length
  ·obtain ⟨t,ht⟩:∃ t,nth S i=t:=⟨_,rfl⟩
   have htr:t.row=[.v (.string t.node.a),.v (.int .i64 t.node.n),.v (.string t.par.a),.v (.int .i64 t.par.n),.v (.bool t.pl.neg),.v (.string t.pl.num),.v (.string t.pl.den),.v (.string t.kind)]:=rfl
   have hnext:(S.take (i+1)).map TN.node=(S.take i).map TN.node ++ [t.node]:=by
    rw [take_nth hlt,List.map_append,ht]; rfl
   have hAl:((S.take i).map TN.node).length=i:=by simp; omega
   obtain ⟨A,hA⟩:∃ A,A=(S.take i).map TN.node:=⟨_,rfl⟩
   rw [← hA] at hnext hAl ⊢
   have tA:(A.map Id.row).take i=A.map Id.row:=List.take_of_length_le (by simp [hAl])
   simp -implicitDefEqProofs (disch:=omega) [gz,hlt,wrap64,nth_map,ht,htr,hAl,fillC,fillR,splice,tA,Nat.add_assoc]
   repeat' with_reducible apply And.intro
   all_goals first|omega|kernel_rfl|exact fun _ _=>rfl|skip
   subst hJ
   refine wk_pre [3] [5,10,11,12] hw rfl ⟨S.length-(i+1),by omega,i+1,by omega,rfl,?_⟩
   rw [hnext]
   have n4:¬ H.length+3<H.length:=by omega
   simp [phiP,phi,O.ren,C.ren,Id.row,n4]
  ·have:i=S.length:=by omega
   subst this
   rw [List.take_length]
   simp -implicitDefEqProofs (disch:=omega) [gz,hlt]
   subst hL
   exact at_mk (by simp) (by simp)
 ·rintro _ ⟨sl,rfl⟩
  simp -implicitDefEqProofs (disch:=omega) [gz,wrap64]
  exact fin_own (k:=0) hw (by simp) (by simp)
def x2017:XE:=mkX false (fun (p:List TN×Id)=>[.c (.sl (p.1.map TN.row)),.agg p.2.row]) (fun p=>(∀ t∈p.1,OkQ t.pl)∧p.1.length<1000000000000) (fun p=>.v (.c (.d (.sl ((chF p.1 p.2).map Id.row)))))
theorem kx2017:Contract prog G0 17 x2017:=mkX_data fun p h H=>own_data (k2017 p.1 p.2 h.1 h.2 H)
theorem xg2017 (l:List TN) (b:Id) (h:∀ t∈l,OkQ t.pl) (hl:l.length<1000000000000):x2017.g [.c (.sl (l.map TN.row)),.agg b.row]=some (True,.v (.c (.d (.sl ((chF l b).map Id.row))))):=mkX_g injTI (l,b) ⟨h,hl⟩
def keyF (n:Nat) (l:List TN) (b:Id) (at':Int):Nv.Rt :=
 if (sibF l b).length=0 then zR else if at'≤0 then subR (nth (sibF l b) 0).pl oneR else if ((sibF l b).length:Int)≤at' then addR (nth (sibF l b) ((sibF l b).length-1)).pl oneR
 else if cmpR (nth (sibF l b) (at'.toNat-1)).pl (nth (sibF l b) at'.toNat).pl=0 then Nv.normR (nth (sibF l b) (at'.toNat-1)).pl
 else betwF n (nth (sibF l b) (at'.toNat-1)).pl (nth (sibF l b) at'.toNat).pl
def okK (n:Nat) (l:List TN) (b:Id) (at':Int):Prop:=(∀ t∈l,OkQ t.pl)∧l.length<1000000000000 ∧
 (0<at'→at'<(sibF l b).length→cmpR (nth (sibF l b) (at'.toNat-1)).pl (nth (sibF l b) at'.toNat).pl≠0→okB n (nth (sibF l b) (at'.toNat-1)).pl (nth (sibF l b) at'.toNat).pl)
theorem sib_sub {l:List TN} {b:Id} {t:TN} (h:t∈sibF l b):t∈l:=by
 unfold sibF at h
 have h2:∀ {m:List TN} {t:TN},t∈ssort cmpT m→t∈m:=fun {m}=>by
  induction m with
  | nil=>intro t ht; exact ht
  | cons x m ih =>
   intro t ht
   rcases insF_mem.1 ht with rfl | ht
   ·exact List.mem_cons_self ..
   ·exact List.mem_cons_of_mem _ (ih ht)
 exact (List.mem_filter.1 (h2 h)).1
theorem one_den:oneR.den.size<90000000:=by
 have h1:=mkI_den 1 1
 have h2:(nB 1).size≤1:=zm_small (by decide)
 show (Nv.mkI 1 1).den.size<_
 omega
theorem k2022 (n:Nat) (l:List TN) (b:Id) (at':Int) (h:okK n l b at') (hr:-9223372036854775808≤at'∧at'≤9223372036854775807) :
  ACalls prog G0 22 [.c (.d (.sl (l.map TN.row))),.agg (b.row.map .d),I at'] [] fun t H=>t = .v (ratV (keyF n l b at'))∧H=[]:=by
 have s1:x2044.sc=false:=rfl
 have s2:x2052.sc=true:=rfl
 have s3:x2051.sc=true:=rfl
 have s4:x2053.sc=true:=rfl
 have s5:x2024.sc=true:=rfl
 have s6:x1093.sc=true:=rfl
 have s7:(x2055 n).sc=true:=rfl
 obtain ⟨h1,h2,h3⟩:=h
 have g1:=xg2044 l b h1 h2
 have hsl:=sib_len l b
 have hsq:∀ t∈sibF l b,OkQ t.pl:=fun t ht=>h1 t (sib_sub ht)
 have g2:=xg2052
 have hb:b.row=[.v (.string b.a),.v (.int .i64 b.n)]:=rfl
 rw [hb] at g1
 unfold keyF
 obtain ⟨S,hS⟩:∃ S,S=sibF l b:=⟨_,rfl⟩
 rw [← hS] at g1 hsl h3 hsq ⊢
 obtain ⟨o,ho⟩:∃ o,o=oneR:=⟨_,rfl⟩
 have hoq:OkQ o:=by rw [ho]; exact okQ_one
 have hod:o.den.size<90000000:=by rw [ho]; exact one_den
 rw [← ho] at g2 ⊢
 have htr:∀ t:TN,t.row=[.v (.string t.node.a),.v (.int .i64 t.node.n),.v (.string t.par.a),.v (.int .i64 t.par.n),.v (.bool t.pl.neg),.v (.string t.pl.num),.v (.string t.pl.den),.v (.string t.kind)]:=fun _=>rfl
 refine acallsX (X:=[(44,x2044),(52,x2052),(51,x2051),(53,x2053),(24,x2024),(54,x1093),(55,x2055 n)]) ⟨kx2044,kx2052,kx2051,kx2053,kx2024,kx1093,kx2055 n,trivial⟩ tab hmix func22 c2022 (by rfl) fun hw=>?_
 by_cases c1:S.length=0
 ·rw [if_pos c1]
  simp -implicitDefEqProofs (disch:=omega) [gz,ir2022,b2022,b2022_0,b2022_1,b2022_2,hb,s1,g1,c1,wrap64,fillC,splice,toPVs,frzVs,osVs,toPV]
  exact fin_nil ⟨rfl,rfl⟩
 ·rw [if_neg c1]
  have c1':¬ S=[]:=fun q=>by rw [q] at c1; exact c1 rfl
  have c1i:¬ (S.length:Int)=0:=by omega
  by_cases c2:at'≤0
  ·rw [if_pos c2]
   obtain ⟨t,ht⟩:∃ t,nth S 0=t:=⟨_,rfl⟩
   have htm:t∈S:=by rw [← ht]; exact nth_mem (by omega)
   have g3:=xg2051 t.pl o (hsq t htm) hoq hod
   rw [ht]
   obtain ⟨r,hr⟩:∃ r,r=subR t.pl o:=⟨_,rfl⟩
   rw [← hr] at g3 ⊢
   have h0:0<S.length:=by omega
   simp -implicitDefEqProofs (disch:=omega) [gz,ir2022,b2022,b2022_0,b2022_1,b2022_2,hb,s1,g1,c1,c1',c1i,c2,h0,nth_map,ht,htr,s2,g2,s3,g3,wrap64,fillC,splice,toPVs,frzVs,osVs,toPV]
   repeat' with_reducible apply And.intro
   all_goals first|omega|kernel_rfl|exact fun _ _=>rfl|skip
   exact fin_nil ⟨rfl,rfl⟩
  ·rw [if_neg c2]
   by_cases c3:(S.length:Int)≤at'
   ·rw [if_pos c3]
    obtain ⟨q,hq⟩:∃ q,q=S.length-1:=⟨_,rfl⟩
    have hqi:(S.length:Int)-1=(q:Int):=by omega
    have hql:q<S.length:=by omega
    rw [← hq]
    obtain ⟨t,ht⟩:∃ t,nth S q=t:=⟨_,rfl⟩
    have htm:t∈S:=by rw [← ht]; exact nth_mem hql
    have g3:=xg2053 t.pl o (hsq t htm) hoq
    rw [ht]
    obtain ⟨r,hr⟩:∃ r,r=addR t.pl o:=⟨_,rfl⟩
    rw [← hr] at g3 ⊢
    simp -implicitDefEqProofs (disch:=omega) [gz,ir2022,b2022,b2022_0,b2022_1,b2022_2,hb,s1,g1,c1,c1',c1i,c2,c3,hqi,hql,nth_map,ht,htr,s2,g2,s4,g3,wrap64,fillC,splice,toPVs,frzVs,osVs,toPV]
    repeat' with_reducible apply And.intro
    all_goals first|omega|kernel_rfl|exact fun _ _=>rfl|skip
    exact fin_nil ⟨rfl,rfl⟩
   ·rw [if_neg c3]
    obtain ⟨p,hp⟩:∃ p:Nat,at'=(p:Int):=⟨at'.toNat,by omega⟩
    subst hp
    have hpl:p<S.length:=by omega
    have hp0:0<p:=by omega
    have hp00:¬ p=0:=by omega
    have e1:(p:Int).toNat=p:=by omega
    rw [e1] at h3 ⊢
    obtain ⟨q,hq⟩:∃ q,q=p-1:=⟨_,rfl⟩
    have hqi:(p:Int)-1=(q:Int):=by omega
    have hql:q<S.length:=by omega
    rw [← hq] at h3 ⊢
    obtain ⟨u,hu⟩:∃ u,nth S q=u:=⟨_,rfl⟩
    obtain ⟨t,ht⟩:∃ t,nth S p=t:=⟨_,rfl⟩
    have hum:u∈S:=by rw [← hu]; exact nth_mem hql
    have htm:t∈S:=by rw [← ht]; exact nth_mem hpl
    rw [hu,ht] at h3 ⊢
    have g3:=xg2024 u.pl t.pl (hsq u hum) (hsq t htm)
    by_cases c4:cmpR u.pl t.pl=0
    ·rw [if_pos c4]
     rw [c4] at g3
     have hq2:=hsq u hum
     have g4:=xg1093 u.pl (by have:=hq2.n; omega) (by have:=hq2.d; omega)
     obtain ⟨r,hr⟩:∃ r,r=Nv.normR u.pl:=⟨_,rfl⟩
     rw [← hr] at g4 ⊢
     simp -implicitDefEqProofs (disch:=omega) [gz,ir2022,b2022,b2022_0,b2022_1,b2022_2,b2022_3,hb,s1,g1,c1,c1',c1i,c2,c3,hqi,hql,hpl,hp0,hp00,nth_map,ht,hu,htr,wrap64,fillC,splice,toPVs,frzVs,osVs,toPV]
     repeat' with_reducible apply And.intro
     all_goals first|omega|kernel_rfl|exact fun _ _=>rfl|skip
     simp -implicitDefEqProofs (disch:=omega) [gz,b2022_4,s5,g3,s6,g4,wrap64,fillC,splice,toPVs,frzVs,osVs,toPV]
     exact fin_nil ⟨rfl,rfl⟩
    ·rw [if_neg c4]
     have g4:=xg2055 n u.pl t.pl (h3 (by omega) (by omega) c4)
     obtain ⟨r,hr⟩:∃ r,r=betwF n u.pl t.pl:=⟨_,rfl⟩
     rw [← hr] at g4 ⊢
     obtain ⟨cc,hcc⟩:∃ cc,cc=cmpR u.pl t.pl:=⟨_,rfl⟩
     rw [← hcc] at g3 c4
     simp -implicitDefEqProofs (disch:=omega) [gz,ir2022,b2022,b2022_0,b2022_1,b2022_2,b2022_3,hb,s1,g1,c1,c1',c1i,c2,c3,hqi,hql,hpl,hp0,hp00,nth_map,ht,hu,htr,wrap64,fillC,splice,toPVs,frzVs,osVs,toPV]
     repeat' with_reducible apply And.intro
     all_goals first|omega|kernel_rfl|exact fun _ _=>rfl|skip
     simp -implicitDefEqProofs (disch:=omega) [gz,b2022_4,b2022_5,b2022_6,s5,g3,c4,s7,g4,wrap64,fillC,splice,toPVs,frzVs,osVs,toPV]
     exact fin_nil ⟨rfl,rfl⟩
def comma:ByteArray:=⟨#[44]⟩
theorem comma_size:1≤comma.size:=by decide
theorem parts_le (s:ByteArray):(parts s comma).length≤s.size+1:=by
 rw [parts_len s comma comma_size]
 have:=Lib.countB_le comma comma_size s.size s (Nat.le_refl _)
 omega
def tl (s:ByteArray):List UInt8:=s.data.toList
theorem tl_inj {a b:ByteArray} (h:tl a=tl b):a=b:=by
 obtain ⟨⟨x⟩⟩:=a
 obtain ⟨⟨y⟩⟩:=b
 have h:x=y:=h
 rw [h]
theorem tl_len (s:ByteArray):(tl s).length=s.size:=rfl
def splC:List UInt8→List UInt8→List (List UInt8)
 | cur,[]=>[cur]
 | cur,c :: r=>if c=44 then cur :: splC [] r else splC (cur ++ [c]) r
def preL (a:List UInt8):List (List UInt8)→List (List UInt8)
 | []=>[]
 | h :: t=>(a ++ h) :: t
theorem splC_pre (a:List UInt8):∀ (s cur:List UInt8),splC (a ++ cur) s=preL a (splC cur s)
 | [],cur=>rfl
 | c :: r,cur=>by
  unfold splC
  by_cases h:c=44
  ·rw [if_pos h,if_pos h]; rfl
  ·rw [if_neg h,if_neg h,List.append_assoc]; exact splC_pre a r (cur ++ [c])
theorem ix_ne {b:UInt8} {l:List UInt8} (h:b≠44):Lib.index (b :: l) [44]=if Lib.index l [44] == -1 then -1 else Lib.index l [44]+1:=by
 have hp:([44]:List UInt8).isPrefixOf (b :: l)=false:=by simp [List.isPrefixOf,Ne.symm h]
 rw [Lib.index,hp]; simp
theorem ix_eq (l:List UInt8):Lib.index (44 :: l) [44]=0:=by rw [Lib.index]; simp [List.isPrefixOf]
theorem splK_ne {c:UInt8} (h:c≠44) (r:List UInt8) (k:Nat):Lib.splitK [44] 0 k (c :: r)=preL [c] (Lib.splitK [44] 0 k r):=by
 cases k with
 | zero=>rfl
 | succ k =>
  simp only [Lib.splitK,ix_ne h]
  by_cases hm:Lib.index r [44] = -1
  ·rw [hm]; rfl
  ·have hge:=Lib.index_ge r [44]
   obtain ⟨j,hj⟩:∃ j:Nat,Lib.index r [44]=j:=⟨(Lib.index r [44]).toNat,by omega⟩
   rw [hj]
   have e1:((j:Int) == -1)=false:=by
    cases q:((j:Int) == -1)
    ·rfl
    ·have:=beq_iff_eq.1 q; omega
   rw [e1]
   have e2:((j:Int)+1 == -1)=false:=by
    cases q:((j:Int)+1 == -1)
    ·rfl
    ·have:=beq_iff_eq.1 q; omega
   simp only [Bool.false_eq_true,if_false,e2]
   have e3:((j:Int)+1).toNat=j+1:=by omega
   rw [e3]
   simp [preL]
theorem spl_eq:∀ s:List UInt8,Lib.splitK [44] 0 (Lib.count s [44]) s=splC [] s
 | []=>by rw [Lib.count_one]; rfl
 | c :: r=>by
  have ih:=spl_eq r
  by_cases h:c=44
  ·subst h
   rw [Lib.count_cons_eq,Nat.add_comm]
   simp only [Lib.splitK,ix_eq]
   simp [splC,ih]
  ·rw [Lib.count_cons_ne c 44 r h,splK_ne h,ih]
   have hs:splC [] (c :: r)=splC ([] ++ [c]) r:=by rw [splC,if_neg h]
   rw [hs]
   exact (splC_pre [c] r []).symm
theorem parts_spl (s:ByteArray):(parts s comma).map tl=splC [] (tl s):=by
 have h:=Lib.splitB_data comma 0 (Lib.countB s comma) s
 have e:Lib.countB s comma=Lib.count s.data.toList [44]:=rfl
 have e2:comma.data.toList=[44]:=rfl
 rw [e2] at h
 unfold parts
 rw [show tl=fun s=>s.data.toList from rfl,h,e]
 exact spl_eq _
def InvP (P:List ByteArray) (w:List UInt8) (i:Nat) (out:List ByteArray) (name:ByteArray):Prop :=
 (i≤w.length∧P.map tl=out.map tl ++ splC (tl name) (w.drop i)∧name.size≤i)∨(i=w.length+1∧P=out∧name.size=0)
theorem map_pre {P out:List ByteArray} {name:ByteArray} {X:List (List UInt8)} (h:P.map tl=out.map tl ++ (tl name :: X)):∃ Y,P=out ++ (name :: Y)∧Y.map tl=X:=by
 obtain ⟨l1,l2,rfl,h1,h2⟩:=List.map_eq_append_iff.1 h
 obtain ⟨n,Y,rfl,h3,h4⟩:=List.map_eq_cons_iff.1 h2
 have e1:l1=out:=map_inj (fun a b=>tl_inj) h1
 exact ⟨Y,by rw [e1,tl_inj h3],h4⟩
theorem splC_small:∀ (s cur:List UInt8),∀ x∈splC cur s,x.length≤cur.length+s.length
 | [],cur,x,hx=>by
  rw [splC,List.mem_singleton] at hx
  subst hx; simp
 | c :: r,cur,x,hx=>by
  rw [splC] at hx
  split at hx
  ·rcases List.mem_cons.1 hx with rfl | hx
   ·omega
   ·have:=splC_small r [] x hx
    simp only [List.length_nil,List.length_cons] at this ⊢; omega
  ·have:=splC_small r (cur ++ [c]) x hx
   simp only [List.length_append,List.length_cons,List.length_nil] at this ⊢; omega
theorem part_le {s p:ByteArray} (h:p∈parts s comma):p.size≤s.size:=by
 have h1:tl p∈splC [] (tl s):=by rw [← parts_spl]; exact List.mem_map_of_mem h
 have:=splC_small _ _ _ h1
 rw [tl_len,tl_len] at this; simpa using this
def validI (x:Id):Bool:=authB x.a && (decide (1≤x.n) && decide (x.n≤1000000000))
def parI (x:Id):Bool:=(decide (x.a=⟨#[]⟩) && decide (x.n=0)) || validI x
def plcB (x:Nv.Rt):Bool:=(decide ((Nv.normR x).neg=x.neg) && (decide ((Nv.normR x).num=x.num) && decide ((Nv.normR x).den=x.den))) && fitsR x 16
def wordB (s:ByteArray):Bool:=(!decide (s=⟨#[]⟩) && decide (s.size≤24)) && decide (trimA s=⟨#[]⟩)
def badO (author:ByteArray) (P:List ByteArray) (j:Nat):Bool:=(!authB (nth P j) || decide (nth P j=author)) || (decide (0<j) && !strLt (nth P (j-1)) (nth P j))
def othB (author who:ByteArray):Bool:=decide (∀ j,j<(parts who comma).length→badO author (parts who comma) j=false)
def plc (e:Edit):Nv.Rt:=⟨e.neg,e.num,e.den⟩
theorem injE1 (a b:Edit) (h:[PVo.agg a.row]=[PVo.agg b.row]):a=b:=by
 injection h with h _; injection h with h; exact Edit.row_inj h
def zI (x:Id):Bool:=decide (x.a=⟨#[]⟩) && decide (x.n=0)
def zS (s:ByteArray):Bool:=decide (s=⟨#[]⟩)
def zP (x:Nv.Rt):Bool:=!x.neg && (zS x.num && zS x.den)
def carB (e:Edit):Bool :=
 if e.kind=1 then (zI e.node && (zI e.target && (zS e.field && zS e.who))) && (parI e.parent && (plcB (plc e) && wordB e.value))
 else if e.kind=2 then (zI e.target && (zS e.field && (zS e.value && zS e.who))) && (validI e.node && ((parI e.parent || (decide (e.parent.a=⟨#[45]⟩) && decide (e.parent.n=0))) && plcB (plc e)))
 else if e.kind=3 then (zI e.parent && (zI e.target && (zP (plc e) && zS e.who))) && (validI e.node && wordB e.field)
 else if e.kind=4 then (zI e.node && (zI e.parent && (zP (plc e) && (zS e.field && (zS e.value && zS e.who))))) && (validI e.target && (decide (e.target.a=e.id.a) && decide (e.target.n<e.id.n)))
 else if e.kind=5 then (zI e.node && (zI e.parent && (zI e.target && (zP (plc e) && (zS e.field && zS e.value))))) && othB e.id.a e.who
 else zI e.node && (zI e.parent && (zI e.target && (zP (plc e) && (zS e.field && (zS e.value && zS e.who)))))
structure OkE (e:Edit):Prop where
 num:e.num.size<4000000000
 den:e.den.size<4000000000
 who:e.who.size<4294967281
 value:e.value.size<4611686018427387904
 field:e.field.size<4611686018427387904
 id:e.id.a.size<4611686018427387904
 node:e.node.a.size<4611686018427387904
 parent:e.parent.a.size<4611686018427387904
 target:e.target.a.size<4611686018427387904
 dl:e.deps.length<1073741824
 ds:∀ x∈e.deps,x.a.size<4611686018427387904
theorem tb {a b:Bool} (h:a=true↔b=true):T.bool a=T.bool b:=by rw [bool_ext h]
def rngB (e:Edit):Bool:=!validI e.id || (decide (e.clock<e.id.n) || (decide (1000000000<e.clock) || (decide (e.floor<0) || decide (e.clock≤e.floor))))
def farB (v:List Id):Bool:=v.any fun x=>decide (1000000000<x.n)
def chkE (e:Edit):Int :=
 if authB e.id.a=false then 7 else if rngB e=true then 2 else if chkV e.deps 0 e.deps.length≠0 then chkV e.deps 0 e.deps.length
 else if farB e.deps=true then 2 else if hasN e.deps e.id.a≠e.id.n-1 then 1 else if e.kind<1∨6<e.kind then 11
 else if e.kind=3∧2000<(e.value.size:Int) then 6 else if carB e=false then 1 else 0
def bigB (e:Edit):Bool:=decide (12<e.deps.length) || (decide (300<e.field.size+e.who.size+e.node.a.size+e.parent.a.size+e.target.a.size+e.id.a.size) || (decide (300<e.value.size) || (decide (60<e.num.size+e.den.size) || e.deps.any fun x=>decide (60<x.a.size))))
structure Siz (e:Edit):Prop where
 num:e.num.size<1152921504606846976
 den:e.den.size<1152921504606846976
 who:e.who.size<1152921504606846976
 value:e.value.size<1152921504606846976
 field:e.field.size<1152921504606846976
 id:e.id.a.size<1152921504606846976
 node:e.node.a.size<1152921504606846976
 parent:e.parent.a.size<1152921504606846976
 target:e.target.a.size<1152921504606846976
 dl:e.deps.length<1152921504606846976
theorem k1028 (e:Edit) (h:Siz e):ACalls prog G0 36 [.agg (e.row.map .d)] [] fun t H=>t = .int .i64 (if bigB e then 1 else 0)∧H=[]:=by
 have hee:=Edit.row_eq e
 obtain ⟨h1,h2,h3,h4,h5,h6,h7,h8,h9,h10⟩:=h
 refine acallsX (X:=[]) trivial tab hmix func36 c1028 (by rfl) fun hw=>?_
 by_cases c1:12<e.deps.length
 ·have:bigB e=true:=by simp [bigB,c1]
  rw [if_pos this]
  have c1':(12:Int)<(e.deps.length:Int):=by omega
  simp -implicitDefEqProofs (disch:=omega) [gz,ir1028,b1028,b1028_0,b1028_1,hee,c1,c1',wrap64]
  exact fin_nil ⟨rfl,rfl⟩
 ·have c1':¬ (12:Int)<(e.deps.length:Int):=by omega
  by_cases c2:300<e.field.size+e.who.size+e.node.a.size+e.parent.a.size+e.target.a.size+e.id.a.size
  ·have:bigB e=true:=by simp [bigB,c2]
   rw [if_pos this]
   have c2':(300:Int)<(e.field.size:Int)+e.who.size+e.node.a.size+e.parent.a.size+e.target.a.size+e.id.a.size:=by omega
   simp -implicitDefEqProofs (disch:=omega) [gz,ir1028,b1028,b1028_0,b1028_1,hee,c1,c1',c2,c2',wrap64]
   exact fin_nil ⟨rfl,rfl⟩
  ·have c2':¬ (300:Int)<(e.field.size:Int)+e.who.size+e.node.a.size+e.parent.a.size+e.target.a.size+e.id.a.size:=by omega
   by_cases c3:300<e.value.size
   ·have:bigB e=true:=by simp [bigB,c3]
    rw [if_pos this]
    have c3':(300:Int)<(e.value.size:Int):=by omega
    simp -implicitDefEqProofs (disch:=omega) [gz,ir1028,b1028,b1028_0,b1028_1,hee,c1,c1',c2,c2',c3,c3',wrap64]
    exact fin_nil ⟨rfl,rfl⟩
   ·have c3':¬ (300:Int)<(e.value.size:Int):=by omega
    by_cases c4:60<e.num.size+e.den.size
    ·have:bigB e=true:=by simp [bigB,c4]
     rw [if_pos this]
     have c4':(60:Int)<(e.num.size:Int)+e.den.size:=by omega
     simp -implicitDefEqProofs (disch:=omega) [gz,ir1028,b1028,b1028_0,b1028_1,hee,c1,c1',c2,c2',c3,c3',c4,c4',wrap64]
     exact fin_nil ⟨rfl,rfl⟩
    ·have c4':¬ (60:Int)<(e.num.size:Int)+e.den.size:=by omega
     have hbig:bigB e=e.deps.any fun x=>decide (60<x.a.size):=by simp [bigB,c1,c2,c3,c4]
     obtain ⟨R,hR⟩:∃ R,R=e.deps.any fun x=>decide (60<x.a.size):=⟨_,rfl⟩
     rw [hbig,← hR]
     simp -implicitDefEqProofs (disch:=omega) [gz,ir1028,b1028,b1028_0,b1028_1,b1028_2,b1028_3,b1028_4,hee,c1,c1',c2,c2',c3,c3',c4,c4',wrap64]
     refine loopG (fun k st=>∃ i,i≤e.deps.length∧k=e.deps.length-i∧(∀ j,j<i→¬ 60<(nth e.deps j).a.size) ∧
       st=⟨ofL [(1,.v (.c (.ptr 0 0))),(58,.int .i64 e.deps.length),(59,.int .i64 i)],[.cells (e.row.map .d)]⟩) ?_ ?_
     ·refine wk_nil [0] [1,58,59] rfl ⟨_,0,by omega,rfl,fun j hj=>by omega,?_⟩
      simp [phi,O.ren,hee,C.ren]
     ·rintro J hJ k st ⟨i,hi,rfl,hb,rfl⟩
      by_cases hlt:i<e.deps.length
      ·obtain ⟨x,hx⟩:∃ x,nth e.deps i=x:=⟨_,rfl⟩
       have hxr:x.row=[.v (.string x.a),.v (.int .i64 x.n)]:=rfl
       by_cases c5:60<x.a.size
       ·have c5':(60:Int)<(x.a.size:Int):=by omega
        have:(e.deps.any fun x=>decide (60<x.a.size))=true:=by
         rw [List.any_eq_true]
         exact ⟨x,by rw [← hx]; exact nth_mem hlt,by simp [c5]⟩
        rw [← hR] at this
        rw [this]
        simp -implicitDefEqProofs (disch:=omega) [gz,hlt,nth_map,hx,hxr,hee,c5,c5',wrap64]
        exact fin_nil ⟨rfl,rfl⟩
       ·have c5':¬ (60:Int)<(x.a.size:Int):=by omega
        simp -implicitDefEqProofs (disch:=omega) [gz,hlt,nth_map,hx,hxr,hee,c5,c5',wrap64]
        subst hJ
        refine wk_nil [0] [1,58,59] rfl ⟨e.deps.length-(i+1),by omega,i+1,by omega,rfl,fun j hj=>?_,?_⟩
        ·by_cases q:j=i
         ·subst q; rw [hx]; exact c5
         ·exact hb j (by omega)
        ·simp [phi,O.ren,hee,C.ren]
      ·have:i=e.deps.length:=by omega
       subst this
       have hno:(e.deps.any fun x=>decide (60<x.a.size))=false:=by
        rw [List.any_eq_false]
        intro x hx
        obtain ⟨j,hj,rfl⟩:=List.mem_iff_getElem.1 hx
        have:=hb j hj
        rw [nth_eq hj] at this
        simpa using this
       rw [← hR] at hno
       rw [hno]
       simp -implicitDefEqProofs (disch:=omega) [gz,hlt]
       exact fin_nil ⟨rfl,rfl⟩
def x1028:XE:=mkX true (fun (e:Edit)=>[.agg e.row]) Siz (fun e=>.int .i64 (if bigB e then 1 else 0))
theorem kx1028:Contract prog G0 36 x1028:=mkX_scal (fun _=>rfl) fun e h=>k1028 e h
theorem xg1028 (e:Edit) (h:Siz e):x1028.g [.agg e.row]=some (True,.int .i64 (if bigB e then 1 else 0)):=mkX_g injE1 e h
structure OkA (v:List Id) (l:List Edit):Prop where
 vl:v.length<1152921504606846976
 vs:∀ x∈v,x.a.size<1152921504606846976
 ll:l.length<1152921504606846976
 ls:∀ e∈l,Siz e
theorem trim_self:∀ {l:List UInt8},(∀ h:l≠[],l.getLast h≠0)→Nv.trimZ l=l
 | [],_=>rfl
 | [b],h=>by
  have:=h (by simp)
  simp at this
  simp [Nv.trimZ,this]
 | b :: c :: r,h=>by
  have ih:=trim_self (l:=c :: r) fun h'=>by have:=h (by simp); rwa [List.getLast_cons h'] at this
  have hne:Nv.trimZ (c :: r)≠[]:=by rw [ih]; simp
  rw [Nv.trimZ,if_neg (fun q=>hne q.1),ih]
theorem take_digs {l:List UInt8} {n:Nat} (hn:n≤l.length) (hv:Nv.valB (l.take n)=Nv.valB l) (hz:n=0∨l.getD (n-1) 0≠0):l.take n=Nv.digs (Nv.valB l):=by
 rw [← hv,Nv.digs_valB]
 symm
 refine trim_self fun h=>?_
 rcases hz with rfl | hz
 ·simp at h
 ·have hn0:0<n:=by
   rcases Nat.eq_zero_or_pos n with q | q
   ·subst q; simp at h
   ·exact q
  rw [List.getLast_eq_getElem,List.getElem_take]
  have e:(List.take n l).length-1=n-1:=by rw [List.length_take]; omega
  rw [List.getD_eq_getElem?_getD,List.getElem?_eq_getElem (by omega)] at hz
  have hz:l[n-1]'(by omega)≠0:=by simpa using hz
  simpa only [e] using hz
theorem ext_take (s:ByteArray) (n:Nat) (h:n≤s.size):s.extract 0 n=⟨((bl8 s).take n).toArray⟩:=by
 apply ByteArray.ext
 rw [ByteArray.data_extract]
 apply Array.toList_inj.1
 simp [bl8]
theorem k1149 (s:ByteArray) (h:s.size<4611686018427387904):ACalls prog G0 158 [Sx s] [] fun t H=>t = .str (nB (nV s))∧H=[]:=by
 refine acallsX (X:=[]) trivial tab hmix func158 c1149 (by rfl) fun hw=>?_
 simp -implicitDefEqProofs (disch:=omega) [gz,ir1149,b1149,wrap64]
 refine loopE (fun k st=>k≤s.size∧Nv.valB ((bl8 s).take k)=Nv.valB (bl8 s)∧st=⟨ofL [(0,.v (.c (.d (.v (.string s))))),(3,.int .i64 k)],[]⟩)
  (fun st=>∃ n,n≤s.size∧Nv.valB ((bl8 s).take n)=Nv.valB (bl8 s)∧(n=0∨(bl8 s).getD (n-1) 0≠0)∧AtS [(0,.v (.c (.d (.v (.string s))))),(3,.int .i64 n)] [] st) ?_ ?_ ?_
 ·refine wk_keep [0,3] ⟨s.size,Nat.le_refl _,by rw [List.take_of_length_le (by rw [bl8_len]; omega)],?_⟩
  simp
 ·rintro J L hJ hL k st ⟨hk,hv,rfl⟩
  by_cases hk0:k=0
  ·subst hk0
   simp -implicitDefEqProofs (disch:=omega) [gz,wrap64]
   subst hL
   exact ⟨0,by omega,hv,.inl rfl,at_mk (by simp) rfl⟩
  ·obtain ⟨q,rfl⟩:∃ q,k=q+1:=⟨k-1,by omega⟩
   have hq:q<s.size:=by omega
   have h1:(0:Int)<((q+1:Nat):Int):=by omega
   have h1':(0:Int)<(q:Int)+1:=by omega
   have h2:((q+1:Nat):Int)-1=(q:Int):=by omega
   have h2':(q:Int)+1-1=(q:Int):=by omega
   have hg:(s.data[q]?.getD 0)=(bl8 s)[q]'(by rw [bl8_len]; exact hq):=by rw [bl8_at]; exact bl8_get hq
   obtain ⟨y,hy⟩:∃ y,y=(s.data[q]?.getD 0).toNat:=⟨_,rfl⟩
   by_cases hz:y=0
   ·subst hz
    simp -implicitDefEqProofs (disch:=omega) [gz,wrap64,h1,h1',h2,h2',hq,← hy]
    subst hJ
    refine wk_keep [0,3] ⟨q,by omega,by omega,?_,?_⟩
    ·have:=Nv.valB_take (l:=bl8 s) (i:=q) (by rw [bl8_len]; exact hq)
     rw [hv,← hg,← hy] at this
     omega
    ·simp
   ·have hz':¬ (y:Int)=0:=by omega
    simp -implicitDefEqProofs (disch:=omega) [gz,wrap64,h1,h1',h2,h2',hq,← hy,hz,hz']
    subst hL
    refine ⟨q+1,by omega,hv,.inr fun e=>hz ?_,at_mk (by simp) rfl⟩
    rw [Nat.add_sub_cancel,← bl8_at] at e
    rw [hy,e]; rfl
 ·rintro _ ⟨n,hn,hv,hz,sl,rfl⟩
  have e:s.extract 0 n=nB (nV s):=by
   rw [ext_take s n hn,take_digs (by rw [bl8_len]; exact hn) hv hz]; rfl
  simp -implicitDefEqProofs (disch:=omega) [gz,wrap64,e,hn]
  exact fin_nil ⟨rfl,rfl⟩
def x1149:XE:=mkX true (fun (s:ByteArray)=>[.c (.v (.string s))]) (fun s=>s.size<4611686018427387904) (fun s=>.str (nB (nV s)))
theorem kx1149:Contract prog G0 158 x1149:=mkX_scal (fun _=>rfl) fun s h=>k1149 s h
theorem xg1149 (s:ByteArray) (h:s.size<4611686018427387904):x1149.g [.c (.v (.string s))]=some (True,.str (nB (nV s))):=mkX_g (fun a b h=>by simp at h; exact h) s h
def bt (s:ByteArray) (i:Nat):Nat:=(s.data[i]?.getD 0).toNat
theorem bt_lt (s:ByteArray) (i:Nat):bt s i<256:=UInt8.toNat_lt _
theorem k1169 (s:ByteArray) (i:Nat) (h:s.size<4611686018427387904):ACalls prog G0 159 [Sx s,I i] [] fun t H=>t = .int .i64 (bt s i)∧H=[]:=by
 refine acallsX (X:=[]) trivial tab hmix func159 c1169 (by rfl) fun hw=>?_
 obtain ⟨y,hy⟩:∃ y,y=(s.data[i]?.getD 0).toNat:=⟨_,rfl⟩
 have hy2:bt s i=y:=hy.symm
 have hyl:y<256:=by rw [← hy2]; exact bt_lt s i
 rw [hy2]
 by_cases c:i<s.size
 ·have c':(i:Int)<(s.size:Int):=by omega
  simp -implicitDefEqProofs (disch:=omega) [gz,ir1169,b1169,wrap64,c,c',← hy]
  exact fin_nil ⟨rfl,rfl⟩
 ·have c':¬ (i:Int)<(s.size:Int):=by omega
  have:y=0:=by rw [hy,Array.getElem?_eq_none (by exact Nat.le_of_not_lt c)]; rfl
  subst this
  simp -implicitDefEqProofs (disch:=omega) [gz,ir1169,b1169,wrap64,c,c']
  exact fin_nil ⟨rfl,rfl⟩
def x1169:XE:=mkX true (fun (p:ByteArray×Nat)=>[.c (.v (.string p.1)),.c (.v (.int .i64 (p.2:Int)))]) (fun p=>p.1.size<4611686018427387904) (fun p=>.int .i64 (bt p.1 p.2))
theorem kx1169:Contract prog G0 159 x1169:=mkX_scal (fun _=>rfl) fun p h=>k1169 p.1 p.2 h
theorem xg1169 (s:ByteArray) (i:Nat) (h:s.size<4611686018427387904):x1169.g [.c (.v (.string s)),.c (.v (.int .i64 (i:Int)))]=some (True,.int .i64 (bt s i)):=mkX_g (fun a b h=>by
 simp only [List.cons.injEq,PVo.c.injEq,D.v.injEq,Value.string.injEq,Value.int.injEq,true_and,and_true] at h
 exact Prod.ext h.1 (by omega)) (s,i) h
theorem k1150 (a b:ByteArray) (ha:a.size<4611686018427387904) (hb:b.size<4611686018427387904):ACalls prog G0 160 [Sx a,Sx b] [] fun t H=>t = .int .i64 (cmpN (nV a) (nV b))∧H=[]:=by
 have s1:x1149.sc=true:=rfl
 have g1:=xg1149 a ha
 have g2:=xg1149 b hb
 have hsb:=nB_le (s:=a)
 have htb:=nB_le (s:=b)
 obtain ⟨m,hm⟩:∃ m,m=nV a:=⟨_,rfl⟩
 obtain ⟨n,hn⟩:∃ n,n=nV b:=⟨_,rfl⟩
 rw [← hm] at g1 hsb ⊢
 rw [← hn] at g2 htb ⊢
 have hls:(nB m).size=(Nv.digs m).length:=rfl
 have hlt:(nB n).size=(Nv.digs n).length:=rfl
 have hvs:Nv.valB (bl8 (nB m))=m:=Nv.valB_digs m
 have hvt:Nv.valB (bl8 (nB n))=n:=Nv.valB_digs n
 obtain ⟨s,hs⟩:∃ s,s=nB m:=⟨_,rfl⟩
 obtain ⟨t,ht⟩:∃ t,t=nB n:=⟨_,rfl⟩
 rw [← hs] at g1 hsb hls hvs
 rw [← ht] at g2 htb hlt hvt
 refine acallsX (X:=[(158,x1149)]) ⟨kx1149,trivial⟩ tab hmix func160 c1150 (by rfl) fun hw=>?_
 by_cases hlen:s.size=t.size
 ·have hbase:=hlen
  simp -implicitDefEqProofs (disch:=omega) [gz,ir1150,b1150,wrap64,s1,g1,g2,hlen]
  refine loopE (fun k st=>∃ i,i≤t.size∧k=t.size-i∧(bl8 s).drop (t.size-i)=(bl8 t).drop (t.size-i) ∧
    st=⟨ofL [(5,.v (.c (.d (.v (.string s))))),(6,.v (.c (.d (.v (.string t))))),(7,.int .i64 ((t.size:Int)-1-(i:Int)))],[]⟩)
   (fun st=>m=n∧AtS [] [] st) ?_ ?_ ?_
  ·refine wk_keep [5,6,7] ⟨_,0,by omega,rfl,?_,?_⟩
   ·rw [Nat.sub_zero,List.drop_eq_nil_of_le (by rw [bl8_len]; omega),List.drop_eq_nil_of_le (by rw [bl8_len]; omega)]
   ·simp [hbase]
  ·rintro J L hJ hL k st ⟨i,hi,rfl,hd,rfl⟩
   by_cases hlti:i<t.size
   ·obtain ⟨q,hq⟩:∃ q,q=t.size-(i+1):=⟨_,rfl⟩
    have hqs:q<s.size:=by omega
    have hqt:q<t.size:=by omega
    have hqi:((t.size:Int)-1-(i:Int))=(q:Int):=by omega
    have hq1:t.size-i=q+1:=by omega
    have hq0:(0:Int)≤(q:Int):=by omega
    have hqn:((t.size:Int)-1-((i+1:Nat):Int))=(q:Int)-1:=by omega
    rw [hq1] at hd
    obtain ⟨x,hx⟩:∃ x,x=(s.data[q]?.getD 0).toNat:=⟨_,rfl⟩
    obtain ⟨y,hy⟩:∃ y,y=(t.data[q]?.getD 0).toNat:=⟨_,rfl⟩
    have ex:x=((bl8 s)[q]'hqs).toNat:=by rw [hx,bl8_at,bl8_get hqs]
    have ey:y=((bl8 t)[q]'hqt).toNat:=by rw [hy,bl8_at,bl8_get hqt]
    by_cases c1:x=y
    ·subst c1
     simp -implicitDefEqProofs (disch:=omega) [gz,wrap64,hqi,hq0,hqs,hqt,hlen,← hx,← hy]
     repeat' with_reducible apply And.intro
     all_goals first | kernel_rfl | skip
     subst hJ
     refine wk_keep [5,6,7] ⟨t.size-(i+1),by omega,i+1,by omega,rfl,?_,?_⟩
     ·rw [← hq,List.drop_eq_getElem_cons (l:=bl8 s) hqs,List.drop_eq_getElem_cons (l:=bl8 t) hqt,hd]
      congr 1
      exact UInt8.toNat_inj.1 (by rw [← ex,← ey])
     ·rw [hqn]; simp
    ·have c1':¬ (x:Int)=(y:Int):=by omega
     by_cases c2:x<y
     ·have c2':(x:Int)<(y:Int):=by omega
      have c3:True:=trivial
      have hmn:m<n:=by
       rw [← hvs,← hvt]
       exact top_lt (l:=bl8 s) (m:=bl8 t) hqs hqt hd (by rw [← ex,← ey]; exact c2)
      rw [show cmpN m n = -1 from by unfold cmpN; rw [if_pos hmn]]
      simp -implicitDefEqProofs (disch:=omega) [gz,wrap64,hqi,hq0,hqs,hqt,hlen,← hx,← hy,c1',c2',c3]
      repeat' with_reducible apply And.intro
      all_goals first | kernel_rfl | skip
      exact fin_nil ⟨rfl,rfl⟩
     ·have c2':¬ (x:Int)<(y:Int):=by omega
      have c3:(y:Int)<(x:Int):=by omega
      have hmn:n<m:=by
       rw [← hvs,← hvt]
       exact top_lt (l:=bl8 t) (m:=bl8 s) hqt hqs hd.symm (by rw [← ex,← ey]; omega)
      rw [show cmpN m n=1 from by unfold cmpN; rw [if_neg (by omega),if_pos hmn]]
      simp -implicitDefEqProofs (disch:=omega) [gz,wrap64,hqi,hq0,hqs,hqt,hlen,← hx,← hy,c1',c2',c3]
      repeat' with_reducible apply And.intro
      all_goals first | kernel_rfl | skip
      exact fin_nil ⟨rfl,rfl⟩
   ·have:i=t.size:=by omega
    subst this
    have hneg:¬ (0:Int)≤(t.size:Int)-1-(t.size:Int):=by omega
    have hneg2:¬ (t.size:Int)≤(t.size:Int)-1:=by omega
    simp -implicitDefEqProofs (disch:=omega) [gz,hneg,hneg2]
    subst hL
    refine ⟨?_,at_mk (by simp) rfl⟩
    rw [Nat.sub_self,List.drop_zero,List.drop_zero] at hd
    rw [← hvs,← hvt,hd]
  ·rintro _ ⟨hmn,sl,rfl⟩
   rw [show cmpN m n=0 from by unfold cmpN; rw [if_neg (by omega),if_neg (by omega)]]
   simp -implicitDefEqProofs (disch:=omega) [gz,wrap64]
   exact fin_nil ⟨rfl,rfl⟩
 ·have hlen':¬ (s.size:Int)=t.size:=by omega
  by_cases c1:s.size<t.size
  ·have hmn:m<n:=digs_short (by omega)
   rw [show cmpN m n = -1 from by unfold cmpN; rw [if_pos hmn]]
   simp -implicitDefEqProofs (disch:=omega) [gz,ir1150,b1150,wrap64,s1,g1,g2,hlen,hlen',c1]
   exact fin_nil ⟨rfl,rfl⟩
  ·have c1':t.size<s.size:=by omega
   have hmn:n<m:=digs_short (by omega)
   rw [show cmpN m n=1 from by unfold cmpN; rw [if_neg (by omega),if_pos hmn]]
   simp -implicitDefEqProofs (disch:=omega) [gz,ir1150,b1150,wrap64,s1,g1,g2,hlen,hlen',c1,c1']
   exact fin_nil ⟨rfl,rfl⟩
def x1150:XE:=mkX true (fun (p:ByteArray×ByteArray)=>[.c (.v (.string p.1)),.c (.v (.string p.2))]) (fun p=>p.1.size<4611686018427387904∧p.2.size<4611686018427387904) (fun p=>.int .i64 (cmpN (nV p.1) (nV p.2)))
theorem kx1150:Contract prog G0 160 x1150:=mkX_scal (fun _=>rfl) fun p h=>k1150 p.1 p.2 h.1 h.2
theorem xg1150 (a b:ByteArray) (ha:a.size<4611686018427387904) (hb:b.size<4611686018427387904):x1150.g [.c (.v (.string a)),.c (.v (.string b))]=some (True,.int .i64 (cmpN (nV a) (nV b))):=mkX_g inj2s (a,b) ⟨ha,hb⟩
def valD:List Nat→Nat
 | []=>0
 | x :: l=>x+256*valD l
theorem valD_set:∀ (l:List Nat) {j m:Nat},j<l.length→valD (l.set j m)+256^j*nth l j=valD l+256^j*m
 | x :: l,0,m,_=>by simp [valD,nth]; omega
 | x :: l,j+1,m,h=>by
  have ih:=valD_set l (j:=j) (m:=m) (by simpa using h)
  have e:nth (x :: l) (j+1)=nth l j:=rfl
  rw [e,List.set_cons_succ,valD,valD,Nat.pow_succ,Nat.mul_comm (256^j) 256,Nat.mul_assoc,Nat.mul_assoc]
  omega
theorem valD_bytes:∀ {l:List Nat},(∀ x∈l,x<256)→Nv.valB (l.map UInt8.ofNat)=valD l
 | [],_=>rfl
 | x :: l,h=>by
  rw [List.map_cons,Nv.valB,valD,valD_bytes fun y hy=>h y (List.mem_cons_of_mem _ hy),Nv.toNat_of (h x List.mem_cons_self)]
theorem valD_zero (n:Nat):valD (List.replicate n 0)=0:=by
 induction n with
 | zero=>rfl
 | succ n ih=>rw [List.replicate_succ,valD,ih]
def pv (s:ByteArray) (i:Nat):Nat:=Nv.valB ((bl8 s).take i)
theorem pv_all {s:ByteArray} {i:Nat} (h:s.size≤i):pv s i=nV s:=by
 unfold pv
 rw [List.take_of_length_le (by rw [bl8_len]; exact h)]; rfl
theorem pv_zero (s:ByteArray):pv s 0=0:=rfl
theorem pv_succ (s:ByteArray) (i:Nat):pv s (i+1)=pv s i+256^i*bt s i:=by
 by_cases h:i<s.size
 ·have:=Nv.valB_take (l:=bl8 s) (i:=i) (by rw [bl8_len]; exact h)
  have e:bt s i=((bl8 s)[i]'(by rw [bl8_len]; exact h)).toNat:=by unfold bt; rw [bl8_at]; exact congrArg UInt8.toNat (bl8_get h)
  unfold pv
  rw [this,e]
 ·rw [pv_all (by omega),pv_all (by omega)]
  have:bt s i=0:=by
   unfold bt
   rw [Array.getElem?_eq_none (by exact Nat.le_of_not_lt h)]; rfl
  rw [this]; omega
theorem pv_top {a b:ByteArray} (h:nV b≤nV a):pv b a.size=nV b:=by
 have ha:nV a<256^a.size:=Nv.valB_lt _
 have e:nV b=pv b a.size+256^((bl8 b).take a.size).length*Nv.valB ((bl8 b).drop a.size):=by
  show Nv.valB (bl8 b)=_
  conv=>lhs; rw [← List.take_append_drop a.size (bl8 b),Nv.valB_app]
  rfl
 rw [List.length_take,bl8_len] at e
 by_cases hs:a.size≤b.size
 ·rw [Nat.min_eq_left hs] at e
  obtain ⟨z,hz⟩:∃ z,z=Nv.valB ((bl8 b).drop a.size):=⟨_,rfl⟩
  rw [← hz] at e
  rcases Nat.eq_zero_or_pos z with q | q
  ·subst q; omega
  ·have:256^a.size*1≤256^a.size*z:=Nat.mul_le_mul_left _ q
   omega
 ·exact pv_all (by omega)
theorem sub8_step {P A Bv S b x y b' s:Nat} (h:A+P*b=S+Bv) (e:x+256*b'=s+y+b):(A+P*x)+P*(256*b')=(S+P*s)+(Bv+P*y):=by
 have h1:P*(x+256*b')=P*(s+y+b):=by rw [e]
 simp only [Nat.mul_add] at h1; omega
theorem valB_snoc (l:List UInt8) (b:UInt8):Nv.valB (l ++ [b])=Nv.valB l+256^l.length*b.toNat:=by
 rw [Nv.valB_app]
 simp [Nv.valB]
def rI (x:Nat):List D:=[.v (.int .i64 (x:Int))]
theorem k1152 (a b:ByteArray) (ha:a.size<1099511627776) (hb:b.size<1099511627776) (hle:nV b≤nV a):ACalls prog G0 138 [Sx a,Sx b] [] fun t H=>t = .tup [Sx (nB (nV a-nV b)),.c (.d (.v (.bool true)))]∧H=[]:=by
 have s1:x1150.sc=true:=rfl
 have s2:x1169.sc=true:=rfl
 have s3:x1149.sc=true:=rfl
 have g1:=xg1150 a b (by omega) (by omega)
 have hc:¬ cmpN (nV a) (nV b)<0:=by unfold cmpN; rw [if_neg (by omega)]; split <;> omega
 obtain ⟨R,hR⟩:∃ R,R=nB (nV a-nV b):=⟨_,rfl⟩
 rw [← hR]
 refine acallsX (X:=[(160,x1150),(159,x1169),(158,x1149)]) ⟨kx1150,kx1169,kx1149,trivial⟩ tab hmix func138 c1152 (by rfl) fun hw=>?_
 simp -implicitDefEqProofs (disch:=omega) [gz,ir1152,b1152,wrap64,s1,g1,hc,fillR]
 refine loopE (fun k st=>∃ (i lent:Nat) (out:List UInt8),i≤a.size∧k=a.size-i∧out.length=i∧lent≤1∧pv a i+256^i*lent=Nv.valB out+pv b i ∧
   st=⟨ofL [(0,.v (.c (.d (.v (.string a))))),(1,.v (.c (.d (.v (.string b))))),(6,.v (.c (.os 0 1 0 out.length))),(7,.int .i64 lent),(8,.int .i64 i)],[.row 1 (out.map u8R)]⟩)
  (fun st=>∃ (lent:Nat) (out:List UInt8),out.length=a.size∧lent≤1∧pv a a.size+256^a.size*lent=Nv.valB out+pv b a.size∧AtS [(6,.v (.c (.os 0 1 0 out.length)))] [.row 1 (out.map u8R)] st) ?_ ?_ ?_
 ·refine wk_nil [0] [0,1,6,7,8] rfl ⟨_,0,0,[],by omega,rfl,rfl,by omega,by simp [pv_zero,Nv.valB],?_⟩
  simp [phi,O.ren,C.ren]
 ·rintro J L hJ hL k st ⟨i,lent,out,hi,rfl,hol,hlent,hval,rfl⟩
  by_cases hlt:i<a.size
  ·have hlt':(i:Int)<(a.size:Int):=by omega
   have ga:=xg1169 a i (by omega)
   have gb:=xg1169 b i (by omega)
   have pa:=pv_succ a i
   have pb:=pv_succ b i
   have la:=bt_lt a i
   have lb:=bt_lt b i
   obtain ⟨x,hx⟩:∃ x,x=bt a i:=⟨_,rfl⟩
   obtain ⟨y,hy⟩:∃ y,y=bt b i:=⟨_,rfl⟩
   rw [← hx] at ga pa la
   rw [← hy] at gb pb lb
   have tC:(out.map u8R).take out.length=out.map u8R:=List.take_of_length_le (by simp)
   have fin:∀ (s l':Nat),s<256→l'≤1→x+256*l'=s+y+lent→pv a (i+1)+256^(i+1)*l'=Nv.valB (out ++ [UInt8.ofNat s])+pv b (i+1):=fun s l' hs hl' e=>by
    have:=sub8_step hval e
    rw [valB_snoc,hol,Nv.toNat_of hs,pa,pb,Nat.pow_succ,Nat.mul_assoc]
    exact this
   by_cases c:x<y+lent
   ·have c1:(x:Int)-(y:Int)-(lent:Int)<0:=by omega
    obtain ⟨s,hs⟩:∃ s,s=x+256-y-lent:=⟨_,rfl⟩
    have hsl:s<256:=by omega
    have hse:(x:Int)-(y:Int)-(lent:Int)+256=(s:Int):=by omega
    have hws:IntKind.u8.wrap (s:Int)=((UInt8.ofNat s).toNat:Int):=by rw [u8n,Nv.toNat_of hsl,Nat.mod_eq_of_lt hsl]
    simp -implicitDefEqProofs (disch:=omega) [gz,hlt,hlt',wrap64,s2,ga,gb,c1,hse,hws,elems,tC,maxLen47,fillR]
    repeat' with_reducible apply And.intro
    all_goals first | omega | kernel_rfl | skip
    subst hJ
    refine wk_nil [2] [0,1,6,7,8] rfl ⟨a.size-(i+1),by omega,i+1,1,out ++ [UInt8.ofNat s],by omega,rfl,by simp [hol],by omega,fin s 1 hsl (by omega) (by omega),?_⟩
    simp [phi,O.ren,u8R]
   ·have c1:¬ (x:Int)-(y:Int)-(lent:Int)<0:=by omega
    obtain ⟨s,hs⟩:∃ s,s=x-y-lent:=⟨_,rfl⟩
    have hsl:s<256:=by omega
    have hse:(x:Int)-(y:Int)-(lent:Int)=(s:Int):=by omega
    have hns:¬ (s:Int)<0:=by omega
    have hws:IntKind.u8.wrap (s:Int)=((UInt8.ofNat s).toNat:Int):=by rw [u8n,Nv.toNat_of hsl,Nat.mod_eq_of_lt hsl]
    simp -implicitDefEqProofs (disch:=omega) [gz,hlt,hlt',wrap64,s2,ga,gb,c1,hse,hns,hws,elems,tC,maxLen47,fillR]
    repeat' with_reducible apply And.intro
    all_goals first | omega | kernel_rfl | skip
    subst hJ
    refine wk_nil [2] [0,1,6,7,8] rfl ⟨a.size-(i+1),by omega,i+1,0,out ++ [UInt8.ofNat s],by omega,rfl,by simp [hol],by omega,fin s 0 hsl (by omega) (by omega),?_⟩
    simp [phi,O.ren,u8R]
  ·have hlt':¬ (i:Int)<(a.size:Int):=by omega
   have:i=a.size:=by omega
   subst this
   simp -implicitDefEqProofs (disch:=omega) [gz,hlt,hlt']
   subst hL
   exact ⟨lent,out,hol,hlent,hval,at_mk (by simp) rfl⟩
 ·rintro _ ⟨lent,out,hol,hlent,hval,sl,rfl⟩
  rw [pv_all (Nat.le_refl _),pv_top hle] at hval
  have hlo:=Nv.valB_lt out
  rw [hol] at hlo
  have hl0:lent=0:=by
   rcases Nat.eq_zero_or_pos lent with q | q
   ·exact q
   ·have:lent=1:=by omega
    subst this
    omega
  subst hl0
  have tC:(out.map u8R).take out.length=out.map u8R:=List.take_of_length_le (by simp)
  have g3:=xg1149 ⟨out.toArray⟩ (by show out.toArray.size<_; simp; omega)
  have hv:nV ⟨out.toArray⟩=nV a-nV b:=by
   show Nv.valB out.toArray.toList=_
   rw [List.toList_toArray]; omega
  rw [hv,← hR] at g3
  simp -implicitDefEqProofs (disch:=omega) [gz,wrap64,elems,tC,bytR_u8,s3,g3]
  exact fin_nil ⟨rfl,rfl⟩
def x1152:XE:=mkX true (fun (p:ByteArray×ByteArray)=>[.c (.v (.string p.1)),.c (.v (.string p.2))]) (fun p=>p.1.size<1099511627776∧p.2.size<1099511627776∧nV p.2≤nV p.1) (fun p=>.tup [Sx (nB (nV p.1-nV p.2)),.c (.d (.v (.bool true)))])
theorem kx1152:Contract prog G0 138 x1152:=mkX_scal (fun _=>rfl) fun p h=>k1152 p.1 p.2 h.1 h.2.1 h.2.2
theorem xg1152 (a b:ByteArray) (ha:a.size<1099511627776) (hb:b.size<1099511627776) (hle:nV b≤nV a):x1152.g [.c (.v (.string a)),.c (.v (.string b))]=some (True,.tup [Sx (nB (nV a-nV b)),.c (.d (.v (.bool true)))]):=mkX_g inj2s (a,b) ⟨ha,hb,hle⟩
theorem rI_map_set (S:List Nat) (j m:Nat):(S.map rI).set j [.v (.int .i64 (m:Int))]=(S.set j m).map rI:=by rw [List.map_set]; rfl
theorem mul8_step {V V' P T aP bk sj p o n o' m:Nat} (hset:V'+P*sj=V+P*m) (h:V+P*o=T+aP) (hn:n=sj+p+o) (hd:n=m+256*o'):V'+P*(256*o')=T+(aP+P*p):=by
 have h1:P*n=P*(sj+p+o):=by rw [hn]
 have h2:P*n=P*(m+256*o'):=by rw [hd]
 simp only [Nat.mul_add] at h1 h2
 omega
theorem k1168 (a b:ByteArray) (ha:a.size<1099511627776) (hb:b.size<1099511627776):ACalls prog G0 139 [Sx a,Sx b] [] fun t H=>t = .str (nB (nV a*nV b))∧H=[]:=by
 have s2:x1169.sc=true:=rfl
 have s3:x1149.sc=true:=rfl
 obtain ⟨R,hR⟩:∃ R,R=nB (nV a*nV b):=⟨_,rfl⟩
 rw [← hR]
 refine acallsX (X:=[(159,x1169),(158,x1149)]) ⟨kx1169,kx1149,trivial⟩ tab hmix func139 c1168 (by rfl) fun hw=>?_
 obtain ⟨N,hN⟩:∃ N,N=a.size+b.size+1:=⟨_,rfl⟩
 have hNi:(a.size:Int)+(b.size:Int)+1=(N:Int):=by omega
 simp -implicitDefEqProofs (disch:=omega) [gz,ir1168,b1168,b1168_0,b1168_1,b1168_2,wrap64,hNi,maxLen47]
 repeat' with_reducible apply And.intro
 all_goals first | omega | kernel_rfl | skip
 refine loopE (fun k st=>∃ (i:Nat) (S:List Nat),i≤a.size∧k=a.size-i∧S.length=N∧(∀ x∈S,x<256)∧(∀ j,i+b.size≤j→j<N→nth S j=0)∧valD S=pv a i*nV b ∧
   st=⟨ofL [(0,.v (.c (.d (.v (.string a))))),(1,.v (.c (.d (.v (.string b))))),(5,.v (.c (.os 0 1 0 N))),(6,.int .i64 i)],[.row 1 (S.map rI)]⟩)
  (fun st=>∃ S:List Nat,S.length=N∧(∀ x∈S,x<256)∧valD S=nV a*nV b∧AtS [(5,.v (.c (.os 0 1 0 N)))] [.row 1 (S.map rI)] st) ?_ ?_ ?_
 ·refine wk_nil [0] [0,1,5,6] rfl ⟨_,0,List.replicate N 0,by omega,rfl,by simp,fun x hx=>by rw [List.eq_of_mem_replicate hx]; omega,fun j _ hj=>by simp [nth,hj],by rw [valD_zero,pv_zero]; omega,?_⟩
  simp [phi,O.ren,C.ren,rI]
 ·rintro J L hJ hL k st ⟨i,S,hi,rfl,hSl,hS,htail,hval,rfl⟩
  by_cases hlt:i<a.size
  ·have hlt':(i:Int)<(a.size:Int):=by omega
   have ga:=xg1169 a i (by omega)
   have pa:=pv_succ a i
   have la:=bt_lt a i
   obtain ⟨x,hx⟩:∃ x,x=bt a i:=⟨_,rfl⟩
   rw [← hx] at ga pa la
   simp -implicitDefEqProofs (disch:=omega) [gz,hlt,hlt',wrap64]
   refine loopE (fun k st=>∃ (j o:Nat) (S:List Nat),j≤b.size+1∧k=b.size+1-j∧S.length=N∧(∀ x∈S,x<256)∧o<256∧((j≤b.size∧∀ q,i+b.size≤q→q<N→nth S q=0)∨(j=b.size+1∧o=0∧∀ q,i+1+b.size≤q→q<N→nth S q=0)) ∧
     valD S+256^(i+j)*o=pv a i*nV b+256^i*(x*pv b j) ∧
     st=⟨ofL [(0,.v (.c (.d (.v (.string a))))),(1,.v (.c (.d (.v (.string b))))),(5,.v (.c (.os 0 1 0 N))),(6,.int .i64 i),(7,.int .i64 o),(8,.int .i64 j)],[.row 1 (S.map rI)]⟩)
    (fun st=>∃ S:List Nat,S.length=N∧(∀ x∈S,x<256)∧(∀ q,i+1+b.size≤q→q<N→nth S q=0)∧valD S=pv a (i+1)*nV b ∧
     AtS [(0,.v (.c (.d (.v (.string a))))),(1,.v (.c (.d (.v (.string b))))),(5,.v (.c (.os 0 1 0 N))),(6,.int .i64 i)] [.row 1 (S.map rI)] st) ?_ ?_ ?_
   ·refine wk_nil [0] [0,1,5,6,7,8] rfl ⟨_,0,0,S,by omega,rfl,hSl,hS,by omega,.inl ⟨by omega,htail⟩,by rw [pv_zero,hval]; omega,?_⟩
    simp [phi,O.ren,C.ren]
   ·rintro J2 L2 hJ2 hL2 k2 st2 ⟨j,o,S,hj,rfl,hSl,hS,ho,htail,hval,rfl⟩
    by_cases hgo:j<b.size∨0<o
    ·have hjb:j≤b.size:=by
      rcases htail with ⟨q,_⟩ | ⟨q,q2,_⟩ <;> omega
     have hjN:i+j<N:=by omega
     obtain ⟨r,hr⟩:∃ r,r=i+j:=⟨_,rfl⟩
     rw [← hr] at hjN hval
     have hjNi:(i:Int)+(j:Int)=(r:Int):=by omega
     have hjS:r<S.length:=by omega
     have hjNI:(r:Int)<(N:Int):=by omega
     have gb:=xg1169 b j (by omega)
     have pb:=pv_succ b j
     have lb:=bt_lt b j
     obtain ⟨y,hy⟩:∃ y,y=bt b j:=⟨_,rfl⟩
     rw [← hy] at gb pb lb
     obtain ⟨sj,hsj⟩:∃ s,s=nth S r:=⟨_,rfl⟩
     have hsl:sj<256:=by rw [hsj]; exact hS _ (nth_mem hjS)
     obtain ⟨p,hp⟩:∃ p,p=x*y:=⟨_,rfl⟩
     have hpl:p≤65025:=by
      have:=Nat.mul_le_mul (show x≤255 by omega) (show y≤255 by omega)
      omega
     have hpi:(x:Int)*(y:Int)=(p:Int):=by rw [hp]; simp
     obtain ⟨n,hn⟩:∃ n,n=sj+p+o:=⟨_,rfl⟩
     have hni:(sj:Int)+(p:Int)+(o:Int)=(n:Int):=by omega
     have hnr:(n:Int).tmod 256=((n % 256:Nat):Int):=(Int.ofNat_tmod n 256).symm
     have hnq:(n:Int).tdiv 256=((n / 256:Nat):Int):=(Int.ofNat_tdiv n 256).symm
     have tS:(S.map rI).take N=S.map rI:=List.take_of_length_le (by simp [hSl])
     have hml:n % 256<256:=Nat.mod_lt _ (by decide)
     have hql:n / 256<256:=by omega
     have hstep:=mul8_step (V:=valD S) (V':=valD (S.set r (n % 256))) (P:=256^r) (T:=pv a i*nV b) (aP:=256^i*(x*pv b j)) (bk:=0) (sj:=sj) (p:=p) (o:=o) (n:=n) (o':=n / 256) (m:=n % 256)
      (by rw [hsj]; exact valD_set S hjS) hval hn (by omega)
     have hsum:256^i*(x*pv b (j+1))=256^i*(x*pv b j)+256^r*p:=by
      rw [pb,hp,hr,Nat.pow_add,Nat.mul_add,Nat.mul_add,Nat.mul_assoc]
      congr 2
      rw [← Nat.mul_assoc,← Nat.mul_assoc,Nat.mul_comm x (256^j)]
     have hpow:256^r*256=256^(i+(j+1)):=by rw [hr,← Nat.add_assoc,Nat.pow_succ]
     rw [← hsum,← Nat.mul_assoc,hpow] at hstep
     obtain ⟨m,hm⟩:∃ m,m=n % 256:=⟨_,rfl⟩
     obtain ⟨q,hq⟩:∃ q,q=n / 256:=⟨_,rfl⟩
     rw [← hm] at hnr hml hstep
     rw [← hq] at hnq hql hstep
     have hset:=rI_map_set S r m
     have hnext:∀ z∈S.set r m,z<256:=fun z hz=>by
      rcases List.mem_or_eq_of_mem_set hz with hz | rfl
      ·exact hS z hz
      ·exact hml
     have htl:(j+1≤b.size∧∀ t,i+b.size≤t→t<N→nth (S.set r m) t=0)∨(j+1=b.size+1∧q=0∧∀ t,i+1+b.size≤t→t<N→nth (S.set r m) t=0):=by
      rcases htail with ⟨_,ht⟩ | ⟨hj1,ho1,ht⟩
      ·by_cases hjl:j<b.size
       ·exact .inl ⟨by omega,fun t h1 h2=>by rw [nth_set_ne (by omega)]; exact ht t h1 h2⟩
       ·refine .inr ⟨by omega,?_,fun t h1 h2=>by rw [nth_set_ne (by omega)]; exact ht t (by omega) h2⟩
        have hy0:y=0:=by
         rw [hy]; unfold bt
         rw [Array.getElem?_eq_none (by exact Nat.le_of_not_lt hjl)]; rfl
        have hs0:sj=0:=by rw [hsj]; exact ht _ (by omega) (by omega)
        have hp0:p=0:=by rw [hp,hy0]; omega
        omega
      ·omega
     by_cases hjl:j<b.size
     ·have hjl':(j:Int)<(b.size:Int):=by omega
      simp (maxSteps:=1000000) -implicitDefEqProofs (disch:=omega) [gz,hlt',hjl,hjl',wrap64,hjNi,hjN,hjNI,hSl,tS,nth_map,← hsj,s2,ga,gb,hpi,hni,hnr,hnq,rI,fillC,splice]
      refine ⟨by kernel_rfl,?_⟩
      subst hJ2
      refine wk_nil [0] [0,1,5,6,7,8] rfl ⟨b.size+1-(j+1),by omega,j+1,q,S.set r m,by omega,rfl,by simp [hSl],hnext,hql,htl,hstep,?_⟩
      rw [← hset]
      simp [phi,O.ren,C.ren]
     ·have hjl':¬ (j:Int)<(b.size:Int):=by omega
      have ho0:0<o:=by omega
      have ho0':(0:Int)<(o:Int):=by omega
      simp (maxSteps:=1000000) -implicitDefEqProofs (disch:=omega) [gz,hlt',hjl,hjl',ho0,ho0',wrap64,hjNi,hjN,hjNI,hSl,tS,nth_map,← hsj,s2,ga,gb,hpi,hni,hnr,hnq,rI,fillC,splice]
      refine ⟨by kernel_rfl,?_⟩
      subst hJ2
      refine wk_nil [0] [0,1,5,6,7,8] rfl ⟨b.size+1-(j+1),by omega,j+1,q,S.set r m,by omega,rfl,by simp [hSl],hnext,hql,htl,hstep,?_⟩
      rw [← hset]
      simp [phi,O.ren,C.ren]
    ·have hjl:¬ j<b.size:=by omega
     have hjl':¬ (j:Int)<(b.size:Int):=by omega
     have ho0:o=0:=by omega
     subst ho0
     simp -implicitDefEqProofs (disch:=omega) [gz,hlt',hjl,hjl',wrap64]
     subst hL2
     refine ⟨S,hSl,hS,fun t h1 h2=>?_,?_,at_mk (by simp) rfl⟩
     ·rcases htail with ⟨_,ht⟩ | ⟨_,_,ht⟩
      ·exact ht t (by omega) h2
      ·exact ht t h1 h2
     ·have e:=pv_all (s:=b) (i:=j) (by omega)
      rw [Nat.mul_zero,Nat.add_zero,e] at hval
      rw [hval,pa,Nat.add_mul,Nat.mul_assoc]
   ·rintro _ ⟨S,hSl,hS,htail,hval,sl,rfl⟩
    simp -implicitDefEqProofs (disch:=omega) [gz,wrap64]
    subst hJ
    refine wk_nil [0] [0,1,5,6] rfl ⟨a.size-(i+1),by omega,i+1,S,by omega,rfl,hSl,hS,htail,hval,?_⟩
    simp [phi,O.ren,C.ren]
  ·have hlt':¬ (i:Int)<(a.size:Int):=by omega
   have:i=a.size:=by omega
   subst this
   simp -implicitDefEqProofs (disch:=omega) [gz,hlt,hlt']
   subst hL
   exact ⟨S,hSl,hS,by rw [hval,pv_all (Nat.le_refl _)],at_mk (by simp) rfl⟩
 ·rintro _ ⟨S,hSl,hS,hval,sl,rfl⟩
  simp -implicitDefEqProofs (disch:=omega) [gz,b1168_3,b1168_4,wrap64,fillR]
  obtain ⟨B,hB⟩:∃ B,B=S.map UInt8.ofNat:=⟨_,rfl⟩
  have hBl:B.length=N:=by rw [hB,List.length_map,hSl]
  have hBv:Nv.valB B=nV a*nV b:=by rw [hB,valD_bytes hS,hval]
  have tS:(S.map rI).take N=S.map rI:=List.take_of_length_le (by simp [hSl])
  refine loopE (fun k st=>∃ i,i≤N∧k=N-i ∧
    st=⟨ofL [(10,.v (.c (.os 1 1 0 i))),(62,.v (.c (.os 0 1 0 N))),(63,.int .i64 N),(64,.int .i64 i)],[.row 1 (S.map rI),.row 1 ((B.take i).map u8R)]⟩)
   (fun st=>AtS [(10,.v (.c (.os 1 1 0 N)))] [.row 1 (S.map rI),.row 1 (B.map u8R)] st) ?_ ?_ ?_
  ·refine wk_nil [0,1] [10,62,63,64] rfl ⟨_,0,by omega,rfl,?_⟩
   simp [phi,O.ren,C.ren]
  ·rintro J L hJ hL k st ⟨i,hi,rfl,rfl⟩
   by_cases hlt:i<N
   ·have hlt':(i:Int)<(N:Int):=by omega
    have hiS:i<S.length:=by omega
    obtain ⟨x,hx⟩:∃ x,x=nth S i:=⟨_,rfl⟩
    have hxl:x<256:=by rw [hx]; exact hS _ (nth_mem hiS)
    have hws:IntKind.u8.wrap (x:Int)=((UInt8.ofNat x).toNat:Int):=by rw [u8n,Nv.toNat_of hxl,Nat.mod_eq_of_lt hxl]
    have hnext:B.take (i+1)=B.take i ++ [UInt8.ofNat x]:=by
     rw [take_nth (by omega),hB,nth_map _ hiS,hx]
    have hBi:(B.take i).length=i:=by rw [List.length_take]; omega
    have tC:((B.take i).map u8R).take i=(B.take i).map u8R:=List.take_of_length_le (by rw [List.length_map,hBi]; exact Nat.le_refl _)
    obtain ⟨C,hC⟩:∃ C,C=B.take i:=⟨_,rfl⟩
    rw [← hC] at hnext hBi tC ⊢
    simp (maxSteps:=1000000) -implicitDefEqProofs (disch:=omega) [gz,hlt,hlt',wrap64,hSl,hBi,tS,nth_map,← hx,hws,elems,tC,maxLen47,fillR,rI]
    repeat' with_reducible apply And.intro
    all_goals first | omega | kernel_rfl | skip
    subst hJ
    refine wk_nil [0,3] [10,62,63,64] rfl ⟨N-(i+1),by omega,i+1,by omega,rfl,?_⟩
    rw [hnext]
    simp [phi,O.ren,u8R]
   ·have hlt':¬ (i:Int)<(N:Int):=by omega
    have:i=N:=by omega
    subst this
    simp -implicitDefEqProofs (disch:=omega) [gz,hlt,hlt']
    subst hL
    have e:List.take i (B.map u8R)=B.map u8R:=List.take_of_length_le (by rw [List.length_map]; omega)
    rw [e]
    exact at_mk (by simp) rfl
  ·rintro _ ⟨sl,rfl⟩
   have tC:(B.map u8R).take N=B.map u8R:=List.take_of_length_le (by simp [hBl])
   have g3:=xg1149 ⟨B.toArray⟩ (by show B.toArray.size<_; simp; omega)
   have hv:nV ⟨B.toArray⟩=nV a*nV b:=by
    show Nv.valB B.toArray.toList=_
    rw [List.toList_toArray,hBv]
   rw [hv,← hR] at g3
   simp -implicitDefEqProofs (disch:=omega) [gz,b1168_5,b1168_6,wrap64,hBl,elems,tC,bytR_u8,s3,g3]
   exact fin_nil ⟨rfl,rfl⟩
def x1168:XE:=mkX true (fun (p:ByteArray×ByteArray)=>[.c (.v (.string p.1)),.c (.v (.string p.2))]) (fun p=>p.1.size<1099511627776∧p.2.size<1099511627776) (fun p=>.str (nB (nV p.1*nV p.2)))
theorem kx1168:Contract prog G0 139 x1168:=mkX_scal (fun _=>rfl) fun p h=>k1168 p.1 p.2 h.1 h.2
theorem xg1168 (a b:ByteArray) (ha:a.size<1099511627776) (hb:b.size<1099511627776):x1168.g [.c (.v (.string a)),.c (.v (.string b))]=some (True,.str (nB (nV a*nV b))):=mkX_g inj2s (a,b) ⟨ha,hb⟩
theorem k1151 (a:ByteArray) (n:Nat) (ha:a.size<1099511627776) (hn:n<256):ACalls prog G0 167 [Sx a,I n] [] fun t H=>t = .str (nB (nV a*n))∧H=[]:=by
 have s1:x1168.sc=true:=rfl
 have g1:=xg1168 a ⟨#[UInt8.ofNat n]⟩ ha (by show 1<_; decide)
 have hv:nV ⟨#[UInt8.ofNat n]⟩=n:=by
  show (UInt8.ofNat n).toNat+256*0=n
  rw [Nv.toNat_of hn]; omega
 rw [hv] at g1
 have hws:IntKind.u8.wrap (n:Int)=((UInt8.ofNat n).toNat:Int):=by rw [u8n,Nv.toNat_of hn,Nat.mod_eq_of_lt hn]
 have hb:=bytR_u8 [UInt8.ofNat n]
 obtain ⟨c,hc⟩:∃ c,c=UInt8.ofNat n:=⟨_,rfl⟩
 rw [← hc] at g1 hws hb
 simp only [List.map_cons,List.map_nil,u8R] at hb
 refine acallsX (X:=[(139,x1168)]) ⟨kx1168,trivial⟩ tab hmix func167 c1151 (by rfl) fun hw=>?_
 simp -implicitDefEqProofs (disch:=omega) [gz,ir1151,b1151,wrap64,hws,elems,hb,s1,g1,fillR]
 exact fin_nil ⟨rfl,rfl⟩
def x1151:XE:=mkX true (fun (p:ByteArray×Nat)=>[.c (.v (.string p.1)),.c (.v (.int .i64 (p.2:Int)))]) (fun p=>p.1.size<1099511627776∧p.2<256) (fun p=>.str (nB (nV p.1*p.2)))
theorem kx1151:Contract prog G0 167 x1151:=mkX_scal (fun _=>rfl) fun p h=>k1151 p.1 p.2 h.1 h.2
theorem xg1151 (a:ByteArray) (n:Nat) (ha:a.size<1099511627776) (hn:n<256):x1151.g [.c (.v (.string a)),.c (.v (.int .i64 (n:Int)))]=some (True,.str (nB (nV a*n))):=mkX_g (fun a b h=>by
 simp only [List.cons.injEq,PVo.c.injEq,D.v.injEq,Value.string.injEq,Value.int.injEq,true_and,and_true] at h
 exact Prod.ext h.1 (by omega)) (a,n) ⟨ha,hn⟩
theorem bl8_app (s t:ByteArray):bl8 (s ++ t)=bl8 s ++ bl8 t:=by
 unfold bl8
 rw [ByteArray.data_append,Array.toList_append]
theorem natV_app (s t:ByteArray):nV (s ++ t)=nV s+256^s.size*nV t:=by
 show Nv.valB (bl8 (s ++ t))=_
 rw [bl8_app,Nv.valB_app]; rfl
theorem bl8_one {a:ByteArray} {i:Nat} (h:i<a.size):bl8 (a.extract i (i+1))=[a.data[i]?.getD 0]:=by
 unfold bl8
 rw [ByteArray.data_extract,Array.toList_extract]
 have hl:i<a.data.toList.length:=h
 rw [List.extract_eq_take_drop,show i+1-i=1 by omega,List.drop_eq_getElem_cons hl]
 have hz:a.data[i]?.getD 0=a.data.toList[i]:=by
  rw [Array.getElem?_eq_getElem (by exact h)]; rfl
 rw [hz]; rfl
theorem one_val {a:ByteArray} {i:Nat} (h:i<a.size) (t:ByteArray):nV (a.extract i (i+1) ++ t)=bt a i+256*nV t:=by
 rw [natV_app]
 have hs:(a.extract i (i+1)).size=1:=by show (bl8 (a.extract i (i+1))).length=1; rw [bl8_one h]; rfl
 have hv:nV (a.extract i (i+1))=bt a i:=by
  show Nv.valB (bl8 (a.extract i (i+1)))=_
  rw [bl8_one h]
  show (a.data[i]?.getD 0).toNat+256*0=_
  rfl
 rw [hs,hv,Nat.pow_one]
theorem one_size {a:ByteArray} {i:Nat} (h:i<a.size) (t:ByteArray):(a.extract i (i+1) ++ t).size=1+t.size:=by
 show (bl8 (a.extract i (i+1) ++ t)).length=_
 rw [bl8_app,bl8_one h]; simp [bl8_len]; omega
theorem nB_lt {x:Nat} {s:ByteArray} (h:x<nV s):(nB x).size≤s.size:=Nv.digs_len_le (Nat.lt_trans h (Nv.valB_lt _))
theorem nB_mul {m:Nat} {s:ByteArray} (h:m<256):(nB (nV s*m)).size≤s.size+1:=by
 refine Nv.digs_len_le ?_
 rw [Nat.pow_succ]
 have h1:nV s<256^s.size:=Nv.valB_lt _
 exact Nat.lt_of_le_of_lt (Nat.mul_le_mul_left _ (Nat.le_of_lt h)) (Nat.mul_lt_mul_of_pos_right h1 (by decide))
theorem valB_drop {l:List UInt8} {i:Nat} (h:i<l.length):Nv.valB (l.drop i)=l[i].toNat+256*Nv.valB (l.drop (i+1)):=by
 rw [List.drop_eq_getElem_cons h]; rfl
theorem u8R_set (Q:List UInt8) (i m:Nat) (hm:m<256):(Q.map u8R).set i [.v (.int .u8 (m:Int))]=(Q.set i (UInt8.ofNat m)).map u8R:=by
 rw [List.map_set]
 congr 1
 simp [u8R,Nat.mod_eq_of_lt hm]
theorem k1131 (a b:ByteArray) (ha:a.size<549755813888) (hb:b.size<549755813888) (hD:0<nV b):ACalls prog G0 156 [Sx a,Sx b] [] fun t H=>t = .tup [Sx (nB (nV a / nV b)),Sx (nB (nV a % nV b)),.c (.d (.v (.bool true)))]∧H=[]:=by
 have s1:x1149.sc=true:=rfl
 have s2:x1150.sc=true:=rfl
 have s3:x1151.sc=true:=rfl
 have s4:x1152.sc=true:=rfl
 have g0:=xg1149 b (by omega)
 obtain ⟨D,hDd⟩:∃ D,D=nV b:=⟨_,rfl⟩
 have hne:¬ nB D=⟨#[]⟩:=fun q=>by
  have:Nv.natV (nB D)=D:=Nv.natV_natB D
  rw [q] at this
  have h0:Nv.natV ⟨#[]⟩=0:=rfl
  omega
 obtain ⟨bb,hbb⟩:∃ x,x=nB D:=⟨_,rfl⟩
 rw [← hDd,← hbb] at g0
 rw [← hbb] at hne
 obtain ⟨R1,hR1⟩:∃ R,R=nB (nV a / nV b):=⟨_,rfl⟩
 obtain ⟨R2,hR2⟩:∃ R,R=nB (nV a % nV b):=⟨_,rfl⟩
 rw [← hR1,← hR2]
 refine acallsX (X:=[(158,x1149),(160,x1150),(167,x1151),(138,x1152)]) ⟨kx1149,kx1150,kx1151,kx1152,trivial⟩ tab hmix func156 c1131 (by rfl) fun hw=>?_
 simp -implicitDefEqProofs (disch:=omega) [gz,ir1131,b1131,b1131_0,b1131_1,b1131_2,b1131_3,b1131_4,wrap64,s1,g0,hne,binSF,maxLen47]
 repeat' with_reducible apply And.intro
 all_goals first | omega | kernel_rfl | skip
 refine loopE (fun k st=>∃ (t r:Nat) (Q:List UInt8),t≤a.size∧k=a.size-t∧Q.length=a.size∧r<D∧Nv.valB ((bl8 a).drop (a.size-t))=Nv.valB (Q.drop (a.size-t))*D+r ∧
   st=⟨ofL [(0,.v (.c (.d (.v (.string a))))),(1,.v (.c (.d (.v (.string b))))),(7,.v (.c (.os 0 1 0 a.size))),(8,.v (.c (.d (.v (.string (nB r)))))),(9,.int .i64 ((a.size:Int)-1-(t:Int)))],[.row 1 (Q.map u8R)]⟩)
  (fun st=>∃ (r:Nat) (Q:List UInt8),Q.length=a.size∧r<D∧nV a=Nv.valB Q*D+r∧AtS [(7,.v (.c (.os 0 1 0 a.size))),(8,.v (.c (.d (.v (.string (nB r))))))] [.row 1 (Q.map u8R)] st) ?_ ?_ ?_
 ·refine wk_nil [0] [0,1,7,8,9] rfl ⟨_,0,0,List.replicate a.size 0,by omega,rfl,by simp,by omega,?_,?_⟩
  ·rw [Nat.sub_zero,List.drop_eq_nil_of_le (by rw [bl8_len]; omega),List.drop_eq_nil_of_le (by simp)]
   simp [Nv.valB]
  ·have h0:nB 0=⟨#[]⟩:=Nv.natB_0
   simp [phi,O.ren,C.ren,u8R,h0]
 ·rintro J L hJ hL k st ⟨t,r,Q,ht,rfl,hQl,hrD,hval,rfl⟩
  by_cases hlt:t<a.size
  ·obtain ⟨i,hi⟩:∃ i,i=a.size-(t+1):=⟨_,rfl⟩
   have hia:i<a.size:=by omega
   have hii:(a.size:Int)-1-(t:Int)=(i:Int):=by omega
   have hi0:(0:Int)≤(i:Int):=by omega
   have hi1:(i:Int)≤(i:Int)+1:=by omega
   have hi2:(i:Int)+1≤(a.size:Int):=by omega
   have htn:((i:Int)+1).toNat=i+1:=by omega
   have hin:(a.size:Int)-1-((t+1:Nat):Int)=(i:Int)-1:=by omega
   rw [show a.size-t=i+1 from by omega] at hval
   have hrs:=nB_lt (x:=r) (s:=b) (by omega)
   have g1:=xg1149 (a.extract i (i+1) ++ nB r) (by rw [one_size hia]; omega)
   rw [one_val hia,show nV (nB r)=r from Nv.natV_natB r] at g1
   have hbl:=bt_lt a i
   obtain ⟨W,hW⟩:∃ W,W=bt a i+256*r:=⟨_,rfl⟩
   rw [← hW] at g1
   have hWD:W<256*D:=by omega
   have hWq:W / D<256:=by rw [Nat.div_lt_iff_lt_mul (by omega)]; exact hWD
   have hWs:(nB W).size≤b.size+1:=by
    refine Nv.digs_len_le ?_
    rw [Nat.pow_succ]
    have h1:nV b<256^b.size:=Nv.valB_lt _
    omega
   have hWv:nV (nB W)=W:=Nv.natV_natB W
   simp -implicitDefEqProofs (disch:=omega) [gz,wrap64,hii,hi0,hi1,hi2,htn,binSF,s1,g1]
   have hlow:0≤W / D:=Nat.zero_le _
   repeat' with_reducible apply And.intro
   all_goals first | omega | kernel_rfl | skip
   refine loopE (fun k st=>∃ lo hi:Nat,lo≤hi∧hi≤255∧lo≤W / D∧W / D≤hi∧k=hi-lo ∧
     st=⟨ofL [(0,.v (.c (.d (.v (.string a))))),(1,.v (.c (.d (.v (.string b))))),(7,.v (.c (.os 0 1 0 a.size))),(8,.v (.c (.d (.v (.string (nB W)))))),(9,.int .i64 i),(10,.int .i64 lo),(11,.int .i64 hi)],[.row 1 (Q.map u8R)]⟩)
    (fun st=>AtS [(0,.v (.c (.d (.v (.string a))))),(1,.v (.c (.d (.v (.string b))))),(7,.v (.c (.os 0 1 0 a.size))),(8,.v (.c (.d (.v (.string (nB W)))))),(9,.int .i64 i),(10,.int .i64 ((W / D:Nat):Int))] [.row 1 (Q.map u8R)] st) ?_ ?_ ?_
   ·refine wk_nil [0] [0,1,7,8,9,10,11] rfl ⟨_,0,255,by omega,by omega,hlow,by omega,rfl,?_⟩
    simp [phi,O.ren,C.ren]
   ·rintro J2 L2 hJ2 hL2 k2 st2 ⟨lo,hi,hlh,hh,h1,h2,rfl,rfl⟩
    by_cases hlt2:lo<hi
    ·have hlt2':(lo:Int)<(hi:Int):=by omega
     obtain ⟨sm,hsm⟩:∃ s,s=lo+hi+1:=⟨_,rfl⟩
     obtain ⟨mid,hmid⟩:∃ m,m=sm / 2:=⟨_,rfl⟩
     have hsi:(lo:Int)+(hi:Int)+1=(sm:Int):=by omega
     have hmi:(sm:Int).tdiv 2=(mid:Int):=by rw [hmid]; exact (Int.ofNat_tdiv sm 2).symm
     have hm256:mid<256:=by omega
     have g3:=xg1151 b mid (by omega) hm256
     have hms:=nB_mul (s:=b) hm256
     have g2:=xg1150 (nB (nV b*mid)) (nB W) (by omega) (by omega)
     rw [hWv,show nV (nB (nV b*mid))=nV b*mid from Nv.natV_natB _,← hDd] at g2
     rw [← hDd] at g3
     obtain ⟨z,hz⟩:∃ z,z=nB (D*mid):=⟨_,rfl⟩
     rw [← hz] at g2 g3
     by_cases hc:D*mid≤W
     ·have hle:mid≤W / D:=(Nat.le_div_iff_mul_le (by omega)).2 (by rw [Nat.mul_comm]; exact hc)
      have hcm:cmpN (D*mid) W≤0:=by unfold cmpN; split <;> (try split) <;> omega
      simp -implicitDefEqProofs (disch:=omega) [gz,hlt2,hlt2',wrap64,hsi,hmi,s3,g3,s2,g2,hcm]
      subst hJ2
      refine wk_nil [0] [0,1,7,8,9,10,11] rfl ⟨hi-mid,by omega,mid,hi,by omega,hh,hle,h2,rfl,?_⟩
      simp [phi,O.ren,C.ren]
     ·have hle:W / D<mid:=(Nat.div_lt_iff_lt_mul (by omega)).2 (by rw [Nat.mul_comm]; omega)
      have hcm:¬ cmpN (D*mid) W≤0:=by unfold cmpN; rw [if_neg (by omega),if_pos (by omega)]; omega
      have hcm2:0<cmpN (D*mid) W:=by omega
      have hm1:(mid:Int)-1=((mid-1:Nat):Int):=by omega
      simp -implicitDefEqProofs (disch:=omega) [gz,hlt2,hlt2',wrap64,hsi,hmi,s3,g3,s2,g2,hcm,hcm2]
      subst hJ2
      refine wk_nil [0] [0,1,7,8,9,10,11] rfl ⟨mid-1-lo,by omega,lo,mid-1,by omega,by omega,h1,by omega,rfl,?_⟩
      rw [← hm1]
      simp [phi,O.ren,C.ren]
    ·have:lo=hi:=by omega
     subst this
     have hlt2':¬ (lo:Int)<(lo:Int):=by omega
     have hq:W / D=lo:=by omega
     simp -implicitDefEqProofs (disch:=omega) [gz,hlt2,hlt2']
     subst hL2
     rw [hq]
     exact at_mk (by simp) rfl
   ·rintro _ ⟨sl,rfl⟩
    obtain ⟨q,hq⟩:∃ q,q=W / D:=⟨_,rfl⟩
    rw [← hq] at hWq ⊢
    have g3:=xg1151 b q (by omega) hWq
    have hms:=nB_mul (s:=b) hWq
    have hDq:D*q≤W:=by rw [hq]; exact Nat.mul_div_le W D
    have hmod:W-D*q=W % D:=by
     have:=Nat.div_add_mod W D
     rw [← hq] at this; omega
    have hdq:nV (nB (nV b*q))=nV b*q:=Nv.natV_natB _
    have g4:=xg1152 (nB W) (nB (nV b*q)) (by omega) (by omega) (by rw [hWv,hdq,← hDd]; exact hDq)
    rw [hWv,hdq,← hDd,hmod] at g4
    rw [← hDd] at g3
    obtain ⟨z,hz⟩:∃ z,z=nB (D*q):=⟨_,rfl⟩
    rw [← hz] at g3 g4
    have hws:IntKind.u8.wrap (q:Int)=(q:Int):=by rw [u8n,Nat.mod_eq_of_lt hWq]
    have hset:=u8R_set Q i q hWq
    have hia2:(i:Int)<(a.size:Int):=by omega
    have hiQ:i<Q.length:=by omega
    have tQ:(Q.map u8R).take a.size=Q.map u8R:=List.take_of_length_le (by simp [hQl])
    simp -implicitDefEqProofs (disch:=omega) [gz,wrap64,s3,g3,s4,g4,hws,hia,hia2,hiQ,hQl,tQ,fillC,splice,u8R]
    subst hJ
    refine wk_nil [0] [0,1,7,8,9] rfl ⟨a.size-(t+1),by omega,t+1,W % D,Q.set i (UInt8.ofNat q),by omega,rfl,by simp [hQl],Nat.mod_lt _ (by omega),?_,?_⟩
    ·rw [← hi,valB_drop (l:=bl8 a) (by rw [bl8_len]; exact hia),hval,valB_drop (l:=Q.set i (UInt8.ofNat q)) (by simp [hQl]; exact hia)]
     have e1:(Q.set i (UInt8.ofNat q))[i]'(by simp [hQl]; exact hia)=UInt8.ofNat q:=by simp
     have e2:(Q.set i (UInt8.ofNat q)).drop (i+1)=Q.drop (i+1):=by rw [List.drop_set_of_lt (by omega)]
     have e3:((bl8 a)[i]'(by rw [bl8_len]; exact hia)).toNat=bt a i:=by unfold bt; rw [bl8_at]; exact (congrArg UInt8.toNat (bl8_get hia)).symm
     rw [e1,e2,e3,Nv.toNat_of hWq,Nat.add_mul,Nat.mul_assoc]
     have:=Nat.div_add_mod W D
     rw [← hq,Nat.mul_comm] at this
     omega
    ·have hnt:(nth (Q.map u8R) i).tail=[]:=by rw [nth_map _ hiQ]; rfl
     rw [hin,← hset]
     simp [phi,O.ren,C.ren,hnt]
  ·have:t=a.size:=by omega
   subst this
   have hneg:¬ (0:Int)≤(a.size:Int)-1-(a.size:Int):=by omega
   have hneg2:¬ (a.size:Int)≤(a.size:Int)-1:=by omega
   rw [Nat.sub_self,List.drop_zero,List.drop_zero] at hval
   simp -implicitDefEqProofs (disch:=omega) [gz,hneg,hneg2]
   subst hL
   exact ⟨r,Q,hQl,hrD,hval,at_mk (by simp) rfl⟩
 ·rintro _ ⟨r,Q,hQl,hrD,hval,sl,rfl⟩
  have tC:(Q.map u8R).take a.size=Q.map u8R:=List.take_of_length_le (by simp [hQl])
  have g3:=xg1149 ⟨Q.toArray⟩ (by show Q.toArray.size<_; simp; omega)
  have hq:nV a / nV b=Nv.valB Q:=by
   rw [hval,← hDd,Nat.mul_comm,Nat.mul_add_div (by omega),Nat.div_eq_of_lt hrD,Nat.add_zero]
  have hr:nV a % nV b=r:=by
   rw [hval,← hDd,Nat.mul_comm,Nat.mul_add_mod,Nat.mod_eq_of_lt hrD]
  have hv:nV ⟨Q.toArray⟩=nV a / nV b:=by
   show Nv.valB Q.toArray.toList=_
   rw [List.toList_toArray,hq]
  rw [hv,← hR1] at g3
  rw [hr] at hR2
  rw [← hR2]
  simp -implicitDefEqProofs (disch:=omega) [gz,b1131_5,b1131_6,wrap64,hQl,elems,tC,bytR_u8,s1,g3]
  exact fin_nil ⟨rfl,rfl⟩
def x1131:XE:=mkX true (fun (p:ByteArray×ByteArray)=>[.c (.v (.string p.1)),.c (.v (.string p.2))]) (fun p=>p.1.size<549755813888∧p.2.size<549755813888∧0<nV p.2) (fun p=>.tup [Sx (nB (nV p.1 / nV p.2)),Sx (nB (nV p.1 % nV p.2)),.c (.d (.v (.bool true)))])
theorem kx1131:Contract prog G0 156 x1131:=mkX_scal (fun _=>rfl) fun p h=>k1131 p.1 p.2 h.1 h.2.1 h.2.2
theorem xg1131 (a b:ByteArray) (ha:a.size<549755813888) (hb:b.size<549755813888) (hD:0<nV b):x1131.g [.c (.v (.string a)),.c (.v (.string b))]=some (True,.tup [Sx (nB (nV a / nV b)),Sx (nB (nV a % nV b)),.c (.d (.v (.bool true)))]):=mkX_g inj2s (a,b) ⟨ha,hb,hD⟩
theorem nB_ne {n:Nat} (h:0<n):¬ nB n=⟨#[]⟩:=fun q=>by
 have:Nv.natV (nB n)=n:=Nv.natV_natB n
 rw [q] at this
 have h0:Nv.natV ⟨#[]⟩=0:=rfl
 omega
theorem k1130 (a b:ByteArray) (ha:a.size<549755813888) (hb:b.size<549755813888):ACalls prog G0 155 [Sx a,Sx b] [] fun t H=>t = .str (nB (Nat.gcd (nV a) (nV b)))∧H=[]:=by
 have s1:x1149.sc=true:=rfl
 have s2:x1131.sc=true:=rfl
 have g1:=xg1149 a (by omega)
 have g2:=xg1149 b (by omega)
 have hsa:=nB_le (s:=a)
 have hsb:=nB_le (s:=b)
 obtain ⟨R,hR⟩:∃ R,R=Nat.gcd (nV a) (nV b):=⟨_,rfl⟩
 obtain ⟨A,hA⟩:∃ A,A=nV a:=⟨_,rfl⟩
 obtain ⟨B,hB⟩:∃ B,B=nV b:=⟨_,rfl⟩
 rw [← hR]
 rw [← hA] at g1 hsa hR
 rw [← hB] at g2 hsb hR
 refine acallsX (X:=[(158,x1149),(156,x1131)]) ⟨kx1149,kx1131,trivial⟩ tab hmix func155 c1130 (by rfl) fun hw=>?_
 simp -implicitDefEqProofs (disch:=omega) [gz,ir1130,b1130,s1,g1,g2]
 refine loopE (fun k st=>∃ x:Nat,Nat.gcd x k=R∧(nB x).size<549755813888∧(nB k).size<549755813888 ∧
   st=⟨ofL [(5,.v (.c (.d (.v (.string (nB x)))))),(6,.v (.c (.d (.v (.string (nB k))))))],[]⟩)
  (fun st=>AtS [(5,.v (.c (.d (.v (.string (nB R))))))] [] st) ?_ ?_ ?_
 ·refine wk_keep [5,6] ⟨B,A,hR.symm,by omega,by omega,?_⟩
  simp
 ·rintro J L hJ hL k st ⟨x,hg,hx,hk,rfl⟩
  by_cases hk0:k=0
  ·subst hk0
   have h0:nB 0=⟨#[]⟩:=Nv.natB_0
   rw [Nat.gcd_zero_right] at hg
   subst hg
   simp -implicitDefEqProofs (disch:=omega) [gz,h0,binSF]
   subst hL
   exact at_mk (by simp) rfl
  ·have hkp:0<k:=by omega
   have hne:=nB_ne hkp
   have hv1:nV (nB x)=x:=Nv.natV_natB x
   have hv2:nV (nB k)=k:=Nv.natV_natB k
   have g3:=xg1131 (nB x) (nB k) hx hk (by omega)
   rw [hv1,hv2] at g3
   have hms:=nB_lt (x:=x % k) (s:=nB k) (by rw [hv2]; exact Nat.mod_lt _ hkp)
   obtain ⟨y,hy⟩:∃ y,y=nB k:=⟨_,rfl⟩
   rw [← hy] at g3 hne ⊢
   simp -implicitDefEqProofs (disch:=omega) [gz,hne,binSF,s2,g3]
   subst hJ
   refine wk_keep [5,6] ⟨x % k,Nat.mod_lt _ hkp,k,?_,by omega,by omega,?_⟩
   ·rw [← hg,Nat.gcd_comm x k,Nat.gcd_comm k (x % k),← Nat.gcd_rec]
   ·rw [← hy]; simp
 ·rintro _ ⟨sl,rfl⟩
  simp -implicitDefEqProofs (disch:=omega) [gz,wrap64]
  exact fin_nil ⟨rfl,rfl⟩
def x1130:XE:=mkX true (fun (p:ByteArray×ByteArray)=>[.c (.v (.string p.1)),.c (.v (.string p.2))]) (fun p=>p.1.size<549755813888∧p.2.size<549755813888) (fun p=>.str (nB (Nat.gcd (nV p.1) (nV p.2))))
theorem kx1130:Contract prog G0 155 x1130:=mkX_scal (fun _=>rfl) fun p h=>k1130 p.1 p.2 h.1 h.2
theorem xg1130 (a b:ByteArray) (ha:a.size<549755813888) (hb:b.size<549755813888):x1130.g [.c (.v (.string a)),.c (.v (.string b))]=some (True,.str (nB (Nat.gcd (nV a) (nV b)))):=mkX_g inj2s (a,b) ⟨ha,hb⟩
theorem nvB (n:Nat):nV (nB n)=n:=Nv.natV_natB n
theorem k1129 (neg:Bool) (mag:ByteArray) (h:mag.size<549755813888):ACalls prog G0 134 [.c (.d (.v (.bool neg))),Sx mag] [] fun t H=>t = .v (iV neg (nV mag))∧H=[]:=by
 have s1:x1149.sc=true:=rfl
 have g1:=xg1149 mag (by omega)
 refine acallsX (X:=[(158,x1149)]) ⟨kx1149,trivial⟩ tab hmix func134 c1129 (by rfl) fun hw=>?_
 obtain ⟨n,hn⟩:∃ n,n=nV mag:=⟨_,rfl⟩
 rw [← hn] at g1 ⊢
 unfold iV
 cases neg
 ·obtain ⟨m,hm⟩:∃ m,m=nB n:=⟨_,rfl⟩
  rw [← hm] at g1 ⊢
  simp -implicitDefEqProofs (disch:=omega) [gz,ir1129,b1129,s1,g1,fillC,splice,binSF]
  exact fin_nil ⟨by simp,rfl⟩
 ·by_cases c:n=0
  ·have hE:nB n=⟨#[]⟩:=nB_nil.2 c
   rw [hE] at g1 ⊢
   rw [decide_eq_true c]
   simp -implicitDefEqProofs (disch:=omega) [gz,ir1129,b1129,s1,g1,fillC,splice,binSF]
   exact fin_nil ⟨rfl,rfl⟩
  ·have hE:¬ nB n=⟨#[]⟩:=fun q=>c (nB_nil.1 q)
   obtain ⟨m,hm⟩:∃ m,m=nB n:=⟨_,rfl⟩
   rw [← hm] at g1 hE ⊢
   rw [decide_eq_false c]
   simp -implicitDefEqProofs (disch:=omega) [gz,ir1129,b1129,s1,g1,hE,fillC,splice,binSF]
   exact fin_nil ⟨rfl,rfl⟩
def x1129:XE:=mkX true (fun (p:Bool×ByteArray)=>[.c (.v (.bool p.1)),.c (.v (.string p.2))]) (fun p=>p.2.size<549755813888) (fun p=>.v (iV p.1 (nV p.2)))
theorem kx1129:Contract prog G0 134 x1129:=mkX_scal (fun _=>rfl) fun p h=>k1129 p.1 p.2 h
theorem xg1129 (neg:Bool) (mag:ByteArray) (h:mag.size<549755813888):x1129.g [.c (.v (.bool neg)),.c (.v (.string mag))]=some (True,.v (iV neg (nV mag))):=mkX_g injBS (neg,mag) h
theorem k1114 (neg:Bool) (mag:ByteArray) (h:mag.size<549755813888):ACalls prog G0 130 [intV neg mag] [] fun t H=>t = .v (iV neg (nV mag))∧H=[]:=by
 have s1:x1129.sc=true:=rfl
 have g1:=xg1129 neg mag h
 refine acallsX (X:=[(134,x1129)]) ⟨kx1129,trivial⟩ tab hmix func130 c1114 (by rfl) fun hw=>?_
 obtain ⟨n,hn⟩:∃ n,n=nV mag:=⟨_,rfl⟩
 rw [← hn] at g1 ⊢
 unfold iV at g1 ⊢
 obtain ⟨b,hb⟩:∃ b,b=(neg && !decide (n=0)):=⟨_,rfl⟩
 rw [← hb] at g1 ⊢
 simp -implicitDefEqProofs (disch:=omega) [gz,ir1114,b1114,s1,g1,fillC,splice]
 exact fin_nil ⟨rfl,rfl⟩
def x1114:XE:=mkX true (fun (p:Bool×ByteArray)=>[intP p.1 p.2]) (fun p=>p.2.size<549755813888) (fun p=>.v (iV p.1 (nV p.2)))
theorem kx1114:Contract prog G0 130 x1114:=mkX_scal (fun _=>rfl) fun p h=>k1114 p.1 p.2 h
theorem xg1114 (neg:Bool) (mag:ByteArray) (h:mag.size<549755813888):x1114.g [intP neg mag]=some (True,.v (iV neg (nV mag))):=mkX_g injIA (neg,mag) h
theorem k1132 (neg:Bool) (mag:ByteArray) (h:mag.size<549755813888):ACalls prog G0 140 [intV neg mag] [] fun t H=>t = .int .i64 (sgnI neg (nV mag))∧H=[]:=by
 have s1:x1149.sc=true:=rfl
 have g1:=xg1149 mag (by omega)
 refine acallsX (X:=[(158,x1149)]) ⟨kx1149,trivial⟩ tab hmix func140 c1132 (by rfl) fun hw=>?_
 obtain ⟨n,hn⟩:∃ n,n=nV mag:=⟨_,rfl⟩
 rw [← hn] at g1 ⊢
 unfold sgnI
 by_cases c:n=0
 ·rw [if_pos c]
  have hE:nB n=⟨#[]⟩:=nB_nil.2 c
  rw [hE] at g1
  simp -implicitDefEqProofs (disch:=omega) [gz,ir1132,b1132,s1,g1,fillC,splice,binSF]
  exact fin_nil ⟨rfl,rfl⟩
 ·rw [if_neg c]
  have hE:¬ nB n=⟨#[]⟩:=fun q=>c (nB_nil.1 q)
  obtain ⟨m,hm⟩:∃ m,m=nB n:=⟨_,rfl⟩
  rw [← hm] at hE g1
  cases neg
  ·simp -implicitDefEqProofs (disch:=omega) [gz,ir1132,b1132,s1,g1,hE,fillC,splice,binSF]
   exact fin_nil ⟨rfl,rfl⟩
  ·simp -implicitDefEqProofs (disch:=omega) [gz,ir1132,b1132,s1,g1,hE,fillC,splice,binSF]
   exact fin_nil ⟨rfl,rfl⟩
def x1132:XE:=mkX true (fun (p:Bool×ByteArray)=>[intP p.1 p.2]) (fun p=>p.2.size<549755813888) (fun p=>.int .i64 (sgnI p.1 (nV p.2)))
theorem kx1132:Contract prog G0 140 x1132:=mkX_scal (fun _=>rfl) fun p h=>k1132 p.1 p.2 h
theorem xg1132 (neg:Bool) (mag:ByteArray) (h:mag.size<549755813888):x1132.g [intP neg mag]=some (True,.int .i64 (sgnI neg (nV mag))):=mkX_g injIA (neg,mag) h
theorem k1155 (n:Nat) (h:n<18446744073709551616):ACalls prog G0 135 [.c (.d (.v (.int .u64 (n:Int))))] [] fun t H=>t = .str (nB n)∧H=[]:=by
 have hlen:(Nv.digs n).length≤8:=Nv.digs_len_le (by omega)
 obtain ⟨Dn,hD⟩:∃ d,d=Nv.digs n:=⟨_,rfl⟩
 rw [← hD] at hlen
 refine acallsX (X:=[]) trivial tab hmix func135 c1155 (by rfl) fun hw=>?_
 simp -implicitDefEqProofs (disch:=omega) [gz,ir1155,b1155,fillR]
 refine loopE (fun k st=>k<18446744073709551616∧∃ out:List UInt8,out ++ Nv.digs k=Dn ∧
   st=⟨ofL [(0,.v (.c (.d (.v (.int .u64 (k:Int)))))),(3,.v (.c (.os 0 1 0 out.length)))],[.row 1 (out.map u8R)]⟩)
  (fun st=>AtS [(3,.v (.c (.os 0 1 0 Dn.length)))] [.row 1 (Dn.map u8R)] st) ?_ ?_ ?_
 ·refine wk_nil [0] [0,3] rfl ⟨n,h,[],by rw [hD]; rfl,?_⟩
  simp [phi,O.ren,C.ren]
 ·rintro J L hJ hL k st ⟨hk,out,ho,rfl⟩
  by_cases hk0:k=0
  ·subst hk0
   rw [Nv.digs_zero,List.append_nil] at ho
   subst ho
   simp -implicitDefEqProofs (disch:=omega) [gz,wrap64]
   subst hL
   exact at_mk (by simp) rfl
  ·have hkp:(0:Int)<(k:Int):=by omega
   have hkn:0<k:=by omega
   have hrem:(k:Int).tmod 256=((k % 256:Nat):Int):=(Int.ofNat_tmod k 256).symm
   have hquo:(k:Int).tdiv 256=((k / 256:Nat):Int):=(Int.ofNat_tdiv k 256).symm
   have hml:k % 256<256:=Nat.mod_lt _ (by decide)
   have hol:out.length≤8:=by
    have:=congrArg List.length ho
    rw [List.length_append] at this; omega
   have hws:IntKind.u8.wrap ((k % 256:Nat):Int)=((UInt8.ofNat (k % 256)).toNat:Int):=by rw [u8n,Nv.toNat_of hml,Nat.mod_eq_of_lt hml]
   have hw64:IntKind.u64.wrap ((k % 256:Nat):Int)=((k % 256:Nat):Int):=u64w (by omega)
   have hw64b:IntKind.u64.wrap ((k / 256:Nat):Int)=((k / 256:Nat):Int):=u64w (by omega)
   have tC:(out.map u8R).take out.length=out.map u8R:=List.take_of_length_le (by simp)
   obtain ⟨d,hd⟩:∃ d,d=k % 256:=⟨_,rfl⟩
   obtain ⟨q,hq⟩:∃ q,q=k / 256:=⟨_,rfl⟩
   rw [← hd] at hrem hws hw64
   rw [← hq] at hquo hw64b
   obtain ⟨c,hc⟩:∃ c,c=UInt8.ofNat d:=⟨_,rfl⟩
   rw [← hc] at hws
   simp -implicitDefEqProofs (disch:=omega) [gz,hkp,hkn,hk0,hrem,hquo,hw64,hw64b,hws,elems,tC,maxLen47,fillR]
   repeat' with_reducible apply And.intro
   all_goals first | omega | kernel_rfl | skip
   subst hJ
   refine wk_nil [2] [0,3] rfl ⟨q,by omega,by omega,out ++ [c],?_,?_⟩
   ·rw [hc,hd,hq,List.append_assoc,← ho,Nv.digs_pos hk0]; rfl
   ·simp [phi,O.ren,C.ren,u8R]
 ·rintro _ ⟨sl,rfl⟩
  have tC:(Dn.map u8R).take Dn.length=Dn.map u8R:=List.take_of_length_le (by simp)
  simp -implicitDefEqProofs (disch:=omega) [gz,wrap64,elems,tC,bytR_u8]
  exact fin_nil ⟨by rw [hD]; rfl,rfl⟩
def x1155:XE:=mkX true (fun (n:Nat)=>[.c (.v (.int .u64 (n:Int)))]) (fun n=>n<18446744073709551616) (fun n=>.str (nB n))
theorem kx1155:Contract prog G0 135 x1155:=mkX_scal (fun _=>rfl) fun n h=>k1155 n h
theorem xg1155 (n:Nat) (h:n<18446744073709551616):x1155.g [.c (.v (.int .u64 (n:Int)))]=some (True,.str (nB n)):=mkX_g (fun a b h=>by simp at h; omega) n h
theorem k1135 (n:Nat) (h:n<9223372036854775808):ACalls prog G0 93 [I n] [] fun t H=>t = .v (iV false n)∧H=[]:=by
 have s1:x1155.sc=true:=rfl
 have s2:x1129.sc=true:=rfl
 have g1:=xg1155 n (by omega)
 have hsz:(nB n).size≤8:=Nv.digs_len_le (by omega)
 have g2:=xg1129 false (nB n) (by omega)
 rw [nvB] at g2
 have w1:=u64w (n:=n) (by omega)
 have hn:¬ (n:Int)<0:=by omega
 refine acallsX (X:=[(135,x1155),(134,x1129)]) ⟨kx1155,kx1129,trivial⟩ tab hmix func93 c1135 (by rfl) fun hw=>?_
 unfold iV at g2 ⊢
 obtain ⟨b,hb⟩:∃ b,b=(false && !decide (n=0)):=⟨_,rfl⟩
 rw [← hb] at g2 ⊢
 simp -implicitDefEqProofs (disch:=omega) [gz,ir1135,b1135,s1,s2,g1,g2,w1,hn,fillC,splice]
 exact fin_nil ⟨rfl,rfl⟩
def x1135:XE:=mkX true (fun (n:Nat)=>[.c (.v (.int .i64 (n:Int)))]) (fun n=>n<9223372036854775808) (fun n=>.v (iV false n))
theorem kx1135:Contract prog G0 93 x1135:=mkX_scal (fun _=>rfl) fun n h=>k1135 n h
theorem xg1135 (n:Nat) (h:n<9223372036854775808):x1135.g [.c (.v (.int .i64 (n:Int)))]=some (True,.v (iV false n)):=mkX_g (fun a b h=>by simp at h; omega) n h
theorem k1117:ACalls prog G0 94 [] [] fun t H=>t = .v (intV false ⟨#[1]⟩)∧H=[]:=by
 have s1:x1135.sc=true:=rfl
 have g1:=xg1135 1 (by decide)
 unfold iV at g1
 rw [nB_one] at g1
 refine acallsX (X:=[(93,x1135)]) ⟨kx1135,trivial⟩ tab hmix func94 c1117 (by rfl) fun hw=>?_
 have g1':x1135.g [.c (.v (.int .i64 1))]=some (True,.v (intV false ⟨#[1]⟩)):=g1
 simp -implicitDefEqProofs (disch:=omega) [gz,ir1117,b1117,s1,g1',fillC,splice]
 exact fin_nil ⟨rfl,rfl⟩
def x1117:XE:=mkX true (fun (_:Unit)=>[]) (fun _=>True) (fun _=>.v (intV false ⟨#[1]⟩))
theorem kx1117:Contract prog G0 94 x1117:=mkX_scal (fun _=>rfl) fun _ _=>k1117
theorem xg1117:x1117.g []=some (True,.v (intV false ⟨#[1]⟩)):=mkX_g (fun a b h=>rfl) () trivial
def iR (p:Bool×ByteArray):List D:=[.v (.bool p.1),.v (.string p.2)]
theorem gcd_le {g b:Nat}:(nB (Nat.gcd g b)).size≤(nB g).size∨(nB (Nat.gcd g b)).size≤(nB b).size:=by
 rcases Nat.eq_zero_or_pos b with q | q
 ·subst q; rw [Nat.gcd_zero_right]; exact .inl (Nat.le_refl _)
 ·exact .inr (nB_mono (Nat.gcd_le_right _ q))
theorem k1115 (p q:Bool×ByteArray) (hp:p.2.size<4000000000) (hq:q.2.size<4000000000):ACalls prog G0 131 [.c (.d (.sl [iR p,iR q]))] [] fun t H=>t = .v (iV false (Nat.gcd (nV p.2) (nV q.2)))∧H=[]:=by
 have s1:x1130.sc=true:=rfl
 have s2:x1129.sc=true:=rfl
 have g1:=xg1130 ⟨#[]⟩ p.2 (by show 0<_; decide) (by omega)
 rw [show nV ⟨#[]⟩=0 from rfl,Nat.gcd_zero_left] at g1
 have hps:=nB_le (s:=p.2)
 have hqs:=nB_le (s:=q.2)
 have g2:=xg1130 (nB (nV p.2)) q.2 (by omega) (by omega)
 rw [nvB] at g2
 have hgs:(nB (Nat.gcd (nV p.2) (nV q.2))).size<549755813888:=by
  rcases gcd_le (g:=nV p.2) (b:=nV q.2) with h | h <;> omega
 have g3:=xg1129 false (nB (Nat.gcd (nV p.2) (nV q.2))) hgs
 rw [nvB] at g3
 obtain ⟨G,hG⟩:∃ G,G=Nat.gcd (nV p.2) (nV q.2):=⟨_,rfl⟩
 rw [← hG] at g2 g3 ⊢
 unfold iV at g3 ⊢
 obtain ⟨P,hP⟩:∃ P,P=nB (nV p.2):=⟨_,rfl⟩
 rw [← hP] at g1 g2
 obtain ⟨GB,hGB⟩:∃ G',G'=nB G:=⟨_,rfl⟩
 rw [← hGB] at g2 g3 ⊢
 obtain ⟨b,hb⟩:∃ b,b=(false && !decide (G=0)):=⟨_,rfl⟩
 rw [← hb] at g3 ⊢
 refine acallsX (X:=[(155,x1130),(134,x1129)]) ⟨kx1130,kx1129,trivial⟩ tab hmix func131 c1115 (by rfl) fun hw=>?_
 have i1:iR p=[.v (.bool p.1),.v (.string p.2)]:=rfl
 have i2:iR q=[.v (.bool q.1),.v (.string q.2)]:=rfl
 have n0:nth [iR p,iR q] 0=[.v (.bool p.1),.v (.string p.2)]:=rfl
 have n1:nth [iR p,iR q] 1=[.v (.bool q.1),.v (.string q.2)]:=rfl
 simp -implicitDefEqProofs (disch:=omega) [gz,ir1115,b1115]
 refine loopE (fun k st=>∃ (i:Nat) (g:ByteArray),i≤2∧k=2-i∧((i=0∧g=⟨#[]⟩)∨(i=1∧g=P)∨(i=2∧g=GB)) ∧
   st=⟨ofL [(0,.v (.c (.d (.sl [iR p,iR q])))),(2,.v (.c (.ptr 0 0))),(3,.v (.c (.d (.v (.string g))))),(4,.int .i64 i)],[.cells [.d (.v (.bool false)),.d (.v (.string ⟨#[]⟩))]]⟩)
  (fun st=>AtS [(2,.v (.c (.ptr 0 0))),(3,.v (.c (.d (.v (.string GB)))))] [.cells [.d (.v (.bool false)),.d (.v (.string ⟨#[]⟩))]] st) ?_ ?_ ?_
 ·refine wk_nil [0] [0,2,3,4] rfl ⟨_,0,⟨#[]⟩,by omega,rfl,.inl ⟨rfl,rfl⟩,?_⟩
  simp [phi,O.ren,C.ren]
 ·rintro J L hJ hL k st ⟨i,g,hi,rfl,hc,rfl⟩
  rcases hc with ⟨rfl,rfl⟩ | ⟨rfl,rfl⟩ | ⟨rfl,rfl⟩
  ·simp -implicitDefEqProofs (disch:=omega) [gz,n0,s1,g1,wrap64,fillC,splice]
   subst hJ
   refine wk_nil [0] [0,2,3,4] rfl ⟨1,by omega,1,P,by omega,rfl,.inr (.inl ⟨rfl,rfl⟩),?_⟩
   simp [phi,O.ren,C.ren]
  ·simp -implicitDefEqProofs (disch:=omega) [gz,n1,s1,g2,wrap64,fillC,splice]
   subst hJ
   refine wk_nil [0] [0,2,3,4] rfl ⟨2,GB,by omega,rfl,.inr (.inr ⟨rfl,rfl⟩),?_⟩
   simp [phi,O.ren,C.ren]
  ·simp -implicitDefEqProofs (disch:=omega) [gz,wrap64]
   subst hL
   exact at_mk (by simp) rfl
 ·rintro _ ⟨sl,rfl⟩
  simp -implicitDefEqProofs (disch:=omega) [gz,s2,g3,fillC,splice]
  exact fin_nil ⟨rfl,rfl⟩
def x1115:XE:=mkX true (fun (p:(Bool×ByteArray)×(Bool×ByteArray))=>[.c (.sl [iR p.1,iR p.2])]) (fun p=>p.1.2.size<4000000000∧p.2.2.size<4000000000) (fun p=>.v (iV false (Nat.gcd (nV p.1.2) (nV p.2.2))))
theorem kx1115:Contract prog G0 131 x1115:=mkX_scal (fun _=>rfl) fun p h=>k1115 p.1 p.2 h.1 h.2
theorem iR_inj {a b:Bool×ByteArray} (h:iR a=iR b):a=b:=by
 simp [iR] at h; exact Prod.ext h.1 h.2
theorem xg1115 (p q:Bool×ByteArray) (hp:p.2.size<4000000000) (hq:q.2.size<4000000000):x1115.g [.c (.sl [iR p,iR q])]=some (True,.v (iV false (Nat.gcd (nV p.2) (nV q.2)))):=mkX_g (fun a b h=>by
 simp only [List.cons.injEq,PVo.c.injEq,D.sl.injEq,and_true] at h
 exact Prod.ext (iR_inj h.1) (iR_inj h.2)) (p,q) ⟨hp,hq⟩
theorem k1116 (a b:ByteArray) (ha:a.size<4000000000) (hb:b.size<4000000000) (h0:nV b≠0):ACalls prog G0 132 [intV false a,intV false b] [] fun t H=>t = .tup [iV false (nV a / nV b),iV false (nV a % nV b),.c (.d (.v (.bool true)))]∧H=[]:=by
 have s1:x1131.sc=true:=rfl
 have s2:x1129.sc=true:=rfl
 have s3:x1132.sc=true:=rfl
 have g1:=xg1131 a b (by omega) (by omega) (by omega)
 have hqs:(nB (nV a / nV b)).size≤a.size:=Nat.le_trans (nB_mono (Nat.div_le_self _ _)) nB_le
 have hrs:=nB_lt (x:=nV a % nV b) (s:=b) (Nat.mod_lt _ (by omega))
 have g2:=xg1129 false (nB (nV a % nV b)) (by omega)
 have g3:=xg1129 false (nB (nV a / nV b)) (by omega)
 rw [nvB] at g2 g3
 obtain ⟨Q,hQ⟩:∃ Q,Q=nV a / nV b:=⟨_,rfl⟩
 obtain ⟨M,hM⟩:∃ M,M=nV a % nV b:=⟨_,rfl⟩
 rw [← hQ,← hM] at g1 ⊢
 rw [← hM] at g2 hrs
 rw [← hQ] at g3 hqs
 have g4:=xg1132 (false && !decide (M=0)) (nB M) (by omega)
 rw [nvB] at g4
 have hsg:¬ sgnI (false && !decide (M=0)) M<0:=by unfold sgnI; split <;> simp
 obtain ⟨z,hz⟩:∃ z,z=sgnI (false && !decide (M=0)) M:=⟨_,rfl⟩
 rw [← hz] at g4 hsg
 unfold iV at g2 g3 ⊢
 obtain ⟨b1,hb1⟩:∃ b,b=(false && !decide (M=0)):=⟨_,rfl⟩
 obtain ⟨b2,hb2⟩:∃ b,b=(false && !decide (Q=0)):=⟨_,rfl⟩
 rw [← hb1] at g2 g4
 rw [← hb2] at g3
 rw [← hb1,← hb2]
 obtain ⟨MB,hMB⟩:∃ x,x=nB M:=⟨_,rfl⟩
 obtain ⟨QB,hQB⟩:∃ x,x=nB Q:=⟨_,rfl⟩
 rw [← hMB,← hQB] at g1 ⊢
 rw [← hMB] at g2 g4
 rw [← hQB] at g3
 refine acallsX (X:=[(156,x1131),(134,x1129),(140,x1132)]) ⟨kx1131,kx1129,kx1132,trivial⟩ tab hmix func132 c1116 (by rfl) fun hw=>?_
 simp -implicitDefEqProofs (disch:=omega) [gz,ir1116,b1116,b1116_0,b1116_1,b1116_2,b1116_3,b1116_4,b1116_5,b1116_6,b1116_7,s1,g1,s2,g2,g3,s3,g4,hsg,fillC,splice]
 repeat' with_reducible apply And.intro
 all_goals first | omega | kernel_rfl | skip
 exact fin_nil ⟨rfl,rfl⟩
def x1116:XE:=mkX true (fun (p:ByteArray×ByteArray)=>[intP false p.1,intP false p.2]) (fun p=>p.1.size<4000000000∧p.2.size<4000000000∧nV p.2≠0) (fun p=>.tup [iV false (nV p.1 / nV p.2),iV false (nV p.1 % nV p.2),.c (.d (.v (.bool true)))])
theorem kx1116:Contract prog G0 132 x1116:=mkX_scal (fun _=>rfl) fun p h=>k1116 p.1 p.2 h.1 h.2.1 h.2.2
theorem xg1116 (a b:ByteArray) (ha:a.size<4000000000) (hb:b.size<4000000000) (h0:nV b≠0):x1116.g [intP false a,intP false b]=some (True,.tup [iV false (nV a / nV b),iV false (nV a % nV b),.c (.d (.v (.bool true)))]):=mkX_g (fun a b h=>by
 simp at h; exact Prod.ext h.1 h.2) (a,b) ⟨ha,hb,h0⟩
theorem k1101 (x:Nv.Rt) (h1:x.num.size<4000000000):ACalls prog G0 90 [ratV x] [] fun t H=>t = .v (iV x.neg (nV x.num))∧H=[]:=by
 have s1:x1114.sc=true:=rfl
 have g1:=xg1114 x.neg x.num (by omega)
 obtain ⟨xn,xa,xb⟩:=x
 refine acallsX (X:=[(130,x1114)]) ⟨kx1114,trivial⟩ tab hmix func90 c1101 (by rfl) fun hw=>?_
 unfold iV at g1 ⊢
 obtain ⟨b,hb⟩:∃ b,b=(xn && !decide (nV xa=0)):=⟨_,rfl⟩
 obtain ⟨n,hn⟩:∃ n,n=nB (nV xa):=⟨_,rfl⟩
 simp only [← hb,← hn] at g1 ⊢
 simp -implicitDefEqProofs (disch:=omega) [gz,ir1101,b1101,s1,g1,fillC,splice]
 exact fin_nil ⟨rfl,rfl⟩
def x1101:XE:=mkX true (fun (x:Nv.Rt)=>[ratP x]) (fun x=>x.num.size<4000000000) (fun x=>.v (iV x.neg (nV x.num)))
theorem kx1101:Contract prog G0 90 x1101:=mkX_scal (fun _=>rfl) fun x h=>k1101 x h
theorem xg1101 (x:Nv.Rt) (h1:x.num.size<4000000000):x1101.g [ratP x]=some (True,.v (iV x.neg (nV x.num))):=mkX_g injRat x h1
theorem k1102 (x:Nv.Rt) (h2:x.den.size<4000000000):ACalls prog G0 91 [ratV x] [] fun t H=>t = .v (iV false (Nv.denV x.den))∧H=[]:=by
 have s1:x1114.sc=true:=rfl
 have s2:x1117.sc=true:=rfl
 have g1:=xg1114 false x.den (by omega)
 have g2:=xg1117
 obtain ⟨xn,xa,xb⟩:=x
 refine acallsX (X:=[(130,x1114),(94,x1117)]) ⟨kx1114,kx1117,trivial⟩ tab hmix func91 c1102 (by rfl) fun hw=>?_
 unfold Nv.denV
 simp only at g1 ⊢
 obtain ⟨n,hn⟩:∃ n,n=nV xb:=⟨_,rfl⟩
 rw [show Nv.natV xb=n from hn.symm]
 rw [← hn] at g1
 by_cases c:n=0
 ·rw [if_pos c]
  have hE:nB n=⟨#[]⟩:=nB_nil.2 c
  unfold iV at g1 ⊢
  rw [hE] at g1
  rw [nB_one]
  simp -implicitDefEqProofs (disch:=omega) [gz,ir1102,b1102,s1,g1,s2,g2,fillC,splice,binSF]
  exact fin_nil ⟨rfl,rfl⟩
 ·rw [if_neg c]
  have hE:¬ nB n=⟨#[]⟩:=fun q=>c (nB_nil.1 q)
  unfold iV at g1 ⊢
  obtain ⟨m,hm⟩:∃ m,m=nB n:=⟨_,rfl⟩
  rw [← hm] at g1 hE ⊢
  obtain ⟨b,hb⟩:∃ b,b=(false && !decide (n=0)):=⟨_,rfl⟩
  rw [← hb] at g1 ⊢
  simp -implicitDefEqProofs (disch:=omega) [gz,ir1102,b1102,s1,g1,hE,fillC,splice,binSF]
  exact fin_nil ⟨rfl,rfl⟩
def x1102:XE:=mkX true (fun (x:Nv.Rt)=>[ratP x]) (fun x=>x.den.size<4000000000) (fun x=>.v (iV false (Nv.denV x.den)))
theorem kx1102:Contract prog G0 91 x1102:=mkX_scal (fun _=>rfl) fun x h=>k1102 x h
theorem xg1102 (x:Nv.Rt) (h2:x.den.size<4000000000):x1102.g [ratP x]=some (True,.v (iV false (Nv.denV x.den))):=mkX_g injRat x h2
theorem k1100 (n1 n2:Bool) (a b:ByteArray) (h1:a.size<4000000000) (h2:b.size<4000000000):ACalls prog G0 89 [intV n1 a,intV n2 b] [] fun t H=>t=makeT n1 n2 (nV a) (nV b)∧H=[]:=by
 have s1:x1114.sc=true:=rfl
 have s2:x1115.sc=true:=rfl
 have s3:x1116.sc=true:=rfl
 have s4:x1117.sc=true:=rfl
 have g1:=xg1114 n1 a (by omega)
 have g2:=xg1114 n2 b (by omega)
 have g7:=xg1117
 have hsa:=nB_le (s:=a)
 have hsb:=nB_le (s:=b)
 refine acallsX (X:=[(130,x1114),(131,x1115),(132,x1116),(94,x1117)]) ⟨kx1114,kx1115,kx1116,kx1117,trivial⟩ tab hmix func89 c1100 (by rfl) fun hw=>?_
 obtain ⟨A,hA⟩:∃ A,A=nV a:=⟨_,rfl⟩
 obtain ⟨B,hB⟩:∃ B,B=nV b:=⟨_,rfl⟩
 rw [← hA] at g1 hsa ⊢
 rw [← hB] at g2 hsb ⊢
 unfold makeT
 unfold iV at g1 g2
 obtain ⟨b1,hb1⟩:∃ x,x=(n1 && !decide (A=0)):=⟨_,rfl⟩
 obtain ⟨b2,hb2⟩:∃ x,x=(n2 && !decide (B=0)):=⟨_,rfl⟩
 rw [← hb1] at g1
 rw [← hb2] at g2
 by_cases c0:B=0
 ·rw [if_pos c0]
  have hE:nB B=⟨#[]⟩:=nB_nil.2 c0
  rw [hE] at g2
  obtain ⟨ab,hab⟩:∃ x,x=nB A:=⟨_,rfl⟩
  rw [← hab] at g1
  simp -implicitDefEqProofs (disch:=omega) [gz,ir1100,b1100,b1100_0,b1100_1,b1100_2,s1,g1,g2,fillC,splice,binSF]
  repeat' with_reducible apply And.intro
  all_goals first | omega | kernel_rfl | skip
  exact fin_nil ⟨rfl,rfl⟩
 ·rw [if_neg c0]
  have hE:¬ nB B=⟨#[]⟩:=fun q=>c0 (nB_nil.1 q)
  have g3:=xg1115 (false,nB A) (false,nB B) (by show (nB A).size<_; omega) (by show (nB B).size<_; omega)
  rw [show nV (false,nB A).2=A from nvB A,show nV (false,nB B).2=B from nvB B] at g3
  have hg0:0<Nat.gcd A B:=Nat.gcd_pos_of_pos_right _ (Nat.pos_of_ne_zero c0)
  have hgB:Nat.gcd A B ∣ B:=Nat.gcd_dvd_right A B
  have hgA:Nat.gcd A B ∣ A:=Nat.gcd_dvd_left A B
  have hgs:(nB (Nat.gcd A B)).size<4000000000:=by
   rcases gcd_le (g:=A) (b:=B) with h | h <;> omega
  unfold Nv.mkR
  obtain ⟨g,hg⟩:∃ g,g=Nat.gcd A B:=⟨_,rfl⟩
  rw [← hg] at g3 hg0 hgB hgA hgs ⊢
  have g4:=xg1116 (nB A) (nB g) (by omega) hgs (by rw [nvB]; omega)
  have g5:=xg1116 (nB B) (nB g) (by omega) hgs (by rw [nvB]; omega)
  rw [nvB,nvB] at g4 g5
  unfold iV at g3 g4 g5
  have f1:(false && !decide (g=0))=false:=rfl
  have f2:(false && !decide (A / g=0))=false:=rfl
  have f3:(false && !decide (B / g=0))=false:=rfl
  have f4:(false && !decide (A % g=0))=false:=rfl
  have f5:(false && !decide (B % g=0))=false:=rfl
  rw [f1] at g3
  rw [f2,f4] at g4
  rw [f3,f5] at g5
  obtain ⟨m1,hm1⟩:∃ x,x=nB (A % g):=⟨_,rfl⟩
  obtain ⟨m2,hm2⟩:∃ x,x=nB (B % g):=⟨_,rfl⟩
  rw [← hm1] at g4
  rw [← hm2] at g5
  obtain ⟨gs,hgse⟩:∃ gs,gs=nB g:=⟨_,rfl⟩
  rw [← hgse] at g3 g4 g5
  have g3':x1115.g [.c (.sl [[.v (.bool false),.v (.string (nB A))],[.v (.bool false),.v (.string (nB B))]])]=some (True,.v (intV false gs)):=g3
  have hq1:B / g=1↔nB (B / g)=⟨#[1]⟩:=nB_is1.symm
  obtain ⟨bb,hbb⟩:∃ x,x=nB B:=⟨_,rfl⟩
  rw [← hbb] at g2 hE g5 g3'
  obtain ⟨qb,hqb⟩:∃ x,x=nB (B / g):=⟨_,rfl⟩
  rw [show Nv.natB (B / g)=qb from hqb.symm]
  rw [← hqb] at g5 hq1
  by_cases c1:A=0
  ·rw [if_pos c1]
   have hgB2:g=B:=by rw [hg,c1,Nat.gcd_zero_left]
   have hq:qb=⟨#[1]⟩:=hq1.1 (by rw [hgB2,Nat.div_self (by omega)])
   have hnA:nB A=⟨#[]⟩:=nB_nil.2 c1
   have hnq:nB (A / g)=⟨#[]⟩:=nB_nil.2 (by rw [c1,Nat.zero_div])
   rw [hnA] at g1 g3' g4
   rw [hnq] at g4
   rw [hq] at g5
   simp -implicitDefEqProofs (disch:=omega) [gz,ir1100,b1100,b1100_0,b1100_1,b1100_2,b1100_3,b1100_4,b1100_5,b1100_6,b1100_7,b1100_8,b1100_9,b1100_10,b1100_11,b1100_12,s1,g1,g2,hE,s2,g3',s3,g4,g5,s4,g7,fillC,splice,fillR,binSF,cellsEq,skEq,toBVs]
   repeat' with_reducible apply And.intro
   all_goals first | omega | kernel_rfl | skip
   exact fin_nil ⟨rfl,rfl⟩
  ·rw [if_neg c1]
   have e1:b1=n1:=by rw [hb1,decide_eq_false c1]; simp
   have e2:b2=n2:=by rw [hb2,decide_eq_false c0]; simp
   rw [e1] at g1
   rw [e2] at g2
   have hnq:¬ nB (A / g)=⟨#[]⟩:=fun q=>by
    have h0:=nB_nil.1 q
    have:=Nat.div_mul_cancel hgA
    rw [h0,Nat.zero_mul] at this
    exact c1 this.symm
   obtain ⟨na,hna⟩:∃ x,x=nB A:=⟨_,rfl⟩
   rw [← hna] at g1 g3' g4
   obtain ⟨nq,hnq2⟩:∃ x,x=nB (A / g):=⟨_,rfl⟩
   rw [show Nv.natB (A / g)=nq from hnq2.symm]
   rw [← hnq2] at g4 hnq
   have hA2:=hnq
   by_cases c2:B / g=1
   ·rw [if_pos c2]
    have hq:=hq1.1 c2
    rw [hq] at g5
    have hQ1:True:=trivial
    cases n1 <;> cases n2
    ·simp -implicitDefEqProofs (disch:=omega) [gz,ir1100,b1100,b1100_0,b1100_1,b1100_2,b1100_3,b1100_4,b1100_5,b1100_6,b1100_7,b1100_8,b1100_9,b1100_10,b1100_11,b1100_12,s1,g1,g2,hE,s2,g3',s3,g4,g5,s4,g7,hA2,hQ1,fillC,splice,fillR,binSF,cellsEq,skEq,toBVs]
     repeat' with_reducible apply And.intro
     all_goals first | omega | kernel_rfl | skip
     exact fin_nil ⟨rfl,rfl⟩
    ·simp -implicitDefEqProofs (disch:=omega) [gz,ir1100,b1100,b1100_0,b1100_1,b1100_2,b1100_3,b1100_4,b1100_5,b1100_6,b1100_7,b1100_8,b1100_9,b1100_10,b1100_11,b1100_12,s1,g1,g2,hE,s2,g3',s3,g4,g5,s4,g7,hA2,hQ1,fillC,splice,fillR,binSF,cellsEq,skEq,toBVs]
     repeat' with_reducible apply And.intro
     all_goals first | omega | kernel_rfl | skip
     exact fin_nil ⟨rfl,rfl⟩
    ·simp -implicitDefEqProofs (disch:=omega) [gz,ir1100,b1100,b1100_0,b1100_1,b1100_2,b1100_3,b1100_4,b1100_5,b1100_6,b1100_7,b1100_8,b1100_9,b1100_10,b1100_11,b1100_12,s1,g1,g2,hE,s2,g3',s3,g4,g5,s4,g7,hA2,hQ1,fillC,splice,fillR,binSF,cellsEq,skEq,toBVs]
     repeat' with_reducible apply And.intro
     all_goals first | omega | kernel_rfl | skip
     exact fin_nil ⟨rfl,rfl⟩
    ·simp -implicitDefEqProofs (disch:=omega) [gz,ir1100,b1100,b1100_0,b1100_1,b1100_2,b1100_3,b1100_4,b1100_5,b1100_6,b1100_7,b1100_8,b1100_9,b1100_10,b1100_11,b1100_12,s1,g1,g2,hE,s2,g3',s3,g4,g5,s4,g7,hA2,hQ1,fillC,splice,fillR,binSF,cellsEq,skEq,toBVs]
     repeat' with_reducible apply And.intro
     all_goals first | omega | kernel_rfl | skip
     exact fin_nil ⟨rfl,rfl⟩
   ·rw [if_neg c2]
    have hQ1:¬ qb=⟨#[1]⟩:=fun q=>c2 (hq1.2 q)
    cases n1 <;> cases n2
    ·simp -implicitDefEqProofs (disch:=omega) [gz,ir1100,b1100,b1100_0,b1100_1,b1100_2,b1100_3,b1100_4,b1100_5,b1100_6,b1100_7,b1100_8,b1100_9,b1100_10,b1100_11,b1100_12,s1,g1,g2,hE,s2,g3',s3,g4,g5,s4,g7,hA2,hQ1,fillC,splice,fillR,binSF,cellsEq,skEq,toBVs]
     repeat' with_reducible apply And.intro
     all_goals first | omega | kernel_rfl | skip
     exact fin_nil ⟨rfl,rfl⟩
    ·simp -implicitDefEqProofs (disch:=omega) [gz,ir1100,b1100,b1100_0,b1100_1,b1100_2,b1100_3,b1100_4,b1100_5,b1100_6,b1100_7,b1100_8,b1100_9,b1100_10,b1100_11,b1100_12,s1,g1,g2,hE,s2,g3',s3,g4,g5,s4,g7,hA2,hQ1,fillC,splice,fillR,binSF,cellsEq,skEq,toBVs]
     repeat' with_reducible apply And.intro
     all_goals first | omega | kernel_rfl | skip
     exact fin_nil ⟨rfl,rfl⟩
    ·simp -implicitDefEqProofs (disch:=omega) [gz,ir1100,b1100,b1100_0,b1100_1,b1100_2,b1100_3,b1100_4,b1100_5,b1100_6,b1100_7,b1100_8,b1100_9,b1100_10,b1100_11,b1100_12,s1,g1,g2,hE,s2,g3',s3,g4,g5,s4,g7,hA2,hQ1,fillC,splice,fillR,binSF,cellsEq,skEq,toBVs]
     repeat' with_reducible apply And.intro
     all_goals first | omega | kernel_rfl | skip
     exact fin_nil ⟨rfl,rfl⟩
    ·simp -implicitDefEqProofs (disch:=omega) [gz,ir1100,b1100,b1100_0,b1100_1,b1100_2,b1100_3,b1100_4,b1100_5,b1100_6,b1100_7,b1100_8,b1100_9,b1100_10,b1100_11,b1100_12,s1,g1,g2,hE,s2,g3',s3,g4,g5,s4,g7,hA2,hQ1,fillC,splice,fillR,binSF,cellsEq,skEq,toBVs]
     repeat' with_reducible apply And.intro
     all_goals first | omega | kernel_rfl | skip
     exact fin_nil ⟨rfl,rfl⟩
def x1100:XE:=mkX true (fun (p:(Bool×ByteArray)×(Bool×ByteArray))=>[intP p.1.1 p.1.2,intP p.2.1 p.2.2]) (fun p=>p.1.2.size<4000000000∧p.2.2.size<4000000000) (fun p=>makeT p.1.1 p.2.1 (nV p.1.2) (nV p.2.2))
theorem kx1100:Contract prog G0 89 x1100:=mkX_scal (fun _=>makeT_sc _ _ _ _) fun p h=>k1100 p.1.1 p.2.1 p.1.2 p.2.2 h.1 h.2
theorem xg1100 (n1 n2:Bool) (a b:ByteArray) (h1:a.size<4000000000) (h2:b.size<4000000000):x1100.g [intP n1 a,intP n2 b]=some (True,makeT n1 n2 (nV a) (nV b)):=mkX_g injII ((n1,a),(n2,b)) ⟨h1,h2⟩
theorem k1090 (x:Nv.Rt) (h1:x.num.size<4000000000) (h2:x.den.size<4000000000):ACalls prog G0 50 [ratV x] [] fun t H=>t = .v (ratV (Nv.normR x))∧H=[]:=by
 have s1:x1101.sc=true:=rfl
 have s2:x1102.sc=true:=rfl
 have s3:x1100.sc=true:=rfl
 have g1:=xg1101 x h1
 have g3:=xg1102 x h2
 have hn:=nB_le (s:=x.num)
 have hd0:=Nv.denV_pos x.den
 have g2:=xg1100 (x.neg && !decide (nV x.num=0)) (false && !decide (Nv.denV x.den=0)) (nB (nV x.num)) (nB (Nv.denV x.den)) (by omega) (den_size h2)
 rw [nvB,nvB] at g2
 unfold makeT at g2
 rw [if_neg (by omega)] at g2
 have hnorm:Nv.mkR (!decide ((x.neg && !decide (nV x.num=0))=(false && !decide (Nv.denV x.den=0)))) (nV x.num) (Nv.denV x.den)=Nv.normR x:=by
  unfold Nv.normR
  by_cases c:nV x.num=0
  ·show Nv.mkR _ (nV x.num) _=Nv.mkR _ (nV x.num) _
   rw [c,Nv.mkR_zero,Nv.mkR_zero]
  ·rw [decide_eq_false c]
   cases x.neg <;> rfl
 rw [hnorm] at g2
 unfold iV at g1 g3
 refine acallsX (X:=[(90,x1101),(91,x1102),(89,x1100)]) ⟨kx1101,kx1102,kx1100,trivial⟩ tab hmix func50 c1090 (by rfl) fun hw=>?_
 obtain ⟨b1,hb1⟩:∃ b1,b1=(x.neg && !decide (nV x.num=0)):=⟨_,rfl⟩
 obtain ⟨b2,hb2⟩:∃ b2,b2=(false && !decide (Nv.denV x.den=0)):=⟨_,rfl⟩
 rw [← hb1] at g1 g2
 rw [← hb2] at g3 g2
 obtain ⟨m1,hm1⟩:∃ m,m=nB (nV x.num):=⟨_,rfl⟩
 obtain ⟨m2,hm2⟩:∃ m,m=nB (Nv.denV x.den):=⟨_,rfl⟩
 rw [← hm1] at g1 g2
 rw [← hm2] at g3 g2
 obtain ⟨y,hy⟩:∃ y,y=Nv.normR x:=⟨_,rfl⟩
 rw [← hy] at g2 ⊢
 obtain ⟨xn,xa,xb⟩:=x
 simp -implicitDefEqProofs (disch:=omega) [gz,ir1090,b1090,s1,s2,s3,g1,g3,g2,fillC,splice]
 repeat' with_reducible apply And.intro
 all_goals first | omega | kernel_rfl | skip
 exact fin_nil ⟨rfl,rfl⟩
def x1090:XE:=mkX true (fun (x:Nv.Rt)=>[ratP x]) (fun x=>x.num.size<4000000000∧x.den.size<4000000000) (fun x=>.v (ratV (Nv.normR x)))
theorem kx1090:Contract prog G0 50 x1090:=mkX_scal (fun _=>rfl) fun x h=>k1090 x h.1 h.2
theorem xg1090 (x:Nv.Rt) (h1:x.num.size<4000000000) (h2:x.den.size<4000000000):x1090.g [ratP x]=some (True,.v (ratV (Nv.normR x))):=mkX_g injRat x ⟨h1,h2⟩
theorem k1091 (x:Nv.Rt) (n:Nat) (h1:x.num.size<4000000000) (h2:x.den.size<4000000000):ACalls prog G0 25 [ratV x,I n] [] fun t H=>t = .bool (fitsR x n)∧H=[]:=by
 have s1:x1090.sc=true:=rfl
 have g1:=xg1090 x h1 h2
 refine acallsX (X:=[(50,x1090)]) ⟨kx1090,trivial⟩ tab hmix func25 c1091 (by rfl) fun hw=>?_
 unfold fitsR
 obtain ⟨⟨yn,ya,yb⟩,hy⟩:∃ y,y=Nv.normR x:=⟨_,rfl⟩
 rw [← hy] at g1 ⊢
 obtain ⟨xn,xa,xb⟩:=x
 by_cases c1:ya.size≤n
 ·have c1':(ya.size:Int)≤(n:Int):=by omega
  by_cases c2:yb.size≤n
  ·have c2':(yb.size:Int)≤(n:Int):=by omega
   simp -implicitDefEqProofs (disch:=omega) [gz,ir1091,b1091,s1,g1,fillC,splice,c1',c2',c1,c2]
   exact fin_nil ⟨rfl,rfl⟩
  ·have c2':¬ (yb.size:Int)≤(n:Int):=by omega
   simp -implicitDefEqProofs (disch:=omega) [gz,ir1091,b1091,s1,g1,fillC,splice,c1',c2',c1,c2]
   exact fin_nil ⟨rfl,rfl⟩
 ·have c1':¬ (ya.size:Int)≤(n:Int):=by omega
  simp -implicitDefEqProofs (disch:=omega) [gz,ir1091,b1091,s1,g1,fillC,splice,c1',c1]
  exact fin_nil ⟨rfl,rfl⟩
def x1091:XE:=mkX true (fun (p:Nv.Rt×Nat)=>[ratP p.1,.c (.v (.int .i64 (p.2:Int)))]) (fun p=>p.1.num.size<4000000000∧p.1.den.size<4000000000) (fun p=>.bool (fitsR p.1 p.2))
theorem kx1091:Contract prog G0 25 x1091:=mkX_scal (fun _=>rfl) fun p h=>k1091 p.1 p.2 h.1 h.2
theorem xg1091 (x:Nv.Rt) (n:Nat) (h1:x.num.size<4000000000) (h2:x.den.size<4000000000):x1091.g [ratP x,.c (.v (.int .i64 (n:Int)))]=some (True,.bool (fitsR x n)):=mkX_g injRN (x,n) ⟨h1,h2⟩
theorem k1075 (x:Id) (hs:x.a.size<4611686018427387904):ACalls prog G0 112 [.agg (x.row.map .d)] [] fun t H=>t = .bool (validI x)∧H=[]:=by
 have s1:x526.sc=true:=rfl
 have g1:=xg526 x.a hs
 have hxr:x.row=[.v (.string x.a),.v (.int .i64 x.n)]:=rfl
 refine acallsX (X:=[(46,x526)]) ⟨kx526,trivial⟩ tab hmix func112 c1075 (by rfl) fun hw=>?_
 unfold validI
 obtain ⟨p,hp⟩:∃ p,p=authB x.a:=⟨_,rfl⟩
 rw [← hp] at g1 ⊢
 cases p
 ·simp -implicitDefEqProofs (disch:=omega) [gz,ir1075,b1075,hxr,s1,g1]
  exact fin_nil ⟨rfl,rfl⟩
 ·by_cases c1:1≤x.n
  ·by_cases c2:x.n≤1000000000
   ·simp -implicitDefEqProofs (disch:=omega) [gz,ir1075,b1075,hxr,s1,g1,c1,c2]
    exact fin_nil ⟨rfl,rfl⟩
   ·simp -implicitDefEqProofs (disch:=omega) [gz,ir1075,b1075,hxr,s1,g1,c1,c2]
    exact fin_nil ⟨rfl,rfl⟩
  ·simp -implicitDefEqProofs (disch:=omega) [gz,ir1075,b1075,hxr,s1,g1,c1]
   exact fin_nil ⟨rfl,rfl⟩
def x1075:XE:=mkX true (fun (x:Id)=>[.agg x.row]) (fun x=>x.a.size<4611686018427387904) (fun x=>.bool (validI x))
theorem kx1075:Contract prog G0 112 x1075:=mkX_scal (fun _=>rfl) fun x h=>k1075 x h
theorem xg1075 (x:Id) (h:x.a.size<4611686018427387904):x1075.g [.agg x.row]=some (True,.bool (validI x)):=mkX_g (fun a b h=>by simp at h; exact Id.row_inj h) x h
theorem mem_drop {α:Type} {p:α→Bool} {l:List α} {x:α} (hx:x∈l) (hp:p x=false):x∈l.dropWhile p:=by
 have h:x∈l.takeWhile p ++ l.dropWhile p:=by rw [List.takeWhile_append_dropWhile]; exact hx
 rcases List.mem_append.1 h with h | h
 ·rw [takeW_all h] at hp; cases hp
 ·exact h
theorem abc_has (b:UInt8):abc.data.toList.contains b=(decide (97≤b.toNat) && decide (b.toNat≤122)):=by
 have h:∀ n,n<256→abc.data.toList.contains (UInt8.ofNat n)=(decide (97≤(UInt8.ofNat n).toNat) && decide ((UInt8.ofNat n).toNat≤122)):=by decide +kernel
 have:=h b.toNat (UInt8.toNat_lt b)
 rwa [UInt8.ofNat_toNat] at this
theorem drop_nil {α:Type} {p:α→Bool} {l:List α} (h:∀ x∈l,p x=true):l.dropWhile p=[]:=by
 induction l with
 | nil=>rfl
 | cons x l ih =>
  rw [List.dropWhile_cons,if_pos (h x List.mem_cons_self)]
  exact ih fun y hy=>h y (List.mem_cons_of_mem _ hy)
theorem trimS_nil (l cs:List UInt8):Lib.trimS l cs=[]↔∀ b∈l,cs.contains b=true:=by
 unfold Lib.trimS Lib.trimLeftS Lib.trimRightS
 constructor
 ·intro h b hb
  cases hq:cs.contains b
  ·exfalso
   have h1:b∈((l.reverse.dropWhile (cs.contains ·)).reverse):=List.mem_reverse.2 (mem_drop (List.mem_reverse.2 hb) hq)
   have h2:=mem_drop (p:=(cs.contains ·)) h1 hq
   rw [h] at h2
   cases h2
  ·rfl
 ·intro h
  have e:l.reverse.dropWhile (cs.contains ·)=[]:=drop_nil fun b hb=>h b (List.mem_reverse.1 hb)
  rw [e]; rfl
def lowerB (s:ByteArray) (i:Nat):Bool:=decide (97≤byt s i) && decide (byt s i≤122)
theorem word_iff (s:ByteArray):wordB s=(decide (∀ j,j<s.size→lowerB s j=true) && (decide (1≤s.size) && decide (s.size≤24))):=by
 have h1:(trimA s=⟨#[]⟩)↔∀ j,j<s.size→lowerB s j=true:=by
  have h0:(trimA s=⟨#[]⟩)↔Lib.trimS (bl8 s) abc.data.toList=[]:=by
   unfold trimA
   constructor
   ·intro h
    have:=congrArg (fun b:ByteArray=>b.data.toList) h
    simpa [bl8] using this
   ·intro h
    show (⟨(Lib.trimS (bl8 s) abc.data.toList).toArray⟩:ByteArray)=_
    rw [h]
  rw [h0,trimS_nil]
  constructor
  ·intro h j hj
   have hb:=h ((bl8 s)[j]'hj) (List.getElem_mem _)
   rw [abc_has] at hb
   have e:byt s j=(((bl8 s)[j]'hj).toNat:Int):=by unfold byt; rw [bl8_at]; exact congrArg (fun x:UInt8=>(x.toNat:Int)) (bl8_get hj)
   unfold lowerB
   rw [e]
   simp only [Bool.and_eq_true,decide_eq_true_eq] at hb ⊢
   omega
  ·intro h b hb
   obtain ⟨j,hj,rfl⟩:=List.mem_iff_getElem.1 hb
   have hl:=h j hj
   have e:byt s j=(((bl8 s)[j]'hj).toNat:Int):=by unfold byt; rw [bl8_at]; exact congrArg (fun x:UInt8=>(x.toNat:Int)) (bl8_get hj)
   unfold lowerB at hl
   rw [e] at hl
   rw [abc_has]
   simp only [Bool.and_eq_true,decide_eq_true_eq] at hl ⊢
   omega
 have h2:(s=⟨#[]⟩)↔¬ 1≤s.size:=by
  constructor
  ·rintro rfl; decide
  ·intro h
   have:s.size=0:=by omega
   exact tl_inj (List.eq_nil_of_length_eq_zero (by rw [tl_len]; exact this))
 unfold wordB
 have e1:decide (trimA s=⟨#[]⟩)=decide (∀ j,j<s.size→lowerB s j=true):=decide_eq_decide.2 h1
 have e2:decide (s=⟨#[]⟩)=decide (¬ 1≤s.size):=decide_eq_decide.2 h2
 rw [e1,e2]
 by_cases c1:1≤s.size <;> by_cases c2:s.size≤24 <;> by_cases c3:∀ j,j<s.size→lowerB s j=true <;> simp [c1,c2]
theorem k1077 (s:ByteArray) (hs:s.size<4611686018427387904):ACalls prog G0 114 [Sx s] [] fun t H=>t = .bool (wordB s)∧H=[]:=by
 rw [word_iff]
 obtain ⟨R,hR⟩:∃ R,R=(decide (∀ j,j<s.size→lowerB s j=true) && (decide (1≤s.size) && decide (s.size≤24))):=⟨_,rfl⟩
 rw [← hR]
 refine acallsX (X:=[]) trivial tab hmix func114 c1077 (by rfl) fun hw=>?_
 simp -implicitDefEqProofs (disch:=omega) [gz,ir1077,b1077,wrap64]
 refine loopE (fun k st=>∃ i,i≤s.size∧k=s.size-i∧(∀ j,j<i→lowerB s j=true) ∧
   st=⟨ofL [(0,.v (.c (.d (.v (.string s))))),(3,.int .i64 i)],[]⟩)
  (fun st=>(∀ j,j<s.size→lowerB s j=true)∧AtS [(0,.v (.c (.d (.v (.string s)))))] [] st) ?_ ?_ ?_
 ·refine wk_keep [0,3] ⟨_,0,by omega,rfl,fun j hj=>by omega,?_⟩
  simp
 ·rintro J L hJ hL k st ⟨i,hi,rfl,hb,rfl⟩
  by_cases hlt:i<s.size
  ·have hby:((s.data[i]?.getD 0).toNat:Int)=byt s i:=rfl
   obtain ⟨b,hbb⟩:∃ b,b=byt s i:=⟨_,rfl⟩
   have hlow:lowerB s i=(decide (97≤b) && decide (b≤122)):=by rw [hbb]; rfl
   rw [← hbb] at hby
   have bad:lowerB s i=false→R=false:=fun h=>by rw [hR,decide_eq_false (fun q=>by rw [q i hlt] at h; cases h)]; rfl
   by_cases c1:97≤b
   ·have c1':¬ b<97:=by omega
    by_cases c2:b≤122
    ·have c2':¬ 122<b:=by omega
     simp -implicitDefEqProofs (disch:=omega) [gz,hlt,wrap64,hby,c1,c1',c2,c2']
     subst hJ
     refine wk_keep [0,3] ⟨s.size-(i+1),by omega,i+1,by omega,rfl,fun j hj=>?_,?_⟩
     ·by_cases e1:j=i
      ·subst e1; rw [hlow]; simp [c1,c2]
      ·exact hb j (by omega)
     ·simp
    ·have c2':122<b:=by omega
     rw [bad (by rw [hlow]; simp [c1,c2])]
     simp -implicitDefEqProofs (disch:=omega) [gz,hlt,wrap64,hby,c1,c1',c2,c2']
     exact fin_nil ⟨rfl,rfl⟩
   ·have c1':b<97:=by omega
    rw [bad (by rw [hlow]; simp [c1])]
    simp -implicitDefEqProofs (disch:=omega) [gz,hlt,wrap64,hby,c1,c1']
    exact fin_nil ⟨rfl,rfl⟩
  ·have:i=s.size:=by omega
   subst this
   simp -implicitDefEqProofs (disch:=omega) [gz,hlt]
   subst hL
   exact ⟨hb,at_mk (by simp) rfl⟩
 ·rintro _ ⟨hall,sl,rfl⟩
  rw [decide_eq_true hall,Bool.true_and] at hR
  rw [hR]
  by_cases c1:1≤s.size
  ·have c1':(1:Int)≤(s.size:Int):=by omega
   by_cases c2:s.size≤24
   ·have c2':(s.size:Int)≤24:=by omega
    simp -implicitDefEqProofs (disch:=omega) [gz,c1,c1',c2,c2']
    exact fin_nil ⟨rfl,rfl⟩
   ·have c2':¬ (s.size:Int)≤24:=by omega
    simp -implicitDefEqProofs (disch:=omega) [gz,c1,c1',c2,c2']
    exact fin_nil ⟨rfl,rfl⟩
  ·have c1':¬ (1:Int)≤(s.size:Int):=by omega
   simp -implicitDefEqProofs (disch:=omega) [gz,c1,c1']
   exact fin_nil ⟨rfl,rfl⟩
def x1077:XE:=mkX true (fun (s:ByteArray)=>[.c (.v (.string s))]) (fun s=>s.size<4611686018427387904) (fun s=>.bool (wordB s))
theorem kx1077:Contract prog G0 114 x1077:=mkX_scal (fun _=>rfl) fun s h=>k1077 s h
theorem xg1077 (s:ByteArray) (h:s.size<4611686018427387904):x1077.g [.c (.v (.string s))]=some (True,.bool (wordB s)):=mkX_g inj1s s h
theorem k1076 (x:Nv.Rt) (h1:x.num.size<4000000000) (h2:x.den.size<4000000000):ACalls prog G0 113 [ratV x] [] fun t H=>t = .bool (plcB x)∧H=[]:=by
 have s1:x1090.sc=true:=rfl
 have s2:x1091.sc=true:=rfl
 have g1:=xg1090 x h1 h2
 have g2:x1091.g [ratP x,.c (.v (.int .i64 16))]=some (True,.bool (fitsR x 16)):=xg1091 x 16 h1 h2
 refine acallsX (X:=[(50,x1090),(25,x1091)]) ⟨kx1090,kx1091,trivial⟩ tab hmix func113 c1076 (by rfl) fun hw=>?_
 unfold plcB
 obtain ⟨⟨yn,ya,yb⟩,hy⟩:∃ y,y=Nv.normR x:=⟨_,rfl⟩
 obtain ⟨f,hf⟩:∃ f,f=fitsR x 16:=⟨_,rfl⟩
 rw [← hy] at g1 ⊢
 rw [← hf] at g2 ⊢
 obtain ⟨xn,xa,xb⟩:=x
 by_cases c1:yn=xn
 ·by_cases c2:ya=xa
  ·by_cases c3:yb=xb
   ·subst c1; subst c2; subst c3
    simp -implicitDefEqProofs (disch:=omega) [gz,ir1076,b1076,s1,g1,s2,g2,fillC,splice,cellsEq,skEq]
    repeat' with_reducible apply And.intro
    all_goals first | omega | kernel_rfl | skip
    exact fin_nil ⟨by simp,rfl⟩
   ·simp -implicitDefEqProofs (disch:=omega) [gz,ir1076,b1076,s1,g1,s2,g2,c1,c2,c3,fillC,splice,cellsEq,skEq]
    repeat' with_reducible apply And.intro
    all_goals first | omega | kernel_rfl | skip
    exact fin_nil ⟨rfl,rfl⟩
  ·simp -implicitDefEqProofs (disch:=omega) [gz,ir1076,b1076,s1,g1,s2,g2,c1,c2,fillC,splice,cellsEq,skEq]
   repeat' with_reducible apply And.intro
   all_goals first | omega | kernel_rfl | skip
   exact fin_nil ⟨rfl,rfl⟩
 ·simp -implicitDefEqProofs (disch:=omega) [gz,ir1076,b1076,s1,g1,s2,g2,c1,fillC,splice,cellsEq,skEq]
  repeat' with_reducible apply And.intro
  all_goals first | omega | kernel_rfl | skip
  exact fin_nil ⟨rfl,rfl⟩
def x1076:XE:=mkX true (fun (x:Nv.Rt)=>[ratP x]) (fun x=>x.num.size<4000000000∧x.den.size<4000000000) (fun x=>.bool (plcB x))
theorem kx1076:Contract prog G0 113 x1076:=mkX_scal (fun _=>rfl) fun x h=>k1076 x h.1 h.2
theorem xg1076 (x:Nv.Rt) (h1:x.num.size<4000000000) (h2:x.den.size<4000000000):x1076.g [ratP x]=some (True,.bool (plcB x)):=mkX_g injRat x ⟨h1,h2⟩
theorem k1078:ACalls prog G0 115 [] [] fun t H=>t = .v (.agg [.d (.v (.string ⟨#[45]⟩)),.d (.v (.int .i64 0))])∧H=[]:=by
 refine acallsX (X:=[]) trivial tab hmix func115 c1078 (by rfl) fun hw=>?_
 simp -implicitDefEqProofs (disch:=omega) [gz,ir1078,b1078,fillC,splice]
 exact fin_nil ⟨rfl,rfl⟩
def x1078:XE:=mkX true (fun (_:Unit)=>[]) (fun _=>True) (fun _=>.v (.agg [.d (.v (.string ⟨#[45]⟩)),.d (.v (.int .i64 0))]))
theorem kx1078:Contract prog G0 115 x1078:=mkX_scal (fun _=>rfl) fun _ _=>k1078
theorem xg1078:x1078.g []=some (True,.v (.agg [.d (.v (.string ⟨#[45]⟩)),.d (.v (.int .i64 0))])):=mkX_g (fun a b h=>rfl) () trivial
theorem k1053 (v:List Id) (nm:ByteArray) (h1:v.length<4611686018427387904):ACalls prog G0 77 [.c (.d (.sl (v.map Id.row))),Sx nm] [] fun t H=>t = .int .i64 (hasN v nm)∧H=[]:=by
 refine acallsX (X:=[]) trivial tab hmix func77 c1053 (by rfl) fun hw=>?_
 simp -implicitDefEqProofs (disch:=omega) [gz,ir1053,b1053,wrap64]
 refine loopE (fun k st=>∃ i,i≤v.length∧k=v.length-i∧hasN v nm=hasN (v.drop i) nm ∧
   st=⟨ofL [(0,.v (.c (.d (.sl (v.map Id.row))))),(1,.v (.c (.d (.v (.string nm))))),(7,.int .i64 v.length),(8,.int .i64 i)],[]⟩)
  (fun st=>hasN v nm=0∧AtS [] [] st) ?_ ?_ ?_
 ·refine wk_nil [] [0,1,7,8] rfl ⟨_,0,by omega,rfl,rfl,?_⟩
  simp [Sx]
 ·rintro J L hJ hL k st ⟨i,hi,rfl,hb,rfl⟩
  by_cases hlt:i<v.length
  ·obtain ⟨x,hx⟩:∃ x,nth v i=x:=⟨_,rfl⟩
   have hxr:x.row=[.v (.string x.a),.v (.int .i64 x.n)]:=rfl
   have hd:v.drop i=x :: v.drop (i+1):=by rw [List.drop_eq_getElem_cons hlt,← nth_eq hlt,hx]
   rw [hd,hasN_step] at hb
   by_cases c1:x.a=nm
   ·rw [hb,if_pos c1]
    simp -implicitDefEqProofs (disch:=omega) [gz,hlt,wrap64,nth_map,hx,hxr,splice,fillC,binSF,c1]
    exact fin_nil ⟨rfl,rfl⟩
   ·rw [if_neg c1] at hb
    simp -implicitDefEqProofs (disch:=omega) [gz,hlt,wrap64,nth_map,hx,hxr,splice,fillC,binSF,c1]
    subst hJ
    refine wk_nil [] [0,1,7,8] rfl ⟨v.length-(i+1),by omega,i+1,by omega,rfl,hb,?_⟩
    simp
  ·have:i=v.length:=by omega
   subst this
   simp -implicitDefEqProofs (disch:=omega) [gz,hlt]
   subst hL
   exact ⟨by rw [hb,List.drop_length]; rfl,at_mk (by simp) rfl⟩
 ·rintro _ ⟨hb,sl,rfl⟩
  rw [hb]
  simp -implicitDefEqProofs (disch:=omega) [gz,wrap64]
  exact fin_nil ⟨rfl,rfl⟩
def x1053:XE:=mkX true (fun (p:List Id×ByteArray)=>[.c (.sl (p.1.map Id.row)),.c (.v (.string p.2))]) (fun p=>p.1.length<4611686018427387904) (fun p=>.int .i64 (hasN p.1 p.2))
theorem kx1053:Contract prog G0 77 x1053:=mkX_scal (fun _=>rfl) fun p h=>k1053 p.1 p.2 h
theorem xg1053 (v:List Id) (a:ByteArray) (h:v.length<4611686018427387904):x1053.g [.c (.sl (v.map Id.row)),.c (.v (.string a))]=some (True,.int .i64 (hasN v a)):=mkX_g injVS (v,a) h
def okN (P:List ByteArray) (j:Nat):Bool:=authB (nth P j) && (decide (j=0) || strLt (nth P (j-1)) (nth P j))
def namesOk (P:List ByteArray):Bool:=decide (∀ j,j<P.length→okN P j=true)
theorem nth_mid {out Y:List ByteArray} {w:ByteArray}:nth (out ++ w :: Y) out.length=w:=by
 unfold nth
 rw [List.getD_eq_getElem?_getD,List.getElem?_append_right (Nat.le_refl _),Nat.sub_self]; rfl
theorem okN_mid {out Y:List ByteArray} {w:ByteArray}:okN (out ++ w :: Y) out.length=(authB w && (decide (out.length=0) || strLt (nth out (out.length-1)) w)):=by
 unfold okN
 rw [nth_mid]
 by_cases h:out.length=0
 ·rw [decide_eq_true h]; rfl
 ·have e2:nth (out ++ w :: Y) (out.length-1)=nth out (out.length-1):=by unfold nth; rw [List.getD_eq_getElem?_getD,List.getD_eq_getElem?_getD,List.getElem?_append_left (by omega)]
  rw [e2]
theorem tl_ext2 (s:ByteArray) {a b:Nat}:tl (s.extract a b)=((tl s).drop a).take (b-a):=by
 simp [tl,List.drop_take]
theorem tl_ext_snoc {s:ByteArray} {a b:Nat} {c:UInt8} (hab:a≤b) (h:(tl s)[b]? = some c):tl (s.extract a (b+1))=tl (s.extract a b) ++ [c]:=by
 rw [tl_ext2,tl_ext2]
 have hb:b<(tl s).length:=lt_of_get h
 rw [show b+1-a=(b-a)+1 by omega,List.take_succ_eq_append_getElem (by rw [List.length_drop]; omega)]
 congr 2
 rw [List.getElem_drop]
 have e:a+(b-a)=b:=by omega
 have:=(List.getElem?_eq_some_iff.1 h).2
 simp only [e]
 exact this
abbrev namesT (P:List ByteArray):T:=if namesOk P=true then .tup [.c (.d (.sl (P.map srow))),.c (.d (.v (.bool true)))] else .tup [.c (.d (.sl [])),.c (.d (.v (.bool false)))]
theorem k1092 (s:ByteArray) (h:s.size<4294967281) (H:List O):ACalls prog G0 148 [Sx s] H fun t H'=>t=namesT (parts s comma)∧H'=H:=by
 have s1:x526.sc=true:=rfl
 obtain ⟨P,hP⟩:∃ P,P=parts s comma:=⟨_,rfl⟩
 have hPl:=parts_le s
 have hPs:=parts_spl s
 rw [← hP] at hPl hPs ⊢
 refine acallsX (X:=[(46,x526)]) ⟨kx526,trivial⟩ tab hmix func148 c1092 (by rfl) fun hw=>?_
 unfold namesT
 simp -implicitDefEqProofs (disch:=omega) [gz,ir1092,b1092,b1092_0,b1092_1,b1092_2,b1092_3,wrap64,fillR]
 refine loopE (fun k st=>∃ (i fr:Nat) (out:List ByteArray),i≤s.size+1∧fr≤i∧k=s.size+1-i∧InvP P (tl s) i out (s.extract fr i)∧(∀ j,j<out.length→okN P j=true) ∧
   st=⟨ofL [(0,.v (.c (.d (.v (.string s))))),(4,.v (.c (.os H.length 1 0 out.length))),(5,.int .i64 fr),(6,.int .i64 i)],H ++ [.row 1 (out.map srow)]⟩)
  (fun st=>namesOk P=true∧AtS [(4,.v (.c (.os H.length 1 0 P.length)))] (H ++ [.row 1 (P.map srow)]) st) ?_ ?_ ?_
 ·refine wk_pre [0] [0,4,5,6] hw rfl ⟨_,0,0,[],by omega,by omega,rfl,.inl ⟨by omega,?_,?_⟩,fun j hj=>by simp at hj,?_⟩
  ·rw [tl_ext2,List.drop_zero,Nat.sub_self,List.take_zero,hPs]; rfl
  ·rw [← tl_len,tl_ext2]; simp
  ·simp [phi,O.ren,C.ren]
 ·rintro J L hJ hL k st ⟨i,fr,out,hi,hfi,rfl,hinv,hok,rfl⟩
  by_cases hlt:i≤s.size
  ·have hlt':(i:Int)≤(s.size:Int):=by omega
   have h1:(fr:Int)≤(i:Int):=by omega
   have h2:(0:Int)≤(fr:Int):=by omega
   have h3:=hfi
   rcases hinv with ⟨_,hpm,hns⟩ | ⟨hbad,_⟩
   ·obtain ⟨w,hwd⟩:∃ w,w=s.extract fr i:=⟨_,rfl⟩
    have hwe:s.extract fr i=w:=hwd.symm
    rw [hwe] at hpm
    by_cases hl:i<s.size
    ·have hl':(i:Int)<(s.size:Int):=by omega
     have hil:i<(tl s).length:=by rw [tl_len]; exact hl
     obtain ⟨c,hc⟩:∃ c,c=(tl s)[i]'hil:=⟨_,rfl⟩
     have hcd:s.data[i]?.getD 0=c:=by rw [hc,Array.getElem?_eq_getElem (by exact hl)]; rfl
     have hdr:(tl s).drop i=c :: (tl s).drop (i+1):=by rw [List.drop_eq_getElem_cons hil,hc]
     rw [hdr] at hpm
     by_cases hcm:c=44
     ·have hcn:c.toNat=44:=by rw [hcm]; rfl
      have hspl:splC (tl w) (c :: (tl s).drop (i+1))=tl w :: splC [] ((tl s).drop (i+1)):=by rw [splC,if_pos hcm]
      rw [hspl] at hpm
      obtain ⟨Y,hPe,hY⟩:=map_pre hpm
      have hinv':∀ o,o=out ++ [w]→InvP P (tl s) (i+1) o (s.extract (i+1) (i+1)):=fun o ho=>by
       subst ho
       refine .inl ⟨by rw [tl_len]; omega,?_,by rw [← tl_len,tl_ext2]; simp⟩
       rw [tl_ext2,Nat.sub_self,List.take_zero,hPe,List.map_append,List.map_append,List.map_cons,List.map_cons,List.map_nil,hY]
       simp
      have hls:out.length<P.length:=by rw [hPe]; simp
      have hws:w.size<4611686018427387904:=by
       have hwm:w∈P:=by rw [hPe]; simp
       rw [hP] at hwm
       have:=part_le hwm
       omega
      have g2:=xg526 w hws
      have hmid:okN P out.length=(authB w && (decide (out.length=0) || strLt (nth out (out.length-1)) w)):=by rw [hPe]; exact okN_mid
      have bad:okN P out.length=false→namesOk P=false:=fun h=>decide_eq_false fun q=>by rw [q _ hls] at h; cases h
      obtain ⟨au,hau⟩:∃ b,b=authB w:=⟨_,rfl⟩
      rw [← hau] at g2 hmid
      have good:okN P out.length=true→(∀ j,j<(out ++ [w]).length→okN P j=true):=fun h j hj=>by
       rw [List.length_append,List.length_singleton] at hj
       by_cases q:j=out.length
       ·rw [q]; exact h
       ·exact hok j (by omega)
      cases au
      ·rw [bad (by rw [hmid]; rfl)]
       simp -implicitDefEqProofs (disch:=omega) [gz,hlt,hlt',hl,hl',hcd,hcn,hwe,wrap64,h1,h2,h3,s1,g2,binSF,fillR,Nat.add_assoc]
       repeat' with_reducible apply And.intro
       all_goals first | omega | kernel_rfl | skip
       exact fin_pre_pvs hw (by simp [toPVs,toPV]; rfl) (by simp [frzVs,frz,frz1]; rfl) ⟨rfl,rfl⟩
      ·by_cases c2:out.length=0
       ·have ho:out=[]:=List.length_eq_zero_iff.1 c2
        have hg:=good (by rw [hmid,decide_eq_true c2]; rfl)
        subst ho
        simp -implicitDefEqProofs (disch:=omega) [gz,hlt,hlt',hl,hl',hcd,hcn,hwe,wrap64,h1,h2,h3,s1,g2,binSF,fillR,elems,maxLen47,Nat.add_assoc]
        repeat' with_reducible apply And.intro
        all_goals first | omega | kernel_rfl | skip
        subst hJ
        refine wk_pre [2] [0,4,5,6] hw rfl ⟨s.size+1-(i+1),by omega,i+1,i+1,[w],by omega,by omega,rfl,hinv' [w] rfl,hg,?_⟩
        simp [phi,O.ren,C.ren,srow]
       ·have hp0:(0:Int)<(out.length:Int):=by omega
        have hp0n:0<out.length:=by omega
        have hl1:(out.length:Int)-1=((out.length-1:Nat):Int):=by omega
        have hl2:out.length-1<out.length:=by omega
        obtain ⟨y,hy⟩:∃ y,nth out (out.length-1)=y:=⟨_,rfl⟩
        rw [hy,decide_eq_false c2,Bool.false_or] at hmid
        have tC:(out.map srow).take out.length=out.map srow:=List.take_of_length_le (by simp)
        obtain ⟨lt,hlt2⟩:∃ b,b=strLt y w:=⟨_,rfl⟩
        rw [← hlt2] at hmid
        cases lt
        ·rw [bad (by rw [hmid]; rfl)]
         simp -implicitDefEqProofs (disch:=omega) [gz,hlt,hlt',hl,hl',hcd,hcn,hwe,wrap64,h1,h2,h3,s1,g2,hp0,hp0n,hl1,hl2,c2,nth_map,hy,← hlt2,srow,tC,binSF,fillR,Nat.add_assoc]
         repeat' with_reducible apply And.intro
         all_goals first | omega | kernel_rfl | skip
         exact fin_pre_pvs hw (by simp [toPVs,toPV]; rfl) (by simp [frzVs,frz,frz1]; rfl) ⟨rfl,rfl⟩
        ·have hg:=good (by rw [hmid]; rfl)
         simp -implicitDefEqProofs (disch:=omega) [gz,hlt,hlt',hl,hl',hcd,hcn,hwe,wrap64,h1,h2,h3,s1,g2,hp0,hp0n,hl1,hl2,c2,nth_map,hy,← hlt2,srow,tC,binSF,fillR,elems,maxLen47,Nat.add_assoc]
         repeat' with_reducible apply And.intro
         all_goals first | omega | kernel_rfl | skip
         subst hJ
         refine wk_pre [2] [0,4,5,6] hw rfl ⟨s.size+1-(i+1),by omega,i+1,i+1,out ++ [w],by omega,by omega,rfl,hinv' (out ++ [w]) rfl,hg,?_⟩
         simp [phi,O.ren,C.ren,srow]
     ·have hcn:¬ c.toNat=44:=fun q=>hcm (UInt8.toNat_inj.1 q)
      have hcn':¬ (c.toNat:Int)=44:=by omega
      have hspl:splC (tl w) (c :: (tl s).drop (i+1))=splC (tl w ++ [c]) ((tl s).drop (i+1)):=by rw [splC,if_neg hcm]
      have hsn:tl (s.extract fr (i+1))=tl w ++ [c]:=by
       rw [hwd]
       exact tl_ext_snoc hfi (by rw [List.getElem?_eq_getElem hil,hc])
      simp -implicitDefEqProofs (disch:=omega) [gz,hlt,hlt',hl,hl',hcd,hcn,hcn',wrap64]
      subst hJ
      refine wk_pre [0] [0,4,5,6] hw rfl ⟨s.size+1-(i+1),by omega,i+1,fr,out,by omega,by omega,rfl,.inl ⟨by rw [tl_len]; omega,?_,?_⟩,hok,?_⟩
      ·rw [hsn,← hspl]; exact hpm
      ·rw [← tl_len,tl_ext2]; simp; omega
      ·simp [phi,O.ren,C.ren]
    ·have hie:i=s.size:=by omega
     have hl':¬ (i:Int)<(s.size:Int):=by omega
     have hdr:(tl s).drop i=[]:=List.drop_eq_nil_of_le (by rw [tl_len]; omega)
     rw [hdr] at hpm
     have hspl:splC (tl w) []=tl w :: []:=rfl
     rw [hspl] at hpm
     obtain ⟨Y,hPe,hY⟩:=map_pre hpm
     have hY0:Y=[]:=List.map_eq_nil_iff.1 hY
     have hinv':∀ o,o=out ++ [w]→InvP P (tl s) (i+1) o (s.extract (i+1) (i+1)):=fun o ho=>by
      subst ho
      exact .inr ⟨by rw [tl_len]; omega,by rw [hPe,hY0],by rw [← tl_len,tl_ext2]; simp⟩
     have hls:out.length<P.length:=by rw [hPe]; simp
     have hws:w.size<4611686018427387904:=by
      have hwm:w∈P:=by rw [hPe]; simp
      rw [hP] at hwm
      have:=part_le hwm
      omega
     have g2:=xg526 w hws
     have hmid:okN P out.length=(authB w && (decide (out.length=0) || strLt (nth out (out.length-1)) w)):=by rw [hPe]; exact okN_mid
     have bad:okN P out.length=false→namesOk P=false:=fun h=>decide_eq_false fun q=>by rw [q _ hls] at h; cases h
     obtain ⟨au,hau⟩:∃ b,b=authB w:=⟨_,rfl⟩
     rw [← hau] at g2 hmid
     have good:okN P out.length=true→(∀ j,j<(out ++ [w]).length→okN P j=true):=fun h j hj=>by
      rw [List.length_append,List.length_singleton] at hj
      by_cases q:j=out.length
      ·rw [q]; exact h
      ·exact hok j (by omega)
     cases au
     ·rw [bad (by rw [hmid]; rfl)]
      simp -implicitDefEqProofs (disch:=omega) [gz,hlt,hlt',hl,hl',hwe,wrap64,h1,h2,h3,s1,g2,binSF,fillR,Nat.add_assoc]
      repeat' with_reducible apply And.intro
      all_goals first | omega | kernel_rfl | skip
      exact fin_pre_pvs hw (by simp [toPVs,toPV]; rfl) (by simp [frzVs,frz,frz1]; rfl) ⟨rfl,rfl⟩
     ·by_cases c2:out.length=0
      ·have ho:out=[]:=List.length_eq_zero_iff.1 c2
       have hg:=good (by rw [hmid,decide_eq_true c2]; rfl)
       subst ho
       simp -implicitDefEqProofs (disch:=omega) [gz,hlt,hlt',hl,hl',hwe,wrap64,h1,h2,h3,s1,g2,binSF,fillR,elems,maxLen47,Nat.add_assoc]
       repeat' with_reducible apply And.intro
       all_goals first | omega | kernel_rfl | skip
       subst hJ
       refine wk_pre [2] [0,4,5,6] hw rfl ⟨s.size+1-(i+1),by omega,i+1,i+1,[w],by omega,by omega,rfl,hinv' [w] rfl,hg,?_⟩
       simp [phi,O.ren,C.ren,srow]
      ·have hp0:(0:Int)<(out.length:Int):=by omega
       have hp0n:0<out.length:=by omega
       have hl1:(out.length:Int)-1=((out.length-1:Nat):Int):=by omega
       have hl2:out.length-1<out.length:=by omega
       obtain ⟨y,hy⟩:∃ y,nth out (out.length-1)=y:=⟨_,rfl⟩
       rw [hy,decide_eq_false c2,Bool.false_or] at hmid
       have tC:(out.map srow).take out.length=out.map srow:=List.take_of_length_le (by simp)
       obtain ⟨lt,hlt2⟩:∃ b,b=strLt y w:=⟨_,rfl⟩
       rw [← hlt2] at hmid
       cases lt
       ·rw [bad (by rw [hmid]; rfl)]
        simp -implicitDefEqProofs (disch:=omega) [gz,hlt,hlt',hl,hl',hwe,wrap64,h1,h2,h3,s1,g2,hp0,hp0n,hl1,hl2,c2,nth_map,hy,← hlt2,srow,tC,binSF,fillR,Nat.add_assoc]
        repeat' with_reducible apply And.intro
        all_goals first | omega | kernel_rfl | skip
        exact fin_pre_pvs hw (by simp [toPVs,toPV]; rfl) (by simp [frzVs,frz,frz1]; rfl) ⟨rfl,rfl⟩
       ·have hg:=good (by rw [hmid]; rfl)
        simp -implicitDefEqProofs (disch:=omega) [gz,hlt,hlt',hl,hl',hwe,wrap64,h1,h2,h3,s1,g2,hp0,hp0n,hl1,hl2,c2,nth_map,hy,← hlt2,srow,tC,binSF,fillR,elems,maxLen47,Nat.add_assoc]
        repeat' with_reducible apply And.intro
        all_goals first | omega | kernel_rfl | skip
        subst hJ
        refine wk_pre [2] [0,4,5,6] hw rfl ⟨s.size+1-(i+1),by omega,i+1,i+1,out ++ [w],by omega,by omega,rfl,hinv' (out ++ [w]) rfl,hg,?_⟩
        simp [phi,O.ren,C.ren,srow]
   ·rw [tl_len] at hbad; omega
  ·have hie:i=s.size+1:=by omega
   have hlt':¬ (i:Int)≤(s.size:Int):=by omega
   have hPo:P=out:=by
    rcases hinv with ⟨h1,_⟩ | ⟨_,h2,_⟩
    ·rw [tl_len] at h1; omega
    ·exact h2
   subst hPo
   simp -implicitDefEqProofs (disch:=omega) [gz,hlt,hlt']
   subst hL
   exact ⟨decide_eq_true hok,at_mk (by simp) rfl⟩
 ·rintro _ ⟨hok,sl,rfl⟩
  rw [hok]
  simp -implicitDefEqProofs (disch:=omega) [gz,b1092_4,b1092_5]
  have tC:(P.map srow).take P.length=P.map srow:=List.take_of_length_le (by simp)
  exact fin_pre_pvs hw (by simp [toPVs,toPV,tC]; rfl) (by simp [frzVs,frz,frz1]; rfl) ⟨rfl,rfl⟩
def x1092:XE:=mkX false (fun (s:ByteArray)=>[.c (.v (.string s))]) (fun s=>s.size<4294967281) (fun s=>namesT (parts s comma))
theorem kx1092:Contract prog G0 148 x1092:=mkX_data fun s h H=>k1092 s h H
theorem xg1092 (s:ByteArray) (h:s.size<4294967281):x1092.g [.c (.v (.string s))]=some (True,namesT (parts s comma)):=mkX_g inj1s s h
theorem oth_names (author who:ByteArray):othB author who=(namesOk (parts who comma) && decide (∀ j,j<(parts who comma).length→¬ nth (parts who comma) j=author)):=by
 obtain ⟨P,hP⟩:∃ P,P=parts who comma:=⟨_,rfl⟩
 unfold othB namesOk
 rw [← hP]
 apply bool_ext
 simp only [Bool.and_eq_true,decide_eq_true_eq]
 constructor
 ·intro h
  refine ⟨fun j hj=>?_,fun j hj e=>?_⟩
  ·have:=h j hj
   unfold badO at this
   unfold okN
   simp only [Bool.or_eq_false_iff,Bool.and_eq_false_iff,Bool.not_eq_false',decide_eq_false_iff_not] at this
   obtain ⟨⟨q1,q2⟩,q3⟩:=this
   rw [q1,Bool.true_and]
   rcases q3 with q3 | q3
   ·have:j=0:=by omega
    subst this; rfl
   ·rw [q3]; simp
  ·have:=h j hj
   unfold badO at this
   rw [decide_eq_true e] at this
   simp at this
 ·rintro ⟨h1,h2⟩ j hj
  have q1:=h1 j hj
  have q2:=h2 j hj
  unfold okN at q1
  unfold badO
  simp only [Bool.and_eq_true,Bool.or_eq_true,decide_eq_true_eq] at q1
  rw [q1.1,decide_eq_false q2]
  rcases q1.2 with q | q
  ·subst q; rfl
  ·rw [q]; simp
theorem k1079 (author who:ByteArray) (h:who.size<4294967281):ACalls prog G0 116 [Sx author,Sx who] [] fun t H=>t = .bool (othB author who)∧H=[]:=by
 have s1:x1092.sc=false:=rfl
 have g1:=xg1092 who h
 have hPl:=parts_le who
 rw [oth_names]
 refine acallsX (X:=[(148,x1092)]) ⟨kx1092,trivial⟩ tab hmix func116 c1079 (by rfl) fun hw=>?_
 obtain ⟨P,hP⟩:∃ P,P=parts who comma:=⟨_,rfl⟩
 rw [← hP] at g1 hPl ⊢
 cases hok:namesOk P
 ·rw [show namesT P = .tup [.c (.d (.sl [])),.c (.d (.v (.bool false)))] from by unfold namesT; rw [if_neg (by rw [hok]; simp)]] at g1
  simp -implicitDefEqProofs (disch:=omega) [gz,ir1079,b1079,s1,g1,toPVs,frzVs,osVs,toPV]
  refine loopE (fun k st=>st=⟨ofL [(6,.bool false),(14,.int .i64 0),(15,.int .i64 0)],[]⟩) (fun st=>AtS [(6,.bool false)] [] st) ?_ ?_ ?_
  ·refine wk_keep [6,14,15] ⟨0,?_⟩
   simp
  ·rintro J L hJ hL k st rfl
   simp -implicitDefEqProofs (disch:=omega) [gz,wrap64]
   subst hL
   exact at_mk (by simp) rfl
  ·rintro _ ⟨sl,rfl⟩
   simp -implicitDefEqProofs (disch:=omega) [gz,wrap64]
   exact fin_nil ⟨rfl,rfl⟩
 ·rw [show namesT P = .tup [.c (.d (.sl (P.map srow))),.c (.d (.v (.bool true)))] from by unfold namesT; rw [if_pos hok]] at g1
  rw [Bool.true_and]
  obtain ⟨R,hR⟩:∃ R,R=decide (∀ j,j<P.length→¬ nth P j=author):=⟨_,rfl⟩
  rw [← hR]
  simp -implicitDefEqProofs (disch:=omega) [gz,ir1079,b1079,s1,g1,toPVs,frzVs,osVs,toPV]
  refine loopE (fun k st=>∃ i,i≤P.length∧k=P.length-i∧(∀ j,j<i→¬ nth P j=author) ∧
    st=⟨ofL [(0,.v (.c (.d (.v (.string author))))),(5,.v (.c (.d (.sl (P.map srow))))),(6,.bool true),(14,.int .i64 P.length),(15,.int .i64 i)],[]⟩)
   (fun st=>(∀ j,j<P.length→¬ nth P j=author)∧AtS [(6,.bool true)] [] st) ?_ ?_ ?_
  ·refine wk_keep [0,5,6,14,15] ⟨_,0,by omega,rfl,fun j hj=>by omega,?_⟩
   simp
  ·rintro J L hJ hL k st ⟨i,hi,rfl,hb,rfl⟩
   by_cases hlt:i<P.length
   ·obtain ⟨x,hx⟩:∃ x,nth P i=x:=⟨_,rfl⟩
    by_cases c:x=author
    ·have:R=false:=by rw [hR]; exact decide_eq_false fun q=>q i hlt (by rw [hx]; exact c)
     rw [this]
     simp -implicitDefEqProofs (disch:=omega) [gz,hlt,wrap64,nth_map,hx,srow,c,binSF]
     exact fin_nil ⟨rfl,rfl⟩
    ·simp -implicitDefEqProofs (disch:=omega) [gz,hlt,wrap64,nth_map,hx,srow,c,binSF]
     subst hJ
     refine wk_keep [0,5,6,14,15] ⟨P.length-(i+1),by omega,i+1,by omega,rfl,fun j hj=>?_,?_⟩
     ·by_cases q:j=i
      ·subst q; rw [hx]; exact c
      ·exact hb j (by omega)
     ·simp
   ·have:i=P.length:=by omega
    subst this
    simp -implicitDefEqProofs (disch:=omega) [gz,hlt]
    subst hL
    exact ⟨hb,at_mk (by simp) rfl⟩
  ·rintro _ ⟨hb,sl,rfl⟩
   rw [hR,decide_eq_true hb]
   simp -implicitDefEqProofs (disch:=omega) [gz,wrap64]
   exact fin_nil ⟨rfl,rfl⟩
def x1079:XE:=mkX true (fun (p:ByteArray×ByteArray)=>[.c (.v (.string p.1)),.c (.v (.string p.2))]) (fun p=>p.2.size<4294967281) (fun p=>.bool (othB p.1 p.2))
theorem kx1079:Contract prog G0 116 x1079:=mkX_scal (fun _=>rfl) fun p h=>k1079 p.1 p.2 h
theorem xg1079 (a w:ByteArray) (h:w.size<4294967281):x1079.g [.c (.v (.string a)),.c (.v (.string w))]=some (True,.bool (othB a w)):=mkX_g inj2s (a,w) h
def restB (e:Edit):Bool :=
 if e.kind=1 then zI e.node && (zS e.field && (zI e.target && zS e.who))
 else if e.kind=2 then zS e.field && (zS e.value && (zI e.target && zS e.who))
 else if e.kind=3 then zI e.parent && (zP (plc e) && (zI e.target && zS e.who))
 else if e.kind=4 then zI e.node && (zI e.parent && (zP (plc e) && (zS e.field && (zS e.value && zS e.who))))
 else if e.kind=5 then zI e.node && (zI e.parent && (zP (plc e) && (zS e.field && (zS e.value && zI e.target))))
 else zI e.node && (zI e.parent && (zP (plc e) && (zS e.field && (zS e.value && (zI e.target && zS e.who)))))
def hasB (e:Edit):Bool :=
 if e.kind=1 then parI e.parent && (plcB (plc e) && wordB e.value)
 else if e.kind=2 then validI e.node && ((parI e.parent || (decide (e.parent.a=⟨#[45]⟩) && decide (e.parent.n=0))) && plcB (plc e))
 else if e.kind=3 then validI e.node && wordB e.field
 else if e.kind=4 then validI e.target && (decide (e.target.a=e.id.a) && decide (e.target.n<e.id.n))
 else if e.kind=5 then othB e.id.a e.who
 else true
theorem car_split (e:Edit):carB e=(restB e && hasB e):=by
 unfold carB restB hasB
 apply bool_ext
 repeat' split
 all_goals first | (simp only [Bool.and_eq_true,and_true]; done) | (simp only [Bool.and_eq_true,and_true]; grind) | grind
theorem k1054 (e:Edit):ACalls prog G0 78 [.agg (e.row.map .d)] [] fun t H=>t = .bool (restB e)∧H=[]:=by
 have hee:=Edit.row_eq e
 refine acallsX (X:=[]) trivial tab hmix func78 c1054 (by rfl) fun hw=>?_
 unfold restB
 by_cases q1:e.kind=1
 ·rw [if_pos q1]
  simp -implicitDefEqProofs (disch:=omega) [gz,ir1054,b1054,b1054_0,b1054_1,b1054_2,b1054_3,b1054_4,b1054_5,b1054_6,hee,q1,fillC,splice,cellsEq,skEq,binSF]
  repeat' (first | (with_reducible apply And.intro) | intro _)
  all_goals first | kernel_rfl | (refine fin_nil ⟨tb ?_,rfl⟩; simp [zI,zS,zP,plc]; try grind)
 ·skip
  by_cases q2:e.kind=2
  ·rw [if_neg q1,if_pos q2]
   clear q1
   simp -implicitDefEqProofs (disch:=omega) [gz,ir1054,b1054,b1054_0,b1054_1,b1054_2,b1054_3,b1054_4,b1054_5,b1054_6,hee,q2,fillC,splice,cellsEq,skEq,binSF]
   repeat' (first | (with_reducible apply And.intro) | intro _)
   all_goals first | kernel_rfl | (refine fin_nil ⟨tb ?_,rfl⟩; simp [zI,zS,zP,plc]; try grind)
  ·skip
   by_cases q3:e.kind=3
   ·rw [if_neg q1,if_neg q2,if_pos q3]
    clear q1 q2
    simp -implicitDefEqProofs (disch:=omega) [gz,ir1054,b1054,b1054_0,b1054_1,b1054_2,b1054_3,b1054_4,b1054_5,b1054_6,hee,q3,fillC,splice,cellsEq,skEq,binSF]
    repeat' (first | (with_reducible apply And.intro) | intro _)
    all_goals first | kernel_rfl | (refine fin_nil ⟨tb ?_,rfl⟩; simp [zI,zS,zP,plc]; try grind)
   ·skip
    by_cases q4:e.kind=4
    ·rw [if_neg q1,if_neg q2,if_neg q3,if_pos q4]
     clear q1 q2 q3
     simp -implicitDefEqProofs (disch:=omega) [gz,ir1054,b1054,b1054_0,b1054_1,b1054_2,b1054_3,b1054_4,b1054_5,b1054_6,hee,q4,fillC,splice,cellsEq,skEq,binSF]
     repeat' (first | (with_reducible apply And.intro) | intro _)
     all_goals first | kernel_rfl | (refine fin_nil ⟨tb ?_,rfl⟩; simp [zI,zS,zP,plc]; try grind)
    ·skip
     by_cases q5:e.kind=5
     ·rw [if_neg q1,if_neg q2,if_neg q3,if_neg q4,if_pos q5]
      clear q1 q2 q3 q4
      simp -implicitDefEqProofs (disch:=omega) [gz,ir1054,b1054,b1054_0,b1054_1,b1054_2,b1054_3,b1054_4,b1054_5,b1054_6,hee,q5,fillC,splice,cellsEq,skEq,binSF]
      repeat' (first | (with_reducible apply And.intro) | intro _)
      all_goals first | kernel_rfl | (refine fin_nil ⟨tb ?_,rfl⟩; simp [zI,zS,zP,plc]; try grind)
     ·skip
      rw [if_neg q1,if_neg q2,if_neg q3,if_neg q4,if_neg q5]
      simp -implicitDefEqProofs (disch:=omega) [gz,ir1054,b1054,b1054_0,b1054_1,b1054_2,b1054_3,b1054_4,b1054_5,b1054_6,hee,q1,q2,q3,q4,q5,fillC,splice,cellsEq,skEq,binSF]
      repeat' (first | (with_reducible apply And.intro) | intro _)
      all_goals first | kernel_rfl | (refine fin_nil ⟨tb ?_,rfl⟩; simp [zI,zS,zP,plc]; try grind)
def x1054:XE:=mkX true (fun (e:Edit)=>[.agg e.row]) (fun _=>True) (fun e=>.bool (restB e))
theorem kx1054:Contract prog G0 78 x1054:=mkX_scal (fun _=>rfl) fun e _=>k1054 e
theorem xg1054 (e:Edit):x1054.g [.agg e.row]=some (True,.bool (restB e)):=mkX_g injE1 e trivial
theorem k1055 (e:Edit) (h:OkE e):ACalls prog G0 79 [.agg (e.row.map .d)] [] fun t H=>t = .bool (hasB e)∧H=[]:=by
 have s1:x1075.sc=true:=rfl
 have s2:x1076.sc=true:=rfl
 have s3:x1077.sc=true:=rfl
 have s4:x1078.sc=true:=rfl
 have s5:x1079.sc=true:=rfl
 have g1n:=xg1075 e.node h.node
 have g1p:=xg1075 e.parent h.parent
 have g1t:=xg1075 e.target h.target
 have g2:x1076.g [.agg [.v (.bool e.neg),.v (.string e.num),.v (.string e.den)]]=some (True,.bool (plcB (plc e))):=xg1076 (plc e) h.num h.den
 have g3v:=xg1077 e.value h.value
 have g3f:=xg1077 e.field h.field
 have g4:=xg1078
 have g5:=xg1079 e.id.a e.who h.who
 have hee:=Edit.row_eq e
 rw [show e.parent.row=[.v (.string e.parent.a),.v (.int .i64 e.parent.n)] from rfl] at g1p
 rw [show e.node.row=[.v (.string e.node.a),.v (.int .i64 e.node.n)] from rfl] at g1n
 rw [show e.target.row=[.v (.string e.target.a),.v (.int .i64 e.target.n)] from rfl] at g1t
 unfold hasB parI
 obtain ⟨pp,hpp⟩:∃ p,p=validI e.parent:=⟨_,rfl⟩
 obtain ⟨pl,hpl⟩:∃ p,p=plcB (plc e):=⟨_,rfl⟩
 obtain ⟨wv,hwv⟩:∃ p,p=wordB e.value:=⟨_,rfl⟩
 obtain ⟨pn,hpn⟩:∃ p,p=validI e.node:=⟨_,rfl⟩
 obtain ⟨wf,hwf⟩:∃ p,p=wordB e.field:=⟨_,rfl⟩
 obtain ⟨pt,hpt⟩:∃ p,p=validI e.target:=⟨_,rfl⟩
 obtain ⟨ov,hov⟩:∃ p,p=othB e.id.a e.who:=⟨_,rfl⟩
 rw [← hpp] at g1p ⊢
 rw [← hpl] at g2 ⊢
 rw [← hwv] at g3v ⊢
 rw [← hpn] at g1n ⊢
 rw [← hwf] at g3f ⊢
 rw [← hpt] at g1t ⊢
 rw [← hov] at g5 ⊢
 clear hpp hpl hwv hpn hwf hpt hov
 refine acallsX (X:=[(112,x1075),(113,x1076),(114,x1077),(115,x1078),(116,x1079)]) ⟨kx1075,kx1076,kx1077,kx1078,kx1079,trivial⟩ tab hmix func79 c1055 (by rfl) fun hw=>?_
 by_cases q1:e.kind=1
 ·rw [if_pos q1]
  cases pp <;> cases pl <;> cases wv
  all_goals (
   simp -implicitDefEqProofs (disch:=omega) [gz,ir1055,b1055,b1055_0,b1055_1,b1055_2,b1055_3,b1055_4,hee,q1,s1,s2,s3,s4,s5,g1n,g1p,g1t,g2,g3v,g3f,g4,g5,fillC,splice,cellsEq,skEq,binSF]
   repeat' (first | (with_reducible apply And.intro) | intro _)
   all_goals first | kernel_rfl | (refine fin_nil ⟨tb ?_,rfl⟩; simp [zI,zS,zP,plc]; try grind))
 ·skip
  by_cases q2:e.kind=2
  ·rw [if_neg q1,if_pos q2]
   clear q1
   cases pn <;> cases pp <;> cases pl
   all_goals (
    simp -implicitDefEqProofs (disch:=omega) [gz,ir1055,b1055,b1055_0,b1055_1,b1055_2,b1055_3,b1055_4,hee,q2,s1,s2,s3,s4,s5,g1n,g1p,g1t,g2,g3v,g3f,g4,g5,fillC,splice,cellsEq,skEq,binSF]
    repeat' (first | (with_reducible apply And.intro) | intro _)
    all_goals first | kernel_rfl | (refine fin_nil ⟨tb ?_,rfl⟩; simp [zI,zS,zP,plc]; try grind))
  ·skip
   by_cases q3:e.kind=3
   ·rw [if_neg q1,if_neg q2,if_pos q3]
    clear q1 q2
    cases pn <;> cases wf
    all_goals (
     simp -implicitDefEqProofs (disch:=omega) [gz,ir1055,b1055,b1055_0,b1055_1,b1055_2,b1055_3,b1055_4,hee,q3,s1,s2,s3,s4,s5,g1n,g1p,g1t,g2,g3v,g3f,g4,g5,fillC,splice,cellsEq,skEq,binSF]
     repeat' (first | (with_reducible apply And.intro) | intro _)
     all_goals first | kernel_rfl | (refine fin_nil ⟨tb ?_,rfl⟩; simp [zI,zS,zP,plc]; try grind))
   ·skip
    by_cases q4:e.kind=4
    ·rw [if_neg q1,if_neg q2,if_neg q3,if_pos q4]
     clear q1 q2 q3
     cases pt
     all_goals (
      simp -implicitDefEqProofs (disch:=omega) [gz,ir1055,b1055,b1055_0,b1055_1,b1055_2,b1055_3,b1055_4,hee,q4,s1,s2,s3,s4,s5,g1n,g1p,g1t,g2,g3v,g3f,g4,g5,fillC,splice,cellsEq,skEq,binSF]
      repeat' (first | (with_reducible apply And.intro) | intro _)
      all_goals first | kernel_rfl | (refine fin_nil ⟨tb ?_,rfl⟩; simp [zI,zS,zP,plc]; try grind))
    ·skip
     by_cases q5:e.kind=5
     ·rw [if_neg q1,if_neg q2,if_neg q3,if_neg q4,if_pos q5]
      clear q1 q2 q3 q4
      cases ov
      all_goals (
       simp -implicitDefEqProofs (disch:=omega) [gz,ir1055,b1055,b1055_0,b1055_1,b1055_2,b1055_3,b1055_4,hee,q5,s1,s2,s3,s4,s5,g1n,g1p,g1t,g2,g3v,g3f,g4,g5,fillC,splice,cellsEq,skEq,binSF]
       repeat' (first | (with_reducible apply And.intro) | intro _)
       all_goals first | kernel_rfl | (refine fin_nil ⟨tb ?_,rfl⟩; simp [zI,zS,zP,plc]; try grind))
     ·skip
      rw [if_neg q1,if_neg q2,if_neg q3,if_neg q4,if_neg q5]
      simp -implicitDefEqProofs (disch:=omega) [gz,ir1055,b1055,b1055_0,b1055_1,b1055_2,b1055_3,b1055_4,hee,q1,q2,q3,q4,q5,s1,s2,s3,s4,s5,g1n,g1p,g1t,g2,g3v,g3f,g4,g5,fillC,splice,cellsEq,skEq,binSF]
      repeat' (first | (with_reducible apply And.intro) | intro _)
      all_goals first | kernel_rfl | (refine fin_nil ⟨tb ?_,rfl⟩; simp [zI,zS,zP,plc]; try grind)
def x1055:XE:=mkX true (fun (e:Edit)=>[.agg e.row]) OkE (fun e=>.bool (hasB e))
theorem kx1055:Contract prog G0 79 x1055:=mkX_scal (fun _=>rfl) fun e h=>k1055 e h
theorem xg1055 (e:Edit) (h:OkE e):x1055.g [.agg e.row]=some (True,.bool (hasB e)):=mkX_g injE1 e h
theorem k1025 (e:Edit) (h:OkE e):ACalls prog G0 37 [.agg (e.row.map .d)] [] fun t H=>t = .int .i64 (chkE e)∧H=[]:=by
 have s1:x526.sc=true:=rfl
 have s3:x528.sc=true:=rfl
 have s4:x1053.sc=true:=rfl
 have s5:x1054.sc=true:=rfl
 have s6:x1055.sc=true:=rfl
 have hdl:=h.dl
 have g1:=xg526 e.id.a h.id
 have g3:=xg528 e.deps (by omega) h.ds
 have g4:=xg1053 e.deps e.id.a (by omega)
 have g5:=xg1054 e
 have g6:=xg1055 e h
 have hee:=Edit.row_eq e
 rw [hee] at g5 g6
 refine acallsX (X:=[(46,x526),(76,x528),(77,x1053),(78,x1054),(79,x1055)]) ⟨kx526,kx528,kx1053,kx1054,kx1055,trivial⟩ tab hmix func37 c1025 (by rfl) fun hw=>?_
 obtain ⟨R,hR⟩:∃ R,R=chkE e:=⟨_,rfl⟩
 have hR2:=hR
 unfold chkE at hR2
 rw [← hR]
 obtain ⟨p1,hp1⟩:∃ p,p=authB e.id.a:=⟨_,rfl⟩
 rw [← hp1] at g1 hR2
 cases p1
 ·rw [hR2]
  simp -implicitDefEqProofs (disch:=omega) [gz,ir1025,b1025,b1025_0,b1025_1,hee,s1,g1]
  exact fin_nil ⟨rfl,rfl⟩
 ·rw [if_neg (by simp)] at hR2
  have hrng:rngB e=((decide (e.id.n<1) || decide (1000000000<e.id.n)) || (decide (e.clock<e.id.n) || (decide (1000000000<e.clock) || (decide (e.floor<0) || decide (e.clock≤e.floor))))):=by
   unfold rngB validI
   rw [← hp1]
   apply bool_ext
   simp only [Bool.or_eq_true,Bool.not_eq_true',Bool.and_eq_false_iff,Bool.true_and,decide_eq_true_eq,decide_eq_false_iff_not]
   omega
  by_cases r1:e.id.n<1
  ·rw [if_pos (by rw [hrng]; simp [r1])] at hR2
   rw [hR2]
   simp -implicitDefEqProofs (disch:=omega) [gz,ir1025,b1025,b1025_0,b1025_1,b1025_2,hee,s1,g1,r1]
   exact fin_nil ⟨rfl,rfl⟩
  ·skip
   by_cases r2:1000000000<e.id.n
   ·rw [if_pos (by rw [hrng]; simp [r1,r2])] at hR2
    rw [hR2]
    simp -implicitDefEqProofs (disch:=omega) [gz,ir1025,b1025,b1025_0,b1025_1,b1025_2,hee,s1,g1,r1,r2]
    exact fin_nil ⟨rfl,rfl⟩
   ·skip
    by_cases r3:e.clock<e.id.n
    ·rw [if_pos (by rw [hrng]; simp [r1,r2,r3])] at hR2
     rw [hR2]
     simp -implicitDefEqProofs (disch:=omega) [gz,ir1025,b1025,b1025_0,b1025_1,b1025_2,hee,s1,g1,r1,r2,r3]
     exact fin_nil ⟨rfl,rfl⟩
    ·skip
     by_cases r4:1000000000<e.clock
     ·rw [if_pos (by rw [hrng]; simp [r1,r2,r3,r4])] at hR2
      rw [hR2]
      simp -implicitDefEqProofs (disch:=omega) [gz,ir1025,b1025,b1025_0,b1025_1,b1025_2,hee,s1,g1,r1,r2,r3,r4]
      exact fin_nil ⟨rfl,rfl⟩
     ·skip
      by_cases r5:e.floor<0
      ·rw [if_pos (by rw [hrng]; simp [r1,r2,r3,r4,r5])] at hR2
       rw [hR2]
       simp -implicitDefEqProofs (disch:=omega) [gz,ir1025,b1025,b1025_0,b1025_1,b1025_2,hee,s1,g1,r1,r2,r3,r4,r5]
       exact fin_nil ⟨rfl,rfl⟩
      ·skip
       by_cases r6:e.clock≤e.floor
       ·rw [if_pos (by rw [hrng]; simp [r1,r2,r3,r4,r5,r6])] at hR2
        rw [hR2]
        simp -implicitDefEqProofs (disch:=omega) [gz,ir1025,b1025,b1025_0,b1025_1,b1025_2,hee,s1,g1,r1,r2,r3,r4,r5,r6]
        exact fin_nil ⟨rfl,rfl⟩
       ·skip
        rw [if_neg (by rw [hrng]; simp [r1,r2,r3,r4,r5,r6])] at hR2
        have r1':1≤e.id.n:=by omega
        have r6':e.floor<e.clock:=by omega
        obtain ⟨f,hf⟩:∃ f,f=chkV e.deps 0 e.deps.length:=⟨_,rfl⟩
        rw [← hf] at hR2 g3
        by_cases c5:f=0
        ·rw [if_neg (by simp [c5])] at hR2
         rw [c5] at g3
         simp -implicitDefEqProofs (disch:=omega) [gz,ir1025,b1025,b1025_0,b1025_1,b1025_2,b1025_3,b1025_4,b1025_5,hee,s1,g1,r1,r2,r3,r4,r5,r6,s3,g3,wrap64]
         refine loopE (fun k st=>∃ i,i≤e.deps.length∧k=e.deps.length-i∧(∀ j,j<i→¬ 1000000000<(nth e.deps j).n) ∧
           st=⟨ofL [(1,.v (.c (.ptr 0 0))),(53,.int .i64 e.deps.length),(54,.int .i64 i)],[.cells (e.row.map .d)]⟩)
          (fun st=>farB e.deps=false∧AtS [(1,.v (.c (.ptr 0 0)))] [.cells (e.row.map .d)] st) ?_ ?_ ?_
         ·refine wk_nil [0] [1,53,54] rfl ⟨_,0,by omega,rfl,fun j hj=>by omega,?_⟩
          simp [phi,O.ren,hee,C.ren]
         ·rintro J L hJ hL k st ⟨i,hi,rfl,hb,rfl⟩
          by_cases hlt:i<e.deps.length
          ·obtain ⟨x,hx⟩:∃ x,nth e.deps i=x:=⟨_,rfl⟩
           have hxr:x.row=[.v (.string x.a),.v (.int .i64 x.n)]:=rfl
           by_cases c6:1000000000<x.n
           ·have hfar:farB e.deps=true:=by
             unfold farB
             rw [List.any_eq_true]
             exact ⟨x,by rw [← hx]; exact nth_mem hlt,by simp [c6]⟩
            rw [if_pos hfar] at hR2
            rw [hR2]
            simp -implicitDefEqProofs (disch:=omega) [gz,hlt,nth_map,hx,hxr,hee,c6,wrap64]
            exact fin_nil ⟨rfl,rfl⟩
           ·simp -implicitDefEqProofs (disch:=omega) [gz,hlt,nth_map,hx,hxr,hee,c6,wrap64]
            subst hJ
            refine wk_nil [0] [1,53,54] rfl ⟨e.deps.length-(i+1),by omega,i+1,by omega,rfl,fun j hj=>?_,?_⟩
            ·by_cases q:j=i
             ·subst q; rw [hx]; exact c6
             ·exact hb j (by omega)
            ·simp [phi,O.ren,hee,C.ren]
          ·have:i=e.deps.length:=by omega
           subst this
           simp -implicitDefEqProofs (disch:=omega) [gz,hlt]
           subst hL
           refine ⟨?_,at_mk (by simp) rfl⟩
           unfold farB
           rw [List.any_eq_false]
           intro x hx
           obtain ⟨j,hj,rfl⟩:=List.mem_iff_getElem.1 hx
           have:=hb j hj
           rw [nth_eq hj] at this
           simpa using this
         ·rintro _ ⟨hfar,sl,rfl⟩
          rw [if_neg (by rw [hfar]; simp)] at hR2
          obtain ⟨own,how⟩:∃ o,o=hasN e.deps e.id.a:=⟨_,rfl⟩
          rw [← how] at hR2 g4
          by_cases d1:own=e.id.n-1
          ·rw [if_neg (by simp [d1])] at hR2
           rw [d1] at g4
           by_cases d2:e.kind<1
           ·rw [if_pos (.inl d2)] at hR2
            rw [hR2]
            simp -implicitDefEqProofs (disch:=omega) [gz,b1025_6,b1025_7,hee,s4,g4,d2,wrap64]
            repeat' with_reducible apply And.intro
            all_goals first | omega | kernel_rfl | skip
            exact fin_nil ⟨rfl,rfl⟩
           ·by_cases d3:6<e.kind
            ·rw [if_pos (.inr d3)] at hR2
             rw [hR2]
             simp -implicitDefEqProofs (disch:=omega) [gz,b1025_6,b1025_7,hee,s4,g4,d2,d3,wrap64]
             repeat' with_reducible apply And.intro
             all_goals first | omega | kernel_rfl | skip
             exact fin_nil ⟨rfl,rfl⟩
            ·rw [if_neg (by omega),car_split] at hR2
             obtain ⟨rb,hrb⟩:∃ c,c=restB e:=⟨_,rfl⟩
             obtain ⟨hb2,hhb⟩:∃ c,c=hasB e:=⟨_,rfl⟩
             rw [← hrb] at hR2 g5
             rw [← hhb] at hR2 g6
             by_cases d4:e.kind=3
             ·rw [d4] at g5 g6
              by_cases d5:2000<(e.value.size:Int)
              ·rw [if_pos ⟨d4,d5⟩] at hR2
               rw [hR2]
               simp -implicitDefEqProofs (disch:=omega) [gz,b1025_6,b1025_7,b1025_8,hee,s4,g4,d4,d5,wrap64]
               repeat' with_reducible apply And.intro
               all_goals first | omega | kernel_rfl | skip
               exact fin_nil ⟨rfl,rfl⟩
              ·rw [if_neg (fun q=>d5 q.2)] at hR2
               cases rb <;> cases hb2
               all_goals (
                rw [hR2]
                simp -implicitDefEqProofs (disch:=omega) [gz,b1025_6,b1025_7,b1025_8,b1025_9,b1025_10,b1025_11,hee,s4,g4,s5,g5,s6,g6,d4,d5,wrap64]
                repeat' with_reducible apply And.intro
                all_goals first | omega | kernel_rfl | exact fin_nil ⟨rfl,rfl⟩)
             ·rw [if_neg (fun q=>d4 q.1)] at hR2
              cases rb <;> cases hb2
              all_goals (
               rw [hR2]
               simp -implicitDefEqProofs (disch:=omega) [gz,b1025_6,b1025_7,b1025_8,b1025_9,b1025_10,b1025_11,hee,s4,g4,s5,g5,s6,g6,d2,d3,d4,wrap64]
               repeat' with_reducible apply And.intro
               all_goals first | omega | kernel_rfl | exact fin_nil ⟨rfl,rfl⟩)
          ·rw [if_pos d1] at hR2
           rw [hR2]
           simp -implicitDefEqProofs (disch:=omega) [gz,b1025_6,hee,s4,g4,d1,wrap64]
           repeat' with_reducible apply And.intro
           all_goals first | omega | kernel_rfl | skip
           exact fin_nil ⟨rfl,rfl⟩
        ·rw [if_pos c5] at hR2
         rw [hR2]
         simp -implicitDefEqProofs (disch:=omega) [gz,ir1025,b1025,b1025_0,b1025_1,b1025_2,b1025_3,b1025_4,b1025_5,hee,s1,g1,r1,r2,r3,r4,r5,r6,s3,g3,c5]
         exact fin_nil ⟨rfl,rfl⟩
def x1025:XE:=mkX true (fun (e:Edit)=>[.agg e.row]) OkE (fun e=>.int .i64 (chkE e))
theorem kx1025:Contract prog G0 37 x1025:=mkX_scal (fun _=>rfl) fun e h=>k1025 e h
theorem xg1025 (e:Edit) (h:OkE e):x1025.g [.agg e.row]=some (True,.int .i64 (chkE e)):=mkX_g injE1 e h
theorem id_iff {x y:Id}:x=y↔(x.a=y.a∧x.n=y.n):=by
 constructor
 ·rintro rfl; exact ⟨rfl,rfl⟩
 ·rintro ⟨h1,h2⟩; cases x; cases y; simp at h1 h2; rw [h1,h2]
def fndT (l:List TN) (x:Id):Option Nat:=l.findIdx? fun t=>decide (t.node=x)
def atF (l:List TN) (x:Id):Int:=match fndT l x with | some i=>i | none=>-1
theorem fnd_some {l:List TN} {x:Id} {i:Nat} (hi:i<l.length) (h:(nth l i).node=x) (hb:∀ j,j<i→(nth l j).node≠x):fndT l x=some i:=by
 unfold fndT
 rw [List.findIdx?_eq_some_iff_getElem]
 refine ⟨hi,?_,fun j hj=>?_⟩
 ·rw [nth_eq hi] at h; simp [h]
 ·have:=hb j hj
  rw [nth_eq (by omega)] at this
  simp [this]
theorem fnd_none {l:List TN} {x:Id} (hb:∀ j,j<l.length→(nth l j).node≠x):fndT l x=none:=by
 unfold fndT
 rw [List.findIdx?_eq_none_iff]
 intro t ht
 obtain ⟨j,hj,rfl⟩:=List.mem_iff_getElem.1 ht
 have:=hb j hj
 rw [nth_eq hj] at this
 simp [this]
theorem fnd_spec {l:List TN} {x:Id} {i:Nat} (h:fndT l x=some i):i<l.length∧(nth l i).node=x:=by
 unfold fndT at h
 rw [List.findIdx?_eq_some_iff_getElem] at h
 obtain ⟨h1,h2,_⟩:=h
 exact ⟨h1,by rw [nth_eq h1]; simpa using h2⟩
theorem trw (t:TN):t.row=[.v (.string t.node.a),.v (.int .i64 t.node.n),.v (.string t.par.a),.v (.int .i64 t.par.n),.v (.bool t.pl.neg),.v (.string t.pl.num),.v (.string t.pl.den),.v (.string t.kind)]:=rfl
theorem k2020 (l:List TN) (x:Id) (hl:l.length<1152921504606846976):ACalls prog G0 20 [.c (.d (.sl (l.map TN.row))),.agg (x.row.map .d)] [] fun t H=>t = .int .i64 (atF l x)∧H=[]:=by
 have hx:x.row=[.v (.string x.a),.v (.int .i64 x.n)]:=rfl
 obtain ⟨R,hR⟩:∃ R,R=atF l x:=⟨_,rfl⟩
 rw [← hR]
 refine acallsX (X:=[]) trivial tab hmix func20 c2020 (by rfl) fun hw=>?_
 simp -implicitDefEqProofs (disch:=omega) [gz,ir2020,b2020,hx,wrap64,fillC,splice]
 refine loopE (fun k st=>∃ i,i≤l.length∧k=l.length-i∧(∀ j,j<i→(nth l j).node≠x) ∧
   st=⟨ofL [(0,.v (.c (.d (.sl (l.map TN.row))))),(3,.v (.c (.ptr 0 0))),(7,.int .i64 l.length),(8,.int .i64 i)],[.cells [.d (.v (.string x.a)),.d (.v (.int .i64 x.n))]]⟩)
  (fun st=>∀ j,j<l.length→(nth l j).node≠x) ?_ ?_ ?_
 ·refine wk_nil [0] [0,3,7,8] rfl ⟨_,0,by omega,rfl,(fun j hj=>absurd hj (Nat.not_lt_zero j)),?_⟩
  simp [phi,O.ren,C.ren]
 ·rintro J M hJ hM k st ⟨i,hi,rfl,hb,rfl⟩
  by_cases hlt:i<l.length
  ·obtain ⟨t,ht⟩:∃ t,nth l i=t:=⟨_,rfl⟩
   by_cases c:t.node=x
   ·obtain ⟨c1,c2⟩:=id_iff.1 c
    have hf:=fnd_some hlt (by rw [ht]; exact c) hb
    have hRi:R=(i:Int):=by rw [hR]; unfold atF; rw [hf]
    simp -implicitDefEqProofs (disch:=omega) [gz,hlt,wrap64,nth_map,ht,trw,cellsEq,skEq,c1,c2,fillC,splice]
    repeat' with_reducible apply And.intro
    all_goals first|omega|kernel_rfl|exact fun _ _=>rfl|skip
    exact fin_nil ⟨by rw [hRi]; rfl,rfl⟩
   ·have c':(decide (t.node.a=x.a) && decide (t.node.n=x.n))=false:=by
     have:=fun q=>c (id_iff.2 q)
     simpa using this
    have c'':¬ (t.node.a=x.a∧t.node.n=x.n):=fun q=>c (id_iff.2 q)
    simp -implicitDefEqProofs (disch:=omega) [gz,hlt,wrap64,nth_map,ht,trw,cellsEq,skEq,c',c'',fillC,splice]
    repeat' with_reducible apply And.intro
    all_goals first|omega|kernel_rfl|exact fun _ _=>rfl|skip
    subst hJ
    refine wk_nil [0] [0,3,7,8] rfl ⟨l.length-(i+1),by omega,i+1,by omega,rfl,fun j hj=>?_,?_⟩
    ·rcases Nat.lt_or_ge j i with q | q
     ·exact hb j q
     ·have:j=i:=by omega
      rw [this,ht]; exact c
    ·simp [phi,O.ren,C.ren]
  ·have:i=l.length:=by omega
   subst this
   simp -implicitDefEqProofs (disch:=omega) [gz,hlt]
   subst hM
   exact hb
 ·intro st hb
  have hRi:R = -1:=by rw [hR]; unfold atF; rw [fnd_none hb]
  rw [hRi]
  simp -implicitDefEqProofs (disch:=omega) [gz,wrap64]
  exact fin_nil ⟨rfl,rfl⟩
def x2020:XE:=mkX true (fun (p:List TN×Id)=>[.c (.sl (p.1.map TN.row)),.agg p.2.row]) (fun p=>p.1.length<1152921504606846976) (fun p=>.int .i64 (atF p.1 p.2))
theorem kx2020:Contract prog G0 20 x2020:=mkX_scal (fun _=>rfl) fun p h=>k2020 p.1 p.2 h
theorem xg2020 (l:List TN) (x:Id) (h:l.length<1152921504606846976):x2020.g [.c (.sl (l.map TN.row)),.agg x.row]=some (True,.int .i64 (atF l x)):=mkX_g injTI (l,x) h
def lessB (a b:Id):Bool:=if a.a=b.a then decide (a.n<b.n) else strLt a.a b.a
theorem k2047 (a b:Id):ACalls prog G0 47 [.agg (a.row.map .d),.agg (b.row.map .d)] [] fun t H=>t = .bool (lessB a b)∧H=[]:=by
 have ha:a.row=[.v (.string a.a),.v (.int .i64 a.n)]:=rfl
 have hb:b.row=[.v (.string b.a),.v (.int .i64 b.n)]:=rfl
 unfold lessB
 refine acallsX (X:=[]) trivial tab hmix func47 c2047 (by rfl) fun hw=>?_
 by_cases c:a.a=b.a
 ·rw [if_pos c]
  simp -implicitDefEqProofs (disch:=omega) [gz,ir2047,b2047,ha,hb,c,binSF,fillC,splice]
  exact fin_nil ⟨rfl,rfl⟩
 ·rw [if_neg c]
  simp -implicitDefEqProofs (disch:=omega) [gz,ir2047,b2047,ha,hb,c,binSF,fillC,splice]
  exact fin_nil ⟨rfl,rfl⟩
def x2047:XE:=mkX true (fun (p:Id×Id)=>[.agg p.1.row,.agg p.2.row]) (fun _=>True) (fun p=>.bool (lessB p.1 p.2))
theorem kx2047:Contract prog G0 47 x2047:=mkX_scal (fun _=>rfl) fun p _=>k2047 p.1 p.2
theorem xg2047 (a b:Id):x2047.g [.agg a.row,.agg b.row]=some (True,.bool (lessB a b)):=mkX_g injIdId (a,b) trivial
def binI0:Id:=⟨⟨#[45]⟩,0⟩
def rootI:Id:=⟨⟨#[]⟩,0⟩
theorem k2049:ACalls prog G0 49 [] [] fun t H=>t = .v (.agg (binI0.row.map .d))∧H=[]:=by
 refine acallsX (X:=[]) trivial tab hmix func49 c2049 (by rfl) fun hw=>?_
 simp -implicitDefEqProofs (disch:=omega) [gz,ir2049,b2049,fillC,splice]
 exact fin_nil ⟨rfl,rfl⟩
def x2049:XE:=mkX true (fun (_:Unit)=>[]) (fun _=>True) (fun _=>.v (.agg (binI0.row.map .d)))
theorem kx2049:Contract prog G0 49 x2049:=mkX_scal (fun _=>rfl) fun _ _=>k2049
theorem xg2049:x2049.g []=some (True,.v (.agg (binI0.row.map .d))):=mkX_g (fun _ _ _=>rfl) () trivial
def belF:Nat→List TN→Id→Id→Bool
 | 0,_,_,_=>false
 | n+1,l,x,up=>if x=up then true else match fndT l x with | some k=>belF n l (nth l k).par up | none=>false
def belB (l:List TN) (x up:Id):Bool:=belF (l.length+1) l x up
theorem k2048 (l:List TN) (x up:Id) (hl:l.length<1152921504606846976):ACalls prog G0 48 [.c (.d (.sl (l.map TN.row))),.agg (x.row.map .d),.agg (up.row.map .d)] [] fun t H=>t = .bool (belB l x up)∧H=[]:=by
 have s1:x2020.sc=true:=rfl
 have hx:x.row=[.v (.string x.a),.v (.int .i64 x.n)]:=rfl
 have hu:up.row=[.v (.string up.a),.v (.int .i64 up.n)]:=rfl
 obtain ⟨R,hR⟩:∃ R,R=belB l x up:=⟨_,rfl⟩
 rw [← hR]
 refine acallsX (X:=[(20,x2020)]) ⟨kx2020,trivial⟩ tab hmix func48 c2048 (by rfl) fun hw=>?_
 simp -implicitDefEqProofs (disch:=omega) [gz,ir2048,b2048,hx,hu,wrap64,fillC,splice]
 refine loopE (fun k st=>∃ (i:Nat) (y:Id),i≤l.length+1∧k=l.length+1-i∧R=belF (l.length+1-i) l y up ∧
   st=⟨ofL [(0,.v (.c (.d (.sl (l.map TN.row))))),(4,.v (.c (.ptr 0 0))),(5,.v (.c (.ptr 1 0))),(7,.int .i64 i)],[.cells [.d (.v (.string y.a)),.d (.v (.int .i64 y.n))],.cells [.d (.v (.string up.a)),.d (.v (.int .i64 up.n))]]⟩)
  (fun st=>R=false) ?_ ?_ ?_
 ·refine wk_nil [0,1] [0,4,5,7] rfl ⟨_,0,x,by omega,rfl,hR,?_⟩
  simp [phi,O.ren,C.ren]
 ·rintro J M hJ hM k st ⟨i,y,hi,rfl,hv,rfl⟩
  by_cases hlt:i≤l.length
  ·have hltI:(i:Int)≤(l.length:Int):=by omega
   rw [show l.length+1-i=(l.length-i)+1 by omega] at hv
   unfold belF at hv
   by_cases c:y=up
   ·rw [if_pos c] at hv
    obtain ⟨c1,c2⟩:=id_iff.1 c
    simp -implicitDefEqProofs (disch:=omega) [gz,hlt,hltI,wrap64,cellsEq,skEq,c1,c2,fillC,splice]
    exact fin_nil ⟨by rw [hv]; rfl,rfl⟩
   ·rw [if_neg c] at hv
    have c':(decide (y.a=up.a) && decide (y.n=up.n))=false:=by
     have:=fun q=>c (id_iff.2 q)
     simpa using this
    have c'':¬ (y.a=up.a∧y.n=up.n):=fun q=>c (id_iff.2 q)
    have g1:=xg2020 l y hl
    rw [show y.row=[.v (.string y.a),.v (.int .i64 y.n)] from rfl] at g1
    unfold atF at g1
    cases hf:fndT l y with
    | none =>
     rw [hf] at hv g1
     have hv:R=false:=hv
     simp -implicitDefEqProofs (disch:=omega) [gz,hlt,hltI,wrap64,cellsEq,skEq,c',c'',s1,g1,fillC,splice]
     exact fin_nil ⟨by rw [hv]; rfl,rfl⟩
    | some q =>
     rw [hf] at hv g1
     obtain ⟨q1,q2⟩:=fnd_spec hf
     obtain ⟨t,ht⟩:∃ t,nth l q=t:=⟨_,rfl⟩
     have hv:R=belF (l.length-i) l t.par up:=by rw [← ht]; exact hv
     have q0:¬ (q:Int)<0:=by omega
     simp -implicitDefEqProofs (disch:=omega) [gz,hlt,hltI,wrap64,cellsEq,skEq,c',c'',s1,g1,q0,q1,nth_map,ht,trw,fillC,splice]
     repeat' with_reducible apply And.intro
     all_goals first|omega|kernel_rfl|exact fun _ _=>rfl|skip
     subst hJ
     refine wk_nil [0,1] [0,4,5,7] rfl ⟨l.length+1-(i+1),by omega,i+1,t.par,by omega,rfl,by rw [show l.length+1-(i+1)=l.length-i by omega]; exact hv,?_⟩
     simp [phi,O.ren,C.ren]
  ·have hltI:¬ (i:Int)≤(l.length:Int):=by omega
   have:i=l.length+1:=by omega
   subst this
   rw [Nat.sub_self] at hv
   have hltJ:¬ ((l.length:Int)+1≤(l.length:Int)):=by omega
   simp -implicitDefEqProofs (disch:=omega) [gz,hlt,hltI,hltJ]
   subst hM
   exact hv
 ·intro st hv
  rw [hv]
  simp -implicitDefEqProofs (disch:=omega) [gz,wrap64]
  exact fin_nil ⟨rfl,rfl⟩
theorem injTII (a b:List TN×Id×Id) (h:[PVo.c (D.sl (a.1.map TN.row)),PVo.agg a.2.1.row,PVo.agg a.2.2.row]=[PVo.c (D.sl (b.1.map TN.row)),PVo.agg b.2.1.row,PVo.agg b.2.2.row]):a=b:=by
 simp only [List.cons.injEq,PVo.c.injEq,D.sl.injEq,PVo.agg.injEq,and_true] at h
 exact Prod.ext (tn_inj h.1) (Prod.ext (Id.row_inj h.2.1) (Id.row_inj h.2.2))
def x2048:XE:=mkX true (fun (p:List TN×Id×Id)=>[.c (.sl (p.1.map TN.row)),.agg p.2.1.row,.agg p.2.2.row]) (fun p=>p.1.length<1152921504606846976) (fun p=>.bool (belB p.1 p.2.1 p.2.2))
theorem kx2048:Contract prog G0 48 x2048:=mkX_scal (fun _=>rfl) fun p h=>k2048 p.1 p.2.1 p.2.2 h
theorem xg2048 (l:List TN) (x up:Id) (h:l.length<1152921504606846976):x2048.g [.c (.sl (l.map TN.row)),.agg x.row,.agg up.row]=some (True,.bool (belB l x up)):=mkX_g injTII (l,x,up) h
def chk1 (l:List TN) (i:Nat):Bool:=(authB (nth l i).node.a && (decide (1≤(nth l i).node.n) && decide ((nth l i).node.n≤1000000000))) &&
 ((decide (i=0) || lessB (nth l (i-1)).node (nth l i).node) && (belB l (nth l i).node rootI || belB l (nth l i).node binI0))
def chkT (l:List TN):Bool:=(List.range l.length).all (chk1 l)
theorem chkT_step {l:List TN} {i:Nat} (h:∀ j,j<i→chk1 l j=true) (hi:i<l.length) (hc:chk1 l i=false):chkT l=false:=by
 unfold chkT
 rw [List.all_eq_false]
 exact ⟨i,List.mem_range.2 hi,by rw [hc]; simp⟩
theorem chkT_all {l:List TN} (h:∀ j,j<l.length→chk1 l j=true):chkT l=true:=by
 unfold chkT
 rw [List.all_eq_true]
 exact fun j hj=>h j (List.mem_range.1 hj)
theorem k2019 (l:List TN) (hl:l.length<1152921504606846976) (hs:∀ t∈l,t.node.a.size<4611686018427387904):ACalls prog G0 19 [.c (.d (.sl (l.map TN.row)))] [] fun t H=>t = .bool (chkT l)∧H=[]:=by
 have s1:x526.sc=true:=rfl
 have s2:x2047.sc=true:=rfl
 have s3:x2048.sc=true:=rfl
 have s4:x2049.sc=true:=rfl
 have g4:=xg2049
 rw [show binI0.row=[.v (.string ⟨#[45]⟩),.v (.int .i64 0)] from rfl] at g4
 obtain ⟨R,hR⟩:∃ R,R=chkT l:=⟨_,rfl⟩
 rw [← hR]
 refine acallsX (X:=[(46,x526),(47,x2047),(48,x2048),(49,x2049)]) ⟨kx526,kx2047,kx2048,kx2049,trivial⟩ tab hmix func19 c2019 (by rfl) fun hw=>?_
 simp -implicitDefEqProofs (disch:=omega) [gz,ir2019,b2019,b2019_0,b2019_1,wrap64]
 refine loopE (fun k st=>∃ i,i≤l.length∧k=l.length-i∧(∀ j,j<i→chk1 l j=true) ∧
   st=⟨ofL [(0,.v (.c (.d (.sl (l.map TN.row))))),(6,.int .i64 l.length),(7,.int .i64 i)],[]⟩)
  (fun st=>∀ j,j<l.length→chk1 l j=true) ?_ ?_ ?_
 ·refine wk_nil [] [0,6,7] rfl ⟨_,0,by omega,rfl,(fun j hj=>absurd hj (Nat.not_lt_zero j)),?_⟩
  simp
 ·rintro J M hJ hM k st ⟨i,hi,rfl,hb,rfl⟩
  by_cases hlt:i<l.length
  ·obtain ⟨t,ht⟩:∃ t,nth l i=t:=⟨_,rfl⟩
   have htm:t∈l:=by rw [← ht]; exact nth_mem hlt
   have g1:=xg526 t.node.a (hs t htm)
   have g2:=xg2047 (nth l (i-1)).node t.node
   have g3:=xg2048 l t.node rootI hl
   have g5:=xg2048 l t.node binI0 hl
   have hno:=fun (hc:chk1 l i=false)=>chkT_step hb hlt hc
   rw [← hR] at hno
   have hc1:chk1 l i=((authB t.node.a && (decide (1≤t.node.n) && decide (t.node.n≤1000000000))) &&
    ((decide (i=0) || lessB (nth l (i-1)).node t.node) && (belB l t.node rootI || belB l t.node binI0))):=by unfold chk1; rw [ht]
   rw [show rootI.row=[.v (.string ⟨#[]⟩),.v (.int .i64 0)] from rfl] at g3
   rw [show binI0.row=[.v (.string ⟨#[45]⟩),.v (.int .i64 0)] from rfl] at g5
   rw [show t.node.row=[.v (.string t.node.a),.v (.int .i64 t.node.n)] from rfl] at g2 g3 g5
   obtain ⟨A,hA⟩:∃ A,A=authB t.node.a:=⟨_,rfl⟩
   obtain ⟨L',hL'⟩:∃ L',L'=lessB (nth l (i-1)).node t.node:=⟨_,rfl⟩
   obtain ⟨B1,hB1⟩:∃ B1,B1=belB l t.node rootI:=⟨_,rfl⟩
   obtain ⟨B2,hB2⟩:∃ B2,B2=belB l t.node binI0:=⟨_,rfl⟩
   rw [← hA] at g1 hc1
   rw [← hL'] at g2 hc1
   rw [← hB1] at g3 hc1
   rw [← hB2] at g5 hc1
   cases hAv:A
   ·rw [hAv] at g1 hc1
    have hv:=hno (by rw [hc1]; rfl)
    simp -implicitDefEqProofs (disch:=omega) [gz,hlt,wrap64,nth_map,ht,trw,s1,g1,fillC,splice]
    repeat' with_reducible apply And.intro
    all_goals first|omega|kernel_rfl|exact fun _ _=>rfl|skip
    exact fin_nil ⟨by rw [hv]; rfl,rfl⟩
   ·rw [hAv] at g1 hc1
    by_cases n1:t.node.n<1
    ·have hv:=hno (by rw [hc1,decide_eq_false (show ¬ 1≤t.node.n by omega)]; rfl)
     simp -implicitDefEqProofs (disch:=omega) [gz,hlt,wrap64,nth_map,ht,trw,s1,g1,n1,fillC,splice]
     repeat' with_reducible apply And.intro
     all_goals first|omega|kernel_rfl|exact fun _ _=>rfl|skip
     exact fin_nil ⟨by rw [hv]; rfl,rfl⟩
    ·by_cases n2:1000000000<t.node.n
     ·have hv:=hno (by rw [hc1,decide_eq_false (show ¬ t.node.n≤1000000000 by omega)]; simp)
      simp -implicitDefEqProofs (disch:=omega) [gz,hlt,wrap64,nth_map,ht,trw,s1,g1,n1,n2,fillC,splice]
      repeat' with_reducible apply And.intro
      all_goals first|omega|kernel_rfl|exact fun _ _=>rfl|skip
      exact fin_nil ⟨by rw [hv]; rfl,rfl⟩
     ·rw [decide_eq_true (show 1≤t.node.n by omega),decide_eq_true (show t.node.n≤1000000000 by omega)] at hc1
      have second:(decide (i=0) || L')=true→B1=true∨B2=true→chk1 l i=true:=fun q1 q2=>by
       rw [hc1,q1]
       rcases q2 with q2 | q2 <;> rw [q2] <;> simp
      have secondF:B1=false→B2=false→R=false:=fun q1 q2=>hno (by rw [hc1,q1,q2]; simp)
      have nxt:chk1 l i=true→∀ j,j<i+1→chk1 l j=true:=fun q j hj=>by
       rcases Nat.lt_or_ge j i with q' | q'
       ·exact hb j q'
       ·have:j=i:=by omega
        rw [this]; exact q
      by_cases i0:i=0
      ·have second:=second (by rw [decide_eq_true i0]; rfl)
       cases hB1v:B1
       ·cases hB2v:B2
        ·have hv:=secondF hB1v hB2v
         rw [hB1v] at g3
         rw [hB2v] at g5
         subst i0
         simp -implicitDefEqProofs (disch:=omega) [gz,hlt,wrap64,nth_map,ht,trw,s1,g1,n1,n2,s3,g3,s4,g4,g5,fillC,splice]
         repeat' with_reducible apply And.intro
         all_goals first|omega|kernel_rfl|exact fun _ _=>rfl|skip
         exact fin_nil ⟨by rw [hv]; rfl,rfl⟩
        ·have hok:=second (.inr hB2v)
         rw [hB1v] at g3
         rw [hB2v] at g5
         subst i0
         simp -implicitDefEqProofs (disch:=omega) [gz,hlt,wrap64,nth_map,ht,trw,s1,g1,n1,n2,s3,g3,s4,g4,g5,fillC,splice]
         repeat' with_reducible apply And.intro
         all_goals first|omega|kernel_rfl|exact fun _ _=>rfl|skip
         subst hJ
         refine wk_nil [] [0,6,7] rfl ⟨l.length-1,by omega,1,by omega,rfl,nxt hok,?_⟩
         simp
       ·have hok:=second (.inl hB1v)
        rw [hB1v] at g3
        subst i0
        simp -implicitDefEqProofs (disch:=omega) [gz,hlt,wrap64,nth_map,ht,trw,s1,g1,n1,n2,s3,g3,fillC,splice]
        repeat' with_reducible apply And.intro
        all_goals first|omega|kernel_rfl|exact fun _ _=>rfl|skip
        subst hJ
        refine wk_nil [] [0,6,7] rfl ⟨l.length-1,by omega,1,by omega,rfl,nxt hok,?_⟩
        simp
      ·have ip:0<i:=by omega
       obtain ⟨q,hq⟩:∃ q,q=i-1:=⟨_,rfl⟩
       have hqi:(i:Int)-1=(q:Int):=by omega
       have hql:q<l.length:=by omega
       rw [← hq] at g2
       obtain ⟨u,hu⟩:∃ u,nth l q=u:=⟨_,rfl⟩
       rw [hu] at g2
       rw [show u.node.row=[.v (.string u.node.a),.v (.int .i64 u.node.n)] from rfl] at g2
       cases hLv:L'
       ·rw [hLv] at g2
        have hv:=hno (by rw [hc1,hLv,decide_eq_false i0]; simp)
        simp -implicitDefEqProofs (disch:=omega) [gz,hlt,wrap64,nth_map,ht,hu,hqi,hql,trw,s1,g1,n1,n2,ip,i0,s2,g2,fillC,splice]
        repeat' with_reducible apply And.intro
        all_goals first|omega|kernel_rfl|exact fun _ _=>rfl|skip
        exact fin_nil ⟨by rw [hv]; rfl,rfl⟩
       ·rw [hLv] at g2
        have second:=second (by rw [hLv]; simp)
        cases hB1v:B1
        ·cases hB2v:B2
         ·have hv:=secondF hB1v hB2v
          rw [hB1v] at g3
          rw [hB2v] at g5
          simp -implicitDefEqProofs (disch:=omega) [gz,hlt,wrap64,nth_map,ht,hu,hqi,hql,trw,s1,g1,n1,n2,ip,i0,s2,g2,s3,g3,s4,g4,g5,fillC,splice]
          repeat' with_reducible apply And.intro
          all_goals first|omega|kernel_rfl|exact fun _ _=>rfl|skip
          exact fin_nil ⟨by rw [hv]; rfl,rfl⟩
         ·have hok:=second (.inr hB2v)
          rw [hB1v] at g3
          rw [hB2v] at g5
          simp -implicitDefEqProofs (disch:=omega) [gz,hlt,wrap64,nth_map,ht,hu,hqi,hql,trw,s1,g1,n1,n2,ip,i0,s2,g2,s3,g3,s4,g4,g5,fillC,splice]
          repeat' with_reducible apply And.intro
          all_goals first|omega|kernel_rfl|exact fun _ _=>rfl|skip
          subst hJ
          refine wk_nil [] [0,6,7] rfl ⟨l.length-(i+1),by omega,i+1,by omega,rfl,nxt hok,?_⟩
          simp
        ·have hok:=second (.inl hB1v)
         rw [hB1v] at g3
         simp -implicitDefEqProofs (disch:=omega) [gz,hlt,wrap64,nth_map,ht,hu,hqi,hql,trw,s1,g1,n1,n2,ip,i0,s2,g2,s3,g3,fillC,splice]
         repeat' with_reducible apply And.intro
         all_goals first|omega|kernel_rfl|exact fun _ _=>rfl|skip
         subst hJ
         refine wk_nil [] [0,6,7] rfl ⟨l.length-(i+1),by omega,i+1,by omega,rfl,nxt hok,?_⟩
         simp
  ·have:i=l.length:=by omega
   subst this
   simp -implicitDefEqProofs (disch:=omega) [gz,hlt]
   subst hM
   exact hb
 ·intro st hb
  have hv:R=true:=by rw [hR]; exact chkT_all hb
  rw [hv]
  simp -implicitDefEqProofs (disch:=omega) [gz,b2019_2,b2019_3,wrap64]
  exact fin_nil ⟨rfl,rfl⟩
theorem inj1T (a b:List TN) (h:[PVo.c (D.sl (a.map TN.row))]=[PVo.c (D.sl (b.map TN.row))]):a=b:=by
 simp only [List.cons.injEq,PVo.c.injEq,D.sl.injEq,and_true] at h
 exact tn_inj h
def x2019:XE:=mkX true (fun (l:List TN)=>[.c (.sl (l.map TN.row))]) (fun l=>l.length<1152921504606846976∧∀ t∈l,t.node.a.size<4611686018427387904) (fun l=>.bool (chkT l))
theorem kx2019:Contract prog G0 19 x2019:=mkX_scal (fun _=>rfl) fun l h=>k2019 l h.1 h.2
theorem xg2019 (l:List TN) (hl:l.length<1152921504606846976) (hs:∀ t∈l,t.node.a.size<4611686018427387904):x2019.g [.c (.sl (l.map TN.row))]=some (True,.bool (chkT l)):=mkX_g inj1T l ⟨hl,hs⟩
structure OkN (t:TN):Prop where
 num:t.pl.num.size<4000000000
 den:t.pl.den.size<4000000000
 kind:t.kind.size<4294967296
 node:t.node.a.size<4294967296
 par:t.par.a.size<4294967296
def spB (t:TN):Bool:=(decide ((Nv.normR t.pl).neg=t.pl.neg) && (decide ((Nv.normR t.pl).num=t.pl.num) && decide ((Nv.normR t.pl).den=t.pl.den))) && (fitsR t.pl 16 && (decide (t.kind.size≤100) && decide (t.node.a.size+t.par.a.size≤100)))
def sptT (l:List TN):Bool:=decide (l.length≤40) && ((List.range l.length).all (fun i=>spB (nth l i)) && chkT l)
theorem sptT_len {l:List TN} (h:¬ l.length≤40):sptT l=false:=by unfold sptT; simp [h]
theorem sptT_step {l:List TN} {i:Nat} (hi:i<l.length) (hc:spB (nth l i)=false):sptT l=false:=by
 have:(List.range l.length).all (fun i=>spB (nth l i))=false:=by
  rw [List.all_eq_false]
  exact ⟨i,List.mem_range.2 hi,by simp [hc]⟩
 unfold sptT
 rw [this]; simp
theorem sptT_all {l:List TN} (h40:l.length≤40) (h:∀ j,j<l.length→spB (nth l j)=true):sptT l=chkT l:=by
 have:(List.range l.length).all (fun i=>spB (nth l i))=true:=by
  rw [List.all_eq_true]
  exact fun j hj=>h j (List.mem_range.1 hj)
 unfold sptT
 rw [this]; simp [h40]
theorem k2021 (l:List TN) (hl:l.length<1152921504606846976) (hs:∀ t∈l,OkN t):ACalls prog G0 21 [.c (.d (.sl (l.map TN.row)))] [] fun t H=>t = .bool (sptT l)∧H=[]:=by
 have s1:x1090.sc=true:=rfl
 have s2:x1091.sc=true:=rfl
 have s3:x2019.sc=true:=rfl
 have g3:=xg2019 l hl (fun t ht=>by have:=(hs t ht).node; omega)
 obtain ⟨R,hR⟩:∃ R,R=sptT l:=⟨_,rfl⟩
 obtain ⟨C,hC⟩:∃ C,C=chkT l:=⟨_,rfl⟩
 rw [← hR]
 rw [← hC] at g3
 refine acallsX (X:=[(50,x1090),(25,x1091),(19,x2019)]) ⟨kx1090,kx1091,kx2019,trivial⟩ tab hmix func21 c2021 (by rfl) fun hw=>?_
 by_cases h40:40<l.length
 ·have hv:R=false:=by rw [hR]; exact sptT_len (by omega)
  have h40i:(40:Int)<(l.length:Int):=by omega
  simp -implicitDefEqProofs (disch:=omega) [gz,ir2021,b2021,b2021_0,b2021_1,h40,h40i,wrap64]
  exact fin_nil ⟨by rw [hv]; rfl,rfl⟩
 have h40i:¬ (40:Int)<(l.length:Int):=by omega
 simp -implicitDefEqProofs (disch:=omega) [gz,ir2021,b2021,b2021_0,b2021_1,b2021_2,h40,h40i,wrap64]
 refine loopE (fun k st=>∃ i,i≤l.length∧k=l.length-i∧(∀ j,j<i→spB (nth l j)=true) ∧
   st=⟨ofL [(0,.v (.c (.d (.sl (l.map TN.row))))),(8,.int .i64 l.length),(9,.int .i64 i)],[]⟩)
  (fun st=>(∀ j,j<l.length→spB (nth l j)=true)∧AtS [(0,.v (.c (.d (.sl (l.map TN.row)))))] [] st) ?_ ?_ ?_
 ·refine wk_nil [] [0,8,9] rfl ⟨_,0,by omega,rfl,(fun j hj=>absurd hj (Nat.not_lt_zero j)),?_⟩
  simp
 ·rintro J M hJ hM k st ⟨i,hi,rfl,hb,rfl⟩
  by_cases hlt:i<l.length
  ·obtain ⟨t,ht⟩:∃ t,nth l i=t:=⟨_,rfl⟩
   have htm:t∈l:=by rw [← ht]; exact nth_mem hlt
   have ho:=hs t htm
   have hz1:=ho.kind
   have hz2:=ho.node
   have hz3:=ho.par
   have g1:=xg1090 t.pl ho.num ho.den
   have g2:x1091.g [ratP t.pl,.c (.v (.int .i64 16))]=some (True,.bool (fitsR t.pl 16)):=xg1091 t.pl 16 ho.num ho.den
   have hno:=fun (hc:spB (nth l i)=false)=>sptT_step hlt hc
   have hc1:spB (nth l i)=((decide ((Nv.normR t.pl).neg=t.pl.neg) && (decide ((Nv.normR t.pl).num=t.pl.num) && decide ((Nv.normR t.pl).den=t.pl.den))) && (fitsR t.pl 16 && (decide (t.kind.size≤100) && decide (t.node.a.size+t.par.a.size≤100)))):=by rw [ht]; rfl
   rw [← hR] at hno
   obtain ⟨F,hF⟩:∃ F,F=fitsR t.pl 16:=⟨_,rfl⟩
   obtain ⟨N,hN⟩:∃ N,N=Nv.normR t.pl:=⟨_,rfl⟩
   rw [← hF] at g2 hc1
   rw [← hN] at g1 hc1
   obtain ⟨cb,hcb,hcv⟩:∃ cb,cellsEq [.b,.s,.s] [.d (.v (.bool N.neg)),.d (.v (.string N.num)),.d (.v (.string N.den))] [.d (.v (.bool t.pl.neg)),.d (.v (.string t.pl.num)),.d (.v (.string t.pl.den))]=some cb∧cb=(decide (N.neg=t.pl.neg) && (decide (N.num=t.pl.num) && decide (N.den=t.pl.den))):=⟨_,by simp [cellsEq,skEq],rfl⟩
   rw [← hcv] at hc1
   clear hcv
   cases hcbv:cb
   ·rw [hcbv] at hcb hc1
    have hv:=hno (by rw [hc1]; rfl)
    simp -implicitDefEqProofs (disch:=omega) [gz,hlt,wrap64,nth_map,ht,trw,s1,g1,hcb,fillC,splice]
    repeat' with_reducible apply And.intro
    all_goals first|omega|kernel_rfl|exact fun _ _=>rfl|skip
    exact fin_nil ⟨by rw [hv]; rfl,rfl⟩
   ·rw [hcbv] at hcb hc1
    cases hFv:F
    ·rw [hFv] at g2 hc1
     have hv:=hno (by rw [hc1]; rfl)
     simp -implicitDefEqProofs (disch:=omega) [gz,hlt,wrap64,nth_map,ht,trw,s1,g1,hcb,s2,g2,fillC,splice]
     repeat' with_reducible apply And.intro
     all_goals first|omega|kernel_rfl|exact fun _ _=>rfl|skip
     exact fin_nil ⟨by rw [hv]; rfl,rfl⟩
    ·rw [hFv] at g2 hc1
     by_cases n1:100<t.kind.size
     ·have n1i:(100:Int)<(t.kind.size:Int):=by omega
      have hv:=hno (by rw [hc1,decide_eq_false (show ¬ t.kind.size≤100 by omega)]; rfl)
      simp -implicitDefEqProofs (disch:=omega) [gz,hlt,wrap64,nth_map,ht,trw,s1,g1,hcb,s2,g2,n1,n1i,fillC,splice]
      repeat' with_reducible apply And.intro
      all_goals first|omega|kernel_rfl|exact fun _ _=>rfl|skip
      exact fin_nil ⟨by rw [hv]; rfl,rfl⟩
     ·have n1i:¬ (100:Int)<(t.kind.size:Int):=by omega
      by_cases n2:100<t.node.a.size+t.par.a.size
      ·have n2i:(100:Int)<(t.node.a.size:Int)+(t.par.a.size:Int):=by omega
       have hv:=hno (by rw [hc1,decide_eq_false (show ¬ t.node.a.size+t.par.a.size≤100 by omega)]; simp)
       simp -implicitDefEqProofs (disch:=omega) [gz,hlt,wrap64,nth_map,ht,trw,s1,g1,hcb,s2,g2,n1,n1i,n2,n2i,fillC,splice]
       repeat' with_reducible apply And.intro
       all_goals first|omega|kernel_rfl|exact fun _ _=>rfl|skip
       exact fin_nil ⟨by rw [hv]; rfl,rfl⟩
      ·have n2i:¬ (100:Int)<(t.node.a.size:Int)+(t.par.a.size:Int):=by omega
       have hok:spB (nth l i)=true:=by rw [hc1,decide_eq_true (show t.kind.size≤100 by omega),decide_eq_true (show t.node.a.size+t.par.a.size≤100 by omega)]; rfl
       simp -implicitDefEqProofs (disch:=omega) [gz,hlt,wrap64,nth_map,ht,trw,s1,g1,hcb,s2,g2,n1,n1i,n2,n2i,fillC,splice]
       repeat' with_reducible apply And.intro
       all_goals first|omega|kernel_rfl|exact fun _ _=>rfl|skip
       subst hJ
       refine wk_nil [] [0,8,9] rfl ⟨l.length-(i+1),by omega,i+1,by omega,rfl,(fun j hj=>?_),?_⟩
       ·by_cases q:j=i
        ·rw [q]; exact hok
        ·exact hb j (by omega)
       ·simp
  ·have:i=l.length:=by omega
   subst this
   simp -implicitDefEqProofs (disch:=omega) [gz,hlt]
   subst hM
   exact ⟨hb,at_mk (by simp) rfl⟩
 ·rintro _ ⟨hb,sl,rfl⟩
  have hv:R=C:=by rw [hR,hC]; exact sptT_all (by omega) hb
  rw [hv]
  simp -implicitDefEqProofs (disch:=omega) [gz,b2021_3,b2021_4,s3,g3,wrap64]
  exact fin_nil ⟨rfl,rfl⟩
def x2021:XE:=mkX true (fun (l:List TN)=>[.c (.sl (l.map TN.row))]) (fun l=>l.length<1152921504606846976∧∀ t∈l,OkN t) (fun l=>.bool (sptT l))
theorem kx2021:Contract prog G0 21 x2021:=mkX_scal (fun _=>rfl) fun l h=>k2021 l h.1 h.2
theorem xg2021 (l:List TN) (hl:l.length<1152921504606846976) (hs:∀ t∈l,OkN t):x2021.g [.c (.sl (l.map TN.row))]=some (True,.bool (sptT l)):=mkX_g inj1T l ⟨hl,hs⟩
theorem eq_of_nth {α:Type} [Inhabited α] {a b:List α} (hl:a.length=b.length) (h:∀ j,j<a.length→nth a j=nth b j):a=b:=by
 apply List.ext_getElem hl
 intro j h1 h2
 rw [← nth_eq h1,← nth_eq h2]
 exact h j h1
theorem tn_iff {x y:TN}:x=y↔(x.node.a=y.node.a∧x.node.n=y.node.n∧x.par.a=y.par.a∧x.par.n=y.par.n∧x.pl.neg=y.pl.neg∧x.pl.num=y.pl.num∧x.pl.den=y.pl.den∧x.kind=y.kind):=by
 constructor
 ·rintro rfl; exact ⟨rfl,rfl,rfl,rfl,rfl,rfl,rfl,rfl⟩
 ·intro h
  obtain ⟨⟨x1,x2⟩,⟨x3,x4⟩,⟨x5,x6,x7⟩,x8⟩:=x
  obtain ⟨⟨y1,y2⟩,⟨y3,y4⟩,⟨y5,y6,y7⟩,y8⟩:=y
  simp only at h
  obtain ⟨h1,h2,h3,h4,h5,h6,h7,h8⟩:=h
  subst h1 h2 h3 h4 h5 h6 h7 h8
  rfl
def samT (a b:List TN):Bool:=open Classical in decide (a=b)
theorem k2013 (a b:List TN) (ha:a.length<1152921504606846976):ACalls prog G0 13 [.c (.d (.sl (a.map TN.row))),.c (.d (.sl (b.map TN.row)))] [] fun t H=>t = .bool (samT a b)∧H=[]:=by
 obtain ⟨R,hR⟩:∃ R,R=samT a b:=⟨_,rfl⟩
 rw [← hR]
 have hRf:a≠b→R=false:=fun q=>by rw [hR]; unfold samT; simp [q]
 have hRt:a=b→R=true:=fun q=>by rw [hR]; unfold samT; simp [q]
 refine acallsX (X:=[]) trivial tab hmix func13 c2013 (by rfl) fun hw=>?_
 by_cases hl:a.length=b.length
 ·have hlI:(a.length:Int)=(b.length:Int):=by omega
  simp -implicitDefEqProofs (disch:=omega) [gz,ir2013,b2013,hl,hlI,wrap64]
  refine loopE (fun k st=>∃ i,i≤b.length∧k=b.length-i∧(∀ j,j<i→nth a j=nth b j) ∧
    st=⟨ofL [(0,.v (.c (.d (.sl (a.map TN.row))))),(1,.v (.c (.d (.sl (b.map TN.row))))),(12,.int .i64 b.length),(13,.int .i64 i)],[]⟩)
   (fun st=>∀ j,j<b.length→nth a j=nth b j) ?_ ?_ ?_
  ·refine wk_nil [] [0,1,12,13] rfl ⟨_,0,by omega,rfl,(fun j hj=>absurd hj (Nat.not_lt_zero j)),?_⟩
   simp [hl]
  ·rintro J M hJ hM k st ⟨i,hi,rfl,hb,rfl⟩
   by_cases hlt:i<b.length
   ·obtain ⟨x,hx⟩:∃ x,nth a i=x:=⟨_,rfl⟩
    obtain ⟨y,hy⟩:∃ y,nth b i=y:=⟨_,rfl⟩
    have hla:i<a.length:=by omega
    by_cases c:x=y
    ·obtain ⟨c1,c2,c3,c4,c5,c6,c7,c8⟩:=tn_iff.1 c
     simp -implicitDefEqProofs (disch:=omega) [gz,hlt,hla,hl,wrap64,nth_map,hx,hy,trw,cellsEq,skEq,c1,c2,c3,c4,c5,c6,c7,c8,fillC,splice]
     repeat' with_reducible apply And.intro
     all_goals first|omega|kernel_rfl|exact fun _ _=>rfl|skip
     subst hJ
     refine wk_nil [] [0,1,12,13] rfl ⟨b.length-(i+1),by omega,i+1,by omega,rfl,fun j hj=>?_,?_⟩
     ·rcases Nat.lt_or_ge j i with q | q
      ·exact hb j q
      ·have:j=i:=by omega
       rw [this,hx,hy,c]
     ·simp
    ·have hv:=hRf fun q=>c (by rw [← hx,← hy,q])
     have c':(decide (x.node.a=y.node.a) && (decide (x.node.n=y.node.n) && (decide (x.par.a=y.par.a) && (decide (x.par.n=y.par.n) && (decide (x.pl.neg=y.pl.neg) && (decide (x.pl.num=y.pl.num) && (decide (x.pl.den=y.pl.den) && decide (x.kind=y.kind))))))))=false:=by
      rw [Bool.eq_false_iff]
      intro q
      simp only [Bool.and_eq_true,decide_eq_true_eq] at q
      exact c (tn_iff.2 q)
     have c'':¬ (x.node.a=y.node.a∧x.node.n=y.node.n∧x.par.a=y.par.a∧x.par.n=y.par.n∧x.pl.neg=y.pl.neg∧x.pl.num=y.pl.num∧x.pl.den=y.pl.den∧x.kind=y.kind):=fun q=>c (tn_iff.2 q)
     obtain ⟨cb,hcb⟩:∃ cb,cellsEq [.s,.i .i64,.s,.i .i64,.b,.s,.s,.s] (x.row.map .d) (y.row.map .d)=some cb∧cb=false:=⟨_,by simp [trw,cellsEq,skEq],c'⟩
     obtain ⟨hcb,rfl⟩:=hcb
     simp only [trw,List.map_cons,List.map_nil] at hcb
     simp -implicitDefEqProofs (disch:=omega) [gz,hlt,hla,hl,wrap64,nth_map,hx,hy,trw,hcb,fillC,splice]
     repeat' with_reducible apply And.intro
     all_goals first|omega|kernel_rfl|exact fun _ _=>rfl|skip
     exact fin_nil ⟨by rw [hv]; rfl,rfl⟩
   ·have:i=b.length:=by omega
    subst this
    simp -implicitDefEqProofs (disch:=omega) [gz,hlt]
    subst hM
    exact hb
  ·intro st hb
   have hv:=hRt (eq_of_nth hl (by rw [hl]; exact hb))
   rw [hv]
   simp -implicitDefEqProofs (disch:=omega) [gz,wrap64]
   exact fin_nil ⟨rfl,rfl⟩
 ·have hlI:¬ (a.length:Int)=(b.length:Int):=by omega
  have hv:=hRf fun q=>hl (by rw [q])
  rw [hv]
  simp -implicitDefEqProofs (disch:=omega) [gz,ir2013,b2013,hl,hlI,wrap64]
  exact fin_nil ⟨rfl,rfl⟩
theorem injTLL (a b:List TN×List TN) (h:[PVo.c (D.sl (a.1.map TN.row)),PVo.c (D.sl (a.2.map TN.row))]=[PVo.c (D.sl (b.1.map TN.row)),PVo.c (D.sl (b.2.map TN.row))]):a=b:=by
 simp only [List.cons.injEq,PVo.c.injEq,D.sl.injEq,and_true] at h
 exact Prod.ext (tn_inj h.1) (tn_inj h.2)
def x2013:XE:=mkX true (fun (p:List TN×List TN)=>[.c (.sl (p.1.map TN.row)),.c (.sl (p.2.map TN.row))]) (fun p=>p.1.length<1152921504606846976) (fun p=>.bool (samT p.1 p.2))
theorem kx2013:Contract prog G0 13 x2013:=mkX_scal (fun _=>rfl) fun p h=>k2013 p.1 p.2 h
theorem xg2013 (a b:List TN) (ha:a.length<1152921504606846976):x2013.g [.c (.sl (a.map TN.row)),.c (.sl (b.map TN.row))]=some (True,.bool (samT a b)):=mkX_g injTLL (a,b) ha
def samI (a b:List Id):Bool:=open Classical in decide (a=b)
theorem k2014 (a b:List Id) (ha:a.length<1152921504606846976):ACalls prog G0 14 [.c (.d (.sl (a.map Id.row))),.c (.d (.sl (b.map Id.row)))] [] fun t H=>t = .bool (samI a b)∧H=[]:=by
 obtain ⟨R,hR⟩:∃ R,R=samI a b:=⟨_,rfl⟩
 rw [← hR]
 have hRf:a≠b→R=false:=fun q=>by rw [hR]; unfold samI; simp [q]
 have hRt:a=b→R=true:=fun q=>by rw [hR]; unfold samI; simp [q]
 have irw':∀ x:Id,x.row=[.v (.string x.a),.v (.int .i64 x.n)]:=fun _=>rfl
 refine acallsX (X:=[]) trivial tab hmix func14 c2014 (by rfl) fun hw=>?_
 by_cases hl:a.length=b.length
 ·have hlI:(a.length:Int)=(b.length:Int):=by omega
  simp -implicitDefEqProofs (disch:=omega) [gz,ir2014,b2014,hl,hlI,wrap64]
  refine loopE (fun k st=>∃ i,i≤b.length∧k=b.length-i∧(∀ j,j<i→nth a j=nth b j) ∧
    st=⟨ofL [(0,.v (.c (.d (.sl (a.map Id.row))))),(1,.v (.c (.d (.sl (b.map Id.row))))),(12,.int .i64 b.length),(13,.int .i64 i)],[]⟩)
   (fun st=>∀ j,j<b.length→nth a j=nth b j) ?_ ?_ ?_
  ·refine wk_nil [] [0,1,12,13] rfl ⟨_,0,by omega,rfl,(fun j hj=>absurd hj (Nat.not_lt_zero j)),?_⟩
   simp [hl]
  ·rintro J M hJ hM k st ⟨i,hi,rfl,hb,rfl⟩
   by_cases hlt:i<b.length
   ·obtain ⟨x,hx⟩:∃ x,nth a i=x:=⟨_,rfl⟩
    obtain ⟨y,hy⟩:∃ y,nth b i=y:=⟨_,rfl⟩
    have hla:i<a.length:=by omega
    by_cases c:x=y
    ·obtain ⟨c1,c2⟩:=id_iff.1 c
     simp -implicitDefEqProofs (disch:=omega) [gz,hlt,hla,hl,wrap64,nth_map,hx,hy,irw',cellsEq,skEq,c1,c2,fillC,splice]
     repeat' with_reducible apply And.intro
     all_goals first|omega|kernel_rfl|exact fun _ _=>rfl|skip
     subst hJ
     refine wk_nil [] [0,1,12,13] rfl ⟨b.length-(i+1),by omega,i+1,by omega,rfl,fun j hj=>?_,?_⟩
     ·rcases Nat.lt_or_ge j i with q | q
      ·exact hb j q
      ·have:j=i:=by omega
       rw [this,hx,hy,c]
     ·simp
    ·have hv:=hRf fun q=>c (by rw [← hx,← hy,q])
     have c':(decide (x.a=y.a) && decide (x.n=y.n))=false:=by
      have:=fun q=>c (id_iff.2 q)
      simpa using this
     obtain ⟨cb,hcb⟩:∃ cb,cellsEq [.s,.i .i64] (x.row.map .d) (y.row.map .d)=some cb∧cb=false:=⟨_,by simp [irw',cellsEq,skEq],c'⟩
     obtain ⟨hcb,rfl⟩:=hcb
     simp only [irw',List.map_cons,List.map_nil] at hcb
     simp -implicitDefEqProofs (disch:=omega) [gz,hlt,hla,hl,wrap64,nth_map,hx,hy,irw',hcb,fillC,splice]
     repeat' with_reducible apply And.intro
     all_goals first|omega|kernel_rfl|exact fun _ _=>rfl|skip
     exact fin_nil ⟨by rw [hv]; rfl,rfl⟩
   ·have:i=b.length:=by omega
    subst this
    simp -implicitDefEqProofs (disch:=omega) [gz,hlt]
    subst hM
    exact hb
  ·intro st hb
   have hv:=hRt (eq_of_nth hl (by rw [hl]; exact hb))
   rw [hv]
   simp -implicitDefEqProofs (disch:=omega) [gz,wrap64]
   exact fin_nil ⟨rfl,rfl⟩
 ·have hlI:¬ (a.length:Int)=(b.length:Int):=by omega
  have hv:=hRf fun q=>hl (by rw [q])
  rw [hv]
  simp -implicitDefEqProofs (disch:=omega) [gz,ir2014,b2014,hl,hlI,wrap64]
  exact fin_nil ⟨rfl,rfl⟩
theorem injILL (a b:List Id×List Id) (h:[PVo.c (D.sl (a.1.map Id.row)),PVo.c (D.sl (a.2.map Id.row))]=[PVo.c (D.sl (b.1.map Id.row)),PVo.c (D.sl (b.2.map Id.row))]):a=b:=by
 simp only [List.cons.injEq,PVo.c.injEq,D.sl.injEq,and_true] at h
 exact Prod.ext (ids_inj h.1) (ids_inj h.2)
def x2014:XE:=mkX true (fun (p:List Id×List Id)=>[.c (.sl (p.1.map Id.row)),.c (.sl (p.2.map Id.row))]) (fun p=>p.1.length<1152921504606846976) (fun p=>.bool (samI p.1 p.2))
theorem kx2014:Contract prog G0 14 x2014:=mkX_scal (fun _=>rfl) fun p h=>k2014 p.1 p.2 h
theorem xg2014 (a b:List Id) (ha:a.length<1152921504606846976):x2014.g [.c (.sl (a.map Id.row)),.c (.sl (b.map Id.row))]=some (True,.bool (samI a b)):=mkX_g injILL (a,b) ha
def idA (n:Int):Id:=⟨⟨#[97]⟩,n⟩
theorem k2026 (n:Int):ACalls prog G0 26 [I n] [] fun t H=>t = .v (.agg ((idA n).row.map .d))∧H=[]:=by
 refine acallsX (X:=[]) trivial tab hmix func26 c2026 (by rfl) fun hw=>?_
 simp -implicitDefEqProofs (disch:=omega) [gz,ir2026,b2026,fillC,splice]
 exact fin_nil ⟨rfl,rfl⟩
def x2026:XE:=mkX true (fun (n:Int)=>[.c (.v (.int .i64 n))]) (fun _=>True) (fun n=>.v (.agg ((idA n).row.map .d)))
theorem kx2026:Contract prog G0 26 x2026:=mkX_scal (fun _=>rfl) fun n _=>k2026 n
theorem xg2026 (n:Int):x2026.g [.c (.v (.int .i64 n))]=some (True,.v (.agg ((idA n).row.map .d))):=mkX_g (fun a b h=>by simp at h; exact h) n trivial
def keyI (x:Id):Value:=.agg #[.string x.a,.int .i64 x.n]
abbrev KI:KT:=⟨true,[.s,.i .i64]⟩
theorem keyB_I (a b:Id):keyB (keyI a) (keyI b)=decide (a=b):=by
 unfold keyI keyB
 show valsB [.string a.a,.int .i64 a.n] [.string b.a,.int .i64 b.n]=_
 simp only [valsB,valB,Bool.and_true]
 rw [Bool.eq_iff_iff]
 simp [id_iff]
theorem conf_I (x:Id):conf KI (keyI x)=true:=rfl
abbrev encIT (m:List (Id×TN)):List (Value×PV):=encM keyI (fun t=>.agg t.row) m
abbrev KB (ms:List Id):List (Value×PV):=encM keyI (fun b=>.c (.v (.bool b))) (ms.map fun y=>(y,true))
theorem mf_IT (m:List (Id×TN)) (x:Id):mfind (encIT m) (keyI x)=(alook m x).map fun t=>PVo.agg t.row:=mfind_enc keyB_I x m
theorem mp_IT (m:List (Id×TN)) (x:Id) (t:TN):mput (encIT m) (keyI x) (.agg t.row)=encIT (aput m x t):=mput_enc keyB_I x t m
theorem alook_B (ms:List Id) (x:Id):alook (ms.map fun y=>(y,true)) x=if x∈ms then some true else none:=by
 induction ms with
 | nil=>simp [alook]
 | cons y ms ih =>
  simp only [List.map_cons,alook]
  by_cases h:y=x
  ·subst h; simp
  ·rw [if_neg h,ih]
   have:(x∈y :: ms)↔x∈ms:=by simp; exact fun q=>absurd q.symm h
   simp only [this]
theorem mf_B (ms:List Id) (x:Id):mfind (KB ms) (keyI x)=if x∈ms then some (PVo.c (D.v (.bool true))) else none:=by
 have:=mfind_enc (ve:=fun b:Bool=>PVo.c (D.v (.bool b))) keyB_I x (ms.map fun y=>(y,true))
 rw [alook_B] at this
 rw [this]
 split <;> rfl
theorem aput_new {A B:Type} [DecidableEq A] {m:List (A×B)} {a:A} {b:B} (h:∀ p∈m,p.1≠a):aput m a b=m ++ [(a,b)]:=by
 induction m with
 | nil=>rfl
 | cons p m ih =>
  obtain ⟨k,v⟩:=p
  have h1:k≠a:=h (k,v) (List.mem_cons_self ..)
  simp only [aput,if_neg h1,List.cons_append]
  rw [ih fun p hp=>h p (List.mem_cons_of_mem _ hp)]
theorem mp_B {ms:List Id} {x:Id} (h:x ∉ ms):mput (KB ms) (keyI x) (.c (.v (.bool true)))=KB (ms ++ [x]):=by
 have:=mput_enc (ve:=fun b:Bool=>PVo.c (D.v (.bool b))) keyB_I x true (ms.map fun y=>(y,true))
 rw [aput_new (by
  intro p hp
  obtain ⟨y,hy,rfl⟩:=List.mem_map.1 hp
  exact fun q=>h (by rw [← q]; exact hy))] at this
 rw [this]
 simp [encM]
theorem alook_mem {B:Type} {m:List (Id×B)} {x:Id} {b:B} (h:alook m x=some b):x∈m.map Prod.fst:=by
 induction m with
 | nil=>cases h
 | cons p m ih =>
  obtain ⟨k,v⟩:=p
  simp only [alook] at h
  split at h
  ·rename_i q; subst q; simp
  ·exact List.mem_cons_of_mem _ (ih h)
def climbF:Nat→List (Id×TN)→List Id→Id→Id→Bool
 | 0,_,_,_,_=>false
 | n+1,m,ms,x,top=>if x=top then true else match alook m x with | none=>false | some t=>if x∈ms then false else climbF n m (ms ++ [x]) t.par top
theorem wf_set {H:List O} (h:Wf H) (r:Nat) {o:O} (ho:o.lt H.length):Wf (H.set r o):=by
 intro o' ho'
 rw [List.length_set]
 rcases List.mem_or_eq_of_mem_set ho' with q | q
 ·exact h o' q
 ·rw [q]; exact ho
structure CH (H:List O) (rt rs rm rb rmm rc:Nat) (m:List (Id×TN)) (ms:List Id) (top:Id):Prop where
 t:H[rt]? = some (.cells [.d (.v (.string top.a)),.d (.v (.int .i64 top.n))])
 s:H[rs]? = some (.cells [.mp rm])
 m:H[rm]? = some (.map KI (encIT m))
 b:H[rb]? = some (.cells [.mp rmm])
 mm:H[rmm]? = some (.map KI (KB ms))
 c:H[rc]? = some (.cells [.fn 80 [(rt,0),(rs,0),(rb,0),(rc,0)]])
 nt:rt≠rmm
 ns:rs≠rmm
 nm:rm≠rmm
 nb:rb≠rmm
 nc:rc≠rmm
theorem get_app {H:List O} {r:Nat} {o:O} (h:H[r]? = some o) (L:List O):(H ++ L)[r]? = some o:=by
 rw [List.getElem?_append_left (lt_of_get h)]; exact h
theorem CH.next {H:List O} {rt rs rm rb rmm rc:Nat} {m:List (Id×TN)} {ms:List Id} {top:Id} (h:CH H rt rs rm rb rmm rc m ms top) (ms':List Id) (L:List O) :
  CH ((H.set rmm (.map KI (KB ms'))) ++ L) rt rs rm rb rmm rc m ms' top:=by
 have hl:=lt_of_get h.mm
 have g:∀ {r:Nat} {o:O},H[r]? = some o→r≠rmm→((H.set rmm (.map KI (KB ms'))) ++ L)[r]? = some o:=fun {r o} h1 h2=>get_app (by rw [List.getElem?_set_ne (fun q=>h2 q.symm)]; exact h1) L
 exact ⟨g h.t h.nt,g h.s h.ns,g h.m h.nm,g h.b h.nb,get_app (by rw [List.getElem?_set_self hl]) L,g h.c h.nc,h.nt,h.ns,h.nm,h.nb,h.nc⟩
theorem k2080:∀ (n:Nat) (m:List (Id×TN)) (ms:List Id) (x top:Id) (H:List O) (rt rs rm rb rmm rc:Nat),CH H rt rs rm rb rmm rc m ms top→m.length+1≤ms.length+n→ms.Nodup→(∀ y∈ms,y∈m.map Prod.fst) →
  ACalls prog G0 80 [.agg (x.row.map .d),.c (.ptr rt 0),.c (.ptr rs 0),.c (.ptr rb 0),.c (.ptr rc 0)] H fun t H'=>t = .bool (climbF n m ms x top)∧∃ es,H'=H.set rmm (.map KI es)
 | 0,m,ms,x,top,H,rt,rs,rm,rb,rmm,rc,h,hf,hnd,hsub=>by
  have:=nodup_len hnd hsub
  rw [List.length_map] at this
  omega
 | n+1,m,ms,x,top,H,rt,rs,rm,rb,rmm,rc,h,hf,hnd,hsub=>by
  have hx:x.row=[.v (.string x.a),.v (.int .i64 x.n)]:=rfl
  have hlm:=lt_of_get h.mm
  have aT:=fun L=>get_app h.t L
  have aS:=fun L=>get_app h.s L
  have aM:=fun L=>get_app h.m L
  have aB:=fun L=>get_app h.b L
  have aMM:=fun L=>get_app h.mm L
  have mk:Value.agg [Value.string x.a,Value.int IntKind.i64 x.n].toArray=keyI x:=rfl
  have m1:=mf_IT m x
  have m2:=mf_B ms x
  have cf:=conf_I x
  refine acallsX (X:=[]) trivial tab hmix func80 c2080 (by rfl) fun hw=>?_
  have same:H.set rmm (.map KI (KB ms))=H:=set_same h.mm
  unfold climbF
  by_cases c:x=top
  ·rw [if_pos c]
   obtain ⟨c1,c2⟩:=id_iff.1 c
   simp -implicitDefEqProofs (disch:=omega) [gz,ir2080,b2080,hx,aT,aS,aM,aB,aMM,cellsEq,skEq,c1,c2,fillC,splice]
   exact fin_pre [] hw rfl ⟨rfl,KB ms,by simp [same]⟩
  ·rw [if_neg c]
   have c':(decide (x.a=top.a) && decide (x.n=top.n))=false:=by
    have:=fun q=>c (id_iff.2 q)
    simpa using this
   have c'':¬ (x.a=top.a∧x.n=top.n):=fun q=>c (id_iff.2 q)
   cases hl:alook m x with
   | none =>
    rw [hl] at m1
    simp -implicitDefEqProofs (disch:=omega) [gz,ir2080,b2080,hx,aT,aS,aM,aB,aMM,cellsEq,skEq,c',c'',keyOf,mk,m1,cf,PV.toV,fillC,splice,Nat.add_assoc]
    exact fin_pre [] hw rfl ⟨rfl,KB ms,by simp [same]⟩
   | some t =>
    rw [hl] at m1
    by_cases hv:x∈ms
    ·rw [if_pos hv] at m2
     have e:(match some t with | none=>false | some t=>if x∈ms then false else climbF n m (ms ++ [x]) t.par top)=false:=by simp [hv]
     rw [e]
     simp -implicitDefEqProofs (disch:=omega) [gz,ir2080,b2080,hx,aT,aS,aM,aB,aMM,cellsEq,skEq,c',c'',keyOf,mk,m1,m2,cf,trw,PV.toV,fillC,splice,Nat.add_assoc]
     exact fin_pre [] hw rfl ⟨rfl,KB ms,by simp [same]⟩
    ·rw [if_neg hv] at m2
     have e:(match some t with | none=>false | some t=>if x∈ms then false else climbF n m (ms ++ [x]) t.par top)=climbF n m (ms ++ [x]) t.par top:=by simp [hv]
     rw [e]
     have m3:=mp_B hv
     simp -implicitDefEqProofs (disch:=omega) [gz,ir2080,b2080,hx,aT,aS,aM,aB,aMM,cellsEq,skEq,c',c'',keyOf,mk,m1,m2,m3,cf,trw,PV.toV,toPV,toD,fillC,splice,Nat.add_assoc]
     have hn:=h.next (ms ++ [x])
     have aC:=fun L=>(hn L).c
     have aT2:=fun L=>(hn L).t
     simp -implicitDefEqProofs (disch:=omega) [gz,aC,aT2,fillC,splice,Nat.add_assoc]
     refine (k2080 n m (ms ++ [x]) t.par top _ rt rs rm rb rmm rc (hn _) (by simp; omega) (by rw [List.nodup_append]; exact ⟨hnd,by simp,fun a ha b hb=>by simp at hb; subst hb; exact fun q=>hv (q▸ha)⟩)
      (fun y hy=>by
       rcases List.mem_append.1 hy with hy | hy
       ·exact hsub y hy
       ·rw [List.mem_singleton.1 hy]; exact alook_mem hl)).mono ?_
     rintro t' H' ⟨rfl,es,rfl⟩
     simp -implicitDefEqProofs (disch:=omega) [gz,callK,fillC,splice]
     exact fin_junk (wf_set hw rmm trivial) (by simp) trivial ⟨rfl,es,rfl⟩
def undF (m:List (Id×TN)) (x top:Id):Bool:=climbF (m.length+1) m [] x top
theorem k2038 (m:List (Id×TN)) (x top:Id) (H:List O) (rm:Nat) (hm:H[rm]? = some (.map KI (encIT m))) :
  ACalls prog G0 38 [.c (.mp rm),.agg (x.row.map .d),.agg (top.row.map .d)] H fun t H'=>t = .bool (undF m x top)∧H'=H:=by
 have hx:x.row=[.v (.string x.a),.v (.int .i64 x.n)]:=rfl
 have ht:top.row=[.v (.string top.a),.v (.int .i64 top.n)]:=rfl
 have hl:=lt_of_get hm
 have aM:=fun L=>get_app hm L
 refine acallsX (X:=[]) trivial tab hmix func38 c2038 (by rfl) fun hw=>?_
 simp -implicitDefEqProofs (disch:=omega) [gz,ir2038,b2038,hx,ht,fillC,splice,Nat.add_assoc]
 have hx':∀ y:Id,y.row=[.v (.string y.a),.v (.int .i64 y.n)]:=fun _=>rfl
 have hC:CH (H ++ [.cells [.mp rm],.cells [.d (.v (.string x.a)),.d (.v (.int .i64 x.n))],.cells [.d (.v (.string top.a)),.d (.v (.int .i64 top.n))],.map KI [],.cells [.mp (H.length+3)],.cells [.fn 80 [(H.length+2,0),(H.length,0),(H.length+4,0),(H.length+5,0)]]])
   (H.length+2) H.length rm (H.length+4) (H.length+3) (H.length+5) m [] top:=by
  refine ⟨?_,?_,aM _,?_,?_,?_,by omega,by omega,by omega,by omega,by omega⟩
  ·rw [app_get]; rfl
  ·rw [app_get0]; rfl
  ·rw [app_get]; rfl
  ·rw [app_get]; rfl
  ·rw [app_get]; rfl
 have hk:=k2080 (m.length+1) m [] x top _ (H.length+2) H.length rm (H.length+4) (H.length+3) (H.length+5) hC (by simp) List.nodup_nil (fun y hy=>nomatch hy)
 rw [hx] at hk
 refine hk.mono ?_
 rintro t H' ⟨rfl,es,rfl⟩
 simp -implicitDefEqProofs (disch:=omega) [gz,callK,fillC,splice]
 exact fin_junk hw rfl trivial ⟨rfl,rfl⟩
def visF:Nat→List TN→Id→List Id→List Id
 | 0,_,_,out=>out
 | n+1,l,x,out=>(chF l x).foldl (fun o y=>if y∈rootI :: o then o else visF n l y (o ++ [y])) out
theorem ch_sub {l:List TN} {x y:Id} (h:y∈chF l x):y∈l.map TN.node:=by
 unfold chF at h
 obtain ⟨t,ht,rfl⟩:=List.mem_map.1 h
 exact List.mem_map_of_mem (sib_sub ht)
theorem visF_ok:∀ (n:Nat) {l:List TN} {x:Id} {out:List Id},out.Nodup→(∀ y∈out,y∈l.map TN.node)→(visF n l x out).Nodup∧(∀ y∈visF n l x out,y∈l.map TN.node)∧out.length≤(visF n l x out).length
 | 0,l,x,out,h1,h2=>⟨h1,h2,Nat.le_refl _⟩
 | n+1,l,x,out,h1,h2=>by
  unfold visF
  have key:∀ (ys:List Id) (out:List Id),(∀ y∈ys,y∈l.map TN.node)→out.Nodup→(∀ y∈out,y∈l.map TN.node) →
    (ys.foldl (fun o y=>if y∈rootI :: o then o else visF n l y (o ++ [y])) out).Nodup∧(∀ y∈ys.foldl (fun o y=>if y∈rootI :: o then o else visF n l y (o ++ [y])) out,y∈l.map TN.node) ∧
     out.length≤(ys.foldl (fun o y=>if y∈rootI :: o then o else visF n l y (o ++ [y])) out).length:=by
   intro ys
   induction ys with
   | nil=>intro out _ k1 k2; exact ⟨k1,k2,Nat.le_refl _⟩
   | cons y ys ih =>
    intro out hy k1 k2
    simp only [List.foldl_cons]
    by_cases c:y∈rootI :: out
    ·rw [if_pos c]
     exact ih out (fun z hz=>hy z (List.mem_cons_of_mem _ hz)) k1 k2
    ·rw [if_neg c]
     have hyo:y ∉ out:=fun q=>c (List.mem_cons_of_mem _ q)
     have n1:(out ++ [y]).Nodup:=by rw [List.nodup_append]; exact ⟨k1,by simp,fun a ha b hb=>by simp at hb; subst hb; exact fun q=>hyo (q▸ha)⟩
     have n2:∀ z∈out ++ [y],z∈l.map TN.node:=fun z hz=>by
      rcases List.mem_append.1 hz with hz | hz
      ·exact k2 z hz
      ·rw [List.mem_singleton.1 hz]; exact hy y (List.mem_cons_self ..)
     obtain ⟨p1,p2,p3⟩:=visF_ok n (x:=y) n1 n2
     obtain ⟨r1,r2,r3⟩:=ih _ (fun z hz=>hy z (List.mem_cons_of_mem _ hz)) p1 p2
     refine ⟨r1,r2,Nat.le_trans ?_ r3⟩
     simp at p3; omega
  exact key _ _ (fun y hy=>ch_sub hy) h1 h2
structure WH (nb:Nat) (H:List O) (rl rb ro rv rmm:Nat) (l:List TN) (out:List Id):Prop where
 l:H[rl]? = some (.cells [.d (.sl (l.map TN.row))])
 b:H[rb]? = some (.cells [.mp rmm])
 mm:H[rmm]? = some (.map KI (KB (rootI :: out)))
 o:(H[ro]? = some (.cells [.d (.v (.slice none 0 0))])∧out=[])∨∃ r,H[ro]? = some (.cells [.os r 2 0 out.length])∧H[r]? = some (.row 2 (out.map Id.row))∧nb≤r
 v:H[rv]? = some (.cells [.fn 43 [(rl,0),(rb,0),(ro,0),(rv,0)]])
 nl:rl≠rmm∧rl≠ro
 nbb:rb≠rmm∧rb≠ro
 no:ro≠rmm
 nv:rv≠rmm∧rv≠ro
 bm:nb≤rmm
 bo:nb≤ro
theorem WH.app {nb:Nat} {H:List O} {rl rb ro rv rmm:Nat} {l:List TN} {out:List Id} (h:WH nb H rl rb ro rv rmm l out) (L:List O):WH nb (H ++ L) rl rb ro rv rmm l out:=by
 refine ⟨get_app h.l L,get_app h.b L,get_app h.mm L,?_,get_app h.v L,h.nl,h.nbb,h.no,h.nv,h.bm,h.bo⟩
 rcases h.o with ⟨h1,h2⟩ | ⟨r,h1,h2,h3⟩
 ·exact .inl ⟨get_app h1 L,h2⟩
 ·exact .inr ⟨r,get_app h1 L,get_app h2 L,h3⟩
theorem WH.ro_lt {nb:Nat} {H:List O} {rl rb ro rv rmm:Nat} {l:List TN} {out:List Id} (h:WH nb H rl rb ro rv rmm l out):ro<H.length:=by
 rcases h.o with ⟨h1,_⟩ | ⟨r,h1,_⟩ <;> exact lt_of_get h1
theorem WH.step {nb:Nat} {H:List O} {rl rb ro rv rmm:Nat} {l:List TN} {out:List Id} (h:WH nb H rl rb ro rv rmm l out) {out':List Id} {L:List O} {r:Nat} (hr:L[r]? = some (.row 2 (out'.map Id.row))) :
  WH nb (((H.set rmm (.map KI (KB (rootI :: out')))) ++ L).set ro (.cells [.os (H.length+r) 2 0 out'.length])) rl rb ro rv rmm l out':=by
 have hro:=h.ro_lt
 have hlm:=lt_of_get h.mm
 have g:∀ {q:Nat} {o:O},H[q]? = some o→q≠rmm→q≠ro→(((H.set rmm (.map KI (KB (rootI :: out')))) ++ L).set ro (.cells [.os (H.length+r) 2 0 out'.length]))[q]? = some o:=fun {q o} h1 h2 h3=>by
  rw [List.getElem?_set_ne (fun e=>h3 e.symm)]
  exact get_app (by rw [List.getElem?_set_ne (fun e=>h2 e.symm)]; exact h1) L
 refine ⟨g h.l h.nl.1 h.nl.2,g h.b h.nbb.1 h.nbb.2,?_,.inr ⟨H.length+r,?_,?_,by have:=h.bo; omega⟩,g h.v h.nv.1 h.nv.2,h.nl,h.nbb,h.no,h.nv,h.bm,h.bo⟩
 ·rw [List.getElem?_set_ne h.no]
  exact get_app (by rw [List.getElem?_set_self hlm]) L
 ·rw [List.getElem?_set_self (by simp; omega)]
 ·rw [List.getElem?_set_ne (by omega),List.getElem?_append_right (by simp)]
  simpa using hr
theorem WH.get4 {H:List O} {rmm ro r:Nat} {q:Nat} {o:O} (h1:H[q]? = some o) (h2:q≠rmm) (h3:q≠r) (h4:q≠ro) (o':O) (L:List O) (o2:O) (k:Nat) (o3 o4:O) :
  ((((H.set rmm o' ++ L).set r o2).set (H.length+k) o3).set ro o4)[q]? = some o:=by
 have hl:=lt_of_get h1
 rw [List.getElem?_set_ne (fun e=>h4 e.symm),List.getElem?_set_ne (by omega),List.getElem?_set_ne (fun e=>h3 e.symm)]
 exact get_app (by rw [List.getElem?_set_ne (fun e=>h2 e.symm)]; exact h1) L
theorem WH.step2 {nb:Nat} {H:List O} {rl rb ro rv rmm:Nat} {l:List TN} {out:List Id} (h:WH nb H rl rb ro rv rmm l out) {r:Nat} (hq1:H[ro]? = some (.cells [.os r 2 0 out.length])) (hq2:H[r]? = some (.row 2 (out.map Id.row)))
  {out':List Id} {L:List O} {k:Nat} {rows:List (List D)} {len:Nat} {o2:O} (hrows:rows=out'.map Id.row) (hlen:len=out'.length) (hk:k<L.length) :
  WH nb ((((H.set rmm (.map KI (KB (rootI :: out'))) ++ L).set r o2).set (H.length+k) (.row 2 rows)).set ro (.cells [.os (H.length+k) 2 0 len])) rl rb ro rv rmm l out':=by
 subst hrows hlen
 have hro:=lt_of_get hq1
 have hlm:=lt_of_get h.mm
 have hr:=lt_of_get hq2
 have n1:rl≠r:=fun e=>by rw [← e,h.l] at hq2; cases hq2
 have n2:rb≠r:=fun e=>by rw [← e,h.b] at hq2; cases hq2
 have n3:rv≠r:=fun e=>by rw [← e,h.v] at hq2; cases hq2
 have n4:rmm≠r:=fun e=>by rw [← e,h.mm] at hq2; cases hq2
 refine ⟨WH.get4 h.l h.nl.1 n1 h.nl.2 _ _ _ _ _ _,WH.get4 h.b h.nbb.1 n2 h.nbb.2 _ _ _ _ _ _,?_,.inr ⟨H.length+k,?_,?_,by have:=h.bo; omega⟩,WH.get4 h.v h.nv.1 n3 h.nv.2 _ _ _ _ _ _,h.nl,h.nbb,h.no,h.nv,h.bm,h.bo⟩
 ·rw [List.getElem?_set_ne h.no,List.getElem?_set_ne (by omega),List.getElem?_set_ne (fun e=>n4 e.symm)]
  exact get_app (by rw [List.getElem?_set_self hlm]) L
 ·rw [List.getElem?_set_self (by simp; omega)]
 ·rw [List.getElem?_set_ne (by omega),List.getElem?_set_self (by simp; omega)]
theorem k2043 (nb:Nat):∀ (n:Nat) (l:List TN) (x:Id) (out:List Id) (H:List O) (rl rb ro rv rmm:Nat),(∀ t∈l,OkQ t.pl)→l.length<1000000000000→WH nb H rl rb ro rv rmm l out→l.length+1≤out.length+n→out.Nodup→(∀ y∈out,y∈l.map TN.node) →
  ACalls prog G0 43 [.agg (x.row.map .d),.c (.ptr rl 0),.c (.ptr rb 0),.c (.ptr ro 0),.c (.ptr rv 0)] H fun t H'=>t = .tup []∧H.length≤H'.length∧WH nb H' rl rb ro rv rmm l (visF n l x out)∧∀ q,q<nb→H'[q]? = H[q]?
 | 0,l,x,out,H,rl,rb,ro,rv,rmm,hq,hll,h,hf,hnd,hsub=>by
  have:=nodup_len hnd hsub
  rw [List.length_map] at this
  omega
 | n+1,l,x,out,H,rl,rb,ro,rv,rmm,hq,hll,h,hf,hnd,hsub=>by
  have hx:x.row=[.v (.string x.a),.v (.int .i64 x.n)]:=rfl
  have s1:x2017.sc=false:=rfl
  have hnbl:nb<H.length:=Nat.lt_of_le_of_lt h.bo h.ro_lt
  have g1:=xg2017 l x hq hll
  rw [hx] at g1
  refine acallsX (X:=[(17,x2017)]) ⟨kx2017,trivial⟩ tab hmix func43 c2043 (by rfl) fun hw=>?_
  have aL:=fun L=>get_app h.l L
  unfold visF
  have hcs:∀ y∈chF l x,y∈l.map TN.node:=fun y hy=>ch_sub hy
  obtain ⟨C,hC⟩:∃ C,C=chF l x:=⟨_,rfl⟩
  have hCl:C.length<1000000000000:=by
   rw [hC]; unfold chF; rw [List.length_map]
   have:=sib_len l x
   omega
  rw [← hC] at g1 hcs ⊢
  obtain ⟨W,hW0⟩:∃ W,W=C.foldl (fun o y=>if y∈rootI :: o then o else visF n l y (o ++ [y])) out:=⟨_,rfl⟩
  rw [← hW0]
  simp -implicitDefEqProofs (disch:=omega) [gz,ir2043,b2043,hx,aL,s1,g1,fillC,splice,toPVs,frzVs,osVs,toPV]
  refine loopE (fun k st=>∃ (j:Nat) (o:List Id) (Hj:List O),j≤C.length∧k=C.length-j∧o=(C.take j).foldl (fun o y=>if y∈rootI :: o then o else visF n l y (o ++ [y])) out∧o.Nodup∧(∀ y∈o,y∈l.map TN.node)∧out.length≤o.length∧H.length≤Hj.length∧WH nb Hj rl rb ro rv rmm l o∧(∀ q,q<nb→Hj[q]? = H[q]?) ∧
    st=⟨ofL [(1,.v (.c (.ptr rl 0))),(2,.v (.c (.ptr rb 0))),(3,.v (.c (.ptr ro 0))),(4,.v (.c (.ptr rv 0))),(10,.v (.c (.d (.sl (C.map Id.row))))),(11,.int .i64 C.length),(12,.int .i64 j)],Hj⟩)
   (fun st=>H.length≤st.hp.length∧WH nb st.hp rl rb ro rv rmm l W∧∀ q,q<nb→st.hp[q]? = H[q]?) ?_ ?_ ?_
  ·refine wk_keep [1,2,3,4,10,11,12] ⟨_,0,out,_,by omega,rfl,rfl,hnd,hsub,Nat.le_refl _,?_,h.app [.cells [.d (.v (.string x.a)),.d (.v (.int .i64 x.n))]],fun q hq=>List.getElem?_append_left (by omega),?_⟩
   ·simp
   ·simp
  ·rintro J M hJ hM k st ⟨j,o,Hj,hj,rfl,ho,k1,k2,k3,k4,hW,k5,rfl⟩
   by_cases hlt:j<C.length
   ·obtain ⟨y,hy⟩:∃ y,nth C j=y:=⟨_,rfl⟩
    have hyC:y∈C:=by rw [← hy]; exact nth_mem hlt
    have hstep:(C.take (j+1)).foldl (fun o y=>if y∈rootI :: o then o else visF n l y (o ++ [y])) out=if y∈rootI :: o then o else visF n l y (o ++ [y]):=by
     rw [take_nth hlt,List.foldl_append,← ho,hy]; rfl
    have hyr:∀ y:Id,y.row=[.v (.string y.a),.v (.int .i64 y.n)]:=fun _=>rfl
    have mk:Value.agg [Value.string y.a,Value.int IntKind.i64 y.n].toArray=keyI y:=rfl
    have m2:=mf_B (rootI :: o) y
    have cf:=conf_I y
    have aB:=fun L=>get_app hW.b L
    have aMM:=fun L=>get_app hW.mm L
    by_cases c:y∈rootI :: o
    ·rw [if_pos c] at m2 hstep
     simp -implicitDefEqProofs (disch:=omega) [gz,hlt,wrap64,nth_map,hy,hyr,aB,aMM,keyOf,mk,m2,cf,PV.toV,fillC,splice]
     subst hJ
     refine wk_keep [1,2,3,4,10,11,12] ⟨C.length-(j+1),by omega,j+1,o,_,by omega,rfl,hstep.symm,k1,k2,k3,?_,hW.app [.cells [.d (.v (.string y.a)),.d (.v (.int .i64 y.n))]],fun q hq=>by rw [List.getElem?_append_left (by omega)]; exact k5 q hq,?_⟩
     ·simp; omega
     ·simp
    ·rw [if_neg c] at m2 hstep
     have m3:=mp_B c
     have hlm:=lt_of_get hW.mm
     have hWo:=hW.o
     have n1:(o ++ [y]).Nodup:=by rw [List.nodup_append]; exact ⟨k1,by simp,fun a ha b hb=>by simp at hb; subst hb; exact fun q=>c (List.mem_cons_of_mem _ (q▸ha))⟩
     have n2:∀ z∈o ++ [y],z∈l.map TN.node:=fun z hz=>by
      rcases List.mem_append.1 hz with hz | hz
      ·exact k2 z hz
      ·rw [List.mem_singleton.1 hz]; exact hcs y hyC
     have hol:o.length≤l.length:=by
      have:=nodup_len k1 k2
      rwa [List.length_map] at this
     have g:∀ {r:Nat} {q:O},Hj[r]? = some q→r≠rmm→∀ (o':O) L,((Hj.set rmm o') ++ L)[r]? = some q:=fun {r q} h1 h2 o' L=>get_app (by rw [List.getElem?_set_ne (fun q=>h2 q.symm)]; exact h1) L
     rcases hWo with ⟨q1,q2⟩ | ⟨r,q1,q2,q3⟩
     ·have aO:=g q1 hW.no
      subst q2
      have aV:∀ o' L o'',((Hj.set rmm o' ++ L).set ro o'')[rv]? = some (.cells [.fn 43 [(rl,0),(rb,0),(ro,0),(rv,0)]]):=fun o' L o''=>by
       rw [List.getElem?_set_ne (fun q=>hW.nv.2 q.symm)]; exact g hW.v hW.nv.1 o' L
      have aY:∀ o' L o'',((Hj.set rmm o' ++ O.cells [.d (.v (.string y.a)),.d (.v (.int .i64 y.n))] :: L).set ro o'')[Hj.length]? = some (.cells [.d (.v (.string y.a)),.d (.v (.int .i64 y.n))]):=fun o' L o''=>by
       have hro:=lt_of_get q1
       rw [List.getElem?_set_ne (by omega),List.getElem?_append_right (by simp)]; simp
      simp -implicitDefEqProofs (disch:=omega) [gz,hlt,wrap64,nth_map,hy,hyr,aB,aMM,keyOf,mk,m2,m3,cf,PV.toV,toPV,toD,fillC,fillR,splice,aO,aV,aY,Nat.add_assoc]
      refine (k2043 nb n l y [y] _ rl rb ro rv rmm hq hll (WH.step hW (out':=[y]) (r:=2) rfl) (by have k3':out.length≤0:=k3; simp only [List.length_cons,List.length_nil]; omega) n1 n2).mono ?_
      rintro t H' ⟨rfl,hl1,hW2,hfr⟩
      simp -implicitDefEqProofs (disch:=omega) [gz,callK,wrap64]
      subst hJ
      refine wk_keep [1,2,3,4,10,11,12] ⟨C.length-(j+1),by omega,j+1,_,H',by omega,rfl,hstep.symm,?_,?_,?_,?_,hW2,?_,?_⟩
      ·exact (visF_ok n n1 n2).1
      ·exact (visF_ok n n1 n2).2.1
      ·exact Nat.le_trans (Nat.le_trans k3 (Nat.zero_le _)) (visF_ok n n1 n2).2.2
      ·simp at hl1; omega
      ·intro q hq
       have hbm:=hW.bm
       have hbo:=hW.bo
       rw [hfr q hq,List.getElem?_set_ne (by omega),List.getElem?_append_left (by simp; omega),List.getElem?_set_ne (by omega)]
       exact k5 q hq
      ·simp
     ·have aO:=g q1 hW.no
      have nr:r≠rmm:=fun e=>by rw [e,hW.mm] at q2; cases q2
      have aR:=g q2 nr
      have hrl:=lt_of_get q2
      have hro:=lt_of_get q1
      have nro:ro≠r:=fun e=>by rw [← e,q1] at q2; cases q2
      have nrv:rv≠r:=fun e=>by rw [← e,hW.v] at q2; cases q2
      have g2:∀ {q:Nat} {o:O},Hj[q]? = some o→q≠rmm→q≠r→∀ (o' o2:O) L,(((Hj.set rmm o').set r o2) ++ L)[q]? = some o:=fun {q o} h1 h2 h3 o' o2 L =>
       get_app (by rw [List.getElem?_set_ne (fun e=>h3 e.symm),List.getElem?_set_ne (fun e=>h2 e.symm)]; exact h1) L
      have aO2:=g2 q1 hW.no nro
      have aV4:=WH.get4 (r:=r) hW.v hW.nv.1 nrv hW.nv.2
      have aY4:∀ o' L o2 k o3 o4,((((Hj.set rmm o' ++ O.cells [.d (.v (.string y.a)),.d (.v (.int .i64 y.n))] :: L).set r o2).set (Hj.length+(k+1)) o3).set ro o4)[Hj.length]? = some (.cells [.d (.v (.string y.a)),.d (.v (.int .i64 y.n))]):=fun o' L o2 k o3 o4=>by
       rw [List.getElem?_set_ne (by omega),List.getElem?_set_ne (by omega),List.getElem?_set_ne (by omega),List.getElem?_append_right (by simp)]; simp
      have hb24:(o.length+1)*24≤140737488355328:=by omega
      simp -implicitDefEqProofs (disch:=omega) [gz,hlt,wrap64,nth_map,hy,hyr,aB,aMM,keyOf,mk,m2,m3,cf,PV.toV,toPV,toD,fillC,fillR,splice,aO,aR,aO2,hb24,aV4,aY4,Nat.add_assoc]
      refine (k2043 nb n l y (o ++ [y]) _ rl rb ro rv rmm hq hll (WH.step2 hW q1 q2 (out':=o ++ [y]) (k:=2) (by simp [hyr]) (by simp) (by simp)) (by simp; omega) n1 n2).mono ?_
      rintro t H' ⟨rfl,hl1,hW2,hfr⟩
      simp -implicitDefEqProofs (disch:=omega) [gz,callK,wrap64]
      subst hJ
      refine wk_keep [1,2,3,4,10,11,12] ⟨C.length-(j+1),by omega,j+1,_,H',by omega,rfl,hstep.symm,?_,?_,?_,?_,hW2,?_,?_⟩
      ·exact (visF_ok n n1 n2).1
      ·exact (visF_ok n n1 n2).2.1
      ·exact Nat.le_trans (Nat.le_trans k3 (by simp)) (visF_ok n n1 n2).2.2
      ·simp at hl1; omega
      ·intro q hq
       have hbm:=hW.bm
       have hbo:=hW.bo
       rw [hfr q hq,List.getElem?_set_ne (by omega),List.getElem?_set_ne (by omega),List.getElem?_set_ne (by omega),List.getElem?_append_left (by simp; omega),List.getElem?_set_ne (by omega)]
       exact k5 q hq
      ·simp
   ·have:j=C.length:=by omega
    subst this
    rw [List.take_length] at ho
    simp -implicitDefEqProofs (disch:=omega) [gz,hlt]
    subst hM
    exact ⟨k4,by rw [hW0,← ho]; exact hW,k5⟩
  ·rintro ⟨sl,Hx⟩ ⟨k1,k2,k3⟩
   simp -implicitDefEqProofs (disch:=omega) [gz,wrap64]
   exact fin_here k1 ⟨rfl,k1,k2,k3⟩
def walkF (l:List TN):List Id:=visF (l.length+1) l rootI []
theorem keep_app {α:Type} {H H':List α} (hl:H.length≤H'.length) (h:∀ q,q<H.length→H'[q]? = H[q]?):H'=H ++ H'.drop H.length:=by
 have:H'.take H.length=H:=by
  apply List.ext_getElem?
  intro i
  rw [List.getElem?_take]
  split
  ·rename_i q; exact h i q
  ·rename_i q; rw [List.getElem?_eq_none (by omega)]
 conv=>lhs; rw [← List.take_append_drop H.length H']
 rw [this]
theorem k2015 (l:List TN) (hq:∀ t∈l,OkQ t.pl) (hl:l.length<1000000000000) (H:List O) :
  ACalls prog G0 15 [.c (.d (.sl (l.map TN.row)))] H fun t H'=>t = .v (.c (.d (.sl ((walkF l).map Id.row))))∧H'=H:=by
 refine acallsX (X:=[]) trivial tab hmix func15 c2015 (by rfl) fun hw=>?_
 have mk:Value.agg [Value.string ⟨#[]⟩,Value.int IntKind.i64 0].toArray=keyI rootI:=rfl
 have m3:mput [] (keyI rootI) (.c (.v (.bool true)))=KB (rootI :: []):=rfl
 have cf:=conf_I rootI
 simp -implicitDefEqProofs (disch:=omega) [gz,ir2015,b2015,keyOf,mk,m3,cf,toPV,toD,fillC,splice,Nat.add_assoc]
 have hW:WH H.length (H ++ [.cells [.d (.sl (l.map TN.row))],.cells [.d (.v (.slice none 0 0))],.map KI (KB (rootI :: [])),.cells [.mp (H.length+2)],.cells [.fn 43 [(H.length,0),(H.length+3,0),(H.length+1,0),(H.length+4,0)]]])
   H.length (H.length+3) (H.length+1) (H.length+4) (H.length+2) l []:=by
  refine ⟨?_,?_,?_,.inl ⟨?_,rfl⟩,?_,⟨by omega,by omega⟩,⟨by omega,by omega⟩,by omega,⟨by omega,by omega⟩,by omega,by omega⟩
  ·rw [app_get0]; rfl
  ·rw [app_get]; rfl
  ·rw [app_get]; rfl
  ·rw [app_get]; rfl
  ·rw [app_get]; rfl
 have hk:=k2043 H.length (l.length+1) l rootI [] _ H.length (H.length+3) (H.length+1) (H.length+4) (H.length+2) hq hl hW (by simp) List.nodup_nil (fun y hy=>nomatch hy)
 rw [show rootI.row=[.v (.string ⟨#[]⟩),.v (.int .i64 0)] from rfl] at hk
 refine hk.mono ?_
 rintro t H' ⟨rfl,hl1,hW2,hfr⟩
 rw [show visF (l.length+1) l rootI []=walkF l from rfl] at hW2
 have hH':H'=H ++ H'.drop H.length:=keep_app (by simp at hl1; omega) (fun q hq2=>by rw [hfr q hq2,List.getElem?_append_left hq2])
 have hbo:=hW2.bo
 rcases hW2.o with ⟨q1,q2⟩ | ⟨r,q1,q2,q3⟩
 ·simp -implicitDefEqProofs (disch:=omega) [gz,callK,q1,fillC,splice]
  rw [q2,hH']
  exact fin_pre_pv (p:=.c (.sl [])) (L':=H'.drop H.length) hw (by simp [toPV,toD]) (by simp [frz,frz1,V.cells]) ⟨rfl,rfl⟩
 ·simp -implicitDefEqProofs (disch:=omega) [gz,callK,q1,fillC,splice]
  have hrl:=lt_of_get q2
  rw [hH'] at q2 ⊢
  refine fin_pre_pv (p:=.c (.sl ((walkF l).map Id.row))) (L':=(H'.drop H.length).set (r-H.length) (.frow 2 ((walkF l).map Id.row))) hw ?_ ?_ ⟨rfl,rfl⟩
  ·simp [toPV,toD,q2,List.take_of_length_le]
  ·simp only [frz,frz1,V.cells,q2]
   rw [List.set_append_right _ _ q3]
def x2015:XE:=mkX false (fun (l:List TN)=>[.c (.sl (l.map TN.row))]) (fun l=>(∀ t∈l,OkQ t.pl)∧l.length<1000000000000) (fun l=>.v (.c (.d (.sl ((walkF l).map Id.row)))))
theorem kx2015:Contract prog G0 15 x2015:=mkX_data fun l h H=>k2015 l h.1 h.2 H
theorem xg2015 (l:List TN) (hq:∀ t∈l,OkQ t.pl) (hl:l.length<1000000000000):x2015.g [.c (.sl (l.map TN.row))]=some (True,.v (.c (.d (.sl ((walkF l).map Id.row))))):=mkX_g inj1T l ⟨hq,hl⟩
open Go Go.Proofs Go.Aw Go.Sort Go.Lib
theorem w127 (x:ByteArray) (w:World):Calls prog 127 #[.string x] w fun e w'=>e = .returned (.bool false)∧w'=w:=by
 go_enter func127,Tryz.ntmps127
 go_wp2
 go_ret
 exact ⟨by simp,rfl⟩
theorem w128 (x:Int) (w:World):Calls prog 128 #[.int .i64 x] w fun e w'=>e = .returned (.bool false)∧w'=w:=by
 go_enter func128,Tryz.ntmps128
 go_wp2
 go_ret
 exact ⟨by simp,rfl⟩
theorem w84 (x y:ByteArray) (w:World):Calls prog 84 #[.string x,.string y] w fun e w'=>e = .returned (.int .i64 (cmpA x y))∧w'=w:=by
 have hb:Op.bytesLess x.toList y.toList=decide (cmpS x y<0):=strLt_eq x y
 have hg:∀ w,(binOp .gtr 9 (.string x) (.string y)).run prog w = .ok (.bool (decide (0<cmpS x y))) w:=fun w=>by
  have e:decide (0<cmpS x y) = !(strLt x y || decide (x=y)):=by
   have h:=cmpS_eq x y
   rw [strLt_eq,Bool.eq_iff_iff]
   simp
   constructor
   ·intro q; exact ⟨by omega,fun q2=>by rw [h.2 q2] at q; omega⟩
   ·rintro ⟨q1,q2⟩
    have:cmpS x y≠0:=fun q=>q2 (h.1 q)
    omega
  rw [e]; simp [binOp,Op.stringOp,strLt,toList_eq_decide]
 have hr:cmpA x y=if cmpS x y<0 then -1 else if 0<cmpS x y then 1 else 0:=rfl
 rw [hr]
 obtain ⟨z,hz⟩:∃ z,z=cmpS x y:=⟨_,rfl⟩
 rw [← hz] at hb hg ⊢
 clear hr hz
 go_enter func84,Tryz.ntmps84
 go_wp2_with (go_at_call 127; refine (w127 _ _).mono ?_; rintro e w' ⟨rfl,hw⟩; rw [hw])
 all_goals (go_ret; refine ⟨?_,rfl⟩; (repeat' split) <;> first | rfl | (exfalso; omega) | (exfalso; simp [hb] at *; omega))
theorem w85 (x y:Int) (w:World):Calls prog 85 #[.int .i64 x,.int .i64 y] w fun e w'=>e = .returned (.int .i64 (cmpI x y))∧w'=w:=by
 go_enter func85,Tryz.ntmps85
 go_wp2_with (go_at_call 128; refine (w128 _ _).mono ?_; rintro e w' ⟨rfl,hw⟩; rw [hw])
 all_goals (go_ret; refine ⟨?_,rfl⟩)
 all_goals (unfold cmpI; (repeat' split) <;> first | rfl | (exfalso; omega))
theorem w83 (x y:Int) (b cap:Nat) (w:World) (h0:w.cell? ⟨b,0,none⟩=some (.int .i64 x)) (h1:w.cell? ⟨b,1,none⟩=some (.int .i64 y)) :
  Calls prog 83 #[.slice (some ⟨b,0,none⟩) 2 cap] w fun e w'=>e = .returned (.int .i64 (orI [x,y]))∧w'=w:=by
 have hr:orI [x,y]=if x≠0 then x else if y≠0 then y else 0:=rfl
 rw [hr]
 go_enter func83,Tryz.ntmps83
 go_wp2
 go_rounds 3
 all_goals (go_ret; refine ⟨?_,rfl⟩; (repeat' split) <;> first | rfl | (exfalso; simp_all; done) | (simp_all; done))
theorem cell_new (W:World) (cs:Array Value) (t:TypeId) (j:Nat) (v:Value) (N:Nat) (hN:N=W.heap.size) (h:cs[j]? = some v):((W.alloc (.cells cs t)).drew).cell? ⟨N,j,none⟩=some v:=by
 subst hN
 have e:((W.alloc (.cells cs t)).drew).heap=W.heap.push (.cells cs t):=rfl
 simp only [World.cell?,e,Array.getElem?_push_size]
 simpa using h
theorem gr3 (W:World) (A B C:Obj):(((W.alloc A).alloc B).alloc C).drew=grow (W.drewN 1) (#[A] ++ #[B] ++ #[C]):=by
 rw [alloc_eq_grow,alloc_eq_grow,alloc_eq_grow,grow_grow,grow_grow]; rfl
theorem gr2 (W:World) (A B:Obj) (q:Nat) (os:Array Obj):grow (((W.alloc A).alloc B).drewN q) os=grow (W.drewN q) (#[A] ++ #[B] ++ os):=by
 rw [alloc_eq_grow,alloc_eq_grow,grow_grow]
 show grow (grow (W.drewN q) _) os=_
 rw [grow_grow]
theorem w41 (a b:Id) (w:World):Calls prog 41 #[.agg #[.string a.a,.int .i64 a.n],.agg #[.string b.a,.int .i64 b.n]] w fun e w'=>e = .returned (.int .i64 (lessZ a b))∧∃ q os',w'=grow (w.drewN q) os':=by
 have hr:lessZ a b=orI [cmpA a.a b.a,cmpI a.n b.n]:=rfl
 rw [hr]
 obtain ⟨a,n⟩:=a
 obtain ⟨b,m⟩:=b
 show Calls _ _ _ _ fun e w'=>e = .returned (.int .i64 (orI [cmpA a b,cmpI n m]))∧_
 have k84:=fun W=>w84 a b W
 have k85:=fun W=>w85 n m W
 obtain ⟨u,hu⟩:∃ u,u=cmpA a b:=⟨_,rfl⟩
 obtain ⟨v,hv⟩:∃ v,v=cmpI n m:=⟨_,rfl⟩
 rw [← hu] at k84 ⊢
 rw [← hv] at k85 ⊢
 obtain ⟨z,hz⟩:∃ z,z=orI [u,v]:=⟨_,rfl⟩
 rw [← hz]
 clear hr hu hv
 have k83:=fun b c W h0 h1=>hz▸w83 u v b c W h0 h1
 clear hz
 go_enter func41,Tryz.ntmps41
 go_wp2
 go_region_held3 (fun w'=>w'.cell? ⟨w.heap.size,0,none⟩=some (.string a)∧w'.cell? ⟨w.heap.size,1,none⟩=some (.int .i64 n)∧w'.cell? ⟨w.heap.size+1,0,none⟩=some (.string b)∧w'.cell? ⟨w.heap.size+1,1,none⟩=some (.int .i64 m)) (go_keep)
  (first | (go_at_call 84; refine (k84 _).mono ?_; rintro e w' ⟨rfl,rfl⟩) | (go_at_call 85; refine (k85 _).mono ?_; rintro e w' ⟨rfl,rfl⟩) | (go_at_call 83; refine (k83 _ _ _ (cell_new _ _ _ _ _ _ (by simp) (by rfl)) (cell_new _ _ _ _ _ _ (by simp) (by rfl))).mono ?_; rintro e w' ⟨rfl,rfl⟩))
 all_goals go_wp2
 all_goals (go_ret; exact ⟨rfl,1,_,gr3 _ _ _ _⟩)
def cmpN' (a b:TN):Int:=lessZ a.node b.node
def encN (t:TN):List Value:=[.string t.node.a,.int .i64 t.node.n,.string t.par.a,.int .i64 t.par.n,.bool t.pl.neg,.string t.pl.num,.string t.pl.den,.string t.kind]
theorem w40 (s t:TN) (w:World):Calls prog 40 #[.agg (encN s).toArray,.agg (encN t).toArray] w fun e w'=>e = .returned (.int .i64 (lessZ s.node t.node))∧∃ q os',w'=grow (w.drewN q) os':=by
 obtain ⟨⟨a1,a2⟩,⟨a3,a4⟩,⟨a5,a6,a7⟩,a8⟩:=s
 obtain ⟨⟨b1,b2⟩,⟨b3,b4⟩,⟨b5,b6,b7⟩,b8⟩:=t
 have k41:=fun W=>w41 ⟨a1,a2⟩ ⟨b1,b2⟩ W
 show Calls _ _ _ _ fun e w'=>e = .returned (.int .i64 (lessZ ⟨a1,a2⟩ ⟨b1,b2⟩))∧_
 obtain ⟨z,hz⟩:∃ z,z=lessZ ⟨a1,a2⟩ ⟨b1,b2⟩:=⟨_,rfl⟩
 rw [← hz] at k41 ⊢
 clear hz
 simp only [encN]
 go_enter func40,Tryz.ntmps40
 go_wp2_with (go_at_call 41; refine (k41 _).mono ?_; rintro e w' ⟨rfl,q,os',rfl⟩)
 all_goals (go_ret; exact ⟨rfl,q,_,gr2 _ _ _ _ _⟩)
theorem cmpLN (blk off size:Nat) (w:World):CmpLays prog 40 #[] encN 8 cmpN' blk off size w:=fun _ _ _ _ x y=>w40 x y _
open Go Go.Proofs Go.Aw Go.Sort Go.Shelf
def renF:Go.Shelf.Ren:=⟨fun n=>match n with | 6=>39 | 14=>81 | 15=>82 | 20=>117 | 21=>118 | 22=>119 | 23=>120 | 24=>121 | 25=>122 | 26=>123 | 27=>124 | 28=>125 | 29=>126 | 46=>149 | 47=>150 | 48=>151 | 49=>152 | 50=>153 | 57=>165 | n=>n,fun n=>match n with | 0=>0 | 3=>3 | 4=>4 | 5=>5 | 9=>9 | 22=>22 | 24=>40 | 25=>72 | 39=>105 | 45=>127 | 46=>128 | 50=>132 | 53=>114 | 55=>95 | 66=>147 | 70=>151 | 76=>163 | 77=>164 | n=>n,fun n=>n⟩
theorem lyF6:SlLaysF0.n6 prog renF :=
  { mixed:=hmix
    f6:=⟨"slices.SortFunc[[]voussoir/api.TreeNode,voussoir/api.TreeNode]",by decide,func39.trans (congrArg some (by kernel_rfl))⟩
    f14:=⟨"slices.pdqsortCmpFunc[voussoir/api.TreeNode]",by decide,func81.trans (congrArg some (by kernel_rfl))⟩
    f15:=func82.trans (congrArg some (by kernel_rfl))
    f20:=⟨"slices.insertionSortCmpFunc[voussoir/api.TreeNode]",by decide,func117.trans (congrArg some (by kernel_rfl))⟩
    f21:=⟨"slices.heapSortCmpFunc[voussoir/api.TreeNode]",by decide,func118.trans (congrArg some (by kernel_rfl))⟩
    f22:=⟨"slices.breakPatternsCmpFunc[voussoir/api.TreeNode]",by decide,func119.trans (congrArg some (by kernel_rfl))⟩
    f23:=⟨"slices.choosePivotCmpFunc[voussoir/api.TreeNode]",by decide,func120.trans (congrArg some (by kernel_rfl))⟩
    f24:=⟨"slices.reverseRangeCmpFunc[voussoir/api.TreeNode]",by decide,func121.trans (congrArg some (by kernel_rfl))⟩
    f25:=⟨"slices.partialInsertionSortCmpFunc[voussoir/api.TreeNode]",by decide,func122.trans (congrArg some (by kernel_rfl))⟩
    f26:=⟨"slices.partitionEqualCmpFunc[voussoir/api.TreeNode]",by decide,func123.trans (congrArg some (by kernel_rfl))⟩
    f27:=⟨"slices.partitionCmpFunc[voussoir/api.TreeNode]",by decide,func124.trans (congrArg some (by kernel_rfl))⟩
    f28:=func125.trans (congrArg some (by kernel_rfl))
    f29:=func126.trans (congrArg some (by kernel_rfl))
    f46:=⟨"slices.siftDownCmpFunc[voussoir/api.TreeNode]",by decide,func149.trans (congrArg some (by kernel_rfl))⟩
    f47:=func150.trans (congrArg some (by kernel_rfl))
    f48:=func151.trans (congrArg some (by kernel_rfl))
    f49:=⟨"slices.medianAdjacentCmpFunc[voussoir/api.TreeNode]",by decide,func152.trans (congrArg some (by kernel_rfl))⟩
    f50:=⟨"slices.medianCmpFunc[voussoir/api.TreeNode]",by decide,func153.trans (congrArg some (by kernel_rfl))⟩
    f57:=⟨"slices.order2CmpFunc[voussoir/api.TreeNode]",by decide,func165.trans (congrArg some (by kernel_rfl))⟩
    t0:=Tryz.underlying0
    a0:=Tryz.isAgg0
    z0:=Tryz.sizeOf0
    v0:=Tryz.zeroValue0
    t3:=Tryz.underlying3
    a3:=Tryz.isAgg3
    z3:=Tryz.sizeOf3
    v3:=Tryz.zeroValue3
    t4:=Tryz.underlying4
    a4:=Tryz.isAgg4
    z4:=Tryz.sizeOf4
    v4:=Tryz.zeroValue4
    t5:=Tryz.underlying5
    a5:=Tryz.isAgg5
    z5:=Tryz.sizeOf5
    v5:=Tryz.zeroValue5
    t9:=Tryz.underlying9
    a9:=Tryz.isAgg9
    z9:=Tryz.sizeOf9
    v9:=Tryz.zeroValue9
    t22:=Tryz.underlying22
    a22:=Tryz.isAgg22
    z22:=Tryz.sizeOf22
    v22:=Tryz.zeroValue22
    t25:=Tryz.underlying72
    a25:=Tryz.isAgg72
    z25:=Tryz.sizeOf72
    v25:=Tryz.zeroValue72
    t39:=Tryz.underlying105
    a39:=Tryz.isAgg105
    z39:=Tryz.sizeOf105
    v39:=Tryz.zeroValue105
    t45:=Tryz.underlying127
    a45:=Tryz.isAgg127
    z45:=Tryz.sizeOf127
    v45:=Tryz.zeroValue127
    t46:=Tryz.underlying128
    a46:=Tryz.isAgg128
    z46:=Tryz.sizeOf128
    v46:=Tryz.zeroValue128
    t50:=Tryz.underlying132
    a50:=Tryz.isAgg132
    z50:=Tryz.sizeOf132
    v50:=Tryz.zeroValue132
    t53:=Tryz.underlying114
    a53:=Tryz.isAgg114
    z53:=Tryz.sizeOf114
    v53:=Tryz.zeroValue114
    t55:=Tryz.underlying95
    a55:=Tryz.isAgg95
    z55:=Tryz.sizeOf95
    v55:=Tryz.zeroValue95
    t66:=Tryz.underlying147
    a66:=Tryz.isAgg147
    z66:=Tryz.sizeOf147
    v66:=Tryz.zeroValue147
    t70:=Tryz.underlying151
    a70:=Tryz.isAgg151
    z70:=Tryz.sizeOf151
    v70:=Tryz.zeroValue151
    t76:=Tryz.underlying163
    a76:=Tryz.isAgg163
    z76:=Tryz.sizeOf163
    v76:=Tryz.zeroValue163
    t77:=Tryz.underlying164
    a77:=Tryz.isAgg164
    z77:=Tryz.sizeOf164
    v77:=Tryz.zeroValue164 }
end Go.Aw.Try
namespace Go.Aw
open Go Go.Proofs Go.Sort
section
variable {P:Program} {G:Gl} {α:Type} [Inhabited α] (enc:α→List Value) (k:Nat)
theorem row_holdsK (hk0:0<k) (hk:∀ x,(enc x).length=k) {ρ:Nat→Option Nat} {H:List O} {w:World} {r:Nat} {ss:List α} (hH:HRel P ρ H w) (hr:H[r]? = some (.row k (ss.map fun x=>(enc x).map D.v))) {v:Value} (hv:VRel P (ctx ρ H w) (.c (.os r k 0 ss.length)) v) (h0:ss≠[]) :
  ∃ b c e cap,ρ r=some b∧w.heap[b]? = some (.cells c e (0,0))∧ss.length*k≤c.size∧v = .slice (some ⟨b,0,none⟩) ss.length cap∧b<w.heap.size∧HoldsK enc k w b 0 ss.toArray:=by
 have hp:0<ss.length:=List.length_pos_iff.2 h0
 obtain ⟨_,h | ⟨b,cap,e,n,h1,h2,h3,h4,h5⟩⟩:=hv
 ·omega
 have ho:=(hH.objs r _ hr).2
 rcases ho with ⟨_,q⟩ | ⟨a,c,e',q1,q2,q3⟩
 ·exact absurd (List.map_eq_nil_iff.1 q) h0
 have q1:ρ r=some a:=q1
 have h1:ρ r=some b:=h1
 rw [h1] at q1
 injection q1 with q1
 subst q1
 have hlen:ss.length*k≤c.size:=by have:=q3.1; rw [List.length_map] at this; omega
 refine ⟨b,c,e',cap,h1,q2,hlen,by simpa using h2,(hH.small r b h1).2,fun j hj=>?_⟩
 rw [Go.Sort.size_flatK] at hj
 have hj:j<ss.length*k:=hj
 have hw:w.heap[b]? = some (.cells c e' (0,0)):=q2
 have hi:j / k<ss.length:=(Nat.div_lt_iff_lt_mul hk0).2 hj
 have hm:j % k<k:=Nat.mod_lt _ hk0
 have e0:ss.toArray[j / k]! = ss[j / k]'hi:=by rw [getElem!_pos ss.toArray (j / k) (by simpa using hi)]; simp
 have hx:(ss.map fun x=>(enc x).map D.v)[j / k]? = some ((enc (ss[j / k]'hi)).map D.v):=by simp [hi]
 have hy:((enc (ss[j / k]'hi)).map D.v)[j % k]? = some (.v (enc (ss[j / k]'hi))[j % k]!):=by
  rw [List.getElem?_map,List.getElem?_eq_getElem (by rw [hk]; exact hm),getElem!_pos _ _ (by rw [hk]; exact hm)]; rfl
 obtain ⟨u,hu,hd⟩:=q3.2.2 _ _ _ _ hx hy
 have hu2:=drel_v hd
 refine ⟨?_,by simp [World.frozen?,hw]⟩
 have e1:w.cell? ⟨b,0+j,none⟩=c[j]? := by simp [World.cell?,hw]
 rw [e1,get_flatK enc k _ j hj,e0]
 rw [Nat.div_add_mod' j k,hu2] at hu
 exact hu
theorem flat_get (hk0:0<k) (hk:∀ x,(enc x).length=k) (ts:List α) (c:Array Value) (hc:ts.length*k≤c.size) {i j:Nat} {x:α} {d:Value} (hi:ts[i]? = some x) (hj:(enc x)[j]? = some d) :
  (putCells id 0 (Go.Sort.flatK enc k ts.toArray) c)[i*k+j]? = some d:=by
 have h1:i<ts.length:=lt_of_get hi
 have h2:j<k:=by have:=lt_of_get hj; rwa [hk] at this
 have h3:i*k+j<ts.length*k:=by
  have:(i+1)*k≤ts.length*k:=Nat.mul_le_mul_right k h1
  rw [Nat.add_mul,Nat.one_mul] at this
  omega
 simp only [putCells,Array.getElem?_mapIdx]
 rw [Array.getElem?_eq_getElem (by omega),Option.map_some]
 rw [if_pos ⟨by omega,by simp; exact h3⟩]
 rw [Nat.sub_zero,get_flatK enc k _ _ (by simpa using h3)]
 have e1:(i*k+j) / k=i:=by rw [Nat.mul_comm,Nat.mul_add_div hk0,Nat.div_eq_of_lt h2,Nat.add_zero]
 have e2:(i*k+j) % k=j:=by rw [Nat.mul_comm,Nat.mul_add_mod,Nat.mod_eq_of_lt h2]
 rw [e1,e2]
 have e3:ts.toArray[i]! = x:=by
  rw [getElem!_pos ts.toArray i (by simpa using h1)]
  simp
  rw [List.getElem?_eq_getElem h1] at hi
  injection hi
 rw [e3]
 rw [List.getElem!_eq_getElem?_getD,hj]
 rfl
theorem row_putK (hk0:0<k) (hk:∀ x,(enc x).length=k) (h1c:∀ x,∀ v∈enc x,v.oneCell'=true) {ρ:Nat→Option Nat} {H:List O} {w:World} {r b:Nat} {c:Array Value} {e:TypeId} {ss ts:List α} (hH:HRel P ρ H w) (hr:H[r]? = some (.row k (ss.map fun x=>(enc x).map D.v))) (hρ:ρ r=some b)
  (hb:w.heap[b]? = some (.cells c e (0,0))) (hc:ts.length*k≤c.size) (n:Nat) (os:Array Obj) :
  HRel P ρ (H.set r (.row k (ts.map fun x=>(enc x).map D.v))) (sortWorldK enc k w b 0 n ts.toArray os) ∧
   (ctx ρ H w).le (ctx ρ (H.set r (.row k (ts.map fun x=>(enc x).map D.v))) (sortWorldK enc k w b 0 n ts.toArray os)):=by
 have hlt:b<w.heap.size:=(hH.small r b hρ).2
 have hpz:(putCells id 0 (Go.Sort.flatK enc k ts.toArray) c).size=c.size:=by simp [putCells]
 have hsh:Obj.shape (.cells (putCells id 0 (Go.Sort.flatK enc k ts.toArray) c) e (0,0))=Obj.shape (.cells c e (0,0)):=by simp [Obj.shape,hpz]
 have le1:=HRel.le_setB (ρ:=ρ) (H:=H) hr rfl hρ hb hsh (.row k (ts.map fun x=>(enc x).map D.v)) rfl
 have h1:HRel P ρ (H.set r (.row k (ts.map fun x=>(enc x).map D.v))) (setB w b (.cells (putCells id 0 (Go.Sort.flatK enc k ts.toArray) c) e (0,0))):=by
  refine hH.setB hr rfl hρ hb hsh (.row k (ts.map fun x=>(enc x).map D.v)) rfl ⟨hk0,.inr ⟨b,_,e,rfl,setB_same _ _ _ hlt,?_,?_,?_⟩⟩
  ·rw [hpz,List.length_map]; omega
  ·intro x hx; obtain ⟨s,_,rfl⟩:=List.mem_map.1 hx; rw [List.length_map]; exact hk s
  ·intro i x j d hi hj
   rw [List.getElem?_map] at hi
   cases hs:ts[i]? with
   | none=>rw [hs] at hi; cases hi
   | some s =>
    rw [hs] at hi
    injection hi with hi
    subst hi
    rw [List.getElem?_map] at hj
    cases hs2:(enc s)[j]? with
    | none=>rw [hs2] at hj; cases hj
    | some u =>
     rw [hs2] at hj
     injection hj with hj
     subst hj
     exact ⟨u,flat_get enc k hk0 hk ts c hc hs hs2,DRel.v _ (h1c s u (List.mem_of_getElem? hs2))⟩
 have hheap:(putRow id (Sort.ahead w n) b 0 (Go.Sort.flatK enc k ts.toArray)).heap=(setB w b (.cells (putCells id 0 (Go.Sort.flatK enc k ts.toArray) c) e (0,0))).heap:=by
  show w.heap.modify b (onCells _)=w.heap.setIfInBounds b _
  apply Array.ext_getElem?
  intro i
  rw [Array.getElem?_modify]
  by_cases q:b=i
  ·subst q
   rw [if_pos rfl,hb,Array.getElem?_setIfInBounds_self_of_lt hlt]
   rfl
  ·rw [if_neg q,Array.getElem?_setIfInBounds_ne q]
 have hs:Step (allB (setB w b (.cells (putCells id 0 (Go.Sort.flatK enc k ts.toArray) c) e (0,0)))) (setB w b (.cells (putCells id 0 (Go.Sort.flatK enc k ts.toArray) c) e (0,0))) (allB (grow (putRow id (Sort.ahead w n) b 0 (Go.Sort.flatK enc k ts.toArray)) os)) (grow (putRow id (Sort.ahead w n) b 0 (Go.Sort.flatK enc k ts.toArray)) os):=by
  have key:∀ i,i<(setB w b (.cells (putCells id 0 (Go.Sort.flatK enc k ts.toArray) c) e (0,0))).heap.size→(grow (putRow id (Sort.ahead w n) b 0 (Go.Sort.flatK enc k ts.toArray)) os).heap[i]? = (setB w b (.cells (putCells id 0 (Go.Sort.flatK enc k ts.toArray) c) e (0,0))).heap[i]? := fun i hi=>by
   rw [heap_grow_old _ _ (by rw [hheap]; exact hi),hheap]
  have hsz:(setB w b (.cells (putCells id 0 (Go.Sort.flatK enc k ts.toArray) c) e (0,0))).heap.size≤(grow (putRow id (Sort.ahead w n) b 0 (Go.Sort.flatK enc k ts.toArray)) os).heap.size:=by
   rw [size_grow,hheap]; omega
  refine ⟨fun i hi=>Nat.lt_of_lt_of_le hi hsz,fun i hi=>key i hi,hsz,fun i e' m hi=>?_,rfl,rfl,rfl⟩
  have hi':i<(setB w b (.cells (putCells id 0 (Go.Sort.flatK enc k ts.toArray) c) e (0,0))).heap.size:=by
   by_cases q:i<(setB w b (.cells (putCells id 0 (Go.Sort.flatK enc k ts.toArray) c) e (0,0))).heap.size
   ·exact q
   ·simp only [World.shape?] at hi
    rw [Array.getElem?_eq_none (by omega)] at hi
    cases hi
  rw [shape_of_block (key i hi')]; exact hi
 obtain ⟨h2,le2⟩:=h1.grow hs
 exact ⟨h2,le1.trans le2⟩
end
end Go.Aw
namespace Go.Aw.Try
open Go Go.Proofs Go.Aw
set_option maxRecDepth 100000
set_option maxHeartbeats 4000000
theorem insF_perm (c:TN→TN→Int) (x:TN):∀ l:List TN,(insF c x l).Perm (x :: l)
 | []=>List.Perm.refl _
 | y :: l=>by
  simp only [insF]
  split
  ·exact List.Perm.refl _
  ·exact ((insF_perm c x l).cons y).trans (List.Perm.swap x y l)
theorem ssort_perm (c:TN→TN→Int):∀ l:List TN,(ssort c l).Perm l
 | []=>List.Perm.refl _
 | x :: l=>(insF_perm c x _).trans ((ssort_perm c l).cons x)
theorem lessZ_eq {a b:Id} (h:lessZ a b=0):a=b:=by
 unfold lessZ at h
 simp only [orI] at h
 have h1:cmpA a.a b.a=0:=by
  by_cases q:cmpA a.a b.a=0
  ·exact q
  ·rw [if_pos q] at h; exact h
 rw [if_neg (by omega)] at h
 have h2:cmpI a.n b.n=0:=by
  by_cases q:cmpI a.n b.n=0
  ·exact q
  ·rw [if_pos q] at h; exact h
 have e1:cmpS a.a b.a=0:=by
  unfold cmpA sg3 at h1
  repeat' split at h1
  all_goals omega
 have e2:a.n=b.n:=by
  unfold cmpI at h2
  repeat' split at h2
  all_goals omega
 exact id_iff.2 ⟨(cmpS_eq _ _).1 e1,e2⟩
theorem cmpN_pre:Pre cmpN':=pre_map lessZ_pre TN.node
theorem sort_strict {l:List TN} (h:(l.map TN.node).Nodup) (hs:Srt cmpN' l):l.Pairwise fun a b=>cmpN' a b<0:=by
 induction l with
 | nil=>exact List.Pairwise.nil
 | cons x l ih =>
  obtain ⟨h1,h2⟩:=List.pairwise_cons.1 hs
  rw [List.map_cons,List.nodup_cons] at h
  refine List.pairwise_cons.2 ⟨fun y hy=>?_,ih h.2 h2⟩
  have:=h1 y hy
  rcases Int.lt_or_eq_of_le this with q | q
  ·exact q
  ·have e:=lessZ_eq (show lessZ x.node y.node=0 from q)
   exact absurd (List.mem_map_of_mem (f:=TN.node) hy) (by rw [← e]; exact h.1)
theorem sort_unique {l l':List TN} (hp:l.Perm l') (h:(l.map TN.node).Nodup):ssort cmpN' l=ssort cmpN' l':=by
 have n1:((ssort cmpN' l).map TN.node).Nodup:=((ssort_perm cmpN' l).map TN.node).nodup_iff.2 h
 have n2:((ssort cmpN' l').map TN.node).Nodup:=((ssort_perm cmpN' l').map TN.node).nodup_iff.2 ((hp.map TN.node).nodup_iff.1 h)
 refine pw_ext (R:=fun a b=>cmpN' a b<0) (fun a b h1 h2=>?_) (fun a h=>?_) (sort_strict n1 (ssort_srt cmpN_pre l)) (sort_strict n2 (ssort_srt cmpN_pre l')) fun x=>?_
 ·have:=cmpN_pre.sgn a b; omega
 ·have:=cmpN_pre.rf a; omega
 ·rw [(ssort_perm cmpN' l).mem_iff,(ssort_perm cmpN' l').mem_iff,hp.mem_iff]
open Go.Sort in
theorem swoN:SWO (ltOf cmpN') where
 irrefl x:=by have:=cmpN_pre.rf x; simp [ltOf]; omega
 trans x y z h1 h2:=by
  simp [ltOf] at *
  have a:=cmpN_pre.tr x y z (by omega) (by omega)
  have b:=cmpN_pre.tr z x y
  have c:=cmpN_pre.sgn x z
  have d:=cmpN_pre.sgn x y
  have e:=cmpN_pre.sgn y z
  omega
 ntrans x y z h1 h2:=by
  simp [ltOf] at *
  have a:=cmpN_pre.tr z y x
  have c:=cmpN_pre.sgn x z
  have d:=cmpN_pre.sgn x y
  have e:=cmpN_pre.sgn y z
  omega
theorem encN_one (t:TN):∀ v∈encN t,v.oneCell'=true:=fun v hv=>by
 simp [encN] at hv
 rcases hv with rfl | rfl | rfl | rfl | rfl | rfl | rfl | rfl <;> rfl
theorem os_zero8 {P:Program} {k:K} {r:Nat} {v:Value} (h:VRel P k (.c (.os r 8 0 0)) v):∃ a cap,v = .slice a 0 cap:=by
 obtain ⟨_,⟨_,p,h⟩ | ⟨b,cap,e,n,_,h,_⟩⟩:=h
 ·exact ⟨_,_,h⟩
 ·exact ⟨_,_,h⟩
theorem kSortF (l:List TN) (hl:l.length<4611686018427387904) (hd:(l.map TN.node).Nodup) (H:List O) (r:Nat) (hr:H[r]? = some (.row 8 (l.map TN.row))) :
  ACalls prog G0 39 [.c (.os r 8 0 l.length),.c (.fn 40 [])] H fun t H'=>t = .tup []∧H'=H.set r (.row 8 ((ssort cmpN' l).map TN.row)):=by
 refine ⟨callable_of func39 (by kernel_rfl) (by decide +kernel),fun ρ w vs hH hG hv=>?_⟩
 obtain ⟨u,v,rfl⟩:=two_args hv.1
 have hu:=hv.2 0 _ u rfl rfl
 obtain ⟨cv,rfl,hcv,_⟩:=hv.2 1 _ v rfl rfl
 have hcv:cv = #[]:=Array.eq_empty_of_size_eq_zero hcv
 subst hcv
 by_cases h0:l=[]
 ·subst h0
  obtain ⟨a,cap,rfl⟩:=os_zero8 hu
  have h:=AnyF.slices_SortFunc_none lyF6 a cap (.func (.func 40) #[] #[]) w
  refine Calls.mono h ?_
  rintro e1 w' ⟨rfl,rfl⟩
  exact ⟨_,_,ρ,H,rfl,⟨rfl,(set_self hr).symm⟩,hH,⟨#[],rfl,rfl,fun i c v h=>by simp at h⟩,.refl _⟩
 ·obtain ⟨b,c,e,cap,q1,q2,q3,q4,q5,q6⟩:=row_holdsK encN 8 (by omega) (fun _=>rfl) hH hr hu h0
  subst q4
  have eg:∀ args w,(callFunc 40 args).run prog w = .ok (.enter 40 args) w:=enters_of func40 (by kernel_rfl) rfl
  have h:=AnyQ.slices_SortFunc lyF6 8 Tryz.isAgg40 Tryz.sizeOf40 encN (fun _=>rfl) encN_one cmpN' swoN 40 #[] b 0 cap l.toArray w eg (cmpLN b 0 _ w) q6 q5 (by simpa using hl)
  refine Calls.mono h ?_
  rintro e1 w' ⟨rfl,d',n,os,hp,hs,rfl⟩
  have hsz:d'.size=l.length:=by simpa using hp.1
  have hperm:d'.toList.Perm l:=by
   have h1:=hp.2.2
   simp only [List.size_toArray] at h1
   rw [← hsz,Array.extract_size] at h1
   rw [hsz] at h1
   have e2:l.toArray.extract 0 l.length=l.toArray:=by rw [← List.size_toArray,Array.extract_size]
   rw [e2] at h1
   exact h1
  have hsrt:Srt cmpN' d'.toList:=by
   unfold Srt
   rw [List.pairwise_iff_getElem]
   intro i j hi hj hij
   have:=hs i j (Nat.zero_le _) hij (by simpa [hsz] using hj)
   simp at hi hj
   rw [getElem!_pos d' i hi,getElem!_pos d' j hj] at this
   have h2:=cmpN_pre.sgn d'[j] d'[i]
   simp [Go.Proofs.ltOf] at this
   simp
   omega
  have hts:d'.toList=ssort cmpN' l:=by
   have e1:=sort_unique hperm ((hperm.map TN.node).nodup_iff.2 hd)
   rw [← e1]
   have nd:=(hperm.map TN.node).nodup_iff.2 hd
   have n1:((ssort cmpN' d'.toList).map TN.node).Nodup:=((ssort_perm cmpN' _).map TN.node).nodup_iff.2 nd
   refine pw_ext (R:=fun a b=>cmpN' a b<0) (fun a b h1 h2=>?_) (fun a h=>?_) (sort_strict nd hsrt) (sort_strict n1 (ssort_srt cmpN_pre _)) fun x=>?_
   ·have:=cmpN_pre.sgn a b; omega
   ·have:=cmpN_pre.rf a; omega
   ·rw [(ssort_perm cmpN' _).mem_iff]
  obtain ⟨ts,hd'⟩:∃ ts,d'=List.toArray ts:=⟨d'.toList,by simp⟩
  subst hd'
  have hts:ts=ssort cmpN' l:=by simpa using hts
  obtain ⟨g1,g2⟩:=row_putK encN 8 (by omega) (fun _=>rfl) encN_one hH hr q1 q2 (ts:=ts) (by simp at hsz; omega) n os
  rw [hts] at g1 g2 ⊢
  exact ⟨_,_,ρ,_,rfl,⟨rfl,rfl⟩,g1,⟨#[],rfl,rfl,fun i c v h=>by simp at h⟩,g2⟩
end Go.Aw.Try
