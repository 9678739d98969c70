/- An abstract machine over the model, and contracts of functions of this program on it (part 5): words and lemmas for the proof in the last text. -/
import Derived.Shelf.SlSortCmp.WholeK
import Derived.Shelf.SlSortCmp.NoneTotal
import Derived.WalkKit
import Derived.ProofKit
import Derived.OpenShut
import Derived.JoinedCond
import Derived.Carry
import Derived.Test.YtbehhclclhfhkaaGreatDoorCards
import Derived.Test.YtbehhclclhfhkaaGreatDoorTie
import Derived.Deep.DeepHandedRow
import Derived.Shelf.Vars
import Derived.MakeChecks
import Derived.Test.YtbehhclclhfhkaaGreatDoorBD
set_option linter.unusedVariables false
set_option linter.unusedSimpArgs false
set_option linter.unusedSectionVars false
noncomputable section
open Go.Proofs.Tryz

namespace Go.Aw
open Go Go.Proofs Go.Sort
section
variable {P:Program} {G:Gl} {α:Type} [Inhabited α] (enc:α→List Value) (k:Nat)
theorem row_holdsK (hk0:0<k) (hk:∀ x,(enc x).length=k) {ρ:Nat→Option Nat} {H:List O} {w:World} {r:Nat} {ss:List α} (hH:HRel P ρ H w) (hr:H[r]? = some (.row k (ss.map fun x=>(enc x).map D.v))) {v:Value} (hv:VRel P (ctx ρ H w) (.c (.os r k 0 ss.length)) v) (h0:ss≠[]) :
  ∃ b c e cap,ρ r=some b∧w.heap[b]? = some (.cells c e (0,0))∧ss.length*k≤c.size∧v = .slice (some ⟨b,0,none⟩) ss.length cap∧b<w.heap.size∧HoldsK enc k w b 0 ss.toArray:=by
 have hp:0<ss.length:=List.length_pos_iff.2 h0
 obtain ⟨_,h | ⟨b,cap,e,n,h1,h2,h3,h4,h5⟩⟩:=hv
 ·omega
 have ho:=(hH.objs r _ hr).2
 rcases ho with ⟨_,q⟩ | ⟨a,c,e',q1,q2,q3⟩
 ·exact absurd (List.map_eq_nil_iff.1 q) h0
 have q1:ρ r=some a:=q1
 have h1:ρ r=some b:=h1
 rw [h1] at q1
 injection q1 with q1
 subst q1
 have hlen:ss.length*k≤c.size:=by have:=q3.1; rw [List.length_map] at this; omega
 refine ⟨b,c,e',cap,h1,q2,hlen,by simpa using h2,(hH.small r b h1).2,fun j hj=>?_⟩
 rw [Go.Sort.size_flatK] at hj
 have hj:j<ss.length*k:=hj
 have hw:w.heap[b]? = some (.cells c e' (0,0)):=q2
 have hi:j / k<ss.length:=(Nat.div_lt_iff_lt_mul hk0).2 hj
 have hm:j % k<k:=Nat.mod_lt _ hk0
 have e0:ss.toArray[j / k]! = ss[j / k]'hi:=by rw [getElem!_pos ss.toArray (j / k) (by simpa using hi)]; simp
 have hx:(ss.map fun x=>(enc x).map D.v)[j / k]? = some ((enc (ss[j / k]'hi)).map D.v):=by simp [hi]
 have hy:((enc (ss[j / k]'hi)).map D.v)[j % k]? = some (.v (enc (ss[j / k]'hi))[j % k]!):=by
  rw [List.getElem?_map,List.getElem?_eq_getElem (by rw [hk]; exact hm),getElem!_pos _ _ (by rw [hk]; exact hm)]; rfl
 obtain ⟨u,hu,hd⟩:=q3.2.2 _ _ _ _ hx hy
 have hu2:=drel_v hd
 refine ⟨?_,by simp [World.frozen?,hw]⟩
 have e1:w.cell? ⟨b,0+j,none⟩=c[j]? := by simp [World.cell?,hw]
 rw [e1,get_flatK enc k _ j hj,e0]
 rw [Nat.div_add_mod' j k,hu2] at hu
 exact hu
theorem flat_get (hk0:0<k) (hk:∀ x,(enc x).length=k) (ts:List α) (c:Array Value) (hc:ts.length*k≤c.size) {i j:Nat} {x:α} {d:Value} (hi:ts[i]? = some x) (hj:(enc x)[j]? = some d) :
  (putCells id 0 (Go.Sort.flatK enc k ts.toArray) c)[i*k+j]? = some d:=by
 have h1:i<ts.length:=lt_of_get hi
 have h2:j<k:=by have:=lt_of_get hj; rwa [hk] at this
 have h3:i*k+j<ts.length*k:=by
  have:(i+1)*k≤ts.length*k:=Nat.mul_le_mul_right k h1
  rw [Nat.add_mul,Nat.one_mul] at this
  omega
 simp only [putCells,Array.getElem?_mapIdx]
 rw [Array.getElem?_eq_getElem (by omega),Option.map_some]
 rw [if_pos ⟨by omega,by simp; exact h3⟩]
 rw [Nat.sub_zero,get_flatK enc k _ _ (by simpa using h3)]
 have e1:(i*k+j) / k=i:=by rw [Nat.mul_comm,Nat.mul_add_div hk0,Nat.div_eq_of_lt h2,Nat.add_zero]
 have e2:(i*k+j) % k=j:=by rw [Nat.mul_comm,Nat.mul_add_mod,Nat.mod_eq_of_lt h2]
 rw [e1,e2]
 have e3:ts.toArray[i]! = x:=by
  rw [getElem!_pos ts.toArray i (by simpa using h1)]
  simp
  rw [List.getElem?_eq_getElem h1] at hi
  injection hi
 rw [e3]
 rw [List.getElem!_eq_getElem?_getD,hj]
 rfl
theorem row_putK (hk0:0<k) (hk:∀ x,(enc x).length=k) (h1c:∀ x,∀ v∈enc x,v.oneCell'=true) {ρ:Nat→Option Nat} {H:List O} {w:World} {r b:Nat} {c:Array Value} {e:TypeId} {ss ts:List α} (hH:HRel P ρ H w) (hr:H[r]? = some (.row k (ss.map fun x=>(enc x).map D.v))) (hρ:ρ r=some b)
  (hb:w.heap[b]? = some (.cells c e (0,0))) (hc:ts.length*k≤c.size) (n:Nat) (os:Array Obj) :
  HRel P ρ (H.set r (.row k (ts.map fun x=>(enc x).map D.v))) (sortWorldK enc k w b 0 n ts.toArray os) ∧
   (ctx ρ H w).le (ctx ρ (H.set r (.row k (ts.map fun x=>(enc x).map D.v))) (sortWorldK enc k w b 0 n ts.toArray os)):=by
 have hlt:b<w.heap.size:=(hH.small r b hρ).2
 have hpz:(putCells id 0 (Go.Sort.flatK enc k ts.toArray) c).size=c.size:=by simp [putCells]
 have hsh:Obj.shape (.cells (putCells id 0 (Go.Sort.flatK enc k ts.toArray) c) e (0,0))=Obj.shape (.cells c e (0,0)):=by simp [Obj.shape,hpz]
 have le1:=HRel.le_setB (ρ:=ρ) (H:=H) hr rfl hρ hb hsh (.row k (ts.map fun x=>(enc x).map D.v)) rfl
 have h1:HRel P ρ (H.set r (.row k (ts.map fun x=>(enc x).map D.v))) (setB w b (.cells (putCells id 0 (Go.Sort.flatK enc k ts.toArray) c) e (0,0))):=by
  refine hH.setB hr rfl hρ hb hsh (.row k (ts.map fun x=>(enc x).map D.v)) rfl ⟨hk0,.inr ⟨b,_,e,rfl,setB_same _ _ _ hlt,?_,?_,?_⟩⟩
  ·rw [hpz,List.length_map]; omega
  ·intro x hx; obtain ⟨s,_,rfl⟩:=List.mem_map.1 hx; rw [List.length_map]; exact hk s
  ·intro i x j d hi hj
   rw [List.getElem?_map] at hi
   cases hs:ts[i]? with
   | none=>rw [hs] at hi; cases hi
   | some s =>
    rw [hs] at hi
    injection hi with hi
    subst hi
    rw [List.getElem?_map] at hj
    cases hs2:(enc s)[j]? with
    | none=>rw [hs2] at hj; cases hj
    | some u =>
     rw [hs2] at hj
     injection hj with hj
     subst hj
     exact ⟨u,flat_get enc k hk0 hk ts c hc hs hs2,DRel.v _ (h1c s u (List.mem_of_getElem? hs2))⟩
 have hheap:(putRow id (Sort.ahead w n) b 0 (Go.Sort.flatK enc k ts.toArray)).heap=(setB w b (.cells (putCells id 0 (Go.Sort.flatK enc k ts.toArray) c) e (0,0))).heap:=by
  show w.heap.modify b (onCells _)=w.heap.setIfInBounds b _
  apply Array.ext_getElem?
  intro i
  rw [Array.getElem?_modify]
  by_cases q:b=i
  ·subst q
   rw [if_pos rfl,hb,Array.getElem?_setIfInBounds_self_of_lt hlt]
   rfl
  ·rw [if_neg q,Array.getElem?_setIfInBounds_ne q]
 have hs:Step (allB (setB w b (.cells (putCells id 0 (Go.Sort.flatK enc k ts.toArray) c) e (0,0)))) (setB w b (.cells (putCells id 0 (Go.Sort.flatK enc k ts.toArray) c) e (0,0))) (allB (grow (putRow id (Sort.ahead w n) b 0 (Go.Sort.flatK enc k ts.toArray)) os)) (grow (putRow id (Sort.ahead w n) b 0 (Go.Sort.flatK enc k ts.toArray)) os):=by
  have key:∀ i,i<(setB w b (.cells (putCells id 0 (Go.Sort.flatK enc k ts.toArray) c) e (0,0))).heap.size→(grow (putRow id (Sort.ahead w n) b 0 (Go.Sort.flatK enc k ts.toArray)) os).heap[i]? = (setB w b (.cells (putCells id 0 (Go.Sort.flatK enc k ts.toArray) c) e (0,0))).heap[i]? := fun i hi=>by
   rw [heap_grow_old _ _ (by rw [hheap]; exact hi),hheap]
  have hsz:(setB w b (.cells (putCells id 0 (Go.Sort.flatK enc k ts.toArray) c) e (0,0))).heap.size≤(grow (putRow id (Sort.ahead w n) b 0 (Go.Sort.flatK enc k ts.toArray)) os).heap.size:=by
   rw [size_grow,hheap]; omega
  refine ⟨fun i hi=>Nat.lt_of_lt_of_le hi hsz,fun i hi=>key i hi,hsz,fun i e' m hi=>?_,rfl,rfl,rfl⟩
  have hi':i<(setB w b (.cells (putCells id 0 (Go.Sort.flatK enc k ts.toArray) c) e (0,0))).heap.size:=by
   by_cases q:i<(setB w b (.cells (putCells id 0 (Go.Sort.flatK enc k ts.toArray) c) e (0,0))).heap.size
   ·exact q
   ·simp only [World.shape?] at hi
    rw [Array.getElem?_eq_none (by omega)] at hi
    cases hi
  rw [shape_of_block (key i hi')]; exact hi
 obtain ⟨h2,le2⟩:=h1.grow hs
 exact ⟨h2,le1.trans le2⟩
end
end Go.Aw
namespace Go.Aw.Try
open Go Go.Proofs Go.Aw
set_option maxRecDepth 100000
set_option maxHeartbeats 4000000
theorem insF_perm (c:TN→TN→Int) (x:TN):∀ l:List TN,(insF c x l).Perm (x :: l)
 | []=>List.Perm.refl _
 | y :: l=>by
  simp only [insF]
  split
  ·exact List.Perm.refl _
  ·exact ((insF_perm c x l).cons y).trans (List.Perm.swap x y l)
theorem ssort_perm (c:TN→TN→Int):∀ l:List TN,(ssort c l).Perm l
 | []=>List.Perm.refl _
 | x :: l=>(insF_perm c x _).trans ((ssort_perm c l).cons x)
theorem lessZ_eq {a b:Id} (h:lessZ a b=0):a=b:=by
 unfold lessZ at h
 simp only [orI] at h
 have h1:cmpA a.a b.a=0:=by
  by_cases q:cmpA a.a b.a=0
  ·exact q
  ·rw [if_pos q] at h; exact h
 rw [if_neg (by omega)] at h
 have h2:cmpI a.n b.n=0:=by
  by_cases q:cmpI a.n b.n=0
  ·exact q
  ·rw [if_pos q] at h; exact h
 have e1:cmpS a.a b.a=0:=by
  unfold cmpA sg3 at h1
  repeat' split at h1
  all_goals omega
 have e2:a.n=b.n:=by
  unfold cmpI at h2
  repeat' split at h2
  all_goals omega
 exact id_iff.2 ⟨(cmpS_eq _ _).1 e1,e2⟩
theorem cmpN_pre:Pre cmpN':=pre_map lessZ_pre TN.node
theorem sort_strict {l:List TN} (h:(l.map TN.node).Nodup) (hs:Srt cmpN' l):l.Pairwise fun a b=>cmpN' a b<0:=by
 induction l with
 | nil=>exact List.Pairwise.nil
 | cons x l ih =>
  obtain ⟨h1,h2⟩:=List.pairwise_cons.1 hs
  rw [List.map_cons,List.nodup_cons] at h
  refine List.pairwise_cons.2 ⟨fun y hy=>?_,ih h.2 h2⟩
  have:=h1 y hy
  rcases Int.lt_or_eq_of_le this with q | q
  ·exact q
  ·have e:=lessZ_eq (show lessZ x.node y.node=0 from q)
   exact absurd (List.mem_map_of_mem (f:=TN.node) hy) (by rw [← e]; exact h.1)
theorem sort_unique {l l':List TN} (hp:l.Perm l') (h:(l.map TN.node).Nodup):ssort cmpN' l=ssort cmpN' l':=by
 have n1:((ssort cmpN' l).map TN.node).Nodup:=((ssort_perm cmpN' l).map TN.node).nodup_iff.2 h
 have n2:((ssort cmpN' l').map TN.node).Nodup:=((ssort_perm cmpN' l').map TN.node).nodup_iff.2 ((hp.map TN.node).nodup_iff.1 h)
 refine pw_ext (R:=fun a b=>cmpN' a b<0) (fun a b h1 h2=>?_) (fun a h=>?_) (sort_strict n1 (ssort_srt cmpN_pre l)) (sort_strict n2 (ssort_srt cmpN_pre l')) fun x=>?_
 ·have:=cmpN_pre.sgn a b; omega
 ·have:=cmpN_pre.rf a; omega
 ·rw [(ssort_perm cmpN' l).mem_iff,(ssort_perm cmpN' l').mem_iff,hp.mem_iff]
open Go.Sort in
theorem swoN:SWO (ltOf cmpN') where
 irrefl x:=by have:=cmpN_pre.rf x; simp [ltOf]; omega
 trans x y z h1 h2:=by
  simp [ltOf] at *
  have a:=cmpN_pre.tr x y z (by omega) (by omega)
  have b:=cmpN_pre.tr z x y
  have c:=cmpN_pre.sgn x z
  have d:=cmpN_pre.sgn x y
  have e:=cmpN_pre.sgn y z
  omega
 ntrans x y z h1 h2:=by
  simp [ltOf] at *
  have a:=cmpN_pre.tr z y x
  have c:=cmpN_pre.sgn x z
  have d:=cmpN_pre.sgn x y
  have e:=cmpN_pre.sgn y z
  omega
theorem encN_one (t:TN):∀ v∈encN t,v.oneCell'=true:=fun v hv=>by
 simp [encN] at hv
 rcases hv with rfl | rfl | rfl | rfl | rfl | rfl | rfl | rfl <;> rfl
theorem os_zero8 {P:Program} {k:K} {r:Nat} {v:Value} (h:VRel P k (.c (.os r 8 0 0)) v):∃ a cap,v = .slice a 0 cap:=by
 obtain ⟨_,⟨_,p,h⟩ | ⟨b,cap,e,n,_,h,_⟩⟩:=h
 ·exact ⟨_,_,h⟩
 ·exact ⟨_,_,h⟩
theorem kSortF (l:List TN) (hl:l.length<4611686018427387904) (hd:(l.map TN.node).Nodup) (H:List O) (r:Nat) (hr:H[r]? = some (.row 8 (l.map TN.row))) :
  ACalls prog G0 39 [.c (.os r 8 0 l.length),.c (.fn 40 [])] H fun t H'=>t = .tup []∧H'=H.set r (.row 8 ((ssort cmpN' l).map TN.row)):=by
 refine ⟨callable_of func39 (by kernel_rfl) (by decide +kernel),fun ρ w vs hH hG hv=>?_⟩
 obtain ⟨u,v,rfl⟩:=two_args hv.1
 have hu:=hv.2 0 _ u rfl rfl
 obtain ⟨cv,rfl,hcv,_⟩:=hv.2 1 _ v rfl rfl
 have hcv:cv = #[]:=Array.eq_empty_of_size_eq_zero hcv
 subst hcv
 by_cases h0:l=[]
 ·subst h0
  obtain ⟨a,cap,rfl⟩:=os_zero8 hu
  have h:=AnyF.slices_SortFunc_none lyF6 a cap (.func (.func 40) #[] #[]) w
  refine Calls.mono h ?_
  rintro e1 w' ⟨rfl,rfl⟩
  exact ⟨_,_,ρ,H,rfl,⟨rfl,(set_self hr).symm⟩,hH,⟨#[],rfl,rfl,fun i c v h=>by simp at h⟩,.refl _⟩
 ·obtain ⟨b,c,e,cap,q1,q2,q3,q4,q5,q6⟩:=row_holdsK encN 8 (by omega) (fun _=>rfl) hH hr hu h0
  subst q4
  have eg:∀ args w,(callFunc 40 args).run prog w = .ok (.enter 40 args) w:=enters_of func40 (by kernel_rfl) rfl
  have h:=AnyQ.slices_SortFunc lyF6 8 Tryz.isAgg40 Tryz.sizeOf40 encN (fun _=>rfl) encN_one cmpN' swoN 40 #[] b 0 cap l.toArray w eg (cmpLN b 0 _ w) q6 q5 (by simpa using hl)
  refine Calls.mono h ?_
  rintro e1 w' ⟨rfl,d',n,os,hp,hs,rfl⟩
  have hsz:d'.size=l.length:=by simpa using hp.1
  have hperm:d'.toList.Perm l:=by
   have h1:=hp.2.2
   simp only [List.size_toArray] at h1
   rw [← hsz,Array.extract_size] at h1
   rw [hsz] at h1
   have e2:l.toArray.extract 0 l.length=l.toArray:=by rw [← List.size_toArray,Array.extract_size]
   rw [e2] at h1
   exact h1
  have hsrt:Srt cmpN' d'.toList:=by
   unfold Srt
   rw [List.pairwise_iff_getElem]
   intro i j hi hj hij
   have:=hs i j (Nat.zero_le _) hij (by simpa [hsz] using hj)
   simp at hi hj
   rw [getElem!_pos d' i hi,getElem!_pos d' j hj] at this
   have h2:=cmpN_pre.sgn d'[j] d'[i]
   simp [Go.Proofs.ltOf] at this
   simp
   omega
  have hts:d'.toList=ssort cmpN' l:=by
   have e1:=sort_unique hperm ((hperm.map TN.node).nodup_iff.2 hd)
   rw [← e1]
   have nd:=(hperm.map TN.node).nodup_iff.2 hd
   have n1:((ssort cmpN' d'.toList).map TN.node).Nodup:=((ssort_perm cmpN' _).map TN.node).nodup_iff.2 nd
   refine pw_ext (R:=fun a b=>cmpN' a b<0) (fun a b h1 h2=>?_) (fun a h=>?_) (sort_strict nd hsrt) (sort_strict n1 (ssort_srt cmpN_pre _)) fun x=>?_
   ·have:=cmpN_pre.sgn a b; omega
   ·have:=cmpN_pre.rf a; omega
   ·rw [(ssort_perm cmpN' _).mem_iff]
  obtain ⟨ts,hd'⟩:∃ ts,d'=List.toArray ts:=⟨d'.toList,by simp⟩
  subst hd'
  have hts:ts=ssort cmpN' l:=by simpa using hts
  obtain ⟨g1,g2⟩:=row_putK encN 8 (by omega) (fun _=>rfl) encN_one hH hr q1 q2 (ts:=ts) (by simp at hsz; omega) n os
  rw [hts] at g1 g2 ⊢
  exact ⟨_,_,ρ,_,rfl,⟨rfl,rfl⟩,g1,⟨#[],rfl,rfl,fun i c v h=>by simp at h⟩,g2⟩
abbrev Spots:=List (Id×TN)
def addM (l:List TN):Spots:=l.foldl (fun m t=>aput m t.node t) []
def parB (m:Spots) (e:Edit):Bool:=(alook m e.parent).isSome || decide (e.parent=rootI)
def stepM (m:Spots) (e:Edit):Spots :=
 if e.kind=1 then (if (alook m e.id).isNone && parB m e then aput m e.id ⟨e.id,e.parent,plc e,e.value⟩ else m)
 else if e.kind=2 then (match alook m e.node with
  | some s=>if (parB m e || decide (e.parent=binI0)) && !undF m e.parent e.node then aput m e.node ⟨s.node,e.parent,plc e,s.kind⟩ else m
  | none=>m)
 else m
def runM (m:Spots) (es:List Edit):Spots:=es.foldl stepM m
def appF (l:List TN) (es:List Edit):List TN:=ssort cmpN' ((runM (addM l) es).map Prod.snd)
structure OkM (m:Spots):Prop where
 key:∀ p∈m,p.2.node=p.1
 nd:(m.map Prod.fst).Nodup
theorem aput_keys {m:Spots} {x:Id} {t:TN}:(aput m x t).map Prod.fst=if x∈m.map Prod.fst then m.map Prod.fst else m.map Prod.fst ++ [x]:=by
 induction m with
 | nil=>simp [aput]
 | cons p m ih =>
  obtain ⟨k,v⟩:=p
  simp only [aput]
  by_cases h:k=x
  ·subst h; simp
  ·rw [if_neg h,List.map_cons,ih]
   have hx:¬ x=k:=fun q=>h q.symm
   simp only [List.map_cons,List.mem_cons,hx,false_or]
   split <;> simp
theorem aput_mem {m:Spots} {x:Id} {t:TN} {p:Id×TN} (h:p∈aput m x t):p=(x,t)∨p∈m:=by
 induction m with
 | nil=>simp [aput] at h; exact .inl h
 | cons q m ih =>
  obtain ⟨k,v⟩:=q
  simp only [aput] at h
  split at h
  ·rcases List.mem_cons.1 h with h | h
   ·exact .inl h
   ·exact .inr (List.mem_cons_of_mem _ h)
  ·rcases List.mem_cons.1 h with h | h
   ·exact .inr (h▸List.mem_cons_self ..)
   ·rcases ih h with h | h
    ·exact .inl h
    ·exact .inr (List.mem_cons_of_mem _ h)
theorem okM_put {m:Spots} (h:OkM m) {x:Id} {t:TN} (ht:t.node=x):OkM (aput m x t):=by
 refine ⟨fun p hp=>?_,?_⟩
 ·rcases aput_mem hp with rfl | hp
  ·exact ht
  ·exact h.key p hp
 ·rw [aput_keys]
  split
  ·exact h.nd
  ·rename_i q
   rw [List.nodup_append]
   exact ⟨h.nd,by simp,fun a ha b hb=>by simp at hb; subst hb; exact fun e=>q (e▸ha)⟩
theorem alook_pair {m:Spots} {x:Id} {t:TN} (h:alook m x=some t):(x,t)∈m:=by
 induction m with
 | nil=>cases h
 | cons p m ih =>
  obtain ⟨k,v⟩:=p
  simp only [alook] at h
  split at h
  ·rename_i q; subst q; injection h with h; subst h; exact List.mem_cons_self ..
  ·exact List.mem_cons_of_mem _ (ih h)
theorem addM_ok (l:List TN):OkM (addM l):=by
 unfold addM
 have:∀ (l:List TN) (m:Spots),OkM m→OkM (l.foldl (fun m t=>aput m t.node t) m):=by
  intro l
  induction l with
  | nil=>intro m h; exact h
  | cons t l ih=>intro m h; exact ih _ (okM_put h rfl)
 exact this l [] ⟨(fun p hp=>nomatch hp),List.nodup_nil⟩
theorem stepM_ok {m:Spots} (h:OkM m) (e:Edit):OkM (stepM m e):=by
 unfold stepM
 split
 ·split
  ·exact okM_put h rfl
  ·exact h
 ·split
  ·split
   ·rename_i s hs
    split
    ·exact okM_put h (h.key _ (alook_pair hs))
    ·exact h
   ·exact h
  ·exact h
theorem runM_ok {m:Spots} (h:OkM m):∀ es:List Edit,OkM (runM m es):=fun es=>by
 unfold runM
 induction es generalizing m with
 | nil=>exact h
 | cons e es ih=>exact ih (stepM_ok h e)
theorem aput_len (m:Spots) (x:Id) (t:TN):(aput m x t).length≤m.length+1:=by
 have:=congrArg List.length (aput_keys (m:=m) (x:=x) (t:=t))
 rw [List.length_map] at this
 rw [this]
 split <;> simp
theorem stepM_len (m:Spots) (e:Edit):(stepM m e).length≤m.length+1:=by
 unfold stepM
 repeat' split
 all_goals first | exact aput_len _ _ _ | omega
theorem runM_len (es:List Edit):∀ m:Spots,(runM m es).length≤m.length+es.length:=by
 unfold runM
 induction es with
 | nil=>intro m; exact Nat.le_refl _
 | cons e es ih =>
  intro m
  have h1:=ih (stepM m e)
  have h2:=stepM_len m e
  simp only [List.foldl_cons,List.length_cons]
  omega
theorem addM_len (l:List TN):(addM l).length≤l.length:=by
 unfold addM
 have:∀ (l:List TN) (m:Spots),(l.foldl (fun m t=>aput m t.node t) m).length≤m.length+l.length:=by
  intro l
  induction l with
  | nil=>intro m; exact Nat.le_refl _
  | cons t l ih =>
   intro m
   have h1:=ih (aput m t.node t)
   have h2:=aput_len m t.node t
   simp only [List.foldl_cons,List.length_cons]
   omega
 have:=this l []
 simpa using this
theorem erow_x (e:Edit):e.row=[.v (.string e.id.a),.v (.int .i64 e.id.n),.v (.int .i64 e.clock),.v (.int .i64 e.floor),.sl (e.deps.map Id.row),.v (.int .i64 e.kind),.v (.string e.node.a),.v (.int .i64 e.node.n),.v (.string e.parent.a),.v (.int .i64 e.parent.n),.v (.bool e.neg),.v (.string e.num),.v (.string e.den),.v (.string e.field),.v (.string e.value),.v (.string e.target.a),.v (.int .i64 e.target.n),.v (.string e.who)]:=rfl
theorem map_erase {α β:Type} (f:α→β):∀ (l:List α) (i:Nat),(l.map f).eraseIdx i=(l.eraseIdx i).map f
 | [],i=>by simp
 | x :: l,0=>rfl
 | x :: l,i+1=>by simp only [List.map_cons,List.eraseIdx_cons_succ,map_erase f l i]
theorem perm_erase {α:Type}:∀ {l:List α} {i:Nat} {x:α},l[i]? = some x→l.Perm (x :: l.eraseIdx i)
 | [],i,x,h=>by simp at h
 | y :: l,0,x,h=>by simp at h; subst h; exact List.Perm.refl _
 | y :: l,i+1,x,h=>by
  rw [List.getElem?_cons_succ] at h
  rw [List.eraseIdx_cons_succ]
  exact ((perm_erase h).cons y).trans (List.Perm.swap x y _)
theorem cells_id (x y:Id):cellsEq [.s,.i .i64] [.d (.v (.string x.a)),.d (.v (.int .i64 x.n))] [.d (.v (.string y.a)),.d (.v (.int .i64 y.n))]=some (decide (x=y)):=by
 simp only [cellsEq,skEq,if_true,Bool.and_true,and_self]
 congr 1
 rw [Bool.eq_iff_iff]
 simp [id_iff]
theorem k2011 (l:List TN) (es:List Edit) (hl:l.length<100000000000) (he:es.length<100000000000) (H:List O) :
    ACalls prog (GM 0) 11 [.c (.d (.sl (l.map TN.row))),.c (.d (.sl (es.map Edit.row)))] H fun t H'=>t = .v (.c (.d (.sl ((appF l es).map TN.row))))∧H'=H:=by
  refine acallsX (X:=[]) trivial tab hmix func11 c2011 (by rfl) fun hw=>?_
  simp -implicitDefEqProofs (disch:=omega) [gz,ir2011,b2011,b2011_0,b2011_1,b2011_2,wrap64,fillC,splice]
  refine loopE (fun k st=>∃ i,i≤l.length∧k=l.length-i ∧
      st=⟨ofL [(1,.v (.c (.d (.sl (es.map Edit.row))))),(5,.v (.c (.mp H.length))),(20,.v (.c (.d (.sl (l.map TN.row))))),(21,.int .i64 l.length),(22,.int .i64 i)],H ++ [.map KI (encIT (addM (l.take i)))]⟩)
    (fun st=>AtS [(1,.v (.c (.d (.sl (es.map Edit.row))))),(5,.v (.c (.mp H.length)))] (H ++ [.map KI (encIT (addM l))]) st) ?_ ?_ ?_
  · refine wk_pre [0] [1,5,20,21,22] hw rfl ⟨_,0,by omega,rfl,?_⟩
    simp [phiP,phi,O.ren,C.ren,addM,encM]
  · rintro J L hJ hL k st ⟨i,hi,rfl,rfl⟩
    by_cases hlt:i<l.length
    · obtain ⟨t,ht⟩:∃ t,nth l i=t:=⟨_,rfl⟩
      have hnext:addM (l.take (i+1))=aput (addM (l.take i)) t.node t:=by
        unfold addM
        rw [take_nth hlt,List.foldl_append,ht]; rfl
      obtain ⟨m,hm⟩:∃ m,m=addM (l.take i):=⟨_,rfl⟩
      rw [← hm] at hnext ⊢
      have mk:Value.agg [Value.string t.node.a,Value.int IntKind.i64 t.node.n].toArray=keyI t.node:=rfl
      have cf:=conf_I t.node
      have m3:=mp_IT m t.node t
      rw [trw] at m3
      simp -implicitDefEqProofs (disch:=omega) [gz,hlt,wrap64,nth_map,ht,trw,keyOf,mk,cf,m3,toPV,toDs,toD,fillC,splice,Nat.add_assoc]
      repeat' with_reducible apply And.intro
      all_goals first|omega|kernel_rfl|exact fun _ _=>rfl|skip
      subst hJ
      refine wk_pre [0] [1,5,20,21,22] hw rfl ⟨l.length-(i+1),by omega,i+1,by omega,rfl,?_⟩
      rw [hnext]
      simp [phiP,phi,O.ren,C.ren]
    · have:i=l.length:=by omega
      subst this
      rw [List.take_length]
      simp -implicitDefEqProofs (disch:=omega) [gz,hlt]
      subst hL
      exact at_mk (by simp) rfl
  · rintro _ ⟨sl,rfl⟩
    have hml:=addM_len l
    obtain ⟨m0,hm0⟩:∃ m0,m0=addM l:=⟨_,rfl⟩
    have hok0:OkM m0:=by rw [hm0]; exact addM_ok l
    have happ:appF l es=ssort cmpN' ((runM m0 es).map Prod.snd):=by rw [hm0]; rfl
    rw [happ]
    rw [← hm0] at hml ⊢
    simp -implicitDefEqProofs (disch:=omega) [gz,b2011_3,wrap64,fillC,splice]
    refine loopE (fun k st=>∃ i,i≤es.length∧k=es.length-i ∧
        st=⟨ofL [(5,.v (.c (.mp H.length))),(31,.v (.c (.d (.sl (es.map Edit.row))))),(32,.int .i64 es.length),(33,.int .i64 i)],H ++ [.map KI (encIT (runM m0 (es.take i)))]⟩)
      (fun st=>AtS [(5,.v (.c (.mp H.length)))] (H ++ [.map KI (encIT (runM m0 es))]) st) ?_ ?_ ?_
    · refine wk_pre [0] [5,31,32,33] hw rfl ⟨_,0,by omega,rfl,?_⟩
      simp [phiP,phi,O.ren,C.ren,runM]
    · rintro J L hJ hL k st ⟨i,hi,rfl,rfl⟩
      by_cases hlt:i<es.length
      · obtain ⟨e,het⟩:∃ e,nth es i=e:=⟨_,rfl⟩
        have hnx:runM m0 (es.take (i+1))=stepM (runM m0 (es.take i)) e:=by
          unfold runM
          rw [take_nth hlt,List.foldl_append,het]; rfl
        obtain ⟨m,hm⟩:∃ m,m=runM m0 (es.take i):=⟨_,rfl⟩
        rw [← hm] at hnx ⊢
        have mkP:Value.agg [Value.string e.parent.a,Value.int IntKind.i64 e.parent.n].toArray=keyI e.parent:=rfl
        have cfP:=conf_I e.parent
        have mP:=mf_IT m e.parent
        have mkI:Value.agg [Value.string e.id.a,Value.int IntKind.i64 e.id.n].toArray=keyI e.id:=rfl
        have cfI:=conf_I e.id
        have mI:=mf_IT m e.id
        have mkN:Value.agg [Value.string e.node.a,Value.int IntKind.i64 e.node.n].toArray=keyI e.node:=rfl
        have cfN:=conf_I e.node
        have mN:=mf_IT m e.node
        have hroot:cellsEq [.s,.i .i64] [.d (.v (.string e.parent.a)),.d (.v (.int .i64 e.parent.n))] [.d (.v (.string ⟨#[]⟩)),.d (.v (.int .i64 0))]=some (decide (e.parent=rootI)):=cells_id e.parent rootI
        have hbin:cellsEq [.s,.i .i64] [.d (.v (.string e.parent.a)),.d (.v (.int .i64 e.parent.n))] [.d (.v (.string ⟨#[45]⟩)),.d (.v (.int .i64 0))]=some (decide (e.parent=binI0)):=cells_id e.parent binI0
        have m3:mput (encIT m) (keyI e.id) (.agg [.v (.string e.id.a),.v (.int .i64 e.id.n),.v (.string e.parent.a),.v (.int .i64 e.parent.n),.v (.bool e.neg),.v (.string e.num),.v (.string e.den),.v (.string e.value)])=encIT (aput m e.id ⟨e.id,e.parent,plc e,e.value⟩):=mp_IT m e.id ⟨e.id,e.parent,plc e,e.value⟩
        cases hP:alook m e.parent with
        | some s1 =>
          rw [hP] at mP
          have hPs:True:=trivial
          have hp:parB m e=true:=by unfold parB; rw [hP]; rfl
          by_cases k1:e.kind=1
          · cases hI:alook m e.id with
            | some s0 =>
              have hs:stepM m e=m:=by unfold stepM; rw [if_pos k1,hI]; simp
              rw [hI] at mI
              simp -implicitDefEqProofs (disch:=omega) [gz,hlt,wrap64,nth_map,het,erow_x,GM,trw,keyOf,mkP,cfP,mP,mkI,cfI,mkN,cfN,PV.toV,toPV,toDs,toD,fillC,splice,Nat.add_assoc,hPs,k1,mI]
              repeat' with_reducible apply And.intro
              all_goals first|omega|kernel_rfl|exact fun _ _=>rfl|skip
              subst hJ
              refine wk_pre [0] [5,31,32,33] hw rfl ⟨es.length-(i+1),by omega,i+1,by omega,rfl,?_⟩
              rw [hnx,hs]
              simp [phiP,phi,O.ren,C.ren]
            | none =>
              rw [hI] at mI
              have hs:stepM m e=aput m e.id ⟨e.id,e.parent,plc e,e.value⟩:=by unfold stepM; rw [if_pos k1,hI,hp]; simp
              simp -implicitDefEqProofs (disch:=omega) [gz,hlt,wrap64,nth_map,het,erow_x,GM,trw,keyOf,mkP,cfP,mP,mkI,cfI,mkN,cfN,PV.toV,toPV,toDs,toD,fillC,splice,Nat.add_assoc,hPs,k1,mI,m3]
              repeat' with_reducible apply And.intro
              all_goals first|omega|kernel_rfl|exact fun _ _=>rfl|skip
              subst hJ
              refine wk_pre [0] [5,31,32,33] hw rfl ⟨es.length-(i+1),by omega,i+1,by omega,rfl,?_⟩
              rw [hnx,hs]
              simp [phiP,phi,O.ren,C.ren]
          · by_cases k2:e.kind=2
            · cases hN:alook m e.node with
              | none =>
                have hs:stepM m e=m:=by unfold stepM; rw [if_neg k1,if_pos k2,hN]
                rw [hN] at mN
                simp -implicitDefEqProofs (disch:=omega) [gz,hlt,wrap64,nth_map,het,erow_x,GM,trw,keyOf,mkP,cfP,mP,mkI,cfI,mkN,cfN,PV.toV,toPV,toDs,toD,fillC,splice,Nat.add_assoc,hPs,k1,k2,mN]
                repeat' with_reducible apply And.intro
                all_goals first|omega|kernel_rfl|exact fun _ _=>rfl|skip
                subst hJ
                refine wk_pre [0] [5,31,32,33] hw rfl ⟨es.length-(i+1),by omega,i+1,by omega,rfl,?_⟩
                rw [hnx,hs]
                simp [phiP,phi,O.ren,C.ren]
              | some s =>
                rw [hN] at mN
                have m4:mput (encIT m) (keyI e.node) (.agg [.v (.string s.node.a),.v (.int .i64 s.node.n),.v (.string e.parent.a),.v (.int .i64 e.parent.n),.v (.bool e.neg),.v (.string e.num),.v (.string e.den),.v (.string s.kind)])=encIT (aput m e.node ⟨s.node,e.parent,plc e,s.kind⟩):=mp_IT m e.node ⟨s.node,e.parent,plc e,s.kind⟩
                simp -implicitDefEqProofs (disch:=omega) [gz,hlt,wrap64,nth_map,het,erow_x,GM,trw,keyOf,mkP,cfP,mP,mkI,cfI,mkN,cfN,PV.toV,toPV,toDs,toD,fillC,splice,Nat.add_assoc,hPs,k1,k2,mN]
                refine ((k2038 m e.parent e.node _ H.length (by rw [app_get0]; rfl)).gm).mono ?_
                rintro t H' ⟨rfl,rfl⟩
                cases hUv:undF m e.parent e.node
                · have hs:stepM m e=aput m e.node ⟨s.node,e.parent,plc e,s.kind⟩:=by unfold stepM; rw [if_neg k1,if_pos k2,hN]; simp [hp,hUv]
                  simp -implicitDefEqProofs (disch:=omega) [gz,callK,hlt,wrap64,nth_map,het,erow_x,GM,trw,keyOf,mkP,cfP,mP,mkI,cfI,mkN,cfN,PV.toV,toPV,toDs,toD,fillC,splice,Nat.add_assoc,hPs,k1,k2,mN,m4]
                  repeat' with_reducible apply And.intro
                  all_goals first|omega|kernel_rfl|exact fun _ _=>rfl|skip
                  subst hJ
                  refine wk_pre [0] [5,31,32,33] hw rfl ⟨es.length-(i+1),by omega,i+1,by omega,rfl,?_⟩
                  rw [hnx,hs]
                  simp [phiP,phi,O.ren,C.ren]
                · have hs:stepM m e=m:=by unfold stepM; rw [if_neg k1,if_pos k2,hN]; simp [hp,hUv]
                  simp -implicitDefEqProofs (disch:=omega) [gz,callK,hlt,wrap64,nth_map,het,erow_x,GM,trw,keyOf,mkP,cfP,mP,mkI,cfI,mkN,cfN,PV.toV,toPV,toDs,toD,fillC,splice,Nat.add_assoc,hPs,k1,k2,mN]
                  repeat' with_reducible apply And.intro
                  all_goals first|omega|kernel_rfl|exact fun _ _=>rfl|skip
                  subst hJ
                  refine wk_pre [0] [5,31,32,33] hw rfl ⟨es.length-(i+1),by omega,i+1,by omega,rfl,?_⟩
                  rw [hnx,hs]
                  simp [phiP,phi,O.ren,C.ren]
            · have hs:stepM m e=m:=by unfold stepM; rw [if_neg k1,if_neg k2]
              simp -implicitDefEqProofs (disch:=omega) [gz,hlt,wrap64,nth_map,het,erow_x,GM,trw,keyOf,mkP,cfP,mP,mkI,cfI,mkN,cfN,PV.toV,toPV,toDs,toD,fillC,splice,Nat.add_assoc,hPs,k1,k2]
              repeat' with_reducible apply And.intro
              all_goals first|omega|kernel_rfl|exact fun _ _=>rfl|skip
              subst hJ
              refine wk_pre [0] [5,31,32,33] hw rfl ⟨es.length-(i+1),by omega,i+1,by omega,rfl,?_⟩
              rw [hnx,hs]
              simp [phiP,phi,O.ren,C.ren]
        | none =>
          rw [hP] at mP
          cases hB1:decide (e.parent=rootI)
          · rw [hB1] at hroot
            have hp:parB m e=false:=by unfold parB; rw [hP,hB1]; rfl
            by_cases k1:e.kind=1
            · cases hI:alook m e.id with
              | some s0 =>
                have hs:stepM m e=m:=by unfold stepM; rw [if_pos k1,hI]; simp
                rw [hI] at mI
                simp -implicitDefEqProofs (disch:=omega) [gz,hlt,wrap64,nth_map,het,erow_x,GM,trw,keyOf,mkP,cfP,mP,mkI,cfI,mkN,cfN,PV.toV,toPV,toDs,toD,fillC,splice,Nat.add_assoc,hroot,k1,mI]
                repeat' with_reducible apply And.intro
                all_goals first|omega|kernel_rfl|exact fun _ _=>rfl|skip
                subst hJ
                refine wk_pre [0] [5,31,32,33] hw rfl ⟨es.length-(i+1),by omega,i+1,by omega,rfl,?_⟩
                rw [hnx,hs]
                simp [phiP,phi,O.ren,C.ren]
              | none =>
                rw [hI] at mI
                have hs:stepM m e=m:=by unfold stepM; rw [if_pos k1,hI,hp]; simp
                simp -implicitDefEqProofs (disch:=omega) [gz,hlt,wrap64,nth_map,het,erow_x,GM,trw,keyOf,mkP,cfP,mP,mkI,cfI,mkN,cfN,PV.toV,toPV,toDs,toD,fillC,splice,Nat.add_assoc,hroot,k1,mI]
                repeat' with_reducible apply And.intro
                all_goals first|omega|kernel_rfl|exact fun _ _=>rfl|skip
                subst hJ
                refine wk_pre [0] [5,31,32,33] hw rfl ⟨es.length-(i+1),by omega,i+1,by omega,rfl,?_⟩
                rw [hnx,hs]
                simp [phiP,phi,O.ren,C.ren]
            · by_cases k2:e.kind=2
              · cases hN:alook m e.node with
                | none =>
                  have hs:stepM m e=m:=by unfold stepM; rw [if_neg k1,if_pos k2,hN]
                  rw [hN] at mN
                  simp -implicitDefEqProofs (disch:=omega) [gz,hlt,wrap64,nth_map,het,erow_x,GM,trw,keyOf,mkP,cfP,mP,mkI,cfI,mkN,cfN,PV.toV,toPV,toDs,toD,fillC,splice,Nat.add_assoc,hroot,k1,k2,mN]
                  repeat' with_reducible apply And.intro
                  all_goals first|omega|kernel_rfl|exact fun _ _=>rfl|skip
                  subst hJ
                  refine wk_pre [0] [5,31,32,33] hw rfl ⟨es.length-(i+1),by omega,i+1,by omega,rfl,?_⟩
                  rw [hnx,hs]
                  simp [phiP,phi,O.ren,C.ren]
                | some s =>
                  rw [hN] at mN
                  have m4:mput (encIT m) (keyI e.node) (.agg [.v (.string s.node.a),.v (.int .i64 s.node.n),.v (.string e.parent.a),.v (.int .i64 e.parent.n),.v (.bool e.neg),.v (.string e.num),.v (.string e.den),.v (.string s.kind)])=encIT (aput m e.node ⟨s.node,e.parent,plc e,s.kind⟩):=mp_IT m e.node ⟨s.node,e.parent,plc e,s.kind⟩
                  cases hB2v:decide (e.parent=binI0)
                  · rw [hB2v] at hbin
                    have hs:stepM m e=m:=by unfold stepM; rw [if_neg k1,if_pos k2,hN]; simp [hp,hB2v]
                    simp -implicitDefEqProofs (disch:=omega) [gz,hlt,wrap64,nth_map,het,erow_x,GM,trw,keyOf,mkP,cfP,mP,mkI,cfI,mkN,cfN,PV.toV,toPV,toDs,toD,fillC,splice,Nat.add_assoc,hroot,hbin,k1,k2,mN]
                    repeat' with_reducible apply And.intro
                    all_goals first|omega|kernel_rfl|exact fun _ _=>rfl|skip
                    subst hJ
                    refine wk_pre [0] [5,31,32,33] hw rfl ⟨es.length-(i+1),by omega,i+1,by omega,rfl,?_⟩
                    rw [hnx,hs]
                    simp [phiP,phi,O.ren,C.ren]
                  · rw [hB2v] at hbin
                    simp -implicitDefEqProofs (disch:=omega) [gz,hlt,wrap64,nth_map,het,erow_x,GM,trw,keyOf,mkP,cfP,mP,mkI,cfI,mkN,cfN,PV.toV,toPV,toDs,toD,fillC,splice,Nat.add_assoc,hroot,hbin,k1,k2,mN]
                    refine ((k2038 m e.parent e.node _ H.length (by rw [app_get0]; rfl)).gm).mono ?_
                    rintro t H' ⟨rfl,rfl⟩
                    cases hUv:undF m e.parent e.node
                    · have hs:stepM m e=aput m e.node ⟨s.node,e.parent,plc e,s.kind⟩:=by unfold stepM; rw [if_neg k1,if_pos k2,hN]; simp [hp,hUv,hB2v]
                      simp -implicitDefEqProofs (disch:=omega) [gz,callK,hlt,wrap64,nth_map,het,erow_x,GM,trw,keyOf,mkP,cfP,mP,mkI,cfI,mkN,cfN,PV.toV,toPV,toDs,toD,fillC,splice,Nat.add_assoc,hroot,hbin,k1,k2,mN,m4]
                      repeat' with_reducible apply And.intro
                      all_goals first|omega|kernel_rfl|exact fun _ _=>rfl|skip
                      subst hJ
                      refine wk_pre [0] [5,31,32,33] hw rfl ⟨es.length-(i+1),by omega,i+1,by omega,rfl,?_⟩
                      rw [hnx,hs]
                      simp [phiP,phi,O.ren,C.ren]
                    · have hs:stepM m e=m:=by unfold stepM; rw [if_neg k1,if_pos k2,hN]; simp [hp,hUv,hB2v]
                      simp -implicitDefEqProofs (disch:=omega) [gz,callK,hlt,wrap64,nth_map,het,erow_x,GM,trw,keyOf,mkP,cfP,mP,mkI,cfI,mkN,cfN,PV.toV,toPV,toDs,toD,fillC,splice,Nat.add_assoc,hroot,hbin,k1,k2,mN]
                      repeat' with_reducible apply And.intro
                      all_goals first|omega|kernel_rfl|exact fun _ _=>rfl|skip
                      subst hJ
                      refine wk_pre [0] [5,31,32,33] hw rfl ⟨es.length-(i+1),by omega,i+1,by omega,rfl,?_⟩
                      rw [hnx,hs]
                      simp [phiP,phi,O.ren,C.ren]
              · have hs:stepM m e=m:=by unfold stepM; rw [if_neg k1,if_neg k2]
                simp -implicitDefEqProofs (disch:=omega) [gz,hlt,wrap64,nth_map,het,erow_x,GM,trw,keyOf,mkP,cfP,mP,mkI,cfI,mkN,cfN,PV.toV,toPV,toDs,toD,fillC,splice,Nat.add_assoc,hroot,k1,k2]
                repeat' with_reducible apply And.intro
                all_goals first|omega|kernel_rfl|exact fun _ _=>rfl|skip
                subst hJ
                refine wk_pre [0] [5,31,32,33] hw rfl ⟨es.length-(i+1),by omega,i+1,by omega,rfl,?_⟩
                rw [hnx,hs]
                simp [phiP,phi,O.ren,C.ren]
          · rw [hB1] at hroot
            have hp:parB m e=true:=by unfold parB; rw [hP,hB1]; rfl
            by_cases k1:e.kind=1
            · cases hI:alook m e.id with
              | some s0 =>
                have hs:stepM m e=m:=by unfold stepM; rw [if_pos k1,hI]; simp
                rw [hI] at mI
                simp -implicitDefEqProofs (disch:=omega) [gz,hlt,wrap64,nth_map,het,erow_x,GM,trw,keyOf,mkP,cfP,mP,mkI,cfI,mkN,cfN,PV.toV,toPV,toDs,toD,fillC,splice,Nat.add_assoc,hroot,k1,mI]
                repeat' with_reducible apply And.intro
                all_goals first|omega|kernel_rfl|exact fun _ _=>rfl|skip
                subst hJ
                refine wk_pre [0] [5,31,32,33] hw rfl ⟨es.length-(i+1),by omega,i+1,by omega,rfl,?_⟩
                rw [hnx,hs]
                simp [phiP,phi,O.ren,C.ren]
              | none =>
                rw [hI] at mI
                have hs:stepM m e=aput m e.id ⟨e.id,e.parent,plc e,e.value⟩:=by unfold stepM; rw [if_pos k1,hI,hp]; simp
                simp -implicitDefEqProofs (disch:=omega) [gz,hlt,wrap64,nth_map,het,erow_x,GM,trw,keyOf,mkP,cfP,mP,mkI,cfI,mkN,cfN,PV.toV,toPV,toDs,toD,fillC,splice,Nat.add_assoc,hroot,k1,mI,m3]
                repeat' with_reducible apply And.intro
                all_goals first|omega|kernel_rfl|exact fun _ _=>rfl|skip
                subst hJ
                refine wk_pre [0] [5,31,32,33] hw rfl ⟨es.length-(i+1),by omega,i+1,by omega,rfl,?_⟩
                rw [hnx,hs]
                simp [phiP,phi,O.ren,C.ren]
            · by_cases k2:e.kind=2
              · cases hN:alook m e.node with
                | none =>
                  have hs:stepM m e=m:=by unfold stepM; rw [if_neg k1,if_pos k2,hN]
                  rw [hN] at mN
                  simp -implicitDefEqProofs (disch:=omega) [gz,hlt,wrap64,nth_map,het,erow_x,GM,trw,keyOf,mkP,cfP,mP,mkI,cfI,mkN,cfN,PV.toV,toPV,toDs,toD,fillC,splice,Nat.add_assoc,hroot,k1,k2,mN]
                  repeat' with_reducible apply And.intro
                  all_goals first|omega|kernel_rfl|exact fun _ _=>rfl|skip
                  subst hJ
                  refine wk_pre [0] [5,31,32,33] hw rfl ⟨es.length-(i+1),by omega,i+1,by omega,rfl,?_⟩
                  rw [hnx,hs]
                  simp [phiP,phi,O.ren,C.ren]
                | some s =>
                  rw [hN] at mN
                  have m4:mput (encIT m) (keyI e.node) (.agg [.v (.string s.node.a),.v (.int .i64 s.node.n),.v (.string e.parent.a),.v (.int .i64 e.parent.n),.v (.bool e.neg),.v (.string e.num),.v (.string e.den),.v (.string s.kind)])=encIT (aput m e.node ⟨s.node,e.parent,plc e,s.kind⟩):=mp_IT m e.node ⟨s.node,e.parent,plc e,s.kind⟩
                  simp -implicitDefEqProofs (disch:=omega) [gz,hlt,wrap64,nth_map,het,erow_x,GM,trw,keyOf,mkP,cfP,mP,mkI,cfI,mkN,cfN,PV.toV,toPV,toDs,toD,fillC,splice,Nat.add_assoc,hroot,k1,k2,mN]
                  refine ((k2038 m e.parent e.node _ H.length (by rw [app_get0]; rfl)).gm).mono ?_
                  rintro t H' ⟨rfl,rfl⟩
                  cases hUv:undF m e.parent e.node
                  · have hs:stepM m e=aput m e.node ⟨s.node,e.parent,plc e,s.kind⟩:=by unfold stepM; rw [if_neg k1,if_pos k2,hN]; simp [hp,hUv]
                    simp -implicitDefEqProofs (disch:=omega) [gz,callK,hlt,wrap64,nth_map,het,erow_x,GM,trw,keyOf,mkP,cfP,mP,mkI,cfI,mkN,cfN,PV.toV,toPV,toDs,toD,fillC,splice,Nat.add_assoc,hroot,k1,k2,mN,m4]
                    repeat' with_reducible apply And.intro
                    all_goals first|omega|kernel_rfl|exact fun _ _=>rfl|skip
                    subst hJ
                    refine wk_pre [0] [5,31,32,33] hw rfl ⟨es.length-(i+1),by omega,i+1,by omega,rfl,?_⟩
                    rw [hnx,hs]
                    simp [phiP,phi,O.ren,C.ren]
                  · have hs:stepM m e=m:=by unfold stepM; rw [if_neg k1,if_pos k2,hN]; simp [hp,hUv]
                    simp -implicitDefEqProofs (disch:=omega) [gz,callK,hlt,wrap64,nth_map,het,erow_x,GM,trw,keyOf,mkP,cfP,mP,mkI,cfI,mkN,cfN,PV.toV,toPV,toDs,toD,fillC,splice,Nat.add_assoc,hroot,k1,k2,mN]
                    repeat' with_reducible apply And.intro
                    all_goals first|omega|kernel_rfl|exact fun _ _=>rfl|skip
                    subst hJ
                    refine wk_pre [0] [5,31,32,33] hw rfl ⟨es.length-(i+1),by omega,i+1,by omega,rfl,?_⟩
                    rw [hnx,hs]
                    simp [phiP,phi,O.ren,C.ren]
              · have hs:stepM m e=m:=by unfold stepM; rw [if_neg k1,if_neg k2]
                simp -implicitDefEqProofs (disch:=omega) [gz,hlt,wrap64,nth_map,het,erow_x,GM,trw,keyOf,mkP,cfP,mP,mkI,cfI,mkN,cfN,PV.toV,toPV,toDs,toD,fillC,splice,Nat.add_assoc,hroot,k1,k2]
                repeat' with_reducible apply And.intro
                all_goals first|omega|kernel_rfl|exact fun _ _=>rfl|skip
                subst hJ
                refine wk_pre [0] [5,31,32,33] hw rfl ⟨es.length-(i+1),by omega,i+1,by omega,rfl,?_⟩
                rw [hnx,hs]
                simp [phiP,phi,O.ren,C.ren]
      · have:i=es.length:=by omega
        subst this
        rw [List.take_length]
        simp -implicitDefEqProofs (disch:=omega) [gz,hlt]
        subst hL
        exact at_mk (by simp) rfl
    · rintro _ ⟨sl,rfl⟩
      have hrl:=runM_len es m0
      have hokm:=runM_ok hok0 es
      obtain ⟨m,hm⟩:∃ m,m=runM m0 es:=⟨_,rfl⟩
      rw [← hm] at hrl hokm ⊢
      have hel:(encIT m).length=m.length:=by simp [encM]
      have hnd:((m.map Prod.snd).map TN.node).Nodup:=by
        have:(m.map Prod.snd).map TN.node=m.map Prod.fst:=by
          rw [List.map_map]
          exact List.map_congr_left fun p hp=>hokm.key p hp
        rw [this]; exact hokm.nd
      simp -implicitDefEqProofs (disch:=omega) [gz,b2011_4,b2011_5,wrap64,hel,rngW,fillC,splice,Nat.add_assoc]
      repeat' with_reducible apply And.intro
      all_goals first|omega|kernel_rfl|exact fun _ _=>rfl|skip
      refine loopE (fun k st=>∃ (acc:List TN) (cur:Option (Value×PV)) (left:Spots),k=left.length∧(acc ++ left.map Prod.snd).Perm (m.map Prod.snd) ∧
          st=⟨ofL [(16,.v (.c (.os H.length 8 0 acc.length))),(122,.v (.c (.ptr (H.length+1) 0)))],H ++ [.row 8 (acc.map TN.row),.iter KI cur (encIT left)]⟩)
        (fun st=>∃ (acc:List TN) (cur:Option (Value×PV)),acc.Perm (m.map Prod.snd)∧AtS [(16,.v (.c (.os H.length 8 0 acc.length)))] (H ++ [.row 8 (acc.map TN.row),.iter KI cur []]) st) ?_ ?_ ?_
      · refine wk_pre [1,2] [16,122] hw rfl ⟨_,[],none,m,rfl,by simp,?_⟩
        have n1:¬ H.length+1<H.length:=by omega
        have n2:¬ H.length+2<H.length:=by omega
        simp [phiP,phi,O.ren,C.ren,n1,n2]
      · rintro J L hJ hL k st ⟨acc,cur,left,rfl,hp,rfl⟩
        have hal:acc.length≤m.length:=by
          have:=hp.length_eq
          simp at this; omega
        simp -implicitDefEqProofs (disch:=omega) [gz,nxtW,entW]
        refine ⟨fun h0=>?_,fun i ky pv hi=>?_⟩
        · have h0':left=[]:=by
            first
              | exact h0
              | (cases left with
                 | nil=>rfl
                 | cons q l'=>simp [encM] at h0)
          subst h0'
          subst hL
          refine ⟨acc,cur,by simpa using hp,?_⟩
          exact at_mk (by simp) (by simp [encM])
        · obtain ⟨q,hq,hq2⟩:∃ q,left[i]? = some q∧(keyI q.1,PVo.agg q.2.row)=(ky,pv):=by
            rw [show encIT left=left.map fun p=>(keyI p.1,PVo.agg p.2.row) from rfl,List.getElem?_map] at hi
            cases hx:left[i]? with
            | none=>rw [hx] at hi; cases hi
            | some q=>rw [hx] at hi; simp at hi; exact ⟨q,rfl,by rw [← hi.1,← hi.2]⟩
          injection hq2 with e1 e2
          subst e1; subst e2
          obtain ⟨x,t⟩:=q
          have her:(encIT left).eraseIdx i=encIT (left.eraseIdx i):=map_erase _ _ _
          have hpe:=perm_erase hq
          have hlen:(left.eraseIdx i).length+1=left.length:=by
            have:=hpe.length_eq
            simp at this; omega
          have hp2:((acc ++ [t]) ++ (left.eraseIdx i).map Prod.snd).Perm (m.map Prod.snd):=by
            refine List.Perm.trans ?_ hp
            rw [List.append_assoc]
            exact List.Perm.append_left acc (hpe.map Prod.snd).symm
          have hal2:acc.length+1≤m.length:=by
            have:=hp2.length_eq
            simp at this; omega
          have hb:(acc.length+1)*104≤140737488355328:=by omega
          have tA:(acc.map TN.row).take acc.length=acc.map TN.row:=List.take_of_length_le (by simp)
          simp -implicitDefEqProofs (disch:=omega) [gz,her,trw,PV.toV,fillC,fillR,splice,hb,tA,Nat.add_assoc]
          repeat' with_reducible apply And.intro
          all_goals first|omega|kernel_rfl|exact fun _ _=>rfl|skip
          subst hJ
          have n1:¬ H.length+1<H.length:=by omega
          have n4:¬ H.length+4<H.length:=by omega
          refine wk_pre [4,1] [16,122] hw rfl ⟨_,by omega,acc ++ [t],some (keyI x,.agg t.row),left.eraseIdx i,rfl,hp2,?_⟩
          simp [phiP,phi,O.ren,C.ren,n1,n4,trw]
      · rintro _ ⟨acc,cur,hperm,sl,rfl⟩
        have hal:acc.length=m.length:=by
          have:=hperm.length_eq
          simpa using this
        have hnd2:(acc.map TN.node).Nodup:=(hperm.map TN.node).nodup_iff.2 hnd
        simp -implicitDefEqProofs (disch:=omega) [gz,b2011_6]
        refine ((kSortF acc (by omega) hnd2 _ H.length (by rw [app_get0]; rfl)).gm).mono ?_
        rintro t H' ⟨rfl,rfl⟩
        simp -implicitDefEqProofs (disch:=omega) [gz,callK,b2011_7,b2011_8,fillC,splice]
        refine fin_tell (r:=H.length) hw (Nat.le_refl _) (by rw [app_get0]; rfl) ?_ ⟨?_,rfl⟩
        · rw [List.length_map,(ssort_perm cmpN' acc).length_eq]
        · rw [sort_unique hperm hnd2]
def x2011:XE:=mkX false (fun (p:List TN×List Edit)=>[.c (.sl (p.1.map TN.row)),.c (.sl (p.2.map Edit.row))]) (fun p=>p.1.length<100000000000∧p.2.length<100000000000) (fun p=>.v (.c (.d (.sl ((appF p.1 p.2).map TN.row)))))
theorem kx2011:Contract prog (GM 0) 11 x2011:=mkX_data fun p h H=>k2011 p.1 p.2 h.1 h.2 H
theorem injTE (a b:List TN×List Edit) (h:[PVo.c (D.sl (a.1.map TN.row)),PVo.c (D.sl (a.2.map Edit.row))]=[PVo.c (D.sl (b.1.map TN.row)),PVo.c (D.sl (b.2.map Edit.row))]):a=b:=by
 simp only [List.cons.injEq,PVo.c.injEq,D.sl.injEq,and_true] at h
 exact Prod.ext (tn_inj h.1) (rows_inj h.2)
theorem xg2011 (l:List TN) (es:List Edit) (h1:l.length<100000000000) (h2:es.length<100000000000):x2011.g [.c (.sl (l.map TN.row)),.c (.sl (es.map Edit.row))]=some (True,.v (.c (.d (.sl ((appF l es).map TN.row))))):=mkX_g injTE (l,es) ⟨h1,h2⟩
theorem injTIN (a b:List TN×Id×Int) (h:[PVo.c (D.sl (a.1.map TN.row)),PVo.agg a.2.1.row,PVo.c (D.v (.int .i64 a.2.2))]=[PVo.c (D.sl (b.1.map TN.row)),PVo.agg b.2.1.row,PVo.c (D.v (.int .i64 b.2.2))]):a=b:=by
 simp only [List.cons.injEq,PVo.c.injEq,D.sl.injEq,PVo.agg.injEq,D.v.injEq,Value.int.injEq,true_and,and_true] at h
 exact Prod.ext (tn_inj h.1) (Prod.ext (Id.row_inj h.2.1) h.2.2)
def x2022 (n:Nat):XE:=mkX true (fun (p:List TN×Id×Int)=>[.c (.sl (p.1.map TN.row)),.agg p.2.1.row,.c (.v (.int .i64 p.2.2))]) (fun p=>okK n p.1 p.2.1 p.2.2∧(-9223372036854775808≤p.2.2∧p.2.2≤9223372036854775807)) (fun p=>.v (ratV (keyF n p.1 p.2.1 p.2.2)))
theorem kx2022 (n:Nat):Contract prog G0 22 (x2022 n):=mkX_scal (fun _=>rfl) fun p h=>k2022 n p.1 p.2.1 p.2.2 h.1 h.2
theorem xg2022 (n:Nat) (l:List TN) (b:Id) (at':Int) (h:okK n l b at') (hr:-9223372036854775808≤at'∧at'≤9223372036854775807):(x2022 n).g [.c (.sl (l.map TN.row)),.agg b.row,.c (.v (.int .i64 at'))]=some (True,.v (ratV (keyF n l b at'))):=mkX_g injTIN (l,b,at') ⟨h,hr⟩
def eA:List Edit:=[⟨⟨⟨#[97]⟩,1⟩,1,0,[],1,⟨⟨#[]⟩,0⟩,⟨⟨#[]⟩,0⟩,false,⟨#[]⟩,⟨#[]⟩,⟨#[]⟩,⟨#[103,114,111,117,112]⟩,⟨⟨#[]⟩,0⟩,⟨#[]⟩⟩,⟨⟨⟨#[97]⟩,2⟩,2,0,[⟨⟨#[97]⟩,1⟩],1,⟨⟨#[]⟩,0⟩,⟨⟨#[97]⟩,1⟩,false,⟨#[1]⟩,⟨#[]⟩,⟨#[]⟩,⟨#[112,97,114,97,109]⟩,⟨⟨#[]⟩,0⟩,⟨#[]⟩⟩,⟨⟨⟨#[97]⟩,3⟩,3,0,[⟨⟨#[97]⟩,2⟩],2,⟨⟨#[97]⟩,1⟩,⟨⟨#[97]⟩,2⟩,false,⟨#[]⟩,⟨#[]⟩,⟨#[]⟩,⟨#[]⟩,⟨⟨#[]⟩,0⟩,⟨#[]⟩⟩,⟨⟨⟨#[97]⟩,4⟩,4,0,[⟨⟨#[97]⟩,3⟩],1,⟨⟨#[]⟩,0⟩,⟨⟨#[97]⟩,1⟩,false,⟨#[]⟩,⟨#[]⟩,⟨#[]⟩,⟨#[112,97,114,97,109]⟩,⟨⟨#[]⟩,0⟩,⟨#[]⟩⟩]
def oA:Nv.Rt:=⟨false,⟨#[1]⟩,⟨#[]⟩⟩
def tA:Nv.Rt:=⟨false,⟨#[2]⟩,⟨#[]⟩⟩
def hA:Nv.Rt:=⟨false,⟨#[1]⟩,⟨#[2]⟩⟩
def gA:List TN:=[⟨⟨⟨#[97]⟩,1⟩,⟨⟨#[]⟩,0⟩,zR,⟨#[103,114,111,117,112]⟩⟩,⟨⟨⟨#[97]⟩,2⟩,⟨⟨#[97]⟩,1⟩,oA,⟨#[112,97,114,97,109]⟩⟩,⟨⟨⟨#[97]⟩,4⟩,⟨⟨#[97]⟩,1⟩,zR,⟨#[112,97,114,97,109]⟩⟩]
theorem gA_app:appF [] eA=gA:=by kernel_rfl
theorem gA_walk:walkF gA=[idA 1,idA 4,idA 2]:=by kernel_rfl
theorem gA_key:keyF 3 gA (idA 1) 1=hA:=by kernel_rfl
theorem oA_mk:Nv.mkI 1 1=oA:=by kernel_rfl
theorem tA_mk:Nv.mkI 2 1=tA:=by kernel_rfl
theorem hA_div:divQ oA tA=(hA,true):=by kernel_rfl
theorem okA {x:Nv.Rt} (h:(decide (x.num.size<100000000) && decide (x.den.size<100000000))=true):OkQ x:=by
 rw [Bool.and_eq_true,decide_eq_true_eq,decide_eq_true_eq] at h
 exact ⟨h.1,h.2⟩
def okQb (x:Nv.Rt):Bool:=decide (x.num.size<100000000) && decide (x.den.size<100000000)
def okSb:Nat→Nv.Rt→Nv.Rt→Bool→Bool
 | 0,_,_,_=>false
 | n+1,lo,hi,bd=>okQb lo && okQb hi && okQb (flR lo) && decide ((flR lo).den.size<90000000) && okQb (nxR lo) && (stopB lo hi bd ||
   (okQb (subR hi (flR lo)) && okQb (subR lo (flR lo)) && okSb n (divQ oneR (subR hi (flR lo))).1 (divQ oneR (subR lo (flR lo))).1 (divQ oneR (subR lo (flR lo))).2 &&
   okQb (simpF n (divQ oneR (subR hi (flR lo))).1 (divQ oneR (subR lo (flR lo))).1 (divQ oneR (subR lo (flR lo))).2) &&
   okQb (divQ oneR (simpF n (divQ oneR (subR hi (flR lo))).1 (divQ oneR (subR lo (flR lo))).1 (divQ oneR (subR lo (flR lo))).2)).1))
theorem okSb_ok:∀ (n:Nat) (lo hi:Nv.Rt) (bd:Bool),okSb n lo hi bd=true→okS n lo hi bd:=by
 intro n
 induction n with
 | zero=>intro lo hi bd h; simp [okSb] at h
 | succ n ih =>
  intro lo hi bd h
  simp only [okSb,Bool.and_eq_true,decide_eq_true_eq] at h
  obtain ⟨⟨⟨⟨⟨h1,h2⟩,h3⟩,h4⟩,h5⟩,h6⟩:=h
  refine ⟨okA h1,okA h2,okA h3,h4,okA h5,fun hs=>?_⟩
  rw [hs,Bool.false_or] at h6
  simp only [Bool.and_eq_true] at h6
  obtain ⟨⟨⟨⟨k1,k2⟩,k3⟩,k4⟩,k5⟩:=h6
  exact ⟨okA k1,okA k2,ih _ _ _ k3,okA k4,okA k5⟩
theorem okA_pl:∀ t∈gA,OkQ t.pl:=by
 intro t ht
 simp [gA] at ht
 rcases ht with rfl | rfl | rfl
 ·exact okA (by kernel_rfl)
 ·exact okA (by kernel_rfl)
 ·exact okA (by kernel_rfl)
theorem okA_key:okK 3 gA (idA 1) 1:=by
 refine ⟨okA_pl,by decide,fun _ _ _=>?_⟩
 have e1:(nth (sibF gA (idA 1)) ((1:Int).toNat-1)).pl=zR:=by kernel_rfl
 have e2:(nth (sibF gA (idA 1)) (1:Int).toNat).pl=oA:=by kernel_rfl
 rw [e1,e2]
 have q0:OkQ zR:=okA (by kernel_rfl)
 have q1:OkQ oA:=okA (by kernel_rfl)
 refine ⟨q0,q1,fun _=>⟨fun h=>absurd h (by decide +kernel),fun _=>?_⟩⟩
 exact okSb_ok _ _ _ _ (by kernel_rfl)
theorem k2010:ACalls prog (GM 0) 10 [] [] fun t H=>t = .bool true∧H=[]:=by
 have s1:x2026.sc=true:=rfl
 have s2:x2028.sc=true:=rfl
 have s3:x2027.sc=true:=rfl
 have s4:x2015.sc=false:=rfl
 have s5:x2014.sc=true:=rfl
 have s6:(x2022 3).sc=true:=rfl
 have s7:x2011.sc=false:=rfl
 have g1:=xg2026
 have i1:∀ n,(idA n).row=[.v (.string ⟨#[97]⟩),.v (.int .i64 n)]:=fun _=>rfl
 have g2a:x2028.g [.c (.v (.int .i64 1))]=some (True,.v (ratV oA)):=(xg2028 1 (by decide)).trans (by rw [show Nv.mkI ((1:Nat):Int) 1=oA from oA_mk])
 have g2b:x2028.g [.c (.v (.int .i64 2))]=some (True,.v (ratV tA)):=(xg2028 2 (by decide)).trans (by rw [show Nv.mkI ((2:Nat):Int) 1=tA from tA_mk])
 have g3:x2027.g [ratP oA,ratP tA]=some (True,.tup [ratV hA,.c (.d (.v (.bool true)))]):=(xgDiv oA tA (okA (by kernel_rfl)) (okA (by kernel_rfl))).trans (by rw [hA_div])
 have g4:=(xg2015 gA okA_pl (by decide)).trans (by rw [gA_walk])
 have g5:x2014.g [.c (.sl ([idA 1,idA 4,idA 2].map Id.row)),.c (.sl ([idA 1,idA 4,idA 2].map Id.row))]=some (True,.bool true):=(xg2014 [idA 1,idA 4,idA 2] [idA 1,idA 4,idA 2] (by decide)).trans (by unfold samI; simp)
 have g6:=(xg2022 3 gA (idA 1) 1 okA_key (by decide)).trans (by rw [gA_key])
 have g7:=(xg2011 [] eA (by decide) (by decide)).trans (by rw [gA_app])
 have hea:eA.map Edit.row=[[.v (.string ⟨#[97]⟩),.v (.int .i64 1),.v (.int .i64 1),.v (.int .i64 0),.sl [],.v (.int .i64 1),.v (.string ⟨#[]⟩),.v (.int .i64 0),.v (.string ⟨#[]⟩),.v (.int .i64 0),.v (.bool false),.v (.string ⟨#[]⟩),.v (.string ⟨#[]⟩),.v (.string ⟨#[]⟩),.v (.string ⟨#[103,114,111,117,112]⟩),.v (.string ⟨#[]⟩),.v (.int .i64 0),.v (.string ⟨#[]⟩)],[.v (.string ⟨#[97]⟩),.v (.int .i64 2),.v (.int .i64 2),.v (.int .i64 0),.sl [[.v (.string ⟨#[97]⟩),.v (.int .i64 1)]],.v (.int .i64 1),.v (.string ⟨#[]⟩),.v (.int .i64 0),.v (.string ⟨#[97]⟩),.v (.int .i64 1),.v (.bool false),.v (.string ⟨#[1]⟩),.v (.string ⟨#[]⟩),.v (.string ⟨#[]⟩),.v (.string ⟨#[112,97,114,97,109]⟩),.v (.string ⟨#[]⟩),.v (.int .i64 0),.v (.string ⟨#[]⟩)],[.v (.string ⟨#[97]⟩),.v (.int .i64 3),.v (.int .i64 3),.v (.int .i64 0),.sl [[.v (.string ⟨#[97]⟩),.v (.int .i64 2)]],.v (.int .i64 2),.v (.string ⟨#[97]⟩),.v (.int .i64 1),.v (.string ⟨#[97]⟩),.v (.int .i64 2),.v (.bool false),.v (.string ⟨#[]⟩),.v (.string ⟨#[]⟩),.v (.string ⟨#[]⟩),.v (.string ⟨#[]⟩),.v (.string ⟨#[]⟩),.v (.int .i64 0),.v (.string ⟨#[]⟩)],[.v (.string ⟨#[97]⟩),.v (.int .i64 4),.v (.int .i64 4),.v (.int .i64 0),.sl [[.v (.string ⟨#[97]⟩),.v (.int .i64 3)]],.v (.int .i64 1),.v (.string ⟨#[]⟩),.v (.int .i64 0),.v (.string ⟨#[97]⟩),.v (.int .i64 1),.v (.bool false),.v (.string ⟨#[]⟩),.v (.string ⟨#[]⟩),.v (.string ⟨#[]⟩),.v (.string ⟨#[112,97,114,97,109]⟩),.v (.string ⟨#[]⟩),.v (.int .i64 0),.v (.string ⟨#[]⟩)]]:=rfl
 rw [hea] at g7
 have hgl:gA.length=3:=rfl
 rw [i1] at g6
 simp only [List.map_cons,List.map_nil,i1] at g4 g5 g7
 simp only [ratP,ratV,oA,tA,hA] at g2a g2b g3 g6
 have ce:cellsEq [.b,.s,.s] [.d (.v (.bool false)),.d (.v (.string ⟨#[1]⟩)),.d (.v (.string ⟨#[2]⟩))] [.d (.v (.bool false)),.d (.v (.string ⟨#[1]⟩)),.d (.v (.string ⟨#[2]⟩))]=some true:=by kernel_rfl
 obtain ⟨G,hG⟩:∃ G,G=gA:=⟨_,rfl⟩
 rw [← hG] at g4 g6 g7 hgl
 clear hG hea
 refine acallsX (X:=[(26,x2026),(28,x2028),(27,x2027),(15,x2015),(14,x2014),(22,x2022 3),(11,x2011)]) ⟨kx2026.gm,kx2028.gm,kx2027.gm,kx2015.gm,kx2014.gm,(kx2022 3).gm,kx2011,trivial⟩ tab hmix func10 c2010 (by rfl) fun hw=>?_
 simp -implicitDefEqProofs (disch:=omega) [gz,ir2010,b2010,b2010_0,b2010_1,b2010_2,b2010_3,b2010_4,b2010_5,s1,s2,s3,s4,s5,s6,s7,g1,i1,g2a,g2b,g3,g4,g5,g6,g7,hgl,ce,ratV,ratP,oA,tA,hA,wrap64,fillC,fillR,splice,toPVs,toPV,toDs,toD,frzVs,osVs,Nat.add_assoc]
 repeat' with_reducible apply And.intro
 all_goals first|omega|kernel_rfl|exact fun _ _=>rfl|skip
 exact fin_junk (A:=[]) hw rfl trivial ⟨rfl,rfl⟩
def x2010:XE:=mkX true (fun (_:Unit)=>[]) (fun _=>True) (fun _=>.bool true)
theorem kx2010:Contract prog (GM 0) 10 x2010:=mkX_scal (fun _=>rfl) fun _ _=>k2010
theorem xg2010:x2010.g []=some (True,.bool true):=mkX_g (fun _ _ _=>rfl) () trivial
structure OkT (l:List TN) (es:List Edit):Prop where
 ll:l.length<1152921504606846976
 n:∀ t∈l,OkN t
 el:es.length<1152921504606846976
 e:∀ e∈es,OkE e
 s:∀ e∈es,Siz e
end Go.Aw.Try
namespace Go.Aw
open Go
inductive Sh where
 | i (k:IntKind)
 | b
 | s
 | sl (es:List Sh)
mutual
def okSh:Sh→D→Prop
 | .i k,d=>∃ n,d = .v (.int k n)∧(Lit.int k n).wf=true
 | .b,d=>∃ x,d = .v (.bool x)
 | .s,d=>∃ x,d = .v (.string x)
 | .sl es,d=>∃ xs,d = .sl xs∧∀ x∈xs,okShs es x
def okShs:List Sh→List D→Prop
 | [],l=>l=[]
 | e :: es,l=>∃ d r,l=d :: r∧okSh e d∧okShs es r
end
theorem okShs_len:∀ {es:List Sh} {l:List D},okShs es l→l.length=es.length
 | [],l,h=>by simp only [okShs] at h; subst h; rfl
 | e :: es,l,h=>by
  simp only [okShs] at h
  obtain ⟨d,r,rfl,_,h⟩:=h
  simp [okShs_len h]
theorem okShs_app:∀ {es es':List Sh} {l l':List D},okShs es l→okShs es' l'→okShs (es ++ es') (l ++ l')
 | [],es',l,l',h,h'=>by simp only [okShs] at h; subst h; exact h'
 | e :: es,es',l,l',h,h'=>by
  simp only [okShs] at h
  obtain ⟨d,r,rfl,h1,h⟩:=h
  simp only [List.cons_append,okShs]
  exact ⟨d,r ++ l',rfl,h1,okShs_app h h'⟩
section
variable (P:Program)
mutual
def shT:Nat→TypeId→Option (List Sh)
 | 0,_=>none
 | n+1,t=>match P.underlying t with
  | some .bool=>some [.b]
  | some (.int k)=>some [.i k]
  | some .string=>some [.s]
  | some (.slice e)=>match shT n e with
   | some es=>if P.cellsOf e=es.length∧0<es.length then some [.sl es] else none
   | none=>none
  | some (.struct fs)=>match shF n 0 fs.toList with
   | some es=>if P.cellsOf t=es.length then some es else none
   | none=>none
  | _=>none
def shF:Nat→Nat→List Field→Option (List Sh)
 | _,_,[]=>some []
 | 0,_,_=>none
 | n+1,run,f :: r=>if f.offset=run then match shT n f.type with
  | some es=>if P.cellsOf f.type=es.length then match shF n (run+es.length) r with
   | some l=>some (es ++ l)
   | none=>none else none
  | none=>none else none
end
end
section
variable {H:Type}
mutual
def datD:DataW H→List D
 | .lit (.int k n)=>[.v (.int k n)]
 | .lit (.bool b)=>[.v (.bool b)]
 | .lit (.string bs)=>[.v (.string ⟨bs.toArray⟩)]
 | .nil=>[.sl []]
 | .slice es _=>[.sl (datDs es)]
 | .agg ps=>datF ps
 | _=>[]
def datDs:List (DataW H)→List (List D)
 | []=>[]
 | d :: r=>datD d :: datDs r
def datF:List (DataW H)→List D
 | []=>[]
 | d :: r=>datD d ++ datF r
end
theorem datDs_len:∀ l:List (DataW H),(datDs l).length=l.length
 | []=>rfl
 | d :: r=>by simp [datDs,datDs_len r]
theorem datDs_get:∀ (l:List (DataW H)) (i:Nat),(datDs l)[i]? = (l[i]?).map datD
 | [],i=>by simp [datDs]
 | d :: r,0=>by simp [datDs]
 | d :: r,i+1=>by simp [datDs,datDs_get r i]
end
theorem mapM_some {α β:Type} {f:α→Option β}:∀ {l:List α} {r:List β},l.mapM f=some r→r.length=l.length∧∀ (i:Nat) x,l[i]? = some x→∃ y,r[i]? = some y∧f x=some y
 | [],r,h=>by simp at h; subst h; simp
 | a :: l,r,h=>by
  rw [List.mapM_cons] at h
  cases hf:f a with
  | none=>rw [hf] at h; cases h
  | some b =>
   rw [hf] at h
   cases hm:l.mapM f with
   | none=>rw [hm] at h; cases h
   | some r' =>
    rw [hm] at h
    have h:some (b :: r')=some r:=h
    injection h with h; subst h
    obtain ⟨h1,h2⟩:=mapM_some hm
    refine ⟨by simp [h1],fun i x hx=>?_⟩
    cases i with
    | zero=>simp at hx; subst hx; exact ⟨b,by simp,hf⟩
    | succ i=>simp at hx; obtain ⟨y,hy,hz⟩:=h2 i x hx; exact ⟨y,by simpa using hy,hz⟩
def Rd (w:World) (es:List Sh) (cs:List Value) (ds:List D):Prop :=
 okShs es ds∧cs.length=es.length∧∀ (i:Nat) d v,ds[i]? = some d→cs[i]? = some v→DRel (fun b=>b<w.heap.size) w d v
theorem Rd.one {w:World} {e:Sh} {v:Value} {d:D} (h:okSh e d) (hd:DRel (fun b=>b<w.heap.size) w d v):Rd w [e] [v] [d] :=
 ⟨by simp only [okShs]; exact ⟨d,[],rfl,h,rfl⟩,rfl,fun i d' v' h1 h2=>by
  cases i with
  | zero=>simp at h1 h2; subst h1; subst h2; exact hd
  | succ i=>simp at h1⟩
theorem Rd.app {w:World} {es es':List Sh} {cs cs':List Value} {ds ds':List D} (h:Rd w es cs ds) (k:Rd w es' cs' ds'):Rd w (es ++ es') (cs ++ cs') (ds ++ ds'):=by
 have l1:=okShs_len h.1
 refine ⟨okShs_app h.1 k.1,by simp [h.2.1,k.2.1],fun i d v h1 h2=>?_⟩
 rw [List.getElem?_append] at h1 h2
 rw [l1] at h1
 rw [h.2.1] at h2
 split at h1
 ·rename_i hi; rw [if_pos hi] at h2; exact h.2.2 i d v h1 h2
 ·rename_i hi; rw [if_neg hi] at h2; exact k.2.2 _ d v h1 h2
theorem cells_get {w:World} {a:Addr} {n:Nat} {cs:List Value} (h:w.cells? 0 a n=some cs):cs.length=n∧∀ (j:Nat) v,cs[j]? = some v→w.cell? (a.add j)=some v:=by
 unfold World.cells? at h
 rw [if_pos (Nat.zero_le _)] at h
 obtain ⟨h1,h2⟩:=mapM_some h
 rw [List.length_range] at h1
 refine ⟨h1,fun j v hv=>?_⟩
 have hj:j<n:=by
  have:=(List.getElem?_eq_some_iff.1 hv).1; omega
 obtain ⟨y,hy,hz⟩:=h2 j j (by simp [hj])
 rw [hv] at hy; injection hy with hy; subst hy
 exact hz
theorem cell_spot {w:World} {a:Addr} {v:Value} (h:w.cell? a=some v):a.spot=none∧a.block<w.heap.size:=by
 unfold World.cell? at h
 split at h
 ·rename_i c _ _ hb
  refine ⟨?_,(Array.getElem?_eq_some_iff.1 hb).1⟩
  cases hs:a.spot with
  | none=>rfl
  | some x=>rw [hs] at h; simp at h
 ·cases h
section
variable {H:Type} {enc:TypeId×Value→H} {P:Program} {w:World} {sp:Nat→Bool} {held:Bool}
theorem trod_fields {fuel:Nat} (ih:∀ (n:Nat) (t:TypeId) (es:List Sh) (cs:List Value) (d:DataW H) (ps:List MemPlace),shT P n t=some es→DataW.trod enc P w 0 sp held fuel t cs=some (d,ps)→Rd w es cs (datD d)) :
  ∀ (fs:List Field) (n run:Nat) (es:List Sh) (cs:List Value) (xs:List (DataW H×List MemPlace)),shF P n run fs=some es →
   fs.mapM (fun f=>DataW.trod enc P w 0 sp held fuel f.type ((cs.drop f.offset).take (P.cellsOf f.type)))=some xs→run+es.length≤cs.length→Rd w es ((cs.drop run).take es.length) (datF (xs.map (·.1)))
 | [],n,run,es,cs,xs,h,hm,hl=>by
  have:es=[]:=by cases n <;> · simp only [shF] at h; injection h with h; exact h.symm
  subst this
  simp at hm; subst hm
  exact ⟨by simp [datF,okShs],by simp,fun i d v h1=>by simp [datF] at h1⟩
 | f :: fs,0,run,es,cs,xs,h,hm,hl=>by simp [shF] at h
 | f :: fs,n+1,run,es,cs,xs,h,hm,hl=>by
  simp only [shF] at h
  split at h
  ·rename_i ho
   split at h
   ·rename_i es1 h1
    split at h
    ·rename_i hc
     split at h
     ·rename_i l h2
      injection h with h; subst h
      rw [List.mapM_cons] at hm
      cases hf:DataW.trod enc P w 0 sp held fuel f.type ((cs.drop f.offset).take (P.cellsOf f.type)) with
      | none=>rw [hf] at hm; cases hm
      | some x =>
       rw [hf] at hm
       cases hr:fs.mapM (fun f=>DataW.trod enc P w 0 sp held fuel f.type ((cs.drop f.offset).take (P.cellsOf f.type))) with
       | none=>rw [hr] at hm; cases hm
       | some xs' =>
        rw [hr] at hm
        have hm:some (x :: xs')=some xs:=hm
        injection hm with hm; subst hm
        simp only [List.length_append] at hl
        have g1:=ih n f.type es1 _ x.1 x.2 h1 hf
        have g2:=trod_fields ih fs n (run+es1.length) l cs xs' h2 hr (by omega)
        rw [ho,hc] at g1
        have e:(cs.drop run).take (es1 ++ l).length=(cs.drop run).take es1.length ++ (cs.drop (run+es1.length)).take l.length:=by
         rw [List.length_append,List.take_add,List.drop_drop]
        rw [e]
        exact g1.app g2
     ·cases h
    ·cases h
   ·cases h
  ·cases h
theorem trod_rd:∀ (fuel n:Nat) (t:TypeId) (es:List Sh) (cs:List Value) (d:DataW H) (ps:List MemPlace),shT P n t=some es→DataW.trod enc P w 0 sp held fuel t cs=some (d,ps)→Rd w es cs (datD d)
 | 0,n,t,es,cs,d,ps,hs,h=>by simp [DataW.trod] at h
 | fuel+1,0,t,es,cs,d,ps,hs,h=>by simp [shT] at hs
 | fuel+1,n+1,t,es,cs,d,ps,hs,h=>by
  have ih:=trod_rd fuel
  cases hu:P.underlying t with
  | none=>simp [shT,hu] at hs
  | some td =>
   unfold DataW.trod at h
   simp only [shT,hu] at hs
   rw [hu] at h
   cases td <;> simp only at hs <;> first | (cases hs; done) | skip
   case bool =>
    injection hs with hs; subst hs
    split at h <;> first | (rename_i e; cases e; done) | (rename_i e _; cases e; done) | (rename_i e _ _; cases e; done) | skip
    ·injection h with h; injection h with h1 h2; subst h1
     exact Rd.one ⟨_,rfl⟩ (.v _ rfl)
    ·cases h
   case int k =>
    injection hs with hs; subst hs
    split at h <;> first | (rename_i e; cases e; done) | (rename_i e _; cases e; done) | (rename_i e _ _; cases e; done) | skip
    ·rename_i e
     injection e with e; injection e with e; subst e
     split at h
     ·rename_i hk
      obtain ⟨rfl,hw⟩:=hk
      injection h with h; injection h with h1 h2; subst h1
      exact Rd.one ⟨_,rfl,hw⟩ (.v _ rfl)
     ·cases h
    ·cases h
   case string =>
    injection hs with hs; subst hs
    split at h <;> first | (rename_i e; cases e; done) | (rename_i e _; cases e; done) | (rename_i e _ _; cases e; done) | skip
    ·rename_i s0 e
     split at h
     ·injection h with h; injection h with h1 h2; subst h1
      exact Rd.one ⟨_,rfl⟩ (by simpa [datD] using DRel.v (.string s0) rfl)
     ·cases h
    ·cases h
   case slice e =>
    split at hs
    ·rename_i es1 h1
     split at hs
     ·rename_i hc
      injection hs with hs; subst hs
      split at h <;> first | (rename_i e; cases e; done) | (rename_i e _; cases e; done) | (rename_i e _ _; cases e; done) | skip
      ·injection h with h; injection h with h1 h2; subst h1
       exact Rd.one ⟨[],rfl,by simp⟩ (.nil none 0)
      ·rename_i e' a len cap heq
       injection heq with heq; injection heq with heq; subst heq
       simp only at h
       split at h
       ·rename_i hcap
        cases hm:(List.range len).mapM (fun i=>(w.cells? 0 (a.add (i*P.cellsOf e)) (P.cellsOf e)).bind (DataW.trod enc P w 0 sp held fuel e)) with
        | none=>rw [hm] at h; cases h
        | some elems =>
         rw [hm] at h
         simp only [Option.bind_some,Option.map_eq_some_iff] at h
         obtain ⟨rest,_,h⟩:=h
         injection h with h2 h3; subst h2
         obtain ⟨hlen,hget⟩:=mapM_some hm
         rw [List.length_range] at hlen
         have hel:∀ (i:Nat) x,elems[i]? = some x→∃ cs,w.cells? 0 (a.add (i*es1.length)) es1.length=some cs∧Rd w es1 cs (datD x.1):=fun i x hx=>by
          have hi:i<len:=by have:=(List.getElem?_eq_some_iff.1 hx).1; omega
          obtain ⟨y,hy,hz⟩:=hget i i (by simp [hi])
          rw [hx] at hy; injection hy with hy; subst hy
          simp only [Option.bind_eq_some_iff] at hz
          obtain ⟨cs,hcs,hz⟩:=hz
          rw [hc.1] at hcs
          exact ⟨cs,hcs,ih n e es1 cs x.1 x.2 h1 hz⟩
         have hget':∀ (i:Nat) y,(datDs (elems.map (·.1)))[i]? = some y→∃ x,elems[i]? = some x∧y=datD x.1:=fun i y hy=>by
          rw [datDs_get,List.getElem?_map] at hy
          cases hx:elems[i]? with
          | none=>rw [hx] at hy; cases hy
          | some x=>rw [hx] at hy; simp at hy; exact ⟨x,rfl,hy.symm⟩
         have hok:∀ y∈datDs (elems.map (·.1)),okShs es1 y:=fun y hy=>by
          obtain ⟨i,hi⟩:=List.getElem?_of_mem hy
          obtain ⟨x,hx,rfl⟩:=hget' i y hi
          obtain ⟨cs,_,hr⟩:=hel i x hx
          exact hr.1
         refine Rd.one ⟨_,rfl,hok⟩ ?_
         by_cases hl0:len=0
         ·have:elems=[]:=List.length_eq_zero_iff.1 (by omega)
          subst this; subst hl0
          exact .nil _ _
         ·obtain ⟨x0,hx0⟩:∃ x0,elems[0]? = some x0:=⟨elems[0]'(by omega),by simp⟩
          obtain ⟨cs0,hcs0,hr0⟩:=hel 0 x0 hx0
          obtain ⟨g1,g2⟩:=cells_get hcs0
          obtain ⟨v0,hv0⟩:∃ v0,cs0[0]? = some v0:=⟨cs0[0]'(by omega),by simp⟩
          have hsp:=cell_spot (g2 0 v0 hv0)
          have ha0:(a.add (0*es1.length)).add 0=a:=by simp [Addr.add]
          rw [ha0] at hsp
          have hadd:∀ i j,(a.add (i*es1.length)).add j=⟨a.block,a.off+i*es1.length+j,none⟩:=fun i j=>by
           cases a with
           | mk b o sp0 =>
            have:sp0=none:=hsp.1
            subst this
            unfold Addr.add
            split
            ·split
             ·rename_i q1 q2; simp [q1,q2]
             ·rename_i q1 q2; simp [q1]
            ·split
             ·rename_i q1 q2; simp [q2]
             ·rfl
          obtain ⟨b,o,sp0⟩:=a
          have:sp0=none:=hsp.1
          subst this
          have hlen':(datDs (elems.map (·.1))).length=len:=by rw [datDs_len,List.length_map,hlen]
          have hcell:∀ (i:Nat) (y:List D) (j:Nat) (d:D),(datDs (elems.map (·.1)))[i]? = some y→y[j]? = some d→∃ v,w.cell? ⟨b,o+i*es1.length+j,none⟩=some v∧DRel (fun b=>b<w.heap.size) w d v:=fun i y j d hy hd=>by
           obtain ⟨x,hx,rfl⟩:=hget' i y hy
           obtain ⟨cs,hcs,hr⟩:=hel i x hx
           obtain ⟨q1,q2⟩:=cells_get hcs
           have hj:j<cs.length:=by
            have:=(List.getElem?_eq_some_iff.1 hd).1
            rw [okShs_len hr.1] at this; omega
           have hv:cs[j]? = some cs[j]:=by simp [hj]
           refine ⟨cs[j],?_,hr.2.2 j d _ hd hv⟩
           have:=q2 j _ hv
           rw [hadd] at this; exact this
          have:=DRel.sl (S:=fun b=>b<w.heap.size) (w:=w) (datDs (elems.map (·.1))) b o cap es1.length (fun i j=>(w.cell? ⟨b,o+i*es1.length+j,none⟩).getD undef) hsp.2 hsp.2 (by rw [hlen']; exact hcap.2.1)
           (fun i x hx=>by
            obtain ⟨x',hx',rfl⟩:=hget' i x hx
            obtain ⟨cs,_,hr⟩:=hel i x' hx'
            exact okShs_len hr.1)
           (fun i x j d hi hj=>by obtain ⟨v,hv,_⟩:=hcell i x j d hi hj; rw [hv]; rfl)
           (fun i x j d hi hj=>by obtain ⟨v,hv,hr⟩:=hcell i x j d hi hj; rw [hv]; exact hr)
          rw [hlen'] at this
          exact this
       ·cases h
      ·cases h
     ·cases hs
    ·cases hs
   case struct fs =>
    split at hs
    ·rename_i es1 h1
     split at hs
     ·rename_i hc
      injection hs with hs; subst hs
      split at h <;> first | (rename_i e; cases e; done) | (rename_i e _; cases e; done) | (rename_i e _ _; cases e; done) | skip
      ·rename_i fs' heq
       injection heq with heq; injection heq with heq; subst heq
       split at h
       ·rename_i hlen
        simp only [Option.map_eq_some_iff] at h
        obtain ⟨xs,hm,h⟩:=h
        injection h with h2 h3; subst h2
        have:=trod_fields ih fs.toList n 0 es1 _ xs h1 hm (by omega)
        rw [List.drop_zero,List.take_of_length_le (by omega)] at this
        exact this
       ·cases h
      ·exact (‹∀ fs_1,some (TypeDesc.struct fs)=some (TypeDesc.struct fs_1)→False› fs rfl).elim
     ·cases hs
    ·cases hs
theorem vals_of_trod:∀ {ts:List TypeId} {vs:List Value} {ds:List (DataW H)} {ps:List MemPlace},DataW.TrodAll enc P w 0 sp held ts vs ds ps →
  ∀ (n:Nat) (ess:List (List Sh)),ts.map (shT P n)=ess.map some→vs.length=ts.length∧ds.length=ts.length ∧
   ∀ (i:Nat) es v d,ess[i]? = some es→vs[i]? = some v→ds[i]? = some d→Rd w es v.cells.toList (datD d)
 | [],[],[],ps,h,n,ess,he=>by
  have:ess=[]:=by cases ess <;> simp_all
  subst this
  simp
 | t :: ts,v :: vs,d :: ds,ps,h,n,ess,he=>by
  obtain ⟨p,q,⟨fuel,h1⟩,h2,_⟩:=h
  match ess,he with
  | es :: ess,he =>
   simp only [List.map_cons,List.cons.injEq] at he
   obtain ⟨g1,g2,g3⟩:=vals_of_trod h2 n ess he.2
   refine ⟨by simp [g1],by simp [g2],fun i es' v' d' hi hv hd=>?_⟩
   cases i with
   | zero=>simp at hi hv hd; subst hi; subst hv; subst hd; exact trod_rd fuel n t es _ _ _ he.1 h1
   | succ i=>simp at hi hv hd; exact g3 i es' v' d' hi hv hd
 | [],_ :: _,_,_,h,_,_,_=>by cases h
 | [],[],_ :: _,_,h,_,_,_=>by cases h
 | _ :: _,[],_,_,h,_,_,_=>by cases h
 | _ :: _,_ :: _,[],_,h,_,_,_=>by cases h
def argV (agg:Bool) (ds:List D):V:=if agg then .agg (ds.map .d) else match ds with | [d]=>.c (.d d) | _=>.any
theorem argV_rel {k:K} (hS:k.S=fun b=>b<k.w.heap.size) {es:List Sh} {v:Value} {ds:List D} {agg:Bool} (h:Rd k.w es v.cells.toList ds) (ha:agg=true→∃ cs,v = .agg cs) (hna:agg=false→v.cells = #[v]∧es.length=1) :
  VRel P k (argV agg ds) v:=by
 cases agg with
 | true =>
  obtain ⟨cs,rfl⟩:=ha rfl
  have hl:=okShs_len h.1
  have h2:=h.2.1
  refine ⟨cs,rfl,?_,fun i c v hc hv=>?_⟩
  ·simp [Value.cells] at h2; simp [hl,h2]
  ·rw [List.getElem?_map] at hc
   cases hd:ds[i]? with
   | none=>rw [hd] at hc; cases hc
   | some d =>
    rw [hd] at hc; simp at hc; subst hc
    have:=h.2.2 i d v hd (by simpa [Value.cells] using hv)
    show DRel k.S k.w d v
    rw [hS]; exact this
 | false =>
  obtain ⟨hc,he⟩:=hna rfl
  have hl:=okShs_len h.1
  match ds,hl with
  | [d],_ =>
   have:=h.2.2 0 d v rfl (by rw [hc]; rfl)
   show DRel k.S k.w d v
   rw [hS]; exact this
  | [],hl=>rw [he] at hl; cases hl
  | _ :: _ :: _,hl=>rw [he] at hl; simp at hl
theorem stab_nil0 (w:World):(ctx (fun _=>none) [] w).S=fun b=>b<w.heap.size:=by
 funext b
 apply propext
 constructor
 ·intro h; exact h.1
 ·intro h; exact ⟨h,fun r o hr=>by simp at hr⟩
theorem hrel_nil (w:World):HRel P (fun _=>none) [] w:=⟨fun r o hr=>by simp at hr,fun r r' o o' b hr=>by simp at hr,fun r b hr=>by cases hr⟩
theorem post_of_acalls {G0:Gl} (hl:laidOutB P=true) {f:Nat} {fn:Func} {s:ChangeSpec} {W:World} (hG0:GRel G0 (stab (fun _=>none) [] W) W) {args:Array Value} {ds gs:List (DataW H)} {before:List MemPlace} {us:List V} {R:T→List O→Prop} {apart handsOn:Bool} {tb:TypeId}
  (hres:fn.resultTypes = #[tb]) (hb:P.underlying tb=some .bool) (hvars:s.vars=[]) (hspec:s.fn H (ds ++ gs) = { results:=[.lit (.bool true)],args:=ds })
  (hparams:∀ t∈fn.params.toList,P.readableRec t=true∧t<P.types.size)
  (hW:DataW.Whole enc P fn.params.toList s.vars apart W args.toList ds gs before)
  (hv:VsRel P (ctx (fun _=>none) [] W) us args) (h:ACalls P G0 f us [] R) (hR:∀ t H,R t H→t = .bool true) :
  Calls P f args W fun e W'=>∃ v,e = .returned v∧s.post enc P fn apart true handsOn false W args v W':=by
 refine (h.2 (fun _=>none) W args (hrel_nil W) hG0 hv).mono ?_
 rintro e W' ⟨v,t,ρ',H',rfl,hRt,hH,ht,le⟩
 have:=hR t H' hRt
 subst this
 have hvt:v = .bool true:=drel_v ht
 subst hvt
 have hstep:=le.step
 rw [stab_nil0] at hstep
 have hkeep:∀ b,b<W.heap.size→W'.heap[b]? = W.heap[b]? := hstep.keep
 obtain ⟨p,q,hA,hV,hpq,hz,hn⟩:=id hW
 have hlt:∀ x∈before,x.block<W.heap.size:=fun x hx=>by simpa using hW.lt x hx
 have hq:q=[]:=by rw [hvars] at hV; cases gs <;> simp [DataW.TrodVars] at hV; exact hV
 subst hq
 rw [List.append_nil] at hpq
 have hbelow:Go.RowKit.Below W.heap.size W W':=⟨hstep.os,hstep.tape,hstep.output,hstep.size,hkeep⟩
 have hargs:∀ (ts:List TypeId) (vs:List Value) (ds:List (DataW H)) (ps:List MemPlace),(∀ t∈ts,P.readableRec t=true∧t<P.types.size)→(∀ x∈ps,x.block<W.heap.size)→DataW.TrodAll enc P W 0 (fun _=>true) true ts vs ds ps →
   DataW.TrodAll enc P W' 0 (fun b=>decide (b<W.heap.size)) true ts vs ds ps:=by
  intro ts
  induction ts with
  | nil=>intro vs ds ps _ _ h; cases vs <;> cases ds <;> exact h
  | cons t ts ih =>
   intro vs ds ps hp hlt h
   cases vs with
   | nil=>cases h
   | cons v vs =>
    cases ds with
    | nil=>cases h
    | cons d ds =>
     obtain ⟨p,q,h1,h2,rfl⟩:=h
     have ht:=hp t List.mem_cons_self
     exact ⟨p,q,Go.RowKit.Below.trod hl ht.1 ht.2 h1 hbelow (fun x hx=>hlt x (List.mem_append_left _ hx)),ih vs ds q (fun t ht=>hp t (List.mem_cons_of_mem _ ht)) (fun x hx=>hlt x (List.mem_append_right _ hx)) h2,rfl⟩
 refine ⟨_,rfl,ds,gs,before,[],before,[],hW,?_,?_,?_,?_,fun h=>by cases h⟩
 ·rw [hspec,hres]
  exact ⟨[],[],Go.RowKit.shut_bool hb true,rfl,rfl⟩
 ·rw [hspec]; exact hargs _ _ _ _ hparams hlt (hpq▸hA)
 ·rw [hspec,hvars]; simp [DataW.TrodVars]
 ·refine ⟨hstep.os,hstep.output,fun i hi=>?_⟩
  rw [hkeep i hi]
  cases W.heap[i]? with
  | none=>simp
  | some o=>cases o <;> simp
end
section
variable {P:Program} {w:World}
def aggT (P:Program) (t:TypeId):Bool:=match P.underlying t with
 | some (.struct _)=>true
 | some (.array _ _)=>true
 | _=>false
theorem okWide_one {r:Reach} {base:Nat} {t:TypeId} {v:Value} (ha:aggT P t=false) (h:Value.okWide P w r base t v):v.cells = #[v]:=by
 unfold aggT at ha
 unfold Value.okWide at h
 cases hu:P.underlying t with
 | none =>
  rw [hu] at h
  cases v <;> first | rfl | (simp [Cell.okWide,Cell.ok,hu] at h)
 | some td =>
  rw [hu] at h ha
  cases td <;> first | (cases ha; done) | (cases v <;> first | rfl | (simp [Cell.okWide,Cell.ok,hu] at h))
theorem okWide_agg {r:Reach} {base:Nat} {t:TypeId} {v:Value} (ha:aggT P t=true) (h:Value.okWide P w r base t v):∃ cs,v = .agg cs:=by
 unfold aggT at ha
 unfold Value.okWide at h
 cases hu:P.underlying t with
 | none=>rw [hu] at ha; cases ha
 | some td =>
  rw [hu] at h ha
  cases td <;> first | (cases ha; done) | (obtain ⟨cs,e,_⟩:=h; exact ⟨cs,e⟩)
theorem shT_one {n:Nat} {t:TypeId} {es:List Sh} (ha:aggT P t=false) (h:shT P n t=some es):es.length=1:=by
 cases n with
 | zero=>simp [shT] at h
 | succ n =>
  unfold aggT at ha
  cases hu:P.underlying t with
  | none=>simp [shT,hu] at h
  | some td =>
   rw [hu] at ha
   simp only [shT,hu] at h
   cases td <;> simp only at h <;> first | (cases h; done) | (cases ha; done) | (injection h with h; subst h; rfl) | skip
   split at h
   ·split at h
    ·injection h with h; subst h; rfl
    ·cases h
   ·cases h
variable {H:Type} {enc:TypeId×Value→H}
theorem law_calls {G0:Gl} (hl:laidOutB P=true) {f:Nat} {fn:Func} {s:ChangeSpec} {W:World} (hG0:GRel G0 (stab (fun _=>none) [] W) W) {base:Nat} {args:Array Value} {ds gs:List (DataW H)} {before:List MemPlace} {apart handsOn:Bool} {tb:TypeId}
  {n:Nat} {ess:List (List Sh)} {aggs:List Bool} (hts:fn.params.toList.map (shT P n)=ess.map some) (hag:fn.params.toList.map (aggT P)=aggs)
  (hres:fn.resultTypes = #[tb]) (hb:P.underlying tb=some .bool) (hvars:s.vars=[]) (hspec:∀ ds:List (DataW H),ds.length=fn.params.toList.length→s.fn H ds = { results:=[.lit (.bool true)],args:=ds })
  (hparams:fn.params.toList.all (fun t=>P.readableRec t && decide (t<P.types.size))=true)
  (hval:∀ (j:Nat) t v,fn.params[j]? = some t→args[j]? = some v→Value.okWide P W .any base t v)
  (hW:DataW.Whole enc P fn.params.toList s.vars apart W args.toList ds gs before)
  (h:(ds.map datD).length=ess.length→(∀ (i:Nat) es u,ess[i]? = some es→(ds.map datD)[i]? = some u→okShs es u)→gs=[]→ACalls P G0 f (List.zipWith argV aggs (ds.map datD)) [] fun t _=>t = .bool true) :
  Calls P f args W fun e W'=>∃ v,e = .returned v∧s.post enc P fn apart true handsOn false W args v W':=by
 obtain ⟨p,q,hA,hV,hpq,hz,hn⟩:=id hW
 have hgs:gs=[]:=by rw [hvars] at hV; cases gs <;> simp [DataW.TrodVars] at hV; rfl
 subst hgs
 obtain ⟨l1,l2,hr⟩:=vals_of_trod hA n ess hts
 have hel:ess.length=fn.params.toList.length:=by have:=congrArg List.length hts; simpa using this.symm
 have hal:aggs.length=fn.params.toList.length:=by rw [← hag]; simp
 have hok:=h (by simp [l2,hel]) (fun i es u he hu=>by
  rw [List.getElem?_map] at hu
  cases hd:ds[i]? with
  | none=>rw [hd] at hu; cases hu
  | some d =>
   rw [hd] at hu; simp at hu; subst hu
   have hi:i<args.toList.length:=by rw [l1,← l2]; exact (List.getElem?_eq_some_iff.1 hd).1
   exact (hr i es _ d he (List.getElem?_eq_getElem hi) hd).1) rfl
 refine post_of_acalls hl hG0 (ds:=ds) (gs:=[]) hres hb hvars (by rw [List.append_nil]; exact hspec ds l2) (fun t ht=>?_) hW ?_ hok (fun t H h=>h)
 ·have:=List.all_eq_true.1 hparams t ht
  simp at this; exact this
 ·refine ⟨by simp [hal,l2]; simpa using l1,fun i c v hc hv=>?_⟩
  rw [List.getElem?_zipWith] at hc
  have hv':args.toList[i]? = some v:=by simpa using hv
  have hi:i<fn.params.toList.length:=by rw [← l1]; exact (List.getElem?_eq_some_iff.1 hv').1
  have hp:fn.params.toList[i]? = some fn.params.toList[i]:=List.getElem?_eq_getElem hi
  obtain ⟨t,ht⟩:∃ t,fn.params.toList[i]? = some t:=⟨_,hp⟩
  have hga:aggs[i]? = some (aggT P t):=by rw [← hag,List.getElem?_map,ht]; rfl
  have hsh:∃ es,ess[i]? = some es∧shT P n t=some es:=by
   have h1:(fn.params.toList.map (shT P n))[i]? = some (shT P n t):=by rw [List.getElem?_map,ht]; rfl
   rw [hts,List.getElem?_map] at h1
   cases he:ess[i]? with
   | none=>rw [he] at h1; cases h1
   | some es=>rw [he] at h1; simp at h1; exact ⟨es,rfl,h1.symm⟩
  obtain ⟨es,he,hse⟩:=hsh
  have hdi:i<ds.length:=by rw [l2]; exact hi
  have hd:ds[i]? = some ds[i]:=List.getElem?_eq_getElem hdi
  have hdm:(ds.map datD)[i]? = some (datD ds[i]):=by rw [List.getElem?_map,hd]; rfl
  rw [hga,hdm] at hc
  simp at hc
  subst hc
  have hrd:=hr i es v ds[i] he hv' hd
  have hok':=hval i t v (by simpa using ht) hv
  exact argV_rel (k:=ctx (fun _=>none) [] W) (stab_nil0 W) hrd (fun ha=>okWide_agg ha hok') (fun ha=>⟨okWide_one ha hok',shT_one ha hse⟩)
mutual
def wD:D→Nat
 | .v (.string s)=>s.size+1
 | .sl xs=>wDss xs+1
 | _=>1
def wDs:List D→Nat
 | []=>0
 | d :: r=>wD d+wDs r
def wDss:List (List D)→Nat
 | []=>0
 | x :: r=>wDs x+wDss r
end
theorem wDs_app:∀ (a b:List D),wDs (a ++ b)=wDs a+wDs b
 | [],b=>by simp [wDs]
 | d :: a,b=>by simp only [List.cons_append,wDs,wDs_app a b]; omega
end
end Go.Aw
namespace Go.Aw.Try
open Go Go.Proofs Go.Proofs.YtbehhclclhfhkaaGreatDoor Go.Aw
set_option maxRecDepth 100000
set_option maxHeartbeats 4000000
abbrev idSh:List Sh:=[.s,.i .i64]
section
variable {H:Type}
mutual
theorem bulk_D:∀ d:DataW H,wDs (datD d)≤Rows.uptoBulk d
 | .lit l=>by cases l <;> simp [datD,wDs,wD,Rows.uptoBulk,ByteArray.size]
 | .nil=>by simp [datD,wDs,wD,wDss,Rows.uptoBulk]
 | .ptr d=>by simp [datD,wDs]
 | .slice es sp=>by
  have:=bulk_Ds es
  simp only [datD,wDs,wD,Rows.uptoBulk]; omega
 | .agg ps=>by
  have:=bulk_F ps
  simp only [datD,Rows.uptoBulk]; omega
 | .iface t d=>by simp [datD,wDs]
 | .map es=>by simp [datD,wDs]
 | .held h=>by simp [datD,wDs]
theorem bulk_Ds:∀ l:List (DataW H),wDss (datDs l)≤Rows.uptoBulkAll l
 | []=>by simp [datDs,wDss]
 | d :: r=>by
  have h1:=bulk_D d
  have h2:=bulk_Ds r
  simp only [datDs,wDss,Rows.uptoBulkAll]; omega
theorem bulk_F:∀ l:List (DataW H),wDs (datF l)≤Rows.uptoBulkAll l
 | []=>by simp [datF,wDs]
 | d :: r=>by
  have h1:=bulk_D d
  have h2:=bulk_F r
  simp only [datF,Rows.uptoBulkAll]; rw [wDs_app]; omega
end
theorem bulk_args {ds:List (DataW H)} (hk:Rows.uptoSmall H ds=true):∀ (i:Nat) u,(ds.map datD)[i]? = some u→wDs u≤1048576:=by
 have h:Rows.uptoBulkAll ds≤1048576:=of_decide_eq_true hk
 intro i u hu
 have key:∀ (ds:List (DataW H)) (i:Nat) u,(ds.map datD)[i]? = some u→wDs u≤Rows.uptoBulkAll ds:=by
  intro ds
  induction ds with
  | nil=>intro i u hu; simp at hu
  | cons d r ih =>
   intro i u hu
   cases i with
   | zero=>simp at hu; subst hu; have:=bulk_D d; simp only [Rows.uptoBulkAll]; omega
   | succ i=>simp at hu; have:=ih i u (by simpa using hu); simp only [Rows.uptoBulkAll]; omega
 exact Nat.le_trans (key ds i u hu) h
end
theorem own:ownKnob prog.godebug=none:=by kernel_rfl
theorem laid:laidOutB prog=true:=by kernel_rfl
theorem trash {W:World} (h:laidMetH prog Rows.movetreeBatchesUptoRow.laid W):GRel (GM 0) (stab (fun _=>none) [] W) W:=by
 rw [Go.MakeChecks.laidMetH_plain _ _ _ (by kernel_rfl)] at h
 obtain ⟨ps,⟨_,_,_,_,_,_,_,_,_,_,⟨g,t,cs,fuel,p,q,hg,ht,hv,hd,_,_⟩,_⟩,_,_⟩:=h
 obtain rfl:=Option.some.inj ((show prog.globalNamed "voussoir/movetree.trash" = some 0 by kernel_rfl).symm.trans hg)
 obtain rfl:=Option.some.inj ((show (prog.globals[0]?).map (·.type)=some 25 by kernel_rfl).symm.trans ht)
 have hr:=trod_rd fuel 20 25 idSh _ _ _ (by kernel_rfl) hd
 obtain ⟨_,hlen,hr⟩:=hr
 have hd0:datD (H:=Unit) Rows.laid_voussoir_movetree_trash=[.v (.string ⟨#[45]⟩),.v (.int .i64 0)]:=rfl
 rw [hd0] at hr
 have h2:cs.toList.length=2:=hlen
 have c0:W.cell? ⟨0,0,none⟩=some (.string ⟨#[45]⟩):=by
  have e:=World.var?_cell hg hv 0
  have e0:cs.toList[0]? = some (cs.toList[0]'(by omega)):=List.getElem?_eq_getElem (by omega)
  have e1:=drel_v (hr 0 _ _ rfl e0)
  rw [e,← e1,← Array.getElem?_toList]; exact e0
 have c1:W.cell? ⟨0,1,none⟩=some (.int .i64 0):=by
  have e:=World.var?_cell hg hv 1
  have e0:cs.toList[1]? = some (cs.toList[1]'(by omega)):=List.getElem?_eq_getElem (by omega)
  have e1:=drel_v (hr 1 _ _ rfl e0)
  rw [e,← e1,← Array.getElem?_toList]; exact e0
 intro g cs' hg'
 unfold GM at hg'
 split at hg'
 ·rename_i h0
  subst h0
  injection hg' with hg'; subst hg'
  have hlt:0<W.heap.size:=World.block_lt_of_cell? _ _ c0
  refine ⟨⟨hlt,fun r o hr=>by simp at hr⟩,hlt,fun j d hj=>?_⟩
  cases j with
  | zero=>injection hj with hj; subst hj; exact ⟨_,c0,DRel.v _ rfl⟩
  | succ j =>
   cases j with
   | zero=>injection hj with hj; subst hj; exact ⟨_,c1,DRel.v _ rfl⟩
   | succ j=>simp at hj
 ·cases hg'
def litV:DataW Unit→Value
 | .lit (.int k n)=>.int k n
 | _=>undef
def aggV:DataW Unit→List Value
 | .agg xs=>xs.flatMap fun d=>match d with
  | .agg ys=>ys.map litV
  | d=>[litV d]
 | _=>[]
def layO (cs:Array Value):Obj→Obj
 | .cells _ t fz=>.cells cs t fz
 | o=>o
def laidWorld (os:Os):World :=
  { World.holding prog os ⟨#[],#[],[]⟩ with heap:=(((World.holding prog os ⟨#[],#[],[]⟩).heap.modify 2 (layO (aggV Go.Pinned.utf8First).toArray)).modify 3 (layO (aggV (Rows.laid_unicode_utf8_acceptRanges (H:=Unit))).toArray)).modify 0 (layO #[.string ⟨#[45]⟩,.int .i64 0]) }
theorem dec_u8 {l:List D} (h:okShs [.i .u8] l):∃ n:Nat,l=[.v (.int .u8 n)]∧n≤255:=by
 simp only [okShs,okSh] at h
 obtain ⟨_,_,rfl,⟨n,rfl,h⟩,rfl⟩:=h
 simp [Lit.wf,IntKind.bits,IntKind.signed,IntKind.min,IntKind.max] at h
 obtain ⟨k,rfl⟩:=Int.eq_ofNat_of_zero_le (a:=n) (by omega)
 exact ⟨k,rfl,by omega⟩
end Go.Aw.Try
namespace Go.Nv
def spF:Nat→Nat→Nat→Nat→Nat→Nat×Nat
 | 0,_,_,_,_=>(0,1)
 | n+1,a,b,c,d=>if (a / b+1)*d<c then (a / b+1,1) else
   (a / b*(spF n d (c-a / b*d) b (a % b)).1+(spF n d (c-a / b*d) b (a % b)).2,(spF n d (c-a / b*d) b (a % b)).1)
theorem spF_ok:∀ (n a b c d:Nat),0<b→a*d<c*b→b+d<n →
  0<(spF n a b c d).1∧0<(spF n a b c d).2∧a*(spF n a b c d).2<(spF n a b c d).1*b∧(spF n a b c d).1*d<c*(spF n a b c d).2 ∧
   ∀ x y,0<y→a*y<x*b→x*d<c*y→(spF n a b c d).1≤x∧(spF n a b c d).2≤y
 | 0,a,b,c,d,hb,h,hn=>by omega
 | n+1,a,b,c,d,hb,h,hn=>by
  obtain ⟨w,hw⟩:∃ w,w=a / b:=⟨_,rfl⟩
  obtain ⟨a',ha'⟩:∃ a',a'=a % b:=⟨_,rfl⟩
  have ea:a=w*b+a':=by rw [hw,ha',Nat.mul_comm]; exact (Nat.div_add_mod a b).symm
  have hab:a'<b:=by rw [ha']; exact Nat.mod_lt _ hb
  have key:∀ x y,0<y→a*y<x*b→w*y<x:=by
   intro x y hy hx
   have h1:w*y*b<x*b:=by
    refine Nat.lt_of_le_of_lt ?_ hx
    rw [ea,Nat.add_mul,Nat.mul_right_comm]
    exact Nat.le_add_right _ _
   exact Nat.lt_of_mul_lt_mul_right h1
  simp only [spF,← hw,← ha']
  by_cases hc:(w+1)*d<c
  ·simp only [if_pos hc]
   refine ⟨by omega,by omega,?_,by omega,fun x y hy hx _=>⟨?_,hy⟩⟩
   ·have:(w+1)*b=w*b+b:=Nat.succ_mul w b
    rw [Nat.mul_one]; omega
   ·have:=key x y hy hx
    have h2:w*1≤w*y:=Nat.mul_le_mul_left w hy
    omega
  ·simp only [if_neg hc]
   have hd:0<d:=by
    rcases Nat.eq_zero_or_pos d with q | q
    ·subst q; simp at hc h; rw [hc] at h; simp at h
    ·exact q
   have hwd:w*d<c:=by
    have h1:w*d*b<c*b:=by
     refine Nat.lt_of_le_of_lt ?_ h
     rw [ea,Nat.add_mul,Nat.mul_right_comm]
     exact Nat.le_add_right _ _
    exact Nat.lt_of_mul_lt_mul_right h1
   obtain ⟨c',hc'⟩:∃ c',c'=c-w*d:=⟨_,rfl⟩
   rw [← hc']
   have ec:c=w*d+c':=by omega
   have hcd:c'≤d:=by rw [Nat.add_mul] at hc; omega
   have h':d*a'<b*c':=by
    rw [ea,ec,Nat.add_mul,Nat.add_mul,Nat.mul_right_comm w b d] at h
    rw [Nat.mul_comm d a',Nat.mul_comm b c']; omega
   obtain ⟨i1,i2,i3,i4,i5⟩:=spF_ok n d c' b a' (by omega) h' (by omega)
   obtain ⟨u,hu⟩:∃ u,u=(spF n d c' b a').1:=⟨_,rfl⟩
   obtain ⟨v,hv⟩:∃ v,v=(spF n d c' b a').2:=⟨_,rfl⟩
   rw [← hu,← hv] at i3 i4 i5
   rw [← hu] at i1
   rw [← hv] at i2
   rw [← hu,← hv]
   refine ⟨by omega,i1,?_,?_,fun x y hy hx hxd=>?_⟩
   ·rw [ea,Nat.add_mul,Nat.add_mul,Nat.mul_right_comm w b u,Nat.mul_comm a' u,Nat.mul_comm v b]; omega
   ·rw [ec,Nat.add_mul,Nat.add_mul,Nat.mul_right_comm w u d,Nat.mul_comm v d,Nat.mul_comm c' u]; omega
   ·have hxw:=key x y hy hx
    obtain ⟨x',hx'⟩:∃ x',x'=x-w*y:=⟨_,rfl⟩
    have ex:x=w*y+x':=by omega
    obtain ⟨j1,j2⟩:=i5 y x' (by omega) (by
     rw [ex,ec,Nat.add_mul,Nat.add_mul,Nat.mul_right_comm w y d] at hxd
     rw [Nat.mul_comm d x',Nat.mul_comm y c']; omega) (by
     rw [ex,ea,Nat.add_mul,Nat.add_mul,Nat.mul_right_comm w y b] at hx
     rw [Nat.mul_comm y a',Nat.mul_comm b x']; omega)
    refine ⟨?_,j1⟩
    have:=Nat.mul_le_mul_left w j1
    omega
theorem sp_next {a b c d:Nat} (hb:0<b) (h:a*d<c*b):0<c-a / b*d∧d*(a % b)<b*(c-a / b*d):=by
 obtain ⟨w,hw⟩:∃ w,w=a / b:=⟨_,rfl⟩
 obtain ⟨a',ha'⟩:∃ a',a'=a % b:=⟨_,rfl⟩
 have ea:a=w*b+a':=by rw [hw,ha',Nat.mul_comm]; exact (Nat.div_add_mod a b).symm
 rw [← hw,← ha']
 have hwd:w*d<c:=by
  have h1:w*d*b<c*b:=by
   refine Nat.lt_of_le_of_lt ?_ h
   rw [ea,Nat.add_mul,Nat.mul_right_comm]
   exact Nat.le_add_right _ _
  exact Nat.lt_of_mul_lt_mul_right h1
 refine ⟨by omega,?_⟩
 obtain ⟨c',hc'⟩:∃ c',c'=c-w*d:=⟨_,rfl⟩
 rw [← hc']
 have ec:c=w*d+c':=by omega
 rw [ea,ec,Nat.add_mul,Nat.add_mul,Nat.mul_right_comm w b d] at h
 rw [Nat.mul_comm d a',Nat.mul_comm b c']; omega
end Go.Nv
namespace Go.Aw.Try
open Go Go.Proofs Go.Aw
set_option maxRecDepth 100000
set_option maxHeartbeats 4000000
theorem sgZ_mulP {z k:Int} (hk:0<k):sgZ (z*k)=sgZ z:=by
 unfold sgZ
 by_cases h:z=0
 ·subst h; simp
 ·by_cases q:z<0
  ·have:=Int.mul_neg_of_neg_of_pos q hk
   rw [if_neg (by omega),if_pos this,if_neg h,if_pos q]
  ·have:=Int.mul_pos (show 0<z by omega) hk
   rw [if_neg (by omega),if_neg (by omega),if_neg h,if_neg q]
structure OkS (x:Nv.Rt):Prop where
 n:x.num.size<10000000
 d:x.den.size<10000000
structure Is (x:Nv.Rt) (z:Int) (b:Nat):Prop where
 p:0<b
 e:rn x*(b:Int)=z*rd x
theorem is_mk {z:Int} {b:Nat} (hb:0<b):Is (Nv.mkI z b) z b:=⟨hb,Nv.numI_mk hb⟩
theorem rd_abs (x:Nv.Rt):((rd x).natAbs:Int)=rd x:=by have:=rd_pos x; omega
theorem add_is {x y:Nv.Rt} {z w:Int} {b d:Nat} (hx:Is x z b) (hy:Is y w d):addR x y=Nv.mkI (z*d+w*b) (b*d):=by
 obtain ⟨pb,ex⟩:=hx
 obtain ⟨pd,ey⟩:=hy
 have p1:=rd_pos x
 have p2:=rd_pos y
 have pp:=Int.mul_pos p1 p2
 unfold addR
 refine Nv.mkI_eq (by omega) (Nat.mul_pos pb pd) ?_
 have e1:((rd x*rd y).natAbs:Int)=rd x*rd y:=by omega
 rw [e1,Int.natCast_mul]
 generalize rn x=a at *
 generalize rd x=c at *
 generalize rn y=a2 at *
 generalize rd y=c2 at *
 grind
theorem neg_is {y:Nv.Rt} {w:Int} {d:Nat} (hy:Is y w d):negR y=Nv.mkI (-w) d:=by
 obtain ⟨pd,ey⟩:=hy
 have p2:=rd_pos y
 unfold negR
 refine Nv.mkI_eq (by omega) pd ?_
 rw [rd_abs]
 grind
theorem sub_is {x y:Nv.Rt} {z w:Int} {b d:Nat} (hx:Is x z b) (hy:Is y w d):subR x y=Nv.mkI (z*d-w*b) (b*d):=by
 unfold subR
 rw [neg_is hy,add_is hx (is_mk hy.p)]
 congr 1
 grind
theorem pos_is {y:Nv.Rt} {w:Int} {d:Nat} (hy:Is y w d):(0<rn y↔0<w)∧(rn y=0↔w=0):=by
 obtain ⟨pd,ey⟩:=hy
 have p2:=rd_pos y
 have pd':(0:Int)<d:=by omega
 constructor
 ·constructor
  ·intro h
   have h1:=Int.mul_pos h pd'
   rw [ey] at h1
   exact Int.pos_of_mul_pos_left h1 (by omega) |> fun h=>h
  ·intro h
   have h1:=Int.mul_pos h p2
   rw [← ey] at h1
   exact Int.pos_of_mul_pos_left h1 (by omega) |> fun h=>h
 ·constructor
  ·intro h
   rw [h,Int.zero_mul] at ey
   rcases Int.mul_eq_zero.1 ey.symm with q | q
   ·exact q
   ·omega
  ·intro h
   rw [h,Int.zero_mul] at ey
   rcases Int.mul_eq_zero.1 ey with q | q
   ·exact q
   ·omega
theorem fl_is {x:Nv.Rt} {z:Int} {b:Nat} (hx:Is x z b):flR x=Nv.mkI (z / b) 1:=by
 obtain ⟨pb,ex⟩:=hx
 have p1:=rd_pos x
 have pb':(0:Int)<b:=by omega
 unfold flR
 congr 1
 have h1:=Int.mul_ediv_mul_of_pos_left (rn x) (rd x) pb'
 have h2:=Int.mul_ediv_mul_of_pos_left z (b:Int) p1
 rw [← h1,← h2,ex,Int.mul_comm (rd x) (b:Int)]
theorem one_is:Is oneR 1 1:=is_mk (by decide)
theorem nx_is {x:Nv.Rt} {z:Int} {b:Nat} (hx:Is x z b):nxR x=Nv.mkI (z / b+1) 1:=by
 unfold nxR
 rw [fl_is hx,add_is (is_mk (by decide)) one_is]
 congr 1
 simp
theorem div_is {x y:Nv.Rt} {z w:Int} {b d:Nat} (hx:Is x z b) (hy:Is y w d) (hw:0<w):divQ x y=(Nv.mkI (z*d) (b*w.natAbs),true):=by
 have h0:=(pos_is hy).1.2 hw
 obtain ⟨pb,ex⟩:=hx
 obtain ⟨pd,ey⟩:=hy
 have p1:=rd_pos x
 have p2:=rd_pos y
 have pp:=Int.mul_pos p1 h0
 have e0:sgZ (rd x*rn y)=1:=by unfold sgZ; rw [if_neg (by omega),if_neg (by omega)]
 unfold divQ
 rw [if_neg (by omega),e0,Int.mul_one]
 congr 1
 refine Nv.mkI_eq (by omega) (Nat.mul_pos pb (by omega)) ?_
 have e1:((rd x*rn y).natAbs:Int)=rd x*rn y:=by omega
 have e2:(w.natAbs:Int)=w:=by omega
 rw [e1,Int.natCast_mul,e2]
 grind
theorem div_zero {x y:Nv.Rt} {w:Int} {d:Nat} (hy:Is y w d) (hw:w=0):divQ x y=(zR,false):=by
 have h0:=(pos_is hy).2.2 hw
 unfold divQ
 rw [h0,Int.mul_zero,if_pos rfl]
theorem cmp_is {x y:Nv.Rt} {z w:Int} {b d:Nat} (hx:Is x z b) (hy:Is y w d):cmpR x y=sgZ (z*d-w*b):=by
 obtain ⟨pb,ex⟩:=hx
 obtain ⟨pd,ey⟩:=hy
 have p1:=rd_pos x
 have p2:=rd_pos y
 have q1:(0:Int)<(b:Int)*d:=Int.mul_pos (by omega) (by omega)
 have q2:=Int.mul_pos p1 p2
 unfold cmpR
 rw [← sgZ_mulP (z:=rn x*rd y-rn y*rd x) q1,← sgZ_mulP (z:=z*d-w*b) q2]
 congr 1
 grind
theorem is_one {z:Int} {b:Nat} (hb:0<b) {x:Nv.Rt} (h:x=Nv.mkI z b):Is x z b:=h▸is_mk hb
theorem simp_sp:∀ (n:Nat) (lo hi:Nv.Rt) (bd:Bool) (a b c d:Nat),Is lo (a:Int) b→(bd=true→Is hi (c:Int) d)→(bd=false→d=0)→a*d<c*b→b+d<n →
  simpF n lo hi bd=Nv.mkI ((Nv.spF n a b c d).1:Int) (Nv.spF n a b c d).2
 | 0,lo,hi,bd,a,b,c,d,hl,hh,hz,hc,hn=>by omega
 | n+1,lo,hi,bd,a,b,c,d,hl,hh,hz,hc,hn=>by
  have hb:=hl.p
  obtain ⟨w,hw⟩:∃ w,w=a / b:=⟨_,rfl⟩
  have hfl:flR lo=Nv.mkI (w:Int) 1:=by rw [fl_is hl,hw]; rfl
  have hnx:nxR lo=Nv.mkI ((w+1:Nat):Int) 1:=by rw [nx_is hl,hw]; rfl
  obtain ⟨h1,h2⟩:=Nv.sp_next hb hc
  rw [← hw] at h1 h2
  have hstop:stopB lo hi bd=true↔(w+1)*d<c:=by
   cases bd with
   | false =>
    have hd:=hz rfl
    subst hd
    have:0<c:=by
     rcases Nat.eq_zero_or_pos c with q | q
     ·subst q; simp at hc
     ·exact q
    simp [stopB,this]
   | true =>
    have hI:=hh rfl
    unfold stopB
    rw [hnx,cmp_is (is_mk (by decide)) hI]
    simp only [Bool.not_true,Bool.false_or,decide_eq_true_eq,sgZ_neg]
    have e1:(((w+1:Nat):Int)*(d:Int))=(((w+1)*d:Nat):Int):=(Int.natCast_mul _ _).symm
    rw [e1]
    omega
  simp only [simpF,Nv.spF,← hw]
  by_cases hs:(w+1)*d<c
  ·rw [if_pos (hstop.2 hs),if_pos hs,hnx]
  ·rw [if_neg (fun q=>hs (hstop.1 q)),if_neg hs]
   have hbd:bd=true:=by
    cases bd with
    | true=>rfl
    | false=>exact absurd (hstop.1 (by simp [stopB])) hs
   have hI:=hh hbd
   obtain ⟨c',hc'⟩:∃ c',c'=c-w*d:=⟨_,rfl⟩
   obtain ⟨a',ha'⟩:∃ a',a'=a % b:=⟨_,rfl⟩
   rw [← hc'] at h1 h2 ⊢
   rw [← ha'] at h2 ⊢
   have ea:a=w*b+a':=by rw [hw,ha',Nat.mul_comm]; exact (Nat.div_add_mod a b).symm
   have hab:a'<b:=by rw [ha']; exact Nat.mod_lt _ hb
   have hcd:c'≤d:=by rw [Nat.add_mul] at hs; omega
   have hfI:Is (flR lo) (w:Int) 1:=is_one (by decide) hfl
   have hy1:subR hi (flR lo)=Nv.mkI (c':Int) d:=by
    rw [sub_is hI hfI]
    have e1:((w:Int)*(d:Int))=((w*d:Nat):Int):=(Int.natCast_mul _ _).symm
    rw [e1,Nat.mul_one]
    congr 1
    have e2:(c:Int)*((1:Nat):Int)=(c:Int):=by simp
    rw [e2]
    omega
   have hy2:subR lo (flR lo)=Nv.mkI (a':Int) b:=by
    rw [sub_is hl hfI]
    have e1:((w:Int)*(b:Int))=((w*b:Nat):Int):=(Int.natCast_mul _ _).symm
    rw [e1,Nat.mul_one]
    congr 1
    have e2:(a:Int)*((1:Nat):Int)=(a:Int):=by simp
    rw [e2]
    omega
   have hq1:divQ oneR (subR hi (flR lo))=(Nv.mkI (d:Int) c',true):=by
    rw [div_is one_is (is_one hI.p hy1) (by omega)]
    simp
   have hlo:Is (Nv.mkI (d:Int) c') (d:Int) c':=is_mk h1
   obtain ⟨k1,k2,_,_,_⟩:=Nv.spF_ok n d c' b a' h1 h2 (by omega)
   have ih:simpF n (divQ oneR (subR hi (flR lo))).1 (divQ oneR (subR lo (flR lo))).1 (divQ oneR (subR lo (flR lo))).2=Nv.mkI ((Nv.spF n d c' b a').1:Int) (Nv.spF n d c' b a').2:=by
    rw [hq1]
    by_cases h0:a'=0
    ·rw [div_zero (is_one hb hy2) (by rw [h0]; rfl)]
     exact simp_sp n _ _ _ d c' b a' hlo (fun q=>by cases q) (fun _=>h0) h2 (by omega)
    ·have hq2:divQ oneR (subR lo (flR lo))=(Nv.mkI (b:Int) a',true):=by
      rw [div_is one_is (is_one hb hy2) (by omega)]
      simp
     rw [hq2]
     exact simp_sp n _ _ _ d c' b a' hlo (fun _=>is_mk (by omega)) (fun q=>by cases q) h2 (by omega)
   rw [ih,div_is one_is (is_mk k2) (by omega),add_is hfI (is_mk (by simp; exact k1))]
   simp
abbrev big:Nat:=256^20
theorem ok_mk {z:Int} {b:Nat} (hz:z.natAbs<2*big) (hb:b<2*big):OkQ (Nv.mkI z b)∧(Nv.mkI z b).den.size<90000000:=by
 have h1:=mkI_num z b
 have h2:=mkI_den z b
 have h3:(zm z).size≤21:=zm_small (n:=z.natAbs) (k:=21) (Nat.lt_of_lt_of_le hz (by decide))
 have h4:(nB b).size≤21:=zm_small (k:=21) (Nat.lt_of_lt_of_le hb (by decide))
 exact ⟨⟨by omega,by omega⟩,by omega⟩
theorem ok_zR:OkQ zR:=⟨by decide,by decide⟩
theorem sp_med {n a b c d:Nat} (hb:0<b) (hc:a*d<c*b) (hn:b+d<n):(Nv.spF n a b c d).1≤a+c∧(Nv.spF n a b c d).2≤b+d:=by
 obtain ⟨_,_,_,_,h⟩:=Nv.spF_ok n a b c d hb hc hn
 refine h (a+c) (b+d) (by omega) ?_ ?_
 ·rw [Nat.mul_add,Nat.add_mul]; omega
 ·rw [Nat.mul_add,Nat.add_mul]; omega
theorem okS_of:∀ (n:Nat) (lo hi:Nv.Rt) (bd:Bool) (a b c d:Nat),Is lo (a:Int) b→(bd=true→Is hi (c:Int) d)→(bd=false→d=0)→a*d<c*b→b+d<n →
  OkQ lo→OkQ hi→a<big→b<big→c<big→d<big→okS n lo hi bd
 | 0,lo,hi,bd,a,b,c,d,hl,hh,hz,hc,hn,_,_,_,_,_,_=>by omega
 | n+1,lo,hi,bd,a,b,c,d,hl,hh,hz,hc,hn,ql,qh,ba,bb,bc,bdd=>by
  have hb:=hl.p
  obtain ⟨w,hw⟩:∃ w,w=a / b:=⟨_,rfl⟩
  have hwa:w≤a:=by rw [hw]; exact Nat.div_le_self _ _
  have hfl:flR lo=Nv.mkI (w:Int) 1:=by rw [fl_is hl,hw]; rfl
  have hnx:nxR lo=Nv.mkI ((w+1:Nat):Int) 1:=by rw [nx_is hl,hw]; rfl
  obtain ⟨h1,h2⟩:=Nv.sp_next hb hc
  rw [← hw] at h1 h2
  have o1:=ok_mk (z:=(w:Int)) (b:=1) (by omega) (by decide)
  have o2:=ok_mk (z:=((w+1:Nat):Int)) (b:=1) (by omega) (by decide)
  refine ⟨ql,qh,by rw [hfl]; exact o1.1,by rw [hfl]; exact o1.2,by rw [hnx]; exact o2.1,fun hs=>?_⟩
  have hbd:bd=true:=by
   cases bd with
   | true=>rfl
   | false=>simp [stopB] at hs
  have hI:=hh hbd
  subst hbd
  have hs':¬ (w+1)*d<c:=by
   intro q
   have:stopB lo hi true=true:=by
    unfold stopB
    rw [hnx,cmp_is (is_mk (by decide)) hI]
    simp only [Bool.not_true,Bool.false_or,decide_eq_true_eq,sgZ_neg]
    have e1:(((w+1:Nat):Int)*(d:Int))=(((w+1)*d:Nat):Int):=(Int.natCast_mul _ _).symm
    rw [e1]
    omega
   rw [this] at hs; cases hs
  obtain ⟨c',hc'⟩:∃ c',c'=c-w*d:=⟨_,rfl⟩
  obtain ⟨a',ha'⟩:∃ a',a'=a % b:=⟨_,rfl⟩
  rw [← hc'] at h1 h2
  rw [← ha'] at h2
  have ea:a=w*b+a':=by rw [hw,ha',Nat.mul_comm]; exact (Nat.div_add_mod a b).symm
  have hab:a'<b:=by rw [ha']; exact Nat.mod_lt _ hb
  have hcd:c'≤d:=by rw [Nat.add_mul] at hs'; omega
  have hfI:Is (flR lo) (w:Int) 1:=is_one (by decide) hfl
  have hy1:subR hi (flR lo)=Nv.mkI (c':Int) d:=by
   rw [sub_is hI hfI]
   have e1:((w:Int)*(d:Int))=((w*d:Nat):Int):=(Int.natCast_mul _ _).symm
   rw [e1,Nat.mul_one]
   congr 1
   have e2:(c:Int)*((1:Nat):Int)=(c:Int):=by simp
   rw [e2]
   omega
  have hy2:subR lo (flR lo)=Nv.mkI (a':Int) b:=by
   rw [sub_is hl hfI]
   have e1:((w:Int)*(b:Int))=((w*b:Nat):Int):=(Int.natCast_mul _ _).symm
   rw [e1,Nat.mul_one]
   congr 1
   have e2:(a:Int)*((1:Nat):Int)=(a:Int):=by simp
   rw [e2]
   omega
  have hq1:divQ oneR (subR hi (flR lo))=(Nv.mkI (d:Int) c',true):=by
   rw [div_is one_is (is_one hI.p hy1) (by omega)]
   simp
  have hlo:Is (Nv.mkI (d:Int) c') (d:Int) c':=is_mk h1
  have olo:=ok_mk (z:=(d:Int)) (b:=c') (by omega) (by omega)
  obtain ⟨k1,k2,_,_,_⟩:=Nv.spF_ok n d c' b a' h1 h2 (by omega)
  obtain ⟨m1,m2⟩:=sp_med (n:=n) h1 h2 (by omega)
  have ores:=ok_mk (z:=((Nv.spF n d c' b a').1:Int)) (b:=(Nv.spF n d c' b a').2) (by omega) (by omega)
  have ores2:OkQ (divQ oneR (Nv.mkI ((Nv.spF n d c' b a').1:Int) (Nv.spF n d c' b a').2)).1:=by
   rw [div_is one_is (is_mk k2) (by omega)]
   exact (ok_mk (by simp; omega) (by simp; omega)).1
  refine ⟨by rw [hy1]; exact (ok_mk (by omega) (by omega)).1,by rw [hy2]; exact (ok_mk (by omega) (by omega)).1,?_⟩
  rw [hq1]
  by_cases h0:a'=0
  ·rw [div_zero (is_one hb hy2) (by rw [h0]; rfl)]
   rw [simp_sp n _ _ _ d c' b a' hlo (fun q=>by cases q) (fun _=>h0) h2 (by omega)]
   exact ⟨okS_of n _ _ _ d c' b a' hlo (fun q=>by cases q) (fun _=>h0) h2 (by omega) olo.1 ok_zR (by omega) (by omega) (by omega) (by omega),ores.1,ores2⟩
  ·have hq2:divQ oneR (subR lo (flR lo))=(Nv.mkI (b:Int) a',true):=by
    rw [div_is one_is (is_one hb hy2) (by omega)]
    simp
   rw [hq2]
   rw [simp_sp n _ _ _ d c' b a' hlo (fun _=>is_mk (by omega)) (fun q=>by cases q) h2 (by omega)]
   exact ⟨okS_of n _ _ _ d c' b a' hlo (fun _=>is_mk (by omega)) (fun q=>by cases q) h2 (by omega) olo.1 (ok_mk (by omega) (by omega)).1 (by omega) (by omega) (by omega) (by omega),ores.1,ores2⟩
theorem k34 (z:Int) (h:-9223372036854775808<z∧z<9223372036854775808):ACalls prog G0 34 [I z] [] fun t H=>t = .v (zV z)∧H=[]:=by
 by_cases hz:0≤z
 ·have h1:=k1120 z.toNat (by omega)
  have e:(z.toNat:Int)=z:=by omega
  rw [e] at h1
  refine h1.mono fun t H q=>⟨?_,q.2⟩
  rw [q.1,iV_z]
  show T.v (zV ((z.toNat:Nat):Int))=_
  rw [e]
 ·have s1:x1142.sc=true:=rfl
  have s2:x1141.sc=true:=rfl
  obtain ⟨n,hn⟩:∃ n:Nat,z = -((n:Int)+1):=⟨(-z-1).toNat,by omega⟩
  subst hn
  have g1:x1142.g [.c (.v (.int .u64 ((n:Int)+1)))]=some (True,.str (nB (n+1))):=xg1142 (n+1) (by omega)
  have g2:=xg1141n true (n+1)
  have e3:iV true (n+1)=zV (-((n:Int)+1)):=iV_z true (n+1)
  rw [e3] at g2
  have w2:IntKind.i64.wrap (-(-((n:Int)+1)+1))=n:=by
   rw [show -(-((n:Int)+1)+1)=(n:Int) by omega]; exact wrap64 (by omega) (by omega)
  have w0:IntKind.i64.wrap (-((n:Int)+1)+1) = -((n:Int)+1)+1:=wrap64 (by omega) (by omega)
  have w3:IntKind.u64.wrap ((n:Int))=n:=u64w (n:=n) (by omega)
  have w4:IntKind.u64.wrap ((n:Int)+1)=(n:Int)+1:=u64w (n:=n+1) (by omega)
  have hneg:-((n:Int)+1)<0:=by omega
  obtain ⟨zz,hzz⟩:∃ zz,zz = -((n:Int)+1):=⟨_,rfl⟩
  rw [← hzz] at w0 w2 hneg g2 ⊢
  refine acallsX (X:=[(72,x1142),(68,x1141)]) ⟨kx1142,kx1141,trivial⟩ tab hmix func34 c1120 (by rfl) fun hw=>?_
  simp -implicitDefEqProofs (disch:=omega) [gz,ir1120,b1120,s1,s2,g1,g2,w0,w2,w3,w4,hneg,fillC,splice]
  exact fin_nil ⟨rfl,rfl⟩
def x34:XE:=mkX true (fun (z:Int)=>[.c (.v (.int .i64 z))]) (fun z=>-9223372036854775808<z∧z<9223372036854775808) (fun z=>.v (zV z))
theorem kx34:Contract prog G0 34 x34:=mkX_scal (fun _=>rfl) fun z h=>k34 z h
theorem xg34 (z:Int) (h:-9223372036854775808<z∧z<9223372036854775808):x34.g [.c (.v (.int .i64 z))]=some (True,.v (zV z)):=mkX_g (fun a b h=>by simpa using h) z h
theorem zm_int {z:Int} (h:-9223372036854775808<z∧z<9223372036854775808):(zm z).size≤8:=zm_small (n:=z.natAbs) (k:=8) (by omega)
theorem k28 (z:Int) (h:-9223372036854775808<z∧z<9223372036854775808):ACalls prog G0 28 [I z] [] fun t H=>t = .v (ratV (Nv.mkI z 1))∧H=[]:=by
 have s1:x34.sc=true:=rfl
 have s2:x1103.sc=true:=rfl
 have g1:=xg34 z h
 have g2:=xg34 1 (by decide)
 have hs:=zm_int h
 have h1:=zm_int (z:=1) (by decide)
 have g3:=xgMade z 1 (by decide) (by omega) (by omega)
 refine acallsX (X:=[(34,x34),(64,x1103)]) ⟨kx34,kx1103,trivial⟩ tab hmix func28 c2028 (by rfl) fun hw=>?_
 rw [show Nv.mkI z (Int.natAbs 1)=Nv.mkI z 1 from rfl] at g3
 obtain ⟨r,hr⟩:∃ r,r=Nv.mkI z 1:=⟨_,rfl⟩
 rw [← hr] at g3 ⊢
 simp -implicitDefEqProofs (disch:=omega) [gz,ir2028,b2028,s1,g1,g2,s2,g3,fillC,splice]
 exact fin_nil ⟨rfl,rfl⟩
def x28:XE:=mkX true (fun (z:Int)=>[.c (.v (.int .i64 z))]) (fun z=>-9223372036854775808<z∧z<9223372036854775808) (fun z=>.v (ratV (Nv.mkI z 1)))
theorem kx28:Contract prog G0 28 x28:=mkX_scal (fun _=>rfl) fun z h=>k28 z h
theorem xg28 (z:Int) (h:-9223372036854775808<z∧z<9223372036854775808):x28.g [.c (.v (.int .i64 z))]=some (True,.v (ratV (Nv.mkI z 1))):=mkX_g (fun a b h=>by simpa using h) z h
def mulR (x y:Nv.Rt):Nv.Rt:=Nv.mkI (rn x*rn y) (rd x*rd y).natAbs
theorem k2033 (x y:Nv.Rt) (hx:OkQ x) (hy:OkQ y):ACalls prog G0 33 [ratV x,ratV y] [] fun t H=>t = .v (ratV (mulR x y))∧H=[]:=by
 have s1:x1104.sc=true:=rfl
 have s2:x2063.sc=true:=rfl
 have s4:x1103.sc=true:=rfl
 have g1:=xgParts x hx
 have g2:=xgParts y hy
 have q1:=rn_size x
 have q2:=rd_size x
 have q3:=rn_size y
 have q4:=rd_size y
 obtain ⟨p1,p2⟩:=hx
 obtain ⟨p3,p4⟩:=hy
 have g3:=xg2063 (rn x) (rn y) (by omega) (by omega)
 have g6:=xg2063 (rd x) (rd y) (by omega) (by omega)
 have m1:=zm_mul (rn x) (rn y)
 have m3:=zm_mul (rd x) (rd y)
 have g7:=xgMade (rn x*rn y) (rd x*rd y) (Int.mul_pos (rd_pos x) (rd_pos y)) (by omega) (by omega)
 refine acallsX (X:=[(61,x1104),(63,x2063),(64,x1103)]) ⟨kx1104,kx2063,kx1103,trivial⟩ tab hmix func33 c2033 (by rfl) fun hw=>?_
 rw [show Nv.mkI (rn x*rn y) (rd x*rd y).natAbs=mulR x y from rfl] at g7
 obtain ⟨r,hr⟩:∃ r,r=mulR x y:=⟨_,rfl⟩
 rw [← hr] at g7 ⊢
 obtain ⟨u,hu⟩:∃ u,u=rn x*rn y:=⟨_,rfl⟩
 obtain ⟨w,hw'⟩:∃ w,w=rd x*rd y:=⟨_,rfl⟩
 rw [← hu] at g3 g7
 rw [← hw'] at g6 g7
 obtain ⟨a,ha⟩:∃ a,a=rn x:=⟨_,rfl⟩
 obtain ⟨b,hb⟩:∃ b,b=rd x:=⟨_,rfl⟩
 obtain ⟨c,hc⟩:∃ c,c=rn y:=⟨_,rfl⟩
 obtain ⟨d,hd⟩:∃ d,d=rd y:=⟨_,rfl⟩
 rw [← ha] at g1 g3
 rw [← hb] at g1 g6
 rw [← hc] at g2 g3
 rw [← hd] at g2 g6
 simp -implicitDefEqProofs (disch:=omega) [gz,ir2033,b2033,s1,g1,g2,s2,g3,g6,s4,g7,fillC,splice]
 repeat' with_reducible apply And.intro
 all_goals first|omega|kernel_rfl|exact fun _ _=>rfl|skip
 exact fin_nil ⟨rfl,rfl⟩
def x2033:XE:=mkX true (fun (p:Nv.Rt×Nv.Rt)=>[ratP p.1,ratP p.2]) (fun p=>OkQ p.1∧OkQ p.2) (fun p=>.v (ratV (mulR p.1 p.2)))
theorem kx2033:Contract prog G0 33 x2033:=mkX_scal (fun _=>rfl) fun p h=>k2033 p.1 p.2 h.1 h.2
theorem xg2033 (x y:Nv.Rt) (hx:OkQ x) (hy:OkQ y):x2033.g [ratP x,ratP y]=some (True,.v (ratV (mulR x y))):=mkX_g injRR (x,y) ⟨hx,hy⟩
theorem mul_is {x y:Nv.Rt} {z w:Int} {b d:Nat} (hx:Is x z b) (hy:Is y w d):mulR x y=Nv.mkI (z*w) (b*d):=by
 obtain ⟨pb,ex⟩:=hx
 obtain ⟨pd,ey⟩:=hy
 have p1:=rd_pos x
 have p2:=rd_pos y
 have pp:=Int.mul_pos p1 p2
 unfold mulR
 refine Nv.mkI_eq (by omega) (Nat.mul_pos pb pd) ?_
 have e1:((rd x*rd y).natAbs:Int)=rd x*rd y:=by omega
 rw [e1,Int.natCast_mul]
 generalize rn x=a at *
 generalize rd x=c at *
 generalize rn y=a2 at *
 generalize rd y=c2 at *
 grind
structure Frac (p q x:Nv.Rt) (a b c d u v:Nat):Prop where
 p:Is p (a:Int) b
 q:Is q (c:Int) d
 x:x=Nv.mkI (u:Int) v
 lt:a*d<c*b
 b40:b≤40
 d40:d≤40
 a40:a≤40
 c40:c≤40
 e:(u,v)=Nv.spF 200 a b c d
section
variable {p q x:Nv.Rt} {a b c d u v:Nat}
theorem Frac.sp (h:Frac p q x a b c d u v):0<u∧0<v∧a*v<u*b∧u*d<c*v∧(∀ x y,0<y→a*y<x*b→x*d<c*y→u≤x∧v≤y)∧u≤a+c∧v≤b+d:=by
 have h1:=h.b40
 have h2:=h.d40
 have h0:=Nv.spF_ok 200 a b c d h.p.p h.lt (by omega)
 have h3:=sp_med (n:=200) h.p.p h.lt (by omega)
 rw [← h.e] at h0 h3
 exact ⟨h0.1,h0.2.1,h0.2.2.1,h0.2.2.2.1,h0.2.2.2.2,h3.1,h3.2⟩
theorem Frac.at (h:Frac p q x a b c d u v) {n:Nat} (hn:0<n) (hv:n≤v):(n<v→¬ cmpR (Nv.mkI ((a*n / b+1:Nat):Int) n) q<0)∧(n=v→cmpR (Nv.mkI ((a*n / b+1:Nat):Int) n) q<0∧Nv.mkI ((a*n / b+1:Nat):Int) n=x):=by
 obtain ⟨u0,v0,s1,s2,s3,_,_⟩:=h.sp
 have hb:=h.p.p
 obtain ⟨k,hk⟩:∃ k,k=a*n / b+1:=⟨_,rfl⟩
 have hk1:a*n<k*b:=by
  rw [hk,Nat.succ_mul]
  have:=Nat.div_add_mod (a*n) b
  have h2:=Nat.mod_lt (a*n) hb
  rw [Nat.mul_comm b] at this
  omega
 rw [← hk]
 have hc:cmpR (Nv.mkI (k:Int) n) q<0↔k*d<c*n:=by
  rw [cmp_is (is_mk hn) h.q,sgZ_neg]
  have e1:(k:Int)*(d:Int)=((k*d:Nat):Int):=(Int.natCast_mul _ _).symm
  have e2:(c:Int)*(n:Int)=((c*n:Nat):Int):=(Int.natCast_mul _ _).symm
  rw [e1,e2]; omega
 refine ⟨fun hlt hcm=>?_,fun he=>?_⟩
 ·have:=s3 k n hn hk1 (hc.1 hcm)
  omega
 ·subst he
  have hku:k≤u:=by
   rw [hk]
   exact Nat.div_lt_of_lt_mul (by rw [Nat.mul_comm b u]; exact s1)
  have h1:k*d<c*n:=Nat.lt_of_le_of_lt (Nat.mul_le_mul_right d hku) s2
  have h2:=s3 k n hn hk1 h1
  have:k=u:=by omega
  subst this
  exact ⟨hc.2 h1,h.x.symm⟩
end
theorem frac_mk {p q:Nv.Rt} {a b c d:Nat} (hp:Is p (a:Int) b) (hq:Is q (c:Int) d) (hlt:a*d<c*b) (hb:b≤40) (hd:d≤40) (ha:a≤40) (hc:c≤40) :
  ∃ u v,Frac p q (simpF 200 p q true) a b c d u v :=
 ⟨_,_,hp,hq,simp_sp 200 p q true a b c d hp (fun _=>hq) (fun h=>by cases h) hlt (by omega),hlt,hb,hd,ha,hc,rfl⟩
theorem okS_short {p q:Nv.Rt} {a b c d:Nat} (hp:Is p (a:Int) b) (hq:Is q (c:Int) d) (hlt:a*d<c*b) (hb:b≤40) (hd:d≤40) (ha:a≤40) (hc:c≤40) (op:OkQ p) (oq:OkQ q):okS 200 p q true:=by
 have h40:40<big:=by decide
 exact okS_of 200 p q true a b c d hp (fun _=>hq) (fun h=>by cases h) hlt (by omega) op oq (by omega) (by omega) (by omega) (by omega)
theorem can_cmp {z w:Int} {b d:Nat} (hb:0<b) (hd:0<d):cmpR (Nv.mkI z b) (Nv.mkI w d)=0↔Nv.mkI z b=Nv.mkI w d:=by
 rw [cmp_is (is_mk hb) (is_mk hd)]
 have hs:sgZ (z*(d:Int)-w*b)=0↔z*(d:Int)-w*b=0:=by unfold sgZ; constructor <;> intro h <;> (repeat' split at h) <;> first | omega | (simp [h])
 rw [hs]
 constructor
 ·intro h; exact Nv.mkI_eq hb hd (by omega)
 ·intro h
  have e1:=Nv.numI_mk (z:=z) hb
  have e2:=Nv.numI_mk (z:=w) hd
  rw [h] at e1
  have p2:=Nv.denV_pos (Nv.mkI w d).den
  generalize Nv.numI (Nv.mkI w d)=n at *
  generalize Nv.denV (Nv.mkI w d).den=m at *
  have pm:(0:Int)<(m:Int):=by omega
  have:(z*(d:Int)-w*b)*m=0:=by grind
  rcases Int.mul_eq_zero.1 this with q | q
  ·exact q
  ·omega
abbrev kys (m:Spots):List Id:=m.map Prod.fst
inductive Outs (l:List TN):List Id→Prop where
 | nil:Outs l []
 | snoc {o:List Id} {y:Id} (h:Outs l o) (hn:y ∉ o) (hr:y≠rootI) (t:TN) (ht:t∈l) (hy:t.node=y) (hp:t.par=rootI∨t.par∈o):Outs l (o ++ [y])
theorem Outs.before {l:List TN} {o:List Id} (h:Outs l o) (i:Nat) (hi:i<o.length):∃ t∈l,t.node=o[i]∧(t.par=rootI∨t.par∈o.take i):=by
 induction h with
 | nil=>simp at hi
 | @snoc o y h hn hr t ht he hp ih =>
  by_cases q:i<o.length
  ·obtain ⟨t',h1,h2,h3⟩:=ih q
   refine ⟨t',h1,by rw [h2,List.getElem_append_left q],?_⟩
   rw [List.take_append_of_le_length (by omega)]; exact h3
  ·have e:i=o.length:=by simp at hi; omega
   subst e
   refine ⟨t,ht,by simp [he],?_⟩
   rw [List.take_append_of_le_length (by omega),List.take_length]; exact hp
def cho (m:Spots):Nat→Id→Option Id
 | 0,x=>some x
 | j+1,x=>match alook m x with | none=>none | some t=>cho m j t.par
structure Tree (m:Spots):Prop where
 ok:OkM m
 no:∀ x∈kys m,x≠rootI∧x≠binI0
 en:∀ x∈kys m,∃ j up,cho m j x=some up∧(up=rootI∨up=binI0)
theorem lessB_iff (a b:Id):lessB a b=true↔lessZ a b<0:=by
 have e:lessZ a b=orI [cmpA a.a b.a,cmpI a.n b.n]:=rfl
 have l1:=strLt_eq a.a b.a
 have c:=cmpS_eq a.a b.a
 rw [e]
 unfold lessB
 simp only [orI]
 by_cases q:a.a=b.a
 ·have q2:=c.2 q
  rw [if_pos q]
  have:cmpA a.a b.a=0:=by unfold cmpA sg3; rw [q2]; rfl
  rw [if_neg (by omega)]
  unfold cmpI
  simp only [decide_eq_true_eq]
  repeat' split
  all_goals omega
 ·have q2:cmpS a.a b.a≠0:=fun h=>q (c.1 h)
  rw [if_neg q,l1]
  have:cmpA a.a b.a=if cmpS a.a b.a<0 then -1 else 1:=by
   unfold cmpA sg3
   split
   ·rfl
   ·rw [if_pos (by omega)]
  rw [this]
  simp only [decide_eq_true_eq]
  repeat' split
  all_goals omega
section
variable {m:Spots} {s:TN} {e1 e2:Edit}
end
abbrev rC (p:Nv.Rt):O:=.cells [.d (.v (.bool p.neg)),.d (.v (.string p.num)),.d (.v (.string p.den))]
theorem cells_rat (x y:Nv.Rt):cellsEq [.b,.s,.s] [.d (.v (.bool x.neg)),.d (.v (.string x.num)),.d (.v (.string x.den))] [.d (.v (.bool y.neg)),.d (.v (.string y.num)),.d (.v (.string y.den))]=some (@decide (x=y) (Classical.propDecidable _)):=by
 simp only [cellsEq,skEq]
 congr 1
 rw [Bool.eq_iff_iff]
 cases x; cases y
 simp
theorem k2008_loop {p q x:Nv.Rt} {a b c d u v:Nat} (F:Frac p q x a b c d u v) (op:OkQ p) (oq:OkQ q) (sl:Nat→T) (o:O) (L:List O) (h9:sl 9 = .v (.c (.ptr 0 0))) (h11:sl 11 = .v (.c (.ptr 1 0))) (h14:sl 14 = .v (.c (.ptr 3 0))) :
  wcodeX prog (GM 0) [(26,x2026),(22,x2022 200),(27,x2027),(28,x28),(33,x2033),(32,x2032),(34,x34),(31,x2031),(35,x1118),(24,x2024),(29,x2029),(30,x2030),(10,x2010)] 0 (.seq b2008_10 (.seq b2008_11 b2008_12)) ⟨sl,[rC p,rC q,o,rC x] ++ L⟩ (retQ prog 0 [.tmp 8] fun t H=>t = .bool true∧H=[]):=by
 have s1:x28.sc=true:=rfl
 have s2:x2033.sc=true:=rfl
 have s3:x2032.sc=true:=rfl
 have s4:x34.sc=true:=rfl
 have s5:x2031.sc=true:=rfl
 have s6:x1118.sc=true:=rfl
 have s7:x2024.sc=true:=rfl
 have s8:x2010.sc=true:=rfl
 have g10:=xg2010
 obtain ⟨u0,v0,_,_,_,um,vm⟩:=F.sp
 have hb40:=F.b40
 have hd40:=F.d40
 have ha40:=F.a40
 have hc40:=F.c40
 have hW:Wf ([]:List O):=fun o ho=>by cases ho
 simp -implicitDefEqProofs (disch:=omega) [gz,b2008_10,h9,h11,h14]
 refine loopE (fun k st=>∃ n:Nat,0<n∧n≤v∧k=v-n∧st=⟨ofL [(9,.v (.c (.ptr 0 0))),(11,.v (.c (.ptr 1 0))),(14,.v (.c (.ptr 2 0))),(15,.int .i64 n)],[rC p,rC q,rC x]⟩) (fun _=>False) ?_ ?_ (fun s h=>h.elim)
 ·refine wk_nil [0,1,3] [9,11,14,15] rfl ⟨_,1,by omega,by omega,rfl,?_⟩
  simp [phiP,phi,O.ren,C.ren,h9,h11,h14]
 ·rintro J M hJ hM k st ⟨n,n1,n2,rfl,rfl⟩
  have hn100:(n:Int)≤100:=by omega
  have g1:=xg28 (n:Int) (by omega)
  have h100:100<big:=by decide
  have on:=(ok_mk (z:=(n:Int)) (b:=1) (by omega) (by decide)).1
  have g2:=xg2033 p (Nv.mkI n 1) op on
  have em:mulR p (Nv.mkI n 1)=Nv.mkI ((a*n:Nat):Int) b:=by
   rw [mul_is F.p (is_mk (by decide)),Nat.mul_one]; congr 1
  rw [em] at g2
  have oz:OkQ (Nv.mkI ((a*n:Nat):Int) b):=by
   have h1:a*n≤40*100:=Nat.mul_le_mul ha40 (by omega)
   have:4000<big:=by decide
   exact (ok_mk (by omega) (by omega)).1
  have g3:=xg2032 _ oz
  have ef:rn (Nv.mkI ((a*n:Nat):Int) b) / rd (Nv.mkI ((a*n:Nat):Int) b)=((a*n / b:Nat):Int):=by
   have h1:=fl_is (is_mk (z:=((a*n:Nat):Int)) F.p.p)
   have hI:=is_mk (z:=((a*n:Nat):Int)) F.p.p
   have p1:=rd_pos (Nv.mkI ((a*n:Nat):Int) b)
   have pb':(0:Int)<b:=by have:=F.p.p; omega
   have h3:=Int.mul_ediv_mul_of_pos_left (rn (Nv.mkI ((a*n:Nat):Int) b)) (rd (Nv.mkI ((a*n:Nat):Int) b)) pb'
   have h4:=Int.mul_ediv_mul_of_pos_left ((a*n:Nat):Int) (b:Int) p1
   rw [← h3,hI.e,Int.mul_comm (rd _) (b:Int),h4]; rfl
  rw [ef] at g3
  have hkb:a*n / b≤4000:=Nat.le_trans (Nat.div_le_self _ _) (Nat.mul_le_mul (m₂:=100) ha40 (by omega))
  obtain ⟨k0,hk0⟩:∃ k0,k0=a*n / b:=⟨_,rfl⟩
  have g4:=xg34 1 (by decide)
  have z1:=zm_int (z:=(k0:Int)) (by omega)
  have z2:=zm_int (z:=(1:Int)) (by omega)
  have z3:=zm_int (z:=((k0+1:Nat):Int)) (by omega)
  have z4:=zm_int (z:=(n:Int)) (by omega)
  have g5:x2031.g [zQ (k0:Int),zQ 1]=some (True,.v (zV ((k0+1:Nat):Int))):=xg2031 (k0:Int) 1 (by omega) (by omega)
  have g6:=xg34 (n:Int) (by omega)
  have g7:=xgMake ((k0+1:Nat):Int) (n:Int) (by omega) (by omega)
  have eM:mkZ ((k0+1:Nat):Int) (n:Int) = .tup [ratV (Nv.mkI ((k0+1:Nat):Int) n),.c (.d (.v (.bool true)))]:=by
   unfold mkZ
   rw [if_neg (by omega)]
   have:sgZ (n:Int)=1:=by unfold sgZ; rw [if_neg (by omega),if_neg (by omega)]
   rw [this,Int.mul_one]; rfl
  rw [eM] at g7
  have oz2:OkQ (Nv.mkI ((k0+1:Nat):Int) n):=by
   have:5000<big:=by decide
   exact (ok_mk (by omega) (by omega)).1
  have g8:=xg2024 (Nv.mkI ((k0+1:Nat):Int) n) q oz2 oq
  have hat:=F.at n1 n2
  rw [← hk0] at hat g3
  obtain ⟨z,hz⟩:∃ z,z=Nv.mkI ((k0+1:Nat):Int) n:=⟨_,rfl⟩
  rw [← hz] at g7 g8 hat
  obtain ⟨y,hy⟩:∃ y,y=Nv.mkI ((a*n:Nat):Int) b:=⟨_,rfl⟩
  rw [← hy] at g2 g3
  obtain ⟨w,hw⟩:∃ w,w=Nv.mkI (n:Int) 1:=⟨_,rfl⟩
  rw [← hw] at g1 g2
  have hce:=cells_rat z x
  obtain ⟨cm,hcm⟩:∃ cm,cm=cmpR z q:=⟨_,rfl⟩
  rw [← hcm] at g8 hat
  obtain ⟨K,hK⟩:∃ K:Int,K=((k0+1:Nat):Int):=⟨_,rfl⟩
  rw [← hK] at g5 g7
  by_cases hv:n<v
  ·have hcn:=hat.1 hv
   simp -implicitDefEqProofs (disch:=omega) [gz,hn100,s1,g1,s2,g2,s3,g3,s4,g4,g6,s5,g5,s6,g7,s7,g8,hcn,ratV,ratP,wrap64,fillC,splice,toPVs,toPV,frzVs,osVs]
   repeat' with_reducible apply And.intro
   all_goals first|omega|kernel_rfl|exact fun _ _=>rfl|skip
   subst hJ
   refine wk_nil [0,1,2] [9,11,14,15] rfl ⟨v-(n+1),by omega,n+1,by omega,by omega,rfl,?_⟩
   simp [phiP,phi,O.ren,C.ren]
  ·have hv':n=v:=by omega
   obtain ⟨hc1,hc2⟩:=hat.2 hv'
   have hcd:cellsEq [.b,.s,.s] [.d (.v (.bool z.neg)),.d (.v (.string z.num)),.d (.v (.string z.den))] [.d (.v (.bool x.neg)),.d (.v (.string x.num)),.d (.v (.string x.den))]=some true:=by
    rw [hce,@decide_eq_true _ (Classical.propDecidable _) hc2]
   simp -implicitDefEqProofs (disch:=omega) [gz,hn100,s1,g1,s2,g2,s3,g3,s4,g4,g6,s5,g5,s6,g7,s7,g8,hc1,hcd,s8,g10,ratV,ratP,wrap64,fillC,splice,toPVs,toPV,frzVs,osVs]
   repeat' with_reducible apply And.intro
   all_goals first|omega|kernel_rfl|exact fun _ _=>rfl|skip
   exact fin_junk (A:=[]) hW rfl trivial ⟨rfl,rfl⟩
def grp:ByteArray:=⟨#[103,114,111,117,112]⟩
def l2 (p q:Nv.Rt):List TN:=[⟨idA 1,rootI,p,grp⟩,⟨idA 2,rootI,q,grp⟩]
theorem l2_sib {p q:Nv.Rt} (h:cmpR p q≤0):sibF (l2 p q) rootI=l2 p q:=by
 have h1:(l2 p q).filter (fun t=>decide (t.par=rootI))=l2 p q:=by simp [l2]
 unfold sibF
 rw [h1]
 have hc:cmpT ⟨idA 1,rootI,p,grp⟩ ⟨idA 2,rootI,q,grp⟩≤0:=by
  show orI [cmpR p q,lessZ (idA 1) (idA 2)]≤0
  simp only [orI]
  by_cases q0:cmpR p q=0
  ·rw [if_neg (by simp [q0])]
   have:lessZ (idA 1) (idA 2)<0:=(lessB_iff _ _).1 (by kernel_rfl)
   rw [if_pos (by omega)]; omega
  ·rw [if_pos q0]; exact h
 simp only [l2,ssort,insF]
 rw [if_pos hc]
theorem l2_key {p q:Nv.Rt} (h:cmpR p q≤0):keyF 200 (l2 p q) rootI 1=if cmpR p q=0 then Nv.normR p else betwF 200 p q:=by
 unfold keyF
 rw [l2_sib h]
 rfl
theorem l2_rows (p q:Nv.Rt):(l2 p q).map TN.row=[[.v (.string ⟨#[97]⟩),.v (.int .i64 1),.v (.string ⟨#[]⟩),.v (.int .i64 0),.v (.bool p.neg),.v (.string p.num),.v (.string p.den),.v (.string grp)],[.v (.string ⟨#[97]⟩),.v (.int .i64 2),.v (.string ⟨#[]⟩),.v (.int .i64 0),.v (.bool q.neg),.v (.string q.num),.v (.string q.den),.v (.string grp)]]:=rfl
structure Two (p q:Nv.Rt) (A B:Int) (C D:Nat):Prop where
 p:p=Nv.mkI A C
 q:q=Nv.mkI B D
 c0:0<C
 d0:0<D
 c4:C≤40
 d4:D≤40
 a4:A.natAbs≤40
 b4:B.natAbs≤40
theorem Two.ok {p q:Nv.Rt} {A B:Int} {C D:Nat} (h:Two p q A B C D):OkQ p∧OkQ q:=by
 have h40:40<big:=by decide
 rw [h.p,h.q]
 have h1:=h.a4
 have h2:=h.b4
 have h3:=h.c4
 have h4:=h.d4
 exact ⟨(ok_mk (by omega) (by omega)).1,(ok_mk (by omega) (by omega)).1⟩
inductive Kind (p q x:Nv.Rt):Prop where
 | zero (h1:rn p<0) (h2:0<rn q) (hx:x=zR)
 | pos (a b c d u v:Nat) (h:¬ (rn p<0)) (h2:¬ rn q≤0) (F:Frac p q x a b c d u v)
 | neg (a b c d u v:Nat) (h:rn q≤0) (F:Frac (negR q) (negR p) (negR x) a b c d u v)
theorem two_key {p q:Nv.Rt} {A B:Int} {C D:Nat} (T:Two p q A B C D) (h:cmpR p q<0):∃ x,betwF 200 p q=x∧okB 200 p q∧OkQ x∧cmpR p x<0∧cmpR x q<0∧Kind p q x:=by
 obtain ⟨op,oq⟩:=T.ok
 have Ip:Is p A C:=is_one T.c0 T.p
 have Iq:Is q B D:=is_one T.d0 T.q
 have hAB:A*(D:Int)<B*C:=by
  rw [cmp_is Ip Iq,sgZ_neg] at h; omega
 have pA:=pos_is Ip
 have pB:=pos_is Iq
 have h1:=T.a4
 have h2:=T.b4
 have h3:=T.c4
 have h4:=T.d4
 have c0:=T.c0
 have d0:=T.d0
 have h40:40<big:=by decide
 have nA:rn p<0↔A<0:=by
  have e1:=pA.1; have e2:=pA.2
  constructor <;> intro q <;> omega
 have nB:rn q≤0↔B≤0:=by
  have e1:=pB.1
  constructor <;> intro q <;> omega
 by_cases c1:rn p<0∧0<rn q
 ·refine ⟨zR,by unfold betwF; rw [if_pos c1],⟨op,oq,fun hn=>absurd c1 hn⟩,ok_zR,?_,?_,.zero c1.1 c1.2 rfl⟩
  ·have I0:Is zR 0 1:=⟨by decide,rfl⟩
   rw [cmp_is Ip I0,sgZ_neg]
   have:=nA.1 c1.1
   omega
  ·have I0:Is zR 0 1:=⟨by decide,rfl⟩
   rw [cmp_is I0 Iq,sgZ_neg]
   have:=pB.1.1 c1.2
   omega
 ·by_cases c2:rn q≤0
  ·have hB:=nB.1 c2
   have hA:A<0:=by
    have:A*(D:Int)<0:=by
     have:B*(C:Int)≤0:=Int.mul_nonpos_of_nonpos_of_nonneg hB (by omega)
     omega
    rcases Int.lt_or_le A 0 with q | q
    ·exact q
    ·have:=Int.mul_nonneg q (show (0:Int)≤(D:Int) by omega); omega
   obtain ⟨a,ha⟩:∃ a:Nat,-B=(a:Int):=⟨(-B).toNat,by omega⟩
   obtain ⟨c,hc⟩:∃ c:Nat,-A=(c:Int):=⟨(-A).toNat,by omega⟩
   have en1:negR q=Nv.mkI (a:Int) D:=by rw [neg_is Iq,ha]
   have en2:negR p=Nv.mkI (c:Int) C:=by rw [neg_is Ip,hc]
   have I1:Is (negR q) (a:Int) D:=is_one d0 en1
   have I2:Is (negR p) (c:Int) C:=is_one c0 en2
   have hlt:a*C<c*D:=by
    have e1:((a*C:Nat):Int) = -B*C:=by rw [Int.natCast_mul,ha]
    have e2:((c*D:Nat):Int) = -A*D:=by rw [Int.natCast_mul,hc]
    have:((a*C:Nat):Int)<((c*D:Nat):Int):=by
     rw [e1,e2,Int.neg_mul,Int.neg_mul]; omega
    omega
   obtain ⟨u,v,F⟩:=frac_mk I1 I2 hlt (by omega) (by omega) (by omega) (by omega)
   obtain ⟨u0,v0,s1,s2,_,m1,m2⟩:=F.sp
   have on1:OkQ (negR q):=by rw [en1]; exact (ok_mk (by omega) (by omega)).1
   have on2:OkQ (negR p):=by rw [en2]; exact (ok_mk (by omega) (by omega)).1
   have hS:=F.x
   have oS:OkQ (simpF 200 (negR q) (negR p) true):=by rw [hS]; exact (ok_mk (by omega) (by omega)).1
   have IS:Is (simpF 200 (negR q) (negR p) true) (u:Int) v:=is_one v0 hS
   have ex:negR (simpF 200 (negR q) (negR p) true)=Nv.mkI (-(u:Int)) v:=neg_is IS
   have Ix:Is (negR (simpF 200 (negR q) (negR p) true)) (-(u:Int)) v:=is_one v0 ex
   have ex2:negR (negR (simpF 200 (negR q) (negR p) true))=Nv.mkI (u:Int) v:=by rw [neg_is Ix,Int.neg_neg]
   refine ⟨_,by unfold betwF; rw [if_neg c1,if_pos c2],⟨op,oq,fun _=>⟨fun _=>⟨okS_short I1 I2 hlt (by omega) (by omega) (by omega) (by omega) on1 on2,oS⟩,fun q=>absurd c2 q⟩⟩,by rw [ex]; exact (ok_mk (by omega) (by omega)).1,?_,?_,.neg a D c C u v c2 ⟨I1,I2,ex2,hlt,by omega,by omega,by omega,by omega,F.e⟩⟩
   ·rw [cmp_is Ip Ix,sgZ_neg]
    have e1:((u*C:Nat):Int)=u*C:=Int.natCast_mul _ _
    have e2:((c*v:Nat):Int) = -A*v:=by rw [Int.natCast_mul,hc]
    rw [Int.neg_mul] at e2
    rw [Int.neg_mul]
    omega
   ·rw [cmp_is Ix Iq,sgZ_neg]
    have e1:((u*D:Nat):Int)=u*D:=Int.natCast_mul _ _
    have e2:((a*v:Nat):Int) = -B*v:=by rw [Int.natCast_mul,ha]
    rw [Int.neg_mul] at e2
    rw [Int.neg_mul]
    omega
  ·have hB:0<B:=by have:=nB; omega
   have hpn:¬ rn p<0:=fun q=>c1 ⟨q,by omega⟩
   have hA:0≤A:=by have:=nA; omega
   obtain ⟨a,ha⟩:∃ a:Nat,A=(a:Int):=⟨A.toNat,by omega⟩
   obtain ⟨c,hc⟩:∃ c:Nat,B=(c:Int):=⟨B.toNat,by omega⟩
   rw [ha] at Ip
   rw [hc] at Iq
   have hlt:a*D<c*C:=by
    have e1:((a*D:Nat):Int)=A*D:=by rw [Int.natCast_mul,ha]
    have e2:((c*C:Nat):Int)=B*C:=by rw [Int.natCast_mul,hc]
    omega
   obtain ⟨u,v,F⟩:=frac_mk Ip Iq hlt (by omega) (by omega) (by omega) (by omega)
   obtain ⟨u0,v0,s1,s2,_,m1,m2⟩:=F.sp
   have hS:=F.x
   have IS:Is (simpF 200 p q true) (u:Int) v:=is_one v0 hS
   refine ⟨_,by unfold betwF; rw [if_neg c1,if_neg c2],⟨op,oq,fun _=>⟨fun q=>absurd q c2,fun _=>okS_short Ip Iq hlt (by omega) (by omega) (by omega) (by omega) op oq⟩⟩,by rw [hS]; exact (ok_mk (by omega) (by omega)).1,?_,?_,.pos a C c D u v hpn c2 F⟩
   ·rw [cmp_is Ip IS,sgZ_neg]
    have e1:((a*v:Nat):Int)=a*v:=Int.natCast_mul _ _
    have e2:((u*C:Nat):Int)=u*C:=Int.natCast_mul _ _
    omega
   ·rw [cmp_is IS Iq,sgZ_neg]
    have e1:((u*D:Nat):Int)=u*D:=Int.natCast_mul _ _
    have e2:((c*v:Nat):Int)=c*v:=Int.natCast_mul _ _
    omega
theorem zR_mk:Nv.mkI 0 1=zR:=by kernel_rfl
theorem norm_can {z:Int} {b:Nat} (hb:0<b):Nv.normR (Nv.mkI z b)=Nv.mkI z b:=Nv.norm_mk hb
theorem k2008_tail {p q:Nv.Rt} {A B:Int} {C D:Nat} (TT:Two p q A B C D) (h:cmpR p q≤0) (sl:Nat→T) (h9:sl 9 = .v (.c (.ptr 0 0))) (h11:sl 11 = .v (.c (.ptr 1 0))) :
  wcodeX prog (GM 0) [(26,x2026),(22,x2022 200),(27,x2027),(28,x28),(33,x2033),(32,x2032),(34,x34),(31,x2031),(35,x1118),(24,x2024),(29,x2029),(30,x2030),(10,x2010)] 0
   (.seq b2008_4 (.seq b2008_5 (.seq b2008_6 (.seq b2008_7 (.seq b2008_8 (.seq b2008_9 (.seq b2008_10 (.seq b2008_11 b2008_12)))))))) ⟨sl,[rC p,rC q]⟩ (retQ prog 0 [.tmp 8] fun t H=>t = .bool true∧H=[]):=by
 have s1:x28.sc=true:=rfl
 have s2:x2026.sc=true:=rfl
 have s3:(x2022 200).sc=true:=rfl
 have s4:x2024.sc=true:=rfl
 have s5:x2029.sc=true:=rfl
 have s6:x2030.sc=true:=rfl
 have s8:x2010.sc=true:=rfl
 have g10:=xg2010
 have gi:=xg2026
 have i1:∀ n,(idA n).row=[.v (.string ⟨#[97]⟩),.v (.int .i64 n)]:=fun _=>rfl
 have hr:rootI.row=[.v (.string ⟨#[]⟩),.v (.int .i64 0)]:=rfl
 have hgr:(⟨#[103,114,111,117,112]⟩:ByteArray)=grp:=rfl
 have hW:Wf ([]:List O):=fun o ho=>by cases ho
 obtain ⟨op,oq⟩:=TT.ok
 have hk:=l2_key h
 have hs:=l2_sib h
 have hl2:∀ t∈l2 p q,OkQ t.pl:=fun t ht=>by
  simp [l2] at ht
  rcases ht with rfl | rfl
  ·exact op
  ·exact oq
 by_cases hc:cmpR p q=0
 ·have hpq:p=q:=by
   rw [TT.p,TT.q] at hc ⊢
   exact (can_cmp TT.c0 TT.d0).1 hc
  rw [if_pos hc,TT.p,norm_can TT.c0,← TT.p] at hk
  have ok:okK 200 (l2 p q) rootI 1:=⟨hl2,(by show 2<1000000000000; decide),fun _ _ hne=>by
   rw [hs] at hne
   exact absurd hc hne⟩
  have g1:=(xg2022 200 (l2 p q) rootI 1 ok (by decide)).trans (by rw [hk])
  rw [l2_rows,hr] at g1
  subst hpq
  have hce:cellsEq [.b,.s,.s] [.d (.v (.bool p.neg)),.d (.v (.string p.num)),.d (.v (.string p.den))] [.d (.v (.bool p.neg)),.d (.v (.string p.num)),.d (.v (.string p.den))]=some true:=by
   simp [cellsEq,skEq]
  simp -implicitDefEqProofs (disch:=omega) [gz,b2008_4,b2008_5,b2008_6,h9,h11,s2,gi,i1,s3,g1,hgr,hce,s8,g10,ratV,ratP,wrap64,fillC,fillR,splice,toPVs,toPV,toDs,toD,frzVs,osVs,Nat.add_assoc]
  repeat' with_reducible apply And.intro
  all_goals first|omega|kernel_rfl|exact fun _ _=>rfl|skip
  exact fin_junk (A:=[]) hW rfl trivial ⟨rfl,rfl⟩
 ·obtain ⟨x,hx,ob,ox,l1,l2',K⟩:=two_key TT (by omega)
  rw [if_neg hc,hx] at hk
  have ok:okK 200 (l2 p q) rootI 1:=⟨hl2,(by show 2<1000000000000; decide),fun _ _ _=>by
   rw [hs]
   exact ob⟩
  have g1:=(xg2022 200 (l2 p q) rootI 1 ok (by decide)).trans (by rw [hk])
  rw [l2_rows,hr] at g1
  have hne:p≠q:=fun e=>hc (by
   rw [e]; unfold cmpR; rw [Int.sub_self]; rfl)
  have hce:cellsEq [.b,.s,.s] [.d (.v (.bool p.neg)),.d (.v (.string p.num)),.d (.v (.string p.den))] [.d (.v (.bool q.neg)),.d (.v (.string q.num)),.d (.v (.string q.den))]=some false:=by
   rw [cells_rat,@decide_eq_false _ (Classical.propDecidable _) hne]
  have g2:=xg2024 p x op ox
  have g3:=xg2024 x q ox oq
  obtain ⟨z1,hz1⟩:∃ z,z=cmpR p x:=⟨_,rfl⟩
  obtain ⟨z2,hz2⟩:∃ z,z=cmpR x q:=⟨_,rfl⟩
  rw [← hz1] at g2 l1
  rw [← hz2] at g3 l2'
  have n1:¬ 0≤z1:=by omega
  have n2:¬ 0≤z2:=by omega
  have g4:=xg2029 p op
  have g5:=xg2029 q oq
  have sA:sgZ (rn p)<0↔rn p<0:=sgZ_neg
  have sB:0<sgZ (rn q)↔0<rn q:=sgZ_pos
  have sC:sgZ (rn q)≤0↔rn q≤0:=sgZ_le
  obtain ⟨y1,hy1⟩:∃ z,z=sgZ (rn p):=⟨_,rfl⟩
  obtain ⟨y2,hy2⟩:∃ z,z=sgZ (rn q):=⟨_,rfl⟩
  rw [← hy1] at g4 sA
  rw [← hy2] at g5 sB sC
  cases K with
  | zero k1 k2 kx =>
   have m1:=sA.2 k1
   have m2:=sB.2 k2
   have g6:=xg28 0 (by decide)
   rw [zR_mk,← kx] at g6
   have hcx:cellsEq [.b,.s,.s] [.d (.v (.bool x.neg)),.d (.v (.string x.num)),.d (.v (.string x.den))] [.d (.v (.bool x.neg)),.d (.v (.string x.num)),.d (.v (.string x.den))]=some true:=by
    simp [cellsEq,skEq]
   clear kx
   simp -implicitDefEqProofs (disch:=omega) [gz,b2008_4,b2008_5,b2008_6,b2008_7,b2008_8,h9,h11,s2,gi,i1,s3,g1,hgr,hce,s4,g2,g3,n1,n2,s5,g4,g5,m1,m2,s1,g6,hcx,s8,g10,ratV,ratP,wrap64,fillC,fillR,splice,toPVs,toPV,toDs,toD,frzVs,osVs,Nat.add_assoc]
   repeat' with_reducible apply And.intro
   all_goals first|omega|kernel_rfl|exact fun _ _=>rfl|skip
   exact fin_junk (A:=[]) hW rfl trivial ⟨rfl,rfl⟩
  | pos a b c d u v k1 k2 F =>
   have m1:¬ y1<0:=fun q=>k1 (sA.1 q)
   have m2:¬ y2≤0:=fun q=>k2 (sC.1 q)
   simp -implicitDefEqProofs (disch:=omega) [gz,b2008_4,b2008_5,b2008_6,b2008_7,b2008_8,b2008_9,h9,h11,s2,gi,i1,s3,g1,hgr,hce,s4,g2,g3,n1,n2,s5,g4,g5,m1,m2,s8,g10,ratV,ratP,wrap64,fillC,fillR,splice,toPVs,toPV,toDs,toD,frzVs,osVs,Nat.add_assoc]
   repeat' with_reducible apply And.intro
   all_goals first|omega|kernel_rfl|exact fun _ _=>rfl|skip
   show wcodeX _ _ _ _ (.seq b2008_10 (.seq b2008_11 b2008_12)) _ _
   exact k2008_loop F op oq _ _ [] (by simp [h9]) (by simp [h11]) (by simp)
  | neg a b c d u v k1 F =>
   have m1:¬ 0<y2:=fun q=>by have:=sB.1 q; omega
   have m2:y2≤0:=sC.2 k1
   have g6:=xg2030 p op
   have g7:=xg2030 q oq
   have g8:=xg2030 x ox
   have op2:OkQ (negR p):=by
    rw [neg_is (is_one TT.c0 TT.p)]
    have h40:40<big:=by decide
    have:=TT.a4; have:=TT.c4
    exact (ok_mk (by omega) (by omega)).1
   have oq2:OkQ (negR q):=by
    rw [neg_is (is_one TT.d0 TT.q)]
    have h40:40<big:=by decide
    have:=TT.b4; have:=TT.d4
    exact (ok_mk (by omega) (by omega)).1
   obtain ⟨np,hnp⟩:∃ z,z=negR p:=⟨_,rfl⟩
   obtain ⟨nq,hnq⟩:∃ z,z=negR q:=⟨_,rfl⟩
   obtain ⟨nx,hnx⟩:∃ z,z=negR x:=⟨_,rfl⟩
   rw [← hnp] at g6 F op2
   rw [← hnq] at g7 F oq2
   rw [← hnx] at g8 F
   have bo:∀ b:Bool,(b=true→True):=fun _ _=>trivial
   by_cases m3:y1<0
   all_goals
    simp -implicitDefEqProofs (disch:=omega) [gz,b2008_4,b2008_5,b2008_6,b2008_7,b2008_8,b2008_9,h9,h11,s2,gi,i1,s3,g1,hgr,hce,s4,g2,g3,n1,n2,s5,g4,g5,m1,m2,m3,s6,g6,g7,g8,s8,g10,ratV,ratP,wrap64,fillC,fillR,splice,toPVs,toPV,toDs,toD,frzVs,osVs,Nat.add_assoc]
    repeat' with_reducible apply And.intro
    all_goals first|omega|kernel_rfl|exact fun _ _=>rfl|skip
    show wcodeX _ _ _ _ (.seq b2008_10 (.seq b2008_11 b2008_12)) _ _
    exact k2008_loop F oq2 op2 _ _ [] (by simp [h9]) (by simp [h11]) (by simp)
theorem k2008 (a b:Int) (c d:Nat) (ha:-128≤a∧a≤127) (hb:-128≤b∧b≤127) (hc:c<256) (hd:d<256) :
  ACalls prog (GM 0) 8 [.c (.d (.v (.int .i8 a))),.c (.d (.v (.int .i8 b))),.c (.d (.v (.int .u8 c))),.c (.d (.v (.int .u8 d)))] [] fun t H=>t = .bool true∧H=[]:=by
 have s1:x28.sc=true:=rfl
 have s3:x2027.sc=true:=rfl
 have s4:x2024.sc=true:=rfl
 obtain ⟨A,hA⟩:∃ A,A=a.tmod 41:=⟨_,rfl⟩
 obtain ⟨B,hB⟩:∃ B,B=b.tmod 41:=⟨_,rfl⟩
 obtain ⟨C,hC⟩:∃ C:Nat,C=c % 40+1:=⟨_,rfl⟩
 obtain ⟨D,hD⟩:∃ D:Nat,D=d % 40+1:=⟨_,rfl⟩
 have eC:Int.tmod (c:Int) 40+1=(C:Int):=by rw [hC]; rfl
 have eD:Int.tmod (d:Int) 40+1=(D:Int):=by rw [hD]; rfl
 have hA4:A.natAbs≤40:=by rw [hA,Int.natAbs_tmod]; show a.natAbs % 41≤40; omega
 have hB4:B.natAbs≤40:=by rw [hB,Int.natAbs_tmod]; show b.natAbs % 41≤40; omega
 have c0:0<C:=by omega
 have d0:0<D:=by omega
 have c4:C≤40:=by have:=Nat.mod_lt c (show 0<40 by decide); omega
 have d4:D≤40:=by have:=Nat.mod_lt d (show 0<40 by decide); omega
 have g1:=xg28 A (by omega)
 have g2:=xg28 B (by omega)
 have g3:=xg28 (C:Int) (by omega)
 have g4:=xg28 (D:Int) (by omega)
 have h40:40<big:=by decide
 have o1:=(ok_mk (z:=A) (b:=1) (by omega) (by decide)).1
 have o2:=(ok_mk (z:=B) (b:=1) (by omega) (by decide)).1
 have o3:=(ok_mk (z:=(C:Int)) (b:=1) (by omega) (by decide)).1
 have o4:=(ok_mk (z:=(D:Int)) (b:=1) (by omega) (by decide)).1
 have g5:=xgDiv _ _ o1 o3
 have g6:=xgDiv _ _ o2 o4
 rw [div_is (is_mk (by decide)) (is_mk (by decide)) (by omega)] at g5 g6
 have e5:Nv.mkI (A*((1:Nat):Int)) (1*(C:Int).natAbs)=Nv.mkI A C:=by simp
 have e6:Nv.mkI (B*((1:Nat):Int)) (1*(D:Int).natAbs)=Nv.mkI B D:=by simp
 rw [e5] at g5
 rw [e6] at g6
 have T1:Two (Nv.mkI A C) (Nv.mkI B D) A B C D:=⟨rfl,rfl,c0,d0,c4,d4,hA4,hB4⟩
 have T2:Two (Nv.mkI B D) (Nv.mkI A C) B A D C:=⟨rfl,rfl,d0,c0,d4,c4,hB4,hA4⟩
 obtain ⟨op,oq⟩:=T1.ok
 have g7:=xg2024 _ _ op oq
 have hsym:0<cmpR (Nv.mkI A C) (Nv.mkI B D)→cmpR (Nv.mkI B D) (Nv.mkI A C)≤0:=by
  rw [cmp_is (is_mk c0) (is_mk d0),cmp_is (is_mk d0) (is_mk c0),sgZ_pos,sgZ_le]; omega
 obtain ⟨p,hp⟩:∃ p,p=Nv.mkI A C:=⟨_,rfl⟩
 obtain ⟨q,hq⟩:∃ q,q=Nv.mkI B D:=⟨_,rfl⟩
 rw [← hp] at g5 g7 T1 T2 hsym
 rw [← hq] at g6 g7 T1 T2 hsym
 obtain ⟨p1,hp1⟩:∃ p,p=Nv.mkI A 1:=⟨_,rfl⟩
 obtain ⟨p2,hp2⟩:∃ p,p=Nv.mkI B 1:=⟨_,rfl⟩
 obtain ⟨p3,hp3⟩:∃ p,p=Nv.mkI (C:Int) 1:=⟨_,rfl⟩
 obtain ⟨p4,hp4⟩:∃ p,p=Nv.mkI (D:Int) 1:=⟨_,rfl⟩
 rw [← hp1] at g1 g5
 rw [← hp2] at g2 g6
 rw [← hp3] at g3 g5
 rw [← hp4] at g4 g6
 obtain ⟨z,hz⟩:∃ z,z=cmpR p q:=⟨_,rfl⟩
 rw [← hz] at g7 hsym
 refine acallsX (X:=[(26,x2026),(22,x2022 200),(27,x2027),(28,x28),(33,x2033),(32,x2032),(34,x34),(31,x2031),(35,x1118),(24,x2024),(29,x2029),(30,x2030),(10,x2010)])
  ⟨kx2026.gm,(kx2022 200).gm,kx2027.gm,kx28.gm,kx2033.gm,kx2032.gm,kx34.gm,kx2031.gm,kx1118.gm,kx2024.gm,kx2029.gm,kx2030.gm,kx2010,trivial⟩ tab hmix func8 c2008 (by rfl) fun hw=>?_
 by_cases hcm:0<z
 ·have hle:=hsym hcm
  simp -implicitDefEqProofs (disch:=omega) [gz,ir2008,b2008,b2008_0,b2008_1,b2008_2,b2008_3,← hA,← hB,eC,eD,s1,g1,g2,g3,g4,s3,g5,g6,s4,g7,hcm,ratV,ratP,wrap64,fillC,splice,toPVs,toPV,frzVs,osVs]
  repeat' with_reducible apply And.intro
  all_goals first|omega|kernel_rfl|exact fun _ _=>rfl|skip
  show wcodeX _ _ _ _ (.seq b2008_4 (.seq b2008_5 (.seq b2008_6 (.seq b2008_7 (.seq b2008_8 (.seq b2008_9 (.seq b2008_10 (.seq b2008_11 b2008_12)))))))) _ _
  exact k2008_tail T2 hle _ (by simp) (by simp)
 ·have hle:cmpR p q≤0:=by omega
  simp -implicitDefEqProofs (disch:=omega) [gz,ir2008,b2008,b2008_0,b2008_1,b2008_2,b2008_3,← hA,← hB,eC,eD,s1,g1,g2,g3,g4,s3,g5,g6,s4,g7,hcm,ratV,ratP,wrap64,fillC,splice,toPVs,toPV,frzVs,osVs]
  repeat' with_reducible apply And.intro
  all_goals first|omega|kernel_rfl|exact fun _ _=>rfl|skip
  show wcodeX _ _ _ _ (.seq b2008_4 (.seq b2008_5 (.seq b2008_6 (.seq b2008_7 (.seq b2008_8 (.seq b2008_9 (.seq b2008_10 (.seq b2008_11 b2008_12)))))))) _ _
  exact k2008_tail T1 hle _ (by simp) (by simp)
theorem dec_i8 {l:List D} (h:okShs [.i .i8] l):∃ n:Int,l=[.v (.int .i8 n)]∧(-128≤n∧n≤127):=by
 simp only [okShs,okSh] at h
 obtain ⟨_,_,rfl,⟨n,rfl,h⟩,rfl⟩:=h
 simp [Lit.wf,IntKind.bits,IntKind.signed,IntKind.min,IntKind.max] at h
 exact ⟨n,rfl,by omega⟩
end Go.Aw.Try
