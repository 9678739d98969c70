/- An abstract machine over the model, and contracts of functions of this program on it (part 6): words and lemmas for the proof in the last text. -/
import Derived.Test.YtbehhclclhfhkaaGreatDoorCards
import Derived.Test.YtbehhclclhfhkaaGreatDoorTie
import Derived.Deep.DeepHandedRow
import Derived.Shelf.Vars
import Derived.MakeChecks
import Derived.Test.YtbehhclclhfhkaaGreatDoorBE
set_option linter.unusedSimpArgs false
set_option linter.unusedVariables false
set_option linter.unusedSectionVars false

namespace Go.Aw.Try
open Go Go.Proofs Go.Proofs.YtbehhclclhfhkaaGreatDoor Go.Aw
set_option maxRecDepth 100000
set_option maxHeartbeats 4000000
abbrev idSh:List Sh:=[.s,.i .i64]
theorem dec_list {α:Type} {row:α→List D} {sh:List Sh} (hd:∀ l,okShs sh l→∃ x,l=row x):∀ {xs:List (List D)},(∀ x∈xs,okShs sh x)→∃ l:List α,xs=l.map row
 | [],_=>⟨[],rfl⟩
 | x :: xs,h=>by
  obtain ⟨a,rfl⟩:=hd x (h x List.mem_cons_self)
  obtain ⟨l,rfl⟩:=dec_list hd (fun y hy=>h y (List.mem_cons_of_mem _ hy))
  exact ⟨a :: l,rfl⟩
theorem wrows {α:Type} {row:α→List D} (h:∀ x,row x≠[]):∀ l:List α,l.length≤wDss (l.map row)
 | []=>by simp
 | x :: l=>by
  have:=wrows h l
  have h1:1≤wDs (row x):=by
   cases hx:row x with
   | nil=>exact absurd hx (h x)
   | cons d r =>
    have:1≤wD d:=by unfold wD; split <;> omega
    simp only [wDs]; omega
  simp only [List.map_cons,wDss,List.length_cons]; omega
section
variable {H:Type}
mutual
theorem bulk_D:∀ d:DataW H,wDs (datD d)≤Rows.uptoBulk d
 | .lit l=>by cases l <;> simp [datD,wDs,wD,Rows.uptoBulk,ByteArray.size]
 | .nil=>by simp [datD,wDs,wD,wDss,Rows.uptoBulk]
 | .ptr d=>by simp [datD,wDs]
 | .slice es sp=>by
  have:=bulk_Ds es
  simp only [datD,wDs,wD,Rows.uptoBulk]; omega
 | .agg ps=>by
  have:=bulk_F ps
  simp only [datD,Rows.uptoBulk]; omega
 | .iface t d=>by simp [datD,wDs]
 | .map es=>by simp [datD,wDs]
 | .held h=>by simp [datD,wDs]
theorem bulk_Ds:∀ l:List (DataW H),wDss (datDs l)≤Rows.uptoBulkAll l
 | []=>by simp [datDs,wDss]
 | d :: r=>by
  have h1:=bulk_D d
  have h2:=bulk_Ds r
  simp only [datDs,wDss,Rows.uptoBulkAll]; omega
theorem bulk_F:∀ l:List (DataW H),wDs (datF l)≤Rows.uptoBulkAll l
 | []=>by simp [datF,wDs]
 | d :: r=>by
  have h1:=bulk_D d
  have h2:=bulk_F r
  simp only [datF,Rows.uptoBulkAll]; rw [wDs_app]; omega
end
theorem bulk_args {ds:List (DataW H)} (hk:Rows.uptoSmall H ds=true):∀ (i:Nat) u,(ds.map datD)[i]? = some u→wDs u≤1048576:=by
 have h:Rows.uptoBulkAll ds≤1048576:=of_decide_eq_true hk
 intro i u hu
 have key:∀ (ds:List (DataW H)) (i:Nat) u,(ds.map datD)[i]? = some u→wDs u≤Rows.uptoBulkAll ds:=by
  intro ds
  induction ds with
  | nil=>intro i u hu; simp at hu
  | cons d r ih =>
   intro i u hu
   cases i with
   | zero=>simp at hu; subst hu; have:=bulk_D d; simp only [Rows.uptoBulkAll]; omega
   | succ i=>simp at hu; have:=ih i u (by simpa using hu); simp only [Rows.uptoBulkAll]; omega
 exact Nat.le_trans (key ds i u hu) h
end
theorem own:ownKnob Tryz.prog.godebug=none:=by kernel_rfl
theorem laid:laidOutB Tryz.prog=true:=by kernel_rfl
theorem wmem {α:Type} {row:α→List D}:∀ {l:List α} {x:α},x∈l→wDs (row x)≤wDss (l.map row)
 | [],x,h=>by cases h
 | y :: l,x,h=>by
  simp only [List.map_cons,wDss]
  rcases List.mem_cons.1 h with rfl | h
  ·omega
  ·have:=wmem (row:=row) h; omega
abbrev tnSh:List Sh:=[.s,.i .i64,.s,.i .i64,.b,.s,.s,.s]
theorem dec_tn {l:List D} (h:okShs tnSh l):∃ e:TN,l=e.row:=by
 simp only [tnSh,okShs,okSh] at h
 obtain ⟨_,_,rfl,⟨a1,rfl⟩,_,_,rfl,⟨a2,rfl,_⟩,_,_,rfl,⟨a3,rfl⟩,_,_,rfl,⟨a4,rfl,_⟩,_,_,rfl,⟨a5,rfl⟩,_,_,rfl,⟨a6,rfl⟩,_,_,rfl,⟨a7,rfl⟩,_,_,rfl,⟨a8,rfl⟩,rfl⟩:=h
 exact ⟨⟨⟨a1,a2⟩,⟨a3,a4⟩,⟨a5,a6,a7⟩,a8⟩,rfl⟩
theorem dec_tns {l:List D} (h:okShs [.sl tnSh] l):∃ es:List TN,l=[.sl (es.map TN.row)]:=by
 simp only [okShs,okSh] at h
 obtain ⟨_,_,rfl,⟨xs,rfl,h⟩,rfl⟩:=h
 obtain ⟨es,rfl⟩:=dec_list (row:=TN.row) (fun l h=>dec_tn h) h
 exact ⟨es,rfl⟩
theorem trash {W:World} (h:laidMetH Tryz.prog Rows.movetreeBatchesUptoRow.laid W):GRel (GM 0) (stab (fun _=>none) [] W) W:=by
 rw [Go.MakeChecks.laidMetH_plain _ _ _ (by kernel_rfl)] at h
 obtain ⟨ps,⟨_,_,_,_,_,_,_,_,_,_,⟨g,t,cs,fuel,p,q,hg,ht,hv,hd,_,_⟩,_⟩,_,_⟩:=h
 obtain rfl:=Option.some.inj ((show Tryz.prog.globalNamed "voussoir/movetree.trash" = some 0 by kernel_rfl).symm.trans hg)
 obtain rfl:=Option.some.inj ((show (Tryz.prog.globals[0]?).map (·.type)=some 25 by kernel_rfl).symm.trans ht)
 have hr:=trod_rd fuel 20 25 idSh _ _ _ (by kernel_rfl) hd
 obtain ⟨_,hlen,hr⟩:=hr
 have hd0:datD (H:=Unit) Rows.laid_voussoir_movetree_trash=[.v (.string ⟨#[45]⟩),.v (.int .i64 0)]:=rfl
 rw [hd0] at hr
 have h2:cs.toList.length=2:=hlen
 have c0:W.cell? ⟨0,0,none⟩=some (.string ⟨#[45]⟩):=by
  have e:=World.var?_cell hg hv 0
  have e0:cs.toList[0]? = some (cs.toList[0]'(by omega)):=List.getElem?_eq_getElem (by omega)
  have e1:=drel_v (hr 0 _ _ rfl e0)
  rw [e,← e1,← Array.getElem?_toList]; exact e0
 have c1:W.cell? ⟨0,1,none⟩=some (.int .i64 0):=by
  have e:=World.var?_cell hg hv 1
  have e0:cs.toList[1]? = some (cs.toList[1]'(by omega)):=List.getElem?_eq_getElem (by omega)
  have e1:=drel_v (hr 1 _ _ rfl e0)
  rw [e,← e1,← Array.getElem?_toList]; exact e0
 intro g cs' hg'
 unfold GM at hg'
 split at hg'
 ·rename_i h0
  subst h0
  injection hg' with hg'; subst hg'
  have hlt:0<W.heap.size:=World.block_lt_of_cell? _ _ c0
  refine ⟨⟨hlt,fun r o hr=>by simp at hr⟩,hlt,fun j d hj=>?_⟩
  cases j with
  | zero=>injection hj with hj; subst hj; exact ⟨_,c0,DRel.v _ rfl⟩
  | succ j =>
   cases j with
   | zero=>injection hj with hj; subst hj; exact ⟨_,c1,DRel.v _ rfl⟩
   | succ j=>simp at hj
 ·cases hg'
def litV:DataW Unit→Value
 | .lit (.int k n)=>.int k n
 | _=>undef
def aggV:DataW Unit→List Value
 | .agg xs=>xs.flatMap fun d=>match d with
  | .agg ys=>ys.map litV
  | d=>[litV d]
 | _=>[]
def layO (cs:Array Value):Obj→Obj
 | .cells _ t fz=>.cells cs t fz
 | o=>o
noncomputable def laidWorld (os:Os):World :=
  { World.holding Tryz.prog os ⟨#[],#[],[]⟩ with heap:=(((World.holding Tryz.prog os ⟨#[],#[],[]⟩).heap.modify 2 (layO (aggV Go.Pinned.utf8First).toArray)).modify 3 (layO (aggV (Rows.laid_unicode_utf8_acceptRanges (H:=Unit))).toArray)).modify 0 (layO #[.string ⟨#[45]⟩,.int .i64 0]) }
theorem dec_u8 {l:List D} (h:okShs [.i .u8] l):∃ n:Nat,l=[.v (.int .u8 n)]∧n≤255:=by
 simp only [okShs,okSh] at h
 obtain ⟨_,_,rfl,⟨n,rfl,h⟩,rfl⟩:=h
 simp [Lit.wf,IntKind.bits,IntKind.signed,IntKind.min,IntKind.max] at h
 obtain ⟨k,rfl⟩:=Int.eq_ofNat_of_zero_le (a:=n) (by omega)
 exact ⟨k,rfl,by omega⟩
theorem b_tns {l:List TN} (h:wDs [.sl (l.map TN.row)]≤1048576):l.length<1152921504606846976∧∀ e∈l,OkN e:=by
 simp only [wDs,wD] at h
 have h1:=wrows (row:=TN.row) (fun x=>by simp [TN.row]) l
 refine ⟨by omega,fun e he=>?_⟩
 have h2:=wmem (row:=TN.row) he
 have h5:wDs e.row≤1048576:=by omega
 simp only [TN.row,wDs,wD] at h5
 exact ⟨by omega,by omega,by omega,by omega,by omega⟩
open Go Go.Proofs Go.Aw
abbrev kys (m:Spots):List Id:=m.map Prod.fst
theorem alook_of_mem {m:Spots} (hn:(kys m).Nodup) {x:Id} {t:TN} (h:(x,t)∈m):alook m x=some t:=by
 induction m with
 | nil=>cases h
 | cons p m ih =>
  obtain ⟨k,v⟩:=p
  simp only [kys,List.map_cons,List.nodup_cons] at hn
  simp only [alook]
  rcases List.mem_cons.1 h with q | q
  ·injection q with q1 q2
   subst q1; subst q2; simp
  ·have:¬ k=x:=fun e=>hn.1 (by rw [e]; exact List.mem_map_of_mem (f:=Prod.fst) q)
   rw [if_neg this]
   exact ih hn.2 q
theorem alook_iff {m:Spots} (hn:(kys m).Nodup) {x:Id} {t:TN}:alook m x=some t↔(x,t)∈m:=⟨alook_pair,alook_of_mem hn⟩
theorem alook_perm {m m':Spots} (h:m.Perm m') (hn:(kys m).Nodup) (x:Id):alook m x=alook m' x:=by
 have hn':(kys m').Nodup:=(h.map Prod.fst).nodup_iff.1 hn
 cases q:alook m x with
 | some t=>exact ((alook_iff hn').2 (h.mem_iff.1 ((alook_iff hn).1 q))).symm
 | none =>
  cases q':alook m' x with
  | none=>rfl
  | some t=>rw [(alook_iff hn).2 (h.mem_iff.2 ((alook_iff hn').1 q'))] at q; cases q
theorem alook_none {m:Spots} {x:Id}:alook m x=none↔x ∉ kys m:=by
 induction m with
 | nil=>simp [alook]
 | cons p m ih =>
  obtain ⟨k,v⟩:=p
  simp only [alook,kys,List.map_cons,List.mem_cons,not_or]
  by_cases q:k=x
  ·subst q; simp
  ·rw [if_neg q,ih]
   exact ⟨fun h=>⟨fun e=>q e.symm,h⟩,fun h=>h.2⟩
theorem aput_form {m:Spots} (hn:(kys m).Nodup) (x:Id) (t:TN):(aput m x t).Perm ((x,t) :: m.filter fun p=>decide (p.1≠x)):=by
 induction m with
 | nil=>exact List.Perm.refl _
 | cons p m ih =>
  obtain ⟨k,v⟩:=p
  simp only [kys,List.map_cons,List.nodup_cons] at hn
  simp only [aput]
  by_cases q:k=x
  ·subst q
   rw [if_pos rfl,List.filter_cons_of_neg (by simp)]
   refine List.Perm.cons _ ?_
   rw [List.filter_eq_self.2]
   intro a ha
   simp only [decide_eq_true_eq]
   exact fun e=>hn.1 (by rw [← e]; exact List.mem_map_of_mem (f:=Prod.fst) ha)
  ·rw [if_neg q,List.filter_cons_of_pos (by simp [q])]
   exact ((ih hn.2).cons _).trans (List.Perm.swap _ _ _)
theorem aput_perm {m m':Spots} (h:m.Perm m') (hn:(kys m).Nodup) (x:Id) (t:TN):(aput m x t).Perm (aput m' x t):=by
 have hn':(kys m').Nodup:=(h.map Prod.fst).nodup_iff.1 hn
 exact (aput_form hn x t).trans (((h.filter _).cons _).trans (aput_form hn' x t).symm)
theorem climb_perm {m m':Spots} (h:∀ x,alook m x=alook m' x) (top:Id):∀ (n:Nat) (ms:List Id) (x:Id),climbF n m ms x top=climbF n m' ms x top:=by
 intro n
 induction n with
 | zero=>intro ms x; rfl
 | succ n ih =>
  intro ms x
  simp only [climbF,h x]
  split
  ·rfl
  ·split
   ·rfl
   ·split
    ·rfl
    ·exact ih _ _
theorem stepM_perm {m m':Spots} (h:m.Perm m') (ho:OkM m) (e:Edit):(stepM m e).Perm (stepM m' e):=by
 have ha:=alook_perm h ho.nd
 have hp:parB m e=parB m' e:=by unfold parB; rw [ha]
 have hu:undF m e.parent e.node=undF m' e.parent e.node:=by unfold undF; rw [h.length_eq]; exact climb_perm ha _ _ _ _
 unfold stepM
 rw [hp,hu,ha e.id,ha e.node]
 split
 ·split
  ·exact aput_perm h ho.nd _ _
  ·exact h
 ·split
  ·split
   ·split
    ·exact aput_perm h ho.nd _ _
    ·exact h
   ·exact h
  ·exact h
theorem okM_perm {m m':Spots} (h:m.Perm m') (ho:OkM m):OkM m':=⟨fun p hp=>ho.key p (h.mem_iff.2 hp),(h.map Prod.fst).nodup_iff.1 ho.nd⟩
theorem vals_nodup {m:Spots} (ho:OkM m):((m.map Prod.snd).map TN.node).Nodup:=by
 have:(m.map Prod.snd).map TN.node=m.map Prod.fst:=by
  rw [List.map_map]
  exact List.map_congr_left fun p hp=>ho.key p hp
 rw [this]; exact ho.nd
theorem aput_absent {m:Spots} {x:Id} {t:TN} (h:x ∉ kys m):aput m x t=m ++ [(x,t)]:=by
 induction m with
 | nil=>rfl
 | cons p m ih =>
  obtain ⟨k,v⟩:=p
  simp only [kys,List.map_cons,List.mem_cons,not_or] at h
  simp only [aput]
  rw [if_neg (fun e=>h.1 e.symm),ih h.2]; rfl
theorem addM_nodup {l:List TN} (hn:(l.map TN.node).Nodup):addM l=l.map fun t=>(t.node,t):=by
 have:∀ (l:List TN) (m:Spots),(kys m ++ l.map TN.node).Nodup→l.foldl (fun m t=>aput m t.node t) m=m ++ l.map fun t=>(t.node,t):=by
  intro l
  induction l with
  | nil=>intro m _; simp
  | cons t l ih =>
   intro m h
   have hx:t.node ∉ kys m:=fun q=>by
    rw [List.nodup_append] at h
    exact h.2.2 _ q t.node (by simp) rfl
   rw [List.foldl_cons,aput_absent hx,ih]
   ·simp
   ·rw [show kys (m ++ [(t.node,t)])=kys m ++ [t.node] by simp [kys],List.append_assoc]; exact h
 have h:=this l [] (by simpa using hn)
 simpa [addM] using h
theorem pairs_vals {m:Spots} (ho:OkM m):((m.map Prod.snd).map fun t=>(t.node,t))=m:=by
 rw [List.map_map]
 refine (List.map_congr_left fun p hp=>?_).trans (List.map_id m)
 show (p.2.node,p.2)=p
 rw [ho.key p hp]
theorem app_nodup (l:List TN) (es:List Edit):((appF l es).map TN.node).Nodup :=
 ((ssort_perm cmpN' _).map TN.node).nodup_iff.2 (vals_nodup (runM_ok (addM_ok l) es))
theorem addM_app (l:List TN) (es:List Edit):(addM (appF l es)).Perm (runM (addM l) es):=by
 rw [addM_nodup (app_nodup l es)]
 have h:=(ssort_perm cmpN' ((runM (addM l) es).map Prod.snd)).map fun t:TN=>(t.node,t)
 rw [pairs_vals (runM_ok (addM_ok l) es)] at h
 exact h
theorem ssort_self {l:List TN} (h:(l.map TN.node).Nodup) (hs:Srt cmpN' l):ssort cmpN' l=l:=by
 have n1:((ssort cmpN' l).map TN.node).Nodup:=((ssort_perm cmpN' l).map TN.node).nodup_iff.2 h
 refine pw_ext (R:=fun a b=>cmpN' a b<0) (fun a b h1 h2=>?_) (fun a h=>?_) (sort_strict n1 (ssort_srt cmpN_pre l)) (sort_strict h hs) fun x=>?_
 ·have:=cmpN_pre.sgn a b; omega
 ·have:=cmpN_pre.rf a; omega
 ·rw [(ssort_perm cmpN' l).mem_iff]
inductive Outs (l:List TN):List Id→Prop where
 | nil:Outs l []
 | snoc {o:List Id} {y:Id} (h:Outs l o) (hn:y ∉ o) (hr:y≠rootI) (t:TN) (ht:t∈l) (hy:t.node=y) (hp:t.par=rootI∨t.par∈o):Outs l (o ++ [y])
theorem Outs.mem {l:List TN} {o:List Id} (h:Outs l o) {y:Id} (hy:y∈o):∃ t∈l,t.node=y∧y≠rootI∧(t.par=rootI∨t.par∈o):=by
 induction h with
 | nil=>cases hy
 | snoc h hn hr t ht he hp ih =>
  rcases List.mem_append.1 hy with q | q
  ·obtain ⟨t',h1,h2,h3,h4⟩:=ih q
   exact ⟨t',h1,h2,h3,h4.imp_right fun h=>List.mem_append_left _ h⟩
  ·rw [List.mem_singleton.1 q]
   exact ⟨t,ht,he,hr,hp.imp_right fun h=>List.mem_append_left _ h⟩
theorem Outs.nodup {l:List TN} {o:List Id} (h:Outs l o):o.Nodup:=by
 induction h with
 | nil=>exact List.nodup_nil
 | snoc h hn hr t ht he hp ih =>
  rw [List.nodup_append]
  exact ⟨ih,by simp,fun a ha b hb=>by simp at hb; subst hb; exact fun e=>hn (e▸ha)⟩
theorem Outs.before {l:List TN} {o:List Id} (h:Outs l o) (i:Nat) (hi:i<o.length):∃ t∈l,t.node=o[i]∧(t.par=rootI∨t.par∈o.take i):=by
 induction h with
 | nil=>simp at hi
 | @snoc o y h hn hr t ht he hp ih =>
  by_cases q:i<o.length
  ·obtain ⟨t',h1,h2,h3⟩:=ih q
   refine ⟨t',h1,by rw [h2,List.getElem_append_left q],?_⟩
   rw [List.take_append_of_le_length (by omega)]; exact h3
  ·have e:i=o.length:=by simp at hi; omega
   subst e
   refine ⟨t,ht,by simp [he],?_⟩
   rw [List.take_append_of_le_length (by omega),List.take_length]; exact hp
theorem ch_mem {l:List TN} {x y:Id} (h:y∈chF l x):∃ t∈l,t.node=y∧t.par=x:=by
 unfold chF at h
 obtain ⟨t,ht,rfl⟩:=List.mem_map.1 h
 refine ⟨t,sib_sub ht,rfl,?_⟩
 unfold sibF at ht
 have h2:∀ {m:List TN} {t:TN},t∈ssort cmpT m→t∈m:=fun {m}=>by
  induction m with
  | nil=>intro t ht; exact ht
  | cons x m ih =>
   intro t ht
   rcases insF_mem.1 ht with rfl | ht
   ·exact List.mem_cons_self ..
   ·exact List.mem_cons_of_mem _ (ih ht)
 have:=(List.mem_filter.1 (h2 ht)).2
 simpa using this
theorem vis_ok (l:List TN):∀ (n:Nat) (x:Id) (out:List Id),Outs l out→(x=rootI∨x∈out)→Outs l (visF n l x out)∧∀ y∈out,y∈visF n l x out:=by
 intro n
 induction n with
 | zero=>intro x out h _; exact ⟨h,fun y hy=>hy⟩
 | succ n ih =>
  intro x out h hx
  simp only [visF]
  have key:∀ (ys:List Id) (o:List Id),(∀ y∈ys,∃ t∈l,t.node=y∧t.par=x)→Outs l o→(x=rootI∨x∈o) →
    Outs l (ys.foldl (fun o y=>if y∈rootI :: o then o else visF n l y (o ++ [y])) o)∧∀ z∈o,z∈ys.foldl (fun o y=>if y∈rootI :: o then o else visF n l y (o ++ [y])) o:=by
   intro ys
   induction ys with
   | nil=>intro o _ ho _; exact ⟨ho,fun z hz=>hz⟩
   | cons y ys ihy =>
    intro o hys ho hxo
    simp only [List.foldl_cons]
    by_cases q:y∈rootI :: o
    ·rw [if_pos q]
     exact ihy o (fun z hz=>hys z (List.mem_cons_of_mem _ hz)) ho hxo
    ·rw [if_neg q]
     have q1:y≠rootI:=fun e=>q (e▸List.mem_cons_self ..)
     have q2:y ∉ o:=fun e=>q (List.mem_cons_of_mem _ e)
     obtain ⟨t,ht,he,hp⟩:=hys y (List.mem_cons_self ..)
     have hs:Outs l (o ++ [y]):=.snoc ho q2 q1 t ht he (by rw [hp]; exact hxo)
     obtain ⟨k1,k2⟩:=ih y (o ++ [y]) hs (.inr (by simp))
     have hxo':x=rootI∨x∈visF n l y (o ++ [y]):=hxo.imp_right fun h=>k2 _ (List.mem_append_left _ h)
     obtain ⟨m1,m2⟩:=ihy _ (fun z hz=>hys z (List.mem_cons_of_mem _ hz)) k1 hxo'
     exact ⟨m1,fun z hz=>m2 z (k2 z (List.mem_append_left _ hz))⟩
  exact key _ _ (fun y hy=>ch_mem hy) h hx
theorem walk_ok (l:List TN):Outs l (walkF l):=(vis_ok l _ rootI [] .nil (.inl rfl)).1
def cho (m:Spots):Nat→Id→Option Id
 | 0,x=>some x
 | j+1,x=>match alook m x with | none=>none | some t=>cho m j t.par
theorem cho_add (m:Spots):∀ (i j:Nat) (x:Id),cho m (i+j) x=(cho m i x).bind (cho m j)
 | 0,j,x=>by simp [cho]
 | i+1,j,x=>by
  rw [show i+1+j=(i+j)+1 by omega]
  simp only [cho]
  cases alook m x with
  | none=>rfl
  | some t=>exact cho_add m i j t.par
theorem climb_true {m:Spots} {top:Id}:∀ {n:Nat} {ms:List Id} {x:Id},climbF n m ms x top=true→∃ j,cho m j x=some top:=by
 intro n
 induction n with
 | zero=>intro ms x h; simp [climbF] at h
 | succ n ih =>
  intro ms x h
  simp only [climbF] at h
  split at h
  ·rename_i q; exact ⟨0,by rw [q]; rfl⟩
  ·split at h
   ·cases h
   ·rename_i t q
    split at h
    ·cases h
    ·obtain ⟨j,hj⟩:=ih h
     exact ⟨j+1,by simp only [cho,q]; exact hj⟩
structure Tree (m:Spots):Prop where
 ok:OkM m
 no:∀ x∈kys m,x≠rootI∧x≠binI0
 en:∀ x∈kys m,∃ j up,cho m j x=some up∧(up=rootI∨up=binI0)
theorem Tree.up_none {m:Spots} (T:Tree m) {up:Id} (h:up=rootI∨up=binI0):alook m up=none:=by
 rw [alook_none]
 intro q
 rcases h with rfl | rfl
 ·exact (T.no _ q).1 rfl
 ·exact (T.no _ q).2 rfl
theorem Tree.no_cyc {m:Spots} (T:Tree m) {x:Id} (hx:x∈kys m) {p:Nat} (hp:0<p):cho m p x≠some x:=by
 intro hc
 obtain ⟨j,up,hj,hu⟩:=T.en x hx
 have hn:=T.up_none hu
 have key:∀ n j,j≤n→cho m j x=some up→False:=by
  intro n
  induction n with
  | zero =>
   intro j hj0 hj
   have e:j=0:=by omega
   subst e
   simp only [cho,Option.some.injEq] at hj
   subst hj
   rw [alook_none] at hn
   exact hn hx
  | succ n ih =>
   intro j hjn hj
   by_cases q:j<p
   ·have e:p=j+(p-j):=by omega
    rw [e,cho_add,hj] at hc
    obtain ⟨d,hd⟩:∃ d,p-j=d+1:=⟨p-j-1,by omega⟩
    rw [hd] at hc
    simp only [Option.bind_some,cho,hn] at hc
    cases hc
   ·have e:j=p+(j-p):=by omega
    rw [e,cho_add,hc] at hj
    exact ih (j-p) (by omega) hj
 exact key j j (Nat.le_refl _) hj
theorem look_fnd {l:List TN} (hn:(l.map TN.node).Nodup) {x:Id} {k:Nat} (h:fndT l x=some k):alook (addM l) x=some (nth l k):=by
 obtain ⟨h1,h2⟩:=fnd_spec h
 refine alook_of_mem (addM_ok l).nd ?_
 rw [addM_nodup hn]
 exact List.mem_map.2 ⟨nth l k,nth_mem h1,by rw [h2]⟩
theorem bel_true {l:List TN} (hn:(l.map TN.node).Nodup) {up:Id}:∀ {n:Nat} {x:Id},belF n l x up=true→∃ j,cho (addM l) j x=some up:=by
 intro n
 induction n with
 | zero=>intro x h; simp [belF] at h
 | succ n ih =>
  intro x h
  simp only [belF] at h
  split at h
  ·rename_i q; exact ⟨0,by rw [q]; rfl⟩
  ·split at h
   ·rename_i k q
    obtain ⟨j,hj⟩:=ih h
    exact ⟨j+1,by simp only [cho,look_fnd hn q]; exact hj⟩
   ·cases h
theorem lessB_iff (a b:Id):lessB a b=true↔lessZ a b<0:=by
 have e:lessZ a b=orI [cmpA a.a b.a,cmpI a.n b.n]:=rfl
 have l1:=strLt_eq a.a b.a
 have c:=cmpS_eq a.a b.a
 rw [e]
 unfold lessB
 simp only [orI]
 by_cases q:a.a=b.a
 ·have q2:=c.2 q
  rw [if_pos q]
  have:cmpA a.a b.a=0:=by unfold cmpA sg3; rw [q2]; rfl
  rw [if_neg (by omega)]
  unfold cmpI
  simp only [decide_eq_true_eq]
  repeat' split
  all_goals omega
 ·have q2:cmpS a.a b.a≠0:=fun h=>q (c.1 h)
  rw [if_neg q,l1]
  have:cmpA a.a b.a=if cmpS a.a b.a<0 then -1 else 1:=by
   unfold cmpA sg3
   split
   ·rfl
   ·rw [if_pos (by omega)]
  rw [this]
  simp only [decide_eq_true_eq]
  repeat' split
  all_goals omega
theorem chk_parts {l:List TN} (h:chkT l=true) {i:Nat} (hi:i<l.length):chk1 l i=true:=by
 unfold chkT at h
 rw [List.all_eq_true] at h
 exact h i (List.mem_range.2 hi)
theorem pw_chain {l:List TN} (h:∀ i,0<i→i<l.length→cmpN' (nth l (i-1)) (nth l i)<0):∀ i j,i<j→j<l.length→cmpN' (nth l i) (nth l j)<0:=by
 intro i j hij
 induction j with
 | zero=>omega
 | succ j ih =>
  intro hj
  have h1:=h (j+1) (by omega) hj
  rw [show j+1-1=j by omega] at h1
  by_cases q:i=j
  ·subst q; exact h1
  ·have h2:=ih (by omega) (by omega)
   exact cmpN_pre.lt_le h2 (by omega)
theorem chk_less {l:List TN} (h:chkT l=true):l.Pairwise fun a b=>cmpN' a b<0:=by
 rw [List.pairwise_iff_getElem]
 intro i j hi hj hij
 have key:=pw_chain (l:=l) (fun i h0 hi=>by
  have h1:=chk_parts h hi
  unfold chk1 at h1
  simp only [Bool.and_eq_true,Bool.or_eq_true,decide_eq_true_eq] at h1
  rcases h1.2.1 with q | q
  ·omega
  ·exact (lessB_iff _ _).1 q) i j hij hj
 rw [nth_eq hi,nth_eq hj] at key
 exact key
theorem less_nodup {l:List TN} (h:l.Pairwise fun a b=>cmpN' a b<0):(l.map TN.node).Nodup:=by
 rw [List.Nodup,List.pairwise_map]
 refine h.imp fun {a b} h e=>?_
 have:cmpN' a b=cmpN' a a:=by show lessZ a.node b.node=lessZ a.node a.node; rw [e]
 rw [this,cmpN_pre.rf] at h
 omega
theorem less_srt {l:List TN} (h:l.Pairwise fun a b=>cmpN' a b<0):Srt cmpN' l:=h.imp fun {a b} (h:cmpN' a b<0)=>show cmpN' a b≤0 by omega
theorem chk_tree {l:List TN} (h:chkT l=true):Tree (addM l):=by
 have hn:=less_nodup (chk_less h)
 have hk:∀ x∈kys (addM l),∃ i,i<l.length∧(nth l i).node=x:=by
  intro x hx
  rw [addM_nodup hn] at hx
  simp only [kys,List.map_map] at hx
  obtain ⟨t,ht,rfl⟩:=List.mem_map.1 hx
  obtain ⟨i,hi,e⟩:=List.mem_iff_getElem.1 ht
  exact ⟨i,hi,by rw [nth_eq hi,e]; rfl⟩
 refine ⟨addM_ok l,fun x hx=>?_,fun x hx=>?_⟩
 ·obtain ⟨i,hi,rfl⟩:=hk x hx
  have h1:=chk_parts h hi
  unfold chk1 at h1
  simp only [Bool.and_eq_true,Bool.or_eq_true,decide_eq_true_eq] at h1
  have h2:=h1.1.2.1
  constructor
  ·intro e; rw [e] at h2; simp [rootI] at h2
  ·intro e; rw [e] at h2; simp [binI0] at h2
 ·obtain ⟨i,hi,rfl⟩:=hk x hx
  have h1:=chk_parts h hi
  unfold chk1 at h1
  simp only [Bool.and_eq_true,Bool.or_eq_true,decide_eq_true_eq] at h1
  rcases h1.2.2 with q | q
  ·obtain ⟨j,hj⟩:=bel_true hn q
   exact ⟨j,_,hj,.inl rfl⟩
  ·obtain ⟨j,hj⟩:=bel_true hn q
   exact ⟨j,_,hj,.inr rfl⟩
theorem aput_back {m:Spots} {x:Id} {s t:TN} (h:alook m x=some s):aput (aput m x t) x s=m:=by
 induction m with
 | nil=>cases h
 | cons p m ih =>
  obtain ⟨k,v⟩:=p
  simp only [alook] at h
  simp only [aput]
  by_cases q:k=x
  ·rw [if_pos q] at h
   injection h with h
   subst h; subst q
   rw [if_pos rfl]
   simp [aput]
  ·rw [if_neg q] at h
   rw [if_neg q]
   simp only [aput]
   rw [if_neg q,ih h]
theorem cho_back {m:Spots} {x:Id} {t:TN}:∀ (j:Nat) (y:Id),cho (aput m x t) j y=some x→∃ i,cho m i y=some x:=by
 intro j
 induction j with
 | zero=>intro y h; exact ⟨0,h⟩
 | succ j ih =>
  intro y h
  by_cases q:y=x
  ·exact ⟨0,by rw [q]; rfl⟩
  ·simp only [cho,alook_aput] at h
   rw [if_neg (fun e=>q e.symm)] at h
   cases hy:alook m y with
   | none=>rw [hy] at h; cases h
   | some u =>
    rw [hy] at h
    obtain ⟨i,hi⟩:=ih _ h
    exact ⟨i+1,by simp only [cho,hy]; exact hi⟩
section
variable {m:Spots} {s:TN} {e1 e2:Edit}
def binned (s:TN):TN:=⟨s.node,binI0,s.pl,s.kind⟩
theorem step_bin (T:Tree m) (hs:alook m s.node=some s) (k:e1.kind=2) (hn:e1.node=s.node) (hp:e1.parent=binI0) (hq:plc e1=s.pl):stepM m e1=aput m s.node (binned s):=by
 have hu:undF m e1.parent e1.node=false:=by
  cases q:undF m e1.parent e1.node with
  | false=>rfl
  | true =>
   exfalso
   rw [hn,hp] at q
   obtain ⟨j,hj⟩:=climb_true q
   cases j with
   | zero =>
    simp only [cho,Option.some.injEq] at hj
    have:=T.up_none (.inr rfl:binI0=rootI∨binI0=binI0)
    rw [hj,hs] at this
    cases this
   | succ j =>
    simp only [cho,T.up_none (.inr rfl:binI0=rootI∨binI0=binI0)] at hj
    cases hj
 unfold stepM
 rw [if_neg (by omega),if_pos k,hu,hn,hp,hq,hs]
 simp [binned]
theorem step_out (T:Tree m) (hs:alook m s.node=some s) (hb:s.par≠binI0) (k:e2.kind=2) (hn:e2.node=s.node) (hp:e2.parent=s.par) (hq:plc e2=s.pl):stepM (aput m s.node (binned s)) e2=m:=by
 have hx:s.node∈kys m:=List.mem_map_of_mem (f:=Prod.fst) (alook_pair hs)
 have hl:alook (aput m s.node (binned s)) s.node=some (binned s):=by rw [alook_aput,if_pos rfl]
 have hu:undF (aput m s.node (binned s)) e2.parent e2.node=false:=by
  cases q:undF (aput m s.node (binned s)) e2.parent e2.node with
  | false=>rfl
  | true =>
   exfalso
   rw [hn,hp] at q
   obtain ⟨j,hj⟩:=climb_true q
   obtain ⟨i,hi⟩:=cho_back j _ hj
   exact T.no_cyc hx (p:=i+1) (by omega) (by simp only [cho,hs]; exact hi)
 have hpar:parB (aput m s.node (binned s)) e2=true:=by
  unfold parB
  rw [hp]
  obtain ⟨j,up,hj,hup⟩:=T.en _ hx
  cases j with
  | zero =>
   simp only [cho,Option.some.injEq] at hj
   exfalso
   rcases hup with q | q
   ·exact (T.no _ hx).1 (hj.trans q)
   ·exact (T.no _ hx).2 (hj.trans q)
  | succ j =>
   simp only [cho,hs] at hj
   cases j with
   | zero =>
    simp only [cho,Option.some.injEq] at hj
    rcases hup with q | q
    ·rw [hj,q]; simp
    ·exact absurd (hj.trans q) hb
   | succ j =>
    simp only [cho] at hj
    have:(alook (aput m s.node (binned s)) s.par).isSome=true:=by
     rw [alook_aput]
     split
     ·rfl
     ·cases q:alook m s.par with
      | none=>rw [q] at hj; cases hj
      | some t=>rfl
    rw [this]; rfl
 unfold stepM
 rw [if_neg (by omega),if_pos k,hu,hn,hp,hq,hpar,hl]
 simp only [Bool.true_or,Bool.not_false,Bool.and_self,if_true]
 exact aput_back hs
end
theorem gone_mem {l:List TN} {s:TN} {e1:Edit} (T:Tree (addM l)) (hs:alook (addM l) s.node=some s) (k:e1.kind=2) (hn:e1.node=s.node) (hp:e1.parent=binI0) (hq:plc e1=s.pl) :
  (addM (appF l [e1])).Perm (aput (addM l) s.node (binned s)):=by
 have h:=addM_app l [e1]
 rw [show runM (addM l) [e1]=stepM (addM l) e1 from rfl,step_bin T hs k hn hp hq] at h
 exact h
theorem back_same {l:List TN} {s:TN} {e1 e2:Edit} (hc:chkT l=true) (hs:alook (addM l) s.node=some s) (hb:s.par≠binI0) (k:e1.kind=2) (hn:e1.node=s.node) (hp:e1.parent=binI0) (hq:plc e1=s.pl)
  (k2:e2.kind=2) (hn2:e2.node=s.node) (hp2:e2.parent=s.par) (hq2:plc e2=s.pl):appF (appF l [e1]) [e2]=l:=by
 have T:=chk_tree hc
 have h:=gone_mem T hs k hn hp hq
 have h2:=stepM_perm h (addM_ok _) e2
 rw [step_out T hs hb k2 hn2 hp2 hq2] at h2
 have hnd:=less_nodup (chk_less hc)
 have h3:=h2.map Prod.snd
 have e:(addM l).map Prod.snd=l:=by
  rw [addM_nodup hnd,List.map_map]; exact List.map_id l
 rw [e] at h3
 have h4:=sort_unique h3 (vals_nodup (stepM_ok (addM_ok _) e2))
 rw [ssort_self hnd (less_srt (chk_less hc))] at h4
 exact h4
theorem mem_addM {l:List TN} (hn:(l.map TN.node).Nodup) {t:TN}:t∈l↔(t.node,t)∈addM l:=by
 rw [addM_nodup hn]
 constructor
 ·intro h; exact List.mem_map_of_mem (f:=fun t:TN=>(t.node,t)) h
 ·intro h
  obtain ⟨t',h1,h2⟩:=List.mem_map.1 h
  injection h2 with h2 h3
  rw [← h3]; exact h1
theorem gone_walk {l:List TN} {s:TN} {e1:Edit} (T:Tree (addM l)) (hs:alook (addM l) s.node=some s) (k:e1.kind=2) (hn:e1.node=s.node) (hp:e1.parent=binI0) (hq:plc e1=s.pl) :
  s.node ∉ walkF (appF l [e1])∧∀ y∈walkF (appF l [e1]),∃ p,fndT (appF l [e1]) y=some p∧(nth (appF l [e1]) p).par≠s.node:=by
 have h:=gone_mem T hs k hn hp hq
 have hnd:=app_nodup l [e1]
 have hW:=walk_ok (appF l [e1])
 obtain ⟨g,hg⟩:∃ g,g=appF l [e1]:=⟨_,rfl⟩
 rw [← hg] at h hnd hW ⊢
 have hx:s.node∈kys (addM l):=List.mem_map_of_mem (f:=Prod.fst) (alook_pair hs)
 have hk:∀ t∈g,t.node∈kys (addM l):=by
  intro t ht
  have h1:=h.mem_iff.1 ((mem_addM hnd).1 ht)
  rcases aput_mem h1 with q | q
  ·injection q with q1 q2; rw [q1]; exact hx
  ·exact List.mem_map_of_mem (f:=Prod.fst) q
 have hns:s.node ∉ walkF g:=by
  intro hw
  obtain ⟨t,ht,he,_,hpar⟩:=hW.mem hw
  have h1:=alook_of_mem (okM_perm h (addM_ok g)).nd (h.mem_iff.1 ((mem_addM hnd).1 ht))
  rw [he,alook_aput,if_pos rfl] at h1
  injection h1 with h1
  rw [← h1] at hpar
  rcases hpar with q | q
  ·exact absurd (show binI0=rootI from q) (by decide)
  ·obtain ⟨t',ht',he',_⟩:=hW.mem q
   have:=hk t' ht'
   rw [he'] at this
   exact (T.no _ this).2 rfl
 refine ⟨hns,fun y hy=>?_⟩
 obtain ⟨t,ht,he,_,hpar⟩:=hW.mem hy
 cases q:fndT g y with
 | none =>
  exfalso
  unfold fndT at q
  rw [List.findIdx?_eq_none_iff] at q
  have:=q t ht
  simp [he] at this
 | some p =>
  refine ⟨p,rfl,?_⟩
  have h1:=look_fnd hnd q
  have h2:=alook_of_mem (addM_ok g).nd ((mem_addM hnd).1 ht)
  rw [he,h1] at h2
  injection h2 with h2
  rw [h2]
  intro e
  rcases hpar with q2 | q2
  ·rw [e] at q2; exact (T.no _ hx).1 q2
  ·rw [e] at q2; exact hns q2
theorem app_len (l:List TN) (es:List Edit):(appF l es).length≤l.length+es.length:=by
 have h1:=addM_len l
 have h2:=runM_len es (addM l)
 have h3:=(ssort_perm cmpN' ((runM (addM l) es).map Prod.snd)).length_eq
 rw [List.length_map] at h3
 show (ssort cmpN' _).length≤_
 omega
theorem spt_parts {l:List TN} (h:sptT l=true):l.length≤40∧(∀ t∈l,OkQ t.pl)∧chkT l=true:=by
 unfold sptT at h
 simp only [Bool.and_eq_true,decide_eq_true_eq,List.all_eq_true] at h
 refine ⟨h.1,fun t ht=>?_,h.2.2⟩
 obtain ⟨i,hi,e⟩:=List.mem_iff_getElem.1 ht
 have h1:=h.2.1 i (List.mem_range.2 hi)
 rw [nth_eq hi,e] at h1
 unfold spB at h1
 simp only [Bool.and_eq_true,decide_eq_true_eq] at h1
 have h2:=h1.2.1
 unfold fitsR at h2
 simp only [Bool.and_eq_true,decide_eq_true_eq] at h2
 exact ⟨by rw [← h1.1.2.1]; omega,by rw [← h1.1.2.2]; omega⟩
def eD (s:TN) (p:Id):Edit:=⟨idA 1,1,0,[],2,s.node,p,s.pl.neg,s.pl.num,s.pl.den,⟨#[]⟩,⟨#[]⟩,⟨⟨#[]⟩,0⟩,⟨#[]⟩⟩
theorem app_pl (P:Nv.Rt→Prop) {l:List TN} {es:List Edit} (h1:∀ t∈l,P t.pl) (h2:∀ e∈es,P (plc e)):∀ t∈appF l es,P t.pl:=by
 have key:∀ (es:List Edit) (m:Spots),(∀ p∈m,P p.2.pl)→(∀ e∈es,P (plc e))→∀ p∈runM m es,P p.2.pl:=by
  intro es
  induction es with
  | nil=>intro m hm _; exact hm
  | cons e es ih =>
   intro m hm he
   refine ih _ (fun p hp=>?_) fun e' h'=>he e' (List.mem_cons_of_mem _ h')
   have hpe:=he e (List.mem_cons_self ..)
   unfold stepM at hp
   split at hp
   ·split at hp
    ·rcases aput_mem hp with q | q
     ·rw [q]; exact hpe
     ·exact hm p q
    ·exact hm p hp
   ·split at hp
    ·split at hp
     ·split at hp
      ·rcases aput_mem hp with q | q
       ·rw [q]; exact hpe
       ·exact hm p q
      ·exact hm p hp
     ·exact hm p hp
    ·exact hm p hp
 have hadd:∀ (l:List TN) (m:Spots),(∀ p∈m,P p.2.pl)→(∀ t∈l,P t.pl)→∀ p∈l.foldl (fun m t=>aput m t.node t) m,P p.2.pl:=by
  intro l
  induction l with
  | nil=>intro m hm _; exact hm
  | cons t l ih =>
   intro m hm hl
   refine ih _ (fun p hp=>?_) fun t' h'=>hl t' (List.mem_cons_of_mem _ h')
   rcases aput_mem hp with q | q
   ·rw [q]; exact hl t (List.mem_cons_self ..)
   ·exact hm p q
 intro t ht
 unfold appF at ht
 rw [(ssort_perm cmpN' _).mem_iff] at ht
 obtain ⟨p,hp,rfl⟩:=List.mem_map.1 ht
 exact key es (addM l) (hadd l [] (fun p hp=>nomatch hp) h1) h2 p hp
theorem walk_len (l:List TN):(walkF l).length≤l.length:=by
 have hW:=walk_ok l
 have:=nodup_len (A:=l.map TN.node) hW.nodup fun y hy=>by
  obtain ⟨t,ht,he,_⟩:=hW.mem hy
  rw [← he]; exact List.mem_map_of_mem ht
 rwa [List.length_map] at this
def tC (s:TN):List C:=[.d (.v (.string s.node.a)),.d (.v (.int .i64 s.node.n)),.d (.v (.string s.par.a)),.d (.v (.int .i64 s.par.n)),.d (.v (.bool s.pl.neg)),.d (.v (.string s.pl.num)),.d (.v (.string s.pl.den)),.d (.v (.string s.kind))]
def eC (s:TN) (p:Id):List C:=[.d (.v (.string ⟨#[97]⟩)),.d (.v (.int .i64 1)),.d (.v (.int .i64 1)),.d (.v (.int .i64 0)),.d (.v (.slice none 0 0)),.d (.v (.int .i64 2)),.d (.v (.string s.node.a)),.d (.v (.int .i64 s.node.n)),.d (.v (.string p.a)),.d (.v (.int .i64 p.n)),.d (.v (.bool s.pl.neg)),.d (.v (.string s.pl.num)),.d (.v (.string s.pl.den)),.d (.v (.string ⟨#[]⟩)),.d (.v (.string ⟨#[]⟩)),.d (.v (.string ⟨#[]⟩)),.d (.v (.int .i64 0)),.d (.v (.string ⟨#[]⟩))]
theorem k2007 (l:List TN) (a:Nat) (ha:a<256) (hL:l.length<1152921504606846976) (hN:∀ t∈l,OkN t):ACalls Tryz.prog (GM 0) 7 [.c (.d (.sl (l.map TN.row))),.c (.d (.v (.int .u8 a)))] [] fun t H=>t = .bool true∧H=[]:=by
 have s1:x2021.sc=true:=rfl
 have s2:x2010.sc=true:=rfl
 have s3:x2011.sc=false:=rfl
 have s4:x2013.sc=true:=rfl
 have s5:x2020.sc=true:=rfl
 have s6:x2026.sc=true:=rfl
 have s7:x2015.sc=false:=rfl
 have s8:x2014.sc=true:=rfl
 have g1:=xg2021 l hL hN
 have g2:=xg2010
 have g0:=xg2026
 have i1:∀ n,(idA n).row=[.v (.string ⟨#[97]⟩),.v (.int .i64 n)]:=fun _=>rfl
 refine acallsX (X:=[(21,x2021),(10,x2010),(11,x2011),(13,x2013),(20,x2020),(26,x2026),(15,x2015),(14,x2014)]) ⟨kx2021.gm,kx2010,kx2011,kx2013.gm,kx2020.gm,kx2026.gm,kx2015.gm,kx2014.gm,trivial⟩ tab hmix Tryz.func7 c2007 (by rfl) fun hw=>?_
 by_cases c1:12<l.length
 ·have c1i:(12:Int)<(l.length:Int):=by omega
  simp (implicitDefEqProofs:=false) (disch:=omega) [gz,ir2007,b2007,b2007_0,b2007_1,c1,c1i,s2,g2,wrap64]
  exact fin_nil ⟨rfl,rfl⟩
 have c1i:¬ (12:Int)<(l.length:Int):=by omega
 by_cases c2:l.length=0
 ·have c2l:l=[]:=List.eq_nil_of_length_eq_zero c2
  simp (implicitDefEqProofs:=false) (disch:=omega) [gz,ir2007,b2007,b2007_0,b2007_1,c1,c1i,c2,c2l,s2,g2,wrap64]
  exact fin_nil ⟨rfl,rfl⟩
 have c2i:¬ (l.length:Int)=0:=by omega
 have c2l:¬ l=[]:=fun q=>c2 (by rw [q]; rfl)
 cases hf:sptT l
 ·rw [hf] at g1
  simp (implicitDefEqProofs:=false) (disch:=omega) [gz,ir2007,b2007,b2007_0,b2007_1,c1,c1i,c2,c2i,c2l,s1,g1,s2,g2,wrap64]
  exact fin_nil ⟨rfl,rfl⟩
 rw [hf] at g1
 obtain ⟨_,hq,hc⟩:=spt_parts hf
 obtain ⟨k,hk⟩:∃ k,k=a % l.length:=⟨_,rfl⟩
 have hkl:k<l.length:=by rw [hk]; exact Nat.mod_lt a (by omega)
 have hki:Int.tmod (a:Int) (l.length:Int)=(k:Int):=by rw [hk]; rfl
 obtain ⟨s,hs⟩:∃ s,nth l k=s:=⟨_,rfl⟩
 have hsm:s∈l:=by rw [← hs]; exact nth_mem hkl
 have hpb:cellsEq [.s,.i .i64] [.d (.v (.string s.par.a)),.d (.v (.int .i64 s.par.n))] [.d (.v (.string ⟨#[45]⟩)),.d (.v (.int .i64 0))]=some (decide (s.par=binI0)):=cells_id s.par binI0
 by_cases c3:s.par=binI0
 ·rw [decide_eq_true c3] at hpb
  simp (implicitDefEqProofs:=false) (disch:=omega) [gz,ir2007,b2007,b2007_0,b2007_1,b2007_2,b2007_3,c1,c1i,c2,c2i,c2l,s1,g1,s2,g2,hki,hkl,nth_map,hs,trw,hpb,wrap64,fillC,splice]
  repeat' (with_reducible apply And.intro)
  all_goals first | omega | kernel_rfl | exact fun _ _=>rfl | skip
  exact fin_junk (A:=[]) hw rfl trivial ⟨rfl,rfl⟩
 rw [decide_eq_false c3] at hpb
 have hnd:=less_nodup (chk_less hc)
 have T:=chk_tree hc
 have hlk:alook (addM l) s.node=some s:=alook_of_mem (addM_ok l).nd ((mem_addM hnd).1 hsm)
 obtain ⟨w1,w2⟩:=gone_walk (e1:=eD s binI0) T hlk rfl rfl rfl rfl
 have hbk:=back_same (e1:=eD s binI0) (e2:=eD s s.par) hc hlk c3 rfl rfl rfl rfl rfl rfl rfl rfl
 have hgl:=app_len l [eD s binI0]
 have hgq:=app_pl OkQ (es:=[eD s binI0]) hq fun e he=>by rw [List.mem_singleton.1 he]; exact hq s hsm
 have g3:=xg2011 l [eD s binI0] (by omega) (by simp)
 have hlw:=walk_len (appF l [eD s binI0])
 simp only [List.length_cons,List.length_nil] at hgl
 have g4:=xg2015 (appF l [eD s binI0]) hgq (by omega)
 have g5:=fun x:Id=>xg2020 (appF l [eD s binI0]) x (by omega)
 have g6:=xg2011 (appF l [eD s binI0]) [eD s s.par] (by omega) (by simp)
 rw [hbk] at g6
 obtain ⟨g,hg⟩:∃ g,g=appF l [eD s binI0]:=⟨_,rfl⟩
 rw [← hg] at w1 w2 hgl g3 g4 g5 g6 hlw
 obtain ⟨w,hw0⟩:∃ w,w=walkF g:=⟨_,rfl⟩
 rw [← hw0] at w1 w2 g4 hlw
 have g7:x2013.g [.c (.sl (l.map TN.row)),.c (.sl (l.map TN.row))]=some (True,.bool true):=(xg2013 l l (by omega)).trans (by unfold samT; simp)
 have g8:=xg2015 l hq (by omega)
 have hlv:=walk_len l
 obtain ⟨v,hv0⟩:∃ v,v=walkF l:=⟨_,rfl⟩
 rw [← hv0] at g8 hlv
 have g9:x2014.g [.c (.sl (v.map Id.row)),.c (.sl (v.map Id.row))]=some (True,.bool true):=(xg2014 v v (by omega)).trans (by unfold samI; simp)
 have er:∀ p,(eD s p).row=[.v (.string ⟨#[97]⟩),.v (.int .i64 1),.v (.int .i64 1),.v (.int .i64 0),.sl [],.v (.int .i64 2),.v (.string s.node.a),.v (.int .i64 s.node.n),.v (.string p.a),.v (.int .i64 p.n),.v (.bool s.pl.neg),.v (.string s.pl.num),.v (.string s.pl.den),.v (.string ⟨#[]⟩),.v (.string ⟨#[]⟩),.v (.string ⟨#[]⟩),.v (.int .i64 0),.v (.string ⟨#[]⟩)]:=fun _=>rfl
 simp only [List.map_cons,List.map_nil,er] at g3 g6
 rw [show binI0.a=⟨#[45]⟩ from rfl,show binI0.n=0 from rfl] at g3
 simp (implicitDefEqProofs:=false) (disch:=omega) [gz,ir2007,b2007,b2007_0,b2007_1,b2007_2,b2007_3,b2007_4,b2007_5,b2007_6,b2007_7,c1,c1i,c2,c2i,c2l,s1,g1,hki,hkl,nth_map,hs,trw,hpb,s6,g0,i1,s3,g3,s7,g4,wrap64,fillC,splice,toPVs,toPV,toDs,toD,frzVs,osVs]
 repeat' (with_reducible apply And.intro)
 all_goals first | omega | kernel_rfl | exact fun _ _=>rfl | skip
 refine loopE (fun k st=>∃ i,i≤w.length∧k=w.length-i ∧
   st=⟨ofL [(0,.v (.c (.d (.sl (l.map TN.row))))),(5,.v (.c (.ptr 0 0))),(6,.v (.c (.ptr 1 0))),(7,.v (.c (.d (.sl (g.map TN.row))))),(8,.v (.c (.d (.sl (w.map Id.row))))),(53,.int .i64 w.length),(54,.int .i64 i)],[.cells (tC s),.cells (eC s binI0)]⟩)
  (AtS [(0,.v (.c (.d (.sl (l.map TN.row))))),(5,.v (.c (.ptr 0 0))),(6,.v (.c (.ptr 1 0))),(7,.v (.c (.d (.sl (g.map TN.row)))))] [.cells (tC s),.cells (eC s binI0)]) ?_ ?_ ?_
 ·refine wk_nil [0,1] [0,5,6,7,8,53,54] rfl ⟨_,0,by omega,rfl,?_⟩
  simp [phiP,phi,O.ren,C.ren,tC,eC,binI0]
 ·rintro J M hJ hM k' st ⟨i,hi,rfl,rfl⟩
  by_cases hlt:i<w.length
  ·obtain ⟨y,hy⟩:∃ y,nth w i=y:=⟨_,rfl⟩
   have hym:y∈w:=by rw [← hy]; exact nth_mem hlt
   have hys:¬ y=s.node:=fun e=>w1 (e▸hym)
   obtain ⟨p,hp,hpp⟩:=w2 y hym
   obtain ⟨p1,p2⟩:=fnd_spec hp
   have g10:=g5 y
   have hat:atF g y=(p:Int):=by unfold atF; rw [hp]
   rw [hat,show y.row=[.v (.string y.a),.v (.int .i64 y.n)] from rfl] at g10
   obtain ⟨u,hu⟩:∃ u,nth g p=u:=⟨_,rfl⟩
   rw [hu] at hpp
   have b1:=cells_id y s.node
   rw [decide_eq_false hys] at b1
   have b2:=cells_id u.par s.node
   rw [decide_eq_false hpp] at b2
   have irw':∀ x:Id,x.row=[.v (.string x.a),.v (.int .i64 x.n)]:=fun _=>rfl
   have p0:¬ (p:Int)<0:=by omega
   simp (implicitDefEqProofs:=false) (disch:=omega) [gz,hlt,wrap64,nth_map,hy,irw',tC,eC,b1,s5,g10,p0,p1,hu,trw,b2,fillC,splice]
   repeat' (with_reducible apply And.intro)
   all_goals first | omega | kernel_rfl | exact fun _ _=>rfl | skip
   subst hJ
   refine wk_nil [0,1] [0,5,6,7,8,53,54] rfl ⟨w.length-(i+1),by omega,i+1,by omega,rfl,?_⟩
   simp [phiP,phi,O.ren,C.ren,tC,eC,binI0]
  ·have:i=w.length:=by omega
   subst this
   simp (implicitDefEqProofs:=false) (disch:=omega) [gz,hlt]
   subst hM
   exact at_mk (by simp) rfl
 ·rintro _ ⟨sl,rfl⟩
  simp (implicitDefEqProofs:=false) (disch:=omega) [gz,tC,eC,b2007_8,b2007_9,b2007_10,b2007_11,s3,g6,s4,g7,s7,g8,s8,g9,s2,g2,wrap64,fillC,splice,toPVs,toPV,toDs,toD,frzVs,osVs]
  repeat' (with_reducible apply And.intro)
  all_goals first | omega | kernel_rfl | exact fun _ _=>rfl | skip
  exact fin_junk (A:=[]) hw rfl trivial ⟨rfl,rfl⟩
end Go.Aw.Try
