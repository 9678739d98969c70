/- An abstract machine over the model, and contracts of functions of this program on it (part 6): words and lemmas for the proof in the last text. -/
import Derived.WalkKit
import Derived.ProofKit
import Derived.OpenShut
import Derived.JoinedCond
import Derived.Carry
import Derived.Test.YtbehhclclhfhkaaGreatDoorCards
import Derived.Test.YtbehhclclhfhkaaGreatDoorTie
import Derived.Deep.DeepHandedRow
import Derived.Shelf.Vars
import Derived.MakeChecks
import Derived.Test.YtbehhclclhfhkaaGreatDoorAE
set_option linter.unusedSimpArgs false
set_option linter.unusedVariables false
set_option linter.unusedSectionVars false
noncomputable section
open Go.Proofs.Tryz

namespace Go.Aw.Try
open Go Go.Proofs Go.Aw
set_option maxRecDepth 100000
set_option maxHeartbeats 4000000
abbrev Spots:=List (Id×TN)
def addM (l:List TN):Spots:=l.foldl (fun m t=>aput m t.node t) []
def parB (m:Spots) (e:Edit):Bool:=(alook m e.parent).isSome || decide (e.parent=rootI)
def stepM (m:Spots) (e:Edit):Spots :=
 if e.kind=1 then (if (alook m e.id).isNone && parB m e then aput m e.id ⟨e.id,e.parent,plc e,e.value⟩ else m)
 else if e.kind=2 then (match alook m e.node with
  | some s=>if (parB m e || decide (e.parent=binI0)) && !undF m e.parent e.node then aput m e.node ⟨s.node,e.parent,plc e,s.kind⟩ else m
  | none=>m)
 else m
def runM (m:Spots) (es:List Edit):Spots:=es.foldl stepM m
def appF (l:List TN) (es:List Edit):List TN:=ssort cmpN' ((runM (addM l) es).map Prod.snd)
structure OkM (m:Spots):Prop where
 key:∀ p∈m,p.2.node=p.1
 nd:(m.map Prod.fst).Nodup
theorem aput_keys {m:Spots} {x:Id} {t:TN}:(aput m x t).map Prod.fst=if x∈m.map Prod.fst then m.map Prod.fst else m.map Prod.fst ++ [x]:=by
 induction m with
 | nil=>simp [aput]
 | cons p m ih =>
  obtain ⟨k,v⟩:=p
  simp only [aput]
  by_cases h:k=x
  ·subst h; simp
  ·rw [if_neg h,List.map_cons,ih]
   have hx:¬ x=k:=fun q=>h q.symm
   simp only [List.map_cons,List.mem_cons,hx,false_or]
   split <;> simp
theorem aput_mem {m:Spots} {x:Id} {t:TN} {p:Id×TN} (h:p∈aput m x t):p=(x,t)∨p∈m:=by
 induction m with
 | nil=>simp [aput] at h; exact .inl h
 | cons q m ih =>
  obtain ⟨k,v⟩:=q
  simp only [aput] at h
  split at h
  ·rcases List.mem_cons.1 h with h | h
   ·exact .inl h
   ·exact .inr (List.mem_cons_of_mem _ h)
  ·rcases List.mem_cons.1 h with h | h
   ·exact .inr (h▸List.mem_cons_self ..)
   ·rcases ih h with h | h
    ·exact .inl h
    ·exact .inr (List.mem_cons_of_mem _ h)
theorem okM_put {m:Spots} (h:OkM m) {x:Id} {t:TN} (ht:t.node=x):OkM (aput m x t):=by
 refine ⟨fun p hp=>?_,?_⟩
 ·rcases aput_mem hp with rfl | hp
  ·exact ht
  ·exact h.key p hp
 ·rw [aput_keys]
  split
  ·exact h.nd
  ·rename_i q
   rw [List.nodup_append]
   exact ⟨h.nd,by simp,fun a ha b hb=>by simp at hb; subst hb; exact fun e=>q (e▸ha)⟩
theorem alook_pair {m:Spots} {x:Id} {t:TN} (h:alook m x=some t):(x,t)∈m:=by
 induction m with
 | nil=>cases h
 | cons p m ih =>
  obtain ⟨k,v⟩:=p
  simp only [alook] at h
  split at h
  ·rename_i q; subst q; injection h with h; subst h; exact List.mem_cons_self ..
  ·exact List.mem_cons_of_mem _ (ih h)
theorem addM_ok (l:List TN):OkM (addM l):=by
 unfold addM
 have:∀ (l:List TN) (m:Spots),OkM m→OkM (l.foldl (fun m t=>aput m t.node t) m):=by
  intro l
  induction l with
  | nil=>intro m h; exact h
  | cons t l ih=>intro m h; exact ih _ (okM_put h rfl)
 exact this l [] ⟨(fun p hp=>nomatch hp),List.nodup_nil⟩
theorem stepM_ok {m:Spots} (h:OkM m) (e:Edit):OkM (stepM m e):=by
 unfold stepM
 split
 ·split
  ·exact okM_put h rfl
  ·exact h
 ·split
  ·split
   ·rename_i s hs
    split
    ·exact okM_put h (h.key _ (alook_pair hs))
    ·exact h
   ·exact h
  ·exact h
theorem runM_ok {m:Spots} (h:OkM m):∀ es:List Edit,OkM (runM m es):=fun es=>by
 unfold runM
 induction es generalizing m with
 | nil=>exact h
 | cons e es ih=>exact ih (stepM_ok h e)
theorem aput_len (m:Spots) (x:Id) (t:TN):(aput m x t).length≤m.length+1:=by
 have:=congrArg List.length (aput_keys (m:=m) (x:=x) (t:=t))
 rw [List.length_map] at this
 rw [this]
 split <;> simp
theorem stepM_len (m:Spots) (e:Edit):(stepM m e).length≤m.length+1:=by
 unfold stepM
 repeat' split
 all_goals first | exact aput_len _ _ _ | omega
theorem runM_len (es:List Edit):∀ m:Spots,(runM m es).length≤m.length+es.length:=by
 unfold runM
 induction es with
 | nil=>intro m; exact Nat.le_refl _
 | cons e es ih =>
  intro m
  have h1:=ih (stepM m e)
  have h2:=stepM_len m e
  simp only [List.foldl_cons,List.length_cons]
  omega
theorem addM_len (l:List TN):(addM l).length≤l.length:=by
 unfold addM
 have:∀ (l:List TN) (m:Spots),(l.foldl (fun m t=>aput m t.node t) m).length≤m.length+l.length:=by
  intro l
  induction l with
  | nil=>intro m; exact Nat.le_refl _
  | cons t l ih =>
   intro m
   have h1:=ih (aput m t.node t)
   have h2:=aput_len m t.node t
   simp only [List.foldl_cons,List.length_cons]
   omega
 have:=this l []
 simpa using this
theorem erow_x (e:Edit):e.row=[.v (.string e.id.a),.v (.int .i64 e.id.n),.v (.int .i64 e.clock),.v (.int .i64 e.floor),.sl (e.deps.map Id.row),.v (.int .i64 e.kind),.v (.string e.node.a),.v (.int .i64 e.node.n),.v (.string e.parent.a),.v (.int .i64 e.parent.n),.v (.bool e.neg),.v (.string e.num),.v (.string e.den),.v (.string e.field),.v (.string e.value),.v (.string e.target.a),.v (.int .i64 e.target.n),.v (.string e.who)]:=rfl
theorem map_erase {α β:Type} (f:α→β):∀ (l:List α) (i:Nat),(l.map f).eraseIdx i=(l.eraseIdx i).map f
 | [],i=>by simp
 | x :: l,0=>rfl
 | x :: l,i+1=>by simp only [List.map_cons,List.eraseIdx_cons_succ,map_erase f l i]
theorem perm_erase {α:Type}:∀ {l:List α} {i:Nat} {x:α},l[i]? = some x→l.Perm (x :: l.eraseIdx i)
 | [],i,x,h=>by simp at h
 | y :: l,0,x,h=>by simp at h; subst h; exact List.Perm.refl _
 | y :: l,i+1,x,h=>by
  rw [List.getElem?_cons_succ] at h
  rw [List.eraseIdx_cons_succ]
  exact ((perm_erase h).cons y).trans (List.Perm.swap x y _)
theorem cells_id (x y:Id):cellsEq [.s,.i .i64] [.d (.v (.string x.a)),.d (.v (.int .i64 x.n))] [.d (.v (.string y.a)),.d (.v (.int .i64 y.n))]=some (decide (x=y)):=by
 simp only [cellsEq,skEq,if_true,Bool.and_true,and_self]
 congr 1
 rw [Bool.eq_iff_iff]
 simp [id_iff]
theorem k2011 (l:List TN) (es:List Edit) (hl:l.length<100000000000) (he:es.length<100000000000) (H:List O) :
    ACalls prog (GM 0) 11 [.c (.d (.sl (l.map TN.row))),.c (.d (.sl (es.map Edit.row)))] H fun t H'=>t = .v (.c (.d (.sl ((appF l es).map TN.row))))∧H'=H:=by
  refine acallsX (X:=[]) trivial tab hmix func11 c2011 (by rfl) fun hw=>?_
  simp -implicitDefEqProofs (disch:=omega) [gz,ir2011,b2011,b2011_0,b2011_1,b2011_2,wrap64,fillC,splice]
  refine loopE (fun k st=>∃ i,i≤l.length∧k=l.length-i ∧
      st=⟨ofL [(1,.v (.c (.d (.sl (es.map Edit.row))))),(5,.v (.c (.mp H.length))),(20,.v (.c (.d (.sl (l.map TN.row))))),(21,.int .i64 l.length),(22,.int .i64 i)],H ++ [.map KI (encIT (addM (l.take i)))]⟩)
    (fun st=>AtS [(1,.v (.c (.d (.sl (es.map Edit.row))))),(5,.v (.c (.mp H.length)))] (H ++ [.map KI (encIT (addM l))]) st) ?_ ?_ ?_
  · refine wk_pre [0] [1,5,20,21,22] hw rfl ⟨_,0,by omega,rfl,?_⟩
    simp [phiP,phi,O.ren,C.ren,addM,encM]
  · rintro J L hJ hL k st ⟨i,hi,rfl,rfl⟩
    by_cases hlt:i<l.length
    · obtain ⟨t,ht⟩:∃ t,nth l i=t:=⟨_,rfl⟩
      have hnext:addM (l.take (i+1))=aput (addM (l.take i)) t.node t:=by
        unfold addM
        rw [take_nth hlt,List.foldl_append,ht]; rfl
      obtain ⟨m,hm⟩:∃ m,m=addM (l.take i):=⟨_,rfl⟩
      rw [← hm] at hnext ⊢
      have mk:Value.agg [Value.string t.node.a,Value.int IntKind.i64 t.node.n].toArray=keyI t.node:=rfl
      have cf:=conf_I t.node
      have m3:=mp_IT m t.node t
      rw [trw] at m3
      simp -implicitDefEqProofs (disch:=omega) [gz,hlt,wrap64,nth_map,ht,trw,keyOf,mk,cf,m3,toPV,toDs,toD,fillC,splice,Nat.add_assoc]
      repeat' with_reducible apply And.intro
      all_goals first|omega|kernel_rfl|exact fun _ _=>rfl|skip
      subst hJ
      refine wk_pre [0] [1,5,20,21,22] hw rfl ⟨l.length-(i+1),by omega,i+1,by omega,rfl,?_⟩
      rw [hnext]
      simp [phiP,phi,O.ren,C.ren]
    · have:i=l.length:=by omega
      subst this
      rw [List.take_length]
      simp -implicitDefEqProofs (disch:=omega) [gz,hlt]
      subst hL
      exact at_mk (by simp) rfl
  · rintro _ ⟨sl,rfl⟩
    have hml:=addM_len l
    obtain ⟨m0,hm0⟩:∃ m0,m0=addM l:=⟨_,rfl⟩
    have hok0:OkM m0:=by rw [hm0]; exact addM_ok l
    have happ:appF l es=ssort cmpN' ((runM m0 es).map Prod.snd):=by rw [hm0]; rfl
    rw [happ]
    rw [← hm0] at hml ⊢
    simp -implicitDefEqProofs (disch:=omega) [gz,b2011_3,wrap64,fillC,splice]
    refine loopE (fun k st=>∃ i,i≤es.length∧k=es.length-i ∧
        st=⟨ofL [(5,.v (.c (.mp H.length))),(31,.v (.c (.d (.sl (es.map Edit.row))))),(32,.int .i64 es.length),(33,.int .i64 i)],H ++ [.map KI (encIT (runM m0 (es.take i)))]⟩)
      (fun st=>AtS [(5,.v (.c (.mp H.length)))] (H ++ [.map KI (encIT (runM m0 es))]) st) ?_ ?_ ?_
    · refine wk_pre [0] [5,31,32,33] hw rfl ⟨_,0,by omega,rfl,?_⟩
      simp [phiP,phi,O.ren,C.ren,runM]
    · rintro J L hJ hL k st ⟨i,hi,rfl,rfl⟩
      by_cases hlt:i<es.length
      · obtain ⟨e,het⟩:∃ e,nth es i=e:=⟨_,rfl⟩
        have hnx:runM m0 (es.take (i+1))=stepM (runM m0 (es.take i)) e:=by
          unfold runM
          rw [take_nth hlt,List.foldl_append,het]; rfl
        obtain ⟨m,hm⟩:∃ m,m=runM m0 (es.take i):=⟨_,rfl⟩
        rw [← hm] at hnx ⊢
        have mkP:Value.agg [Value.string e.parent.a,Value.int IntKind.i64 e.parent.n].toArray=keyI e.parent:=rfl
        have cfP:=conf_I e.parent
        have mP:=mf_IT m e.parent
        have mkI:Value.agg [Value.string e.id.a,Value.int IntKind.i64 e.id.n].toArray=keyI e.id:=rfl
        have cfI:=conf_I e.id
        have mI:=mf_IT m e.id
        have mkN:Value.agg [Value.string e.node.a,Value.int IntKind.i64 e.node.n].toArray=keyI e.node:=rfl
        have cfN:=conf_I e.node
        have mN:=mf_IT m e.node
        have hroot:cellsEq [.s,.i .i64] [.d (.v (.string e.parent.a)),.d (.v (.int .i64 e.parent.n))] [.d (.v (.string ⟨#[]⟩)),.d (.v (.int .i64 0))]=some (decide (e.parent=rootI)):=cells_id e.parent rootI
        have hbin:cellsEq [.s,.i .i64] [.d (.v (.string e.parent.a)),.d (.v (.int .i64 e.parent.n))] [.d (.v (.string ⟨#[45]⟩)),.d (.v (.int .i64 0))]=some (decide (e.parent=binI0)):=cells_id e.parent binI0
        have m3:mput (encIT m) (keyI e.id) (.agg [.v (.string e.id.a),.v (.int .i64 e.id.n),.v (.string e.parent.a),.v (.int .i64 e.parent.n),.v (.bool e.neg),.v (.string e.num),.v (.string e.den),.v (.string e.value)])=encIT (aput m e.id ⟨e.id,e.parent,plc e,e.value⟩):=mp_IT m e.id ⟨e.id,e.parent,plc e,e.value⟩
        cases hP:alook m e.parent with
        | some s1 =>
          rw [hP] at mP
          have hPs:True:=trivial
          have hp:parB m e=true:=by unfold parB; rw [hP]; rfl
          by_cases k1:e.kind=1
          · cases hI:alook m e.id with
            | some s0 =>
              have hs:stepM m e=m:=by unfold stepM; rw [if_pos k1,hI]; simp
              rw [hI] at mI
              simp -implicitDefEqProofs (disch:=omega) [gz,hlt,wrap64,nth_map,het,erow_x,GM,trw,keyOf,mkP,cfP,mP,mkI,cfI,mkN,cfN,PV.toV,toPV,toDs,toD,fillC,splice,Nat.add_assoc,hPs,k1,mI]
              repeat' with_reducible apply And.intro
              all_goals first|omega|kernel_rfl|exact fun _ _=>rfl|skip
              subst hJ
              refine wk_pre [0] [5,31,32,33] hw rfl ⟨es.length-(i+1),by omega,i+1,by omega,rfl,?_⟩
              rw [hnx,hs]
              simp [phiP,phi,O.ren,C.ren]
            | none =>
              rw [hI] at mI
              have hs:stepM m e=aput m e.id ⟨e.id,e.parent,plc e,e.value⟩:=by unfold stepM; rw [if_pos k1,hI,hp]; simp
              simp -implicitDefEqProofs (disch:=omega) [gz,hlt,wrap64,nth_map,het,erow_x,GM,trw,keyOf,mkP,cfP,mP,mkI,cfI,mkN,cfN,PV.toV,toPV,toDs,toD,fillC,splice,Nat.add_assoc,hPs,k1,mI,m3]
              repeat' with_reducible apply And.intro
              all_goals first|omega|kernel_rfl|exact fun _ _=>rfl|skip
              subst hJ
              refine wk_pre [0] [5,31,32,33] hw rfl ⟨es.length-(i+1),by omega,i+1,by omega,rfl,?_⟩
              rw [hnx,hs]
              simp [phiP,phi,O.ren,C.ren]
          · by_cases k2:e.kind=2
            · cases hN:alook m e.node with
              | none =>
                have hs:stepM m e=m:=by unfold stepM; rw [if_neg k1,if_pos k2,hN]
                rw [hN] at mN
                simp -implicitDefEqProofs (disch:=omega) [gz,hlt,wrap64,nth_map,het,erow_x,GM,trw,keyOf,mkP,cfP,mP,mkI,cfI,mkN,cfN,PV.toV,toPV,toDs,toD,fillC,splice,Nat.add_assoc,hPs,k1,k2,mN]
                repeat' with_reducible apply And.intro
                all_goals first|omega|kernel_rfl|exact fun _ _=>rfl|skip
                subst hJ
                refine wk_pre [0] [5,31,32,33] hw rfl ⟨es.length-(i+1),by omega,i+1,by omega,rfl,?_⟩
                rw [hnx,hs]
                simp [phiP,phi,O.ren,C.ren]
              | some s =>
                rw [hN] at mN
                have m4:mput (encIT m) (keyI e.node) (.agg [.v (.string s.node.a),.v (.int .i64 s.node.n),.v (.string e.parent.a),.v (.int .i64 e.parent.n),.v (.bool e.neg),.v (.string e.num),.v (.string e.den),.v (.string s.kind)])=encIT (aput m e.node ⟨s.node,e.parent,plc e,s.kind⟩):=mp_IT m e.node ⟨s.node,e.parent,plc e,s.kind⟩
                simp -implicitDefEqProofs (disch:=omega) [gz,hlt,wrap64,nth_map,het,erow_x,GM,trw,keyOf,mkP,cfP,mP,mkI,cfI,mkN,cfN,PV.toV,toPV,toDs,toD,fillC,splice,Nat.add_assoc,hPs,k1,k2,mN]
                refine ((k2038 m e.parent e.node _ H.length (by rw [app_get0]; rfl)).gm).mono ?_
                rintro t H' ⟨rfl,rfl⟩
                cases hUv:undF m e.parent e.node
                · have hs:stepM m e=aput m e.node ⟨s.node,e.parent,plc e,s.kind⟩:=by unfold stepM; rw [if_neg k1,if_pos k2,hN]; simp [hp,hUv]
                  simp -implicitDefEqProofs (disch:=omega) [gz,callK,hlt,wrap64,nth_map,het,erow_x,GM,trw,keyOf,mkP,cfP,mP,mkI,cfI,mkN,cfN,PV.toV,toPV,toDs,toD,fillC,splice,Nat.add_assoc,hPs,k1,k2,mN,m4]
                  repeat' with_reducible apply And.intro
                  all_goals first|omega|kernel_rfl|exact fun _ _=>rfl|skip
                  subst hJ
                  refine wk_pre [0] [5,31,32,33] hw rfl ⟨es.length-(i+1),by omega,i+1,by omega,rfl,?_⟩
                  rw [hnx,hs]
                  simp [phiP,phi,O.ren,C.ren]
                · have hs:stepM m e=m:=by unfold stepM; rw [if_neg k1,if_pos k2,hN]; simp [hp,hUv]
                  simp -implicitDefEqProofs (disch:=omega) [gz,callK,hlt,wrap64,nth_map,het,erow_x,GM,trw,keyOf,mkP,cfP,mP,mkI,cfI,mkN,cfN,PV.toV,toPV,toDs,toD,fillC,splice,Nat.add_assoc,hPs,k1,k2,mN]
                  repeat' with_reducible apply And.intro
                  all_goals first|omega|kernel_rfl|exact fun _ _=>rfl|skip
                  subst hJ
                  refine wk_pre [0] [5,31,32,33] hw rfl ⟨es.length-(i+1),by omega,i+1,by omega,rfl,?_⟩
                  rw [hnx,hs]
                  simp [phiP,phi,O.ren,C.ren]
            · have hs:stepM m e=m:=by unfold stepM; rw [if_neg k1,if_neg k2]
              simp -implicitDefEqProofs (disch:=omega) [gz,hlt,wrap64,nth_map,het,erow_x,GM,trw,keyOf,mkP,cfP,mP,mkI,cfI,mkN,cfN,PV.toV,toPV,toDs,toD,fillC,splice,Nat.add_assoc,hPs,k1,k2]
              repeat' with_reducible apply And.intro
              all_goals first|omega|kernel_rfl|exact fun _ _=>rfl|skip
              subst hJ
              refine wk_pre [0] [5,31,32,33] hw rfl ⟨es.length-(i+1),by omega,i+1,by omega,rfl,?_⟩
              rw [hnx,hs]
              simp [phiP,phi,O.ren,C.ren]
        | none =>
          rw [hP] at mP
          cases hB1:decide (e.parent=rootI)
          · rw [hB1] at hroot
            have hp:parB m e=false:=by unfold parB; rw [hP,hB1]; rfl
            by_cases k1:e.kind=1
            · cases hI:alook m e.id with
              | some s0 =>
                have hs:stepM m e=m:=by unfold stepM; rw [if_pos k1,hI]; simp
                rw [hI] at mI
                simp -implicitDefEqProofs (disch:=omega) [gz,hlt,wrap64,nth_map,het,erow_x,GM,trw,keyOf,mkP,cfP,mP,mkI,cfI,mkN,cfN,PV.toV,toPV,toDs,toD,fillC,splice,Nat.add_assoc,hroot,k1,mI]
                repeat' with_reducible apply And.intro
                all_goals first|omega|kernel_rfl|exact fun _ _=>rfl|skip
                subst hJ
                refine wk_pre [0] [5,31,32,33] hw rfl ⟨es.length-(i+1),by omega,i+1,by omega,rfl,?_⟩
                rw [hnx,hs]
                simp [phiP,phi,O.ren,C.ren]
              | none =>
                rw [hI] at mI
                have hs:stepM m e=m:=by unfold stepM; rw [if_pos k1,hI,hp]; simp
                simp -implicitDefEqProofs (disch:=omega) [gz,hlt,wrap64,nth_map,het,erow_x,GM,trw,keyOf,mkP,cfP,mP,mkI,cfI,mkN,cfN,PV.toV,toPV,toDs,toD,fillC,splice,Nat.add_assoc,hroot,k1,mI]
                repeat' with_reducible apply And.intro
                all_goals first|omega|kernel_rfl|exact fun _ _=>rfl|skip
                subst hJ
                refine wk_pre [0] [5,31,32,33] hw rfl ⟨es.length-(i+1),by omega,i+1,by omega,rfl,?_⟩
                rw [hnx,hs]
                simp [phiP,phi,O.ren,C.ren]
            · by_cases k2:e.kind=2
              · cases hN:alook m e.node with
                | none =>
                  have hs:stepM m e=m:=by unfold stepM; rw [if_neg k1,if_pos k2,hN]
                  rw [hN] at mN
                  simp -implicitDefEqProofs (disch:=omega) [gz,hlt,wrap64,nth_map,het,erow_x,GM,trw,keyOf,mkP,cfP,mP,mkI,cfI,mkN,cfN,PV.toV,toPV,toDs,toD,fillC,splice,Nat.add_assoc,hroot,k1,k2,mN]
                  repeat' with_reducible apply And.intro
                  all_goals first|omega|kernel_rfl|exact fun _ _=>rfl|skip
                  subst hJ
                  refine wk_pre [0] [5,31,32,33] hw rfl ⟨es.length-(i+1),by omega,i+1,by omega,rfl,?_⟩
                  rw [hnx,hs]
                  simp [phiP,phi,O.ren,C.ren]
                | some s =>
                  rw [hN] at mN
                  have m4:mput (encIT m) (keyI e.node) (.agg [.v (.string s.node.a),.v (.int .i64 s.node.n),.v (.string e.parent.a),.v (.int .i64 e.parent.n),.v (.bool e.neg),.v (.string e.num),.v (.string e.den),.v (.string s.kind)])=encIT (aput m e.node ⟨s.node,e.parent,plc e,s.kind⟩):=mp_IT m e.node ⟨s.node,e.parent,plc e,s.kind⟩
                  cases hB2v:decide (e.parent=binI0)
                  · rw [hB2v] at hbin
                    have hs:stepM m e=m:=by unfold stepM; rw [if_neg k1,if_pos k2,hN]; simp [hp,hB2v]
                    simp -implicitDefEqProofs (disch:=omega) [gz,hlt,wrap64,nth_map,het,erow_x,GM,trw,keyOf,mkP,cfP,mP,mkI,cfI,mkN,cfN,PV.toV,toPV,toDs,toD,fillC,splice,Nat.add_assoc,hroot,hbin,k1,k2,mN]
                    repeat' with_reducible apply And.intro
                    all_goals first|omega|kernel_rfl|exact fun _ _=>rfl|skip
                    subst hJ
                    refine wk_pre [0] [5,31,32,33] hw rfl ⟨es.length-(i+1),by omega,i+1,by omega,rfl,?_⟩
                    rw [hnx,hs]
                    simp [phiP,phi,O.ren,C.ren]
                  · rw [hB2v] at hbin
                    simp -implicitDefEqProofs (disch:=omega) [gz,hlt,wrap64,nth_map,het,erow_x,GM,trw,keyOf,mkP,cfP,mP,mkI,cfI,mkN,cfN,PV.toV,toPV,toDs,toD,fillC,splice,Nat.add_assoc,hroot,hbin,k1,k2,mN]
                    refine ((k2038 m e.parent e.node _ H.length (by rw [app_get0]; rfl)).gm).mono ?_
                    rintro t H' ⟨rfl,rfl⟩
                    cases hUv:undF m e.parent e.node
                    · have hs:stepM m e=aput m e.node ⟨s.node,e.parent,plc e,s.kind⟩:=by unfold stepM; rw [if_neg k1,if_pos k2,hN]; simp [hp,hUv,hB2v]
                      simp -implicitDefEqProofs (disch:=omega) [gz,callK,hlt,wrap64,nth_map,het,erow_x,GM,trw,keyOf,mkP,cfP,mP,mkI,cfI,mkN,cfN,PV.toV,toPV,toDs,toD,fillC,splice,Nat.add_assoc,hroot,hbin,k1,k2,mN,m4]
                      repeat' with_reducible apply And.intro
                      all_goals first|omega|kernel_rfl|exact fun _ _=>rfl|skip
                      subst hJ
                      refine wk_pre [0] [5,31,32,33] hw rfl ⟨es.length-(i+1),by omega,i+1,by omega,rfl,?_⟩
                      rw [hnx,hs]
                      simp [phiP,phi,O.ren,C.ren]
                    · have hs:stepM m e=m:=by unfold stepM; rw [if_neg k1,if_pos k2,hN]; simp [hp,hUv,hB2v]
                      simp -implicitDefEqProofs (disch:=omega) [gz,callK,hlt,wrap64,nth_map,het,erow_x,GM,trw,keyOf,mkP,cfP,mP,mkI,cfI,mkN,cfN,PV.toV,toPV,toDs,toD,fillC,splice,Nat.add_assoc,hroot,hbin,k1,k2,mN]
                      repeat' with_reducible apply And.intro
                      all_goals first|omega|kernel_rfl|exact fun _ _=>rfl|skip
                      subst hJ
                      refine wk_pre [0] [5,31,32,33] hw rfl ⟨es.length-(i+1),by omega,i+1,by omega,rfl,?_⟩
                      rw [hnx,hs]
                      simp [phiP,phi,O.ren,C.ren]
              · have hs:stepM m e=m:=by unfold stepM; rw [if_neg k1,if_neg k2]
                simp -implicitDefEqProofs (disch:=omega) [gz,hlt,wrap64,nth_map,het,erow_x,GM,trw,keyOf,mkP,cfP,mP,mkI,cfI,mkN,cfN,PV.toV,toPV,toDs,toD,fillC,splice,Nat.add_assoc,hroot,k1,k2]
                repeat' with_reducible apply And.intro
                all_goals first|omega|kernel_rfl|exact fun _ _=>rfl|skip
                subst hJ
                refine wk_pre [0] [5,31,32,33] hw rfl ⟨es.length-(i+1),by omega,i+1,by omega,rfl,?_⟩
                rw [hnx,hs]
                simp [phiP,phi,O.ren,C.ren]
          · rw [hB1] at hroot
            have hp:parB m e=true:=by unfold parB; rw [hP,hB1]; rfl
            by_cases k1:e.kind=1
            · cases hI:alook m e.id with
              | some s0 =>
                have hs:stepM m e=m:=by unfold stepM; rw [if_pos k1,hI]; simp
                rw [hI] at mI
                simp -implicitDefEqProofs (disch:=omega) [gz,hlt,wrap64,nth_map,het,erow_x,GM,trw,keyOf,mkP,cfP,mP,mkI,cfI,mkN,cfN,PV.toV,toPV,toDs,toD,fillC,splice,Nat.add_assoc,hroot,k1,mI]
                repeat' with_reducible apply And.intro
                all_goals first|omega|kernel_rfl|exact fun _ _=>rfl|skip
                subst hJ
                refine wk_pre [0] [5,31,32,33] hw rfl ⟨es.length-(i+1),by omega,i+1,by omega,rfl,?_⟩
                rw [hnx,hs]
                simp [phiP,phi,O.ren,C.ren]
              | none =>
                rw [hI] at mI
                have hs:stepM m e=aput m e.id ⟨e.id,e.parent,plc e,e.value⟩:=by unfold stepM; rw [if_pos k1,hI,hp]; simp
                simp -implicitDefEqProofs (disch:=omega) [gz,hlt,wrap64,nth_map,het,erow_x,GM,trw,keyOf,mkP,cfP,mP,mkI,cfI,mkN,cfN,PV.toV,toPV,toDs,toD,fillC,splice,Nat.add_assoc,hroot,k1,mI,m3]
                repeat' with_reducible apply And.intro
                all_goals first|omega|kernel_rfl|exact fun _ _=>rfl|skip
                subst hJ
                refine wk_pre [0] [5,31,32,33] hw rfl ⟨es.length-(i+1),by omega,i+1,by omega,rfl,?_⟩
                rw [hnx,hs]
                simp [phiP,phi,O.ren,C.ren]
            · by_cases k2:e.kind=2
              · cases hN:alook m e.node with
                | none =>
                  have hs:stepM m e=m:=by unfold stepM; rw [if_neg k1,if_pos k2,hN]
                  rw [hN] at mN
                  simp -implicitDefEqProofs (disch:=omega) [gz,hlt,wrap64,nth_map,het,erow_x,GM,trw,keyOf,mkP,cfP,mP,mkI,cfI,mkN,cfN,PV.toV,toPV,toDs,toD,fillC,splice,Nat.add_assoc,hroot,k1,k2,mN]
                  repeat' with_reducible apply And.intro
                  all_goals first|omega|kernel_rfl|exact fun _ _=>rfl|skip
                  subst hJ
                  refine wk_pre [0] [5,31,32,33] hw rfl ⟨es.length-(i+1),by omega,i+1,by omega,rfl,?_⟩
                  rw [hnx,hs]
                  simp [phiP,phi,O.ren,C.ren]
                | some s =>
                  rw [hN] at mN
                  have m4:mput (encIT m) (keyI e.node) (.agg [.v (.string s.node.a),.v (.int .i64 s.node.n),.v (.string e.parent.a),.v (.int .i64 e.parent.n),.v (.bool e.neg),.v (.string e.num),.v (.string e.den),.v (.string s.kind)])=encIT (aput m e.node ⟨s.node,e.parent,plc e,s.kind⟩):=mp_IT m e.node ⟨s.node,e.parent,plc e,s.kind⟩
                  simp -implicitDefEqProofs (disch:=omega) [gz,hlt,wrap64,nth_map,het,erow_x,GM,trw,keyOf,mkP,cfP,mP,mkI,cfI,mkN,cfN,PV.toV,toPV,toDs,toD,fillC,splice,Nat.add_assoc,hroot,k1,k2,mN]
                  refine ((k2038 m e.parent e.node _ H.length (by rw [app_get0]; rfl)).gm).mono ?_
                  rintro t H' ⟨rfl,rfl⟩
                  cases hUv:undF m e.parent e.node
                  · have hs:stepM m e=aput m e.node ⟨s.node,e.parent,plc e,s.kind⟩:=by unfold stepM; rw [if_neg k1,if_pos k2,hN]; simp [hp,hUv]
                    simp -implicitDefEqProofs (disch:=omega) [gz,callK,hlt,wrap64,nth_map,het,erow_x,GM,trw,keyOf,mkP,cfP,mP,mkI,cfI,mkN,cfN,PV.toV,toPV,toDs,toD,fillC,splice,Nat.add_assoc,hroot,k1,k2,mN,m4]
                    repeat' with_reducible apply And.intro
                    all_goals first|omega|kernel_rfl|exact fun _ _=>rfl|skip
                    subst hJ
                    refine wk_pre [0] [5,31,32,33] hw rfl ⟨es.length-(i+1),by omega,i+1,by omega,rfl,?_⟩
                    rw [hnx,hs]
                    simp [phiP,phi,O.ren,C.ren]
                  · have hs:stepM m e=m:=by unfold stepM; rw [if_neg k1,if_pos k2,hN]; simp [hp,hUv]
                    simp -implicitDefEqProofs (disch:=omega) [gz,callK,hlt,wrap64,nth_map,het,erow_x,GM,trw,keyOf,mkP,cfP,mP,mkI,cfI,mkN,cfN,PV.toV,toPV,toDs,toD,fillC,splice,Nat.add_assoc,hroot,k1,k2,mN]
                    repeat' with_reducible apply And.intro
                    all_goals first|omega|kernel_rfl|exact fun _ _=>rfl|skip
                    subst hJ
                    refine wk_pre [0] [5,31,32,33] hw rfl ⟨es.length-(i+1),by omega,i+1,by omega,rfl,?_⟩
                    rw [hnx,hs]
                    simp [phiP,phi,O.ren,C.ren]
              · have hs:stepM m e=m:=by unfold stepM; rw [if_neg k1,if_neg k2]
                simp -implicitDefEqProofs (disch:=omega) [gz,hlt,wrap64,nth_map,het,erow_x,GM,trw,keyOf,mkP,cfP,mP,mkI,cfI,mkN,cfN,PV.toV,toPV,toDs,toD,fillC,splice,Nat.add_assoc,hroot,k1,k2]
                repeat' with_reducible apply And.intro
                all_goals first|omega|kernel_rfl|exact fun _ _=>rfl|skip
                subst hJ
                refine wk_pre [0] [5,31,32,33] hw rfl ⟨es.length-(i+1),by omega,i+1,by omega,rfl,?_⟩
                rw [hnx,hs]
                simp [phiP,phi,O.ren,C.ren]
      · have:i=es.length:=by omega
        subst this
        rw [List.take_length]
        simp -implicitDefEqProofs (disch:=omega) [gz,hlt]
        subst hL
        exact at_mk (by simp) rfl
    · rintro _ ⟨sl,rfl⟩
      have hrl:=runM_len es m0
      have hokm:=runM_ok hok0 es
      obtain ⟨m,hm⟩:∃ m,m=runM m0 es:=⟨_,rfl⟩
      rw [← hm] at hrl hokm ⊢
      have hel:(encIT m).length=m.length:=by simp [encM]
      have hnd:((m.map Prod.snd).map TN.node).Nodup:=by
        have:(m.map Prod.snd).map TN.node=m.map Prod.fst:=by
          rw [List.map_map]
          exact List.map_congr_left fun p hp=>hokm.key p hp
        rw [this]; exact hokm.nd
      simp -implicitDefEqProofs (disch:=omega) [gz,b2011_4,b2011_5,wrap64,hel,rngW,fillC,splice,Nat.add_assoc]
      repeat' with_reducible apply And.intro
      all_goals first|omega|kernel_rfl|exact fun _ _=>rfl|skip
      refine loopE (fun k st=>∃ (acc:List TN) (cur:Option (Value×PV)) (left:Spots),k=left.length∧(acc ++ left.map Prod.snd).Perm (m.map Prod.snd) ∧
          st=⟨ofL [(16,.v (.c (.os H.length 8 0 acc.length))),(122,.v (.c (.ptr (H.length+1) 0)))],H ++ [.row 8 (acc.map TN.row),.iter KI cur (encIT left)]⟩)
        (fun st=>∃ (acc:List TN) (cur:Option (Value×PV)),acc.Perm (m.map Prod.snd)∧AtS [(16,.v (.c (.os H.length 8 0 acc.length)))] (H ++ [.row 8 (acc.map TN.row),.iter KI cur []]) st) ?_ ?_ ?_
      · refine wk_pre [1,2] [16,122] hw rfl ⟨_,[],none,m,rfl,by simp,?_⟩
        have n1:¬ H.length+1<H.length:=by omega
        have n2:¬ H.length+2<H.length:=by omega
        simp [phiP,phi,O.ren,C.ren,n1,n2]
      · rintro J L hJ hL k st ⟨acc,cur,left,rfl,hp,rfl⟩
        have hal:acc.length≤m.length:=by
          have:=hp.length_eq
          simp at this; omega
        simp -implicitDefEqProofs (disch:=omega) [gz,nxtW,entW]
        refine ⟨fun h0=>?_,fun i ky pv hi=>?_⟩
        · have h0':left=[]:=by
            first
              | exact h0
              | (cases left with
                 | nil=>rfl
                 | cons q l'=>simp [encM] at h0)
          subst h0'
          subst hL
          refine ⟨acc,cur,by simpa using hp,?_⟩
          exact at_mk (by simp) (by simp [encM])
        · obtain ⟨q,hq,hq2⟩:∃ q,left[i]? = some q∧(keyI q.1,PVo.agg q.2.row)=(ky,pv):=by
            rw [show encIT left=left.map fun p=>(keyI p.1,PVo.agg p.2.row) from rfl,List.getElem?_map] at hi
            cases hx:left[i]? with
            | none=>rw [hx] at hi; cases hi
            | some q=>rw [hx] at hi; simp at hi; exact ⟨q,rfl,by rw [← hi.1,← hi.2]⟩
          injection hq2 with e1 e2
          subst e1; subst e2
          obtain ⟨x,t⟩:=q
          have her:(encIT left).eraseIdx i=encIT (left.eraseIdx i):=map_erase _ _ _
          have hpe:=perm_erase hq
          have hlen:(left.eraseIdx i).length+1=left.length:=by
            have:=hpe.length_eq
            simp at this; omega
          have hp2:((acc ++ [t]) ++ (left.eraseIdx i).map Prod.snd).Perm (m.map Prod.snd):=by
            refine List.Perm.trans ?_ hp
            rw [List.append_assoc]
            exact List.Perm.append_left acc (hpe.map Prod.snd).symm
          have hal2:acc.length+1≤m.length:=by
            have:=hp2.length_eq
            simp at this; omega
          have hb:(acc.length+1)*104≤140737488355328:=by omega
          have tA:(acc.map TN.row).take acc.length=acc.map TN.row:=List.take_of_length_le (by simp)
          simp -implicitDefEqProofs (disch:=omega) [gz,her,trw,PV.toV,fillC,fillR,splice,hb,tA,Nat.add_assoc]
          repeat' with_reducible apply And.intro
          all_goals first|omega|kernel_rfl|exact fun _ _=>rfl|skip
          subst hJ
          have n1:¬ H.length+1<H.length:=by omega
          have n4:¬ H.length+4<H.length:=by omega
          refine wk_pre [4,1] [16,122] hw rfl ⟨_,by omega,acc ++ [t],some (keyI x,.agg t.row),left.eraseIdx i,rfl,hp2,?_⟩
          simp [phiP,phi,O.ren,C.ren,n1,n4,trw]
      · rintro _ ⟨acc,cur,hperm,sl,rfl⟩
        have hal:acc.length=m.length:=by
          have:=hperm.length_eq
          simpa using this
        have hnd2:(acc.map TN.node).Nodup:=(hperm.map TN.node).nodup_iff.2 hnd
        simp -implicitDefEqProofs (disch:=omega) [gz,b2011_6]
        refine ((kSortF acc (by omega) hnd2 _ H.length (by rw [app_get0]; rfl)).gm).mono ?_
        rintro t H' ⟨rfl,rfl⟩
        simp -implicitDefEqProofs (disch:=omega) [gz,callK,b2011_7,b2011_8,fillC,splice]
        refine fin_tell (r:=H.length) hw (Nat.le_refl _) (by rw [app_get0]; rfl) ?_ ⟨?_,rfl⟩
        · rw [List.length_map,(ssort_perm cmpN' acc).length_eq]
        · rw [sort_unique hperm hnd2]
def x2011:XE:=mkX false (fun (p:List TN×List Edit)=>[.c (.sl (p.1.map TN.row)),.c (.sl (p.2.map Edit.row))]) (fun p=>p.1.length<100000000000∧p.2.length<100000000000) (fun p=>.v (.c (.d (.sl ((appF p.1 p.2).map TN.row)))))
theorem kx2011:Contract prog (GM 0) 11 x2011:=mkX_data fun p h H=>k2011 p.1 p.2 h.1 h.2 H
theorem injTE (a b:List TN×List Edit) (h:[PVo.c (D.sl (a.1.map TN.row)),PVo.c (D.sl (a.2.map Edit.row))]=[PVo.c (D.sl (b.1.map TN.row)),PVo.c (D.sl (b.2.map Edit.row))]):a=b:=by
 simp only [List.cons.injEq,PVo.c.injEq,D.sl.injEq,and_true] at h
 exact Prod.ext (tn_inj h.1) (rows_inj h.2)
theorem xg2011 (l:List TN) (es:List Edit) (h1:l.length<100000000000) (h2:es.length<100000000000):x2011.g [.c (.sl (l.map TN.row)),.c (.sl (es.map Edit.row))]=some (True,.v (.c (.d (.sl ((appF l es).map TN.row))))):=mkX_g injTE (l,es) ⟨h1,h2⟩
theorem injTIN (a b:List TN×Id×Int) (h:[PVo.c (D.sl (a.1.map TN.row)),PVo.agg a.2.1.row,PVo.c (D.v (.int .i64 a.2.2))]=[PVo.c (D.sl (b.1.map TN.row)),PVo.agg b.2.1.row,PVo.c (D.v (.int .i64 b.2.2))]):a=b:=by
 simp only [List.cons.injEq,PVo.c.injEq,D.sl.injEq,PVo.agg.injEq,D.v.injEq,Value.int.injEq,true_and,and_true] at h
 exact Prod.ext (tn_inj h.1) (Prod.ext (Id.row_inj h.2.1) h.2.2)
def x2022 (n:Nat):XE:=mkX true (fun (p:List TN×Id×Int)=>[.c (.sl (p.1.map TN.row)),.agg p.2.1.row,.c (.v (.int .i64 p.2.2))]) (fun p=>okK n p.1 p.2.1 p.2.2∧(-9223372036854775808≤p.2.2∧p.2.2≤9223372036854775807)) (fun p=>.v (ratV (keyF n p.1 p.2.1 p.2.2)))
theorem kx2022 (n:Nat):Contract prog G0 22 (x2022 n):=mkX_scal (fun _=>rfl) fun p h=>k2022 n p.1 p.2.1 p.2.2 h.1 h.2
theorem xg2022 (n:Nat) (l:List TN) (b:Id) (at':Int) (h:okK n l b at') (hr:-9223372036854775808≤at'∧at'≤9223372036854775807):(x2022 n).g [.c (.sl (l.map TN.row)),.agg b.row,.c (.v (.int .i64 at'))]=some (True,.v (ratV (keyF n l b at'))):=mkX_g injTIN (l,b,at') ⟨h,hr⟩
def eA:List Edit:=[⟨⟨⟨#[97]⟩,1⟩,1,0,[],1,⟨⟨#[]⟩,0⟩,⟨⟨#[]⟩,0⟩,false,⟨#[]⟩,⟨#[]⟩,⟨#[]⟩,⟨#[103,114,111,117,112]⟩,⟨⟨#[]⟩,0⟩,⟨#[]⟩⟩,⟨⟨⟨#[97]⟩,2⟩,2,0,[⟨⟨#[97]⟩,1⟩],1,⟨⟨#[]⟩,0⟩,⟨⟨#[97]⟩,1⟩,false,⟨#[1]⟩,⟨#[]⟩,⟨#[]⟩,⟨#[112,97,114,97,109]⟩,⟨⟨#[]⟩,0⟩,⟨#[]⟩⟩,⟨⟨⟨#[97]⟩,3⟩,3,0,[⟨⟨#[97]⟩,2⟩],2,⟨⟨#[97]⟩,1⟩,⟨⟨#[97]⟩,2⟩,false,⟨#[]⟩,⟨#[]⟩,⟨#[]⟩,⟨#[]⟩,⟨⟨#[]⟩,0⟩,⟨#[]⟩⟩,⟨⟨⟨#[97]⟩,4⟩,4,0,[⟨⟨#[97]⟩,3⟩],1,⟨⟨#[]⟩,0⟩,⟨⟨#[97]⟩,1⟩,false,⟨#[]⟩,⟨#[]⟩,⟨#[]⟩,⟨#[112,97,114,97,109]⟩,⟨⟨#[]⟩,0⟩,⟨#[]⟩⟩]
def oA:Nv.Rt:=⟨false,⟨#[1]⟩,⟨#[]⟩⟩
def tA:Nv.Rt:=⟨false,⟨#[2]⟩,⟨#[]⟩⟩
def hA:Nv.Rt:=⟨false,⟨#[1]⟩,⟨#[2]⟩⟩
def gA:List TN:=[⟨⟨⟨#[97]⟩,1⟩,⟨⟨#[]⟩,0⟩,zR,⟨#[103,114,111,117,112]⟩⟩,⟨⟨⟨#[97]⟩,2⟩,⟨⟨#[97]⟩,1⟩,oA,⟨#[112,97,114,97,109]⟩⟩,⟨⟨⟨#[97]⟩,4⟩,⟨⟨#[97]⟩,1⟩,zR,⟨#[112,97,114,97,109]⟩⟩]
theorem gA_app:appF [] eA=gA:=by kernel_rfl
theorem gA_walk:walkF gA=[idA 1,idA 4,idA 2]:=by kernel_rfl
theorem gA_key:keyF 3 gA (idA 1) 1=hA:=by kernel_rfl
theorem oA_mk:Nv.mkI 1 1=oA:=by kernel_rfl
theorem tA_mk:Nv.mkI 2 1=tA:=by kernel_rfl
theorem hA_div:divQ oA tA=(hA,true):=by kernel_rfl
theorem okA {x:Nv.Rt} (h:(decide (x.num.size<100000000) && decide (x.den.size<100000000))=true):OkQ x:=by
 rw [Bool.and_eq_true,decide_eq_true_eq,decide_eq_true_eq] at h
 exact ⟨h.1,h.2⟩
def okQb (x:Nv.Rt):Bool:=decide (x.num.size<100000000) && decide (x.den.size<100000000)
def okSb:Nat→Nv.Rt→Nv.Rt→Bool→Bool
 | 0,_,_,_=>false
 | n+1,lo,hi,bd=>okQb lo && okQb hi && okQb (flR lo) && decide ((flR lo).den.size<90000000) && okQb (nxR lo) && (stopB lo hi bd ||
   (okQb (subR hi (flR lo)) && okQb (subR lo (flR lo)) && okSb n (divQ oneR (subR hi (flR lo))).1 (divQ oneR (subR lo (flR lo))).1 (divQ oneR (subR lo (flR lo))).2 &&
   okQb (simpF n (divQ oneR (subR hi (flR lo))).1 (divQ oneR (subR lo (flR lo))).1 (divQ oneR (subR lo (flR lo))).2) &&
   okQb (divQ oneR (simpF n (divQ oneR (subR hi (flR lo))).1 (divQ oneR (subR lo (flR lo))).1 (divQ oneR (subR lo (flR lo))).2)).1))
theorem okSb_ok:∀ (n:Nat) (lo hi:Nv.Rt) (bd:Bool),okSb n lo hi bd=true→okS n lo hi bd:=by
 intro n
 induction n with
 | zero=>intro lo hi bd h; simp [okSb] at h
 | succ n ih =>
  intro lo hi bd h
  simp only [okSb,Bool.and_eq_true,decide_eq_true_eq] at h
  obtain ⟨⟨⟨⟨⟨h1,h2⟩,h3⟩,h4⟩,h5⟩,h6⟩:=h
  refine ⟨okA h1,okA h2,okA h3,h4,okA h5,fun hs=>?_⟩
  rw [hs,Bool.false_or] at h6
  simp only [Bool.and_eq_true] at h6
  obtain ⟨⟨⟨⟨k1,k2⟩,k3⟩,k4⟩,k5⟩:=h6
  exact ⟨okA k1,okA k2,ih _ _ _ k3,okA k4,okA k5⟩
theorem okA_pl:∀ t∈gA,OkQ t.pl:=by
 intro t ht
 simp [gA] at ht
 rcases ht with rfl | rfl | rfl
 ·exact okA (by kernel_rfl)
 ·exact okA (by kernel_rfl)
 ·exact okA (by kernel_rfl)
theorem okA_key:okK 3 gA (idA 1) 1:=by
 refine ⟨okA_pl,by decide,fun _ _ _=>?_⟩
 have e1:(nth (sibF gA (idA 1)) ((1:Int).toNat-1)).pl=zR:=by kernel_rfl
 have e2:(nth (sibF gA (idA 1)) (1:Int).toNat).pl=oA:=by kernel_rfl
 rw [e1,e2]
 have q0:OkQ zR:=okA (by kernel_rfl)
 have q1:OkQ oA:=okA (by kernel_rfl)
 refine ⟨q0,q1,fun _=>⟨fun h=>absurd h (by decide +kernel),fun _=>?_⟩⟩
 exact okSb_ok _ _ _ _ (by kernel_rfl)
theorem k2010:ACalls prog (GM 0) 10 [] [] fun t H=>t = .bool true∧H=[]:=by
 have s1:x2026.sc=true:=rfl
 have s2:x2028.sc=true:=rfl
 have s3:x2027.sc=true:=rfl
 have s4:x2015.sc=false:=rfl
 have s5:x2014.sc=true:=rfl
 have s6:(x2022 3).sc=true:=rfl
 have s7:x2011.sc=false:=rfl
 have g1:=xg2026
 have i1:∀ n,(idA n).row=[.v (.string ⟨#[97]⟩),.v (.int .i64 n)]:=fun _=>rfl
 have g2a:x2028.g [.c (.v (.int .i64 1))]=some (True,.v (ratV oA)):=(xg2028 1 (by decide)).trans (by rw [show Nv.mkI ((1:Nat):Int) 1=oA from oA_mk])
 have g2b:x2028.g [.c (.v (.int .i64 2))]=some (True,.v (ratV tA)):=(xg2028 2 (by decide)).trans (by rw [show Nv.mkI ((2:Nat):Int) 1=tA from tA_mk])
 have g3:x2027.g [ratP oA,ratP tA]=some (True,.tup [ratV hA,.c (.d (.v (.bool true)))]):=(xgDiv oA tA (okA (by kernel_rfl)) (okA (by kernel_rfl))).trans (by rw [hA_div])
 have g4:=(xg2015 gA okA_pl (by decide)).trans (by rw [gA_walk])
 have g5:x2014.g [.c (.sl ([idA 1,idA 4,idA 2].map Id.row)),.c (.sl ([idA 1,idA 4,idA 2].map Id.row))]=some (True,.bool true):=(xg2014 [idA 1,idA 4,idA 2] [idA 1,idA 4,idA 2] (by decide)).trans (by unfold samI; simp)
 have g6:=(xg2022 3 gA (idA 1) 1 okA_key (by decide)).trans (by rw [gA_key])
 have g7:=(xg2011 [] eA (by decide) (by decide)).trans (by rw [gA_app])
 have hea:eA.map Edit.row=[[.v (.string ⟨#[97]⟩),.v (.int .i64 1),.v (.int .i64 1),.v (.int .i64 0),.sl [],.v (.int .i64 1),.v (.string ⟨#[]⟩),.v (.int .i64 0),.v (.string ⟨#[]⟩),.v (.int .i64 0),.v (.bool false),.v (.string ⟨#[]⟩),.v (.string ⟨#[]⟩),.v (.string ⟨#[]⟩),.v (.string ⟨#[103,114,111,117,112]⟩),.v (.string ⟨#[]⟩),.v (.int .i64 0),.v (.string ⟨#[]⟩)],[.v (.string ⟨#[97]⟩),.v (.int .i64 2),.v (.int .i64 2),.v (.int .i64 0),.sl [[.v (.string ⟨#[97]⟩),.v (.int .i64 1)]],.v (.int .i64 1),.v (.string ⟨#[]⟩),.v (.int .i64 0),.v (.string ⟨#[97]⟩),.v (.int .i64 1),.v (.bool false),.v (.string ⟨#[1]⟩),.v (.string ⟨#[]⟩),.v (.string ⟨#[]⟩),.v (.string ⟨#[112,97,114,97,109]⟩),.v (.string ⟨#[]⟩),.v (.int .i64 0),.v (.string ⟨#[]⟩)],[.v (.string ⟨#[97]⟩),.v (.int .i64 3),.v (.int .i64 3),.v (.int .i64 0),.sl [[.v (.string ⟨#[97]⟩),.v (.int .i64 2)]],.v (.int .i64 2),.v (.string ⟨#[97]⟩),.v (.int .i64 1),.v (.string ⟨#[97]⟩),.v (.int .i64 2),.v (.bool false),.v (.string ⟨#[]⟩),.v (.string ⟨#[]⟩),.v (.string ⟨#[]⟩),.v (.string ⟨#[]⟩),.v (.string ⟨#[]⟩),.v (.int .i64 0),.v (.string ⟨#[]⟩)],[.v (.string ⟨#[97]⟩),.v (.int .i64 4),.v (.int .i64 4),.v (.int .i64 0),.sl [[.v (.string ⟨#[97]⟩),.v (.int .i64 3)]],.v (.int .i64 1),.v (.string ⟨#[]⟩),.v (.int .i64 0),.v (.string ⟨#[97]⟩),.v (.int .i64 1),.v (.bool false),.v (.string ⟨#[]⟩),.v (.string ⟨#[]⟩),.v (.string ⟨#[]⟩),.v (.string ⟨#[112,97,114,97,109]⟩),.v (.string ⟨#[]⟩),.v (.int .i64 0),.v (.string ⟨#[]⟩)]]:=rfl
 rw [hea] at g7
 have hgl:gA.length=3:=rfl
 rw [i1] at g6
 simp only [List.map_cons,List.map_nil,i1] at g4 g5 g7
 simp only [ratP,ratV,oA,tA,hA] at g2a g2b g3 g6
 have ce:cellsEq [.b,.s,.s] [.d (.v (.bool false)),.d (.v (.string ⟨#[1]⟩)),.d (.v (.string ⟨#[2]⟩))] [.d (.v (.bool false)),.d (.v (.string ⟨#[1]⟩)),.d (.v (.string ⟨#[2]⟩))]=some true:=by kernel_rfl
 obtain ⟨G,hG⟩:∃ G,G=gA:=⟨_,rfl⟩
 rw [← hG] at g4 g6 g7 hgl
 clear hG hea
 refine acallsX (X:=[(26,x2026),(28,x2028),(27,x2027),(15,x2015),(14,x2014),(22,x2022 3),(11,x2011)]) ⟨kx2026.gm,kx2028.gm,kx2027.gm,kx2015.gm,kx2014.gm,(kx2022 3).gm,kx2011,trivial⟩ tab hmix func10 c2010 (by rfl) fun hw=>?_
 simp -implicitDefEqProofs (disch:=omega) [gz,ir2010,b2010,b2010_0,b2010_1,b2010_2,b2010_3,b2010_4,b2010_5,s1,s2,s3,s4,s5,s6,s7,g1,i1,g2a,g2b,g3,g4,g5,g6,g7,hgl,ce,ratV,ratP,oA,tA,hA,wrap64,fillC,fillR,splice,toPVs,toPV,toDs,toD,frzVs,osVs,Nat.add_assoc]
 repeat' with_reducible apply And.intro
 all_goals first|omega|kernel_rfl|exact fun _ _=>rfl|skip
 exact fin_junk (A:=[]) hw rfl trivial ⟨rfl,rfl⟩
def x2010:XE:=mkX true (fun (_:Unit)=>[]) (fun _=>True) (fun _=>.bool true)
theorem kx2010:Contract prog (GM 0) 10 x2010:=mkX_scal (fun _=>rfl) fun _ _=>k2010
theorem xg2010:x2010.g []=some (True,.bool true):=mkX_g (fun _ _ _=>rfl) () trivial
def fw1 (e:Edit):Bool:=!bigB e && decide (chkE e=0)
def fewT (l:List TN) (es:List Edit):Bool:=(decide (l.length≤12) && (decide (es.length≤20) && sptT l)) && (List.range es.length).all (fun i=>fw1 (nth es i))
structure OkT (l:List TN) (es:List Edit):Prop where
 ll:l.length<1152921504606846976
 n:∀ t∈l,OkN t
 el:es.length<1152921504606846976
 e:∀ e∈es,OkE e
 s:∀ e∈es,Siz e
theorem fewT_step {l:List TN} {es:List Edit} {i:Nat} (hi:i<es.length) (hc:fw1 (nth es i)=false):fewT l es=false:=by
 have:(List.range es.length).all (fun i=>fw1 (nth es i))=false:=by
  rw [List.all_eq_false]
  exact ⟨i,List.mem_range.2 hi,by simp [hc]⟩
 unfold fewT
 rw [this]; simp
theorem fewT_all {l:List TN} {es:List Edit} (h1:l.length≤12) (h2:es.length≤20) (h3:sptT l=true) (h:∀ j,j<es.length→fw1 (nth es j)=true):fewT l es=true:=by
 have:(List.range es.length).all (fun i=>fw1 (nth es i))=true:=by
  rw [List.all_eq_true]
  exact fun j hj=>h j (List.mem_range.1 hj)
 unfold fewT
 rw [this,h3]; simp [h1,h2]
theorem k2009 (l:List TN) (es:List Edit) (h:OkT l es):ACalls prog G0 9 [.c (.d (.sl (l.map TN.row))),.c (.d (.sl (es.map Edit.row)))] [] fun t H=>t = .bool (fewT l es)∧H=[]:=by
 have s1:x2021.sc=true:=rfl
 have s2:x1028.sc=true:=rfl
 have s3:x1025.sc=true:=rfl
 have g1:=xg2021 l h.ll h.n
 have hl1:=h.ll
 have hl2:=h.el
 obtain ⟨S,hS⟩:∃ S,S=sptT l:=⟨_,rfl⟩
 obtain ⟨R,hR⟩:∃ R,R=fewT l es:=⟨_,rfl⟩
 rw [← hS] at g1
 rw [← hR]
 refine acallsX (X:=[(21,x2021),(36,x1028),(37,x1025)]) ⟨kx2021,kx1028,kx1025,trivial⟩ tab hmix func9 c2009 (by rfl) fun hw=>?_
 by_cases h1:12<l.length
 ·have hv:R=false:=by rw [hR]; unfold fewT; rw [decide_eq_false (show ¬ l.length≤12 by omega)]; rfl
  have h1i:(12:Int)<(l.length:Int):=by omega
  simp -implicitDefEqProofs (disch:=omega) [gz,ir2009,b2009,h1,h1i,wrap64]
  exact fin_nil ⟨by rw [hv]; rfl,rfl⟩
 have h1i:¬ (12:Int)<(l.length:Int):=by omega
 by_cases h2:20<es.length
 ·have hv:R=false:=by rw [hR]; unfold fewT; rw [decide_eq_false (show ¬ es.length≤20 by omega)]; simp
  have h2i:(20:Int)<(es.length:Int):=by omega
  simp -implicitDefEqProofs (disch:=omega) [gz,ir2009,b2009,h1,h1i,h2,h2i,wrap64]
  exact fin_nil ⟨by rw [hv]; rfl,rfl⟩
 have h2i:¬ (20:Int)<(es.length:Int):=by omega
 cases hSv:S
 ·rw [hSv] at g1
  have hv:R=false:=by rw [hR]; unfold fewT; rw [← hS,hSv]; simp
  simp -implicitDefEqProofs (disch:=omega) [gz,ir2009,b2009,h1,h1i,h2,h2i,s1,g1,wrap64]
  exact fin_nil ⟨by rw [hv]; rfl,rfl⟩
 rw [hSv] at g1
 simp -implicitDefEqProofs (disch:=omega) [gz,ir2009,b2009,h1,h1i,h2,h2i,s1,g1,wrap64]
 refine loopE (fun k st=>∃ i,i≤es.length∧k=es.length-i∧(∀ j,j<i→fw1 (nth es j)=true) ∧
   st=⟨ofL [(1,.v (.c (.d (.sl (es.map Edit.row))))),(20,.int .i64 es.length),(21,.int .i64 i)],[]⟩)
  (fun st=>∀ j,j<es.length→fw1 (nth es j)=true) ?_ ?_ ?_
 ·refine wk_nil [] [1,20,21] rfl ⟨_,0,by omega,rfl,(fun j hj=>absurd hj (Nat.not_lt_zero j)),?_⟩
  simp
 ·rintro J M hJ hM k st ⟨i,hi,rfl,hb,rfl⟩
  by_cases hlt:i<es.length
  ·obtain ⟨e,ht⟩:∃ e,nth es i=e:=⟨_,rfl⟩
   have htm:e∈es:=by rw [← ht]; exact nth_mem hlt
   have g2:=xg1028 e (h.s e htm)
   have g3:=xg1025 e (h.e e htm)
   rw [erow_x] at g2 g3
   have hno:=fun (hc:fw1 (nth es i)=false)=>fewT_step (l:=l) hlt hc
   have hc1:fw1 (nth es i)=(!bigB e && decide (chkE e=0)):=by rw [ht]; rfl
   rw [← hR] at hno
   obtain ⟨B,hB⟩:∃ B,B=bigB e:=⟨_,rfl⟩
   obtain ⟨C,hC⟩:∃ C,C=chkE e:=⟨_,rfl⟩
   rw [← hB] at g2 hc1
   rw [← hC] at g3 hc1
   cases hBv:B
   ·rw [hBv] at g2 hc1
    simp only [Bool.false_eq_true,if_false] at g2
    by_cases hCv:C=0
    ·rw [hCv] at g3 hc1
     have hok:fw1 (nth es i)=true:=by rw [hc1]; rfl
     simp -implicitDefEqProofs (disch:=omega) [gz,hlt,wrap64,nth_map,ht,erow_x,s2,g2,s3,g3,fillC,splice]
     repeat' with_reducible apply And.intro
     all_goals first|omega|kernel_rfl|exact fun _ _=>rfl|skip
     subst hJ
     refine wk_nil [] [1,20,21] rfl ⟨es.length-(i+1),by omega,i+1,by omega,rfl,(fun j hj=>?_),?_⟩
     ·by_cases q:j=i
      ·rw [q]; exact hok
      ·exact hb j (by omega)
     ·simp
    ·have hv:=hno (by rw [hc1,decide_eq_false hCv]; rfl)
     simp -implicitDefEqProofs (disch:=omega) [gz,hlt,wrap64,nth_map,ht,erow_x,s2,g2,s3,g3,hCv,fillC,splice]
     repeat' with_reducible apply And.intro
     all_goals first|omega|kernel_rfl|exact fun _ _=>rfl|skip
     exact fin_nil ⟨by rw [hv]; rfl,rfl⟩
   ·rw [hBv] at g2 hc1
    simp only [if_true] at g2
    have hv:=hno (by rw [hc1]; rfl)
    simp -implicitDefEqProofs (disch:=omega) [gz,hlt,wrap64,nth_map,ht,erow_x,s2,g2,fillC,splice]
    repeat' with_reducible apply And.intro
    all_goals first|omega|kernel_rfl|exact fun _ _=>rfl|skip
    exact fin_nil ⟨by rw [hv]; rfl,rfl⟩
  ·have:i=es.length:=by omega
   subst this
   simp -implicitDefEqProofs (disch:=omega) [gz,hlt]
   subst hM
   exact hb
 ·intro st hb
  have hv:R=true:=by rw [hR]; exact fewT_all (by omega) (by omega) (by rw [← hS]; exact hSv) hb
  rw [hv]
  simp -implicitDefEqProofs (disch:=omega) [gz,wrap64]
  exact fin_nil ⟨rfl,rfl⟩
def x2009:XE:=mkX true (fun (p:List TN×List Edit)=>[.c (.sl (p.1.map TN.row)),.c (.sl (p.2.map Edit.row))]) (fun p=>OkT p.1 p.2) (fun p=>.bool (fewT p.1 p.2))
theorem kx2009:Contract prog G0 9 x2009:=mkX_scal (fun _=>rfl) fun p h=>k2009 p.1 p.2 h
theorem xg2009 (l:List TN) (es:List Edit) (h:OkT l es):x2009.g [.c (.sl (l.map TN.row)),.c (.sl (es.map Edit.row))]=some (True,.bool (fewT l es)):=mkX_g injTE (l,es) h
end Go.Aw.Try
namespace Go.Aw
open Go
inductive Sh where
 | i (k:IntKind)
 | b
 | s
 | sl (es:List Sh)
mutual
def okSh:Sh→D→Prop
 | .i k,d=>∃ n,d = .v (.int k n)∧(Lit.int k n).wf=true
 | .b,d=>∃ x,d = .v (.bool x)
 | .s,d=>∃ x,d = .v (.string x)
 | .sl es,d=>∃ xs,d = .sl xs∧∀ x∈xs,okShs es x
def okShs:List Sh→List D→Prop
 | [],l=>l=[]
 | e :: es,l=>∃ d r,l=d :: r∧okSh e d∧okShs es r
end
theorem okShs_len:∀ {es:List Sh} {l:List D},okShs es l→l.length=es.length
 | [],l,h=>by simp only [okShs] at h; subst h; rfl
 | e :: es,l,h=>by
  simp only [okShs] at h
  obtain ⟨d,r,rfl,_,h⟩:=h
  simp [okShs_len h]
theorem okShs_app:∀ {es es':List Sh} {l l':List D},okShs es l→okShs es' l'→okShs (es ++ es') (l ++ l')
 | [],es',l,l',h,h'=>by simp only [okShs] at h; subst h; exact h'
 | e :: es,es',l,l',h,h'=>by
  simp only [okShs] at h
  obtain ⟨d,r,rfl,h1,h⟩:=h
  simp only [List.cons_append,okShs]
  exact ⟨d,r ++ l',rfl,h1,okShs_app h h'⟩
section
variable (P:Program)
mutual
def shT:Nat→TypeId→Option (List Sh)
 | 0,_=>none
 | n+1,t=>match P.underlying t with
  | some .bool=>some [.b]
  | some (.int k)=>some [.i k]
  | some .string=>some [.s]
  | some (.slice e)=>match shT n e with
   | some es=>if P.cellsOf e=es.length∧0<es.length then some [.sl es] else none
   | none=>none
  | some (.struct fs)=>match shF n 0 fs.toList with
   | some es=>if P.cellsOf t=es.length then some es else none
   | none=>none
  | _=>none
def shF:Nat→Nat→List Field→Option (List Sh)
 | _,_,[]=>some []
 | 0,_,_=>none
 | n+1,run,f :: r=>if f.offset=run then match shT n f.type with
  | some es=>if P.cellsOf f.type=es.length then match shF n (run+es.length) r with
   | some l=>some (es ++ l)
   | none=>none else none
  | none=>none else none
end
end
section
variable {H:Type}
mutual
def datD:DataW H→List D
 | .lit (.int k n)=>[.v (.int k n)]
 | .lit (.bool b)=>[.v (.bool b)]
 | .lit (.string bs)=>[.v (.string ⟨bs.toArray⟩)]
 | .nil=>[.sl []]
 | .slice es _=>[.sl (datDs es)]
 | .agg ps=>datF ps
 | _=>[]
def datDs:List (DataW H)→List (List D)
 | []=>[]
 | d :: r=>datD d :: datDs r
def datF:List (DataW H)→List D
 | []=>[]
 | d :: r=>datD d ++ datF r
end
theorem datDs_len:∀ l:List (DataW H),(datDs l).length=l.length
 | []=>rfl
 | d :: r=>by simp [datDs,datDs_len r]
theorem datDs_get:∀ (l:List (DataW H)) (i:Nat),(datDs l)[i]? = (l[i]?).map datD
 | [],i=>by simp [datDs]
 | d :: r,0=>by simp [datDs]
 | d :: r,i+1=>by simp [datDs,datDs_get r i]
end
theorem mapM_some {α β:Type} {f:α→Option β}:∀ {l:List α} {r:List β},l.mapM f=some r→r.length=l.length∧∀ (i:Nat) x,l[i]? = some x→∃ y,r[i]? = some y∧f x=some y
 | [],r,h=>by simp at h; subst h; simp
 | a :: l,r,h=>by
  rw [List.mapM_cons] at h
  cases hf:f a with
  | none=>rw [hf] at h; cases h
  | some b =>
   rw [hf] at h
   cases hm:l.mapM f with
   | none=>rw [hm] at h; cases h
   | some r' =>
    rw [hm] at h
    have h:some (b :: r')=some r:=h
    injection h with h; subst h
    obtain ⟨h1,h2⟩:=mapM_some hm
    refine ⟨by simp [h1],fun i x hx=>?_⟩
    cases i with
    | zero=>simp at hx; subst hx; exact ⟨b,by simp,hf⟩
    | succ i=>simp at hx; obtain ⟨y,hy,hz⟩:=h2 i x hx; exact ⟨y,by simpa using hy,hz⟩
def Rd (w:World) (es:List Sh) (cs:List Value) (ds:List D):Prop :=
 okShs es ds∧cs.length=es.length∧∀ (i:Nat) d v,ds[i]? = some d→cs[i]? = some v→DRel (fun b=>b<w.heap.size) w d v
theorem Rd.one {w:World} {e:Sh} {v:Value} {d:D} (h:okSh e d) (hd:DRel (fun b=>b<w.heap.size) w d v):Rd w [e] [v] [d] :=
 ⟨by simp only [okShs]; exact ⟨d,[],rfl,h,rfl⟩,rfl,fun i d' v' h1 h2=>by
  cases i with
  | zero=>simp at h1 h2; subst h1; subst h2; exact hd
  | succ i=>simp at h1⟩
theorem Rd.app {w:World} {es es':List Sh} {cs cs':List Value} {ds ds':List D} (h:Rd w es cs ds) (k:Rd w es' cs' ds'):Rd w (es ++ es') (cs ++ cs') (ds ++ ds'):=by
 have l1:=okShs_len h.1
 refine ⟨okShs_app h.1 k.1,by simp [h.2.1,k.2.1],fun i d v h1 h2=>?_⟩
 rw [List.getElem?_append] at h1 h2
 rw [l1] at h1
 rw [h.2.1] at h2
 split at h1
 ·rename_i hi; rw [if_pos hi] at h2; exact h.2.2 i d v h1 h2
 ·rename_i hi; rw [if_neg hi] at h2; exact k.2.2 _ d v h1 h2
theorem cells_get {w:World} {a:Addr} {n:Nat} {cs:List Value} (h:w.cells? 0 a n=some cs):cs.length=n∧∀ (j:Nat) v,cs[j]? = some v→w.cell? (a.add j)=some v:=by
 unfold World.cells? at h
 rw [if_pos (Nat.zero_le _)] at h
 obtain ⟨h1,h2⟩:=mapM_some h
 rw [List.length_range] at h1
 refine ⟨h1,fun j v hv=>?_⟩
 have hj:j<n:=by
  have:=(List.getElem?_eq_some_iff.1 hv).1; omega
 obtain ⟨y,hy,hz⟩:=h2 j j (by simp [hj])
 rw [hv] at hy; injection hy with hy; subst hy
 exact hz
theorem cell_spot {w:World} {a:Addr} {v:Value} (h:w.cell? a=some v):a.spot=none∧a.block<w.heap.size:=by
 unfold World.cell? at h
 split at h
 ·rename_i c _ _ hb
  refine ⟨?_,(Array.getElem?_eq_some_iff.1 hb).1⟩
  cases hs:a.spot with
  | none=>rfl
  | some x=>rw [hs] at h; simp at h
 ·cases h
section
variable {H:Type} {enc:TypeId×Value→H} {P:Program} {w:World} {sp:Nat→Bool} {held:Bool}
theorem trod_fields {fuel:Nat} (ih:∀ (n:Nat) (t:TypeId) (es:List Sh) (cs:List Value) (d:DataW H) (ps:List MemPlace),shT P n t=some es→DataW.trod enc P w 0 sp held fuel t cs=some (d,ps)→Rd w es cs (datD d)) :
  ∀ (fs:List Field) (n run:Nat) (es:List Sh) (cs:List Value) (xs:List (DataW H×List MemPlace)),shF P n run fs=some es →
   fs.mapM (fun f=>DataW.trod enc P w 0 sp held fuel f.type ((cs.drop f.offset).take (P.cellsOf f.type)))=some xs→run+es.length≤cs.length→Rd w es ((cs.drop run).take es.length) (datF (xs.map (·.1)))
 | [],n,run,es,cs,xs,h,hm,hl=>by
  have:es=[]:=by cases n <;> · simp only [shF] at h; injection h with h; exact h.symm
  subst this
  simp at hm; subst hm
  exact ⟨by simp [datF,okShs],by simp,fun i d v h1=>by simp [datF] at h1⟩
 | f :: fs,0,run,es,cs,xs,h,hm,hl=>by simp [shF] at h
 | f :: fs,n+1,run,es,cs,xs,h,hm,hl=>by
  simp only [shF] at h
  split at h
  ·rename_i ho
   split at h
   ·rename_i es1 h1
    split at h
    ·rename_i hc
     split at h
     ·rename_i l h2
      injection h with h; subst h
      rw [List.mapM_cons] at hm
      cases hf:DataW.trod enc P w 0 sp held fuel f.type ((cs.drop f.offset).take (P.cellsOf f.type)) with
      | none=>rw [hf] at hm; cases hm
      | some x =>
       rw [hf] at hm
       cases hr:fs.mapM (fun f=>DataW.trod enc P w 0 sp held fuel f.type ((cs.drop f.offset).take (P.cellsOf f.type))) with
       | none=>rw [hr] at hm; cases hm
       | some xs' =>
        rw [hr] at hm
        have hm:some (x :: xs')=some xs:=hm
        injection hm with hm; subst hm
        simp only [List.length_append] at hl
        have g1:=ih n f.type es1 _ x.1 x.2 h1 hf
        have g2:=trod_fields ih fs n (run+es1.length) l cs xs' h2 hr (by omega)
        rw [ho,hc] at g1
        have e:(cs.drop run).take (es1 ++ l).length=(cs.drop run).take es1.length ++ (cs.drop (run+es1.length)).take l.length:=by
         rw [List.length_append,List.take_add,List.drop_drop]
        rw [e]
        exact g1.app g2
     ·cases h
    ·cases h
   ·cases h
  ·cases h
theorem trod_rd:∀ (fuel n:Nat) (t:TypeId) (es:List Sh) (cs:List Value) (d:DataW H) (ps:List MemPlace),shT P n t=some es→DataW.trod enc P w 0 sp held fuel t cs=some (d,ps)→Rd w es cs (datD d)
 | 0,n,t,es,cs,d,ps,hs,h=>by simp [DataW.trod] at h
 | fuel+1,0,t,es,cs,d,ps,hs,h=>by simp [shT] at hs
 | fuel+1,n+1,t,es,cs,d,ps,hs,h=>by
  have ih:=trod_rd fuel
  cases hu:P.underlying t with
  | none=>simp [shT,hu] at hs
  | some td =>
   unfold DataW.trod at h
   simp only [shT,hu] at hs
   rw [hu] at h
   cases td <;> simp only at hs <;> first | (cases hs; done) | skip
   case bool =>
    injection hs with hs; subst hs
    split at h <;> first | (rename_i e; cases e; done) | (rename_i e _; cases e; done) | (rename_i e _ _; cases e; done) | skip
    ·injection h with h; injection h with h1 h2; subst h1
     exact Rd.one ⟨_,rfl⟩ (.v _ rfl)
    ·cases h
   case int k =>
    injection hs with hs; subst hs
    split at h <;> first | (rename_i e; cases e; done) | (rename_i e _; cases e; done) | (rename_i e _ _; cases e; done) | skip
    ·rename_i e
     injection e with e; injection e with e; subst e
     split at h
     ·rename_i hk
      obtain ⟨rfl,hw⟩:=hk
      injection h with h; injection h with h1 h2; subst h1
      exact Rd.one ⟨_,rfl,hw⟩ (.v _ rfl)
     ·cases h
    ·cases h
   case string =>
    injection hs with hs; subst hs
    split at h <;> first | (rename_i e; cases e; done) | (rename_i e _; cases e; done) | (rename_i e _ _; cases e; done) | skip
    ·rename_i s0 e
     split at h
     ·injection h with h; injection h with h1 h2; subst h1
      exact Rd.one ⟨_,rfl⟩ (by simpa [datD] using DRel.v (.string s0) rfl)
     ·cases h
    ·cases h
   case slice e =>
    split at hs
    ·rename_i es1 h1
     split at hs
     ·rename_i hc
      injection hs with hs; subst hs
      split at h <;> first | (rename_i e; cases e; done) | (rename_i e _; cases e; done) | (rename_i e _ _; cases e; done) | skip
      ·injection h with h; injection h with h1 h2; subst h1
       exact Rd.one ⟨[],rfl,by simp⟩ (.nil none 0)
      ·rename_i e' a len cap heq
       injection heq with heq; injection heq with heq; subst heq
       simp only at h
       split at h
       ·rename_i hcap
        cases hm:(List.range len).mapM (fun i=>(w.cells? 0 (a.add (i*P.cellsOf e)) (P.cellsOf e)).bind (DataW.trod enc P w 0 sp held fuel e)) with
        | none=>rw [hm] at h; cases h
        | some elems =>
         rw [hm] at h
         simp only [Option.bind_some,Option.map_eq_some_iff] at h
         obtain ⟨rest,_,h⟩:=h
         injection h with h2 h3; subst h2
         obtain ⟨hlen,hget⟩:=mapM_some hm
         rw [List.length_range] at hlen
         have hel:∀ (i:Nat) x,elems[i]? = some x→∃ cs,w.cells? 0 (a.add (i*es1.length)) es1.length=some cs∧Rd w es1 cs (datD x.1):=fun i x hx=>by
          have hi:i<len:=by have:=(List.getElem?_eq_some_iff.1 hx).1; omega
          obtain ⟨y,hy,hz⟩:=hget i i (by simp [hi])
          rw [hx] at hy; injection hy with hy; subst hy
          simp only [Option.bind_eq_some_iff] at hz
          obtain ⟨cs,hcs,hz⟩:=hz
          rw [hc.1] at hcs
          exact ⟨cs,hcs,ih n e es1 cs x.1 x.2 h1 hz⟩
         have hget':∀ (i:Nat) y,(datDs (elems.map (·.1)))[i]? = some y→∃ x,elems[i]? = some x∧y=datD x.1:=fun i y hy=>by
          rw [datDs_get,List.getElem?_map] at hy
          cases hx:elems[i]? with
          | none=>rw [hx] at hy; cases hy
          | some x=>rw [hx] at hy; simp at hy; exact ⟨x,rfl,hy.symm⟩
         have hok:∀ y∈datDs (elems.map (·.1)),okShs es1 y:=fun y hy=>by
          obtain ⟨i,hi⟩:=List.getElem?_of_mem hy
          obtain ⟨x,hx,rfl⟩:=hget' i y hi
          obtain ⟨cs,_,hr⟩:=hel i x hx
          exact hr.1
         refine Rd.one ⟨_,rfl,hok⟩ ?_
         by_cases hl0:len=0
         ·have:elems=[]:=List.length_eq_zero_iff.1 (by omega)
          subst this; subst hl0
          exact .nil _ _
         ·obtain ⟨x0,hx0⟩:∃ x0,elems[0]? = some x0:=⟨elems[0]'(by omega),by simp⟩
          obtain ⟨cs0,hcs0,hr0⟩:=hel 0 x0 hx0
          obtain ⟨g1,g2⟩:=cells_get hcs0
          obtain ⟨v0,hv0⟩:∃ v0,cs0[0]? = some v0:=⟨cs0[0]'(by omega),by simp⟩
          have hsp:=cell_spot (g2 0 v0 hv0)
          have ha0:(a.add (0*es1.length)).add 0=a:=by simp [Addr.add]
          rw [ha0] at hsp
          have hadd:∀ i j,(a.add (i*es1.length)).add j=⟨a.block,a.off+i*es1.length+j,none⟩:=fun i j=>by
           cases a with
           | mk b o sp0 =>
            have:sp0=none:=hsp.1
            subst this
            unfold Addr.add
            split
            ·split
             ·rename_i q1 q2; simp [q1,q2]
             ·rename_i q1 q2; simp [q1]
            ·split
             ·rename_i q1 q2; simp [q2]
             ·rfl
          obtain ⟨b,o,sp0⟩:=a
          have:sp0=none:=hsp.1
          subst this
          have hlen':(datDs (elems.map (·.1))).length=len:=by rw [datDs_len,List.length_map,hlen]
          have hcell:∀ (i:Nat) (y:List D) (j:Nat) (d:D),(datDs (elems.map (·.1)))[i]? = some y→y[j]? = some d→∃ v,w.cell? ⟨b,o+i*es1.length+j,none⟩=some v∧DRel (fun b=>b<w.heap.size) w d v:=fun i y j d hy hd=>by
           obtain ⟨x,hx,rfl⟩:=hget' i y hy
           obtain ⟨cs,hcs,hr⟩:=hel i x hx
           obtain ⟨q1,q2⟩:=cells_get hcs
           have hj:j<cs.length:=by
            have:=(List.getElem?_eq_some_iff.1 hd).1
            rw [okShs_len hr.1] at this; omega
           have hv:cs[j]? = some cs[j]:=by simp [hj]
           refine ⟨cs[j],?_,hr.2.2 j d _ hd hv⟩
           have:=q2 j _ hv
           rw [hadd] at this; exact this
          have:=DRel.sl (S:=fun b=>b<w.heap.size) (w:=w) (datDs (elems.map (·.1))) b o cap es1.length (fun i j=>(w.cell? ⟨b,o+i*es1.length+j,none⟩).getD undef) hsp.2 hsp.2 (by rw [hlen']; exact hcap.2.1)
           (fun i x hx=>by
            obtain ⟨x',hx',rfl⟩:=hget' i x hx
            obtain ⟨cs,_,hr⟩:=hel i x' hx'
            exact okShs_len hr.1)
           (fun i x j d hi hj=>by obtain ⟨v,hv,_⟩:=hcell i x j d hi hj; rw [hv]; rfl)
           (fun i x j d hi hj=>by obtain ⟨v,hv,hr⟩:=hcell i x j d hi hj; rw [hv]; exact hr)
          rw [hlen'] at this
          exact this
       ·cases h
      ·cases h
     ·cases hs
    ·cases hs
   case struct fs =>
    split at hs
    ·rename_i es1 h1
     split at hs
     ·rename_i hc
      injection hs with hs; subst hs
      split at h <;> first | (rename_i e; cases e; done) | (rename_i e _; cases e; done) | (rename_i e _ _; cases e; done) | skip
      ·rename_i fs' heq
       injection heq with heq; injection heq with heq; subst heq
       split at h
       ·rename_i hlen
        simp only [Option.map_eq_some_iff] at h
        obtain ⟨xs,hm,h⟩:=h
        injection h with h2 h3; subst h2
        have:=trod_fields ih fs.toList n 0 es1 _ xs h1 hm (by omega)
        rw [List.drop_zero,List.take_of_length_le (by omega)] at this
        exact this
       ·cases h
      ·exact (‹∀ fs_1,some (TypeDesc.struct fs)=some (TypeDesc.struct fs_1)→False› fs rfl).elim
     ·cases hs
    ·cases hs
theorem vals_of_trod:∀ {ts:List TypeId} {vs:List Value} {ds:List (DataW H)} {ps:List MemPlace},DataW.TrodAll enc P w 0 sp held ts vs ds ps →
  ∀ (n:Nat) (ess:List (List Sh)),ts.map (shT P n)=ess.map some→vs.length=ts.length∧ds.length=ts.length ∧
   ∀ (i:Nat) es v d,ess[i]? = some es→vs[i]? = some v→ds[i]? = some d→Rd w es v.cells.toList (datD d)
 | [],[],[],ps,h,n,ess,he=>by
  have:ess=[]:=by cases ess <;> simp_all
  subst this
  simp
 | t :: ts,v :: vs,d :: ds,ps,h,n,ess,he=>by
  obtain ⟨p,q,⟨fuel,h1⟩,h2,_⟩:=h
  match ess,he with
  | es :: ess,he =>
   simp only [List.map_cons,List.cons.injEq] at he
   obtain ⟨g1,g2,g3⟩:=vals_of_trod h2 n ess he.2
   refine ⟨by simp [g1],by simp [g2],fun i es' v' d' hi hv hd=>?_⟩
   cases i with
   | zero=>simp at hi hv hd; subst hi; subst hv; subst hd; exact trod_rd fuel n t es _ _ _ he.1 h1
   | succ i=>simp at hi hv hd; exact g3 i es' v' d' hi hv hd
 | [],_ :: _,_,_,h,_,_,_=>by cases h
 | [],[],_ :: _,_,h,_,_,_=>by cases h
 | _ :: _,[],_,_,h,_,_,_=>by cases h
 | _ :: _,_ :: _,[],_,h,_,_,_=>by cases h
def argV (agg:Bool) (ds:List D):V:=if agg then .agg (ds.map .d) else match ds with | [d]=>.c (.d d) | _=>.any
theorem argV_rel {k:K} (hS:k.S=fun b=>b<k.w.heap.size) {es:List Sh} {v:Value} {ds:List D} {agg:Bool} (h:Rd k.w es v.cells.toList ds) (ha:agg=true→∃ cs,v = .agg cs) (hna:agg=false→v.cells = #[v]∧es.length=1) :
  VRel P k (argV agg ds) v:=by
 cases agg with
 | true =>
  obtain ⟨cs,rfl⟩:=ha rfl
  have hl:=okShs_len h.1
  have h2:=h.2.1
  refine ⟨cs,rfl,?_,fun i c v hc hv=>?_⟩
  ·simp [Value.cells] at h2; simp [hl,h2]
  ·rw [List.getElem?_map] at hc
   cases hd:ds[i]? with
   | none=>rw [hd] at hc; cases hc
   | some d =>
    rw [hd] at hc; simp at hc; subst hc
    have:=h.2.2 i d v hd (by simpa [Value.cells] using hv)
    show DRel k.S k.w d v
    rw [hS]; exact this
 | false =>
  obtain ⟨hc,he⟩:=hna rfl
  have hl:=okShs_len h.1
  match ds,hl with
  | [d],_ =>
   have:=h.2.2 0 d v rfl (by rw [hc]; rfl)
   show DRel k.S k.w d v
   rw [hS]; exact this
  | [],hl=>rw [he] at hl; cases hl
  | _ :: _ :: _,hl=>rw [he] at hl; simp at hl
theorem stab_nil0 (w:World):(ctx (fun _=>none) [] w).S=fun b=>b<w.heap.size:=by
 funext b
 apply propext
 constructor
 ·intro h; exact h.1
 ·intro h; exact ⟨h,fun r o hr=>by simp at hr⟩
theorem hrel_nil (w:World):HRel P (fun _=>none) [] w:=⟨fun r o hr=>by simp at hr,fun r r' o o' b hr=>by simp at hr,fun r b hr=>by cases hr⟩
theorem post_of_acalls {G0:Gl} (hl:laidOutB P=true) {f:Nat} {fn:Func} {s:ChangeSpec} {W:World} (hG0:GRel G0 (stab (fun _=>none) [] W) W) {args:Array Value} {ds gs:List (DataW H)} {before:List MemPlace} {us:List V} {R:T→List O→Prop} {apart handsOn:Bool} {tb:TypeId}
  (hres:fn.resultTypes = #[tb]) (hb:P.underlying tb=some .bool) (hvars:s.vars=[]) (hspec:s.fn H (ds ++ gs) = { results:=[.lit (.bool true)],args:=ds })
  (hparams:∀ t∈fn.params.toList,P.readableRec t=true∧t<P.types.size)
  (hW:DataW.Whole enc P fn.params.toList s.vars apart W args.toList ds gs before)
  (hv:VsRel P (ctx (fun _=>none) [] W) us args) (h:ACalls P G0 f us [] R) (hR:∀ t H,R t H→t = .bool true) :
  Calls P f args W fun e W'=>∃ v,e = .returned v∧s.post enc P fn apart true handsOn false W args v W':=by
 refine (h.2 (fun _=>none) W args (hrel_nil W) hG0 hv).mono ?_
 rintro e W' ⟨v,t,ρ',H',rfl,hRt,hH,ht,le⟩
 have:=hR t H' hRt
 subst this
 have hvt:v = .bool true:=drel_v ht
 subst hvt
 have hstep:=le.step
 rw [stab_nil0] at hstep
 have hkeep:∀ b,b<W.heap.size→W'.heap[b]? = W.heap[b]? := hstep.keep
 obtain ⟨p,q,hA,hV,hpq,hz,hn⟩:=id hW
 have hlt:∀ x∈before,x.block<W.heap.size:=fun x hx=>by simpa using hW.lt x hx
 have hq:q=[]:=by rw [hvars] at hV; cases gs <;> simp [DataW.TrodVars] at hV; exact hV
 subst hq
 rw [List.append_nil] at hpq
 have hbelow:Go.RowKit.Below W.heap.size W W':=⟨hstep.os,hstep.tape,hstep.output,hstep.size,hkeep⟩
 have hargs:∀ (ts:List TypeId) (vs:List Value) (ds:List (DataW H)) (ps:List MemPlace),(∀ t∈ts,P.readableRec t=true∧t<P.types.size)→(∀ x∈ps,x.block<W.heap.size)→DataW.TrodAll enc P W 0 (fun _=>true) true ts vs ds ps →
   DataW.TrodAll enc P W' 0 (fun b=>decide (b<W.heap.size)) true ts vs ds ps:=by
  intro ts
  induction ts with
  | nil=>intro vs ds ps _ _ h; cases vs <;> cases ds <;> exact h
  | cons t ts ih =>
   intro vs ds ps hp hlt h
   cases vs with
   | nil=>cases h
   | cons v vs =>
    cases ds with
    | nil=>cases h
    | cons d ds =>
     obtain ⟨p,q,h1,h2,rfl⟩:=h
     have ht:=hp t List.mem_cons_self
     exact ⟨p,q,Go.RowKit.Below.trod hl ht.1 ht.2 h1 hbelow (fun x hx=>hlt x (List.mem_append_left _ hx)),ih vs ds q (fun t ht=>hp t (List.mem_cons_of_mem _ ht)) (fun x hx=>hlt x (List.mem_append_right _ hx)) h2,rfl⟩
 refine ⟨_,rfl,ds,gs,before,[],before,[],hW,?_,?_,?_,?_,fun h=>by cases h⟩
 ·rw [hspec,hres]
  exact ⟨[],[],Go.RowKit.shut_bool hb true,rfl,rfl⟩
 ·rw [hspec]; exact hargs _ _ _ _ hparams hlt (hpq▸hA)
 ·rw [hspec,hvars]; simp [DataW.TrodVars]
 ·refine ⟨hstep.os,hstep.output,fun i hi=>?_⟩
  rw [hkeep i hi]
  cases W.heap[i]? with
  | none=>simp
  | some o=>cases o <;> simp
end
section
variable {P:Program} {w:World}
def aggT (P:Program) (t:TypeId):Bool:=match P.underlying t with
 | some (.struct _)=>true
 | some (.array _ _)=>true
 | _=>false
theorem okWide_one {r:Reach} {base:Nat} {t:TypeId} {v:Value} (ha:aggT P t=false) (h:Value.okWide P w r base t v):v.cells = #[v]:=by
 unfold aggT at ha
 unfold Value.okWide at h
 cases hu:P.underlying t with
 | none =>
  rw [hu] at h
  cases v <;> first | rfl | (simp [Cell.okWide,Cell.ok,hu] at h)
 | some td =>
  rw [hu] at h ha
  cases td <;> first | (cases ha; done) | (cases v <;> first | rfl | (simp [Cell.okWide,Cell.ok,hu] at h))
theorem okWide_agg {r:Reach} {base:Nat} {t:TypeId} {v:Value} (ha:aggT P t=true) (h:Value.okWide P w r base t v):∃ cs,v = .agg cs:=by
 unfold aggT at ha
 unfold Value.okWide at h
 cases hu:P.underlying t with
 | none=>rw [hu] at ha; cases ha
 | some td =>
  rw [hu] at h ha
  cases td <;> first | (cases ha; done) | (obtain ⟨cs,e,_⟩:=h; exact ⟨cs,e⟩)
theorem shT_one {n:Nat} {t:TypeId} {es:List Sh} (ha:aggT P t=false) (h:shT P n t=some es):es.length=1:=by
 cases n with
 | zero=>simp [shT] at h
 | succ n =>
  unfold aggT at ha
  cases hu:P.underlying t with
  | none=>simp [shT,hu] at h
  | some td =>
   rw [hu] at ha
   simp only [shT,hu] at h
   cases td <;> simp only at h <;> first | (cases h; done) | (cases ha; done) | (injection h with h; subst h; rfl) | skip
   split at h
   ·split at h
    ·injection h with h; subst h; rfl
    ·cases h
   ·cases h
variable {H:Type} {enc:TypeId×Value→H}
theorem law_calls {G0:Gl} (hl:laidOutB P=true) {f:Nat} {fn:Func} {s:ChangeSpec} {W:World} (hG0:GRel G0 (stab (fun _=>none) [] W) W) {base:Nat} {args:Array Value} {ds gs:List (DataW H)} {before:List MemPlace} {apart handsOn:Bool} {tb:TypeId}
  {n:Nat} {ess:List (List Sh)} {aggs:List Bool} (hts:fn.params.toList.map (shT P n)=ess.map some) (hag:fn.params.toList.map (aggT P)=aggs)
  (hres:fn.resultTypes = #[tb]) (hb:P.underlying tb=some .bool) (hvars:s.vars=[]) (hspec:∀ ds:List (DataW H),ds.length=fn.params.toList.length→s.fn H ds = { results:=[.lit (.bool true)],args:=ds })
  (hparams:fn.params.toList.all (fun t=>P.readableRec t && decide (t<P.types.size))=true)
  (hval:∀ (j:Nat) t v,fn.params[j]? = some t→args[j]? = some v→Value.okWide P W .any base t v)
  (hW:DataW.Whole enc P fn.params.toList s.vars apart W args.toList ds gs before)
  (h:(ds.map datD).length=ess.length→(∀ (i:Nat) es u,ess[i]? = some es→(ds.map datD)[i]? = some u→okShs es u)→gs=[]→ACalls P G0 f (List.zipWith argV aggs (ds.map datD)) [] fun t _=>t = .bool true) :
  Calls P f args W fun e W'=>∃ v,e = .returned v∧s.post enc P fn apart true handsOn false W args v W':=by
 obtain ⟨p,q,hA,hV,hpq,hz,hn⟩:=id hW
 have hgs:gs=[]:=by rw [hvars] at hV; cases gs <;> simp [DataW.TrodVars] at hV; rfl
 subst hgs
 obtain ⟨l1,l2,hr⟩:=vals_of_trod hA n ess hts
 have hel:ess.length=fn.params.toList.length:=by have:=congrArg List.length hts; simpa using this.symm
 have hal:aggs.length=fn.params.toList.length:=by rw [← hag]; simp
 have hok:=h (by simp [l2,hel]) (fun i es u he hu=>by
  rw [List.getElem?_map] at hu
  cases hd:ds[i]? with
  | none=>rw [hd] at hu; cases hu
  | some d =>
   rw [hd] at hu; simp at hu; subst hu
   have hi:i<args.toList.length:=by rw [l1,← l2]; exact (List.getElem?_eq_some_iff.1 hd).1
   exact (hr i es _ d he (List.getElem?_eq_getElem hi) hd).1) rfl
 refine post_of_acalls hl hG0 (ds:=ds) (gs:=[]) hres hb hvars (by rw [List.append_nil]; exact hspec ds l2) (fun t ht=>?_) hW ?_ hok (fun t H h=>h)
 ·have:=List.all_eq_true.1 hparams t ht
  simp at this; exact this
 ·refine ⟨by simp [hal,l2]; simpa using l1,fun i c v hc hv=>?_⟩
  rw [List.getElem?_zipWith] at hc
  have hv':args.toList[i]? = some v:=by simpa using hv
  have hi:i<fn.params.toList.length:=by rw [← l1]; exact (List.getElem?_eq_some_iff.1 hv').1
  have hp:fn.params.toList[i]? = some fn.params.toList[i]:=List.getElem?_eq_getElem hi
  obtain ⟨t,ht⟩:∃ t,fn.params.toList[i]? = some t:=⟨_,hp⟩
  have hga:aggs[i]? = some (aggT P t):=by rw [← hag,List.getElem?_map,ht]; rfl
  have hsh:∃ es,ess[i]? = some es∧shT P n t=some es:=by
   have h1:(fn.params.toList.map (shT P n))[i]? = some (shT P n t):=by rw [List.getElem?_map,ht]; rfl
   rw [hts,List.getElem?_map] at h1
   cases he:ess[i]? with
   | none=>rw [he] at h1; cases h1
   | some es=>rw [he] at h1; simp at h1; exact ⟨es,rfl,h1.symm⟩
  obtain ⟨es,he,hse⟩:=hsh
  have hdi:i<ds.length:=by rw [l2]; exact hi
  have hd:ds[i]? = some ds[i]:=List.getElem?_eq_getElem hdi
  have hdm:(ds.map datD)[i]? = some (datD ds[i]):=by rw [List.getElem?_map,hd]; rfl
  rw [hga,hdm] at hc
  simp at hc
  subst hc
  have hrd:=hr i es v ds[i] he hv' hd
  have hok':=hval i t v (by simpa using ht) hv
  exact argV_rel (k:=ctx (fun _=>none) [] W) (stab_nil0 W) hrd (fun ha=>okWide_agg ha hok') (fun ha=>⟨okWide_one ha hok',shT_one ha hse⟩)
mutual
def wD:D→Nat
 | .v (.string s)=>s.size+1
 | .sl xs=>wDss xs+1
 | _=>1
def wDs:List D→Nat
 | []=>0
 | d :: r=>wD d+wDs r
def wDss:List (List D)→Nat
 | []=>0
 | x :: r=>wDs x+wDss r
end
theorem wDs_app:∀ (a b:List D),wDs (a ++ b)=wDs a+wDs b
 | [],b=>by simp [wDs]
 | d :: a,b=>by simp only [List.cons_append,wDs,wDs_app a b]; omega
end
end Go.Aw
namespace Go.Aw.Try
open Go Go.Proofs Go.Proofs.YtbehhclclhfhkaaGreatDoor Go.Aw
set_option maxRecDepth 100000
set_option maxHeartbeats 4000000
abbrev idSh:List Sh:=[.s,.i .i64]
abbrev editSh:List Sh:=[.s,.i .i64,.i .i64,.i .i64,.sl idSh,.i .i64,.s,.i .i64,.s,.i .i64,.b,.s,.s,.s,.s,.s,.i .i64,.s]
theorem dec_id {l:List D} (h:okShs idSh l):∃ x:Id,l=x.row:=by
 simp only [idSh,okShs,okSh] at h
 obtain ⟨_,_,rfl,⟨a,rfl⟩,_,_,rfl,⟨n,rfl,_⟩,rfl⟩:=h
 exact ⟨⟨a,n⟩,rfl⟩
theorem dec_list {α:Type} {row:α→List D} {sh:List Sh} (hd:∀ l,okShs sh l→∃ x,l=row x):∀ {xs:List (List D)},(∀ x∈xs,okShs sh x)→∃ l:List α,xs=l.map row
 | [],_=>⟨[],rfl⟩
 | x :: xs,h=>by
  obtain ⟨a,rfl⟩:=hd x (h x List.mem_cons_self)
  obtain ⟨l,rfl⟩:=dec_list hd (fun y hy=>h y (List.mem_cons_of_mem _ hy))
  exact ⟨a :: l,rfl⟩
theorem dec_edit {l:List D} (h:okShs editSh l):∃ e:Edit,l=e.row:=by
 simp only [editSh,okShs,okSh] at h
 obtain ⟨_,_,rfl,⟨a1,rfl⟩,_,_,rfl,⟨a2,rfl,_⟩,_,_,rfl,⟨a3,rfl,_⟩,_,_,rfl,⟨a4,rfl,_⟩,_,_,rfl,⟨a5,rfl,h5⟩,_,_,rfl,⟨a6,rfl,_⟩,_,_,rfl,⟨a7,rfl⟩,_,_,rfl,⟨a8,rfl,_⟩,_,_,rfl,⟨a9,rfl⟩,_,_,rfl,⟨a10,rfl,_⟩,
  _,_,rfl,⟨a11,rfl⟩,_,_,rfl,⟨a12,rfl⟩,_,_,rfl,⟨a13,rfl⟩,_,_,rfl,⟨a14,rfl⟩,_,_,rfl,⟨a15,rfl⟩,_,_,rfl,⟨a16,rfl⟩,_,_,rfl,⟨a17,rfl,_⟩,_,_,rfl,⟨a18,rfl⟩,rfl⟩:=h
 obtain ⟨ds,rfl⟩:=dec_list (row:=Id.row) (fun l h=>dec_id h) h5
 exact ⟨⟨⟨a1,a2⟩,a3,a4,ds,a6,⟨a7,a8⟩,⟨a9,a10⟩,a11,a12,a13,a14,a15,⟨a16,a17⟩,a18⟩,rfl⟩
theorem dec_edits {l:List D} (h:okShs [.sl editSh] l):∃ es:List Edit,l=[.sl (es.map Edit.row)]:=by
 simp only [okShs,okSh] at h
 obtain ⟨_,_,rfl,⟨xs,rfl,h⟩,rfl⟩:=h
 obtain ⟨es,rfl⟩:=dec_list (row:=Edit.row) (fun l h=>dec_edit h) h
 exact ⟨es,rfl⟩
theorem wrows {α:Type} {row:α→List D} (h:∀ x,row x≠[]):∀ l:List α,l.length≤wDss (l.map row)
 | []=>by simp
 | x :: l=>by
  have:=wrows h l
  have h1:1≤wDs (row x):=by
   cases hx:row x with
   | nil=>exact absurd hx (h x)
   | cons d r =>
    have:1≤wD d:=by unfold wD; split <;> omega
    simp only [wDs]; omega
  simp only [List.map_cons,wDss,List.length_cons]; omega
section
variable {H:Type}
mutual
theorem bulk_D:∀ d:DataW H,wDs (datD d)≤Rows.uptoBulk d
 | .lit l=>by cases l <;> simp [datD,wDs,wD,Rows.uptoBulk,ByteArray.size]
 | .nil=>by simp [datD,wDs,wD,wDss,Rows.uptoBulk]
 | .ptr d=>by simp [datD,wDs]
 | .slice es sp=>by
  have:=bulk_Ds es
  simp only [datD,wDs,wD,Rows.uptoBulk]; omega
 | .agg ps=>by
  have:=bulk_F ps
  simp only [datD,Rows.uptoBulk]; omega
 | .iface t d=>by simp [datD,wDs]
 | .map es=>by simp [datD,wDs]
 | .held h=>by simp [datD,wDs]
theorem bulk_Ds:∀ l:List (DataW H),wDss (datDs l)≤Rows.uptoBulkAll l
 | []=>by simp [datDs,wDss]
 | d :: r=>by
  have h1:=bulk_D d
  have h2:=bulk_Ds r
  simp only [datDs,wDss,Rows.uptoBulkAll]; omega
theorem bulk_F:∀ l:List (DataW H),wDs (datF l)≤Rows.uptoBulkAll l
 | []=>by simp [datF,wDs]
 | d :: r=>by
  have h1:=bulk_D d
  have h2:=bulk_F r
  simp only [datF,Rows.uptoBulkAll]; rw [wDs_app]; omega
end
theorem bulk_args {ds:List (DataW H)} (hk:Rows.uptoSmall H ds=true):∀ (i:Nat) u,(ds.map datD)[i]? = some u→wDs u≤1048576:=by
 have h:Rows.uptoBulkAll ds≤1048576:=of_decide_eq_true hk
 intro i u hu
 have key:∀ (ds:List (DataW H)) (i:Nat) u,(ds.map datD)[i]? = some u→wDs u≤Rows.uptoBulkAll ds:=by
  intro ds
  induction ds with
  | nil=>intro i u hu; simp at hu
  | cons d r ih =>
   intro i u hu
   cases i with
   | zero=>simp at hu; subst hu; have:=bulk_D d; simp only [Rows.uptoBulkAll]; omega
   | succ i=>simp at hu; have:=ih i u (by simpa using hu); simp only [Rows.uptoBulkAll]; omega
 exact Nat.le_trans (key ds i u hu) h
end
theorem own:ownKnob prog.godebug=none:=by kernel_rfl
theorem laid:laidOutB prog=true:=by kernel_rfl
theorem wmem {α:Type} {row:α→List D}:∀ {l:List α} {x:α},x∈l→wDs (row x)≤wDss (l.map row)
 | [],x,h=>by cases h
 | y :: l,x,h=>by
  simp only [List.map_cons,wDss]
  rcases List.mem_cons.1 h with rfl | h
  ·omega
  ·have:=wmem (row:=row) h; omega
abbrev tnSh:List Sh:=[.s,.i .i64,.s,.i .i64,.b,.s,.s,.s]
theorem dec_tn {l:List D} (h:okShs tnSh l):∃ e:TN,l=e.row:=by
 simp only [tnSh,okShs,okSh] at h
 obtain ⟨_,_,rfl,⟨a1,rfl⟩,_,_,rfl,⟨a2,rfl,_⟩,_,_,rfl,⟨a3,rfl⟩,_,_,rfl,⟨a4,rfl,_⟩,_,_,rfl,⟨a5,rfl⟩,_,_,rfl,⟨a6,rfl⟩,_,_,rfl,⟨a7,rfl⟩,_,_,rfl,⟨a8,rfl⟩,rfl⟩:=h
 exact ⟨⟨⟨a1,a2⟩,⟨a3,a4⟩,⟨a5,a6,a7⟩,a8⟩,rfl⟩
theorem dec_tns {l:List D} (h:okShs [.sl tnSh] l):∃ es:List TN,l=[.sl (es.map TN.row)]:=by
 simp only [okShs,okSh] at h
 obtain ⟨_,_,rfl,⟨xs,rfl,h⟩,rfl⟩:=h
 obtain ⟨es,rfl⟩:=dec_list (row:=TN.row) (fun l h=>dec_tn h) h
 exact ⟨es,rfl⟩
theorem dec_idA {l:List D} (h:okShs idSh l):∃ x:Id,l=x.row:=dec_id h
theorem trash {W:World} (h:laidMetH prog Rows.movetreeBatchesUptoRow.laid W):GRel (GM 0) (stab (fun _=>none) [] W) W:=by
 rw [Go.MakeChecks.laidMetH_plain _ _ _ (by kernel_rfl)] at h
 obtain ⟨ps,⟨_,_,_,_,_,_,_,_,_,_,⟨g,t,cs,fuel,p,q,hg,ht,hv,hd,_,_⟩,_⟩,_,_⟩:=h
 obtain rfl:=Option.some.inj ((show prog.globalNamed "voussoir/movetree.trash" = some 0 by kernel_rfl).symm.trans hg)
 obtain rfl:=Option.some.inj ((show (prog.globals[0]?).map (·.type)=some 25 by kernel_rfl).symm.trans ht)
 have hr:=trod_rd fuel 20 25 idSh _ _ _ (by kernel_rfl) hd
 obtain ⟨_,hlen,hr⟩:=hr
 have hd0:datD (H:=Unit) Rows.laid_voussoir_movetree_trash=[.v (.string ⟨#[45]⟩),.v (.int .i64 0)]:=rfl
 rw [hd0] at hr
 have h2:cs.toList.length=2:=hlen
 have c0:W.cell? ⟨0,0,none⟩=some (.string ⟨#[45]⟩):=by
  have e:=World.var?_cell hg hv 0
  have e0:cs.toList[0]? = some (cs.toList[0]'(by omega)):=List.getElem?_eq_getElem (by omega)
  have e1:=drel_v (hr 0 _ _ rfl e0)
  rw [e,← e1,← Array.getElem?_toList]; exact e0
 have c1:W.cell? ⟨0,1,none⟩=some (.int .i64 0):=by
  have e:=World.var?_cell hg hv 1
  have e0:cs.toList[1]? = some (cs.toList[1]'(by omega)):=List.getElem?_eq_getElem (by omega)
  have e1:=drel_v (hr 1 _ _ rfl e0)
  rw [e,← e1,← Array.getElem?_toList]; exact e0
 intro g cs' hg'
 unfold GM at hg'
 split at hg'
 ·rename_i h0
  subst h0
  injection hg' with hg'; subst hg'
  have hlt:0<W.heap.size:=World.block_lt_of_cell? _ _ c0
  refine ⟨⟨hlt,fun r o hr=>by simp at hr⟩,hlt,fun j d hj=>?_⟩
  cases j with
  | zero=>injection hj with hj; subst hj; exact ⟨_,c0,DRel.v _ rfl⟩
  | succ j =>
   cases j with
   | zero=>injection hj with hj; subst hj; exact ⟨_,c1,DRel.v _ rfl⟩
   | succ j=>simp at hj
 ·cases hg'
def litV:DataW Unit→Value
 | .lit (.int k n)=>.int k n
 | _=>undef
def aggV:DataW Unit→List Value
 | .agg xs=>xs.flatMap fun d=>match d with
  | .agg ys=>ys.map litV
  | d=>[litV d]
 | _=>[]
def layO (cs:Array Value):Obj→Obj
 | .cells _ t fz=>.cells cs t fz
 | o=>o
def laidWorld (os:Os):World :=
  { World.holding prog os ⟨#[],#[],[]⟩ with heap:=(((World.holding prog os ⟨#[],#[],[]⟩).heap.modify 2 (layO (aggV Go.Pinned.utf8First).toArray)).modify 3 (layO (aggV (Rows.laid_unicode_utf8_acceptRanges (H:=Unit))).toArray)).modify 0 (layO #[.string ⟨#[45]⟩,.int .i64 0]) }
theorem b_tns {l:List TN} (h:wDs [.sl (l.map TN.row)]≤1048576):l.length<1152921504606846976∧∀ e∈l,OkN e:=by
 simp only [wDs,wD] at h
 have h1:=wrows (row:=TN.row) (fun x=>by simp [TN.row]) l
 refine ⟨by omega,fun e he=>?_⟩
 have h2:=wmem (row:=TN.row) he
 have h5:wDs e.row≤1048576:=by omega
 simp only [TN.row,wDs,wD] at h5
 exact ⟨by omega,by omega,by omega,by omega,by omega⟩
theorem b_es {l:List Edit} (h:wDs [.sl (l.map Edit.row)]≤1048576):l.length<1152921504606846976∧∀ e∈l,OkE e∧Siz e:=by
 simp only [wDs,wD] at h
 have h1:=wrows (row:=Edit.row) (fun x=>by simp [Edit.row]) l
 refine ⟨by omega,fun e he=>?_⟩
 have h2:=wmem (row:=Edit.row) he
 have h4:=wrows (row:=Id.row) (fun x=>by simp [Id.row]) e.deps
 have h5:wDs e.row≤1048576:=by omega
 simp only [Edit.row,wDs,wD] at h5
 refine ⟨⟨by omega,by omega,by omega,by omega,by omega,by omega,by omega,by omega,by omega,by omega,fun x hx=>?_⟩,⟨by omega,by omega,by omega,by omega,by omega,by omega,by omega,by omega,by omega,by omega⟩⟩
 have h6:=wmem (row:=Id.row) hx
 have h7:x.a.size≤wDs (Id.row x):=by simp only [Id.row,wDs,wD]; omega
 omega
theorem okT {l:List TN} {es:List Edit} (h1:l.length<1152921504606846976∧∀ e∈l,OkN e) (h2:es.length<1152921504606846976∧∀ e∈es,OkE e∧Siz e):OkT l es:=⟨h1.1,h1.2,h2.1,fun e he=>(h2.2 e he).1,fun e he=>(h2.2 e he).2⟩
open Go Go.Proofs Go.Aw
theorem rfOf (neg:Bool) (mag:ByteArray) (r:Int) (hm:mag=zm r) (hn:r=0∨neg=zn r) (hs:mag.size<549755813888):x1129.g [.c (.v (.bool neg)),.c (.v (.string mag))]=some (True,.v (zV r)):=by
 refine (xg1129 neg mag hs).trans ?_
 rw [iV_z,hm,zm_val]
 have:Nv.sgn neg r.natAbs=r:=by
  rcases hn with h | h
  ·subst h; unfold Nv.sgn; cases neg <;> rfl
  ·rw [h]; exact sgn_zn r
 rw [this]
theorem k1154 (z:Int) (h:(zm z).size<549755813888):ACalls prog G0 136 [zV z] [] fun t H=>t = .v (zV (-z))∧H=[]:=by
 have s2:x1129.sc=true:=rfl
 have g2:=rfOf (!zn z) (zm z) (-z) (zm_neg z).symm (by
  unfold zn
  by_cases c:z=0
  ·left; omega
  ·right
   by_cases q:z<0
   ·rw [decide_eq_true q,decide_eq_false (by omega)]; rfl
   ·rw [decide_eq_false q,decide_eq_true (by omega)]; rfl) h
 refine acallsX (X:=[(134,x1129)]) ⟨kx1129,trivial⟩ tab hmix func136 c1154 (by rfl) fun hw=>?_
 simp -implicitDefEqProofs (disch:=omega) [gz,ir1154,b1154,s2,g2,fillC,splice]
 exact fin_nil ⟨rfl,rfl⟩
def x1154:XE:=mkX true (fun (z:Int)=>[zQ z]) (fun z=>(zm z).size<549755813888) (fun z=>.v (zV (-z)))
theorem kx1154:Contract prog G0 136 x1154:=mkX_scal (fun _=>rfl) fun z h=>k1154 z h
theorem xg1154 (z:Int) (h:(zm z).size<549755813888):x1154.g [zQ z]=some (True,.v (zV (-z))):=mkX_g injZ z h
theorem k2097 (a b:Int) (ha:(zm a).size<1000000000) (hb:(zm b).size<1000000000) (hab:(zm (a*b)).size<549755813888):ACalls prog G0 97 [zV a,zV b] [] fun t H=>t = .v (zV (a*b))∧H=[]:=by
 have s2:x1129.sc=true:=rfl
 have s3:x1168.sc=true:=rfl
 have g3:=xg1168 (zm a) (zm b) (by omega) (by omega)
 have e:nB (nV (zm a)*nV (zm b))=zm (a*b):=by rw [zm_val,zm_val]; unfold zm; rw [Int.natAbs_mul]
 rw [e] at g3
 have g4:=rfOf (!decide (zn a=zn b)) (zm (a*b)) (a*b) rfl (by
  by_cases c:a=0
  ·left; rw [c,Int.zero_mul]
  by_cases c':b=0
  ·left; rw [c',Int.mul_zero]
  right
  unfold zn
  rcases Int.lt_or_gt_of_ne c with q | q <;> rcases Int.lt_or_gt_of_ne c' with q' | q'
  ·have:=Int.mul_pos_of_neg_of_neg q q'
   rw [decide_eq_true q,decide_eq_true q',decide_eq_false (show ¬ a*b<0 by omega)]; rfl
  ·have:=Int.mul_neg_of_neg_of_pos q q'
   rw [decide_eq_true q,decide_eq_false (show ¬ b<0 by omega),decide_eq_true this]; rfl
  ·have:=Int.mul_neg_of_pos_of_neg q q'
   rw [decide_eq_false (show ¬ a<0 by omega),decide_eq_true q',decide_eq_true this]; rfl
  ·have:=Int.mul_pos q q'
   rw [decide_eq_false (show ¬ a<0 by omega),decide_eq_false (show ¬ b<0 by omega),decide_eq_false (show ¬ a*b<0 by omega)]; rfl) hab
 refine acallsX (X:=[(134,x1129),(139,x1168)]) ⟨kx1129,kx1168,trivial⟩ tab hmix func97 c2097 (by rfl) fun hw=>?_
 obtain ⟨r,hr⟩:∃ r,r=a*b:=⟨_,rfl⟩
 rw [← hr] at g3 g4 ⊢
 simp -implicitDefEqProofs (disch:=omega) [gz,ir2097,b2097,s2,s3,g3,g4,fillC,splice]
 repeat' with_reducible apply And.intro
 all_goals first|omega|kernel_rfl|exact fun _ _=>rfl|skip
 exact fin_nil ⟨rfl,rfl⟩
def x2097:XE:=mkX true (fun (p:Int×Int)=>[zQ p.1,zQ p.2]) (fun p=>(zm p.1).size<1000000000∧(zm p.2).size<1000000000∧(zm (p.1*p.2)).size<549755813888) (fun p=>.v (zV (p.1*p.2)))
theorem kx2097:Contract prog G0 97 x2097:=mkX_scal (fun _=>rfl) fun p h=>k2097 p.1 p.2 h.1 h.2.1 h.2.2
theorem xg2097 (a b:Int) (ha:(zm a).size<1000000000) (hb:(zm b).size<1000000000) (hab:(zm (a*b)).size<549755813888):x2097.g [zQ a,zQ b]=some (True,.v (zV (a*b))):=mkX_g injZZ (a,b) ⟨ha,hb,hab⟩
theorem k2098 (x:Nv.Rt) (h:OkQ x):ACalls prog G0 98 [ratV x] [] fun t H=>t = .int .i64 (sgZ (rn x))∧H=[]:=by
 have s1:x1101.sc=true:=rfl
 have s2:x1132.sc=true:=rfl
 have hn:=h.n
 have g1:=(xg1101 x (by omega)).trans (by rw [iV_z])
 have hz:=rn_size x
 have e:Nv.sgn x.neg (nV x.num)=rn x:=rfl
 rw [e] at g1
 have g2:x1132.g [zQ (rn x)]=some (True,.int .i64 (sgZ (rn x))):=(xg1132 (zn (rn x)) (zm (rn x)) (by omega)).trans (by
  rw [zm_val]
  have:sgnI (zn (rn x)) (rn x).natAbs=sgZ (rn x):=by
   unfold sgnI sgZ zn
   by_cases q:rn x=0
   ·simp [q]
   ·by_cases q2:rn x<0
    ·simp [q,q2]
    ·simp [q,q2]
  rw [this])
 refine acallsX (X:=[(90,x1101),(140,x1132)]) ⟨kx1101,kx1132,trivial⟩ tab hmix func98 c2098 (by rfl) fun hw=>?_
 simp -implicitDefEqProofs (disch:=omega) [gz,ir2098,b2098,s1,s2,g1,g2,fillC,splice]
 exact fin_nil ⟨rfl,rfl⟩
def x2098:XE:=mkX true (fun (x:Nv.Rt)=>[ratP x]) OkQ (fun x=>.int .i64 (sgZ (rn x)))
theorem kx2098:Contract prog G0 98 x2098:=mkX_scal (fun _=>rfl) fun x h=>k2098 x h
theorem xg2098 (x:Nv.Rt) (h:OkQ x):x2098.g [ratP x]=some (True,.int .i64 (sgZ (rn x))):=mkX_g injRat x h
theorem add8_step {A B S P c x y s c':Nat} (h:A+B=S+P*c) (e:c+(x+y)=s+256*c'):(A+P*x)+(B+P*y)=(S+P*s)+P*(256*c'):=by
 have h1:P*(c+(x+y))=P*(s+256*c'):=by rw [e]
 simp only [Nat.mul_add] at h1; omega
theorem k1153 (a b:ByteArray) (ha:a.size<1099511627776) (hb:b.size<1099511627776):ACalls prog G0 137 [Sx a,Sx b] [] fun t H=>t = .str (nB (nV a+nV b))∧H=[]:=by
 have s2:x1169.sc=true:=rfl
 have s3:x1149.sc=true:=rfl
 obtain ⟨R,hR⟩:∃ R,R=nB (nV a+nV b):=⟨_,rfl⟩
 rw [← hR]
 obtain ⟨M,hM0,hM1,hM2⟩:∃ M,a.size≤M∧b.size≤M∧(M=a.size∨M=b.size):=⟨max a.size b.size,Nat.le_max_left _ _,Nat.le_max_right _ _,by omega⟩
 refine acallsX (X:=[(159,x1169),(158,x1149)]) ⟨kx1169,kx1149,trivial⟩ tab hmix func137 c1153 (by rfl) fun hw=>?_
 simp -implicitDefEqProofs (disch:=omega) [gz,ir1153,b1153,wrap64,fillR]
 refine loopE (fun k st=>∃ (i c:Nat) (out:List UInt8),i≤M+1∧k=M+1-i∧out.length=i∧c≤1∧(i=M+1→c=0)∧pv a i+pv b i=Nv.valB out+256^i*c ∧
   st=⟨ofL [(0,.v (.c (.d (.v (.string a))))),(1,.v (.c (.d (.v (.string b))))),(5,.v (.c (.os 0 1 0 out.length))),(6,.int .i64 c),(7,.int .i64 i)],[.row 1 (out.map u8R)]⟩)
  (fun st=>∃ (out:List UInt8),out.length≤M+1∧Nv.valB out=nV a+nV b∧AtS [(5,.v (.c (.os 0 1 0 out.length)))] [.row 1 (out.map u8R)] st) ?_ ?_ ?_
 ·refine wk_nil [0] [0,1,5,6,7] rfl ⟨_,0,0,[],by omega,rfl,rfl,by omega,fun _=>rfl,by simp [pv_zero,Nv.valB],?_⟩
  simp [phi,O.ren,C.ren]
 ·rintro J L hJ hL k st ⟨i,c,out,hi,rfl,hol,hc,hcM,hval,rfl⟩
  have ga:=xg1169 a i (by omega)
  have gb:=xg1169 b i (by omega)
  have pa:=pv_succ a i
  have pb:=pv_succ b i
  have la:=bt_lt a i
  have lb:=bt_lt b i
  have za:a.size≤i→bt a i=0:=fun h=>by unfold bt; rw [Array.getElem?_eq_none (by exact h)]; rfl
  have zb:b.size≤i→bt b i=0:=fun h=>by unfold bt; rw [Array.getElem?_eq_none (by exact h)]; rfl
  obtain ⟨x,hx⟩:∃ x,x=bt a i:=⟨_,rfl⟩
  obtain ⟨y,hy⟩:∃ y,y=bt b i:=⟨_,rfl⟩
  rw [← hx] at ga pa la za
  rw [← hy] at gb pb lb zb
  have tC:(out.map u8R).take out.length=out.map u8R:=List.take_of_length_le (by simp)
  obtain ⟨n,hn⟩:∃ n,n=c+(x+y):=⟨_,rfl⟩
  have hni:(c:Int)+((x:Int)+(y:Int))=(n:Int):=by omega
  obtain ⟨s,hs⟩:∃ s,s=n % 256:=⟨_,rfl⟩
  obtain ⟨d,hd⟩:∃ d,d=n / 256:=⟨_,rfl⟩
  have hsl:s<256:=by omega
  have hnd:n=s+256*d:=by omega
  have hdl:d≤1:=by omega
  have hsi:(n:Int).tmod 256=(s:Int):=by rw [hs]; rfl
  have hdi:(n:Int).tdiv 256=(d:Int):=by rw [hd]; rfl
  have hws:IntKind.u8.wrap (s:Int)=((UInt8.ofNat s).toNat:Int):=by rw [u8n,Nv.toNat_of hsl,Nat.mod_eq_of_lt hsl]
  have fin:pv a (i+1)+pv b (i+1)=Nv.valB (out ++ [UInt8.ofNat s])+256^(i+1)*d:=by
   have:=add8_step hval (hn.symm.trans hnd)
   rw [valB_snoc,hol,Nv.toNat_of hsl,pa,pb,Nat.pow_succ,Nat.mul_assoc]
   exact this
  have nI:¬ (256:Int)=0:=by decide
  have go:i<M+1→(i+1=M+1→d=0):=fun _ h=>by
   have:=za (by omega)
   have:=zb (by omega)
   omega
  by_cases c1:i<a.size
  ·have c1i:(i:Int)<(a.size:Int):=by omega
   simp -implicitDefEqProofs (disch:=omega) [gz,c1,c1i,wrap64,s2,ga,gb,hni,hsi,hdi,hws,elems,tC,maxLen47,fillR]
   repeat' with_reducible apply And.intro
   all_goals first | omega | kernel_rfl | skip
   subst hJ
   refine wk_nil [2] [0,1,5,6,7] rfl ⟨M+1-(i+1),by omega,i+1,d,out ++ [UInt8.ofNat s],by omega,rfl,by simp [hol],hdl,go (by omega),fin,?_⟩
   simp [phi,O.ren,C.ren,u8R]
  ·have c1i:¬ (i:Int)<(a.size:Int):=by omega
   by_cases c2:i<b.size
   ·have c2i:(i:Int)<(b.size:Int):=by omega
    simp -implicitDefEqProofs (disch:=omega) [gz,c1,c1i,c2,c2i,wrap64,s2,ga,gb,hni,hsi,hdi,hws,elems,tC,maxLen47,fillR]
    repeat' with_reducible apply And.intro
    all_goals first | omega | kernel_rfl | skip
    subst hJ
    refine wk_nil [2] [0,1,5,6,7] rfl ⟨M+1-(i+1),by omega,i+1,d,out ++ [UInt8.ofNat s],by omega,rfl,by simp [hol],hdl,go (by omega),fin,?_⟩
    simp [phi,O.ren,C.ren,u8R]
   ·have c2i:¬ (i:Int)<(b.size:Int):=by omega
    by_cases c3:0<c
    ·have c3i:(0:Int)<(c:Int):=by omega
     have hiM:i≠M+1:=fun e=>by have:=hcM e; omega
     simp -implicitDefEqProofs (disch:=omega) [gz,c1,c1i,c2,c2i,c3,c3i,wrap64,s2,ga,gb,hni,hsi,hdi,hws,elems,tC,maxLen47,fillR]
     repeat' with_reducible apply And.intro
     all_goals first | omega | kernel_rfl | skip
     subst hJ
     refine wk_nil [2] [0,1,5,6,7] rfl ⟨M+1-(i+1),by omega,i+1,d,out ++ [UInt8.ofNat s],by omega,rfl,by simp [hol],hdl,go (by omega),fin,?_⟩
     simp [phi,O.ren,C.ren,u8R]
    ·have c0:c=0:=by omega
     subst c0
     simp -implicitDefEqProofs (disch:=omega) [gz,c1,c1i,c2,c2i]
     subst hL
     rw [pv_all (by omega),pv_all (by omega)] at hval
     exact ⟨out,by omega,by omega,at_mk (by simp) rfl⟩
 ·rintro _ ⟨out,hol,hval,sl,rfl⟩
  have tC:(out.map u8R).take out.length=out.map u8R:=List.take_of_length_le (by simp)
  have g3:=xg1149 ⟨out.toArray⟩ (by show out.toArray.size<_; simp; omega)
  have hv:nV ⟨out.toArray⟩=nV a+nV b:=by
   show Nv.valB out.toArray.toList=_
   rw [List.toList_toArray]; exact hval
  rw [hv,← hR] at g3
  simp -implicitDefEqProofs (disch:=omega) [gz,wrap64,elems,tC,bytR_u8,s3,g3]
  exact fin_nil ⟨rfl,rfl⟩
def x1153:XE:=mkX true (fun (p:ByteArray×ByteArray)=>[.c (.v (.string p.1)),.c (.v (.string p.2))]) (fun p=>p.1.size<1099511627776∧p.2.size<1099511627776) (fun p=>.str (nB (nV p.1+nV p.2)))
theorem kx1153:Contract prog G0 137 x1153:=mkX_scal (fun _=>rfl) fun p h=>k1153 p.1 p.2 h.1 h.2
theorem xg1153 (a b:ByteArray) (ha:a.size<1099511627776) (hb:b.size<1099511627776):x1153.g [.c (.v (.string a)),.c (.v (.string b))]=some (True,.str (nB (nV a+nV b))):=mkX_g inj2s (a,b) ⟨ha,hb⟩
theorem k138 (a b:ByteArray) (ha:a.size<1099511627776) (hb:b.size<1099511627776):ACalls prog G0 138 [Sx a,Sx b] [] fun t H=>t=subT (nV a) (nV b)∧H=[]:=by
 unfold subT
 by_cases c:nV a<nV b
 ·rw [if_pos c]
  have s1:x1150.sc=true:=rfl
  have g1:=xg1150 a b (by omega) (by omega)
  have hc:cmpN (nV a) (nV b)<0:=by unfold cmpN; rw [if_pos c]; omega
  refine acallsX (X:=[(160,x1150)]) ⟨kx1150,trivial⟩ tab hmix func138 c1152 (by rfl) fun hw=>?_
  simp -implicitDefEqProofs (disch:=omega) [gz,ir1152,b1152,wrap64,s1,g1,hc,fillR]
  exact fin_nil ⟨rfl,rfl⟩
 ·rw [if_neg c]
  exact k1152 a b ha hb (by omega)
def x138:XE:=mkX true (fun (p:ByteArray×ByteArray)=>[.c (.v (.string p.1)),.c (.v (.string p.2))]) (fun p=>p.1.size<1099511627776∧p.2.size<1099511627776) (fun p=>subT (nV p.1) (nV p.2))
theorem kx138:Contract prog G0 138 x138:=mkX_scal (fun _=>subT_sc _ _) fun p h=>k138 p.1 p.2 h.1 h.2
theorem xg138 (a b:ByteArray) (ha:a.size<1099511627776) (hb:b.size<1099511627776):x138.g [.c (.v (.string a)),.c (.v (.string b))]=some (True,subT (nV a) (nV b)):=mkX_g inj2s (a,b) ⟨ha,hb⟩
theorem k1133 (a b:Int) (ha:(zm a).size<3000000000) (hb:(zm b).size<3000000000) (hab:(zm (a+b)).size<549755813888):ACalls prog G0 96 [zV a,zV b] [] fun t H=>t = .v (zV (a+b))∧H=[]:=by
 have s2:x1129.sc=true:=rfl
 have s3:x1153.sc=true:=rfl
 have s4:x138.sc=true:=rfl
 refine acallsX (X:=[(134,x1129),(137,x1153),(138,x138)]) ⟨kx1129,kx1153,kx138,trivial⟩ tab hmix func96 c1133 (by rfl) fun hw=>?_
 have g3:=xg1153 (zm a) (zm b) (by omega) (by omega)
 have g5:=xg138 (zm a) (zm b) (by omega) (by omega)
 have g6:=xg138 (zm b) (zm a) (by omega) (by omega)
 rw [zm_val,zm_val] at g3 g5 g6
 obtain ⟨r,hr⟩:∃ r,r=a+b:=⟨_,rfl⟩
 rw [← hr] at hab
 by_cases c:zn a=zn b
 ·have e:nB (a.natAbs+b.natAbs)=zm r:=by
   unfold zm; rw [hr]; congr 1
   unfold zn at c
   have:=decide_eq_decide.1 c
   omega
  rw [e] at g3
  have g4:=rfOf (zn a) (zm r) r rfl (by
   unfold zn at c ⊢
   have:=decide_eq_decide.1 c
   by_cases q:r=0
   ·exact .inl q
   ·right
    exact decide_eq_decide.2 (by omega)) hab
  rw [← hr]
  rw [c] at g4
  simp -implicitDefEqProofs (disch:=omega) [gz,ir1133,b1133,c,s2,s3,g3,g4,fillC,splice]
  repeat' with_reducible apply And.intro
  all_goals first|omega|kernel_rfl|exact fun _ _=>rfl|skip
  exact fin_nil ⟨rfl,rfl⟩
 ·have hab':(a<0)↔¬ (b<0):=by
   unfold zn at c
   by_cases q:a<0 <;> by_cases q':b<0 <;> simp [q,q'] at c ⊢
  unfold subT at g5 g6
  by_cases lt:a.natAbs<b.natAbs
  ·rw [if_pos lt] at g5
   rw [if_neg (by omega)] at g6
   have e:nB (b.natAbs-a.natAbs)=zm r:=by
    unfold zm; rw [hr]; congr 1; omega
   rw [e] at g6
   have g4:=rfOf (zn b) (zm r) r rfl (by
    right; unfold zn
    exact decide_eq_decide.2 (by omega)) hab
   rw [← hr]
   simp -implicitDefEqProofs (disch:=omega) [gz,ir1133,b1133,c,s2,s4,g5,g6,g4,fillC,splice]
   repeat' with_reducible apply And.intro
   all_goals first|omega|kernel_rfl|exact fun _ _=>rfl|skip
   exact fin_nil ⟨rfl,rfl⟩
  ·rw [if_neg lt] at g5
   have e:nB (a.natAbs-b.natAbs)=zm r:=by
    unfold zm; rw [hr]; congr 1; omega
   rw [e] at g5
   have g4:=rfOf (zn a) (zm r) r rfl (by
    unfold zn
    by_cases q:r=0
    ·exact .inl q
    ·right
     exact decide_eq_decide.2 (by omega)) hab
   rw [← hr]
   simp -implicitDefEqProofs (disch:=omega) [gz,ir1133,b1133,c,s2,s4,g5,g4,fillC,splice]
   repeat' with_reducible apply And.intro
   all_goals first|omega|kernel_rfl|exact fun _ _=>rfl|skip
   exact fin_nil ⟨rfl,rfl⟩
def x1133:XE:=mkX true (fun (p:Int×Int)=>[zQ p.1,zQ p.2]) (fun p=>(zm p.1).size<3000000000∧(zm p.2).size<3000000000∧(zm (p.1+p.2)).size<549755813888) (fun p=>.v (zV (p.1+p.2)))
theorem kx1133:Contract prog G0 96 x1133:=mkX_scal (fun _=>rfl) fun p h=>k1133 p.1 p.2 h.1 h.2.1 h.2.2
theorem xg1133 (a b:Int) (ha:(zm a).size<3000000000) (hb:(zm b).size<3000000000) (hab:(zm (a+b)).size<549755813888):x1133.g [zQ a,zQ b]=some (True,.v (zV (a+b))):=mkX_g injZZ (a,b) ⟨ha,hb,hab⟩
theorem rfAb (x:Nv.Rt) (h:OkQ x):x1101.g [ratP x]=some (True,.v (zV (rn x))):=(xg1101 x (by have:=h.n; omega)).trans (by rw [iV_z]; rfl)
theorem rfBe (x:Nv.Rt) (h:OkQ x):x1102.g [ratP x]=some (True,.v (zV (rd x))):=(xg1102 x (by have:=h.d; omega)).trans (by rw [iV_z]; rfl)
theorem rfMk (p q:Int) (hp:(zm p).size<4000000000) (hq:(zm q).size<4000000000) (h0:0<q):x1100.g [zQ p,zQ q]=some (True,.tup [ratV (Nv.mkI p q.natAbs),.c (.d (.v (.bool true)))]):=by
 have h1:=xgMake p q hp hq
 have h2:=xg1118 (zn p) (zn q) (zm p) (zm q) hp hq
 have h3:=xg1100 (zn p) (zn q) (zm p) (zm q) hp hq
 have e:some (True,makeT (zn p) (zn q) (nV (zm p)) (nV (zm q)))=some (True,mkZ p q):=h2.symm.trans h1
 injection e with e
 injection e with _ e
 rw [e] at h3
 refine h3.trans ?_
 unfold mkZ
 have hs:sgZ q=1:=by unfold sgZ; rw [if_neg (by omega),if_neg (by omega)]
 rw [if_neg (by omega),hs,Int.mul_one]
theorem k2095 (x:Nv.Rt) (h:OkQ x):ACalls prog G0 95 [ratV x] [] fun t H=>t = .v (ratV (negR x))∧H=[]:=by
 have s1:x1101.sc=true:=rfl
 have s2:x1102.sc=true:=rfl
 have s3:x1154.sc=true:=rfl
 have s4:x1100.sc=true:=rfl
 have g1:=rfAb x h
 have g2:=rfBe x h
 have r1:=rn_size x
 have r2:=rd_size x
 have r3:=rd_pos x
 have hn:=h.n
 have hd':=h.d
 have g3:=xg1154 (rn x) (by omega)
 have g4:=rfMk (-(rn x)) (rd x) (by rw [zm_neg]; omega) (by omega) r3
 refine acallsX (X:=[(90,x1101),(91,x1102),(136,x1154),(89,x1100)]) ⟨kx1101,kx1102,kx1154,kx1100,trivial⟩ tab hmix func95 c2095 (by rfl) fun hw=>?_
 rw [show Nv.mkI (-(rn x)) (rd x).natAbs=negR x from rfl] at g4
 obtain ⟨y,hy⟩:∃ y,y=negR x:=⟨_,rfl⟩
 rw [← hy] at g4 ⊢
 obtain ⟨a,ha⟩:∃ a,a=rn x:=⟨_,rfl⟩
 obtain ⟨b,hb⟩:∃ b,b=rd x:=⟨_,rfl⟩
 rw [← ha] at g1 g3 g4
 rw [← hb] at g2 g4
 obtain ⟨c,hc⟩:∃ c,c = -a:=⟨_,rfl⟩
 rw [← hc] at g3 g4
 simp -implicitDefEqProofs (disch:=omega) [gz,ir2095,b2095,s1,g1,s2,g2,s3,g3,s4,g4,fillC,splice]
 repeat' with_reducible apply And.intro
 all_goals first|omega|kernel_rfl|exact fun _ _=>rfl|skip
 exact fin_nil ⟨rfl,rfl⟩
def x2095:XE:=mkX true (fun (x:Nv.Rt)=>[ratP x]) OkQ (fun x=>.v (ratV (negR x)))
theorem kx2095:Contract prog G0 95 x2095:=mkX_scal (fun _=>rfl) fun x h=>k2095 x h
theorem xg2095 (x:Nv.Rt) (h:OkQ x):x2095.g [ratP x]=some (True,.v (ratV (negR x))):=mkX_g injRat x h
theorem k2058 (x y:Nv.Rt) (hx:OkQ x) (hy:OkQ y):ACalls prog G0 58 [ratV x,ratV y] [] fun t H=>t = .v (ratV (addR x y))∧H=[]:=by
 have s1:x1101.sc=true:=rfl
 have s1':x1102.sc=true:=rfl
 have s2:x2097.sc=true:=rfl
 have s3:x1133.sc=true:=rfl
 have s4:x1100.sc=true:=rfl
 have g1:=rfAb x hx
 have g1':=rfBe x hx
 have g2:=rfAb y hy
 have g2':=rfBe y hy
 have q1:=rn_size x
 have q2:=rd_size x
 have q3:=rn_size y
 have q4:=rd_size y
 obtain ⟨p1,p2⟩:=hx
 obtain ⟨p3,p4⟩:=hy
 have m1:=zm_mul (rn x) (rd y)
 have m2:=zm_mul (rn y) (rd x)
 have m3:=zm_mul (rd x) (rd y)
 have m4:=zm_add (rn x*rd y) (rn y*rd x)
 have g3:=xg2097 (rn x) (rd y) (by omega) (by omega) (by omega)
 have g4:=xg2097 (rn y) (rd x) (by omega) (by omega) (by omega)
 have g6:=xg2097 (rd x) (rd y) (by omega) (by omega) (by omega)
 have g5:=xg1133 (rn x*rd y) (rn y*rd x) (by omega) (by omega) (by omega)
 have g7:=rfMk (rn x*rd y+rn y*rd x) (rd x*rd y) (by omega) (by omega) (Int.mul_pos (rd_pos x) (rd_pos y))
 refine acallsX (X:=[(90,x1101),(91,x1102),(97,x2097),(96,x1133),(89,x1100)]) ⟨kx1101,kx1102,kx2097,kx1133,kx1100,trivial⟩ tab hmix func58 c2058 (by rfl) fun hw=>?_
 rw [show Nv.mkI (rn x*rd y+rn y*rd x) (rd x*rd y).natAbs=addR x y from rfl] at g7
 obtain ⟨r,hr⟩:∃ r,r=addR x y:=⟨_,rfl⟩
 rw [← hr] at g7 ⊢
 obtain ⟨u,hu⟩:∃ u,u=rn x*rd y:=⟨_,rfl⟩
 obtain ⟨v,hv⟩:∃ v,v=rn y*rd x:=⟨_,rfl⟩
 obtain ⟨w,hw'⟩:∃ w,w=rd x*rd y:=⟨_,rfl⟩
 rw [← hu] at g3 g5 g7
 rw [← hv] at g4 g5 g7
 rw [← hw'] at g6 g7
 obtain ⟨s,hs⟩:∃ s,s=u+v:=⟨_,rfl⟩
 rw [← hs] at g5 g7
 obtain ⟨a,ha⟩:∃ a,a=rn x:=⟨_,rfl⟩
 obtain ⟨b,hb⟩:∃ b,b=rd x:=⟨_,rfl⟩
 obtain ⟨c,hc⟩:∃ c,c=rn y:=⟨_,rfl⟩
 obtain ⟨d,hd⟩:∃ d,d=rd y:=⟨_,rfl⟩
 rw [← ha] at g1 g3
 rw [← hb] at g1' g4 g6
 rw [← hc] at g2 g4
 rw [← hd] at g2' g3 g6
 simp -implicitDefEqProofs (disch:=omega) [gz,ir2058,b2058,s1,s1',g1,g1',g2,g2',s2,g3,g4,g6,s3,g5,s4,g7,fillC,splice]
 repeat' with_reducible apply And.intro
 all_goals first|omega|kernel_rfl|exact fun _ _=>rfl|skip
 exact fin_nil ⟨rfl,rfl⟩
def x2058:XE:=mkX true (fun (p:Nv.Rt×Nv.Rt)=>[ratP p.1,ratP p.2]) (fun p=>OkQ p.1∧OkQ p.2) (fun p=>.v (ratV (addR p.1 p.2)))
theorem kx2058:Contract prog G0 58 x2058:=mkX_scal (fun _=>rfl) fun p h=>k2058 p.1 p.2 h.1 h.2
theorem xg2058 (x y:Nv.Rt) (hx:OkQ x) (hy:OkQ y):x2058.g [ratP x,ratP y]=some (True,.v (ratV (addR x y))):=mkX_g injRR (x,y) ⟨hx,hy⟩
theorem k2057 (x y:Nv.Rt) (hx:OkQ x) (hy:OkQ y) (hy2:y.den.size<90000000):ACalls prog G0 57 [ratV x,ratV y] [] fun t H=>t = .v (ratV (subR x y))∧H=[]:=by
 have s1:x2095.sc=true:=rfl
 have s2:x2058.sc=true:=rfl
 have g1:=xg2095 y hy
 obtain ⟨n1,n2⟩:=neg_size y
 have g2:=xg2058 x (negR y) hx ⟨by have:=hy.n; omega,by omega⟩
 refine acallsX (X:=[(95,x2095),(58,x2058)]) ⟨kx2095,kx2058,trivial⟩ tab hmix func57 c2057 (by rfl) fun hw=>?_
 rw [show addR x (negR y)=subR x y from rfl] at g2
 obtain ⟨r,hr⟩:∃ r,r=subR x y:=⟨_,rfl⟩
 rw [← hr] at g2 ⊢
 obtain ⟨z,hz⟩:∃ z,z=negR y:=⟨_,rfl⟩
 rw [← hz] at g1 g2
 simp -implicitDefEqProofs (disch:=omega) [gz,ir2057,b2057,s1,g1,s2,g2,fillC,splice]
 repeat' with_reducible apply And.intro
 all_goals first|omega|kernel_rfl|exact fun _ _=>rfl|skip
 exact fin_nil ⟨rfl,rfl⟩
def x2057:XE:=mkX true (fun (p:Nv.Rt×Nv.Rt)=>[ratP p.1,ratP p.2]) (fun p=>OkQ p.1∧OkQ p.2∧p.2.den.size<90000000) (fun p=>.v (ratV (subR p.1 p.2)))
theorem kx2057:Contract prog G0 57 x2057:=mkX_scal (fun _=>rfl) fun p h=>k2057 p.1 p.2 h.1 h.2.1 h.2.2
theorem xg2057 (x y:Nv.Rt) (hx:OkQ x) (hy:OkQ y) (hy2:y.den.size<90000000):x2057.g [ratP x,ratP y]=some (True,.v (ratV (subR x y))):=mkX_g injRR (x,y) ⟨hx,hy,hy2⟩
theorem sgZ_mulP {z k:Int} (hk:0<k):sgZ (z*k)=sgZ z:=by
 unfold sgZ
 by_cases h:z=0
 ·subst h; simp
 ·by_cases q:z<0
  ·have:=Int.mul_neg_of_neg_of_pos q hk
   rw [if_neg (by omega),if_pos this,if_neg h,if_pos q]
  ·have:=Int.mul_pos (show 0<z by omega) hk
   rw [if_neg (by omega),if_neg (by omega),if_neg h,if_neg q]
theorem sg_mkI {z:Int} {b:Nat} (hb:0<b):sgZ (rn (Nv.mkI z b))=sgZ z:=by
 have h:=Nv.numI_mk (z:=z) hb
 have h1:sgZ (rn (Nv.mkI z b)*(b:Int))=sgZ (rn (Nv.mkI z b)):=sgZ_mulP (by omega)
 have h2:sgZ (z*rd (Nv.mkI z b))=sgZ z:=sgZ_mulP (rd_pos _)
 rw [← h1,← h2]
 exact congrArg sgZ h
theorem sg_sub (x y:Nv.Rt):sgZ (rn (subR x y))=cmpR x y:=by
 obtain ⟨n,hn⟩:∃ n,n=negR y:=⟨_,rfl⟩
 have hx:=rd_pos x
 have hy:=rd_pos y
 have h0:=rd_pos n
 have h:=Nv.numI_mk (z:=-(rn y)) (b:=(rd y).natAbs) (by omega)
 have h':rn n*rd y = -(rn y)*rd n:=by
  rw [hn]
  have e:(((rd y).natAbs:Nat):Int)=rd y:=by omega
  rw [e] at h
  exact h
 have e1:subR x y=Nv.mkI (rn x*rd n+rn n*rd x) (rd x*rd n).natAbs:=by rw [hn]; rfl
 have hp:=Int.mul_pos hx h0
 rw [e1,sg_mkI (by omega),← sgZ_mulP (z:=rn x*rd n+rn n*rd x) hy]
 unfold cmpR
 rw [← sgZ_mulP (z:=rn x*rd y-rn y*rd x) h0]
 congr 1
 rw [Int.add_mul,Int.mul_right_comm (rn n) (rd x) (rd y),h',Int.sub_mul,Int.mul_right_comm (rn x) (rd n) (rd y),Int.neg_mul,Int.neg_mul,Int.mul_right_comm (rn y) (rd n) (rd x)]
 omega
theorem sub_ok {x y:Nv.Rt} (x1:x.num.size<10000000) (x2:x.den.size<10000000) (y1:y.num.size<10000000) (y2:y.den.size<10000000):OkQ (subR x y):=by
 obtain ⟨n1,n2⟩:=neg_size y
 have q1:=rn_size x
 have q2:=rd_size x
 have q3:=rn_size (negR y)
 have q4:=rd_size (negR y)
 have m1:=zm_mul (rn x) (rd (negR y))
 have m2:=zm_mul (rn (negR y)) (rd x)
 have m3:=zm_mul (rd x) (rd (negR y))
 have m4:=zm_add (rn x*rd (negR y)) (rn (negR y)*rd x)
 have a1:=mkI_num (rn x*rd (negR y)+rn (negR y)*rd x) (rd x*rd (negR y)).natAbs
 have a2:=mkI_den (rn x*rd (negR y)+rn (negR y)*rd x) (rd x*rd (negR y)).natAbs
 have e:nB (rd x*rd (negR y)).natAbs=zm (rd x*rd (negR y)):=rfl
 rw [e] at a2
 exact ⟨Nat.lt_of_le_of_lt a1 (by omega),Nat.lt_of_le_of_lt a2 (by omega)⟩
structure OkS (x:Nv.Rt):Prop where
 n:x.num.size<10000000
 d:x.den.size<10000000
theorem k2059 (x y:Nv.Rt) (hx:OkS x) (hy:OkS y):ACalls prog G0 59 [ratV x,ratV y] [] fun t H=>t = .int .i64 (cmpR x y)∧H=[]:=by
 have s1:x2057.sc=true:=rfl
 have s2:x2098.sc=true:=rfl
 obtain ⟨x1,x2⟩:=hx
 obtain ⟨y1,y2⟩:=hy
 have g1:=xg2057 x y ⟨by omega,by omega⟩ ⟨by omega,by omega⟩ (by omega)
 have g2:=xg2098 (subR x y) (sub_ok x1 x2 y1 y2)
 rw [sg_sub] at g2
 refine acallsX (X:=[(57,x2057),(98,x2098)]) ⟨kx2057,kx2098,trivial⟩ tab hmix func59 c2059 (by rfl) fun hw=>?_
 obtain ⟨r,hr⟩:∃ r,r=subR x y:=⟨_,rfl⟩
 rw [← hr] at g1 g2
 simp -implicitDefEqProofs (disch:=omega) [gz,ir2059,b2059,s1,g1,s2,g2,fillC,splice]
 repeat' with_reducible apply And.intro
 all_goals first|omega|kernel_rfl|exact fun _ _=>rfl|skip
 exact fin_nil ⟨rfl,rfl⟩
def x2059:XE:=mkX true (fun (p:Nv.Rt×Nv.Rt)=>[ratP p.1,ratP p.2]) (fun p=>OkS p.1∧OkS p.2) (fun p=>.int .i64 (cmpR p.1 p.2))
theorem kx2059:Contract prog G0 59 x2059:=mkX_scal (fun _=>rfl) fun p h=>k2059 p.1 p.2 h.1 h.2
theorem xg2059 (x y:Nv.Rt) (hx:OkS x) (hy:OkS y):x2059.g [ratP x,ratP y]=some (True,.int .i64 (cmpR x y)):=mkX_g injRR (x,y) ⟨hx,hy⟩
def ahB (a b:TN):Bool:=if cmpR a.pl b.pl≠0 then decide (cmpR a.pl b.pl<0) else lessB a.node b.node
theorem k2088 (a b:TN) (ha:OkS a.pl) (hb:OkS b.pl):ACalls prog G0 88 [.agg (a.row.map .d),.agg (b.row.map .d)] [] fun t H=>t = .bool (ahB a b)∧H=[]:=by
 have s1:x2059.sc=true:=rfl
 have s2:x2047.sc=true:=rfl
 have g1:=xg2059 a.pl b.pl ha hb
 have g2:=xg2047 a.node b.node
 have irw':∀ x:Id,x.row=[.v (.string x.a),.v (.int .i64 x.n)]:=fun _=>rfl
 rw [irw',irw'] at g2
 unfold ahB
 obtain ⟨z,hz⟩:∃ z,z=cmpR a.pl b.pl:=⟨_,rfl⟩
 obtain ⟨L,hL⟩:∃ L,L=lessB a.node b.node:=⟨_,rfl⟩
 rw [← hz] at g1 ⊢
 rw [← hL] at g2 ⊢
 refine acallsX (X:=[(59,x2059),(47,x2047)]) ⟨kx2059,kx2047,trivial⟩ tab hmix func88 c2088 (by rfl) fun hw=>?_
 by_cases c:z=0
 ·rw [if_neg (by simp [c])]
  simp -implicitDefEqProofs (disch:=omega) [gz,ir2088,b2088,trw,s1,g1,c,s2,g2,fillC,splice]
  exact fin_nil ⟨rfl,rfl⟩
 ·rw [if_pos c]
  by_cases q:z<0
  ·rw [decide_eq_true q]
   simp -implicitDefEqProofs (disch:=omega) [gz,ir2088,b2088,trw,s1,g1,c,q,s2,g2,fillC,splice]
   exact fin_nil ⟨rfl,rfl⟩
  ·rw [decide_eq_false q]
   simp -implicitDefEqProofs (disch:=omega) [gz,ir2088,b2088,trw,s1,g1,c,q,s2,g2,fillC,splice]
   exact fin_nil ⟨rfl,rfl⟩
theorem injTT2 (a b:TN×TN) (h:[PVo.agg a.1.row,PVo.agg a.2.row]=[PVo.agg b.1.row,PVo.agg b.2.row]):a=b:=by
 simp only [List.cons.injEq,PVo.agg.injEq,and_true] at h
 exact Prod.ext (TN.row_inj h.1) (TN.row_inj h.2)
def x2088:XE:=mkX true (fun (p:TN×TN)=>[.agg p.1.row,.agg p.2.row]) (fun p=>OkS p.1.pl∧OkS p.2.pl) (fun p=>.bool (ahB p.1 p.2))
theorem kx2088:Contract prog G0 88 x2088:=mkX_scal (fun _=>rfl) fun p h=>k2088 p.1 p.2 h.1 h.2
theorem xg2088 (a b:TN) (ha:OkS a.pl) (hb:OkS b.pl):x2088.g [.agg a.row,.agg b.row]=some (True,.bool (ahB a b)):=mkX_g injTT2 (a,b) ⟨ha,hb⟩
abbrev kys (m:Spots):List Id:=m.map Prod.fst
theorem alook_of_mem {m:Spots} (hn:(kys m).Nodup) {x:Id} {t:TN} (h:(x,t)∈m):alook m x=some t:=by
 induction m with
 | nil=>cases h
 | cons p m ih =>
  obtain ⟨k,v⟩:=p
  simp only [kys,List.map_cons,List.nodup_cons] at hn
  simp only [alook]
  rcases List.mem_cons.1 h with q | q
  ·injection q with q1 q2
   subst q1; subst q2; simp
  ·have:¬ k=x:=fun e=>hn.1 (by rw [e]; exact List.mem_map_of_mem (f:=Prod.fst) q)
   rw [if_neg this]
   exact ih hn.2 q
theorem alook_iff {m:Spots} (hn:(kys m).Nodup) {x:Id} {t:TN}:alook m x=some t↔(x,t)∈m:=⟨alook_pair,alook_of_mem hn⟩
theorem alook_perm {m m':Spots} (h:m.Perm m') (hn:(kys m).Nodup) (x:Id):alook m x=alook m' x:=by
 have hn':(kys m').Nodup:=(h.map Prod.fst).nodup_iff.1 hn
 cases q:alook m x with
 | some t=>exact ((alook_iff hn').2 (h.mem_iff.1 ((alook_iff hn).1 q))).symm
 | none =>
  cases q':alook m' x with
  | none=>rfl
  | some t=>rw [(alook_iff hn).2 (h.mem_iff.2 ((alook_iff hn').1 q'))] at q; cases q
theorem alook_none {m:Spots} {x:Id}:alook m x=none↔x ∉ kys m:=by
 induction m with
 | nil=>simp [alook]
 | cons p m ih =>
  obtain ⟨k,v⟩:=p
  simp only [alook,kys,List.map_cons,List.mem_cons,not_or]
  by_cases q:k=x
  ·subst q; simp
  ·rw [if_neg q,ih]
   exact ⟨fun h=>⟨fun e=>q e.symm,h⟩,fun h=>h.2⟩
theorem aput_form {m:Spots} (hn:(kys m).Nodup) (x:Id) (t:TN):(aput m x t).Perm ((x,t) :: m.filter fun p=>decide (p.1≠x)):=by
 induction m with
 | nil=>exact List.Perm.refl _
 | cons p m ih =>
  obtain ⟨k,v⟩:=p
  simp only [kys,List.map_cons,List.nodup_cons] at hn
  simp only [aput]
  by_cases q:k=x
  ·subst q
   rw [if_pos rfl,List.filter_cons_of_neg (by simp)]
   refine List.Perm.cons _ ?_
   rw [List.filter_eq_self.2]
   intro a ha
   simp only [decide_eq_true_eq]
   exact fun e=>hn.1 (by rw [← e]; exact List.mem_map_of_mem (f:=Prod.fst) ha)
  ·rw [if_neg q,List.filter_cons_of_pos (by simp [q])]
   exact ((ih hn.2).cons _).trans (List.Perm.swap _ _ _)
theorem aput_perm {m m':Spots} (h:m.Perm m') (hn:(kys m).Nodup) (x:Id) (t:TN):(aput m x t).Perm (aput m' x t):=by
 have hn':(kys m').Nodup:=(h.map Prod.fst).nodup_iff.1 hn
 exact (aput_form hn x t).trans (((h.filter _).cons _).trans (aput_form hn' x t).symm)
theorem climb_perm {m m':Spots} (h:∀ x,alook m x=alook m' x) (top:Id):∀ (n:Nat) (ms:List Id) (x:Id),climbF n m ms x top=climbF n m' ms x top:=by
 intro n
 induction n with
 | zero=>intro ms x; rfl
 | succ n ih =>
  intro ms x
  simp only [climbF,h x]
  split
  ·rfl
  ·split
   ·rfl
   ·split
    ·rfl
    ·exact ih _ _
theorem stepM_perm {m m':Spots} (h:m.Perm m') (ho:OkM m) (e:Edit):(stepM m e).Perm (stepM m' e):=by
 have ha:=alook_perm h ho.nd
 have hp:parB m e=parB m' e:=by unfold parB; rw [ha]
 have hu:undF m e.parent e.node=undF m' e.parent e.node:=by unfold undF; rw [h.length_eq]; exact climb_perm ha _ _ _ _
 unfold stepM
 rw [hp,hu,ha e.id,ha e.node]
 split
 ·split
  ·exact aput_perm h ho.nd _ _
  ·exact h
 ·split
  ·split
   ·split
    ·exact aput_perm h ho.nd _ _
    ·exact h
   ·exact h
  ·exact h
theorem runM_perm (es:List Edit):∀ {m m':Spots},m.Perm m'→OkM m→(runM m es).Perm (runM m' es):=by
 unfold runM
 induction es with
 | nil=>intro m m' h _; exact h
 | cons e es ih=>intro m m' h ho; exact ih (stepM_perm h ho e) (stepM_ok ho e)
theorem okM_perm {m m':Spots} (h:m.Perm m') (ho:OkM m):OkM m':=⟨fun p hp=>ho.key p (h.mem_iff.2 hp),(h.map Prod.fst).nodup_iff.1 ho.nd⟩
theorem vals_nodup {m:Spots} (ho:OkM m):((m.map Prod.snd).map TN.node).Nodup:=by
 have:(m.map Prod.snd).map TN.node=m.map Prod.fst:=by
  rw [List.map_map]
  exact List.map_congr_left fun p hp=>ho.key p hp
 rw [this]; exact ho.nd
theorem aput_absent {m:Spots} {x:Id} {t:TN} (h:x ∉ kys m):aput m x t=m ++ [(x,t)]:=by
 induction m with
 | nil=>rfl
 | cons p m ih =>
  obtain ⟨k,v⟩:=p
  simp only [kys,List.map_cons,List.mem_cons,not_or] at h
  simp only [aput]
  rw [if_neg (fun e=>h.1 e.symm),ih h.2]; rfl
theorem addM_nodup {l:List TN} (hn:(l.map TN.node).Nodup):addM l=l.map fun t=>(t.node,t):=by
 have:∀ (l:List TN) (m:Spots),(kys m ++ l.map TN.node).Nodup→l.foldl (fun m t=>aput m t.node t) m=m ++ l.map fun t=>(t.node,t):=by
  intro l
  induction l with
  | nil=>intro m _; simp
  | cons t l ih =>
   intro m h
   have hx:t.node ∉ kys m:=fun q=>by
    rw [List.nodup_append] at h
    exact h.2.2 _ q t.node (by simp) rfl
   rw [List.foldl_cons,aput_absent hx,ih]
   ·simp
   ·rw [show kys (m ++ [(t.node,t)])=kys m ++ [t.node] by simp [kys],List.append_assoc]; exact h
 have h:=this l [] (by simpa using hn)
 simpa [addM] using h
theorem pairs_vals {m:Spots} (ho:OkM m):((m.map Prod.snd).map fun t=>(t.node,t))=m:=by
 rw [List.map_map]
 refine (List.map_congr_left fun p hp=>?_).trans (List.map_id m)
 show (p.2.node,p.2)=p
 rw [ho.key p hp]
theorem app_nodup (l:List TN) (es:List Edit):((appF l es).map TN.node).Nodup :=
 ((ssort_perm cmpN' _).map TN.node).nodup_iff.2 (vals_nodup (runM_ok (addM_ok l) es))
theorem addM_app (l:List TN) (es:List Edit):(addM (appF l es)).Perm (runM (addM l) es):=by
 rw [addM_nodup (app_nodup l es)]
 have h:=(ssort_perm cmpN' ((runM (addM l) es).map Prod.snd)).map fun t:TN=>(t.node,t)
 rw [pairs_vals (runM_ok (addM_ok l) es)] at h
 exact h
theorem ssort_self {l:List TN} (h:(l.map TN.node).Nodup) (hs:Srt cmpN' l):ssort cmpN' l=l:=by
 have n1:((ssort cmpN' l).map TN.node).Nodup:=((ssort_perm cmpN' l).map TN.node).nodup_iff.2 h
 refine pw_ext (R:=fun a b=>cmpN' a b<0) (fun a b h1 h2=>?_) (fun a h=>?_) (sort_strict n1 (ssort_srt cmpN_pre l)) (sort_strict h hs) fun x=>?_
 ·have:=cmpN_pre.sgn a b; omega
 ·have:=cmpN_pre.rf a; omega
 ·rw [(ssort_perm cmpN' l).mem_iff]
inductive Outs (l:List TN):List Id→Prop where
 | nil:Outs l []
 | snoc {o:List Id} {y:Id} (h:Outs l o) (hn:y ∉ o) (hr:y≠rootI) (t:TN) (ht:t∈l) (hy:t.node=y) (hp:t.par=rootI∨t.par∈o):Outs l (o ++ [y])
theorem Outs.mem {l:List TN} {o:List Id} (h:Outs l o) {y:Id} (hy:y∈o):∃ t∈l,t.node=y∧y≠rootI∧(t.par=rootI∨t.par∈o):=by
 induction h with
 | nil=>cases hy
 | snoc h hn hr t ht he hp ih =>
  rcases List.mem_append.1 hy with q | q
  ·obtain ⟨t',h1,h2,h3,h4⟩:=ih q
   exact ⟨t',h1,h2,h3,h4.imp_right fun h=>List.mem_append_left _ h⟩
  ·rw [List.mem_singleton.1 q]
   exact ⟨t,ht,he,hr,hp.imp_right fun h=>List.mem_append_left _ h⟩
theorem Outs.nodup {l:List TN} {o:List Id} (h:Outs l o):o.Nodup:=by
 induction h with
 | nil=>exact List.nodup_nil
 | snoc h hn hr t ht he hp ih =>
  rw [List.nodup_append]
  exact ⟨ih,by simp,fun a ha b hb=>by simp at hb; subst hb; exact fun e=>hn (e▸ha)⟩
theorem Outs.before {l:List TN} {o:List Id} (h:Outs l o) (i:Nat) (hi:i<o.length):∃ t∈l,t.node=o[i]∧(t.par=rootI∨t.par∈o.take i):=by
 induction h with
 | nil=>simp at hi
 | @snoc o y h hn hr t ht he hp ih =>
  by_cases q:i<o.length
  ·obtain ⟨t',h1,h2,h3⟩:=ih q
   refine ⟨t',h1,by rw [h2,List.getElem_append_left q],?_⟩
   rw [List.take_append_of_le_length (by omega)]; exact h3
  ·have e:i=o.length:=by simp at hi; omega
   subst e
   refine ⟨t,ht,by simp [he],?_⟩
   rw [List.take_append_of_le_length (by omega),List.take_length]; exact hp
theorem ch_mem {l:List TN} {x y:Id} (h:y∈chF l x):∃ t∈l,t.node=y∧t.par=x:=by
 unfold chF at h
 obtain ⟨t,ht,rfl⟩:=List.mem_map.1 h
 refine ⟨t,sib_sub ht,rfl,?_⟩
 unfold sibF at ht
 have h2:∀ {m:List TN} {t:TN},t∈ssort cmpT m→t∈m:=fun {m}=>by
  induction m with
  | nil=>intro t ht; exact ht
  | cons x m ih =>
   intro t ht
   rcases insF_mem.1 ht with rfl | ht
   ·exact List.mem_cons_self ..
   ·exact List.mem_cons_of_mem _ (ih ht)
 have:=(List.mem_filter.1 (h2 ht)).2
 simpa using this
theorem vis_ok (l:List TN):∀ (n:Nat) (x:Id) (out:List Id),Outs l out→(x=rootI∨x∈out)→Outs l (visF n l x out)∧∀ y∈out,y∈visF n l x out:=by
 intro n
 induction n with
 | zero=>intro x out h _; exact ⟨h,fun y hy=>hy⟩
 | succ n ih =>
  intro x out h hx
  simp only [visF]
  have key:∀ (ys:List Id) (o:List Id),(∀ y∈ys,∃ t∈l,t.node=y∧t.par=x)→Outs l o→(x=rootI∨x∈o) →
    Outs l (ys.foldl (fun o y=>if y∈rootI :: o then o else visF n l y (o ++ [y])) o)∧∀ z∈o,z∈ys.foldl (fun o y=>if y∈rootI :: o then o else visF n l y (o ++ [y])) o:=by
   intro ys
   induction ys with
   | nil=>intro o _ ho _; exact ⟨ho,fun z hz=>hz⟩
   | cons y ys ihy =>
    intro o hys ho hxo
    simp only [List.foldl_cons]
    by_cases q:y∈rootI :: o
    ·rw [if_pos q]
     exact ihy o (fun z hz=>hys z (List.mem_cons_of_mem _ hz)) ho hxo
    ·rw [if_neg q]
     have q1:y≠rootI:=fun e=>q (e▸List.mem_cons_self ..)
     have q2:y ∉ o:=fun e=>q (List.mem_cons_of_mem _ e)
     obtain ⟨t,ht,he,hp⟩:=hys y (List.mem_cons_self ..)
     have hs:Outs l (o ++ [y]):=.snoc ho q2 q1 t ht he (by rw [hp]; exact hxo)
     obtain ⟨k1,k2⟩:=ih y (o ++ [y]) hs (.inr (by simp))
     have hxo':x=rootI∨x∈visF n l y (o ++ [y]):=hxo.imp_right fun h=>k2 _ (List.mem_append_left _ h)
     obtain ⟨m1,m2⟩:=ihy _ (fun z hz=>hys z (List.mem_cons_of_mem _ hz)) k1 hxo'
     exact ⟨m1,fun z hz=>m2 z (k2 z (List.mem_append_left _ hz))⟩
  exact key _ _ (fun y hy=>ch_mem hy) h hx
theorem walk_ok (l:List TN):Outs l (walkF l):=(vis_ok l _ rootI [] .nil (.inl rfl)).1
def cho (m:Spots):Nat→Id→Option Id
 | 0,x=>some x
 | j+1,x=>match alook m x with | none=>none | some t=>cho m j t.par
theorem cho_add (m:Spots):∀ (i j:Nat) (x:Id),cho m (i+j) x=(cho m i x).bind (cho m j)
 | 0,j,x=>by simp [cho]
 | i+1,j,x=>by
  rw [show i+1+j=(i+j)+1 by omega]
  simp only [cho]
  cases alook m x with
  | none=>rfl
  | some t=>exact cho_add m i j t.par
theorem climb_true {m:Spots} {top:Id}:∀ {n:Nat} {ms:List Id} {x:Id},climbF n m ms x top=true→∃ j,cho m j x=some top:=by
 intro n
 induction n with
 | zero=>intro ms x h; simp [climbF] at h
 | succ n ih =>
  intro ms x h
  simp only [climbF] at h
  split at h
  ·rename_i q; exact ⟨0,by rw [q]; rfl⟩
  ·split at h
   ·cases h
   ·rename_i t q
    split at h
    ·cases h
    ·obtain ⟨j,hj⟩:=ih h
     exact ⟨j+1,by simp only [cho,q]; exact hj⟩
structure Tree (m:Spots):Prop where
 ok:OkM m
 no:∀ x∈kys m,x≠rootI∧x≠binI0
 en:∀ x∈kys m,∃ j up,cho m j x=some up∧(up=rootI∨up=binI0)
theorem Tree.up_none {m:Spots} (T:Tree m) {up:Id} (h:up=rootI∨up=binI0):alook m up=none:=by
 rw [alook_none]
 intro q
 rcases h with rfl | rfl
 ·exact (T.no _ q).1 rfl
 ·exact (T.no _ q).2 rfl
theorem Tree.no_cyc {m:Spots} (T:Tree m) {x:Id} (hx:x∈kys m) {p:Nat} (hp:0<p):cho m p x≠some x:=by
 intro hc
 obtain ⟨j,up,hj,hu⟩:=T.en x hx
 have hn:=T.up_none hu
 have key:∀ n j,j≤n→cho m j x=some up→False:=by
  intro n
  induction n with
  | zero =>
   intro j hj0 hj
   have e:j=0:=by omega
   subst e
   simp only [cho,Option.some.injEq] at hj
   subst hj
   rw [alook_none] at hn
   exact hn hx
  | succ n ih =>
   intro j hjn hj
   by_cases q:j<p
   ·have e:p=j+(p-j):=by omega
    rw [e,cho_add,hj] at hc
    obtain ⟨d,hd⟩:∃ d,p-j=d+1:=⟨p-j-1,by omega⟩
    rw [hd] at hc
    simp only [Option.bind_some,cho,hn] at hc
    cases hc
   ·have e:j=p+(j-p):=by omega
    rw [e,cho_add,hc] at hj
    exact ih (j-p) (by omega) hj
 exact key j j (Nat.le_refl _) hj
theorem look_fnd {l:List TN} (hn:(l.map TN.node).Nodup) {x:Id} {k:Nat} (h:fndT l x=some k):alook (addM l) x=some (nth l k):=by
 obtain ⟨h1,h2⟩:=fnd_spec h
 refine alook_of_mem (addM_ok l).nd ?_
 rw [addM_nodup hn]
 exact List.mem_map.2 ⟨nth l k,nth_mem h1,by rw [h2]⟩
theorem bel_true {l:List TN} (hn:(l.map TN.node).Nodup) {up:Id}:∀ {n:Nat} {x:Id},belF n l x up=true→∃ j,cho (addM l) j x=some up:=by
 intro n
 induction n with
 | zero=>intro x h; simp [belF] at h
 | succ n ih =>
  intro x h
  simp only [belF] at h
  split at h
  ·rename_i q; exact ⟨0,by rw [q]; rfl⟩
  ·split at h
   ·rename_i k q
    obtain ⟨j,hj⟩:=ih h
    exact ⟨j+1,by simp only [cho,look_fnd hn q]; exact hj⟩
   ·cases h
theorem lessB_iff (a b:Id):lessB a b=true↔lessZ a b<0:=by
 have e:lessZ a b=orI [cmpA a.a b.a,cmpI a.n b.n]:=rfl
 have l1:=strLt_eq a.a b.a
 have c:=cmpS_eq a.a b.a
 rw [e]
 unfold lessB
 simp only [orI]
 by_cases q:a.a=b.a
 ·have q2:=c.2 q
  rw [if_pos q]
  have:cmpA a.a b.a=0:=by unfold cmpA sg3; rw [q2]; rfl
  rw [if_neg (by omega)]
  unfold cmpI
  simp only [decide_eq_true_eq]
  repeat' split
  all_goals omega
 ·have q2:cmpS a.a b.a≠0:=fun h=>q (c.1 h)
  rw [if_neg q,l1]
  have:cmpA a.a b.a=if cmpS a.a b.a<0 then -1 else 1:=by
   unfold cmpA sg3
   split
   ·rfl
   ·rw [if_pos (by omega)]
  rw [this]
  simp only [decide_eq_true_eq]
  repeat' split
  all_goals omega
theorem chk_parts {l:List TN} (h:chkT l=true) {i:Nat} (hi:i<l.length):chk1 l i=true:=by
 unfold chkT at h
 rw [List.all_eq_true] at h
 exact h i (List.mem_range.2 hi)
theorem pw_chain {l:List TN} (h:∀ i,0<i→i<l.length→cmpN' (nth l (i-1)) (nth l i)<0):∀ i j,i<j→j<l.length→cmpN' (nth l i) (nth l j)<0:=by
 intro i j hij
 induction j with
 | zero=>omega
 | succ j ih =>
  intro hj
  have h1:=h (j+1) (by omega) hj
  rw [show j+1-1=j by omega] at h1
  by_cases q:i=j
  ·subst q; exact h1
  ·have h2:=ih (by omega) (by omega)
   exact cmpN_pre.lt_le h2 (by omega)
theorem chk_less {l:List TN} (h:chkT l=true):l.Pairwise fun a b=>cmpN' a b<0:=by
 rw [List.pairwise_iff_getElem]
 intro i j hi hj hij
 have key:=pw_chain (l:=l) (fun i h0 hi=>by
  have h1:=chk_parts h hi
  unfold chk1 at h1
  simp only [Bool.and_eq_true,Bool.or_eq_true,decide_eq_true_eq] at h1
  rcases h1.2.1 with q | q
  ·omega
  ·exact (lessB_iff _ _).1 q) i j hij hj
 rw [nth_eq hi,nth_eq hj] at key
 exact key
theorem less_nodup {l:List TN} (h:l.Pairwise fun a b=>cmpN' a b<0):(l.map TN.node).Nodup:=by
 rw [List.Nodup,List.pairwise_map]
 refine h.imp fun {a b} h e=>?_
 have:cmpN' a b=cmpN' a a:=by show lessZ a.node b.node=lessZ a.node a.node; rw [e]
 rw [this,cmpN_pre.rf] at h
 omega
theorem less_srt {l:List TN} (h:l.Pairwise fun a b=>cmpN' a b<0):Srt cmpN' l:=h.imp fun {a b} (h:cmpN' a b<0)=>show cmpN' a b≤0 by omega
theorem chk_tree {l:List TN} (h:chkT l=true):Tree (addM l):=by
 have hn:=less_nodup (chk_less h)
 have hk:∀ x∈kys (addM l),∃ i,i<l.length∧(nth l i).node=x:=by
  intro x hx
  rw [addM_nodup hn] at hx
  simp only [kys,List.map_map] at hx
  obtain ⟨t,ht,rfl⟩:=List.mem_map.1 hx
  obtain ⟨i,hi,e⟩:=List.mem_iff_getElem.1 ht
  exact ⟨i,hi,by rw [nth_eq hi,e]; rfl⟩
 refine ⟨addM_ok l,fun x hx=>?_,fun x hx=>?_⟩
 ·obtain ⟨i,hi,rfl⟩:=hk x hx
  have h1:=chk_parts h hi
  unfold chk1 at h1
  simp only [Bool.and_eq_true,Bool.or_eq_true,decide_eq_true_eq] at h1
  have h2:=h1.1.2.1
  constructor
  ·intro e; rw [e] at h2; simp [rootI] at h2
  ·intro e; rw [e] at h2; simp [binI0] at h2
 ·obtain ⟨i,hi,rfl⟩:=hk x hx
  have h1:=chk_parts h hi
  unfold chk1 at h1
  simp only [Bool.and_eq_true,Bool.or_eq_true,decide_eq_true_eq] at h1
  rcases h1.2.2 with q | q
  ·obtain ⟨j,hj⟩:=bel_true hn q
   exact ⟨j,_,hj,.inl rfl⟩
  ·obtain ⟨j,hj⟩:=bel_true hn q
   exact ⟨j,_,hj,.inr rfl⟩
section
variable {m:Spots} {s:TN} {e1 e2:Edit}
end
theorem mem_addM {l:List TN} (hn:(l.map TN.node).Nodup) {t:TN}:t∈l↔(t.node,t)∈addM l:=by
 rw [addM_nodup hn]
 constructor
 ·intro h; exact List.mem_map_of_mem (f:=fun t:TN=>(t.node,t)) h
 ·intro h
  obtain ⟨t',h1,h2⟩:=List.mem_map.1 h
  injection h2 with h2 h3
  rw [← h3]; exact h1
theorem look_keys {m:Spots} {x:Id} {t:TN} (h:alook m x=some t):x∈kys m:=List.mem_map_of_mem (f:=Prod.fst) (alook_pair h)
theorem keys_look {m:Spots} {x:Id} (h:x∈kys m):∃ t,alook m x=some t:=by
 cases q:alook m x with
 | some t=>exact ⟨t,rfl⟩
 | none=>exact absurd h (alook_none.1 q)
theorem cho_mid {m:Spots} {j i:Nat} {x y:Id} (h:cho m j x=some y) (hi:i<j):∃ z,cho m i x=some z∧z∈kys m∧cho m (j-i) z=some y:=by
 have e:j=i+(j-i):=by omega
 rw [e,cho_add] at h
 cases q:cho m i x with
 | none=>rw [q] at h; cases h
 | some z =>
  rw [q] at h
  simp only [Option.bind_some] at h
  refine ⟨z,rfl,?_,h⟩
  obtain ⟨d,hd⟩:∃ d,j-i=d+1:=⟨j-i-1,by omega⟩
  rw [hd] at h
  simp only [cho] at h
  cases q2:alook m z with
  | none=>rw [q2] at h; cases h
  | some t=>exact look_keys q2
theorem Tree.cho_len {m:Spots} (T:Tree m) {x up:Id} {j:Nat} (h:cho m j x=some up):j≤m.length:=by
 have hz:∀ i,i<j→∃ z,cho m i x=some z∧z∈kys m∧cho m (j-i) z=some up:=fun i hi=>cho_mid h hi
 obtain ⟨f,hf⟩:∃ f:Nat→Id,∀ i,f i=(cho m i x).getD rootI:=⟨fun i=>(cho m i x).getD rootI,fun _=>rfl⟩
 have hfz:∀ i,i<j→cho m i x=some (f i)∧f i∈kys m:=by
  intro i hi
  obtain ⟨z,h1,h2,_⟩:=hz i hi
  have:f i=z:=by rw [hf,h1]; rfl
  rw [this]; exact ⟨h1,h2⟩
 have hnd:((List.range j).map f).Nodup:=by
  rw [List.Nodup,List.pairwise_map]
  refine (List.pairwise_lt_range).imp_of_mem fun {a b} ha hb hab e=>?_
  have ha':=List.mem_range.1 ha
  have hb':=List.mem_range.1 hb
  obtain ⟨a1,a2⟩:=hfz a ha'
  obtain ⟨b1,b2⟩:=hfz b hb'
  have e2:b=a+(b-a):=by omega
  rw [e2,cho_add,a1] at b1
  simp only [Option.bind_some] at b1
  rw [← e2,← e] at b1
  exact T.no_cyc a2 (by omega) b1
 have:=nodup_len hnd (A:=kys m) fun y hy=>by
  obtain ⟨i,hi,rfl⟩:=List.mem_map.1 hy
  exact (hfz i (List.mem_range.1 hi)).2
 simpa [kys] using this
theorem Tree.climb {m:Spots} (T:Tree m) {top:Id}:∀ (j n:Nat) (ms:List Id) (x:Id),n+ms.length=m.length+1→ms.Nodup→(∀ z∈ms,z∈kys m∧∃ p,0<p∧cho m p z=some x)→cho m j x=some top→climbF n m ms x top=true:=by
 intro j
 induction j with
 | zero =>
  intro n ms x hn hd hz h
  have hl:ms.length≤m.length:=by
   have:=nodup_len hd (A:=kys m) fun y hy=>(hz y hy).1
   simpa [kys] using this
  obtain ⟨n',rfl⟩:∃ n',n=n'+1:=⟨n-1,by omega⟩
  simp only [cho,Option.some.injEq] at h
  simp [climbF,h]
 | succ j ih =>
  intro n ms x hn hd hz h
  have hl:ms.length≤m.length:=by
   have:=nodup_len hd (A:=kys m) fun y hy=>(hz y hy).1
   simpa [kys] using this
  obtain ⟨n',rfl⟩:∃ n',n=n'+1:=⟨n-1,by omega⟩
  simp only [climbF]
  by_cases q:x=top
  ·rw [if_pos q]
  ·rw [if_neg q]
   simp only [cho] at h
   cases q2:alook m x with
   | none=>rw [q2] at h; cases h
   | some t =>
    rw [q2] at h
    have hx:=look_keys q2
    have hxm:x ∉ ms:=fun hm=>by
     obtain ⟨_,p,hp,hc⟩:=hz x hm
     exact T.no_cyc hx hp hc
    simp only [if_neg hxm]
    refine ih n' (ms ++ [x]) t.par (by simp; omega) ?_ ?_ h
    ·rw [List.nodup_append]
     exact ⟨hd,by simp,fun a ha b hb=>by simp at hb; subst hb; exact fun e=>hxm (e▸ha)⟩
    ·intro z hzm
     rcases List.mem_append.1 hzm with hz1 | hz1
     ·obtain ⟨k1,p,hp,hc⟩:=hz z hz1
      refine ⟨k1,p+1,by omega,?_⟩
      rw [cho_add,hc]
      simp [cho,q2]
     ·rw [List.mem_singleton.1 hz1]
      exact ⟨hx,1,by omega,by simp [cho,q2]⟩
theorem Tree.und_of {m:Spots} (T:Tree m) {x top:Id} {j:Nat} (h:cho m j x=some top):undF m x top=true :=
 T.climb j (m.length+1) [] x (by simp) List.nodup_nil (fun z hz=>nomatch hz) h
theorem cho_keep {m:Spots} {k:Id} {t:TN}:∀ (j:Nat) (x y:Id),cho m j x=some y→(∀ i,i<j→cho m i x≠some k)→cho (aput m k t) j x=some y:=by
 intro j
 induction j with
 | zero=>intro x y h _; exact h
 | succ j ih =>
  intro x y h hk
  have h0:x≠k:=fun e=>hk 0 (by omega) (by rw [e]; rfl)
  simp only [cho] at h ⊢
  rw [alook_aput,if_neg (fun e=>h0 e.symm)]
  cases q:alook m x with
  | none=>rw [q] at h; cases h
  | some u =>
   rw [q] at h
   exact ih u.par y h fun i hi e=>hk (i+1) (by omega) (by simp only [cho,q]; exact e)
theorem cho_first {m:Spots} {k:Id}:∀ (j:Nat) (x y:Id),cho m j x=some y→(∀ i,i<j→cho m i x≠some k)∨∃ i,i<j∧cho m i x=some k∧∀ i',i'<i→cho m i' x≠some k:=by
 intro j
 induction j with
 | zero=>intro x y _; exact .inl fun i hi=>by omega
 | succ j ih =>
  intro x y h
  by_cases q:x=k
  ·exact .inr ⟨0,by omega,by rw [q]; rfl,fun i' hi'=>by omega⟩
  ·simp only [cho] at h
   cases q2:alook m x with
   | none=>rw [q2] at h; cases h
   | some u =>
    rw [q2] at h
    rcases ih u.par y h with h1 | ⟨i,hi,h1,h2⟩
    ·refine .inl fun i hi e=>?_
     cases i with
     | zero=>simp only [cho,Option.some.injEq] at e; exact q e
     | succ i=>simp only [cho,q2] at e; exact h1 i (by omega) e
    ·refine .inr ⟨i+1,by omega,by simp only [cho,q2]; exact h1,fun i' hi' e=>?_⟩
     cases i' with
     | zero=>simp only [cho,Option.some.injEq] at e; exact q e
     | succ i'=>simp only [cho,q2] at e; exact h2 i' (by omega) e
theorem aput_kys {m:Spots} {k x:Id} {t:TN} (h:x∈kys (aput m k t)):x=k∨x∈kys m:=by
 rw [show kys (aput m k t)=_ from aput_keys] at h
 split at h
 ·exact .inr h
 ·rcases List.mem_append.1 h with q | q
  ·exact .inr q
  ·exact .inl (List.mem_singleton.1 q)
theorem Tree.step {m:Spots} (T:Tree m) {e:Edit} (he:e.id≠rootI∧e.id≠binI0):Tree (stepM m e):=by
 have hpar:∀ p,parB m e=true→p=e.parent→∃ j up,cho m j p=some up∧(up=rootI∨up=binI0):=by
  intro p hp e1
  subst e1
  unfold parB at hp
  rw [Bool.or_eq_true,decide_eq_true_eq] at hp
  rcases hp with q | q
  ·cases q2:alook m e.parent with
   | none=>rw [q2] at q; cases q
   | some t=>exact T.en _ (look_keys q2)
  ·exact ⟨0,e.parent,rfl,.inl q⟩
 unfold stepM
 split
 ·split
  ·rename_i hk hc
   rw [Bool.and_eq_true] at hc
   have hnone:alook m e.id=none:=by
    cases q:alook m e.id with
    | none=>rfl
    | some t=>rw [q] at hc; simp at hc
   have hno:∀ {j:Nat} {x y:Id},cho m j x=some y→∀ i,i<j→cho m i x≠some e.id:=by
    intro j x y h i hi e2
    obtain ⟨z,h1,h2,_⟩:=cho_mid h hi
    rw [e2] at h1
    injection h1 with h1
    rw [alook_none] at hnone
    exact hnone (h1▸h2)
   refine ⟨okM_put T.ok rfl,fun x hx=>?_,fun x hx=>?_⟩
   ·rcases aput_kys hx with q | q
    ·rw [q]; exact he
    ·exact T.no x q
   ·by_cases q:x=e.id
    ·obtain ⟨j,up,hj,hu⟩:=hpar e.parent hc.2 rfl
     refine ⟨j+1,up,?_,hu⟩
     rw [q]
     simp only [cho,alook_aput,if_true]
     exact cho_keep j _ _ hj (hno hj)
    ·rcases aput_kys hx with q2 | q2
     ·exact absurd q2 q
     ·obtain ⟨j,up,hj,hu⟩:=T.en x q2
      exact ⟨j,up,cho_keep j _ _ hj (hno hj),hu⟩
  ·exact T
 ·split
  ·split
   ·rename_i s hs
    split
    ·rename_i hc
     rw [Bool.and_eq_true,Bool.or_eq_true,decide_eq_true_eq,Bool.not_eq_true'] at hc
     have hx0:=look_keys hs
     have hp:∃ j up,cho m j e.parent=some up∧(up=rootI∨up=binI0):=by
      rcases hc.1 with q | q
      ·exact hpar _ q rfl
      ·exact ⟨0,e.parent,rfl,.inr q⟩
     obtain ⟨jp,upp,hjp,hup⟩:=hp
     have hav:∀ i,cho m i e.parent≠some e.node:=fun i e2=>by
      rw [T.und_of e2] at hc; exact absurd hc.2 (by simp)
     have hpm:=cho_keep (k:=e.node) (t:=⟨s.node,e.parent,plc e,s.kind⟩) jp _ _ hjp fun i _=>hav i
     have hnode:cho (aput m e.node ⟨s.node,e.parent,plc e,s.kind⟩) (jp+1) e.node=some upp:=by
      simp only [cho,alook_aput,if_true]; exact hpm
     refine ⟨okM_put T.ok (T.ok.key _ (alook_pair hs)),fun x hx=>?_,fun x hx=>?_⟩
     ·rcases aput_kys hx with q | q
      ·rw [q]; exact T.no _ hx0
      ·exact T.no x q
     ·have hxm:x∈kys m:=by
       rcases aput_kys hx with q | q
       ·rw [q]; exact hx0
       ·exact q
      obtain ⟨j,up,hj,hu⟩:=T.en x hxm
      rcases cho_first (k:=e.node) j x up hj with h1 | ⟨i,hi,h1,h2⟩
      ·exact ⟨j,up,cho_keep j _ _ hj h1,hu⟩
      ·refine ⟨i+(jp+1),upp,?_,hup⟩
       rw [cho_add,cho_keep i _ _ h1 h2]
       exact hnode
    ·exact T
   ·exact T
  ·exact T
theorem Tree.run {m:Spots} (T:Tree m) {es:List Edit} (he:∀ e∈es,e.id≠rootI∧e.id≠binI0):Tree (runM m es):=by
 unfold runM
 induction es generalizing m with
 | nil=>exact T
 | cons e es ih=>exact ih (T.step (he e (List.mem_cons_self ..))) fun e' h=>he e' (List.mem_cons_of_mem _ h)
theorem few_len {l:List TN} {es:List Edit} (h:fewT l es=true):l.length≤12∧es.length≤20∧sptT l=true:=by
 unfold fewT at h
 simp only [Bool.and_eq_true,decide_eq_true_eq] at h
 exact ⟨h.1.1,h.1.2.1,h.1.2.2⟩
theorem app_len (l:List TN) (es:List Edit):(appF l es).length≤l.length+es.length:=by
 have h1:=addM_len l
 have h2:=runM_len es (addM l)
 have h3:=(ssort_perm cmpN' ((runM (addM l) es).map Prod.snd)).length_eq
 rw [List.length_map] at h3
 show (ssort cmpN' _).length≤_
 omega
theorem at_mem {l:List TN} {x:Id} (h:0≤atF l x):x∈l.map TN.node:=by
 unfold atF at h
 cases q:fndT l x with
 | none=>rw [q] at h; simp at h
 | some i =>
  obtain ⟨h1,h2⟩:=fnd_spec q
  rw [← h2]
  exact List.mem_map_of_mem (nth_mem h1)
theorem spt_parts {l:List TN} (h:sptT l=true):l.length≤40∧(∀ t∈l,OkQ t.pl)∧chkT l=true:=by
 unfold sptT at h
 simp only [Bool.and_eq_true,decide_eq_true_eq,List.all_eq_true] at h
 refine ⟨h.1,fun t ht=>?_,h.2.2⟩
 obtain ⟨i,hi,e⟩:=List.mem_iff_getElem.1 ht
 have h1:=h.2.1 i (List.mem_range.2 hi)
 rw [nth_eq hi,e] at h1
 unfold spB at h1
 simp only [Bool.and_eq_true,decide_eq_true_eq] at h1
 have h2:=h1.2.1
 unfold fitsR at h2
 simp only [Bool.and_eq_true,decide_eq_true_eq] at h2
 exact ⟨by rw [← h1.1.2.1]; omega,by rw [← h1.1.2.2]; omega⟩
theorem app_pl (P:Nv.Rt→Prop) {l:List TN} {es:List Edit} (h1:∀ t∈l,P t.pl) (h2:∀ e∈es,P (plc e)):∀ t∈appF l es,P t.pl:=by
 have key:∀ (es:List Edit) (m:Spots),(∀ p∈m,P p.2.pl)→(∀ e∈es,P (plc e))→∀ p∈runM m es,P p.2.pl:=by
  intro es
  induction es with
  | nil=>intro m hm _; exact hm
  | cons e es ih =>
   intro m hm he
   refine ih _ (fun p hp=>?_) fun e' h'=>he e' (List.mem_cons_of_mem _ h')
   have hpe:=he e (List.mem_cons_self ..)
   unfold stepM at hp
   split at hp
   ·split at hp
    ·rcases aput_mem hp with q | q
     ·rw [q]; exact hpe
     ·exact hm p q
    ·exact hm p hp
   ·split at hp
    ·split at hp
     ·split at hp
      ·rcases aput_mem hp with q | q
       ·rw [q]; exact hpe
       ·exact hm p q
      ·exact hm p hp
     ·exact hm p hp
    ·exact hm p hp
 have hadd:∀ (l:List TN) (m:Spots),(∀ p∈m,P p.2.pl)→(∀ t∈l,P t.pl)→∀ p∈l.foldl (fun m t=>aput m t.node t) m,P p.2.pl:=by
  intro l
  induction l with
  | nil=>intro m hm _; exact hm
  | cons t l ih =>
   intro m hm hl
   refine ih _ (fun p hp=>?_) fun t' h'=>hl t' (List.mem_cons_of_mem _ h')
   rcases aput_mem hp with q | q
   ·rw [q]; exact hl t (List.mem_cons_self ..)
   ·exact hm p q
 intro t ht
 unfold appF at ht
 rw [(ssort_perm cmpN' _).mem_iff] at ht
 obtain ⟨p,hp,rfl⟩:=List.mem_map.1 ht
 exact key es (addM l) (hadd l [] (fun p hp=>nomatch hp) h1) h2 p hp
theorem walk_len (l:List TN):(walkF l).length≤l.length:=by
 have hW:=walk_ok l
 have:=nodup_len (A:=l.map TN.node) hW.nodup fun y hy=>by
  obtain ⟨t,ht,he,_⟩:=hW.mem hy
  rw [← he]; exact List.mem_map_of_mem ht
 rwa [List.length_map] at this
def tC (s:TN):List C:=[.d (.v (.string s.node.a)),.d (.v (.int .i64 s.node.n)),.d (.v (.string s.par.a)),.d (.v (.int .i64 s.par.n)),.d (.v (.bool s.pl.neg)),.d (.v (.string s.pl.num)),.d (.v (.string s.pl.den)),.d (.v (.string s.kind))]
theorem fnd_ex {g:List TN} {x:Id} (h:x∈g.map TN.node):∃ k,fndT g x=some k:=by
 cases q:fndT g x with
 | some k=>exact ⟨k,rfl⟩
 | none =>
  exfalso
  unfold fndT at q
  rw [List.findIdx?_eq_none_iff] at q
  obtain ⟨t,ht,rfl⟩:=List.mem_map.1 h
  have:=q t ht
  simp at this
theorem kys_addM {g:List TN} (hn:(g.map TN.node).Nodup) {x:Id}:x∈kys (addM g)↔x∈g.map TN.node:=by
 rw [addM_nodup hn]
 simp [kys]
theorem bel_of {g:List TN} (hn:(g.map TN.node).Nodup) {up:Id}:∀ (j n:Nat) (x:Id),j<n→cho (addM g) j x=some up→belF n g x up=true:=by
 intro j
 induction j with
 | zero =>
  intro n x hjn h
  obtain ⟨n',rfl⟩:∃ n',n=n'+1:=⟨n-1,by omega⟩
  simp only [cho,Option.some.injEq] at h
  simp [belF,h]
 | succ j ih =>
  intro n x hjn h
  obtain ⟨n',rfl⟩:∃ n',n=n'+1:=⟨n-1,by omega⟩
  simp only [belF]
  by_cases q:x=up
  ·rw [if_pos q]
  ·rw [if_neg q]
   simp only [cho] at h
   cases q2:alook (addM g) x with
   | none=>rw [q2] at h; cases h
   | some t =>
    rw [q2] at h
    obtain ⟨k,hk⟩:=fnd_ex ((kys_addM hn).1 (look_keys q2))
    have e:=look_fnd hn hk
    rw [q2] at e
    injection e with e
    rw [hk]
    show belF n' g (nth g k).par up=true
    rw [← e]
    exact ih n' t.par (by omega) h
theorem cho_perm {m m':Spots} (h:∀ x,alook m x=alook m' x):∀ (j:Nat) (x:Id),cho m j x=cho m' j x:=by
 intro j
 induction j with
 | zero=>intro x; rfl
 | succ j ih =>
  intro x
  simp only [cho,h x]
  split
  ·rfl
  ·exact ih _
theorem Tree.perm {m m':Spots} (T:Tree m) (h:m.Perm m'):Tree m':=by
 have ha:=alook_perm h T.ok.nd
 have hk:∀ x,x∈kys m'→x∈kys m:=fun x hx=>((h.map Prod.fst).mem_iff).2 hx
 refine ⟨okM_perm h T.ok,fun x hx=>T.no x (hk x hx),fun x hx=>?_⟩
 obtain ⟨j,up,hj,hu⟩:=T.en x (hk x hx)
 exact ⟨j,up,by rw [← cho_perm ha]; exact hj,hu⟩
structure NodeOk (x:Id):Prop where
 a:authB x.a=true
 l:1≤x.n
 u:x.n≤1000000000
theorem NodeOk.no {x:Id} (h:NodeOk x):x≠rootI∧x≠binI0:=by
 have:=h.l
 constructor
 ·intro e; rw [e] at this; simp [rootI] at this
 ·intro e; rw [e] at this; simp [binI0] at this
theorem chkE_node {e:Edit} (h:chkE e=0):NodeOk e.id:=by
 unfold chkE at h
 by_cases h1:authB e.id.a=false
 ·rw [if_pos h1] at h; omega
 ·rw [if_neg h1] at h
  by_cases h2:rngB e=true
  ·rw [if_pos h2] at h; omega
  ·unfold rngB at h2
   simp only [Bool.or_eq_true,not_or,Bool.not_eq_true',Bool.not_eq_false] at h2
   have h3:=h2.1
   unfold validI at h3
   simp only [Bool.and_eq_true,decide_eq_true_eq] at h3
   exact ⟨by simpa using h1,by omega,by omega⟩
theorem few_parts {l:List TN} {es:List Edit} (h:fewT l es=true):(∀ t∈l,OkQ t.pl)∧chkT l=true∧∀ e∈es,chkE e=0:=by
 obtain ⟨_,_,h3⟩:=few_len h
 obtain ⟨_,h4,h5⟩:=spt_parts h3
 refine ⟨h4,h5,fun e he=>?_⟩
 unfold fewT at h
 simp only [Bool.and_eq_true,List.all_eq_true] at h
 obtain ⟨i,hi,e2⟩:=List.mem_iff_getElem.1 he
 have h1:=h.2 i (List.mem_range.2 hi)
 rw [nth_eq hi,e2] at h1
 unfold fw1 at h1
 simp only [Bool.and_eq_true,decide_eq_true_eq] at h1
 exact h1.2
theorem app_tree {l:List TN} {es:List Edit} (hc:chkT l=true) (he:∀ e∈es,chkE e=0):Tree (addM (appF l es)) :=
 ((chk_tree hc).run fun e h=>(chkE_node (he e h)).no).perm (addM_app l es).symm
theorem fnd_at {g:List TN} {x:Id} {p:Nat} (h:fndT g x=some p):atF g x=(p:Int):=by unfold atF; rw [h]
theorem plcB_ok {x:Nv.Rt} (h:plcB x=true):OkQ x:=by
 unfold plcB fitsR at h
 simp only [Bool.and_eq_true,decide_eq_true_eq] at h
 exact ⟨by rw [← h.1.2.1]; omega,by rw [← h.1.2.2]; omega⟩
theorem zP_ok {x:Nv.Rt} (h:zP x=true):OkQ x:=by
 unfold zP zS at h
 simp only [Bool.and_eq_true,decide_eq_true_eq] at h
 exact ⟨by rw [h.2.1]; decide,by rw [h.2.2]; decide⟩
theorem chkE_pl {e:Edit} (h:chkE e=0):OkQ (plc e):=by
 have hc:carB e=true:=by
  unfold chkE at h
  repeat' split at h
  all_goals first | omega | skip
  rename_i q
  simpa using q
 unfold carB at hc
 repeat' split at hc
 all_goals simp only [Bool.and_eq_true] at hc
 ·exact plcB_ok hc.2.2.1
 ·exact plcB_ok hc.2.2.2
 ·exact zP_ok hc.1.2.2.1
 ·exact zP_ok hc.1.2.2.1
 ·exact zP_ok hc.1.2.2.2.1
 ·exact zP_ok hc.2.2.2.1
def posF (l:List TN) (x:Id):Nat:=(l.takeWhile fun t=>lessB t.node x).length
theorem pos_eq {l:List TN} {x:Id} {i:Nat} (hi:i≤l.length) (h1:∀ j,j<i→lessB (nth l j).node x=true) (h2:i<l.length→lessB (nth l i).node x=false):i=posF l x:=by
 unfold posF
 induction l generalizing i with
 | nil=>simp at hi; simp [hi]
 | cons t l ih =>
  cases i with
  | zero =>
   have:=h2 (by simp)
   rw [show nth (t :: l) 0=t from rfl] at this
   simp [List.takeWhile_cons,this]
  | succ i =>
   have h0:=h1 0 (by omega)
   rw [show nth (t :: l) 0=t from rfl] at h0
   have:=ih (i:=i) (by simpa using hi) (fun j hj=>h1 (j+1) (by omega)) (fun h=>h2 (by simpa using h))
   simp [List.takeWhile_cons,h0,this]
def oneF (l:List TN) (e:Edit):List TN :=
 if e.kind=1∧atF l e.id<0∧(e.parent=rootI∨0≤atF l e.parent) then l.take (posF l e.id) ++ [⟨e.id,e.parent,plc e,e.value⟩] ++ l.drop (posF l e.id)
 else if e.kind=2∧0≤atF l e.node∧(e.parent=rootI∨0≤atF l e.parent∨e.parent=binI0)∧belB l e.parent e.node=false then l.set (atF l e.node).toNat ⟨(nth l (atF l e.node).toNat).node,e.parent,plc e,(nth l (atF l e.node).toNat).kind⟩
 else l
theorem k2042 (l:List TN) (e:Edit) (hl:l.length<100000000000) (H:List O) :
  ACalls prog G0 42 [.c (.d (.sl (l.map TN.row))),.agg (e.row.map .d)] H fun t H'=>t = .v (.c (.d (.sl ((oneF l e).map TN.row))))∧H'=H:=by
 have s1:x2020.sc=true:=rfl
 have s2:x2047.sc=true:=rfl
 have s3:x2048.sc=true:=rfl
 have s4:x2049.sc=true:=rfl
 have g1:=xg2020 l e.parent (by omega)
 have g2:=xg2020 l e.id (by omega)
 have g3:=xg2020 l e.node (by omega)
 have g4:=xg2048 l e.parent e.node (by omega)
 have g5:=xg2049
 have irw':∀ x:Id,x.row=[.v (.string x.a),.v (.int .i64 x.n)]:=fun _=>rfl
 rw [irw'] at g1 g2 g3 g5
 rw [irw',irw'] at g4
 have hroot:=cells_id e.parent rootI
 have hbin:=cells_id e.parent binI0
 rw [show rootI.a=⟨#[]⟩ from rfl,show rootI.n=0 from rfl] at hroot
 rw [show binI0.a=⟨#[45]⟩ from rfl,show binI0.n=0 from rfl] at hbin g5
 have hlen:l.length*1≤l.length:=by omega
 refine acallsX (X:=[(20,x2020),(47,x2047),(48,x2048),(49,x2049)]) ⟨kx2020,kx2047,kx2048,kx2049,trivial⟩ tab hmix func42 c2042 (by rfl) fun hw=>?_
 have n0:¬ H.length<H.length:=by omega
 by_cases cA:e.kind=1∧atF l e.id<0∧(e.parent=rootI∨0≤atF l e.parent)
 ·have hone:oneF l e=l.take (posF l e.id) ++ [⟨e.id,e.parent,plc e,e.value⟩] ++ l.drop (posF l e.id):=by unfold oneF; rw [if_pos cA]
  rw [hone]
  obtain ⟨k1,k2,k3⟩:=cA
  have st:∀ R T:Bool,R=decide (e.parent=rootI)→T=decide (0≤atF l e.parent)→(R || T)=true:=by
   intro R T h1 h2
   rw [h1,h2]
   rcases k3 with q | q
   ·simp [q]
   ·simp [q]
  have hS:∀ t,lessB (nth l t).node e.id=true∨lessB (nth l t).node e.id=false:=fun t=>by cases lessB (nth l t).node e.id <;> simp
  cases hR:decide (e.parent=rootI)
  case' false =>
   have k4:0≤atF l e.parent:=by
    rcases k3 with q | q
    ·rw [decide_eq_true q] at hR; cases hR
    ·exact q
   rw [hR] at hroot
   simp -implicitDefEqProofs (disch:=omega) [gz,ir2042,b2042,b2042_0,b2042_1,b2042_2,b2042_3,erow_x,s1,g1,g2,hroot,k1,k2,k4,wrap64,fillC,splice]
   repeat' with_reducible apply And.intro
   all_goals first|omega|kernel_rfl|exact fun _ _=>rfl|skip
  case' true =>
   rw [hR] at hroot
   simp -implicitDefEqProofs (disch:=omega) [gz,ir2042,b2042,b2042_0,b2042_1,b2042_2,b2042_3,erow_x,s1,g1,g2,hroot,k1,k2,wrap64,fillC,splice]
   repeat' with_reducible apply And.intro
   all_goals first|omega|kernel_rfl|exact fun _ _=>rfl|skip
  all_goals
   refine loopE (fun k st=>∃ i,i≤l.length∧k=l.length-i∧(∀ j,j<i→lessB (nth l j).node e.id=true) ∧
     st=⟨ofL [(0,.v (.c (.d (.sl (l.map TN.row))))),(3,.v (.c (.ptr H.length 0))),(7,.int .i64 i)],H ++ [.cells (e.row.map .d)]⟩)
    (AtS [(0,.v (.c (.d (.sl (l.map TN.row))))),(3,.v (.c (.ptr H.length 0))),(7,.int .i64 (posF l e.id))] (H ++ [.cells (e.row.map .d)])) ?_ ?_ ?_
   ·refine wk_pre [0] [0,3,7] hw rfl ⟨_,0,by omega,rfl,(fun j hj=>absurd hj (Nat.not_lt_zero j)),?_⟩
    simp [phiP,phi,O.ren,C.ren,n0,erow_x,k1]
   ·rintro J M hJ hM k st ⟨i,hi,rfl,hb,rfl⟩
    by_cases hlt:i<l.length
    ·obtain ⟨t,ht⟩:∃ t,nth l i=t:=⟨_,rfl⟩
     have g6:=xg2047 t.node e.id
     rw [irw',irw'] at g6
     cases hB:lessB t.node e.id
     ·rw [hB] at g6
      have e0:=pos_eq hi hb (fun _=>by rw [ht]; exact hB)
      simp -implicitDefEqProofs (disch:=omega) [gz,hlt,wrap64,nth_map,ht,trw,erow_x,s2,g6,fillC,splice]
      repeat' with_reducible apply And.intro
      all_goals first|omega|kernel_rfl|exact fun _ _=>rfl|skip
      subst hM
      rw [← e0]
      exact at_mk (by simp) (by simp [erow_x])
     ·rw [hB] at g6
      simp -implicitDefEqProofs (disch:=omega) [gz,hlt,wrap64,nth_map,ht,trw,erow_x,s2,g6,fillC,splice]
      repeat' with_reducible apply And.intro
      all_goals first|omega|kernel_rfl|exact fun _ _=>rfl|skip
      subst hJ
      refine wk_pre [0] [0,3,7] hw rfl ⟨l.length-(i+1),by omega,i+1,by omega,rfl,(fun j hj=>?_),?_⟩
      ·by_cases q:j=i
       ·rw [q,ht]; exact hB
       ·exact hb j (by omega)
      ·simp [phiP,phi,O.ren,C.ren,n0,erow_x]
    ·have e1:i=l.length:=by omega
     have e0:=pos_eq hi hb (fun h=>absurd h hlt)
     simp -implicitDefEqProofs (disch:=omega) [gz,hlt]
     repeat' with_reducible apply And.intro
     all_goals first|omega|kernel_rfl|exact fun _ _=>rfl|skip
     subst hM
     rw [← e0]
     exact at_mk (by simp) (by simp [erow_x])
   ·rintro _ ⟨sl,rfl⟩
    have hpl:posF l e.id≤l.length:=by unfold posF; exact (List.takeWhile_prefix _).length_le
    obtain ⟨k,hk⟩:∃ k,k=posF l e.id:=⟨_,rfl⟩
    rw [← hk] at hpl ⊢
    have tE:(l.map TN.row).take l.length=l.map TN.row:=List.take_of_length_le (by simp)
    simp -implicitDefEqProofs (disch:=omega) [gz,erow_x,hpl,tE,wrap64,fillC,fillR,splice,Nat.add_assoc]
    repeat' with_reducible apply And.intro
    all_goals first|omega|kernel_rfl|exact fun _ _=>rfl|exact .inr fun _ _=>rfl|skip
    ·exact fun y hy=>by obtain ⟨t,_,rfl⟩:=List.mem_map.1 (List.mem_of_mem_take hy); rfl
    ·exact fun y hy=>by obtain ⟨t,_,rfl⟩:=List.mem_map.1 (List.mem_of_mem_drop hy); rfl
    refine fin_tell (r:=H.length+6) hw (by omega) (by rw [app_get]; rfl) ?_ ⟨?_,rfl⟩
    ·simp; omega
    ·simp [TN.row,plc]
 ·by_cases kA:e.kind=1
  ·have hone:oneF l e=l:=by unfold oneF; rw [if_neg cA,if_neg (by omega)]
   rw [hone]
   by_cases k2:atF l e.id<0
   ·have k3:¬ e.parent=rootI:=fun q=>cA ⟨kA,k2,.inl q⟩
    have k4:¬ 0≤atF l e.parent:=fun q=>cA ⟨kA,k2,.inr q⟩
    rw [decide_eq_false k3] at hroot
    simp -implicitDefEqProofs (disch:=omega) [gz,ir2042,b2042,b2042_0,b2042_1,b2042_2,b2042_3,b2042_4,b2042_5,b2042_6,b2042_7,erow_x,s1,g1,g2,g3,hroot,kA,k2,k4,wrap64,fillC,splice]
    repeat' with_reducible apply And.intro
    all_goals first|omega|kernel_rfl|exact fun _ _=>rfl|skip
    exact fin_junk hw rfl trivial ⟨rfl,rfl⟩
   ·cases hR:decide (e.parent=rootI)
    all_goals
     rw [hR] at hroot
     simp -implicitDefEqProofs (disch:=omega) [gz,ir2042,b2042,b2042_0,b2042_1,b2042_2,b2042_3,b2042_4,b2042_5,b2042_6,b2042_7,erow_x,s1,g1,g2,g3,hroot,kA,k2,wrap64,fillC,splice]
     repeat' with_reducible apply And.intro
     all_goals first|omega|kernel_rfl|exact fun _ _=>rfl|skip
     exact fin_junk hw rfl trivial ⟨rfl,rfl⟩
  ·by_cases kB:e.kind=2
   ·cases hR:decide (e.parent=rootI)
    all_goals rw [hR] at hroot
    all_goals
     by_cases k2:0≤atF l e.node
     ·obtain ⟨i,hi,hat⟩:∃ i,fndT l e.node=some i∧atF l e.node=(i:Int):=by
       cases q:fndT l e.node with
       | some i=>exact ⟨i,rfl,fnd_at q⟩
       | none=>unfold atF at k2; rw [q] at k2; simp at k2
      obtain ⟨i1,i2⟩:=fnd_spec hi
      have tE:(l.map TN.row).take l.length=l.map TN.row:=List.take_of_length_le (by simp)
      obtain ⟨u,hu⟩:∃ u,nth l i=u:=⟨_,rfl⟩
      have i0:0≤(i:Int):=by omega
      have nss:∀ x,nth ((l.map TN.row).set i x) i=x:=fun x=>by simp [nth,List.getD_eq_getElem?_getD,List.getElem?_set,i1]
      have hone:oneF l e=if (e.parent=rootI∨0≤atF l e.parent∨e.parent=binI0)∧belB l e.parent e.node=false then l.set i ⟨u.node,e.parent,plc e,u.kind⟩ else l:=by
       unfold oneF
       rw [if_neg cA,hat,Int.toNat_natCast,hu]
       simp only [kB,i0,true_and]
      rw [hone]
      clear hone
      rw [hat] at g3
      have hRp:=hR
      simp only [decide_eq_true_eq,decide_eq_false_iff_not] at hRp
      cases hB:belB l e.parent e.node
      all_goals rw [hB] at g4
      all_goals by_cases kT:0≤atF l e.parent
      all_goals cases hN:decide (e.parent=binI0)
      all_goals
       rw [hN] at hbin
       simp only [decide_eq_true_eq,decide_eq_false_iff_not] at hN
       simp only [hRp,kT,hN,true_or,or_true,false_or,or_false,true_and,and_true,and_false,false_and,if_true,if_false,Bool.true_eq_false,reduceCtorEq]
       simp -implicitDefEqProofs (disch:=omega) [gz,ir2042,b2042,b2042_0,b2042_1,b2042_2,b2042_3,b2042_4,b2042_5,b2042_6,b2042_7,erow_x,s1,g1,g2,g3,g4,g5,s3,s4,hroot,hbin,kA,kB,kT,i0,i1,hu,nth_map,trw,tE,wrap64,fillC,fillR,splice,Nat.add_assoc]
       repeat' with_reducible apply And.intro
       all_goals first|omega|kernel_rfl|exact fun _ _=>rfl|skip
      all_goals first | exact fin_junk hw rfl trivial ⟨rfl,rfl⟩ | skip
      all_goals
       refine fin_tell (r:=H.length+2) hw (by omega) (by rw [app_get]; rfl) ?_ ⟨?_,rfl⟩
       ·simp
       ·first | rfl | simp [plc,nss,hRp,hN] | simp [plc,nss]
     ·have hone:oneF l e=l:=by unfold oneF; rw [if_neg cA,if_neg (fun q=>k2 q.2.1)]
      rw [hone]
      simp -implicitDefEqProofs (disch:=omega) [gz,ir2042,b2042,b2042_0,b2042_1,b2042_2,b2042_3,b2042_4,b2042_5,b2042_6,b2042_7,erow_x,s1,g1,g2,g3,hroot,kA,kB,k2,wrap64,fillC,splice]
      repeat' with_reducible apply And.intro
      all_goals first|omega|kernel_rfl|exact fun _ _=>rfl|skip
      exact fin_junk hw rfl trivial ⟨rfl,rfl⟩
   ·have hone:oneF l e=l:=by unfold oneF; rw [if_neg cA,if_neg (fun q=>kB q.1)]
    rw [hone]
    cases hR:decide (e.parent=rootI)
    all_goals
     rw [hR] at hroot
     simp -implicitDefEqProofs (disch:=omega) [gz,ir2042,b2042,b2042_0,b2042_1,b2042_2,b2042_3,b2042_4,b2042_5,b2042_6,b2042_7,erow_x,s1,g1,g2,g3,hroot,kA,kB,wrap64,fillC,splice]
     repeat' with_reducible apply And.intro
     all_goals first|omega|kernel_rfl|exact fun _ _=>rfl|skip
     exact fin_junk hw rfl trivial ⟨rfl,rfl⟩
theorem injTEd (a b:List TN×Edit) (h:[PVo.c (D.sl (a.1.map TN.row)),PVo.agg a.2.row]=[PVo.c (D.sl (b.1.map TN.row)),PVo.agg b.2.row]):a=b:=by
 simp only [List.cons.injEq,PVo.c.injEq,D.sl.injEq,PVo.agg.injEq,and_true] at h
 exact Prod.ext (tn_inj h.1) (Edit.row_inj h.2)
def x2042:XE:=mkX false (fun (p:List TN×Edit)=>[.c (.sl (p.1.map TN.row)),.agg p.2.row]) (fun p=>p.1.length<100000000000) (fun p=>.v (.c (.d (.sl ((oneF p.1 p.2).map TN.row)))))
theorem kx2042:Contract prog G0 42 x2042:=mkX_data fun p h H=>k2042 p.1 p.2 h H
theorem xg2042 (l:List TN) (e:Edit) (h:l.length<100000000000):x2042.g [.c (.sl (l.map TN.row)),.agg e.row]=some (True,.v (.c (.d (.sl ((oneF l e).map TN.row))))):=mkX_g injTEd (l,e) h
def foldF (l:List TN) (es:List Edit):List TN:=es.foldl oneF l
theorem one_len (l:List TN) (e:Edit):(oneF l e).length≤l.length+1:=by
 unfold oneF
 split
 ·simp; omega
 ·split
  ·simp
  ·omega
theorem fold_len (es:List Edit):∀ l:List TN,(foldF l es).length≤l.length+es.length:=by
 unfold foldF
 induction es with
 | nil=>intro l; exact Nat.le_refl _
 | cons e es ih =>
  intro l
  have h1:=ih (oneF l e)
  have h2:=one_len l e
  simp only [List.foldl_cons,List.length_cons]
  omega
theorem k2012 (l:List TN) (es:List Edit) (hl:l.length<10000000000) (he:es.length<10000000000) (H:List O) :
  ACalls prog G0 12 [.c (.d (.sl (l.map TN.row))),.c (.d (.sl (es.map Edit.row)))] H fun t H'=>t = .v (.c (.d (.sl ((foldF l es).map TN.row))))∧H'=H:=by
 have s1:x2042.sc=false:=rfl
 refine acallsX (X:=[(42,x2042)]) ⟨kx2042,trivial⟩ tab hmix func12 c2012 (by rfl) fun hw=>?_
 have n0:¬ H.length<H.length:=by omega
 have tL:(l.map TN.row).take l.length=l.map TN.row:=List.take_of_length_le (by simp)
 simp -implicitDefEqProofs (disch:=omega) [gz,ir2012,b2012,tL,wrap64,fillC,fillR,splice,Nat.add_assoc]
 repeat' with_reducible apply And.intro
 all_goals first|omega|kernel_rfl|exact fun _ _=>rfl|skip
 refine loopE (fun k st=>∃ i,i≤es.length∧k=es.length-i ∧
   st=⟨ofL [(1,.v (.c (.d (.sl (es.map Edit.row))))),(5,.v (.c (.d (.sl ((foldF l (es.take i)).map TN.row))))),(11,.int .i64 es.length),(12,.int .i64 i)],H⟩)
  (AtS [(5,.v (.c (.d (.sl ((foldF l es).map TN.row)))))] H) ?_ ?_ ?_
 ·refine wk_tell 5 (u:=.c (.os (H.length+1) 8 0 l.length)) (p:=.c (.sl (l.map TN.row))) (by simp) (by simp [toPV,app_get,tL]) ?_
  rw [show frz (H ++ [.dead,.row 8 (l.map TN.row)]) (V.cells (.c (.os (H.length+1) 8 0 l.length)))=H ++ [.dead,.frow 8 (l.map TN.row)] from by simp [frz,frz1,V.cells,app_get,app_set]]
  refine wk_pre [] [1,5,11,12] hw rfl ⟨_,0,by omega,rfl,?_⟩
  simp [foldF,PV.toV]
 ·rintro J M hJ hM k st ⟨i,hi,rfl,rfl⟩
  by_cases hlt:i<es.length
  ·obtain ⟨e,het⟩:∃ e,nth es i=e:=⟨_,rfl⟩
   have hfl:=fold_len (es.take i) l
   rw [List.length_take] at hfl
   obtain ⟨f,hf⟩:∃ f,f=foldF l (es.take i):=⟨_,rfl⟩
   have hnx:foldF l (es.take (i+1))=oneF f e:=by
    rw [hf]; unfold foldF
    rw [take_nth hlt,List.foldl_append,het]; rfl
   rw [← hf] at hfl ⊢
   have g1:=xg2042 f e (by omega)
   rw [erow_x] at g1
   simp -implicitDefEqProofs (disch:=omega) [gz,hlt,wrap64,nth_map,het,erow_x,s1,g1,fillC,splice,toPVs,toPV,toDs,toD,frzVs,osVs]
   repeat' with_reducible apply And.intro
   all_goals first|omega|kernel_rfl|exact fun _ _=>rfl|skip
   subst hJ
   refine wk_keep [1,5,11,12] ?_
   refine ⟨es.length-(i+1),by omega,i+1,by omega,rfl,?_⟩
   rw [hnx]
   simp
  ·have:i=es.length:=by omega
   subst this
   rw [List.take_length]
   simp -implicitDefEqProofs (disch:=omega) [gz,hlt]
   subst hM
   exact at_mk (by simp) rfl
 ·rintro _ ⟨sl,rfl⟩
  simp -implicitDefEqProofs (disch:=omega) [gz,wrap64]
  exact fin_here (Nat.le_refl _) ⟨rfl,rfl⟩
abbrev prs (l:List TN):Spots:=l.map fun t=>(t.node,t)
theorem fnd_cons {u:TN} {l:List TN} {x:Id}:fndT (u :: l) x=if u.node=x then some 0 else (fndT l x).map (· + 1):=by
 unfold fndT
 rw [List.findIdx?_cons]
 by_cases h:u.node=x <;> simp [h]
theorem aput_set {x:Id} {t:TN} (ht:t.node=x):∀ {l:List TN} {i:Nat},fndT l x=some i→aput (prs l) x t=prs (l.set i t):=by
 intro l
 induction l with
 | nil=>intro i h; simp [fndT] at h
 | cons u l ih =>
  intro i h
  rw [fnd_cons] at h
  by_cases q:u.node=x
  ·rw [if_pos q] at h
   injection h with h
   subst h
   simp [prs,aput,q,ht]
  ·rw [if_neg q] at h
   cases q2:fndT l x with
   | none=>rw [q2] at h; cases h
   | some j =>
    rw [q2] at h
    simp only [Option.map_some,Option.some.injEq] at h
    subst h
    have:=ih q2
    simp only [prs,List.map_cons,aput,if_neg q,List.set_cons_succ] at this ⊢
    rw [this]
theorem at_look {l:List TN} (hn:(l.map TN.node).Nodup) (x:Id):0≤atF l x↔(alook (addM l) x).isSome=true:=by
 constructor
 ·intro h
  obtain ⟨t,ht⟩:=keys_look ((kys_addM hn).2 (at_mem h))
  rw [ht]; rfl
 ·intro h
  cases q:alook (addM l) x with
  | none=>rw [q] at h; cases h
  | some t =>
   obtain ⟨k,hk⟩:=fnd_ex ((kys_addM hn).1 (look_keys q))
   rw [fnd_at hk]; omega
theorem und_bel {l:List TN} (hn:(l.map TN.node).Nodup) (T:Tree (addM l)) (x y:Id):undF (addM l) x y=belB l x y:=by
 rw [Bool.eq_iff_iff]
 constructor
 ·intro h
  obtain ⟨j,hj⟩:=climb_true h
  have hjl:=T.cho_len hj
  have hgl:(addM l).length=l.length:=by rw [addM_nodup hn,List.length_map]
  exact bel_of hn j (l.length+1) _ (by omega) hj
 ·intro h
  obtain ⟨j,hj⟩:=bel_true hn h
  exact T.und_of hj
theorem pos_split {l:List TN} {x:Id}:(∀ t∈l.take (posF l x),lessB t.node x=true)∧(l.Pairwise (fun a b=>cmpN' a b<0)→x ∉ l.map TN.node→∀ t∈l.drop (posF l x),lessZ x t.node<0):=by
 unfold posF
 induction l with
 | nil=>exact ⟨fun t ht=>by simp at ht,fun _ _ t ht=>by simp at ht⟩
 | cons u l ih =>
  by_cases h:lessB u.node x=true
  ·rw [List.takeWhile_cons,if_pos h]
   refine ⟨fun t ht=>?_,fun hp hx t ht=>?_⟩
   ·simp only [List.length_cons,List.take_succ_cons] at ht
    rcases List.mem_cons.1 ht with q | q
    ·rw [q]; exact h
    ·exact ih.1 t q
   ·simp only [List.length_cons,List.drop_succ_cons] at ht
    exact ih.2 (List.pairwise_cons.1 hp).2 (fun q=>hx (by simp at q ⊢; exact .inr q)) t ht
  ·rw [List.takeWhile_cons,if_neg h]
   refine ⟨fun t ht=>by simp at ht,fun hp hx t ht=>?_⟩
   simp only [List.length_nil,List.drop_zero] at ht
   have h1:¬ lessZ u.node x<0:=fun q=>h ((lessB_iff _ _).2 q)
   have h2:lessZ u.node x≠0:=fun q=>hx (by rw [← lessZ_eq q]; simp)
   have h3:lessZ x u.node<0:=by
    have:=lessZ_pre.sgn x u.node
    omega
   rcases List.mem_cons.1 ht with q | q
   ·rw [q]; exact h3
   ·have h4:=(List.pairwise_cons.1 hp).1 t q
    have h5:lessZ u.node t.node<0:=h4
    exact lessZ_pre.lt_le h3 (by omega)
theorem one_step {l:List TN} (hs:l.Pairwise fun a b=>cmpN' a b<0) (T:Tree (addM l)) (e:Edit) :
  (oneF l e).Pairwise (fun a b=>cmpN' a b<0)∧(stepM (addM l) e).Perm (addM (oneF l e)):=by
 have hn:=less_nodup hs
 have ha:=fun x=>at_look hn x
 have hm:=addM_nodup hn
 have hpar:parB (addM l) e=true↔(e.parent=rootI∨0≤atF l e.parent):=by
  unfold parB
  rw [Bool.or_eq_true,decide_eq_true_eq,ha]
  exact Or.comm
 by_cases cA:e.kind=1∧atF l e.id<0∧(e.parent=rootI∨0≤atF l e.parent)
 ·have e1:oneF l e=l.take (posF l e.id) ++ [⟨e.id,e.parent,plc e,e.value⟩] ++ l.drop (posF l e.id):=by unfold oneF; rw [if_pos cA]
  obtain ⟨k1,k2,k3⟩:=cA
  have hno:alook (addM l) e.id=none:=by
   cases q:alook (addM l) e.id with
   | none=>rfl
   | some t =>
    have:=(ha e.id).2 (by rw [q]; rfl)
    omega
  have hx:e.id ∉ l.map TN.node:=fun q=>alook_none.1 hno ((kys_addM hn).2 q)
  have e2:stepM (addM l) e=addM l ++ [(e.id,⟨e.id,e.parent,plc e,e.value⟩)]:=by
   unfold stepM
   rw [if_pos k1,hno,hpar.2 k3]
   exact aput_absent (alook_none.1 hno)
  obtain ⟨p1,p2⟩:=pos_split (l:=l) (x:=e.id)
  have hs2:(oneF l e).Pairwise (fun a b=>cmpN' a b<0):=by
   rw [e1,List.append_assoc,List.pairwise_append]
   have q1:(l.take (posF l e.id)).Pairwise (fun a b=>cmpN' a b<0):=hs.sublist (List.take_sublist _ _)
   have q2:(l.drop (posF l e.id)).Pairwise (fun a b=>cmpN' a b<0):=hs.sublist (List.drop_sublist _ _)
   refine ⟨q1,?_,fun a h1 b h2=>?_⟩
   ·rw [List.singleton_append,List.pairwise_cons]
    exact ⟨fun b hb=>p2 hs hx b hb,q2⟩
   ·have a1:lessZ a.node e.id<0:=(lessB_iff _ _).1 (p1 a h1)
    rcases List.mem_append.1 h2 with h3 | h3
    ·rw [List.mem_singleton.1 h3]; exact a1
    ·exact lessZ_pre.lt_le a1 (by have:=p2 hs hx b h3; omega)
  refine ⟨hs2,?_⟩
  rw [e2,addM_nodup (less_nodup hs2),hm,e1]
  have hp:(l.take (posF l e.id) ++ [(⟨e.id,e.parent,plc e,e.value⟩:TN)] ++ l.drop (posF l e.id)).Perm (l ++ [⟨e.id,e.parent,plc e,e.value⟩]):=by
   rw [List.append_assoc]
   refine (List.Perm.append_left _ List.perm_append_comm).trans ?_
   rw [← List.append_assoc,List.take_append_drop]
  have:=(hp.map fun t:TN=>(t.node,t)).symm
  rw [List.map_append] at this
  exact this
 ·by_cases cB:e.kind=2∧0≤atF l e.node∧(e.parent=rootI∨0≤atF l e.parent∨e.parent=binI0)∧belB l e.parent e.node=false
  ·have e1:oneF l e=l.set (atF l e.node).toNat ⟨(nth l (atF l e.node).toNat).node,e.parent,plc e,(nth l (atF l e.node).toNat).kind⟩:=by unfold oneF; rw [if_neg cA,if_pos cB]
   obtain ⟨k1,k2,k3,k4⟩:=cB
   obtain ⟨i,hi⟩:=fnd_ex (at_mem k2)
   have hat:(atF l e.node).toNat=i:=by rw [fnd_at hi]; rfl
   rw [hat] at e1
   obtain ⟨i1,i2⟩:=fnd_spec hi
   have hlk:=look_fnd hn hi
   have hpb:(parB (addM l) e || decide (e.parent=binI0))=true:=by
    rw [Bool.or_eq_true,hpar,decide_eq_true_eq]
    rcases k3 with q | q | q
    ·exact .inl (.inl q)
    ·exact .inl (.inr q)
    ·exact .inr q
   have e2:stepM (addM l) e=aput (addM l) e.node ⟨(nth l i).node,e.parent,plc e,(nth l i).kind⟩:=by
    unfold stepM
    rw [if_neg (by omega),if_pos k1,hlk,und_bel hn T,k4,hpb]
    rfl
   have hns:(l.set i ⟨(nth l i).node,e.parent,plc e,(nth l i).kind⟩).map TN.node=l.map TN.node:=by
    rw [List.map_set]
    refine set_self ?_
    rw [List.getElem?_map,List.getElem?_eq_getElem i1,nth_eq i1]; rfl
   have hs2:(oneF l e).Pairwise (fun a b=>cmpN' a b<0):=by
    have h1:(l.map TN.node).Pairwise (fun a b=>lessZ a b<0):=by rw [List.pairwise_map]; exact hs
    rw [e1]
    rw [← hns,List.pairwise_map] at h1
    exact h1
   refine ⟨hs2,?_⟩
   rw [e2,addM_nodup (less_nodup hs2),hm,e1,show (l.map fun t=>(t.node,t))=prs l from rfl,aput_set (by exact i2) hi]
  ·have e1:oneF l e=l:=by unfold oneF; rw [if_neg cA,if_neg cB]
   rw [e1]
   refine ⟨hs,?_⟩
   have e2:stepM (addM l) e=addM l:=by
    unfold stepM
    split
    ·rename_i k1
     split
     ·rename_i hc
      rw [Bool.and_eq_true] at hc
      exfalso
      refine cA ⟨k1,?_,hpar.1 hc.2⟩
      have:¬ 0≤atF l e.id:=fun q=>by
       have h2:=(ha e.id).1 q
       cases q3:alook (addM l) e.id with
       | none=>rw [q3] at h2; cases h2
       | some t=>rw [q3] at hc; simp at hc
      omega
     ·rfl
    ·split
     ·rename_i k1
      split
      ·rename_i s hs1
       split
       ·rename_i hc
        rw [Bool.and_eq_true,Bool.or_eq_true,hpar,decide_eq_true_eq,Bool.not_eq_true',und_bel hn T] at hc
        exfalso
        refine cB ⟨k1,(ha e.node).2 (by rw [hs1]; rfl),?_,hc.2⟩
        rcases hc.1 with (q | q) | q
        ·exact .inl q
        ·exact .inr (.inl q)
        ·exact .inr (.inr q)
       ·rfl
      ·rfl
     ·rfl
   rw [e2]
theorem fold_run {es:List Edit}:∀ {l:List TN},l.Pairwise (fun a b=>cmpN' a b<0)→Tree (addM l)→(∀ e∈es,e.id≠rootI∧e.id≠binI0) →
  (foldF l es).Pairwise (fun a b=>cmpN' a b<0)∧(runM (addM l) es).Perm (addM (foldF l es)):=by
 induction es with
 | nil=>intro l hs T _; exact ⟨hs,List.Perm.refl _⟩
 | cons e es ih =>
  intro l hs T he
  obtain ⟨h1,h2⟩:=one_step hs T e
  have T1:=T.step (he e (List.mem_cons_self ..))
  obtain ⟨h3,h4⟩:=ih h1 (T1.perm h2) fun e' h'=>he e' (List.mem_cons_of_mem _ h')
  refine ⟨h3,?_⟩
  have h5:=runM_perm es h2 T1.ok
  exact h5.trans h4
theorem app_fold {l:List TN} {es:List Edit} (hc:chkT l=true) (he:∀ e∈es,chkE e=0):appF l es=foldF l es:=by
 obtain ⟨h1,h2⟩:=fold_run (chk_less hc) (chk_tree hc) fun e h=>(chkE_node (he e h)).no
 have hn:=less_nodup h1
 have h3:=h2.map Prod.snd
 rw [addM_nodup hn,List.map_map,show ((foldF l es).map (Prod.snd ∘ fun t=>(t.node,t)))=foldF l es from List.map_id _] at h3
 have h4:=sort_unique h3 (vals_nodup (runM_ok (addM_ok l) es))
 rw [ssort_self hn (less_srt h1)] at h4
 exact h4
theorem ahB_iff (a b:TN):ahB a b=true↔cmpT a b<0:=by
 have e:cmpT a b=orI [cmpR a.pl b.pl,lessZ a.node b.node]:=rfl
 rw [e]
 unfold ahB
 simp only [orI]
 by_cases c:cmpR a.pl b.pl=0
 ·rw [if_neg (by simp [c]),if_neg (by simp [c]),lessB_iff]
  by_cases q:lessZ a.node b.node=0
  ·rw [if_neg (by simp [q])]; omega
  ·rw [if_pos q]
 ·rw [if_pos c,if_pos c,decide_eq_true_eq]
def insA (x:TN) (out:List TN):List TN:=out.take ((out.takeWhile fun t=>ahB t x).length) ++ x :: out.drop ((out.takeWhile fun t=>ahB t x).length)
def spF (l:List TN) (up:Id):List TN:=(l.filter fun t=>decide (t.par=up)).foldl (fun o x=>insA x o) []
theorem insA_perm (x:TN) (out:List TN):(insA x out).Perm (x :: out):=by
 unfold insA
 refine List.perm_middle.trans ?_
 rw [List.take_append_drop]
theorem foldA_perm (l:List TN):∀ o:List TN,(l.foldl (fun o x=>insA x o) o).Perm (l ++ o):=by
 induction l with
 | nil=>intro o; exact List.Perm.refl _
 | cons x l ih =>
  intro o
  rw [List.foldl_cons]
  refine (ih _).trans ?_
  refine (List.Perm.append_left l (insA_perm x o)).trans ?_
  exact List.perm_middle
theorem cmpT_strict {a b:TN} (h:a.node≠b.node):cmpT a b≠0:=by
 have e:cmpT a b=orI [cmpR a.pl b.pl,lessZ a.node b.node]:=rfl
 rw [e]
 simp only [orI]
 by_cases c:cmpR a.pl b.pl=0
 ·rw [if_neg (by simp [c])]
  have:lessZ a.node b.node≠0:=fun q=>h (lessZ_eq q)
  rw [if_pos this]; exact this
 ·rw [if_pos c]; exact c
theorem tw_split {x:TN} {o:List TN} (hs:o.Pairwise fun a b=>cmpT a b<0) (hx:x.node ∉ o.map TN.node) :
  (∀ t∈o.take ((o.takeWhile fun t=>ahB t x).length),cmpT t x<0)∧∀ t∈o.drop ((o.takeWhile fun t=>ahB t x).length),cmpT x t<0:=by
 induction o with
 | nil=>exact ⟨fun t ht=>by simp at ht,fun t ht=>by simp at ht⟩
 | cons u o ih =>
  obtain ⟨h1,h2⟩:=List.pairwise_cons.1 hs
  by_cases h:ahB u x=true
  ·rw [List.takeWhile_cons,if_pos h]
   obtain ⟨i1,i2⟩:=ih h2 (fun q=>hx (by simp at q ⊢; exact .inr q))
   refine ⟨fun t ht=>?_,fun t ht=>?_⟩
   ·simp only [List.length_cons,List.take_succ_cons] at ht
    rcases List.mem_cons.1 ht with q | q
    ·rw [q]; exact (ahB_iff _ _).1 h
    ·exact i1 t q
   ·simp only [List.length_cons,List.drop_succ_cons] at ht
    exact i2 t ht
  ·rw [List.takeWhile_cons,if_neg h]
   refine ⟨fun t ht=>by simp at ht,fun t ht=>?_⟩
   simp only [List.length_nil,List.drop_zero] at ht
   have k1:¬ cmpT u x<0:=fun q=>h ((ahB_iff _ _).2 q)
   have k2:cmpT u x≠0:=cmpT_strict fun q=>hx (by simp [← q])
   have k3:cmpT x u<0:=by
    have:=cmpT_pre.sgn x u
    omega
   rcases List.mem_cons.1 ht with q | q
   ·rw [q]; exact k3
   ·exact cmpT_pre.lt_le k3 (by have:=h1 t q; omega)
theorem insA_srt {x:TN} {o:List TN} (hs:o.Pairwise fun a b=>cmpT a b<0) (hx:x.node ∉ o.map TN.node):(insA x o).Pairwise fun a b=>cmpT a b<0:=by
 obtain ⟨p1,p2⟩:=tw_split hs hx
 unfold insA
 rw [List.pairwise_append]
 refine ⟨hs.sublist (List.take_sublist _ _),List.pairwise_cons.2 ⟨fun b hb=>p2 b hb,hs.sublist (List.drop_sublist _ _)⟩,fun a h1 b h2=>?_⟩
 rcases List.mem_cons.1 h2 with h3 | h3
 ·rw [h3]; exact p1 a h1
 ·exact cmpT_pre.lt_le (p1 a h1) (by have:=p2 b h3; omega)
theorem foldA_srt (l:List TN):∀ o:List TN,((l ++ o).map TN.node).Nodup→o.Pairwise (fun a b=>cmpT a b<0)→(l.foldl (fun o x=>insA x o) o).Pairwise fun a b=>cmpT a b<0:=by
 induction l with
 | nil=>intro o _ h; exact h
 | cons x l ih =>
  intro o hn h
  rw [List.cons_append,List.map_cons,List.nodup_cons] at hn
  have hx:x.node ∉ o.map TN.node:=fun q=>hn.1 (by rw [List.map_append]; exact List.mem_append_right _ q)
  rw [List.foldl_cons]
  refine ih _ ?_ (insA_srt h hx)
  have hp:(l ++ insA x o).Perm (x :: (l ++ o)):=(List.Perm.append_left l (insA_perm x o)).trans List.perm_middle
  refine ((hp.map TN.node).nodup_iff).2 ?_
  rw [List.map_cons,List.nodup_cons]
  exact hn
theorem sp_sib {l:List TN} (hn:(l.map TN.node).Nodup) (up:Id):spF l up=sibF l up:=by
 have hf:((l.filter fun t=>decide (t.par=up)).map TN.node).Nodup:=hn.sublist ((List.filter_sublist).map TN.node)
 have s1:=foldA_srt (l.filter fun t=>decide (t.par=up)) [] (by rw [List.append_nil]; exact hf) List.Pairwise.nil
 have p1:=foldA_perm (l.filter fun t=>decide (t.par=up)) []
 rw [List.append_nil] at p1
 have p2:=ssort_perm cmpT (l.filter fun t=>decide (t.par=up))
 have s2:(sibF l up).Pairwise fun a b=>cmpT a b<0:=by
  have hs:=ssort_srt cmpT_pre (l.filter fun t=>decide (t.par=up))
  have hn2:((sibF l up).map TN.node).Nodup:=((p2.map TN.node).nodup_iff).2 hf
  rw [List.Nodup,List.pairwise_map] at hn2
  refine (List.pairwise_and_iff.2 ⟨hs,hn2⟩).imp fun {a b} h=>?_
  have h1:cmpT a b≤0:=h.1
  have h2:=cmpT_strict h.2
  omega
 have p2':(sibF l up).Perm (l.filter fun t=>decide (t.par=up)):=p2
 refine pw_ext (R:=fun a b=>cmpT a b<0) (fun a b h1 h2=>?_) (fun a h=>?_) s1 s2 fun x=>?_
 ·have:=cmpT_pre.sgn a b; omega
 ·have:=cmpT_pre.rf a; omega
 ·exact p1.mem_iff.trans p2'.mem_iff.symm
def stkF:Nat→List TN→List Id→List Id→List Id
 | 0,_,_,out=>out
 | _+1,_,[],out=>out
 | n+1,l,x :: todo,out=>stkF n l ((spF l x).map TN.node ++ todo) (out ++ [x])
def walkR (l:List TN):List Id:=stkF (l.length+1) l ((spF l rootI).map TN.node) []
def Dsc (l:List TN) (x z:Id):Prop:=∃ j,cho (addM l) (j+1) z=some x
theorem ch_cho {l:List TN} (hn:(l.map TN.node).Nodup) {x y:Id} (h:y∈chF l x):cho (addM l) 1 y=some x:=by
 obtain ⟨t,h1,h2,h3⟩:=ch_mem h
 have h4:=alook_of_mem (addM_ok l).nd ((mem_addM hn).1 h1)
 rw [h2] at h4
 simp only [cho,h4,h3]
theorem ch_nodup {l:List TN} (hn:(l.map TN.node).Nodup) (x:Id):(chF l x).Nodup:=by
 have hf:((l.filter fun t=>decide (t.par=x)).map TN.node).Nodup:=hn.sublist ((List.filter_sublist).map TN.node)
 exact ((((ssort_perm cmpT _).map TN.node)).nodup_iff).2 hf
theorem cho_key {m:Spots} {j:Nat} {z x:Id} (h:cho m (j+1) z=some x):z∈kys m:=by
 simp only [cho] at h
 cases q:alook m z with
 | none=>rw [q] at h; cases h
 | some t=>exact List.mem_map_of_mem (f:=Prod.fst) (alook_pair q)
theorem sibs_apart {m:Spots} (T:Tree m) {x y1 y2 z:Id} {i j:Nat} (h1:cho m 1 y1=some x) (h2:cho m 1 y2=some x) (hi:cho m i z=some y1) (hj:cho m j z=some y2):y1=y2:=by
 have key:∀ {x y1 y2 z:Id} {i j:Nat},i≤j→cho m 1 y1=some x→cho m 1 y2=some x→cho m i z=some y1→cho m j z=some y2→y1=y2:=by
  intro x y1 y2 z i j hle h1 h2 hi hj
  obtain ⟨d,rfl⟩:∃ d,j=i+d:=⟨j-i,by omega⟩
  rw [cho_add,hi] at hj
  simp only [Option.bind_some] at hj
  cases d with
  | zero=>simpa [cho] using hj
  | succ d =>
   exfalso
   rw [show d+1=1+d by omega,cho_add,h1] at hj
   simp only [Option.bind_some] at hj
   have hc:cho m (d+1) x=some x:=by rw [cho_add,hj]; exact h2
   exact T.no_cyc (cho_key hc) (by omega) hc
 rcases Nat.le_total i j with q | q
 ·exact key q h1 h2 hi hj
 ·exact (key q h2 h1 hj hi).symm
def Deep (l:List TN):Nat→Id→Prop
 | 0,_=>False
 | n+1,x=>∀ y∈chF l x,Deep l n y
theorem not_deep {l:List TN} (hn:(l.map TN.node).Nodup):∀ (n:Nat) (x:Id),¬ Deep l n x→∃ z,cho (addM l) n z=some x
 | 0,x,_=>⟨x,rfl⟩
 | n+1,x,h=>by
  simp only [Deep,Classical.not_forall] at h
  obtain ⟨y,hy,hd⟩:=h
  obtain ⟨z,hz⟩:=not_deep hn n y hd
  exact ⟨z,by rw [cho_add,hz]; exact ch_cho hn hy⟩
theorem stk_vis {l:List TN} (hn:(l.map TN.node).Nodup) (T:Tree (addM l)):∀ (n:Nat) (x:Id) (out:List Id),Deep l n x→(∀ z,Dsc l x z→z ∉ rootI :: out) →
  (∀ (fuel:Nat) (todo:List Id),stkF (fuel+((visF n l x out).length-out.length)) l (chF l x ++ todo) out=stkF fuel l todo (visF n l x out))∧(∀ z∈visF n l x out,z∈out∨Dsc l x z)∧out.length≤(visF n l x out).length
 | 0,x,out,hd,_=>hd.elim
 | n+1,x,out,hd,hf=>by
  simp only [Deep] at hd
  unfold visF
  have key:∀ (ys:List Id) (o:List Id),(∀ y∈ys,y∈chF l x)→ys.Nodup→(∀ y∈ys,y ∉ rootI :: o∧∀ z,Dsc l y z→z ∉ rootI :: o) →
    (∀ (fuel:Nat) (todo:List Id),stkF (fuel+((ys.foldl (fun o y=>if y∈rootI :: o then o else visF n l y (o ++ [y])) o).length-o.length)) l (ys ++ todo) o=stkF fuel l todo (ys.foldl (fun o y=>if y∈rootI :: o then o else visF n l y (o ++ [y])) o)) ∧
    (∀ z∈ys.foldl (fun o y=>if y∈rootI :: o then o else visF n l y (o ++ [y])) o,z∈o∨Dsc l x z)∧o.length≤(ys.foldl (fun o y=>if y∈rootI :: o then o else visF n l y (o ++ [y])) o).length:=by
   intro ys
   induction ys with
   | nil=>intro o _ _ _; exact ⟨fun fuel todo=>by simp,fun z hz=>.inl hz,Nat.le_refl _⟩
   | cons y ys ih =>
    intro o hys hnd hfr
    obtain ⟨nd1,nd2⟩:=List.nodup_cons.1 hnd
    obtain ⟨f1,f2⟩:=hfr y (List.mem_cons_self ..)
    have hyc:=hys y (List.mem_cons_self ..)
    have cy:=ch_cho hn hyc
    have hyy:∀ z,Dsc l y z→z ∉ rootI :: (o ++ [y]):=by
     rintro z ⟨j,hj⟩ q
     have f3:=f2 z ⟨j,hj⟩
     rw [← List.cons_append,List.mem_append] at q
     rcases q with q | q
     ·exact f3 q
     ·rw [List.mem_singleton.1 q] at hj
      exact T.no_cyc (cho_key hj) (by omega) hj
    obtain ⟨a1,a2,a3⟩:=stk_vis hn T n y (o ++ [y]) (hd y hyc) hyy
    simp only [List.foldl_cons]
    rw [if_neg f1]
    obtain ⟨o1,ho1⟩:∃ o1,o1=visF n l y (o ++ [y]):=⟨_,rfl⟩
    rw [← ho1] at a1 a2 a3 ⊢
    have hol:o.length+1≤o1.length:=by simpa using a3
    have hfr2:∀ y'∈ys,y' ∉ rootI :: o1∧∀ z,Dsc l y' z→z ∉ rootI :: o1:=by
     intro y' hy'
     obtain ⟨g1,g2⟩:=hfr y' (List.mem_cons_of_mem _ hy')
     have cy':=ch_cho hn (hys y' (List.mem_cons_of_mem _ hy'))
     have hne:y≠y':=fun e=>nd1 (e▸hy')
     have main:∀ (j:Nat) (z:Id),cho (addM l) j z=some y'→z ∉ rootI :: o→z ∉ rootI :: o1:=by
      intro j z hj hz q
      rcases List.mem_cons.1 q with q | q
      ·exact hz (q▸List.mem_cons_self ..)
      ·rcases a2 z q with q | ⟨i,q⟩
       ·rcases List.mem_append.1 q with q | q
        ·exact hz (List.mem_cons_of_mem _ q)
        ·rw [List.mem_singleton.1 q] at hj
         exact hne (sibs_apart T cy cy' (i:=0) rfl hj)
       ·exact hne (sibs_apart T cy cy' q hj)
     exact ⟨main 0 y' rfl g1,fun z hz=>let ⟨j,hj⟩:=hz; main (j+1) z hj (g2 z hz)⟩
    obtain ⟨b1,b2,b3⟩:=ih o1 (fun z hz=>hys z (List.mem_cons_of_mem _ hz)) nd2 hfr2
    obtain ⟨V,hV⟩:∃ V,V=ys.foldl (fun o y=>if y∈rootI :: o then o else visF n l y (o ++ [y])) o1:=⟨_,rfl⟩
    rw [← hV] at b1 b2 b3 ⊢
    refine ⟨fun fuel todo=>?_,fun z hz=>?_,by omega⟩
    ·rw [show fuel+(V.length-o.length)=((fuel+(V.length-o1.length))+(o1.length-(o ++ [y]).length))+1 by simp; omega,List.cons_append]
     simp only [stkF]
     rw [sp_sib hn,show (sibF l y).map TN.node=chF l y from rfl,a1,b1]
    ·rcases b2 z hz with q | q
     ·rcases a2 z q with q | ⟨j,q⟩
      ·rcases List.mem_append.1 q with q | q
       ·exact .inl q
       ·rw [List.mem_singleton.1 q]; exact .inr ⟨0,cy⟩
      ·exact .inr ⟨j+1,by rw [cho_add,q]; exact cy⟩
     ·exact .inr q
  exact key _ _ (fun y hy=>hy) (ch_nodup hn x) fun y hy=>⟨hf y ⟨0,ch_cho hn hy⟩,fun z hz=>let ⟨j,hj⟩:=hz; hf z ⟨j+1,by rw [cho_add,hj]; exact ch_cho hn hy⟩⟩
theorem walk_ref {l:List TN} (hn:(l.map TN.node).Nodup) (T:Tree (addM l)):walkR l=walkF l:=by
 have hgl:(addM l).length=l.length:=by rw [addM_nodup hn,List.length_map]
 have hd:Deep l (l.length+1) rootI:=by
  refine Classical.byContradiction fun h=>?_
  obtain ⟨z,hz⟩:=not_deep hn _ _ h
  have:=T.cho_len hz
  omega
 have hfr:∀ z,Dsc l rootI z→z ∉ rootI :: []:=by
  rintro z ⟨j,hj⟩ q
  rw [List.mem_singleton] at q
  rw [q] at hj
  exact (T.no _ (cho_key hj)).1 rfl
 obtain ⟨h1,_,_⟩:=stk_vis hn T _ rootI [] hd hfr
 have hlen:(walkF l).length≤l.length:=by
  obtain ⟨k1,k2,_⟩:=visF_ok (l.length+1) (l:=l) (x:=rootI) (out:=[]) List.nodup_nil (fun y hy=>nomatch hy)
  have:=nodup_len k1 k2
  rwa [List.length_map] at this
 have h2:=h1 (l.length+1-(walkF l).length) []
 rw [show visF (l.length+1) l rootI []=walkF l from rfl,List.append_nil,show l.length+1-(walkF l).length+((walkF l).length-([]:List Id).length)=l.length+1 by simp; omega] at h2
 unfold walkR
 rw [sp_sib hn,show (sibF l rootI).map TN.node=chF l rootI from rfl,h2]
 obtain ⟨k,hk⟩:∃ k,l.length+1-(walkF l).length=k+1:=⟨l.length-(walkF l).length,by omega⟩
 rw [hk]; rfl
def preT (tt:TT) (l:List Nat):TT:=tt.map fun p=>(p.1,⟨p.2.kind,p.2.size,p.2.bytes,p.2.zero,p.2.agg,p.2.eqOk,l.contains p.1⟩)
def tt2:TT:=preT tt [39,40]
theorem tab2:tabB prog tt2=true:=by kernel_rfl
def b2145_0:AC:=(R_ 1 [
 o_ 3 (Bx 0 1),
 o_ 4 (Mn)])
def b2145_1:AC:=(R_ 1 [
 o_ 8 (.bsl 0 8 [(.v (.string ⟨#[]⟩)),(.v (.int .i64 0)),(.v (.string ⟨#[]⟩)),(.v (.int .i64 0)),(.v (.bool false)),(.v (.string ⟨#[]⟩)),(.v (.string ⟨#[]⟩)),(.v (.string ⟨#[]⟩))] 0 []),
 m_ 5 8])
def b2145_2:AC:=(S_ (Z_ [
 m_ 9 0,
 o_ 10 (Ll 9),
 o_ 11 (Mi 0)])
  (B_ 0 (W_ (S_ (Z_ [
 o_ 12 (Bt .lss 11 10)])
  (S_ (K_ 12 .skip (.exit 0))
  (S_ (B_ 1 (S_ (Z_ [
 m_ 13 11,
 m_ 6 13])
  (S_ (S_ (.dregion 0 [
 m_ 14 0,
 m_ 15 6,
 o_ 16 (Ia 8 14 15),
 o_ 17 (Fa 2 16),
 o_ 18 (Ld 2 17),
 o_ 19 (Ld 2 3),
 o_ 20 (.eqA true [.s,(.i .i64)] (t_ 18) (t_ 19))] [[],[],[0,1],[2],[3],[],[4,5]])
  (K_ 20 (.exit 1) .skip))
  (S_ (Z_ [
 o_ 7 (Mi 0)])
  (S_ (B_ 2 (W_ (S_ (S_ (.dregion 0 [
 m_ 21 7,
 m_ 22 5,
 o_ 23 (Ll 22),
 o_ 24 (Bt .lss 21 23),
 m_ 25 24,
 g_ 26 (Mv 5) 25 true,
 g_ 27 (Mv 7) 25 true,
 g_ 28 (Ia 8 26 27) 25 true,
 g_ 29 (Ld 8 28) 25 true,
 g_ 30 (Mv 0) 25 true,
 g_ 31 (Mv 6) 25 true,
 g_ 32 (Ia 8 30 31) 25 true,
 g_ 33 (Ld 8 32) 25 true,
 g_ 34 (Cb 88 29 33) 25 true,
 o_ 35 (Pf 25 34)] [[],[],[1],[0,2],[3],[4],[4],[5,6,4],[7,4],[4],[4],[9,10,4],[11,4],[8,12,4,4],[4,13]])
  (K_ 35 .skip (.exit 2)))
  (B_ 3 (Z_ [
 m_ 36 7,
 o_ 37 (Bi .add 36 1),
 m_ 7 37])))))
  (.dregion 3 [
 m_ 38 5,
 m_ 39 7,
 o_ 40 (.slice 8 (t_ 38) none (some (t_ 39))),
 m_ 41 0,
 m_ 42 6,
 o_ 43 (Ia 8 41 42),
 o_ 44 (Ld 8 43),
 o_ 45 (.bsl 0 8 [(.v (.string ⟨#[]⟩)),(.v (.int .i64 0)),(.v (.string ⟨#[]⟩)),(.v (.int .i64 0)),(.v (.bool false)),(.v (.string ⟨#[]⟩)),(.v (.string ⟨#[]⟩)),(.v (.string ⟨#[]⟩))] 1 [(0,(t_ 44))]),
 m_ 46 5,
 m_ 47 7,
 o_ 48 (.slice 8 (t_ 46) (some (t_ 47)) none),
 o_ 49 (.app true 1 8 104 (t_ 45) (t_ 48)),
 o_ 50 (.app true 2 8 104 (t_ 40) (t_ 49)),
 m_ 5 50] [[],[],[0,1],[],[],[3,4],[5],[6],[],[],[8,9],[7,10],[2,11,11],[12,12,0,1,2,3,4,5,6,7,8,9,10,11,12]]))))))
  (Z_ [
 o_ 51 (Bi .add 11 1),
 m_ 11 51])))))))
def b2145_3:AC:=(Z_ [
 m_ 52 5,
 m_ 4 52])
def b2145_4:AC:=.ret
def b2145:AC:=(S_ b2145_0 (S_ b2145_1 (S_ b2145_2 (S_ b2145_3 b2145_4))))
def ir2145:AF:=⟨53,[(.tmp 4)],b2145⟩
theorem c2145:compF tt2 f45=some ir2145:=by kernel_rfl
end Go.Aw.Try
namespace Go.Aw
open Go
theorem wk_hole {P:Program} {G:Gl} {N0:Nat} {s:St} {K:St→Prop} (k:Nat) (h:wk P G N0 (holes k s) K):wk P G N0 s K :=
 wk_weak (fun n b ρ a w _ _ hs=>⟨ρ,sim_holes hs k⟩) h
end Go.Aw
namespace Go.Aw.Try
open Go Go.Proofs Go.Aw
set_option maxRecDepth 100000
set_option maxHeartbeats 4000000
theorem tw_eq {o:List TN} {t:TN} {k:Nat} (hk:k≤o.length) (h1:∀ j,j<k→ahB (nth o j) t=true) (h2:k<o.length→ahB (nth o k) t=false):k=(o.takeWhile fun u=>ahB u t).length:=by
 induction o generalizing k with
 | nil=>simp at hk; simp [hk]
 | cons u o ih =>
  cases k with
  | zero =>
   have:=h2 (by simp)
   rw [show nth (u :: o) 0=u from rfl] at this
   simp [List.takeWhile_cons,this]
  | succ k =>
   have h0:=h1 0 (by omega)
   rw [show nth (u :: o) 0=u from rfl] at h0
   have:=ih (k:=k) (by simpa using hk) (fun j hj=>h1 (j+1) (by omega)) (fun h=>h2 (by simpa using h))
   simp [List.takeWhile_cons,h0,this]
theorem sp_mem {l:List TN} {up:Id} {t:TN} (h:t∈spF l up):t∈l:=by
 have h1:=(foldA_perm (l.filter fun t=>decide (t.par=up)) []).mem_iff.1 h
 rw [List.append_nil] at h1
 exact (List.mem_filter.1 h1).1
theorem sp_len (l:List TN) (up:Id):(spF l up).length≤l.length:=by
 have h1:=(foldA_perm (l.filter fun t=>decide (t.par=up)) []).length_eq
 rw [List.append_nil] at h1
 exact Nat.le_trans (Nat.le_of_eq h1) (List.length_filter_le _ _)
theorem k2145 (l:List TN) (up:Id) (h:∀ t∈l,OkS t.pl) (hl:l.length<1000000000) (H:List O) :
  ACalls prog G0 45 [.c (.d (.sl (l.map TN.row))),.agg (up.row.map .d)] H (Own H 8 ((spF l up).map TN.row)):=by
 have s1:x2088.sc=true:=rfl
 have hu:up.row=[.v (.string up.a),.v (.int .i64 up.n)]:=rfl
 refine acallsX (X:=[(88,x2088)]) ⟨kx2088,trivial⟩ tab2 hmix func45 c2145 (by rfl) fun hw=>?_
 have n0:¬ H.length<H.length:=by omega
 simp -implicitDefEqProofs (disch:=omega) [gz,ir2145,b2145,b2145_0,b2145_1,b2145_2,hu,fillC,fillR,splice,Nat.add_assoc]
 refine loopE (fun k st=>∃ i,i≤l.length∧k=l.length-i ∧
   st=⟨ofL [(0,.v (.c (.d (.sl (l.map TN.row))))),(3,.v (.c (.ptr H.length 0))),(5,.v (.c (.os (H.length+1) 8 0 (spF (l.take i) up).length))),(10,.int .i64 l.length),(11,.int .i64 i)],H ++ [.cells [.d (.v (.string up.a)),.d (.v (.int .i64 up.n))],.row 8 ((spF (l.take i) up).map TN.row)]⟩)
  (AtS [(5,.v (.c (.os (H.length+1) 8 0 (spF l up).length)))] (H ++ [.cells [.d (.v (.string up.a)),.d (.v (.int .i64 up.n))],.row 8 ((spF l up).map TN.row)])) ?_ ?_ ?_
 ·refine wk_pre [0,1] [0,3,5,10,11] hw rfl ⟨_,0,by omega,rfl,?_⟩
  simp [phiP,phi,O.ren,C.ren,n0,spF]
 ·rintro J M hJ hM k st ⟨i,hi,rfl,rfl⟩
  by_cases hlt:i<l.length
  ·obtain ⟨t,ht⟩:∃ t,nth l i=t:=⟨_,rfl⟩
   have htl:t∈l:=by rw [← ht]; exact nth_mem hlt
   have hnx:spF (l.take (i+1)) up=if t.par=up then insA t (spF (l.take i) up) else spF (l.take i) up:=by
    unfold spF
    rw [take_nth hlt,List.filter_append,ht,List.foldl_append]
    by_cases q:t.par=up <;> simp [q]
   have hol:=sp_len (l.take i) up
   rw [List.length_take] at hol
   have hom:∀ u∈spF (l.take i) up,u∈l:=fun u hu=>List.mem_of_mem_take (sp_mem hu)
   obtain ⟨o,ho⟩:∃ o,o=spF (l.take i) up:=⟨_,rfl⟩
   rw [← ho] at hnx hol hom ⊢
   have hid:=cells_id t.par up
   cases hp:decide (t.par=up)
   ·rw [hp] at hid
    simp only [decide_eq_false_iff_not] at hp
    rw [if_neg hp] at hnx
    simp -implicitDefEqProofs (disch:=omega) [gz,hlt,wrap64,nth_map,ht,trw,hid,fillC,splice]
    repeat' with_reducible apply And.intro
    all_goals first|omega|kernel_rfl|exact fun _ _=>rfl|skip
    subst hJ
    refine wk_pre [0,1] [0,3,5,10,11] hw rfl ⟨l.length-(i+1),by omega,i+1,by omega,rfl,?_⟩
    rw [hnx]
    simp [phiP,phi,O.ren,C.ren,n0]
   ·rw [hp] at hid
    simp only [decide_eq_true_eq] at hp
    rw [if_pos hp] at hnx
    simp -implicitDefEqProofs (disch:=omega) [gz,hlt,wrap64,nth_map,ht,trw,hid,fillC,splice]
    repeat' with_reducible apply And.intro
    all_goals first|omega|kernel_rfl|exact fun _ _=>rfl|skip
    refine loopE (fun k st=>∃ m,m≤o.length∧k=o.length-m∧(∀ j,j<m→ahB (nth o j) t=true) ∧
      st=⟨ofL [(0,.v (.c (.d (.sl (l.map TN.row))))),(3,.v (.c (.ptr H.length 0))),(5,.v (.c (.os (H.length+1) 8 0 o.length))),(6,.int .i64 i),(7,.int .i64 m),(10,.int .i64 l.length),(11,.int .i64 i)],H ++ [.cells [.d (.v (.string up.a)),.d (.v (.int .i64 up.n))],.row 8 (o.map TN.row)]⟩)
     (AtS [(0,.v (.c (.d (.sl (l.map TN.row))))),(3,.v (.c (.ptr H.length 0))),(5,.v (.c (.os (H.length+1) 8 0 o.length))),(6,.int .i64 i),(7,.int .i64 (o.takeWhile fun u=>ahB u t).length),(10,.int .i64 l.length),(11,.int .i64 i)] (H ++ [.cells [.d (.v (.string up.a)),.d (.v (.int .i64 up.n))],.row 8 (o.map TN.row)])) ?_ ?_ ?_
    ·refine wk_pre [0,1] [0,3,5,6,7,10,11] hw rfl ⟨_,0,by omega,rfl,(fun j hj=>absurd hj (Nat.not_lt_zero j)),?_⟩
     simp [phiP,phi,O.ren,C.ren,n0]
    ·rintro J2 M2 hJ2 hM2 k st ⟨m,hm,rfl,hb,rfl⟩
     by_cases hmt:m<o.length
     ·obtain ⟨u,hut⟩:∃ u,nth o m=u:=⟨_,rfl⟩
      have g1:=xg2088 u t (h u (hom u (by rw [← hut]; exact nth_mem hmt))) (h t htl)
      rw [trw,trw] at g1
      cases hB:ahB u t
      ·rw [hB] at g1
       have e0:=tw_eq hm hb (fun _=>by rw [hut]; exact hB)
       simp -implicitDefEqProofs (disch:=omega) [gz,hlt,hmt,wrap64,nth_map,ht,hut,trw,s1,g1,fillC,splice]
       repeat' with_reducible apply And.intro
       all_goals first|omega|kernel_rfl|exact fun _ _=>rfl|skip
       subst hM2
       rw [← e0]
       exact at_mk (by simp) rfl
      ·rw [hB] at g1
       simp -implicitDefEqProofs (disch:=omega) [gz,hlt,hmt,wrap64,nth_map,ht,hut,trw,s1,g1,fillC,splice]
       repeat' with_reducible apply And.intro
       all_goals first|omega|kernel_rfl|exact fun _ _=>rfl|skip
       subst hJ2
       refine wk_pre [0,1] [0,3,5,6,7,10,11] hw rfl ⟨o.length-(m+1),by omega,m+1,by omega,rfl,(fun j hj=>?_),?_⟩
       ·by_cases q:j=m
        ·rw [q,hut]; exact hB
        ·exact hb j (by omega)
       ·simp [phiP,phi,O.ren,C.ren,n0]
     ·have e0:=tw_eq hm hb (fun h=>absurd h hmt)
      simp -implicitDefEqProofs (disch:=omega) [gz,hmt,wrap64,fillC,splice]
      repeat' with_reducible apply And.intro
      all_goals first|omega|kernel_rfl|exact fun _ _=>rfl|skip
      subst hM2
      rw [← e0]
      exact at_mk (by simp) rfl
    ·rintro _ ⟨sl,rfl⟩
     have hpl:(o.takeWhile fun u=>ahB u t).length≤o.length:=(List.takeWhile_prefix _).length_le
     have hnx2:insA t o=o.take (o.takeWhile fun u=>ahB u t).length ++ t :: o.drop (o.takeWhile fun u=>ahB u t).length:=rfl
     obtain ⟨m,hm⟩:∃ m,m=(o.takeWhile fun u=>ahB u t).length:=⟨_,rfl⟩
     rw [← hm] at hpl hnx2 ⊢
     have hc1:1+(o.length-m)≤o.length-m+1:=by omega
     have tE:∀ r:List D,((r :: (List.drop m (o.map TN.row))).take (1+(o.length-m)))=r :: List.drop m (o.map TN.row):=fun r=>List.take_of_length_le (by simp; omega)
     simp -implicitDefEqProofs (disch:=omega) [gz,hlt,hpl,hc1,tE,wrap64,nth_map,ht,trw,fillC,fillR,splice,Nat.add_assoc]
     repeat' with_reducible apply And.intro
     all_goals first|omega|kernel_rfl|exact fun _ _=>rfl|skip
     ·exact fun y hy=>by obtain ⟨u,_,rfl⟩:=List.mem_map.1 (List.mem_of_mem_drop (List.mem_of_mem_take hy)); rfl
     ·intro y hy
      rcases List.mem_cons.1 (List.mem_of_mem_take hy) with rfl | hy
      ·rfl
      ·obtain ⟨u,_,rfl⟩:=List.mem_map.1 (List.mem_of_mem_drop (List.mem_of_mem_take hy)); rfl
     subst hJ
     refine wk_pre [0,4] [0,3,5,10,11] hw rfl ⟨l.length-(i+1),by omega,i+1,by omega,rfl,?_⟩
     have n4:¬ H.length+4<H.length:=by omega
     have tF:(List.drop m (o.map TN.row)).take (o.length-m)=List.drop m (o.map TN.row):=List.take_of_length_le (by simp)
     have hL:m+(1+(o.length-m))=(insA t o).length:=by rw [hnx2]; simp; omega
     rw [hnx]
     simp [phiP,phi,O.ren,C.ren,n0,n4,tE,tF,hL]
     rw [hnx2]
     simp [trw]
  ·have:i=l.length:=by omega
   subst this
   rw [List.take_length]
   simp -implicitDefEqProofs (disch:=omega) [gz,hlt]
   subst hM
   exact at_mk (by simp) rfl
 ·rintro _ ⟨sl,rfl⟩
  simp -implicitDefEqProofs (disch:=omega) [gz,b2145_3,b2145_4,wrap64]
  exact fin_own (k:=1) hw (by simp) (by simp)
end Go.Aw.Try
namespace Go.Aw
open Go
section
variable {P:Program} {G:Gl} {tt:TT}
theorem acalls_introH (k:Nat) (htab:tabB P tt=true) (hmix:P.follows .mixedOrders=true) {f:Nat} {fn:Func} {af:AF} (hf:P.funcs[f]? = some fn) (hc:compF tt fn=some af) {args:List V} {H:List O} {R:T→List O→Prop} (hn:Nat.ble args.length af.n=true)
  (h:wcode P G H.length af.body (holes k ⟨argSl args,H⟩) (retQ P H.length af.res R)):ACalls P G f args H R:=by
 unfold compF at hc
 split at hc
 ·rename_i c hb
  split at hc
  ·cases hc
  ·rename_i hname
   split at hc
   ·rename_i bd rs hbd hrs
    injection hc with hc; subst hc
    refine ⟨⟨fn,hf,by rw [hb]; rfl,by simpa using hname⟩,fun ρ w vs hH hG hv=>?_⟩
    refine calls_of_wp hf hb ?_
    let bs:Base:=⟨stab ρ H w,w,ρ,H.length⟩
    have hle:vs.size≤fn.ntmps:=by rw [hv.1]; exact Nat.le_of_ble_eq_true hn
    ·have hsim:Sim P G fn.ntmps bs ρ ⟨argSl args,H⟩ { tmps:=vs ++ Array.replicate (fn.ntmps-vs.size) undef,defers:=[] } w:=by
      refine ⟨hH,by simp; omega,rfl,fun t=>?_,hG,.refl _⟩
      show TRel P _ (argSl args t) _
      unfold argSl
      split
      ·rename_i x hx
       have hlt:t<vs.size:=by rw [hv.1]; exact lt_of_get hx
       refine hv.2 t x _ hx ?_
       rw [Array.getD_eq_getD_getElem?,Array.getElem?_append,if_pos hlt]
       simp [hlt]
      ·trivial
     have hgood:bs.good H.length:=⟨rfl,fun r x hr=>(hH.small r x hr).1⟩
     refine wp_mono (code_sound htab hmix hgood c bd hbd _ ρ _ _ w h (sim_holes hsim k)) ?_
     have fin:∀ ρ' st' a' w',Sim P G fn.ntmps bs ρ' st' a' w'→(match resL st' rs with | some l=>Fin P H.length R (resT l) st'.hp | none=>False) →
       a'.defers=[]∧∃ v,(results fn a'.tmps).run P w' = .ok v w'∧∃ v' t ρ'' H',Ending.returned v = .returned v'∧R t H'∧HRel P ρ'' H' w'∧TRel P (ctx ρ'' H' w') t v'∧(ctx ρ H w).le (ctx ρ'' H' w'):=by
      intro ρ' st' a' w' hs' hfin
      refine ⟨hs'.defers,?_⟩
      split at hfin
      ·rename_i l hl
       obtain ⟨vs',q1,q2,q3⟩:=res_run htab hs' fn.results.toList rs l hrs hl
       have hrel:TRel P (ctx ρ' st'.hp w') (resT l) (if h:vs'.toArray.size=1 then vs'.toArray[0] else .tuple vs'.toArray):=by
        unfold resT
        split
        ·rename_i v0
         match vs',q2,q3 with
         | [u],_,q3=>exact q3 0 _ _ rfl rfl
        ·rename_i hne
         have:¬ vs'.toArray.size=1:=by
          intro e
          rw [List.size_toArray,q2] at e
          obtain ⟨x,hx⟩:=List.length_eq_one_iff.1 e
          exact hne x hx
         rw [dif_neg this]
         exact ⟨_,rfl,by simpa using q2,fun i c v hi hv=>q3 i c v hi (by simpa using hv)⟩
       obtain ⟨t',H',⟨hN,hw⟩,hR⟩:=hfin
       obtain ⟨ρ'',g1,g2,g3,g4⟩:=hw ρ' w' _ hs'.heap hrel
       refine ⟨_,?_,_,t',ρ'',H',rfl,hR,g1,g2,fun r x hr=>?_,by simpa [ctx] using hN,hs'.le.step.more g4⟩
       ·unfold results
        rw [Sem.run_bind,Array.mapM_eq_mapM_toList,Sem.run_map]
        erw [q1]
        rfl
       ·show ρ'' r=some x
        rw [g3 r (hH.small r x hr).1]
        exact hs'.le.ρ r x hr
      ·exact hfin.elim
     intro e a' w' hp
     cases e with
     | normal=>obtain ⟨ρ',st',hs',h'⟩:=hp; exact fin ρ' st' a' w' hs' h'
     | ret=>obtain ⟨ρ',st',hs',h'⟩:=hp; exact fin ρ' st' a' w' hs' h'
     | exit id=>obtain ⟨ρ',st',hs',h'⟩:=hp; exact h'.elim
     | goto l=>exact hp.elim
     | panic ch=>exact hp.elim
     | outgrown=>exact hp.elim
   ·cases hc
 ·cases hc
theorem acallsH (k:Nat) {X:XT} (hX:GoodX P G X) (htab:tabB P tt=true) (hmix:P.follows .mixedOrders=true) {f:Nat} {fn:Func} {af:AF} (hf:P.funcs[f]? = some fn) (hc:compF tt fn=some af) {args:List V} {H:List O} {R:T→List O→Prop} (hn:Nat.ble args.length af.n=true)
  (h:Wf H→wcodeX P G X H.length af.body (holes k ⟨argSl args,H⟩) (retQ P H.length af.res R)):ACalls P G f args H R:=by
 have hcal:Callable P f:=by
  have hc':=hc
  unfold compF at hc'
  split at hc'
  ·rename_i c hb
   split at hc'
   ·cases hc'
   ·rename_i hname
    exact ⟨fn,hf,by rw [hb]; rfl,by simpa using hname⟩
  ·cases hc'
 exact ⟨hcal,fun ρ w vs hH=>(acalls_introH k htab hmix hf hc hn (wcodeX_sound hX (h (wf_of hH)))).2 ρ w vs hH⟩
end
open Classical in
def mkO {α:Type} (enc:α→List PV) (ok:α→Prop) (F:α→List (List D)):List PV→Option (Prop×List (List D)):=fun ps=>if h:∃ a,enc a=ps∧ok a then some (True,F (Classical.choose h)) else none
theorem mkO_ok {P:Program} {G:Gl} {f sz:Nat} {α:Type} {enc:α→List PV} {ok:α→Prop} {F:α→List (List D)} (h:∀ a,ok a→∀ H,ACalls P G f ((enc a).map PV.toV) H (Own H sz (F a))):ContractO P G f sz (mkO enc ok F):=by
 intro ps ob rows hg hob H
 unfold mkO at hg
 split at hg
 ·rename_i hx
  injection hg with hg; injection hg with h1 h2; subst h2
  have hc:=Classical.choose_spec hx
  have:=h _ hc.2 H
  rw [hc.1] at this
  exact this
 ·cases hg
theorem mkO_g {α:Type} {enc:α→List PV} {ok:α→Prop} {F:α→List (List D)} (inj:∀ a b,enc a=enc b→a=b) (a:α) (h:ok a):mkO enc ok F (enc a)=some (True,F a):=by
 unfold mkO
 have hx:∃ b,enc b=enc a∧ok b:=⟨a,rfl,h⟩
 rw [dif_pos hx,inj _ _ (Classical.choose_spec hx).1]
end Go.Aw
namespace Go.Aw.Try
open Go Go.Proofs Go.Aw
set_option maxRecDepth 100000
set_option maxHeartbeats 4000000
def x2145:XE:=mkX false (fun (p:List TN×Id)=>[.c (.sl (p.1.map TN.row)),.agg p.2.row]) (fun p=>(∀ t∈p.1,OkS t.pl)∧p.1.length<1000000000) (fun p=>.v (.c (.d (.sl ((spF p.1 p.2).map TN.row)))))
theorem kx2145:Contract prog G0 45 x2145:=mkX_data fun p h H=>own_data (k2145 p.1 p.2 h.1 h.2 H)
theorem xg2145 (l:List TN) (b:Id) (h:∀ t∈l,OkS t.pl) (hl:l.length<1000000000):x2145.g [.c (.sl (l.map TN.row)),.agg b.row]=some (True,.v (.c (.d (.sl ((spF l b).map TN.row))))):=mkX_g injTI (l,b) ⟨h,hl⟩
theorem k2018 (l:List TN) (b:Id) (h:∀ t∈l,OkS t.pl) (hl:l.length<1000000000) (H:List O) :
  ACalls prog G0 18 [.c (.d (.sl (l.map TN.row))),.agg (b.row.map .d)] H (Own H 2 (((spF l b).map TN.node).map Id.row)):=by
 have s1:x2145.sc=false:=rfl
 have g1:=xg2145 l b h hl
 have hsl:=sp_len l b
 obtain ⟨S,hS⟩:∃ S,S=spF l b:=⟨_,rfl⟩
 rw [← hS] at g1 hsl ⊢
 have hb:b.row=[.v (.string b.a),.v (.int .i64 b.n)]:=rfl
 rw [hb] at g1
 refine acallsX (X:=[(45,x2145)]) ⟨kx2145,trivial⟩ tab hmix func18 c2018 (by rfl) fun hw=>?_
 have n0:¬ H.length<H.length:=by omega
 simp -implicitDefEqProofs (disch:=omega) [gz,ir2018,b2018,hb,s1,g1,fillC,fillR,splice,toPVs,frzVs,osVs,toPV,Nat.add_assoc]
 repeat' with_reducible apply And.intro
 all_goals first|omega|kernel_rfl|exact fun _ _=>rfl|skip
 refine loopE (fun k st=>∃ (i:Nat),i≤S.length∧k=S.length-i ∧
   st=⟨ofL [(5,.v (.c (.d (.sl (S.map TN.row))))),(6,.v (.c (.os H.length 2 0 i))),(13,.int .i64 S.length),(14,.int .i64 i)],H ++ [.row 2 (((S.take i).map TN.node).map Id.row)]⟩)
  (fun st=>AtS [(6,.v (.c (.os H.length 2 0 S.length)))] (H ++ [.row 2 ((S.map TN.node).map Id.row)]) st) ?_ ?_ ?_
 ·refine wk_pre [1] [5,6,13,14] hw rfl ⟨_,0,by omega,rfl,?_⟩
  have n1:¬ H.length+1<H.length:=by omega
  simp [phiP,phi,O.ren,C.ren,n1]
 ·rintro J L hJ hL k st ⟨i,hi,rfl,rfl⟩
  by_cases hlt:i<S.length
  ·obtain ⟨t,ht⟩:∃ t,nth S i=t:=⟨_,rfl⟩
   have hnext:(S.take (i+1)).map TN.node=(S.take i).map TN.node ++ [t.node]:=by
    rw [take_nth hlt,List.map_append,ht]; rfl
   have hAl:((S.take i).map TN.node).length=i:=by simp; omega
   obtain ⟨A,hA⟩:∃ A,A=(S.take i).map TN.node:=⟨_,rfl⟩
   rw [← hA] at hnext hAl ⊢
   have tA:(A.map Id.row).take i=A.map Id.row:=List.take_of_length_le (by simp [hAl])
   simp -implicitDefEqProofs (disch:=omega) [gz,hlt,wrap64,nth_map,ht,trw,hAl,fillC,fillR,splice,tA,Nat.add_assoc]
   repeat' with_reducible apply And.intro
   all_goals first|omega|kernel_rfl|exact fun _ _=>rfl|skip
   subst hJ
   refine wk_pre [2] [5,6,13,14] hw rfl ⟨S.length-(i+1),by omega,i+1,by omega,rfl,?_⟩
   rw [hnext]
   have n4:¬ H.length+2<H.length:=by omega
   simp [phiP,phi,O.ren,C.ren,Id.row,n4]
  ·have:i=S.length:=by omega
   subst this
   rw [List.take_length]
   simp -implicitDefEqProofs (disch:=omega) [gz,hlt]
   subst hL
   exact at_mk (by simp) (by simp)
 ·rintro _ ⟨sl,rfl⟩
  simp -implicitDefEqProofs (disch:=omega) [gz,wrap64]
  exact fin_own (k:=0) hw (by simp) (by simp)
def g2018:=mkO (fun (p:List TN×Id)=>[.c (.sl (p.1.map TN.row)),.agg p.2.row]) (fun p=>(∀ t∈p.1,OkS t.pl)∧p.1.length<1000000000) (fun p=>((spF p.1 p.2).map TN.node).map Id.row)
theorem kg2018:ContractO prog G0 18 2 g2018:=mkO_ok fun p h H=>k2018 p.1 p.2 h.1 h.2 H
theorem eg2018 (l:List TN) (b:Id) (h:∀ t∈l,OkS t.pl) (hl:l.length<1000000000):g2018 [.c (.sl (l.map TN.row)),.agg b.row]=some (True,((spF l b).map TN.node).map Id.row):=mkO_g injTI (l,b) ⟨h,hl⟩
def x2018:XE:=mkX false (fun (p:List TN×Id)=>[.c (.sl (p.1.map TN.row)),.agg p.2.row]) (fun p=>(∀ t∈p.1,OkS t.pl)∧p.1.length<1000000000) (fun p=>.v (.c (.d (.sl (((spF p.1 p.2).map TN.node).map Id.row)))))
theorem kx2018:Contract prog G0 18 x2018:=mkX_data fun p h H=>own_data (k2018 p.1 p.2 h.1 h.2 H)
theorem xg2018 (l:List TN) (b:Id) (h:∀ t∈l,OkS t.pl) (hl:l.length<1000000000):x2018.g [.c (.sl (l.map TN.row)),.agg b.row]=some (True,.v (.c (.d (.sl (((spF l b).map TN.node).map Id.row))))):=mkX_g injTI (l,b) ⟨h,hl⟩
theorem stk_nil (n:Nat) (l:List TN) (out:List Id):stkF n l [] out=out:=by cases n <;> rfl
theorem k2016 (l:List TN) (h:∀ t∈l,OkS t.pl) (hl:l.length<1000000) (H:List O) :
  ACalls prog G0 16 [.c (.d (.sl (l.map TN.row)))] H (Own H 2 ((walkR l).map Id.row)):=by
 have g0:=eg2018 l rootI h (by omega)
 have hr:rootI.row=[.v (.string ⟨#[]⟩),.v (.int .i64 0)]:=rfl
 rw [hr] at g0
 have hCl:=sp_len l rootI
 refine acallsH 1 (X:=[(18,.own H.length 2 g2018)]) ⟨kg2018,trivial⟩ tab hmix func16 c2016 (by rfl) fun hw=>?_
 have n0:¬ H.length<H.length:=by omega
 simp -implicitDefEqProofs (disch:=omega) [gz,ir2016,b2016,g0,holeF,fillC,fillR,splice,toPVs,toPV,osVs,upTo,Nat.add_assoc]
 repeat' with_reducible apply And.intro
 all_goals first|omega|kernel_rfl|exact fun _ _=>rfl|skip
 refine loopE (fun k st=>∃ (out todo:List Id),out.length≤l.length+1∧stkF (l.length+1-out.length) l todo out=walkR l∧todo.length≤(out.length+1)*l.length∧k=l.length+1-out.length ∧
   st=⟨ofL [(0,.v (.c (.d (.sl (l.map TN.row))))),(3,.v (.c (.os H.length 2 0 out.length))),(4,.v (.c (.os (H.length+1) 2 0 todo.length)))],H ++ [.row 2 (out.map Id.row),.row 2 (todo.map Id.row),.hole]⟩)
  (fun st=>∃ L,AtS [(3,.v (.c (.os H.length 2 0 (walkR l).length)))] (H ++ (.row 2 ((walkR l).map Id.row) :: L)) st) ?_ ?_ ?_
 ·refine wk_hole 1 ?_
  have n1:¬ H.length+1<H.length:=by omega
  simp only [holes,List.append_assoc]
  refine wk_pre [1,0,2] [0,3,4] hw rfl ⟨_,[],(spF l rootI).map TN.node,by simp,by simp [walkR],by simp [hCl],rfl,?_⟩
  simp [phiP,phi,O.ren,C.ren,n0,n1,argSl]
 ·rintro J M hJ hM k st ⟨out,todo,ho,hs,ht,rfl,rfl⟩
  cases todo with
  | nil =>
   rw [stk_nil] at hs
   simp -implicitDefEqProofs (disch:=omega) [gz,wrap64]
   repeat' with_reducible apply And.intro
   all_goals first|omega|kernel_rfl|exact fun _ _=>rfl|skip
   subst hM
   subst hs
   exact ⟨_,at_mk (by simp) rfl⟩
  | cons x td =>
   have ix:x.row=[.v (.string x.a),.v (.int .i64 x.n)]:=rfl
   by_cases hlt:out.length≤l.length
   ·have g1:=eg2018 l x h (by omega)
    rw [ix] at g1
    have hCx:=sp_len l x
    have hst:stkF (l.length+1-(out ++ [x]).length) l ((spF l x).map TN.node ++ td) (out ++ [x])=walkR l:=by
     rw [← hs,show l.length+1-out.length=(l.length+1-(out ++ [x]).length)+1 by simp; omega]
     rfl
    obtain ⟨cs,hC⟩:∃ cs,cs=(spF l x).map TN.node:=⟨_,rfl⟩
    have hCl2:cs.length≤l.length:=by rw [hC,List.length_map]; exact hCx
    rw [← hC] at g1 hst
    have nc:∀ (a:List D) (l:List (List D)),nth (a :: l) 0=a:=fun _ _=>rfl
    have tO:(out.map Id.row).take out.length=out.map Id.row:=List.take_of_length_le (by simp)
    have tD:(td.map Id.row).take td.length=td.map Id.row:=List.take_of_length_le (by simp)
    have hb1:(out.length+1)*24≤140737488355328:=by omega
    have hc1:1+td.length≤td.length+1:=by omega
    have ht2:cs.length+td.length≤((out ++ [x]).length+1)*l.length:=by
     have e:((out ++ [x]).length+1)*l.length=(out.length+1)*l.length+l.length:=by
      rw [List.length_append,List.length_singleton,Nat.succ_mul]
     rw [e]
     have:td.length+1≤(out.length+1)*l.length:=by simpa using ht
     omega
    have ht3:cs.length+td.length≤1000002000000:=by
     have h3:=Nat.mul_le_mul (show (out ++ [x]).length+1≤1000002 by simp; omega) (Nat.le_of_lt hl)
     omega
    simp -implicitDefEqProofs (disch:=omega) [gz,hlt,hc1,nc,tO,tD,wrap64,ix,g1,holeF,fillC,fillR,splice,toPVs,toPV,osVs,upTo,Nat.add_assoc]
    repeat' with_reducible apply And.intro
    all_goals first|omega|kernel_rfl|exact fun _ _=>rfl|skip
    subst hJ
    refine wk_hole 1 ?_
    have n1:¬ H.length+1<H.length:=by omega
    have n5:¬ H.length+5<H.length:=by omega
    have n6:¬ H.length+6<H.length:=by omega
    simp only [holes,List.append_assoc]
    refine wk_pre [5,6,7] [0,3,4] hw rfl ⟨l.length+1-(out ++ [x]).length,by simp; omega,out ++ [x],cs ++ td,by simp; omega,hst,by simpa using ht2,rfl,?_⟩
    simp [phiP,phi,O.ren,C.ren,n0,n1,n5,n6,ix,tD]
   ·have hn:l.length+1-out.length=0:=by omega
    rw [hn] at hs
    have hs:out=walkR l:=hs
    simp -implicitDefEqProofs (disch:=omega) [gz,hlt,wrap64,ix,fillC,fillR,splice,Nat.add_assoc]
    repeat' with_reducible apply And.intro
    all_goals first|omega|kernel_rfl|exact fun _ _=>rfl|skip
    subst hM
    subst hs
    exact ⟨_,at_mk (by simp) rfl⟩
 ·rintro _ ⟨L,sl,rfl⟩
  simp -implicitDefEqProofs (disch:=omega) [gz,wrap64]
  exact fin_own (k:=0) hw (by simp) (by simp)
theorem plcB_okS {x:Nv.Rt} (h:plcB x=true):OkS x:=by
 unfold plcB fitsR at h
 simp only [Bool.and_eq_true,decide_eq_true_eq] at h
 exact ⟨by rw [← h.1.2.1]; omega,by rw [← h.1.2.2]; omega⟩
theorem zP_okS {x:Nv.Rt} (h:zP x=true):OkS x:=by
 unfold zP zS at h
 simp only [Bool.and_eq_true,decide_eq_true_eq] at h
 exact ⟨by rw [h.2.1]; decide,by rw [h.2.2]; decide⟩
theorem chkE_plS {e:Edit} (h:chkE e=0):OkS (plc e):=by
 have hc:carB e=true:=by
  unfold chkE at h
  repeat' split at h
  all_goals first | omega | skip
  rename_i q
  simpa using q
 unfold carB at hc
 repeat' split at hc
 all_goals simp only [Bool.and_eq_true] at hc
 ·exact plcB_okS hc.2.2.1
 ·exact plcB_okS hc.2.2.2
 ·exact zP_okS hc.1.2.2.1
 ·exact zP_okS hc.1.2.2.1
 ·exact zP_okS hc.1.2.2.2.1
 ·exact zP_okS hc.2.2.2.1
theorem spt_S {l:List TN} (h:sptT l=true):∀ t∈l,OkS t.pl:=by
 intro t ht
 unfold sptT at h
 simp only [Bool.and_eq_true,decide_eq_true_eq,List.all_eq_true] at h
 obtain ⟨i,hi,e⟩:=List.mem_iff_getElem.1 ht
 have h1:=h.2.1 i (List.mem_range.2 hi)
 rw [nth_eq hi,e] at h1
 unfold spB at h1
 simp only [Bool.and_eq_true,decide_eq_true_eq] at h1
 have h2:=h1.2.1
 unfold fitsR at h2
 simp only [Bool.and_eq_true,decide_eq_true_eq] at h2
 exact ⟨by rw [← h1.1.2.1]; omega,by rw [← h1.1.2.2]; omega⟩
theorem samI_self (a:List Id):samI a a=true:=by unfold samI; simp
def x2016:XE:=mkX false (fun (l:List TN)=>[.c (.sl (l.map TN.row))]) (fun l=>(∀ t∈l,OkS t.pl)∧l.length<1000000) (fun l=>.v (.c (.d (.sl ((walkR l).map Id.row)))))
theorem kx2016:Contract prog G0 16 x2016:=mkX_data fun l h H=>own_data (k2016 l h.1 h.2 H)
theorem xg2016 (l:List TN) (hq:∀ t∈l,OkS t.pl) (hl:l.length<1000000):x2016.g [.c (.sl (l.map TN.row))]=some (True,.v (.c (.d (.sl ((walkR l).map Id.row))))):=mkX_g inj1T l ⟨hq,hl⟩
def x2012:XE:=mkX false (fun (p:List TN×List Edit)=>[.c (.sl (p.1.map TN.row)),.c (.sl (p.2.map Edit.row))]) (fun p=>p.1.length<10000000000∧p.2.length<10000000000) (fun p=>.v (.c (.d (.sl ((foldF p.1 p.2).map TN.row)))))
theorem kx2012:Contract prog G0 12 x2012:=mkX_data fun p h H=>k2012 p.1 p.2 h.1 h.2 H
theorem xg2012 (l:List TN) (es:List Edit) (h1:l.length<10000000000) (h2:es.length<10000000000):x2012.g [.c (.sl (l.map TN.row)),.c (.sl (es.map Edit.row))]=some (True,.v (.c (.d (.sl ((foldF l es).map TN.row))))):=mkX_g injTE (l,es) ⟨h1,h2⟩
theorem k2003 (l:List TN) (es:List Edit) (up:Id) (h:OkT l es):ACalls prog (GM 0) 3 [.c (.d (.sl (l.map TN.row))),.c (.d (.sl (es.map Edit.row))),.agg (up.row.map .d)] [] fun t H=>t = .bool true∧H=[]:=by
 have s1:x2009.sc=true:=rfl
 have s2:x2010.sc=true:=rfl
 have s3:x2011.sc=false:=rfl
 have s4:x2012.sc=false:=rfl
 have s5:x2013.sc=true:=rfl
 have s6:x2014.sc=true:=rfl
 have s7:x2015.sc=false:=rfl
 have s8:x2016.sc=false:=rfl
 have s9:x2017.sc=false:=rfl
 have s10:x2018.sc=false:=rfl
 have g1:=xg2009 l es h
 have g2:=xg2010
 have hu:up.row=[.v (.string up.a),.v (.int .i64 up.n)]:=rfl
 have hr:rootI.row=[.v (.string ⟨#[]⟩),.v (.int .i64 0)]:=rfl
 refine acallsX (X:=[(9,x2009),(10,x2010),(11,x2011),(12,x2012),(13,x2013),(14,x2014),(15,x2015),(16,x2016),(17,x2017),(18,x2018)])
  ⟨kx2009.gm,kx2010,kx2011,kx2012.gm,kx2013.gm,kx2014.gm,kx2015.gm,kx2016.gm,kx2017.gm,kx2018.gm,trivial⟩ tab hmix func3 c2003 (by rfl) fun hw=>?_
 cases hf:fewT l es
 ·rw [hf] at g1
  simp -implicitDefEqProofs (disch:=omega) [gz,ir2003,b2003,hu,s1,g1,s2,g2,wrap64,fillC,splice]
  repeat' with_reducible apply And.intro
  all_goals first|omega|kernel_rfl|exact fun _ _=>rfl|skip
  exact fin_junk (A:=[]) hw rfl trivial ⟨rfl,rfl⟩
 rw [hf] at g1
 by_cases hau:(up.a.size:Int)≤100
 case neg =>
  have hau2:(100:Int)<up.a.size:=by omega
  simp -implicitDefEqProofs (disch:=omega) [gz,ir2003,b2003,hu,hau2,s1,g1,s2,g2,wrap64,fillC,splice]
  repeat' with_reducible apply And.intro
  all_goals first|omega|kernel_rfl|exact fun _ _=>rfl|skip
  exact fin_junk (A:=[]) hw rfl trivial ⟨rfl,rfl⟩
 have hau2:¬ (100:Int)<up.a.size:=by omega
 obtain ⟨hl,he,hsp⟩:=few_len hf
 obtain ⟨hq,hc,hce⟩:=few_parts hf
 have hal:=app_len l es
 have hgq:=app_pl OkQ hq (fun e he=>chkE_pl (hce e he))
 have hgS:=app_pl OkS (spt_S hsp) (fun e he=>chkE_plS (hce e he))
 have hnd:=app_nodup l es
 have hT:=app_tree hc hce
 have hwl:=walk_len (appF l es)
 have g3:=xg2011 l es (by omega) (by omega)
 have g4:=xg2012 l es (by omega) (by omega)
 rw [← app_fold hc hce] at g4
 obtain ⟨g,hg⟩:∃ g,g=appF l es:=⟨_,rfl⟩
 rw [← hg] at hal hgq hgS hnd hT hwl g3 g4
 have g5:x2013.g [.c (.sl (g.map TN.row)),.c (.sl (g.map TN.row))]=some (True,.bool true):=(xg2013 g g (by omega)).trans (by unfold samT; simp)
 have g7:=xg2015 g hgq (by omega)
 have g8:=xg2016 g hgS (by omega)
 rw [walk_ref hnd hT] at g8
 have g9:=fun b=>xg2017 g b hgq (by omega)
 have g10:=fun b=>(xg2018 g b hgS (by omega)).trans (by rw [sp_sib hnd,show (sibF g b).map TN.node=chF g b from rfl])
 have hcl:∀ b,(chF g b).length≤g.length:=fun b=>by unfold chF; rw [List.length_map]; exact sib_len g b
 have g6w:x2014.g [.c (.sl ((walkF g).map Id.row)),.c (.sl ((walkF g).map Id.row))]=some (True,.bool true):=(xg2014 _ _ (by omega)).trans (by rw [samI_self])
 have g6:=fun b=>(xg2014 (chF g b) (chF g b) (by have:=hcl b; omega)).trans (by rw [samI_self])
 have g9u:=g9 up
 have g9r:=g9 rootI
 have g10u:=g10 up
 have g10r:=g10 rootI
 have g6u:=g6 up
 have g6r:=g6 rootI
 rw [hu] at g9u g10u
 rw [hr] at g9r g10r
 clear g9 g10 g6
 obtain ⟨w,hw0⟩:∃ w,w=walkF g:=⟨_,rfl⟩
 obtain ⟨cu,hcu⟩:∃ c,c=chF g up:=⟨_,rfl⟩
 obtain ⟨cr,hcr⟩:∃ c,c=chF g rootI:=⟨_,rfl⟩
 rw [← hw0] at g7 g8 g6w
 rw [← hcu] at g9u g10u g6u
 rw [← hcr] at g9r g10r g6r
 simp -implicitDefEqProofs (disch:=omega) [gz,ir2003,b2003,hu,hau2,s1,g1,s2,g2,s3,g3,s4,g4,s5,g5,s6,g6w,g6u,g6r,s7,g7,s8,g8,s9,g9u,g9r,s10,g10u,g10r,wrap64,fillC,splice,toPVs,toPV,frzVs,osVs]
 repeat' with_reducible apply And.intro
 all_goals first|omega|kernel_rfl|exact fun _ _=>rfl|skip
 exact fin_junk (A:=[]) hw rfl trivial ⟨rfl,rfl⟩
end Go.Aw.Try
