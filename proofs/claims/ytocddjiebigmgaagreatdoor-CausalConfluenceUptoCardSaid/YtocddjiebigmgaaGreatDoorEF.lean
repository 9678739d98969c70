/- An abstract machine over the model, and contracts of functions of this program on it (part 6): words and lemmas for the proof in the last text. -/
import Derived.WalkKit
import Derived.ProofKit
import Derived.OpenShut
import Derived.JoinedCond
import Derived.Carry
import Derived.Test.YtocddjiebigmgaaGreatDoorCards
import Derived.Test.YtocddjiebigmgaaGreatDoorTie
import Derived.Deep.DeepHandedRow
import Derived.Shelf.Vars
import Derived.Test.YtocddjiebigmgaaGreatDoorEE
set_option linter.unusedVariables false
set_option linter.unusedSimpArgs false
set_option linter.unusedSectionVars false

namespace Go.Aw
open Go

/-- Shapes of cells. -/
inductive Sh where
 | i (k : IntKind)
 | b
 | s
 | sl (es : List Sh)

mutual
def okSh : Sh → D → Prop
 | .i k, d => ∃ n, d = .v (.int k n) ∧ (Lit.int k n).wf = true
 | .b, d => ∃ x, d = .v (.bool x)
 | .s, d => ∃ x, d = .v (.string x)
 | .sl es, d => ∃ xs, d = .sl xs ∧ ∀ x ∈ xs, okShs es x
def okShs : List Sh → List D → Prop
 | [], l => l = []
 | e :: es, l => ∃ d r, l = d :: r ∧ okSh e d ∧ okShs es r
end

theorem okShs_len : ∀ {es : List Sh} {l : List D}, okShs es l → l.length = es.length
 | [], l, h => by simp only [okShs] at h; subst h; rfl
 | e :: es, l, h => by
  simp only [okShs] at h
  obtain ⟨d, r, rfl, _, h⟩ := h
  simp [okShs_len h]
theorem okShs_app : ∀ {es es' : List Sh} {l l' : List D}, okShs es l → okShs es' l' → okShs (es ++ es') (l ++ l')
 | [], es', l, l', h, h' => by simp only [okShs] at h; subst h; exact h'
 | e :: es, es', l, l', h, h' => by
  simp only [okShs] at h
  obtain ⟨d, r, rfl, h1, h⟩ := h
  simp only [List.cons_append, okShs]
  exact ⟨d, r ++ l', rfl, h1, okShs_app h h'⟩

section
variable (P : Program)
mutual
def shT : Nat → TypeId → Option (List Sh)
 | 0, _ => none
 | n + 1, t => match P.underlying t with
  | some .bool => some [.b]
  | some (.int k) => some [.i k]
  | some .string => some [.s]
  | some (.slice e) => match shT n e with
   | some es => if P.cellsOf e = es.length ∧ 0 < es.length then some [.sl es] else none
   | none => none
  | some (.struct fs) => match shF n 0 fs.toList with
   | some es => if P.cellsOf t = es.length then some es else none
   | none => none
  | _ => none
def shF : Nat → Nat → List Field → Option (List Sh)
 | _, _, [] => some []
 | 0, _, _ => none
 | n + 1, run, f :: r => if f.offset = run then match shT n f.type with
  | some es => if P.cellsOf f.type = es.length then match shF n (run + es.length) r with
   | some l => some (es ++ l)
   | none => none else none
  | none => none else none
end
end

section
variable {H : Type}
mutual
def datD : DataW H → List D
 | .lit (.int k n) => [.v (.int k n)]
 | .lit (.bool b) => [.v (.bool b)]
 | .lit (.string bs) => [.v (.string ⟨bs.toArray⟩)]
 | .nil => [.sl []]
 | .slice es _ => [.sl (datDs es)]
 | .agg ps => datF ps
 | _ => []
def datDs : List (DataW H) → List (List D)
 | [] => []
 | d :: r => datD d :: datDs r
def datF : List (DataW H) → List D
 | [] => []
 | d :: r => datD d ++ datF r
end
theorem datDs_len : ∀ l : List (DataW H), (datDs l).length = l.length
 | [] => rfl
 | d :: r => by simp [datDs, datDs_len r]
theorem datDs_get : ∀ (l : List (DataW H)) (i : Nat), (datDs l)[i]? = (l[i]?).map datD
 | [], i => by simp [datDs]
 | d :: r, 0 => by simp [datDs]
 | d :: r, i + 1 => by simp [datDs, datDs_get r i]
end

theorem mapM_some {α β : Type} {f : α → Option β} : ∀ {l : List α} {r : List β}, l.mapM f = some r → r.length = l.length ∧ ∀ (i : Nat) x, l[i]? = some x → ∃ y, r[i]? = some y ∧ f x = some y
 | [], r, h => by simp at h; subst h; simp
 | a :: l, r, h => by
  rw [List.mapM_cons] at h
  cases hf : f a with
  | none => rw [hf] at h; cases h
  | some b =>
   rw [hf] at h
   cases hm : l.mapM f with
   | none => rw [hm] at h; cases h
   | some r' =>
    rw [hm] at h
    have h : some (b :: r') = some r := h
    injection h with h; subst h
    obtain ⟨h1, h2⟩ := mapM_some hm
    refine ⟨by simp [h1], fun i x hx => ?_⟩
    cases i with
    | zero => simp at hx; subst hx; exact ⟨b, by simp, hf⟩
    | succ i => simp at hx; obtain ⟨y, hy, hz⟩ := h2 i x hx; exact ⟨y, by simpa using hy, hz⟩

/-- Cells that are read as data. -/
def Rd (w : World) (es : List Sh) (cs : List Value) (ds : List D) : Prop :=
 okShs es ds ∧ cs.length = es.length ∧ ∀ (i : Nat) d v, ds[i]? = some d → cs[i]? = some v → DRel (fun b => b < w.heap.size) w d v
theorem Rd.one {w : World} {e : Sh} {v : Value} {d : D} (h : okSh e d) (hd : DRel (fun b => b < w.heap.size) w d v) : Rd w [e] [v] [d] :=
 ⟨by simp only [okShs]; exact ⟨d, [], rfl, h, rfl⟩, rfl, fun i d' v' h1 h2 => by
  cases i with
  | zero => simp at h1 h2; subst h1; subst h2; exact hd
  | succ i => simp at h1⟩
theorem Rd.app {w : World} {es es' : List Sh} {cs cs' : List Value} {ds ds' : List D} (h : Rd w es cs ds) (k : Rd w es' cs' ds') : Rd w (es ++ es') (cs ++ cs') (ds ++ ds') := by
 have l1 := okShs_len h.1
 refine ⟨okShs_app h.1 k.1, by simp [h.2.1, k.2.1], fun i d v h1 h2 => ?_⟩
 rw [List.getElem?_append] at h1 h2
 rw [l1] at h1
 rw [h.2.1] at h2
 split at h1
 ·rename_i hi; rw [if_pos hi] at h2; exact h.2.2 i d v h1 h2
 ·rename_i hi; rw [if_neg hi] at h2; exact k.2.2 _ d v h1 h2

theorem cells_get {w : World} {a : Addr} {n : Nat} {cs : List Value} (h : w.cells? 0 a n = some cs) : cs.length = n ∧ ∀ (j : Nat) v, cs[j]? = some v → w.cell? (a.add j) = some v := by
 unfold World.cells? at h
 rw [if_pos (Nat.zero_le _)] at h
 obtain ⟨h1, h2⟩ := mapM_some h
 rw [List.length_range] at h1
 refine ⟨h1, fun j v hv => ?_⟩
 have hj : j < n := by
  have := (List.getElem?_eq_some_iff.1 hv).1; omega
 obtain ⟨y, hy, hz⟩ := h2 j j (by simp [hj])
 rw [hv] at hy; injection hy with hy; subst hy
 exact hz
theorem cell_spot {w : World} {a : Addr} {v : Value} (h : w.cell? a = some v) : a.spot = none ∧ a.block < w.heap.size := by
 unfold World.cell? at h
 split at h
 ·rename_i c _ _ hb
  refine ⟨?_, (Array.getElem?_eq_some_iff.1 hb).1⟩
  cases hs : a.spot with
  | none => rfl
  | some x => rw [hs] at h; simp at h
 ·cases h

section
variable {H : Type} {enc : TypeId × Value → H} {P : Program} {w : World} {sp : Nat → Bool} {held : Bool}
theorem trod_fields {fuel : Nat} (ih : ∀ (n : Nat) (t : TypeId) (es : List Sh) (cs : List Value) (d : DataW H) (ps : List MemPlace), shT P n t = some es → DataW.trod enc P w 0 sp held fuel t cs = some (d, ps) → Rd w es cs (datD d)) :
  ∀ (fs : List Field) (n run : Nat) (es : List Sh) (cs : List Value) (xs : List (DataW H × List MemPlace)), shF P n run fs = some es →
   fs.mapM (fun f => DataW.trod enc P w 0 sp held fuel f.type ((cs.drop f.offset).take (P.cellsOf f.type))) = some xs → run + es.length ≤ cs.length → Rd w es ((cs.drop run).take es.length) (datF (xs.map (·.1)))
 | [], n, run, es, cs, xs, h, hm, hl => by
  have : es = [] := by cases n <;> · simp only [shF] at h; injection h with h; exact h.symm
  subst this
  simp at hm; subst hm
  exact ⟨by simp [datF, okShs], by simp, fun i d v h1 => by simp [datF] at h1⟩
 | f :: fs, 0, run, es, cs, xs, h, hm, hl => by simp [shF] at h
 | f :: fs, n + 1, run, es, cs, xs, h, hm, hl => by
  simp only [shF] at h
  split at h
  ·rename_i ho
   split at h
   ·rename_i es1 h1
    split at h
    ·rename_i hc
     split at h
     ·rename_i l h2
      injection h with h; subst h
      rw [List.mapM_cons] at hm
      cases hf : DataW.trod enc P w 0 sp held fuel f.type ((cs.drop f.offset).take (P.cellsOf f.type)) with
      | none => rw [hf] at hm; cases hm
      | some x =>
       rw [hf] at hm
       cases hr : fs.mapM (fun f => DataW.trod enc P w 0 sp held fuel f.type ((cs.drop f.offset).take (P.cellsOf f.type))) with
       | none => rw [hr] at hm; cases hm
       | some xs' =>
        rw [hr] at hm
        have hm : some (x :: xs') = some xs := hm
        injection hm with hm; subst hm
        simp only [List.length_append] at hl
        have g1 := ih n f.type es1 _ x.1 x.2 h1 hf
        have g2 := trod_fields ih fs n (run + es1.length) l cs xs' h2 hr (by omega)
        rw [ho, hc] at g1
        have e : (cs.drop run).take (es1 ++ l).length = (cs.drop run).take es1.length ++ (cs.drop (run + es1.length)).take l.length := by
         rw [List.length_append, List.take_add, List.drop_drop]
        rw [e]
        exact g1.app g2
     ·cases h
    ·cases h
   ·cases h
  ·cases h

theorem trod_rd : ∀ (fuel n : Nat) (t : TypeId) (es : List Sh) (cs : List Value) (d : DataW H) (ps : List MemPlace), shT P n t = some es → DataW.trod enc P w 0 sp held fuel t cs = some (d, ps) → Rd w es cs (datD d)
 | 0, n, t, es, cs, d, ps, hs, h => by simp [DataW.trod] at h
 | fuel + 1, 0, t, es, cs, d, ps, hs, h => by simp [shT] at hs
 | fuel + 1, n + 1, t, es, cs, d, ps, hs, h => by
  have ih := trod_rd fuel
  cases hu : P.underlying t with
  | none => simp [shT, hu] at hs
  | some td =>
   unfold DataW.trod at h
   simp only [shT, hu] at hs
   rw [hu] at h
   cases td <;> simp only at hs <;> first | (cases hs; done) | skip
   case bool =>
    injection hs with hs; subst hs
    split at h <;> first | (rename_i e; cases e; done) | (rename_i e _; cases e; done) | (rename_i e _ _; cases e; done) | skip
    ·injection h with h; injection h with h1 h2; subst h1
     exact Rd.one ⟨_, rfl⟩ (.v _ rfl)
    ·cases h
   case int k =>
    injection hs with hs; subst hs
    split at h <;> first | (rename_i e; cases e; done) | (rename_i e _; cases e; done) | (rename_i e _ _; cases e; done) | skip
    ·rename_i e
     injection e with e; injection e with e; subst e
     split at h
     ·rename_i hk
      obtain ⟨rfl, hw⟩ := hk
      injection h with h; injection h with h1 h2; subst h1
      exact Rd.one ⟨_, rfl, hw⟩ (.v _ rfl)
     ·cases h
    ·cases h
   case string =>
    injection hs with hs; subst hs
    split at h <;> first | (rename_i e; cases e; done) | (rename_i e _; cases e; done) | (rename_i e _ _; cases e; done) | skip
    ·rename_i s0 e
     split at h
     ·injection h with h; injection h with h1 h2; subst h1
      exact Rd.one ⟨_, rfl⟩ (by simpa [datD] using DRel.v (.string s0) rfl)
     ·cases h
    ·cases h
   case slice e =>
    split at hs
    ·rename_i es1 h1
     split at hs
     ·rename_i hc
      injection hs with hs; subst hs
      split at h <;> first | (rename_i e; cases e; done) | (rename_i e _; cases e; done) | (rename_i e _ _; cases e; done) | skip
      ·injection h with h; injection h with h1 h2; subst h1
       exact Rd.one ⟨[], rfl, by simp⟩ (.nil none 0)
      ·rename_i e' a len cap heq
       injection heq with heq; injection heq with heq; subst heq
       simp only at h
       split at h
       ·rename_i hcap
        cases hm : (List.range len).mapM (fun i => (w.cells? 0 (a.add (i * P.cellsOf e)) (P.cellsOf e)).bind (DataW.trod enc P w 0 sp held fuel e)) with
        | none => rw [hm] at h; cases h
        | some elems =>
         rw [hm] at h
         simp only [Option.bind_some, Option.map_eq_some_iff] at h
         obtain ⟨rest, _, h⟩ := h
         injection h with h2 h3; subst h2
         obtain ⟨hlen, hget⟩ := mapM_some hm
         rw [List.length_range] at hlen
         have hel : ∀ (i : Nat) x, elems[i]? = some x → ∃ cs, w.cells? 0 (a.add (i * es1.length)) es1.length = some cs ∧ Rd w es1 cs (datD x.1) := fun i x hx => by
          have hi : i < len := by have := (List.getElem?_eq_some_iff.1 hx).1; omega
          obtain ⟨y, hy, hz⟩ := hget i i (by simp [hi])
          rw [hx] at hy; injection hy with hy; subst hy
          simp only [Option.bind_eq_some_iff] at hz
          obtain ⟨cs, hcs, hz⟩ := hz
          rw [hc.1] at hcs
          exact ⟨cs, hcs, ih n e es1 cs x.1 x.2 h1 hz⟩
         have hget' : ∀ (i : Nat) y, (datDs (elems.map (·.1)))[i]? = some y → ∃ x, elems[i]? = some x ∧ y = datD x.1 := fun i y hy => by
          rw [datDs_get, List.getElem?_map] at hy
          cases hx : elems[i]? with
          | none => rw [hx] at hy; cases hy
          | some x => rw [hx] at hy; simp at hy; exact ⟨x, rfl, hy.symm⟩
         have hok : ∀ y ∈ datDs (elems.map (·.1)), okShs es1 y := fun y hy => by
          obtain ⟨i, hi⟩ := List.getElem?_of_mem hy
          obtain ⟨x, hx, rfl⟩ := hget' i y hi
          obtain ⟨cs, _, hr⟩ := hel i x hx
          exact hr.1
         refine Rd.one ⟨_, rfl, hok⟩ ?_
         by_cases hl0 : len = 0
         ·have : elems = [] := List.length_eq_zero_iff.1 (by omega)
          subst this; subst hl0
          exact .nil _ _
         ·obtain ⟨x0, hx0⟩ : ∃ x0, elems[0]? = some x0 := ⟨elems[0]'(by omega), by simp⟩
          obtain ⟨cs0, hcs0, hr0⟩ := hel 0 x0 hx0
          obtain ⟨g1, g2⟩ := cells_get hcs0
          obtain ⟨v0, hv0⟩ : ∃ v0, cs0[0]? = some v0 := ⟨cs0[0]'(by omega), by simp⟩
          have hsp := cell_spot (g2 0 v0 hv0)
          have ha0 : (a.add (0 * es1.length)).add 0 = a := by simp [Addr.add]
          rw [ha0] at hsp
          have hadd : ∀ i j, (a.add (i * es1.length)).add j = ⟨a.block, a.off + i * es1.length + j, none⟩ := fun i j => by
           cases a with
           | mk b o sp0 =>
            have : sp0 = none := hsp.1
            subst this
            unfold Addr.add
            split
            ·split
             ·rename_i q1 q2; simp [q1, q2]
             ·rename_i q1 q2; simp [q1]
            ·split
             ·rename_i q1 q2; simp [q2]
             ·rfl
          obtain ⟨b, o, sp0⟩ := a
          have : sp0 = none := hsp.1
          subst this
          have hlen' : (datDs (elems.map (·.1))).length = len := by rw [datDs_len, List.length_map, hlen]
          have hcell : ∀ (i : Nat) (y : List D) (j : Nat) (d : D), (datDs (elems.map (·.1)))[i]? = some y → y[j]? = some d → ∃ v, w.cell? ⟨b, o + i * es1.length + j, none⟩ = some v ∧ DRel (fun b => b < w.heap.size) w d v := fun i y j d hy hd => by
           obtain ⟨x, hx, rfl⟩ := hget' i y hy
           obtain ⟨cs, hcs, hr⟩ := hel i x hx
           obtain ⟨q1, q2⟩ := cells_get hcs
           have hj : j < cs.length := by
            have := (List.getElem?_eq_some_iff.1 hd).1
            rw [okShs_len hr.1] at this; omega
           have hv : cs[j]? = some cs[j] := by simp [hj]
           refine ⟨cs[j], ?_, hr.2.2 j d _ hd hv⟩
           have := q2 j _ hv
           rw [hadd] at this; exact this
          have := DRel.sl (S := fun b => b < w.heap.size) (w := w) (datDs (elems.map (·.1))) b o cap es1.length (fun i j => (w.cell? ⟨b, o + i * es1.length + j, none⟩).getD undef) hsp.2 hsp.2 (by rw [hlen']; exact hcap.2.1)
           (fun i x hx => by
            obtain ⟨x', hx', rfl⟩ := hget' i x hx
            obtain ⟨cs, _, hr⟩ := hel i x' hx'
            exact okShs_len hr.1)
           (fun i x j d hi hj => by obtain ⟨v, hv, _⟩ := hcell i x j d hi hj; rw [hv]; rfl)
           (fun i x j d hi hj => by obtain ⟨v, hv, hr⟩ := hcell i x j d hi hj; rw [hv]; exact hr)
          rw [hlen'] at this
          exact this
       ·cases h
      ·cases h
     ·cases hs
    ·cases hs
   case struct fs =>
    split at hs
    ·rename_i es1 h1
     split at hs
     ·rename_i hc
      injection hs with hs; subst hs
      split at h <;> first | (rename_i e; cases e; done) | (rename_i e _; cases e; done) | (rename_i e _ _; cases e; done) | skip
      ·rename_i fs' heq
       injection heq with heq; injection heq with heq; subst heq
       split at h
       ·rename_i hlen
        simp only [Option.map_eq_some_iff] at h
        obtain ⟨xs, hm, h⟩ := h
        injection h with h2 h3; subst h2
        have := trod_fields ih fs.toList n 0 es1 _ xs h1 hm (by omega)
        rw [List.drop_zero, List.take_of_length_le (by omega)] at this
        exact this
       ·cases h
      ·exact (‹∀ fs_1, some (TypeDesc.struct fs) = some (TypeDesc.struct fs_1) → False› fs rfl).elim
     ·cases hs
    ·cases hs

theorem vals_of_trod : ∀ {ts : List TypeId} {vs : List Value} {ds : List (DataW H)} {ps : List MemPlace}, DataW.TrodAll enc P w 0 sp held ts vs ds ps →
  ∀ (n : Nat) (ess : List (List Sh)), ts.map (shT P n) = ess.map some → vs.length = ts.length ∧ ds.length = ts.length ∧
   ∀ (i : Nat) es v d, ess[i]? = some es → vs[i]? = some v → ds[i]? = some d → Rd w es v.cells.toList (datD d)
 | [], [], [], ps, h, n, ess, he => by
  have : ess = [] := by cases ess <;> simp_all
  subst this
  simp
 | t :: ts, v :: vs, d :: ds, ps, h, n, ess, he => by
  obtain ⟨p, q, ⟨fuel, h1⟩, h2, _⟩ := h
  match ess, he with
  | es :: ess, he =>
   simp only [List.map_cons, List.cons.injEq] at he
   obtain ⟨g1, g2, g3⟩ := vals_of_trod h2 n ess he.2
   refine ⟨by simp [g1], by simp [g2], fun i es' v' d' hi hv hd => ?_⟩
   cases i with
   | zero => simp at hi hv hd; subst hi; subst hv; subst hd; exact trod_rd fuel n t es _ _ _ he.1 h1
   | succ i => simp at hi hv hd; exact g3 i es' v' d' hi hv hd
 | [], _ :: _, _, _, h, _, _, _ => by cases h
 | [], [], _ :: _, _, h, _, _, _ => by cases h
 | _ :: _, [], _, _, h, _, _, _ => by cases h
 | _ :: _, _ :: _, [], _, h, _, _, _ => by cases h

/-- What the cells give as an argument: one cell, or a struct. -/
def argV (agg : Bool) (ds : List D) : V := if agg then .agg (ds.map .d) else match ds with | [d] => .c (.d d) | _ => .any
theorem argV_rel {k : K} (hS : k.S = fun b => b < k.w.heap.size) {es : List Sh} {v : Value} {ds : List D} {agg : Bool} (h : Rd k.w es v.cells.toList ds) (ha : agg = true → ∃ cs, v = .agg cs) (hna : agg = false → v.cells = #[v] ∧ es.length = 1) :
  VRel P k (argV agg ds) v := by
 cases agg with
 | true =>
  obtain ⟨cs, rfl⟩ := ha rfl
  have hl := okShs_len h.1
  have h2 := h.2.1
  refine ⟨cs, rfl, ?_, fun i c v hc hv => ?_⟩
  ·simp [Value.cells] at h2; simp [hl, h2]
  ·rw [List.getElem?_map] at hc
   cases hd : ds[i]? with
   | none => rw [hd] at hc; cases hc
   | some d =>
    rw [hd] at hc; simp at hc; subst hc
    have := h.2.2 i d v hd (by simpa [Value.cells] using hv)
    show DRel k.S k.w d v
    rw [hS]; exact this
 | false =>
  obtain ⟨hc, he⟩ := hna rfl
  have hl := okShs_len h.1
  match ds, hl with
  | [d], _ =>
   have := h.2.2 0 d v rfl (by rw [hc]; rfl)
   show DRel k.S k.w d v
   rw [hS]; exact this
  | [], hl => rw [he] at hl; cases hl
  | _ :: _ :: _, hl => rw [he] at hl; simp at hl

theorem stab_nil0 (w : World) : (ctx (fun _ => none) [] w).S = fun b => b < w.heap.size := by
 funext b
 apply propext
 constructor
 ·intro h; exact h.1
 ·intro h; exact ⟨h, fun r o hr => by simp at hr⟩
theorem hrel_nil (w : World) : HRel P (fun _ => none) [] w := ⟨fun r o hr => by simp at hr, fun r r' o o' b hr => by simp at hr, fun r b hr => by cases hr⟩

/-- What a law's contract gives for its row. -/
theorem post_of_acalls {G0 : Gl} (hl : laidOutB P = true) {f : Nat} {fn : Func} {s : ChangeSpec} {W : World} (hG0 : GRel G0 (stab (fun _ => none) [] W) W) {args : Array Value} {ds gs : List (DataW H)} {before : List MemPlace} {us : List V} {R : T → List O → Prop} {apart handsOn : Bool} {tb : TypeId}
  (hres : fn.resultTypes = #[tb]) (hb : P.underlying tb = some .bool) (hvars : s.vars = []) (hspec : s.fn H (ds ++ gs) = { results := [.lit (.bool true)], args := ds })
  (hparams : ∀ t ∈ fn.params.toList, P.readableRec t = true ∧ t < P.types.size)
  (hW : DataW.Whole enc P fn.params.toList s.vars apart W args.toList ds gs before)
  (hv : VsRel P (ctx (fun _ => none) [] W) us args) (h : ACalls P G0 f us [] R) (hR : ∀ t H, R t H → t = .bool true) :
  Calls P f args W fun e W' => ∃ v, e = .returned v ∧ s.post enc P fn apart true handsOn false W args v W' := by
 refine (h.2 (fun _ => none) W args (hrel_nil W) hG0 hv).mono ?_
 rintro e W' ⟨v, t, ρ', H', rfl, hRt, hH, ht, le⟩
 have := hR t H' hRt
 subst this
 have hvt : v = .bool true := drel_v ht
 subst hvt
 have hstep := le.step
 rw [stab_nil0] at hstep
 have hkeep : ∀ b, b < W.heap.size → W'.heap[b]? = W.heap[b]? := hstep.keep
 obtain ⟨p, q, hA, hV, hpq, hz, hn⟩ := id hW
 have hlt : ∀ x ∈ before, x.block < W.heap.size := fun x hx => by simpa using hW.lt x hx
 have hq : q = [] := by rw [hvars] at hV; cases gs <;> simp [DataW.TrodVars] at hV; exact hV
 subst hq
 rw [List.append_nil] at hpq
 have hbelow : Go.RowKit.Below W.heap.size W W' := ⟨hstep.os, hstep.tape, hstep.output, hstep.size, hkeep⟩
 have hargs : ∀ (ts : List TypeId) (vs : List Value) (ds : List (DataW H)) (ps : List MemPlace), (∀ t ∈ ts, P.readableRec t = true ∧ t < P.types.size) → (∀ x ∈ ps, x.block < W.heap.size) → DataW.TrodAll enc P W 0 (fun _ => true) true ts vs ds ps →
   DataW.TrodAll enc P W' 0 (fun b => decide (b < W.heap.size)) true ts vs ds ps := by
  intro ts
  induction ts with
  | nil => intro vs ds ps _ _ h; cases vs <;> cases ds <;> exact h
  | cons t ts ih =>
   intro vs ds ps hp hlt h
   cases vs with
   | nil => cases h
   | cons v vs =>
    cases ds with
    | nil => cases h
    | cons d ds =>
     obtain ⟨p, q, h1, h2, rfl⟩ := h
     have ht := hp t List.mem_cons_self
     exact ⟨p, q, Go.RowKit.Below.trod hl ht.1 ht.2 h1 hbelow (fun x hx => hlt x (List.mem_append_left _ hx)), ih vs ds q (fun t ht => hp t (List.mem_cons_of_mem _ ht)) (fun x hx => hlt x (List.mem_append_right _ hx)) h2, rfl⟩
 refine ⟨_, rfl, ds, gs, before, [], before, [], hW, ?_, ?_, ?_, ?_, fun h => by cases h⟩
 ·rw [hspec, hres]
  exact ⟨[], [], Go.RowKit.shut_bool hb true, rfl, rfl⟩
 ·rw [hspec]; exact hargs _ _ _ _ hparams hlt (hpq ▸ hA)
 ·rw [hspec, hvars]; simp [DataW.TrodVars]
 ·refine ⟨hstep.os, hstep.output, fun i hi => ?_⟩
  rw [hkeep i hi]
  cases W.heap[i]? with
  | none => simp
  | some o => cases o <;> simp
end
end Go.Aw

namespace Go.Aw
open Go
section
variable {P : Program} {w : World}
def aggT (P : Program) (t : TypeId) : Bool := match P.underlying t with
 | some (.struct _) => true
 | some (.array _ _) => true
 | _ => false
theorem okWide_one {r : Reach} {base : Nat} {t : TypeId} {v : Value} (ha : aggT P t = false) (h : Value.okWide P w r base t v) : v.cells = #[v] := by
 unfold aggT at ha
 unfold Value.okWide at h
 cases hu : P.underlying t with
 | none =>
  rw [hu] at h
  cases v <;> first | rfl | (simp [Cell.okWide, Cell.ok, hu] at h)
 | some td =>
  rw [hu] at h ha
  cases td <;> first | (cases ha; done) | (cases v <;> first | rfl | (simp [Cell.okWide, Cell.ok, hu] at h))
theorem okWide_agg {r : Reach} {base : Nat} {t : TypeId} {v : Value} (ha : aggT P t = true) (h : Value.okWide P w r base t v) : ∃ cs, v = .agg cs := by
 unfold aggT at ha
 unfold Value.okWide at h
 cases hu : P.underlying t with
 | none => rw [hu] at ha; cases ha
 | some td =>
  rw [hu] at h ha
  cases td <;> first | (cases ha; done) | (obtain ⟨cs, e, _⟩ := h; exact ⟨cs, e⟩)
theorem shT_one {n : Nat} {t : TypeId} {es : List Sh} (ha : aggT P t = false) (h : shT P n t = some es) : es.length = 1 := by
 cases n with
 | zero => simp [shT] at h
 | succ n =>
  unfold aggT at ha
  cases hu : P.underlying t with
  | none => simp [shT, hu] at h
  | some td =>
   rw [hu] at ha
   simp only [shT, hu] at h
   cases td <;> simp only at h <;> first | (cases h; done) | (cases ha; done) | (injection h with h; subst h; rfl) | skip
   split at h
   ·split at h
    ·injection h with h; subst h; rfl
    ·cases h
   ·cases h

variable {H : Type} {enc : TypeId × Value → H}
theorem law_calls {G0 : Gl} (hl : laidOutB P = true) {f : Nat} {fn : Func} {s : ChangeSpec} {W : World} (hG0 : GRel G0 (stab (fun _ => none) [] W) W) {base : Nat} {args : Array Value} {ds gs : List (DataW H)} {before : List MemPlace} {apart handsOn : Bool} {tb : TypeId}
  {n : Nat} {ess : List (List Sh)} {aggs : List Bool} (hts : fn.params.toList.map (shT P n) = ess.map some) (hag : fn.params.toList.map (aggT P) = aggs)
  (hres : fn.resultTypes = #[tb]) (hb : P.underlying tb = some .bool) (hvars : s.vars = []) (hspec : ∀ ds : List (DataW H), ds.length = fn.params.toList.length → s.fn H ds = { results := [.lit (.bool true)], args := ds })
  (hparams : fn.params.toList.all (fun t => P.readableRec t && decide (t < P.types.size)) = true)
  (hval : ∀ (j : Nat) t v, fn.params[j]? = some t → args[j]? = some v → Value.okWide P W .any base t v)
  (hW : DataW.Whole enc P fn.params.toList s.vars apart W args.toList ds gs before)
  (h : (ds.map datD).length = ess.length → (∀ (i : Nat) es u, ess[i]? = some es → (ds.map datD)[i]? = some u → okShs es u) → gs = [] → ACalls P G0 f (List.zipWith argV aggs (ds.map datD)) [] fun t _ => t = .bool true) :
  Calls P f args W fun e W' => ∃ v, e = .returned v ∧ s.post enc P fn apart true handsOn false W args v W' := by
 obtain ⟨p, q, hA, hV, hpq, hz, hn⟩ := id hW
 have hgs : gs = [] := by rw [hvars] at hV; cases gs <;> simp [DataW.TrodVars] at hV; rfl
 subst hgs
 obtain ⟨l1, l2, hr⟩ := vals_of_trod hA n ess hts
 have hel : ess.length = fn.params.toList.length := by have := congrArg List.length hts; simpa using this.symm
 have hal : aggs.length = fn.params.toList.length := by rw [← hag]; simp
 have hok := h (by simp [l2, hel]) (fun i es u he hu => by
  rw [List.getElem?_map] at hu
  cases hd : ds[i]? with
  | none => rw [hd] at hu; cases hu
  | some d =>
   rw [hd] at hu; simp at hu; subst hu
   have hi : i < args.toList.length := by rw [l1, ← l2]; exact (List.getElem?_eq_some_iff.1 hd).1
   exact (hr i es _ d he (List.getElem?_eq_getElem hi) hd).1) rfl
 refine post_of_acalls hl hG0 (ds := ds) (gs := []) hres hb hvars (by rw [List.append_nil]; exact hspec ds l2) (fun t ht => ?_) hW ?_ hok (fun t H h => h)
 ·have := List.all_eq_true.1 hparams t ht
  simp at this; exact this
 ·refine ⟨by simp [hal, l2]; simpa using l1, fun i c v hc hv => ?_⟩
  rw [List.getElem?_zipWith] at hc
  have hv' : args.toList[i]? = some v := by simpa using hv
  have hi : i < fn.params.toList.length := by rw [← l1]; exact (List.getElem?_eq_some_iff.1 hv').1
  have hp : fn.params.toList[i]? = some fn.params.toList[i] := List.getElem?_eq_getElem hi
  obtain ⟨t, ht⟩ : ∃ t, fn.params.toList[i]? = some t := ⟨_, hp⟩
  have hga : aggs[i]? = some (aggT P t) := by rw [← hag, List.getElem?_map, ht]; rfl
  have hsh : ∃ es, ess[i]? = some es ∧ shT P n t = some es := by
   have h1 : (fn.params.toList.map (shT P n))[i]? = some (shT P n t) := by rw [List.getElem?_map, ht]; rfl
   rw [hts, List.getElem?_map] at h1
   cases he : ess[i]? with
   | none => rw [he] at h1; cases h1
   | some es => rw [he] at h1; simp at h1; exact ⟨es, rfl, h1.symm⟩
  obtain ⟨es, he, hse⟩ := hsh
  have hdi : i < ds.length := by rw [l2]; exact hi
  have hd : ds[i]? = some ds[i] := List.getElem?_eq_getElem hdi
  have hdm : (ds.map datD)[i]? = some (datD ds[i]) := by rw [List.getElem?_map, hd]; rfl
  rw [hga, hdm] at hc
  simp at hc
  subst hc
  have hrd := hr i es v ds[i] he hv' hd
  have hok' := hval i t v (by simpa using ht) hv
  exact argV_rel (k := ctx (fun _ => none) [] W) (stab_nil0 W) hrd (fun ha => okWide_agg ha hok') (fun ha => ⟨okWide_one ha hok', shT_one ha hse⟩)

/-! ### weights -/
mutual
def wD : D → Nat
 | .v (.string s) => s.size + 1
 | .sl xs => wDss xs + 1
 | _ => 1
def wDs : List D → Nat
 | [] => 0
 | d :: r => wD d + wDs r
def wDss : List (List D) → Nat
 | [] => 0
 | x :: r => wDs x + wDss r
end
theorem wDs_app : ∀ (a b : List D), wDs (a ++ b) = wDs a + wDs b
 | [], b => by simp [wDs]
 | d :: a, b => by simp only [List.cons_append, wDs, wDs_app a b]; omega
end
end Go.Aw

namespace Go.Aw.Try
open Go Go.Proofs Go.Proofs.YtocddjiebigmgaaGreatDoor Go.Aw
set_option maxRecDepth 100000
/-! ### what came in, as data of this program -/
abbrev idSh : List Sh := [.s, .i .i64]
abbrev editSh : List Sh := [.s, .i .i64, .i .i64, .i .i64, .sl idSh, .i .i64, .s, .i .i64, .s, .i .i64, .b, .s, .s, .s, .s, .s, .i .i64, .s]
theorem dec_id {l : List D} (h : okShs idSh l) : ∃ x : Id, l = x.row := by
 simp only [idSh, okShs, okSh] at h
 obtain ⟨_, _, rfl, ⟨a, rfl⟩, _, _, rfl, ⟨n, rfl, _⟩, rfl⟩ := h
 exact ⟨⟨a, n⟩, rfl⟩
theorem dec_list {α : Type} {row : α → List D} {sh : List Sh} (hd : ∀ l, okShs sh l → ∃ x, l = row x) : ∀ {xs : List (List D)}, (∀ x ∈ xs, okShs sh x) → ∃ l : List α, xs = l.map row
 | [], _ => ⟨[], rfl⟩
 | x :: xs, h => by
  obtain ⟨a, rfl⟩ := hd x (h x List.mem_cons_self)
  obtain ⟨l, rfl⟩ := dec_list hd (fun y hy => h y (List.mem_cons_of_mem _ hy))
  exact ⟨a :: l, rfl⟩
theorem dec_edit {l : List D} (h : okShs editSh l) : ∃ e : Edit, l = e.row := by
 simp only [editSh, okShs, okSh] at h
 obtain ⟨_, _, rfl, ⟨a1, rfl⟩, _, _, rfl, ⟨a2, rfl, _⟩, _, _, rfl, ⟨a3, rfl, _⟩, _, _, rfl, ⟨a4, rfl, _⟩, _, _, rfl, ⟨a5, rfl, h5⟩, _, _, rfl, ⟨a6, rfl, _⟩, _, _, rfl, ⟨a7, rfl⟩, _, _, rfl, ⟨a8, rfl, _⟩, _, _, rfl, ⟨a9, rfl⟩, _, _, rfl, ⟨a10, rfl, _⟩,
  _, _, rfl, ⟨a11, rfl⟩, _, _, rfl, ⟨a12, rfl⟩, _, _, rfl, ⟨a13, rfl⟩, _, _, rfl, ⟨a14, rfl⟩, _, _, rfl, ⟨a15, rfl⟩, _, _, rfl, ⟨a16, rfl⟩, _, _, rfl, ⟨a17, rfl, _⟩, _, _, rfl, ⟨a18, rfl⟩, rfl⟩ := h
 obtain ⟨ds, rfl⟩ := dec_list (row := Id.row) (fun l h => dec_id h) h5
 exact ⟨⟨⟨a1, a2⟩, a3, a4, ds, a6, ⟨a7, a8⟩, ⟨a9, a10⟩, a11, a12, a13, a14, a15, ⟨a16, a17⟩, a18⟩, rfl⟩
theorem dec_edits {l : List D} (h : okShs [.sl editSh] l) : ∃ es : List Edit, l = [.sl (es.map Edit.row)] := by
 simp only [okShs, okSh] at h
 obtain ⟨_, _, rfl, ⟨xs, rfl, h⟩, rfl⟩ := h
 obtain ⟨es, rfl⟩ := dec_list (row := Edit.row) (fun l h => dec_edit h) h
 exact ⟨es, rfl⟩
theorem wrows {α : Type} {row : α → List D} (h : ∀ x, row x ≠ []) : ∀ l : List α, l.length ≤ wDss (l.map row)
 | [] => by simp
 | x :: l => by
  have := wrows h l
  have h1 : 1 ≤ wDs (row x) := by
   cases hx : row x with
   | nil => exact absurd hx (h x)
   | cons d r =>
    have : 1 ≤ wD d := by unfold wD; split <;> omega
    simp only [wDs]; omega
  simp only [List.map_cons, wDss, List.length_cons]; omega
section
variable {H : Type}
mutual
theorem bulk_D : ∀ d : DataW H, wDs (datD d) ≤ Rows.uptoBulk d
 | .lit l => by cases l <;> simp [datD, wDs, wD, Rows.uptoBulk, ByteArray.size]
 | .nil => by simp [datD, wDs, wD, wDss, Rows.uptoBulk]
 | .ptr d => by simp [datD, wDs]
 | .slice es sp => by
  have := bulk_Ds es
  simp only [datD, wDs, wD, Rows.uptoBulk]; omega
 | .agg ps => by
  have := bulk_F ps
  simp only [datD, Rows.uptoBulk]; omega
 | .iface t d => by simp [datD, wDs]
 | .map es => by simp [datD, wDs]
 | .held h => by simp [datD, wDs]
theorem bulk_Ds : ∀ l : List (DataW H), wDss (datDs l) ≤ Rows.uptoBulkAll l
 | [] => by simp [datDs, wDss]
 | d :: r => by
  have h1 := bulk_D d
  have h2 := bulk_Ds r
  simp only [datDs, wDss, Rows.uptoBulkAll]; omega
theorem bulk_F : ∀ l : List (DataW H), wDs (datF l) ≤ Rows.uptoBulkAll l
 | [] => by simp [datF, wDs]
 | d :: r => by
  have h1 := bulk_D d
  have h2 := bulk_F r
  simp only [datF, Rows.uptoBulkAll]; rw [wDs_app]; omega
end
/-- The bound, argument by argument. -/
theorem bulk_args {ds : List (DataW H)} (hk : Rows.uptoSmall H ds = true) : ∀ (i : Nat) u, (ds.map datD)[i]? = some u → wDs u ≤ 1048576 := by
 have h : Rows.uptoBulkAll ds ≤ 1048576 := of_decide_eq_true hk
 intro i u hu
 have key : ∀ (ds : List (DataW H)) (i : Nat) u, (ds.map datD)[i]? = some u → wDs u ≤ Rows.uptoBulkAll ds := by
  intro ds
  induction ds with
  | nil => intro i u hu; simp at hu
  | cons d r ih =>
   intro i u hu
   cases i with
   | zero => simp at hu; subst hu; have := bulk_D d; simp only [Rows.uptoBulkAll]; omega
   | succ i => simp at hu; have := ih i u (by simpa using hu); simp only [Rows.uptoBulkAll]; omega
 exact Nat.le_trans (key ds i u hu) h
end
theorem own : ownKnob Tryz.prog.godebug = none := by kernel_rfl
theorem laid : laidOutB Tryz.prog = true := by kernel_rfl
theorem wmem {α : Type} {row : α → List D} : ∀ {l : List α} {x : α}, x ∈ l → wDs (row x) ≤ wDss (l.map row)
 | [], x, h => by cases h
 | y :: l, x, h => by
  simp only [List.map_cons, wDss]
  rcases List.mem_cons.1 h with rfl | h
  ·omega
  ·have := wmem (row := row) h; omega
/-- internal/bytealg.MaxLen holds an int: of the world's shape. -/
theorem maxlen {W : World} (h : W.ShapedOpen Tryz.prog) : ∃ m, GRel (GM m) (stab (fun _ => none) [] W) W := by
 obtain ⟨m, hm⟩ := cell_of_shapedOpen_int (P := Tryz.prog) (g := 0) (t := 3) (zero := #[.int .i64 0]) h (of_decide_eq_true (by kernel_rfl)) (by kernel_rfl) rfl (by kernel_rfl) (by kernel_rfl) Tryz.underlying3
 refine ⟨m, fun g cs hg => ?_⟩
 unfold GM at hg
 split at hg
 ·rename_i h0
  subst h0
  injection hg with hg; subst hg
  have hlt : 0 < W.heap.size := World.block_lt_of_cell? _ _ hm
  refine ⟨⟨hlt, fun r o hr => by simp at hr⟩, hlt, fun j d hj => ?_⟩
  cases j with
  | zero => injection hj with hj; subst hj; exact ⟨_, hm, DRel.v _ rfl⟩
  | succ j => simp at hj
 ·cases hg
/-! ### the witness's world -/
def litV : DataW Unit → Value
 | .lit (.int k n) => .int k n
 | _ => undef
def aggV : DataW Unit → List Value
 | .agg xs => xs.flatMap fun d => match d with
  | .agg ys => ys.map litV
  | d => [litV d]
 | _ => []
def layO (cs : Array Value) : Obj → Obj
 | .cells _ t fz => .cells cs t fz
 | o => o
noncomputable def laidWorld (os : Os) : World :=
  { World.holding Tryz.prog os ⟨#[], #[], []⟩ with heap := ((World.holding Tryz.prog os ⟨#[], #[], []⟩).heap.modify 1 (layO (aggV Go.Pinned.utf8First).toArray)).modify 2 (layO (aggV (Rows.laid_unicode_utf8_acceptRanges (H := Unit))).toArray) }
theorem dec_ids {l : List D} (h : okShs [.sl idSh] l) : ∃ es : List Id, l = [.sl (es.map Id.row)] := by
 simp only [okShs, okSh] at h
 obtain ⟨_, _, rfl, ⟨xs, rfl, h⟩, rfl⟩ := h
 obtain ⟨es, rfl⟩ := dec_list (row := Id.row) (fun l h => dec_id h) h
 exact ⟨es, rfl⟩
theorem dec_u8 {l : List D} (h : okShs [.i .u8] l) : ∃ n : Nat, l = [.v (.int .u8 n)] ∧ n ≤ 255 := by
 simp only [okShs, okSh] at h
 obtain ⟨_, _, rfl, ⟨n, rfl, h⟩, rfl⟩ := h
 simp [Lit.wf, IntKind.bits, IntKind.signed, IntKind.min, IntKind.max] at h
 obtain ⟨k, rfl⟩ := Int.eq_ofNat_of_zero_le (a := n) (by omega)
 exact ⟨k, rfl, by omega⟩
theorem b_ids {l : List Id} (h : wDs [.sl (l.map Id.row)] ≤ 1048576) : l.length < 1152921504606846976 ∧ ∀ x ∈ l, x.a.size < 1152921504606846976 := by
 simp only [wDs, wD] at h
 have h1 := wrows (row := Id.row) (fun x => by simp [Id.row]) l
 refine ⟨by omega, fun e he => ?_⟩
 have h2 := wmem (row := Id.row) he
 have h6 : e.a.size ≤ wDs (Id.row e) := by simp only [Id.row, wDs, wD]; omega
 omega
theorem b_edits {l : List Edit} (h : wDs [.sl (l.map Edit.row)] ≤ 1048576) : l.length < 1152921504606846976 ∧ ∀ e ∈ l, Siz e := by
 simp only [wDs, wD] at h
 have h1 := wrows (row := Edit.row) (fun x => by simp [Edit.row]) l
 refine ⟨by omega, fun e he => ?_⟩
 have h2 := wmem (row := Edit.row) he
 have h4 := wrows (row := Id.row) (fun x => by simp [Id.row]) e.deps
 have h5 : wDs e.row ≤ 1048576 := by omega
 simp only [Edit.row, wDs, wD] at h5
 exact ⟨by omega, by omega, by omega, by omega, by omega, by omega, by omega, by omega, by omega, by omega⟩
theorem okA {v : List Id} {l : List Edit} (hv : v.length < 1152921504606846976 ∧ ∀ x ∈ v, x.a.size < 1152921504606846976) (hl : l.length < 1152921504606846976 ∧ ∀ e ∈ l, Siz e) : OkA v l := ⟨hv.1, hv.2, hl.1, hl.2⟩
end Go.Aw.Try

namespace Go.Aw.Try
open Go Go.Proofs Go.Aw
set_option maxRecDepth 100000
set_option maxHeartbeats 4000000
/-! ### logs received under the bounds -/
structure OkR (v : List Id) (l : List Edit) : Prop where
 asc : AscI v
 pos : PosI v
 vl : v.length ≤ 8
 ll : l.length ≤ 1000
 ee : ∀ e ∈ l, OkE e ∧ e.deps.length ≤ 12
theorem okE_small {e : Edit} (h : bigB e = false) : OkE e ∧ e.deps.length ≤ 12 := by
 unfold bigB at h
 simp only [Bool.or_eq_false_iff, decide_eq_false_iff_not, List.any_eq_false, decide_eq_true_eq] at h
 obtain ⟨h1, h2, h3, h4, h5⟩ := h
 exact ⟨⟨by omega, by omega, by omega, by omega, by omega, by omega, by omega, by omega, by omega, by omega, fun x hx => by have := h5 x hx; omega⟩, by omega⟩
theorem few_ok {v : List Id} {l : List Edit} (h : fewB v l = true) : OkR v l := by
 unfold fewB at h
 simp only [Bool.and_eq_true, decide_eq_true_eq, List.all_eq_true, Bool.not_eq_true'] at h
 obtain ⟨h1, h2, h3, h4⟩ := h
 obtain ⟨a, b⟩ := chk_asc h3
 exact ⟨a, b, h1, by omega, fun e he => okE_small (h4 e he)⟩
theorem foldS_len : ∀ (l : List Edit) (s : List Id), (foldS s l).length ≤ s.length + l.length
 | [], s => by simp [foldS]
 | e :: l, s => by
  have h1 := addI_len s e.id
  have h2 := foldS_len l (addI s e.id)
  show (foldS (addI s e.id) l).length ≤ _
  rw [List.length_cons]; omega
theorem okL {v : List Id} {l m : List Edit} {A : LogE} (h : OkR v l) (hr : Rec chkE v m A) (hm : ∀ e ∈ m, e ∈ l) : OkL A ∧ A.pen.length ≤ 1000 ∧ A.del.length ≤ 1000 ∧ ∀ p ∈ A.pen, p.deps.length ≤ 12 := by
 have hd : A.del.length ≤ l.length := by
  refine nodup_le ?_ fun e he => hm e (hr.dv e he).2
  exact (ord_ids A.del v h.asc h.pos hr.c.inv.ord fun e he => chkE_val (hr.dv e he).1).imp fun hne heq => hne (by rw [heq])
 have hp : A.pen.length ≤ l.length := by
  refine nodup_le ?_ fun e he => hm e (hr.pv e he).2
  exact hr.so.imp fun {a b} hlt heq => by
   subst heq
   have := cmpE_pre.rf a
   omega
 have hll := h.ll
 have hsl := foldS_len A.del v
 rw [← hr.c.inv.sn] at hsl
 have hvl := h.vl
 refine ⟨⟨by omega, by omega, by omega, hr.c.inv.asc, hr.so, fun e he => ?_, fun e he => ?_⟩, by omega, by omega, fun e he => ?_⟩
 ·have := (h.ee e (hm e (hr.dv e he).2)).2; omega
 ·have := (h.ee e (hm e (hr.pv e he).2)).2; omega
 ·exact (h.ee e (hm e (hr.pv e he).2)).2
noncomputable abbrev recV (v : List Id) (l : List Edit) : LogE := recA chkE ⟨[], [], v⟩ l
theorem recV_rec {v : List Id} {l : List Edit} (h0 : AscI v) (p0 : PosI v) (m : List Edit) : Rec chkE v m (recV v m) := by
 have := rec_all (chk := chkE) (fun e => chkE_val) m (rec_nil (chk := chkE) h0 p0)
 rwa [List.nil_append] at this
theorem recA_take {L : LogE} {l : List Edit} {i : Nat} (h : i < l.length) : recA chkE L (l.take (i + 1)) = (delE chkE (recA chkE L (l.take i)) (nth l i)).1 := by
 rw [take_nth h]
 unfold recA
 rw [List.foldl_append]; rfl
/-! all -/
theorem k1017 (m : Int) (v : List Id) (l : List Edit) (h : OkR v l) (H : List O) : ACalls Tryz.prog (GM m) 17 [.c (.d (.sl (v.map Id.row))), .c (.d (.sl (l.map Edit.row)))] H
  fun t H' => t = .v (.agg ((logD (recV v l)).map .d)) ∧ H' = H := by
 have s1 : (x1011 m).sc = false := rfl
 have hll := h.ll
 refine acallsX (X := [(11, x1011 m)]) ⟨kx1011 m, trivial⟩ tab hmix Tryz.func17 c1017 (by rfl) fun hw => ?_
 simp (implicitDefEqProofs := false) (disch := omega) [gz, ir1017, b1017, fillC, splice, Nat.add_assoc]
 refine loopE (fun k st => ∃ i, i ≤ l.length ∧ k = l.length - i ∧
   st = ⟨ofL [(1, .v (.c (.d (.sl (l.map Edit.row))))), (4, .v (.c (.ptr H.length 0))), (5, .v (.c (.ptr (H.length + 1) 0))), (10, .int .i64 l.length), (11, .int .i64 i)],
    H ++ [.cells [.d (.v (.slice none 0 0)), .d (.v (.slice none 0 0)), .d (.v (.slice none 0 0))], .cells ((logD (recV v (l.take i))).map .d)]⟩)
  (fun st => AtS [(4, .v (.c (.ptr H.length 0))), (5, .v (.c (.ptr (H.length + 1) 0)))] (H ++ [.cells [.d (.v (.slice none 0 0)), .d (.v (.slice none 0 0)), .d (.v (.slice none 0 0))], .cells ((logD (recV v l)).map .d)]) st) ?_ ?_ ?_
 ·refine wk_tell_cell (H.length + 1) 0 (cs := [.d (.v (.slice none 0 0)), .d (.v (.slice none 0 0)), .d (.sl (v.map Id.row))]) (c := .d (.v (.slice none 0 0))) (d := .sl []) (by simp [frz1]) rfl (by simp) ?_
  refine wk_tell_cell (H.length + 1) 1 (cs := [.d (.sl []), .d (.v (.slice none 0 0)), .d (.sl (v.map Id.row))]) (c := .d (.v (.slice none 0 0))) (d := .sl []) (by simp [frz1]) rfl (by simp) ?_
  simp only [frz1]
  have e1 : ((H ++ [O.cells [.d (.v (.slice none 0 0)), .d (.v (.slice none 0 0)), .d (.v (.slice none 0 0))], .cells [.d (.v (.slice none 0 0)), .d (.v (.slice none 0 0)), .d (.sl (v.map Id.row))]]).set (H.length + 1) (.cells ([.d (.v (.slice none 0 0)), .d (.v (.slice none 0 0)), .d (.sl (v.map Id.row))].set 0 (.d (.sl []))))).set (H.length + 1) (.cells ([.d (.sl []), .d (.v (.slice none 0 0)), .d (.sl (v.map Id.row))].set 1 (.d (.sl [])))) =
    H ++ [O.cells [.d (.v (.slice none 0 0)), .d (.v (.slice none 0 0)), .d (.v (.slice none 0 0))], .cells [.d (.sl []), .d (.sl []), .d (.sl (v.map Id.row))]] := by
   simp
  rw [e1]
  refine wk_pre [0, 1] [1, 4, 5, 10, 11] hw rfl ⟨_, 0, by omega, rfl, ?_⟩
  simp [phi, O.ren, C.ren, recA]
 ·rintro J M hJ hM k st ⟨i, hi, rfl, rfl⟩
  by_cases hlt : i < l.length
  ·have hrec := recV_rec (l := l) h.asc h.pos (l.take i)
   obtain ⟨A, hA⟩ : ∃ A, A = recV v (l.take i) := ⟨_, rfl⟩
   have hnext : recV v (l.take (i + 1)) = (delE chkE A (nth l i)).1 := by rw [hA]; exact recA_take hlt
   rw [← hA] at hrec ⊢
   have g1 := xg1011 m A (nth l i) (okL h hrec fun e he => List.mem_of_mem_take he).1 (h.ee _ (nth_mem hlt)).1
   rw [← hnext] at g1
   simp (implicitDefEqProofs := false) (disch := omega) [gz, hlt, wrap64, nth_map, (erow _).len, take_of_len, (erow _).mapO, (erow _).tk, (erow _).nrm, borRow, (erow _).cl, borV_map, osR_map, frz_map, nth_set_ne, (erow _).spl (erow _), s1, g1, fillC, splice, toPVs, frzVs, osVs, toPV, Nat.add_assoc]
   repeat' (with_reducible apply And.intro)
   all_goals first | omega | kernel_rfl | skip
   subst hJ
   refine wk_pre [0, 1] [1, 4, 5, 10, 11] hw rfl ⟨l.length - (i + 1), by omega, i + 1, by omega, rfl, ?_⟩
   simp [phi, O.ren, C.ren]
  ·have : i = l.length := by omega
   subst this
   rw [List.take_length]
   simp (implicitDefEqProofs := false) (disch := omega) [gz, hlt]
   subst hM
   exact at_mk (by simp) rfl
 ·rintro _ ⟨sl, rfl⟩
  simp (implicitDefEqProofs := false) (disch := omega) [gz, fillC, splice]
  exact fin_pre_pv hw (by simp [toPV]; rfl) (by simp [frz, frz1]; rfl) ⟨rfl, rfl⟩
noncomputable def x1017 (m : Int) : XE := mkX false (fun (p : List Id × List Edit) => [.c (.sl (p.1.map Id.row)), .c (.sl (p.2.map Edit.row))]) (fun p => OkR p.1 p.2) (fun p => .v (.agg ((logD (recV p.1 p.2)).map .d)))
theorem kx1017 (m : Int) : Contract Tryz.prog (GM m) 17 (x1017 m) := mkX_data fun p h H => k1017 m p.1 p.2 h H
theorem injIL (a b : List Id × List Edit) (h : [PVo.c (D.sl (a.1.map Id.row)), PVo.c (.sl (a.2.map Edit.row))] = [PVo.c (.sl (b.1.map Id.row)), .c (.sl (b.2.map Edit.row))]) : a = b := by
 simp only [List.cons.injEq, PVo.c.injEq, D.sl.injEq] at h
 exact Prod.ext (ids_inj h.1) (rows_inj h.2.1)
theorem xg1017 (m : Int) (v : List Id) (l : List Edit) (h : OkR v l) : (x1017 m).g [.c (.sl (v.map Id.row)), .c (.sl (l.map Edit.row))] = some (True, .v (.agg ((logD (recV v l)).map .d))) := mkX_g injIL (v, l) h
/-! the chapter's example -/
def annE : Edit := noteE sAnn 1 1
def bobE : Edit := { noteE sBob 1 2 with deps := [⟨sAnn, 1⟩] }
theorem chk_ann : chkE annE = 0 := by decide +kernel
theorem chk_bob : chkE bobE = 0 := by decide +kernel
theorem del1 : delE chkE ⟨[], [], []⟩ bobE = (⟨[], [bobE], []⟩, 19) := by
 unfold delE
 rw [if_neg (by rw [chk_bob]; simp), if_neg (by simp [forkB]), if_neg (by simp [hasId, conI, hasN, bobE, noteE]), if_pos (by decide +kernel)]
 rfl
theorem del2 : delE chkE ⟨[], [bobE], []⟩ annE = (⟨[annE, bobE], [], [⟨sAnn, 1⟩, ⟨sBob, 1⟩]⟩, 0) := by
 have hne : bobE.id ≠ annE.id := by decide +kernel
 have h1 : conI [] annE.id = false := by decide +kernel
 have h2 : hasId [bobE] annE.id = false := by simp [hasId, hne]
 unfold delE
 rw [if_neg (by rw [chk_ann]; simp), if_neg (by simp [forkB, List.find?, hne]), if_neg (by rw [h1, h2]; simp), if_neg (by decide +kernel)]
 have : runL 1 ⟨[], [bobE], []⟩ annE = ⟨[annE, bobE], [], [⟨sAnn, 1⟩, ⟨sBob, 1⟩]⟩ := by kernel_rfl
 show (runL 1 ⟨[], [bobE], []⟩ annE, (0 : Int)) = _
 rw [this]
theorem mis1 : missL ⟨[], [bobE], []⟩ = [⟨sAnn, 1⟩] := by kernel_rfl
theorem nth_0 {x : List D} {l : List (List D)} : nth (x :: l) 0 = x := rfl
theorem nth_1 {x y : List D} {l : List (List D)} : nth (x :: y :: l) 1 = y := rfl
theorem k1010 (m : Int) : ACalls Tryz.prog (GM m) 10 [] [] fun t H => t = .bool true ∧ H = [] := by
 have s1 : (x1011 m).sc = false := rfl
 have s2 : x1015.sc = false := rfl
 have okA : OkE annE := (okE_small (by decide +kernel)).1
 have okB : OkE bobE := (okE_small (by decide +kernel)).1
 have o1 : OkL ⟨[], [], []⟩ := ⟨by simp, by simp, by simp, List.Pairwise.nil, List.Pairwise.nil, fun e h => (nomatch h), fun e h => (nomatch h)⟩
 have o2 : OkL ⟨[], [bobE], []⟩ := ⟨by simp, by simp, by simp, List.Pairwise.nil, List.pairwise_singleton _ _, fun e h => (nomatch h), fun e h => by
  rcases List.mem_singleton.1 h with rfl; decide +kernel⟩
 have g1 := xg1011 m _ _ o1 okB
 rw [del1] at g1
 have g2 := xg1011 m _ _ o2 okA
 rw [del2] at g2
 have g3 := xg1015 ⟨[], [bobE], []⟩ List.Pairwise.nil (by simp) (by simp) (fun p hp => by rcases List.mem_singleton.1 hp with rfl; decide +kernel)
 rw [mis1] at g3
 have hb : bobE.row = [.v (.string ⟨#[98, 111, 98]⟩), .v (.int .i64 1), .v (.int .i64 2), .v (.int .i64 0), .sl [[.v (.string ⟨#[97, 110, 110]⟩), .v (.int .i64 1)]], .v (.int .i64 6), .v (.string ⟨#[]⟩), .v (.int .i64 0), .v (.string ⟨#[]⟩), .v (.int .i64 0), .v (.bool false), .v (.string ⟨#[]⟩), .v (.string ⟨#[]⟩), .v (.string ⟨#[]⟩), .v (.string ⟨#[]⟩), .v (.string ⟨#[]⟩), .v (.int .i64 0), .v (.string ⟨#[]⟩)] := rfl
 have ha : annE.row = [.v (.string ⟨#[97, 110, 110]⟩), .v (.int .i64 1), .v (.int .i64 1), .v (.int .i64 0), .sl [], .v (.int .i64 6), .v (.string ⟨#[]⟩), .v (.int .i64 0), .v (.string ⟨#[]⟩), .v (.int .i64 0), .v (.bool false), .v (.string ⟨#[]⟩), .v (.string ⟨#[]⟩), .v (.string ⟨#[]⟩), .v (.string ⟨#[]⟩), .v (.string ⟨#[]⟩), .v (.int .i64 0), .v (.string ⟨#[]⟩)] := rfl
 have i1 : (⟨sAnn, 1⟩ : Id).row = [.v (.string ⟨#[97, 110, 110]⟩), .v (.int .i64 1)] := rfl
 have i2 : (⟨sBob, 1⟩ : Id).row = [.v (.string ⟨#[98, 111, 98]⟩), .v (.int .i64 1)] := rfl
 simp only [logD, List.map_cons, List.map_nil, hb, ha, i1, i2] at g1 g2 g3
 refine acallsX (X := [(11, x1011 m), (15, x1015)]) ⟨kx1011 m, kx1015.gm, trivial⟩ tab hmix Tryz.func10 c1010 (by rfl) fun hw => ?_
 simp (implicitDefEqProofs := false) (disch := omega) [gz, ir1010, b1010, b1010_0, b1010_1, b1010_2, b1010_3, b1010_4, b1010_5, b1010_6, b1010_7, s1, g1, s2, g3, g2, fillC, splice, fillR, toPVs, frzVs, osVs, toPV, wrap64, cellsEq, skEq, nth_0, nth_1]
 repeat' (with_reducible apply And.intro)
 all_goals first | omega | kernel_rfl | skip
 exact fin_nil ⟨rfl, rfl⟩
noncomputable def x1010 : XE := mkX true (fun (_ : Unit) => []) (fun _ => True) (fun _ => .bool true)
theorem kx1010 (m : Int) : Contract Tryz.prog (GM m) 10 x1010 := mkX_scal (fun _ => rfl) fun _ _ => k1010 m
theorem xg1010 : x1010.g [] = some (True, .bool true) := mkX_g (fun a b h => rfl) () trivial
end Go.Aw.Try

namespace Go.Aw.Try
open Go Go.Proofs Go.Aw
set_option maxRecDepth 100000
set_option maxHeartbeats 4000000
/-! ### forked -/
def ForkP (l : List Edit) : Prop := ∃ i k, i < l.length ∧ k < i ∧ (nth l i).id = (nth l k).id ∧ nth l i ≠ nth l k
noncomputable def forkedB (l : List Edit) : Bool := open Classical in decide (ForkP l)
theorem forked_no {l : List Edit} (h : forkedB l = false) : ∀ e ∈ l, ∀ f ∈ l, e.id = f.id → e = f := by
 unfold forkedB at h
 simp only [decide_eq_false_iff_not] at h
 intro e he f hf hid
 obtain ⟨i, hi, rfl⟩ := List.mem_iff_getElem.1 he
 obtain ⟨j, hj, rfl⟩ := List.mem_iff_getElem.1 hf
 apply Classical.byContradiction
 intro hne
 rcases Nat.lt_trichotomy i j with q | q | q
 ·exact h ⟨j, i, hj, q, by rw [nth_eq hi, nth_eq hj]; exact hid.symm, by rw [nth_eq hi, nth_eq hj]; exact fun x => hne x.symm⟩
 ·subst q; exact hne rfl
 ·exact h ⟨i, j, hi, q, by rw [nth_eq hi, nth_eq hj]; exact hid, by rw [nth_eq hi, nth_eq hj]; exact hne⟩
theorem k1021 (l : List Edit) (hl : l.length < 1152921504606846976) (hd : ∀ e ∈ l, e.deps.length < 4611686018427387904) : ACalls Tryz.prog G0 21 [.c (.d (.sl (l.map Edit.row)))] [] fun t H => t = .bool (forkedB l) ∧ H = [] := by
 have s1 : x62.sc = true := rfl
 obtain ⟨R, hR⟩ : ∃ R, R = forkedB l := ⟨_, rfl⟩
 rw [← hR]
 refine acallsX (X := [(23, x62)]) ⟨kx62, trivial⟩ tab hmix Tryz.func21 c1021 (by rfl) fun hw => ?_
 simp (implicitDefEqProofs := false) (disch := omega) [gz, ir1021, b1021, wrap64]
 refine loopG (fun k st => ∃ i, i ≤ l.length ∧ k = l.length - i ∧ (∀ i' k', i' < i → k' < i' → (nth l i').id = (nth l k').id → nth l i' = nth l k') ∧
   st = ⟨ofL [(0, .v (.c (.d (.sl (l.map Edit.row))))), (6, .int .i64 l.length), (7, .int .i64 i)], []⟩) ?_ ?_
 ·refine wk_keep [0, 6, 7] ⟨_, 0, by omega, rfl, fun _ _ h => by omega, ?_⟩
  simp
 ·rintro J hJ k st ⟨i, hi, rfl, hno, rfl⟩
  by_cases hlt : i < l.length
  ·simp (implicitDefEqProofs := false) (disch := omega) [gz, hlt, wrap64]
   refine loopE (fun k st => ∃ j, j ≤ i ∧ k = i - j ∧ (∀ k', k' < j → (nth l i).id = (nth l k').id → nth l i = nth l k') ∧
     st = ⟨ofL [(0, .v (.c (.d (.sl (l.map Edit.row))))), (3, .int .i64 i), (4, .int .i64 j), (6, .int .i64 l.length), (7, .int .i64 i)], []⟩)
    (fun st => (∀ k', k' < i → (nth l i).id = (nth l k').id → nth l i = nth l k') ∧ AtS [(0, .v (.c (.d (.sl (l.map Edit.row))))), (6, .int .i64 l.length), (7, .int .i64 i)] [] st) ?_ ?_ ?_
   ·refine wk_keep [0, 3, 4, 6, 7] ⟨_, 0, by omega, rfl, fun _ h => by omega, ?_⟩
    simp
   ·rintro J2 M2 hJ2 hM2 k2 st2 ⟨j, hj, rfl, hno2, rfl⟩
    by_cases hlt2 : j < i
    ·have hjl : j < l.length := by omega
     have hji : (j : Int) < (i : Int) := by omega
     have g1 := xg62 (nth l i) (nth l j) (hd _ (nth_mem hlt))
     obtain ⟨x, hx⟩ : ∃ x, nth l i = x := ⟨_, rfl⟩
     obtain ⟨y, hy⟩ : ∃ y, nth l j = y := ⟨_, rfl⟩
     have hxe := Edit.row_eq x
     have hye := Edit.row_eq y
     rw [hx, hy, hxe, hye] at g1
     rw [hx] at hno2
     have step : ((x.id = y.id → x = y)) → ∀ k', k' < j + 1 → x.id = (nth l k').id → x = nth l k' := fun hq k' hk => by
      by_cases q : k' = j
      ·subst q; rw [hy]; exact hq
      ·exact hno2 k' (by omega)
     by_cases q : x.id = y.id
     ·obtain ⟨qa, qn⟩ := (Id.eq_iff x.id y.id).1 q
      by_cases p : x = y
      ·rw [decide_eq_true p, qa, qn] at g1
       simp (implicitDefEqProofs := false) (disch := omega) [gz, hlt, hji, hjl, wrap64, nth_map, hx, hy, hxe, hye, cellsEq, skEq, qa, qn, s1, g1]
       refine ⟨by kernel_rfl, ?_⟩
       subst hJ2
       refine wk_keep [0, 3, 4, 6, 7] ⟨i - (j + 1), by omega, j + 1, by omega, rfl, ?_, ?_⟩
       ·rw [hx]; exact step fun _ => p
       ·simp
      ·rw [decide_eq_false p, qa, qn] at g1
       have hyes : forkedB l = true := by
        unfold forkedB
        simp only [decide_eq_true_eq]
        exact ⟨i, j, hlt, hlt2, by rw [hx, hy]; exact q, by rw [hx, hy]; exact p⟩
       simp (implicitDefEqProofs := false) (disch := omega) [gz, hlt, hji, hjl, wrap64, nth_map, hx, hy, hxe, hye, cellsEq, skEq, qa, qn, s1, g1]
       refine ⟨by kernel_rfl, ?_⟩
       exact fin_nil ⟨by rw [hR, hyes]; rfl, rfl⟩
     ·by_cases qa : x.id.a = y.id.a
      ·have qn : ¬ x.id.n = y.id.n := fun h => q ((Id.eq_iff _ _).2 ⟨qa, h⟩)
       simp (implicitDefEqProofs := false) (disch := omega) [gz, hlt, hji, hjl, wrap64, nth_map, hx, hy, hxe, hye, cellsEq, skEq, qa, qn]
       refine ⟨by kernel_rfl, ?_⟩
       subst hJ2
       refine wk_keep [0, 3, 4, 6, 7] ⟨i - (j + 1), by omega, j + 1, by omega, rfl, ?_, ?_⟩
       ·rw [hx]; exact step fun h => absurd h q
       ·simp
      ·simp (implicitDefEqProofs := false) (disch := omega) [gz, hlt, hji, hjl, wrap64, nth_map, hx, hy, hxe, hye, cellsEq, skEq, qa]
       refine ⟨by kernel_rfl, ?_⟩
       subst hJ2
       refine wk_keep [0, 3, 4, 6, 7] ⟨i - (j + 1), by omega, j + 1, by omega, rfl, ?_, ?_⟩
       ·rw [hx]; exact step fun h => absurd h q
       ·simp
    ·have hji : ¬ (j : Int) < (i : Int) := by omega
     have : j = i := by omega
     subst this
     simp (implicitDefEqProofs := false) (disch := omega) [gz, hji]
     subst hM2
     exact ⟨hno2, at_mk (by simp) rfl⟩
   ·rintro _ ⟨hno2, sl, rfl⟩
    simp (implicitDefEqProofs := false) (disch := omega) [gz, wrap64]
    subst hJ
    refine wk_keep [0, 6, 7] ⟨l.length - (i + 1), by omega, i + 1, by omega, rfl, fun i' k' h1 h2 => ?_, ?_⟩
    ·by_cases q : i' = i
     ·subst q; exact hno2 k' h2
     ·exact hno i' k' (by omega) h2
    ·simp
  ·have : i = l.length := by omega
   subst this
   have hno' : forkedB l = false := by
    unfold forkedB
    simp only [decide_eq_false_iff_not]
    rintro ⟨i', k', h1, h2, h3, h4⟩
    exact h4 (hno i' k' h1 h2 h3)
   simp (implicitDefEqProofs := false) (disch := omega) [gz, hlt]
   exact fin_nil ⟨by rw [hR, hno']; rfl, rfl⟩
noncomputable def x1021 : XE := mkX true (fun (l : List Edit) => [.c (.sl (l.map Edit.row))]) (fun l => l.length < 1152921504606846976 ∧ ∀ e ∈ l, e.deps.length < 4611686018427387904) (fun l => .bool (forkedB l))
theorem kx1021 : Contract Tryz.prog G0 21 x1021 := mkX_scal (fun _ => rfl) fun l h => k1021 l h.1 h.2
theorem xg1021 (l : List Edit) (hl : l.length < 1152921504606846976) (hd : ∀ e ∈ l, e.deps.length < 4611686018427387904) : x1021.g [.c (.sl (l.map Edit.row))] = some (True, .bool (forkedB l)) := mkX_g (fun a b h => by simp at h; exact rows_inj h) l ⟨hl, hd⟩
end Go.Aw.Try

namespace Go.Aw.Try
open Go Go.Proofs Go.Aw
set_option maxRecDepth 100000
set_option maxHeartbeats 4000000
/-! ### confluence -/
theorem okR_more {v : List Id} {l m : List Edit} (h : OkR v l) (hm : ∀ e ∈ m, e ∈ l) (hl : m.length ≤ 1000) : OkR v m := ⟨h.asc, h.pos, h.vl, hl, fun e he => h.ee e (hm e he)⟩
theorem k1005 (m : Int) (v : List Id) (l : List Edit) (b : Nat) (h : OkA v l) (hb : b ≤ 255) : ACalls Tryz.prog (GM m) 5 [.c (.d (.sl (v.map Id.row))), .c (.d (.sl (l.map Edit.row))), .c (.d (.v (.int .u8 b)))] [] fun t H => t = .bool true ∧ H = [] := by
 have s1 : x1009.sc = true := rfl
 have s2 : x1010.sc = true := rfl
 have s3 : (x1017 m).sc = false := rfl
 have s4 : x1014.sc = true := rfl
 have s5 : x1022.sc = true := rfl
 have s6 : x1021.sc = true := rfl
 have s7 : x62.sc = true := rfl
 have g1 := xg1009 v l h
 have g2 := xg1010
 have g21 := xg1021 l h.ll (fun e he => by have := (h.ls e he).dl; omega)
 refine acallsX (X := [(9, x1009), (10, x1010), (17, x1017 m), (14, x1014), (22, x1022), (21, x1021), (23, x62)]) ⟨kx1009.gm, kx1010 m, kx1017 m, kx1014.gm, kx1022.gm, kx1021.gm, kx62.gm, trivial⟩ tab hmix Tryz.func5 c1005 (by rfl) fun hw => ?_
 by_cases c1 : 12 < l.length
 ·have c1' : (12 : Int) < (l.length : Int) := by omega
  simp (implicitDefEqProofs := false) (disch := omega) [gz, ir1005, b1005, b1005_0, b1005_1, c1, c1', s2, g2]
  exact fin_nil ⟨rfl, rfl⟩
 ·have c1' : ¬ (12 : Int) < (l.length : Int) := by omega
  cases hf : fewB v l
  ·rw [hf] at g1
   simp (implicitDefEqProofs := false) (disch := omega) [gz, ir1005, b1005, b1005_0, b1005_1, c1, c1', s1, g1, s2, g2]
   exact fin_nil ⟨rfl, rfl⟩
  ·rw [hf] at g1
   cases hk : forkedB l
   ·rw [hk] at g21
    have hr := few_ok hf
    have nf := forked_no hk
    simp (implicitDefEqProofs := false) (disch := omega) [gz, ir1005, b1005, b1005_0, b1005_1, b1005_2, b1005_3, c1, c1', s1, g1, s6, g21, fillC, splice, fillR, wrap64]
    refine loopE (fun k st => ∃ (i : Nat) (M : List Edit), i ≤ l.length ∧ k = l.length - i ∧ M.length = i ∧ (∀ e ∈ M, e ∈ l) ∧
      st = ⟨ofL [(0, .v (.c (.d (.sl (v.map Id.row))))), (1, .v (.c (.d (.sl (l.map Edit.row))))), (2, .v (.c (.d (.v (.int .u8 b))))), (7, .v (.c (.os 0 18 0 M.length))), (30, .int .i64 l.length), (31, .int .i64 i)], [.row 18 (M.map Edit.row)]⟩)
     (fun st => ∃ M : List Edit, M.length = l.length ∧ (∀ e ∈ M, e ∈ l) ∧ AtS [(0, .v (.c (.d (.sl (v.map Id.row))))), (1, .v (.c (.d (.sl (l.map Edit.row))))), (7, .v (.c (.os 0 18 0 M.length)))] [.row 18 (M.map Edit.row)] st) ?_ ?_ ?_
    ·refine wk_nil [0] [0, 1, 2, 7, 30, 31] rfl ⟨_, 0, [], by omega, rfl, rfl, fun e he => (nomatch he), ?_⟩
     simp [phi, O.ren, C.ren]
    ·rintro J N hJ hN k st ⟨i, M, hi, rfl, hML, hMl, rfl⟩
     by_cases hlt : i < l.length
     ·obtain ⟨p, hp⟩ : ∃ p, p = (i + b) % l.length := ⟨_, rfl⟩
      have hpl : p < l.length := by rw [hp]; exact Nat.mod_lt _ (by omega)
      have hpt : ((i : Int) + (b : Int)).tmod (l.length : Int) = (p : Int) := by
       rw [hp]; exact_mod_cast (Int.ofNat_tmod (i + b) l.length).symm
      obtain ⟨r, hr'⟩ : ∃ r, r = l.length - 1 - p := ⟨_, rfl⟩
      have hrl : r < l.length := by omega
      have hrt : (l.length : Int) - 1 - (p : Int) = (r : Int) := by omega
      obtain ⟨f, hf'⟩ : ∃ f, nth l r = f := ⟨_, rfl⟩
      have tA : (M.map Edit.row).take M.length = M.map Edit.row := List.take_of_length_le (by simp)
      have hlne : ¬ l = [] := fun q => by subst q; simp at hlt
      simp (implicitDefEqProofs := false) (disch := omega) [gz, hlne, hlt, wrap64, hpt, hpl, hrt, hrl, hf', tA, fillC, splice, fillR, nth_map, (erow _).len, take_of_len, (erow _).mapO, (erow _).tk, (erow _).nrm, borRow, (erow _).cl, borV_map, osR_map, frz_map, nth_set_ne, (erow _).spl (erow _)]
      repeat' (with_reducible apply And.intro)
      all_goals first | omega | kernel_rfl | skip
      subst hJ
      refine wk_nil [2] [0, 1, 2, 7, 30, 31] rfl ⟨l.length - (i + 1), by omega, i + 1, M ++ [f], by omega, rfl, by simp [hML], fun e he => ?_, ?_⟩
      ·rcases List.mem_append.1 he with he | he
       ·exact hMl e he
       ·rw [List.mem_singleton.1 he, ← hf']; exact nth_mem hrl
      ·simp [phi, O.ren, C.ren]
     ·have : i = l.length := by omega
      subst this
      simp (implicitDefEqProofs := false) (disch := omega) [gz, hlt]
      subst hN
      exact ⟨M, hML, hMl, at_mk (by simp) rfl⟩
    ·rintro _ ⟨M, hML, hMl, sl, rfl⟩
     have hset : ∀ e, e ∈ M ++ l ↔ e ∈ l := fun e => by
      rw [List.mem_append]
      exact ⟨fun q => q.elim (hMl e) id, .inr⟩
     have hrM : OkR v (M ++ l) := okR_more hr (fun e he => (hset e).1 he) (by simp; omega)
     have tA : (M.map Edit.row).take l.length = M.map Edit.row := List.take_of_length_le (by simp [hML])
     have tB : (M.map Edit.row ++ l.map Edit.row).take (l.length + l.length) = M.map Edit.row ++ l.map Edit.row := List.take_of_length_le (by simp [hML])
     have rA : ∀ y ∈ l.map Edit.row, y.length = 18 := by
      intro y hy; obtain ⟨x, _, rfl⟩ := List.mem_map.1 hy; rfl
     have ga := xg1017 m v l hr
     have gb := xg1017 m v (M ++ l) hrM
     have hca := recV_rec (l := l) hr.asc hr.pos l
     have hcb := recV_rec (l := l) hr.asc hr.pos (M ++ l)
     obtain ⟨q1, q2, q3, q4⟩ := confluence (chk := chkE) (fun e => chkE_val) hr.asc hr.pos nf hset
     obtain ⟨A, hA⟩ : ∃ A, A = recV v l := ⟨_, rfl⟩
     obtain ⟨B, hB⟩ : ∃ B, B = recV v (M ++ l) := ⟨_, rfl⟩
     rw [← hA] at ga hca
     rw [← hB] at gb hcb
     rw [show recA chkE ⟨[], [], v⟩ l = A from hA.symm, show recA chkE ⟨[], [], v⟩ (M ++ l) = B from hB.symm] at q1 q2 q3
     rw [show recA chkE ⟨[], [], v⟩ l = A from hA.symm, show recA chkE ⟨[], [], v⟩ (M ++ l) = B from hB.symm] at q4
     rw [List.map_append] at gb
     obtain ⟨okA, hAp, hAd, _⟩ := okL hr hca fun e he => he
     obtain ⟨okB, _, hBd, _⟩ := okL hrM hcb fun e he => he
     have g22 := xg1022 A.pen B.pen (by omega) (fun e he => by have := okA.pd e he; omega)
     rw [decide_eq_true q2] at g22
     have g14 := xg1014 A.seen B.seen (by have := okA.sl; omega)
     rw [decide_eq_true q3] at g14
     simp (implicitDefEqProofs := false) (disch := omega) [gz, b1005_4, b1005_5, b1005_6, hML, tA, tB, s3, ga, gb, s5, g22, s4, g14, q1, fillC, splice, fillR, toPVs, frzVs, osVs, toPV, wrap64]
     repeat' (with_reducible apply And.intro)
     all_goals first | omega | kernel_rfl | exact fun _ _ => rfl | skip
     refine loopE (fun k st => ∃ i, i ≤ A.del.length ∧ k = A.del.length - i ∧
       st = ⟨ofL [(9, .v (.c (.ptr 0 0))), (10, .v (.c (.ptr 1 0))), (85, .int .i64 A.del.length), (86, .int .i64 i)], [.cells ((logD A).map .d), .cells ((logD B).map .d)]⟩)
      (fun st => True) ?_ ?_ ?_
     ·refine wk_nil [2, 3] [9, 10, 85, 86] rfl ⟨_, 0, by omega, rfl, ?_⟩
      simp [phi, O.ren, C.ren, q1]
     ·rintro J N hJ hN k st ⟨i, hi, rfl, rfl⟩
      by_cases hlt : i < A.del.length
      ·have hmem := q4 _ (nth_mem hlt)
       obtain ⟨x, hx⟩ : ∃ x, nth A.del i = x := ⟨_, rfl⟩
       rw [hx] at hmem
       have hxd := okA.dd _ (nth_mem hlt)
       rw [hx] at hxd
       simp (implicitDefEqProofs := false) (disch := omega) [gz, hlt, fillC, splice, wrap64]
       refine loopE (fun k st => ∃ j, j ≤ B.del.length ∧ k = B.del.length - j ∧
         st = ⟨ofL [(9, .v (.c (.ptr 0 0))), (10, .v (.c (.ptr 1 0))), (11, .int .i64 i), (12, .bool ((B.del.take j).any fun y => decide (x = y))), (85, .int .i64 A.del.length), (86, .int .i64 i), (91, .int .i64 B.del.length), (92, .int .i64 j)], [.cells ((logD A).map .d), .cells ((logD B).map .d)]⟩)
        (fun st => AtS [(9, .v (.c (.ptr 0 0))), (10, .v (.c (.ptr 1 0))), (12, .bool (B.del.any fun y => decide (x = y))), (85, .int .i64 A.del.length), (86, .int .i64 i)] [.cells ((logD A).map .d), .cells ((logD B).map .d)] st) ?_ ?_ ?_
       ·refine wk_nil [0, 1] [9, 10, 11, 12, 85, 86, 91, 92] rfl ⟨_, 0, by omega, rfl, ?_⟩
        simp [phi, O.ren, C.ren]
       ·rintro J2 N2 hJ2 hN2 k2 st2 ⟨j, hj, rfl, rfl⟩
        by_cases hlt2 : j < B.del.length
        ·have hst := any_take (fun y => decide (x = y)) hlt2
         have g7 := xg62 x (nth B.del j) (by omega)
         cases hm : (B.del.take j).any fun y => decide (x = y)
         ·rw [hm, Bool.false_or] at hst
          rw [← hst] at g7
          simp (implicitDefEqProofs := false) (disch := omega) [gz, hlt, hlt2, hx, s7, g7, fillC, splice, wrap64, nth_map, (erow _).len, take_of_len, (erow _).mapO, (erow _).tk, (erow _).nrm, borRow, (erow _).cl, borV_map, osR_map, frz_map, nth_set_ne, (erow _).spl (erow _)]
          repeat' (with_reducible apply And.intro)
          all_goals first | omega | kernel_rfl | skip
          subst hJ2
          refine wk_nil [0, 1] [9, 10, 11, 12, 85, 86, 91, 92] rfl ⟨B.del.length - (j + 1), by omega, j + 1, by omega, rfl, ?_⟩
          simp [phi, O.ren, C.ren]
         ·rw [hm, Bool.true_or] at hst
          simp (implicitDefEqProofs := false) (disch := omega) [gz, hlt, hlt2, hx, fillC, splice, wrap64]
          repeat' (with_reducible apply And.intro)
          all_goals first | omega | kernel_rfl | skip
          subst hJ2
          refine wk_nil [0, 1] [9, 10, 11, 12, 85, 86, 91, 92] rfl ⟨B.del.length - (j + 1), by omega, j + 1, by omega, rfl, ?_⟩
          rw [hst]
          simp [phi, O.ren, C.ren]
        ·have : j = B.del.length := by omega
         subst this
         rw [List.take_length]
         simp (implicitDefEqProofs := false) (disch := omega) [gz, hlt2]
         subst hN2
         exact at_mk (by simp) rfl
       ·rintro _ ⟨sl2, rfl⟩
        have hyes : (B.del.any fun y => decide (x = y)) = true := by
         rw [List.any_eq_true]
         exact ⟨x, hmem, by simp⟩
        rw [hyes]
        simp (implicitDefEqProofs := false) (disch := omega) [gz, wrap64]
        subst hJ
        refine wk_nil [0, 1] [9, 10, 85, 86] rfl ⟨A.del.length - (i + 1), by omega, i + 1, by omega, rfl, ?_⟩
        simp [phi, O.ren, C.ren]
      ·simp (implicitDefEqProofs := false) (disch := omega) [gz, hlt]
       subst hN
       trivial
     ·intro st _
      simp (implicitDefEqProofs := false) (disch := omega) [gz, b1005_7, b1005_8, s2, g2]
      exact fin_nil ⟨rfl, rfl⟩
   ·rw [hk] at g21
    simp (implicitDefEqProofs := false) (disch := omega) [gz, ir1005, b1005, b1005_0, b1005_1, c1, c1', s1, g1, s2, g2, s6, g21]
    exact fin_nil ⟨rfl, rfl⟩
end Go.Aw.Try
