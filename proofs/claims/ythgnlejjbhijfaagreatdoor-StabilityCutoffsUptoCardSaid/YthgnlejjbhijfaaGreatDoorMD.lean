/- An abstract machine over the model, and contracts of functions of this program on it (part 4): words and lemmas for the proof in the last text. -/
import Derived.Sort.Grow
import Derived.Sort.EncStr
import Derived.Lib.SlicesCompact
import Derived.Test.YthgnlejjbhijfaaGreatDoorMC
set_option linter.unusedVariables false
set_option linter.unusedSimpArgs false
set_option linter.unusedSectionVars false

namespace Go.Aw
open Go

/-- A row that is told as data as it is. -/
structure RowOk (sz : Nat) (y : List D) : Prop where
 len : y.length = sz
 nn : ∀ d ∈ y, ∀ c, d ≠ .v (.slice none 0 c)

theorem osR_map (y : List D) : osR (y.map .d) = [] := by
 induction y with
 | nil => rfl
 | cons d y ih => simpa [osR] using ih
theorem frz_map (H : List O) (y : List D) : frz H (y.map .d) = H := by
 induction y with
 | nil => rfl
 | cons d y ih => simpa [frz, frz1] using ih

theorem toDs_of (y : List D) (h : ∀ d ∈ y, ∀ c, d ≠ .v (.slice none 0 c)) (H : List O) : toDs H (y.map .d) = some y := by
 induction y with
 | nil => rfl
 | cons d y ih =>
  have hd : toD H (.d d) = some d := by
   unfold toD
   split
   ·rename_i c e; exact absurd (by injection e) (h d List.mem_cons_self c)
   ·rename_i e; injection e with e; subst e; rfl
   ·rename_i e; cases e
   ·rename_i q _; exact absurd rfl (q d)
  simp only [List.map_cons, toDs, hd, ih fun d hd => h d (List.mem_cons_of_mem _ hd)]

theorem RowOk.cl {sz : Nat} {y : List D} (h : RowOk sz y) (H : List O) : toDs H (y.map .d) = some y := toDs_of y h.nn H
theorem RowOk.tk {sz : Nat} {y : List D} (h : RowOk sz y) {β : Type} (g : D → β) : (y.map g).take sz = y.map g := List.take_of_length_le (by rw [List.length_map, h.len]; exact Nat.le_refl _)
theorem RowOk.nrm {sz : Nat} {y : List D} (h : RowOk sz y) : y.map (nrmC ∘ C.d) = y.map C.d := by
 refine List.map_congr_left fun d hd => ?_
 simp only [Function.comp]
 unfold nrmC
 split
 ·rename_i c e; exact absurd (by injection e) (h.nn d hd c)
 ·rfl
theorem RowOk.mapO {sz : Nat} {y : List D} (h : RowOk sz y) (n : Nat) (H : List O) : Go.Aw.mapO (Go.Aw.toB n H) (y.map .d) = some y := by
 have h0 := h.cl H
 have key : ∀ (l : List D) m, toDs H (l.map .d) = some m → Go.Aw.mapO (Go.Aw.toB n H) (l.map .d) = some m := by
  intro l
  induction l with
  | nil => intro m hm; simpa [toDs, Go.Aw.mapO] using hm
  | cons d l ih =>
   intro m hm
   simp only [List.map_cons, toDs] at hm
   split at hm
   ·rename_i d' ds h1 h2
    injection hm with hm; subst hm
    have hb : Go.Aw.toB n H (.d d) = some d' := by
     cases n with
     | zero => exact h1
     | succ n => simpa only [toB] using h1
    simp only [List.map_cons, Go.Aw.mapO, hb, ih _ h2]
   ·cases hm
 exact key y y h0

theorem wk_keep {P : Program} {G : Gl} {N0 : Nat} {sl : Nat → T} {hp : List O} {K : St → Prop} (keep : List Nat) (h : K ⟨ofL (keep.map fun t => (t, sl t)), hp⟩) : wk P G N0 ⟨sl, hp⟩ K := by
 refine ⟨⟨ofL (keep.map fun t => (t, sl t)), hp⟩, fun n b ρ a w hb1 hb2 hs => ⟨ρ, hs.heap, hs.size, hs.defers, fun t => ?_, hs.glob, hs.le⟩, h⟩
 show TRel P _ (ofL _ t) _
 rcases ofL_map sl keep t with h | h
 ·rw [h]; exact hs.slots t
 ·rw [h]; trivial

theorem borV_map (H : List O) (y : List D) : borV H (.agg (y.map .d)) = [] := by
 simp only [borV, V.cells]
 induction y with
 | nil => rfl
 | cons d y ih => simp [borC, osR]
theorem borRow (n : Nat) (H : List O) (y : List D) : (y.map C.d).flatMap (borC n H) = [] := by
 induction y with
 | nil => rfl
 | cons d y ih => simp only [List.map_cons, List.flatMap_cons, borC_d, ih, List.nil_append]
theorem nth_set_ne {α : Type} [Inhabited α] {l : List α} {i k : Nat} {x : α} (h : i ≠ k) : nth (l.set i x) k = nth l k := by
 simp [nth, List.getD_eq_getElem?_getD, h]
theorem RowOk.spl {sz : Nat} {y z : List D} (h : RowOk sz y) (k : RowOk sz z) : splice y 0 z = z := by
 simp [splice, h.len, k.len]
theorem take_of_len {α : Type} {n : Nat} {l : List α} (h : l.length = n) : l.take n = l := by subst h; simp
/-- Between two pieces of code: what is known there. -/
def cutQ (J : St → Prop) (Q : Qt) : Qt
 | .normal, s => J s
 | e, s => Q e s
@[simp ↓] theorem cutQ_n {J : St → Prop} {Q : Qt} {s : St} : cutQ J Q .normal s = J s := rfl
@[simp ↓] theorem cutQ_x {J : St → Prop} {Q : Qt} {s : St} {i : Nat} : cutQ J Q (.exit i) s = Q (.exit i) s := rfl
@[simp ↓] theorem cutQ_r {J : St → Prop} {Q : Qt} {s : St} : cutQ J Q .ret s = Q .ret s := rfl
theorem seqX {P : Program} {G : Gl} {X : XT} {N0 : Nat} {x y : AC} {st : St} {Q : Qt} (J : St → Prop) (h1 : wcodeX P G X N0 x st (cutQ J Q)) (h2 : ∀ s, J s → wcodeX P G X N0 y s Q) :
  wcodeX P G X N0 (.seq x y) st Q := by
 show wcodeX P G X N0 x st (thenQ (wcodeX P G X N0 y) Q)
 refine wcodeX_mono (fun e s q => ?_) h1
 cases e with
 | normal => exact h2 s q
 | exit i => exact q
 | ret => exact q
/-- A loop, its invariant kept out of sight while the body is run. -/
theorem loopG {P : Program} {G : Gl} {X : XT} {N0 : Nat} {x : AC} {st : St} {Q : Qt} (I : Nat → St → Prop) (h0 : wk P G N0 st fun s => ∃ k, I k s)
  (h : ∀ J : Nat → St → Prop, J = I → ∀ k s, I k s → wcodeX P G X N0 x s (loopN P G N0 J k Q)) : wcodeX P G X N0 (.loop x) st Q := loopX I h0 (h I rfl)
/-- The same, with what holds where the loop is left. -/
def exitQ (id : Nat) (J : St → Prop) (Q : Qt) : Qt
 | .exit i, s => if i = id then J s else Q (.exit i) s
 | .normal, s => Q .normal s
 | .ret, s => Q .ret s
@[simp ↓] theorem exitQ_x {id i : Nat} {J : St → Prop} {Q : Qt} {s : St} : exitQ id J Q (.exit i) s = if i = id then J s else Q (.exit i) s := rfl
@[simp ↓] theorem exitQ_n {id : Nat} {J : St → Prop} {Q : Qt} {s : St} : exitQ id J Q .normal s = Q .normal s := rfl
@[simp ↓] theorem exitQ_r {id : Nat} {J : St → Prop} {Q : Qt} {s : St} : exitQ id J Q .ret s = Q .ret s := rfl
theorem loopE {P : Program} {G : Gl} {X : XT} {N0 id : Nat} {x : AC} {st : St} {Q : Qt} (I : Nat → St → Prop) (E : St → Prop) (h0 : wk P G N0 st fun s => ∃ k, I k s)
  (h : ∀ (J : Nat → St → Prop) (L : St → Prop), J = I → L = E → ∀ k s, I k s → wcodeX P G X N0 x s (loopN P G N0 J k (exitQ id L (blockQ id Q)))) (hE : ∀ s, E s → Q .normal s) :
  wcodeX P G X N0 (.loop x) st (blockQ id Q) := by
 refine loopX I h0 fun k s hs => ?_
 refine wcodeX_mono (fun e s' q => ?_) (h I E rfl rfl k s hs)
 cases e with
 | normal => exact q
 | ret => exact q
 | exit i =>
  show if i = id then Q .normal s' else Q (.exit i) s'
  have q : if i = id then E s' else blockQ id Q (.exit i) s' := q
  by_cases hi : i = id
  ·rw [if_pos hi] at q ⊢; exact hE _ q
  ·rw [if_neg hi] at q ⊢
   have q : if i = id then Q .normal s' else Q (.exit i) s' := q
   rw [if_neg hi] at q; exact q
/-- Slots: some are known, the others are what they are. -/
def ofLr : List (Nat × T) → (Nat → T) → Nat → T
 | [], f => f
 | (d, t) :: r, f => fun i => if i = d then t else ofLr r f i
@[simp] theorem ofLr_c {d : Nat} {t : T} {r : List (Nat × T)} {f : Nat → T} {i : Nat} : ofLr ((d, t) :: r) f i = if i = d then t else ofLr r f i := rfl
theorem ofLr_fix {f : Nat → T} : ∀ {l : List (Nat × T)}, (∀ p ∈ l, f p.1 = p.2) → f = ofLr l f
 | [], _ => rfl
 | (d, t) :: r, h => by
  funext i
  simp only [ofLr]
  split
  ·rename_i e; subst e; exact h _ List.mem_cons_self
  ·exact congrFun (ofLr_fix fun p hp => h p (List.mem_cons_of_mem _ hp)) i
/-- These slots are known; the regions are these. -/
def AtS (l : List (Nat × T)) (H : List O) (s : St) : Prop := ∃ f, s = ⟨ofLr l f, H⟩
theorem at_mk {l : List (Nat × T)} {sl : Nat → T} {H H' : List O} (h : ∀ p ∈ l, sl p.1 = p.2) (hH : H' = H) : AtS l H ⟨sl, H'⟩ := ⟨sl, by rw [← ofLr_fix h, hH]⟩
attribute [simp] elems optI maxLen47 fop.capsOf fop.capsX keyOf keyOf.scals
def AC.hd : AC → AC
 | .seq x _ => x
 | c => c
def AC.tl : AC → AC
 | .seq _ y => y
 | c => c

end Go.Aw

namespace Go.Aw
section
variable {E : Type} [Inhabited E] {cmp : E → E → Int}
/-- Where the element comes to lie. -/
def insP (cmp : E → E → Int) (es : List E) (a : Nat) (v : E) : Nat → Nat
 | 0 => 0
 | j + 1 => if a < j + 1 ∧ cmp v (nth es j) < 0 then insP cmp es a v j else j + 1
def insN (cmp : E → E → Int) (a : Nat) : Nat → Nat → List E → List E
 | 0, i, es => es
 | n + 1, i, es => insN cmp a n (i + 1) (mv es i (insP cmp es a (nth es i) i))

theorem insP_spec {P s S : List E} {v : E} : ∀ k, k ≤ s.length → (∀ x ∈ s.drop k, cmp v x < 0) →
  ∃ k', k' ≤ k ∧ insP cmp (P ++ s ++ S) P.length v (P.length + k) = P.length + k' ∧ (∀ x ∈ s.drop k', cmp v x < 0) ∧ (∀ h : 0 < k', ¬ cmp v (nth s (k' - 1)) < 0)
 | 0, hk, hd => ⟨0, Nat.le_refl _, by
   show insP cmp _ P.length v P.length = P.length
   cases h : P.length with
   | zero => rfl
   | succ n => simp only [insP]; rw [if_neg (by omega)], hd, fun h => absurd h (by omega)⟩
 | k + 1, hk, hd => by
  have e : nth (P ++ s ++ S) (P.length + k) = nth s k := by
   rw [List.append_assoc, nth_app_r (by omega), nth_app_l (by omega)]; congr 1; omega
  show ∃ k', k' ≤ k + 1 ∧ insP cmp (P ++ s ++ S) P.length v (P.length + k + 1) = _ ∧ _
  simp only [insP, e]
  by_cases hc : cmp v (nth s k) < 0
  ·rw [if_pos ⟨by omega, hc⟩]
   obtain ⟨k', h1, h2, h3, h4⟩ := insP_spec (P := P) (s := s) (S := S) (v := v) k (by omega) (fun x hx => by
    have : s.drop k = nth s k :: s.drop (k + 1) := by rw [List.drop_eq_getElem_cons (by omega)]; congr 1; simp [nth, List.getD_eq_getElem?_getD, show k < s.length by omega]
    rw [this] at hx
    rcases List.mem_cons.1 hx with e | e
    ·subst e; exact hc
    ·exact hd x e)
   exact ⟨k', by omega, h2, h3, h4⟩
  ·rw [if_neg fun q => hc q.2]
   exact ⟨k + 1, Nat.le_refl _, by omega, hd, fun _ => by simpa using hc⟩

theorem mv_app {P s1 s2 S : List E} {v : E} : mv (P ++ (s1 ++ s2) ++ v :: S) (P.length + (s1 ++ s2).length) (P.length + s1.length) = P ++ (s1 ++ v :: s2) ++ S := by
 unfold mv
 have e0 : P ++ (s1 ++ s2) ++ v :: S = (P ++ s1) ++ (s2 ++ v :: S) := by simp
 have e1 : nth (P ++ (s1 ++ s2) ++ v :: S) (P.length + (s1 ++ s2).length) = v := by
  rw [nth_app_r (by simp)]; simp [nth]
 rw [e1, e0, List.take_left' (by simp), List.drop_left' (by simp)]
 have e2 : (s2 ++ v :: S).take (P.length + (s1 ++ s2).length - (P.length + s1.length)) = s2 := List.take_left' (by simp; omega)
 have e3 : (P ++ s1 ++ (s2 ++ v :: S)).drop (P.length + (s1 ++ s2).length + 1) = S := by
  have : P ++ s1 ++ (s2 ++ v :: S) = (P ++ s1 ++ s2 ++ [v]) ++ S := by simp
  rw [this]; exact List.drop_left' (by simp; omega)
 rw [e2, e3]; simp

theorem ins_step (hp : Pre cmp) {P s S : List E} {v : E} (hs : Srt cmp s) :
  ∃ w, mv (P ++ s ++ v :: S) (P.length + s.length) (insP cmp (P ++ s ++ v :: S) P.length v (P.length + s.length)) = P ++ w ++ S ∧ Srt cmp w ∧ Flt cmp w (s ++ [v]) ∧ w.length = s.length + 1 := by
 obtain ⟨k, h1, h2, h3, h4⟩ := insP_spec (P := P) (s := s) (S := v :: S) (v := v) (cmp := cmp) s.length (Nat.le_refl _) (by simp)
 rw [h2]
 have hsp : s = s.take k ++ s.drop k := (List.take_append_drop k s).symm
 have hl : (s.take k).length = k := by simp; omega
 have := mv_app (P := P) (s1 := s.take k) (s2 := s.drop k) (S := S) (v := v)
 rw [← hsp, hl] at this
 refine ⟨s.take k ++ v :: s.drop k, this, ?_, ?_, by simp; omega⟩
 ·have h5 : ∀ x ∈ s.take k, cmp x v ≤ 0 := fun x hx => by
   by_cases hk : k = 0
   ·subst hk; simp at hx
   obtain ⟨i, hi, e⟩ := mem_nth hx
   rw [hl] at hi
   rw [nth_take hi] at e
   have h6 := hp.le_of_not (h4 (by omega))
   have h7 := hs.nth_le hp (show i ≤ k - 1 by omega) (by omega)
   rw [e] at h7
   exact hp.tr _ _ _ h7 h6
  refine Srt.app (by rw [hsp] at hs; exact hs.left) (List.pairwise_cons.2 ⟨fun x hx => by have := h3 x hx; omega, by rw [hsp] at hs; exact hs.right⟩) fun x hx y hy => ?_
  rcases List.mem_cons.1 hy with e | e
  ·subst e; exact h5 x hx
  ·rw [hsp] at hs; exact hs.cross hx e
 ·rw [show s ++ [v] = s.take k ++ (s.drop k ++ [v]) by rw [← List.append_assoc, ← hsp]]
  refine (Flt.refl _).app ?_
  have := Flt.swap hp (u := s.drop k) (v := [v]) (fun y hy x hx => by simp at hy; subst hy; exact h3 x hx)
  simpa using this

theorem insN_spec (hp : Pre cmp) {P S : List E} : ∀ (t s : List E), Srt cmp s →
  ∃ w, insN cmp P.length t.length (P.length + s.length) (P ++ s ++ (t ++ S)) = P ++ w ++ S ∧ Srt cmp w ∧ Flt cmp w (s ++ t) ∧ w.length = s.length + t.length
 | [], s, hs => ⟨s, by simp [insN], hs, by simpa using Flt.refl _, by simp⟩
 | v :: t, s, hs => by
  have e1 : nth (P ++ s ++ (v :: t ++ S)) (P.length + s.length) = v := by rw [nth_app_r (by simp)]; simp [nth]
  obtain ⟨w, h1, h2, h3, h4⟩ := ins_step (P := P) (S := t ++ S) (v := v) hp hs
  have h1' : mv (P ++ s ++ (v :: t ++ S)) (P.length + s.length) (insP cmp (P ++ s ++ (v :: t ++ S)) P.length v (P.length + s.length)) = P ++ w ++ (t ++ S) := h1
  simp only [List.length_cons, insN, e1, h1']
  obtain ⟨w', g1, g2, g3, g4⟩ := insN_spec (P := P) (S := S) hp t w h2
  rw [show P.length + s.length + 1 = P.length + w.length by omega, g1]
  refine ⟨w', rfl, g2, g3.trans ?_, by omega⟩
  have := h3.app (Flt.refl (cmp := cmp) t)
  simpa using this
/-- Insertion sort, as it is called. -/
theorem ins_sorts (hp : Pre cmp) {P u S : List E} : ∃ w, insN cmp P.length (P.length + u.length - (P.length + 1)) (P.length + 1) (P ++ u ++ S) = P ++ w ++ S ∧ Srt cmp w ∧ Flt cmp w u ∧ w.length = u.length := by
 cases u with
 | nil => exact ⟨[], by rw [show P.length + ([] : List E).length - (P.length + 1) = 0 by simp]; rfl, List.Pairwise.nil, Flt.refl _, rfl⟩
 | cons x t =>
  obtain ⟨w, h1, h2, h3, h4⟩ := insN_spec (P := P) (S := S) hp t [x] (by simp [Srt])
  have e : P.length + (x :: t).length - (P.length + 1) = t.length := by simp; omega
  rw [e]
  simp only [List.length_singleton] at h1
  refine ⟨w, by rw [← h1]; simp, h2, by simpa using h3, by simp at h4 ⊢; omega⟩

/-! ### swapping ranges, rotating -/
def swap2 (l : List E) (p q : Nat) : List E := (l.set p (nth l q)).set q (nth l p)
def swp (es : List E) (a b : Nat) : Nat → List E
 | 0 => es
 | i + 1 => swap2 (swp es a b i) (a + i) (b + i)
theorem swp_len (es : List E) (a b : Nat) : ∀ i, (swp es a b i).length = es.length
 | 0 => rfl
 | i + 1 => by simp [swp, swap2, swp_len es a b i]
theorem swap2_get {l : List E} {p q : Nat} (hp : p < l.length) (hq : q < l.length) (k : Nat) : (swap2 l p q)[k]? = if k = q then l[p]? else if k = p then l[q]? else l[k]? := by
 unfold swap2
 rw [List.getElem?_set, List.getElem?_set, List.length_set, get_nth hp, get_nth hq]
 (repeat' split) <;> first | rfl | omega
theorem swp_get {es : List E} {a b : Nat} : ∀ {n : Nat}, a + n ≤ b → b + n ≤ es.length → ∀ k,
  (swp es a b n)[k]? = if a ≤ k ∧ k < a + n then es[k - a + b]? else if b ≤ k ∧ k < b + n then es[k - b + a]? else es[k]?
 | 0, h1, h2, k => by rw [if_neg (by omega), if_neg (by omega)]; rfl
 | n + 1, h1, h2, k => by
  have hl := swp_len es a b n
  have ih := swp_get (es := es) (a := a) (b := b) (n := n) (by omega) (by omega)
  simp only [swp]
  rw [swap2_get (by omega) (by omega), ih, ih, ih]
  (repeat' split) <;> first | rfl | omega | (congr 1; omega)
theorem swp_app {Q x y z T : List E} {n a b : Nat} (hx : x.length = n) (hz : z.length = n) (ha : a = Q.length) (hb : b = Q.length + x.length + y.length) :
  swp (Q ++ (x ++ (y ++ (z ++ T)))) a b n = Q ++ (z ++ (y ++ (x ++ T))) := by
 apply List.ext_getElem?
 intro k
 rw [swp_get (by omega) (by simp; omega)]
 subst ha; subst hb
 simp only [List.getElem?_append]
 repeat' split
 all_goals first | omega | rfl | (congr 1; omega)
/-- The rotation's steps; 'n': how many more there may be. -/
def rotN (m : Nat) : Nat → Nat → Nat → List E → List E
 | 0, i, j, es => es
 | n + 1, i, j, es => if i = j then swp es (m - i) m i else if j < i then rotN m n (i - j) j (swp es (m - i) m j) else rotN m n i (j - i) (swp es (m - i) (m + j - i) i)
theorem rotN_more (m : Nat) : ∀ (n n' i j : Nat) (es : List E), 0 < i → 0 < j → i + j ≤ n → i + j ≤ n' → rotN m n i j es = rotN m n' i j es
 | 0, n', i, j, es, hi, hj, h, h' => by omega
 | n + 1, 0, i, j, es, hi, hj, h, h' => by omega
 | n + 1, n' + 1, i, j, es, hi, hj, h, h' => by
  simp only [rotN]
  by_cases e : i = j
  ·rw [if_pos e, if_pos e]
  ·rw [if_neg e, if_neg e]
   by_cases e2 : j < i
   ·rw [if_pos e2, if_pos e2]; exact rotN_more m n n' _ _ _ (by omega) hj (by omega) (by omega)
   ·rw [if_neg e2, if_neg e2]; exact rotN_more m n n' _ _ _ hi (by omega) (by omega) (by omega)
theorem rotN_app {m : Nat} : ∀ (n : Nat) {i j : Nat} {Q u v T : List E}, i = u.length → j = v.length → m = Q.length + u.length → 0 < i → 0 < j → i + j ≤ n →
  rotN m n i j (Q ++ (u ++ (v ++ T))) = Q ++ (v ++ (u ++ T))
 | 0, i, j, Q, u, v, T, hu, hv, hm, hi, hj, hn => by omega
 | n + 1, i, j, Q, u, v, T, hu, hv, hm, hi, hj, hn => by
  simp only [rotN]
  by_cases e : i = j
  ·rw [if_pos e]
   have := swp_app (Q := Q) (x := u) (y := []) (z := v) (T := T) (n := i) (a := m - i) (b := m) (by omega) (by omega) (by omega) (by simp; omega)
   simpa using this
  ·rw [if_neg e]
   by_cases e2 : j < i
   ·rw [if_pos e2]
    have hs : u = u.take j ++ u.drop j := (List.take_append_drop j u).symm
    have hl : (u.take j).length = j := by simp; omega
    have hl2 : (u.drop j).length = i - j := by simp; omega
    generalize u.take j = x at hs hl
    generalize u.drop j = y at hs hl2
    subst hs
    have := swp_app (Q := Q) (x := x) (y := y) (z := v) (T := T) (n := j) (a := m - i) (b := m) hl (by omega) (by omega) (by simp at hm; omega)
    rw [List.append_assoc x y, this]
    have := rotN_app n (m := m) (i := i - j) (j := j) (Q := Q ++ v) (u := y) (v := x) (T := T) (by omega) (by omega) (by simp at hm ⊢; omega) (by omega) hj (by omega)
    simpa using this
   ·rw [if_neg e2]
    have hs : v = v.take (j - i) ++ v.drop (j - i) := (List.take_append_drop (j - i) v).symm
    have hl : (v.take (j - i)).length = j - i := by simp; omega
    have hl2 : (v.drop (j - i)).length = i := by simp; omega
    generalize v.take (j - i) = x at hs hl
    generalize v.drop (j - i) = y at hs hl2
    subst hs
    have := swp_app (Q := Q) (x := u) (y := x) (z := y) (T := T) (n := i) (a := m - i) (b := m + j - i) (by omega) hl2 (by omega) (by omega)
    rw [List.append_assoc x y, this]
    have := rotN_app n (m := m) (i := i) (j := j - i) (Q := Q) (u := y) (v := x) (T := u ++ T) (by omega) (by omega) (by omega) hi (by omega) (by omega)
    rw [this]; simp

/-! ### merging -/
/-- What a merge gives: P, S stay; between them a sorted list with u ++ v's classes. -/
def Merged (cmp : E → E → Int) (u w : List E) : Prop := Srt cmp w ∧ Flt cmp w u ∧ w.length = u.length

theorem merge_split (hp : Pre cmp) {u1 u2 v1 v2 w1 w2 : List E} (hu : Srt cmp (u1 ++ u2)) (hv : Srt cmp (v1 ++ v2))
  (h1 : ∀ x ∈ v1, ∀ y ∈ u2, cmp x y < 0) (h2 : ∀ x ∈ u1, ∀ y ∈ v2, cmp x y ≤ 0) (k1 : Merged cmp (u1 ++ v1) w1) (k2 : Merged cmp (u2 ++ v2) w2) :
  Merged cmp ((u1 ++ u2) ++ (v1 ++ v2)) (w1 ++ w2) := by
 refine ⟨k1.1.app k2.1 fun x hx y hy => ?_, ?_, by have := k1.2.2; have := k2.2.2; simp at *; omega⟩
 ·have hx := (k1.2.1.mem hp).1 hx
  have hy := (k2.2.1.mem hp).1 hy
  rcases List.mem_append.1 hx with hx | hx <;> rcases List.mem_append.1 hy with hy | hy
  ·exact hu.cross hx hy
  ·exact h2 x hx y hy
  ·have := h1 x hx y hy; omega
  ·exact hv.cross hx hy
 ·have e1 := k1.2.1.app k2.2.1
  refine e1.trans ?_
  have := ((Flt.refl (cmp := cmp) u1).app (Flt.swap hp h1)).app (Flt.refl (cmp := cmp) v2)
  simpa using this
end
end Go.Aw

namespace Go.Aw.Try
open Go Go.Proofs Go.Aw
set_option maxRecDepth 100000
set_option maxHeartbeats 4000000
section
variable {E : Type} [Inhabited E]
theorem k77 (row : E → List D) (hrow : ∀ e, RowOk 18 (row e)) (cmp : E → E → Int) (f : Nat) (xf : XE) (hx : Contract Tryz.prog G0 f xf) (hsc : xf.sc = true)
  (hxg : ∀ a b, xf.g [.agg (row a), .agg (row b)] = some (True, .int .i64 (cmp a b))) (es : List E) (a b : Nat) (hab : a ≤ b) (hb : b ≤ es.length) (hl : es.length < 4611686018427387904)
  (H : List O) (r : Nat) (hr : r < H.length) :
  ACalls Tryz.prog G0 154 [.c (.os r 18 0 es.length), I a, I b, .c (.fn f [])] (H.set r (.row 18 (es.map row))) fun t H' => t = .tup [] ∧ H' = H.set r (.row 18 ((insN cmp a (b - (a + 1)) (a + 1) es).map row)) := by
 refine acallsX (X := [(f, xf)]) ⟨hx, trivial⟩ tab hmix Tryz.func154 c77 (by rfl) fun hw => ?_
 simp (implicitDefEqProofs := false) (disch := omega) [gz, ir77, b77, wrap64]
 refine loopX (fun k s => ∃ i es', a < i ∧ (i ≤ b ∨ i = a + 1) ∧ k = b - i ∧ es'.length = es.length ∧ insN cmp a (b - i) i es' = insN cmp a (b - (a + 1)) (a + 1) es ∧
  s = ⟨ofL [(0, .v (.c (.os r 18 0 es.length))), (1, .int .i64 a), (2, .int .i64 b), (3, .v (.c (.fn f []))), (8, .int .i64 i)], H.set r (.row 18 (es'.map row))⟩) ?_ ?_
 ·refine wk_keep [0, 1, 2, 3, 8] ⟨_, a + 1, es, by omega, by omega, rfl, rfl, rfl, ?_⟩
  simp
 ·rintro k s ⟨i, es', hai, hib, rfl, hle, hins, rfl⟩
  by_cases hlt : i < b
  ·simp (implicitDefEqProofs := false) (disch := omega) [gz, hlt, wrap64]
   refine loopX (fun k s => ∃ j, a ≤ j ∧ j ≤ i ∧ k = j ∧ insP cmp es' a (nth es' i) i = insP cmp es' a (nth es' i) j ∧
    s = ⟨ofL [(0, .v (.c (.os r 18 0 es.length))), (1, .int .i64 a), (2, .int .i64 b), (3, .v (.c (.fn f []))), (8, .int .i64 i), (9, .int .i64 j)], H.set r (.row 18 ((mv es' i j).map row))⟩) ?_ ?_
   ·refine wk_keep [0, 1, 2, 3, 8, 9] ⟨_, i, by omega, by omega, rfl, rfl, ?_⟩
    simp [mv_self es' (show i < es'.length by omega)]
   ·rintro j s ⟨_, haj, hji, rfl, hp, rfl⟩
    by_cases hj : a < j
    ·have hil : i < es'.length := by omega
     have hml := mv_len es' hji hil
     have hjl : j < (mv es' i j).length := by omega
     have hjl' : j - 1 < (mv es' i j).length := by omega
     have e1 := mv_at es' hji hil
     have e2 := mv_pred es' hji hil (by omega)
     have eN : ((j : Int) - 1).toNat = j - 1 := by omega
     simp (implicitDefEqProofs := false) (disch := omega) [gz, hj, wrap64, hr, nth_map, hjl, hjl', e1, e2, eN, (hrow _).len, take_of_len, (hrow _).mapO, (hrow _).tk, (hrow _).nrm, borRow, (hrow _).cl, borV_map, osR_map, frz_map, nth_set_ne, (hrow _).spl (hrow _), hsc, hxg]
     have hcast : ((j - 1 : Nat) : Int) = (j : Int) - 1 := by omega
     have hsw : (((mv es' i j).map row).set j (row (nth es' (j - 1)))).set (j - 1) (row (nth es' i)) = (mv es' i (j - 1)).map row := by
      rw [← List.map_set, ← List.map_set, mv_swap es' hji hil (by omega)]
     refine ⟨by kernel_rfl, by omega, by omega, fun hc => ?_, fun hc => ?_⟩
     ·repeat' apply And.intro
      all_goals first | omega | kernel_rfl | skip
      refine wk_keep [0, 1, 2, 3, 8, 9] ⟨j - 1, by omega, j - 1, by omega, by omega, rfl, ?_, ?_⟩
      ·rw [hp]
       obtain ⟨m, rfl⟩ : ∃ m, j = m + 1 := ⟨j - 1, by omega⟩
       simp only [insP]
       rw [if_pos ⟨hj, by simpa using hc⟩]; rfl
      ·simp [hcast, hsw]
     ·have hpj : insP cmp es' a (nth es' i) i = j := by
       rw [hp]
       obtain ⟨m, rfl⟩ : ∃ m, j = m + 1 := ⟨j - 1, by omega⟩
       simp only [insP]
       rw [if_neg (fun q => absurd q.2 (by simpa using hc))]
      have e3 : b - i = (b - (i + 1)) + 1 := by omega
      refine wk_keep [0, 1, 2, 3, 8] ⟨b - (i + 1), by omega, i + 1, by omega, by omega, rfl, mv es' i j, by omega, ?_, ?_⟩
      ·rw [← hins, e3]; simp only [insN, hpj]
      ·simp
    ·have hil : i < es'.length := by omega
     have hml := mv_len es' hji hil
     simp (implicitDefEqProofs := false) (disch := omega) [gz, hj, wrap64]
     have hpj : insP cmp es' a (nth es' i) i = j := by
      rw [hp]
      cases j with
      | zero => rfl
      | succ m => simp only [insP]; rw [if_neg (fun q => hj q.1)]
     have e3 : b - i = (b - (i + 1)) + 1 := by omega
     refine ⟨by kernel_rfl, ?_⟩
     refine wk_keep [0, 1, 2, 3, 8] ⟨b - (i + 1), by omega, i + 1, by omega, by omega, rfl, mv es' i j, by omega, ?_, ?_⟩
     ·rw [← hins, e3]; simp only [insN, hpj]
     ·simp
  ·simp (implicitDefEqProofs := false) (disch := omega) [gz, hlt, wrap64]
   have e : b - i = 0 := by omega
   rw [e] at hins
   simp only [insN] at hins
   exact fin_here (by simp) ⟨rfl, by rw [hins]⟩
end
end Go.Aw.Try

namespace Go.Aw.Try
open Go Go.Proofs Go.Aw
set_option maxRecDepth 100000
set_option maxHeartbeats 4000000
section
variable {E : Type} [Inhabited E]
theorem k103 (row : E → List D) (hrow : ∀ e, RowOk 18 (row e)) (es : List E) (a b n : Nat) (hab : a + n ≤ b) (hb : b + n ≤ es.length) (hl : es.length < 4611686018427387904) (f : Nat)
  (H : List O) (r : Nat) (hr : r < H.length) :
  ACalls Tryz.prog G0 172 [.c (.os r 18 0 es.length), I a, I b, I n, .c (.fn f [])] (H.set r (.row 18 (es.map row))) fun t H' => t = .tup [] ∧ H' = H.set r (.row 18 ((swp es a b n).map row)) := by
 refine acallsX (X := []) trivial tab hmix Tryz.func172 c103 (by rfl) fun hw => ?_
 simp (implicitDefEqProofs := false) (disch := omega) [gz, ir103, b103, wrap64]
 refine loopX (fun k s => ∃ i, i ≤ n ∧ k = n - i ∧
  s = ⟨ofL [(0, .v (.c (.os r 18 0 es.length))), (1, .int .i64 a), (2, .int .i64 b), (3, .int .i64 n), (10, .int .i64 i)], H.set r (.row 18 ((swp es a b i).map row))⟩) ?_ ?_
 ·refine wk_keep [0, 1, 2, 3, 10] ⟨_, 0, by omega, rfl, ?_⟩
  simp [swp]
 ·rintro k s ⟨i, hi, rfl, rfl⟩
  have hsl := swp_len es a b i
  by_cases hlt : i < n
  ·have n1 : ((a : Int) + i).toNat = a + i := by omega
   have n2 : ((b : Int) + i).toNat = b + i := by omega
   simp (implicitDefEqProofs := false) (disch := omega) [gz, hlt, wrap64, hr, nth_map, hsl, n1, n2, (hrow _).len, take_of_len, (hrow _).mapO, (hrow _).tk, (hrow _).nrm, borRow, (hrow _).cl, borV_map, osR_map, frz_map, nth_set_ne, (hrow _).spl (hrow _)]
   repeat' apply And.intro
   all_goals first | omega | kernel_rfl | skip
   refine wk_keep [0, 1, 2, 3, 10] ⟨n - (i + 1), by omega, i + 1, by omega, rfl, ?_⟩
   simp [swp, swap2, List.map_set]
  ·have : i = n := by omega
   subst this
   simp (implicitDefEqProofs := false) (disch := omega) [gz, hlt, wrap64]
   exact fin_here (by simp) ⟨rfl, rfl⟩
end
end Go.Aw.Try

namespace Go.Aw.Try
open Go Go.Proofs Go.Aw
set_option maxRecDepth 100000
set_option maxHeartbeats 4000000
section
variable {E : Type} [Inhabited E]
theorem k95 (row : E → List D) (hrow : ∀ e, RowOk 18 (row e)) (es : List E) (a m b : Nat) (ham : a < m) (hmb : m < b) (hb : b ≤ es.length) (hl : es.length < 4611686018427387904) (f : Nat)
  (H : List O) (r : Nat) (hr : r < H.length) :
  ACalls Tryz.prog G0 166 [.c (.os r 18 0 es.length), I a, I m, I b, .c (.fn f [])] (H.set r (.row 18 (es.map row))) fun t H' => t = .tup [] ∧ H' = H.set r (.row 18 ((rotN m (b - a) (m - a) (b - m) es).map row)) := by
 refine acallsX (X := []) trivial tab hmix Tryz.func166 c95 (by rfl) fun hw => ?_
 simp (implicitDefEqProofs := false) (disch := omega) [gz, ir95, b95, wrap64]
 refine loopG (fun k s => ∃ i j es', 0 < i ∧ 0 < j ∧ i ≤ m - a ∧ j ≤ b - m ∧ k = i + j ∧ es'.length = es.length ∧ rotN m (b - a) i j es' = rotN m (b - a) (m - a) (b - m) es ∧
  s = ⟨ofL [(0, .v (.c (.os r 18 0 es.length))), (2, .int .i64 m), (4, .v (.c (.fn f []))), (10, .int .i64 i), (11, .int .i64 j)], H.set r (.row 18 (es'.map row))⟩) ?_ ?_
 ·have c1 : ((m - a : Nat) : Int) = m - a := by omega
  have c2 : ((b - m : Nat) : Int) = b - m := by omega
  refine wk_keep [0, 2, 4, 10, 11] ⟨_, m - a, b - m, es, by omega, by omega, by omega, by omega, rfl, rfl, rfl, ?_⟩
  simp [c1, c2]
 ·rintro J hJ k s ⟨i, j, es', hi, hj, hia, hjb, rfl, hle, hrot, rfl⟩
  obtain ⟨n0, hn0⟩ : ∃ n0, b - a = n0 + 1 := ⟨b - a - 1, by omega⟩
  have ci : ((m - i : Nat) : Int) = m - i := by omega
  by_cases he : i = j
  ·subst he
   simp (implicitDefEqProofs := false) (disch := omega) [gz, wrap64]
   have hc := k103 row hrow es' (m - i) m i (by omega) (by omega) (by omega) f H r hr
   rw [hle, ci] at hc
   refine hc.mono ?_
   rintro t H' ⟨rfl, rfl⟩
   simp only [callK]
   refine fin_here (by simp) ⟨rfl, ?_⟩
   rw [← hrot, hn0]; simp only [rotN, if_true]
  ·have hec : ¬ (i : Int) = j := by omega
   by_cases hlt : j < i
   ·simp (implicitDefEqProofs := false) (disch := omega) [gz, hec, hlt, wrap64]
    have hc := k103 row hrow es' (m - i) m j (by omega) (by omega) (by omega) f H r hr
    rw [hle, ci] at hc
    refine hc.mono ?_
    rintro t H' ⟨rfl, rfl⟩
    simp (implicitDefEqProofs := false) (disch := omega) [callK, List.getElem?_cons_zero, wrap64]
    have cij : ((i - j : Nat) : Int) = i - j := by omega
    subst hJ
    refine wk_keep [0, 2, 4, 10, 11] ⟨i - j + j, by omega, i - j, j, swp es' (m - i) m j, by omega, by omega, by omega, by omega, rfl, by rw [swp_len]; exact hle, ?_, ?_⟩
    ·have e : rotN m (b - a) i j es' = rotN m n0 (i - j) j (swp es' (m - i) m j) := by rw [hn0]; simp only [rotN, if_neg he, if_pos hlt]
     rw [← hrot, e]
     exact rotN_more m (b - a) n0 (i - j) j _ (by omega) hj (by omega) (by omega)
    ·simp [cij]
   ·simp (implicitDefEqProofs := false) (disch := omega) [gz, hec, hlt, wrap64]
    have cm : ((m + j - i : Nat) : Int) = m + j - i := by omega
    have hc := k103 row hrow es' (m - i) (m + j - i) i (by omega) (by omega) (by omega) f H r hr
    rw [hle, ci, cm] at hc
    refine hc.mono ?_
    rintro t H' ⟨rfl, rfl⟩
    have cij : ((j - i : Nat) : Int) = j - i := by omega
    simp (implicitDefEqProofs := false) (disch := omega) [callK, List.getElem?_cons_zero, wrap64]
    subst hJ
    refine wk_keep [0, 2, 4, 10, 11] ⟨i + (j - i), by omega, i, j - i, swp es' (m - i) (m + j - i) i, by omega, by omega, by omega, by omega, rfl, by rw [swp_len]; exact hle, ?_, ?_⟩
    ·have e : rotN m (b - a) i j es' = rotN m n0 i (j - i) (swp es' (m - i) (m + j - i) i) := by rw [hn0]; simp only [rotN, if_neg he, if_neg hlt]
     rw [← hrot, e]
     exact rotN_more m (b - a) n0 i (j - i) _ hi (by omega) (by omega) (by omega)
    ·simp [cij]
end
end Go.Aw.Try

namespace Go.Aw
theorem wrapU64 {n : Int} (h1 : 0 ≤ n) (h2 : n ≤ 18446744073709551615) : IntKind.u64.wrap n = n := by
 simp [IntKind.wrap, IntKind.bits, IntKind.signed]; omega
theorem half (i j : Nat) : Int.fdiv ((i : Int) + j) (2 ^ min 1 IntKind.u64.bits) = (((i + j) / 2 : Nat) : Int) := by
 show Int.fdiv ((i : Int) + j) 2 = _
 rw [Int.fdiv_eq_ediv_of_nonneg _ (by omega)]; omega
theorem seq_assoc {P : Program} {G : Gl} {X : XT} {N0 : Nat} {a b c : AC} {st : St} {Q : Qt} : wcodeX P G X N0 (.seq a (.seq b c)) st Q = wcodeX P G X N0 (.seq (.seq a b) c) st Q := by
 show wcodeX P G X N0 a st (thenQ (wcodeX P G X N0 (.seq b c)) Q) = wcodeX P G X N0 a st (thenQ (wcodeX P G X N0 b) (thenQ (wcodeX P G X N0 c) Q))
 congr 1
 funext e s
 cases e <;> rfl
section
variable {E : Type}
theorem swap_adj {P A T : List E} {x y : E} {q : Nat} (hq : q = P.length + A.length) : ((P ++ (A ++ (x :: (y :: T)))).set q y).set (q + 1) x = P ++ ((A ++ [y]) ++ (x :: T)) := by
 subst hq
 rw [← List.append_assoc P A, ← List.length_append, List.set_append_right _ _ (by omega), Nat.sub_self, List.set_cons_zero, List.set_append_right _ _ (by omega), Nat.add_sub_cancel_left]
 simp
theorem swap_adj2 {P U A T : List E} {z y : E} {q : Nat} (hq : q = P.length + U.length + A.length + 1) : ((P ++ (U ++ ((A ++ [z]) ++ (y :: T)))).set q z).set (q - 1) y = P ++ (U ++ (A ++ (y :: (z :: T)))) := by
 subst hq
 have e : P ++ (U ++ ((A ++ [z]) ++ (y :: T))) = (P ++ U ++ A) ++ (z :: y :: T) := by simp
 have l : P.length + U.length + A.length = (P ++ U ++ A).length := by simp; omega
 rw [e, l, Nat.add_sub_cancel, List.set_append_right _ _ (by omega), Nat.add_sub_cancel_left, List.set_cons_succ, List.set_cons_zero, List.set_append_right _ _ (by omega), Nat.sub_self]
 simp
theorem split_at (l : List E) {n : Nat} (h : n ≤ l.length) : ∃ x y, l = x ++ y ∧ x.length = n := ⟨l.take n, l.drop n, (List.take_append_drop n l).symm, by simp; omega⟩
end

/-- Two sorted neighbours in a list, by their places. -/
structure Mg {E : Type} [Inhabited E] (cmp : E → E → Int) (P u v S es : List E) (a m b : Nat) : Prop where
 hes : es = P ++ (u ++ (v ++ S))
 ha : a = P.length
 hm : m = P.length + u.length
 hb : b = P.length + u.length + v.length
 hul : 0 < u.length
 hvl : 0 < v.length
 hus : Srt cmp u
 hvs : Srt cmp v
 heL : es.length = b + S.length
 nu : ∀ c, a ≤ c → c < m → nth es c = nth u (c - a)
 nv : ∀ c, m ≤ c → c < b → nth es c = nth v (c - m)
 mu : ∀ c c', a ≤ c → c ≤ c' → c' < m → cmp (nth es c) (nth es c') ≤ 0
 mv : ∀ c c', m ≤ c → c ≤ c' → c' < b → cmp (nth es c) (nth es c') ≤ 0
theorem Mg.mk' {E : Type} [Inhabited E] {cmp : E → E → Int} (hp : Pre cmp) {P u v S : List E} (hu0 : u ≠ []) (hv0 : v ≠ []) (hus : Srt cmp u) (hvs : Srt cmp v) :
  Mg cmp P u v S (P ++ (u ++ (v ++ S))) P.length (P.length + u.length) (P.length + u.length + v.length) := by
 obtain ⟨es, hes⟩ : ∃ es, es = P ++ (u ++ (v ++ S)) := ⟨_, rfl⟩
 obtain ⟨a, ha⟩ : ∃ a, a = P.length := ⟨_, rfl⟩
 obtain ⟨m, hm⟩ : ∃ m, m = P.length + u.length := ⟨_, rfl⟩
 obtain ⟨b, hb⟩ : ∃ b, b = P.length + u.length + v.length := ⟨_, rfl⟩
 have hul : 0 < u.length := List.length_pos_iff.2 hu0
 have hvl : 0 < v.length := List.length_pos_iff.2 hv0
 have heL : es.length = b + S.length := by rw [hes, hb]; simp; omega
 have nu : ∀ c, a ≤ c → c < m → nth es c = nth u (c - a) := fun c h1 h2 => by
  rw [hes, nth_app_r (by omega), nth_app_l (by omega), ha]
 have nv : ∀ c, m ≤ c → c < b → nth es c = nth v (c - m) := fun c h1 h2 => by
  rw [hes, nth_app_r (by omega), nth_app_r (by omega), nth_app_l (by omega)]; congr 1; omega
 have mu : ∀ c c', a ≤ c → c ≤ c' → c' < m → cmp (nth es c) (nth es c') ≤ 0 := fun c c' h1 h2 h3 => by
  rw [nu c h1 (by omega), nu c' (by omega) h3]; exact hus.nth_le hp (by omega) (by omega)
 have mv : ∀ c c', m ≤ c → c ≤ c' → c' < b → cmp (nth es c) (nth es c') ≤ 0 := fun c c' h1 h2 h3 => by
  rw [nv c h1 (by omega), nv c' (by omega) h3]; exact hvs.nth_le hp (by omega) (by omega)
 rw [← hes, ← hb, ← hm, ← ha]
 exact ⟨hes, ha, hm, hb, hul, hvl, hus, hvs, heL, nu, nv, mu, mv⟩
end Go.Aw

namespace Go.Aw.Try
open Go Go.Proofs Go.Aw
set_option maxRecDepth 100000
set_option maxHeartbeats 4000000
section
variable {E : Type} [Inhabited E]
theorem k78_p0 (row : E → List D) (hrow : ∀ e, RowOk 18 (row e)) (cmp : E → E → Int) (hp : Pre cmp) (f : Nat) (xf : XE) (hsc : xf.sc = true) (hf1 : f ≠ 166) (hf2 : f ≠ 155)
  (hxg : ∀ a b, xf.g [.agg (row a), .agg (row b)] = some (True, .int .i64 (cmp a b))) (H : List O) (r : Nat) (hr : r < H.length) {P u v S es : List E} {a m b : Nat} (M : Mg cmp P u v S es a m b) (hlen : es.length < 4611686018427387904) (hw : Wf (H.set r (.row 18 (es.map row)))) :
  wcodeX Tryz.prog G0 [(f, xf)] (H.set r (.row 18 (es.map row))).length b78_0 ⟨argSl [.c (.os r 18 0 es.length), I a, I m, I b, .c (.fn f [])], (H.set r (.row 18 (es.map row)))⟩ (cutQ (fun s => m ≠ a + 1 ∧ AtS [(0, .v (.c (.os r 18 0 es.length))), (1, .int .i64 a), (2, .int .i64 m), (3, .int .i64 b), (4, .v (.c (.fn f [])))] (H.set r (.row 18 (es.map row))) s) (retQ Tryz.prog (H.set r (.row 18 (es.map row))).length ir78.res (fun t H' => t = .tup [] ∧ ∃ w, Merged cmp (u ++ v) w ∧ H' = H.set r (.row 18 ((P ++ (w ++ S)).map row))))) := by
 obtain ⟨hes, ha, hm, hb, hul, hvl, hus, hvs, heL, nu, nv, mu, mv⟩ := M
 obtain ⟨n, hn⟩ : ∃ n, u.length + v.length = n := ⟨_, rfl⟩
 generalize hJJ : (fun s => m ≠ a + 1 ∧ AtS [(0, .v (.c (.os r 18 0 es.length))), (1, .int .i64 a), (2, .int .i64 m), (3, .int .i64 b), (4, .v (.c (.fn f [])))] (H.set r (.row 18 (es.map row))) s) = JJ
 by_cases h1 : m = a + 1
 ·have h1' : (m : Int) - a = 1 := by omega
  simp (implicitDefEqProofs := false) (disch := omega) [gz, b78_0, wrap64, h1']
  refine loopE (fun k s => ∃ i j, m ≤ i ∧ i ≤ j ∧ j ≤ b ∧ k = j - i ∧ (∀ c, m ≤ c → c < i → cmp (nth es c) (nth es a) < 0) ∧ (∀ c, j ≤ c → c < b → ¬ cmp (nth es c) (nth es a) < 0) ∧
   s = ⟨ofL [(0, .v (.c (.os r 18 0 es.length))), (1, .int .i64 a), (4, .v (.c (.fn f []))), (10, .int .i64 i), (11, .int .i64 j)], H.set r (.row 18 (es.map row))⟩)
   (fun s => ∃ i : Nat, m ≤ i ∧ i ≤ b ∧ (∀ c, m ≤ c → c < i → cmp (nth es c) (nth es a) < 0) ∧ (∀ c, i ≤ c → c < b → ¬ cmp (nth es c) (nth es a) < 0) ∧ AtS [(0, .v (.c (.os r 18 0 es.length))), (1, .int .i64 a), (10, .int .i64 i)] (H.set r (.row 18 (es.map row))) s) ?_ ?_ ?_
  ·refine wk_keep [0, 1, 4, 10, 11] ⟨_, m, b, Nat.le_refl _, by omega, Nat.le_refl _, rfl, fun c h1 h2 => by omega, fun c h1 h2 => by omega, ?_⟩
   simp
  ·rintro J L hJ hL k s ⟨i, j, hmi, hij, hjb, rfl, hlo, hhi, rfl⟩
   by_cases hlt : i < j
   ·have n1 : (((i + j) / 2 : Nat) : Int).toNat = (i + j) / 2 := by omega
    have c1 : (((i + j) / 2 : Nat) : Int) + 1 = (((i + j) / 2 + 1 : Nat) : Int) := by omega
    obtain ⟨c, hc⟩ : ∃ c, c = (i + j) / 2 := ⟨_, rfl⟩
    simp (implicitDefEqProofs := false) (disch := omega) [gz, hlt, wrap64, wrapU64, half, ← hc, hr, nth_map, (hrow _).len, take_of_len, (hrow _).mapO, (hrow _).tk, (hrow _).nrm, borRow, (hrow _).cl, borV_map, osR_map, frz_map, nth_set_ne, (hrow _).spl (hrow _), hsc, hxg]
    repeat' apply And.intro
    all_goals first | omega | kernel_rfl | skip
    ·intro h
     subst hJ
     refine wk_keep [0, 1, 4, 10, 11] ⟨j - (c + 1), by omega, c + 1, j, by omega, by omega, by omega, rfl, fun c' q1 q2 => hp.le_lt (mv c' c q1 (by omega) (by omega)) h, hhi, ?_⟩
     simp
    ·intro h
     subst hJ
     refine wk_keep [0, 1, 4, 10, 11] ⟨c - i, by omega, i, c, by omega, by omega, by omega, rfl, hlo, fun c' q1 q2 q => ?_, ?_⟩
     ·have := hp.le_lt (mv c c' (by omega) q1 (by omega)) q
      omega
     ·simp
   ·simp (implicitDefEqProofs := false) (disch := omega) [gz, hlt]
    subst hL
    have : i = j := by omega
    subst this
    exact ⟨i, hmi, hjb, hlo, hhi, at_mk (by simp) rfl⟩
  ·rintro _ ⟨i, hmi, hib, hlo, hhi, sl, rfl⟩
   simp (implicitDefEqProofs := false) (disch := omega) [gz, wrap64]
   obtain ⟨x, rfl⟩ : ∃ x, u = [x] := List.length_eq_one_iff.1 (by omega)
   obtain ⟨V1, V2, rfl, hV⟩ := split_at v (n := i - m) (by omega)
   have hx0 : nth es a = x := by rw [nu a (by omega) (by omega), Nat.sub_self]; rfl
   simp only [List.length_append, List.length_singleton] at hm hb hn hvl
   have hV1 : ∀ y ∈ V1, cmp y x < 0 := fun y hy => by
    obtain ⟨k, hk, e⟩ := mem_nth hy
    have := hlo (m + k) (by omega) (by omega)
    rw [hx0, nv _ (by omega) (by omega), Nat.add_sub_cancel_left, nth_app_l hk, e] at this; exact this
   have hV2 : ∀ y ∈ V2, cmp x y ≤ 0 := fun y hy => by
    obtain ⟨k, hk, e⟩ := mem_nth hy
    have := hhi (i + k) (by omega) (by omega)
    rw [hx0, nv _ (by omega) (by omega), nth_app_r (by omega), show i + k - m - V1.length = k by omega, e] at this; exact hp.le_of_not this
   refine loopG (fun k s => ∃ A B q, V1 = A ++ B ∧ k = B.length ∧ q = a + A.length ∧ s = ⟨ofL [(0, .v (.c (.os r 18 0 es.length))), (10, .int .i64 i), (13, .int .i64 q)], H.set r (.row 18 ((P ++ (A ++ (x :: (B ++ (V2 ++ S))))).map row))⟩) ?_ ?_
   ·refine wk_keep [0, 10, 13] ⟨_, [], V1, a, rfl, rfl, rfl, ?_⟩
    simp [hes]
   ·rintro J hJ k s ⟨A, B, q, rfl, rfl, hq, rfl⟩
    simp only [List.length_append] at hV hb hn
    cases B with
    | nil =>
     have hlt : ¬ (q : Int) < (i : Int) - 1 := by simp at hV; omega
     simp (implicitDefEqProofs := false) (disch := omega) [gz, hlt, wrap64]
     refine fin_here (by simp) ⟨rfl, (A ++ []) ++ ([x] ++ V2), ?_, by simp⟩
     have := merge_split hp (u1 := []) (u2 := [x]) (v1 := A ++ []) (v2 := V2) (w1 := A ++ []) (w2 := [x] ++ V2) hus hvs (fun y hy z hz => by simp at hz; subst hz; exact hV1 y hy) (by simp)
      ⟨hvs.left, Flt.refl _, rfl⟩ ⟨(by simpa using hus : Srt cmp [x]).app hvs.right fun y hy z hz => by simp at hy; subst hy; exact hV2 z hz, Flt.refl _, rfl⟩
     simpa using this
    | cons y B =>
     simp only [List.length_cons] at hV hb hn
     have hlt : (q : Int) < (i : Int) - 1 := by omega
     obtain ⟨es', he'⟩ : ∃ es', es' = P ++ (A ++ (x :: (y :: (B ++ (V2 ++ S))))) := ⟨_, rfl⟩
     have hl' : es'.length = es.length := by rw [he', hes]; simp; omega
     have e1 : nth es' q = x := by rw [he', nth_app_r (by omega), nth_app_r (by omega), show q - P.length - A.length = 0 by omega]; rfl
     have e2 : nth es' (q + 1) = y := by rw [he', nth_app_r (by omega), nth_app_r (by omega), show q + 1 - P.length - A.length = 1 by omega]; rfl
     have n1 : ((q : Int) + 1).toNat = q + 1 := by omega
     have hd : P ++ (A ++ (x :: (y :: B ++ (V2 ++ S)))) = es' := by rw [he']; simp
     rw [hd]
     have hsw : (((es'.map row).set q (row y)).set (q + 1) (row x)) = ((P ++ ((A ++ [y]) ++ (x :: (B ++ (V2 ++ S))))).map row) := by
      rw [← List.map_set, ← List.map_set, he', swap_adj (by omega)]
     simp (implicitDefEqProofs := false) (disch := omega) [gz, hlt, wrap64, n1, e1, e2, hl', hr, nth_map, (hrow _).len, take_of_len, (hrow _).mapO, (hrow _).tk, (hrow _).nrm, borRow, (hrow _).cl, borV_map, osR_map, frz_map, nth_set_ne, (hrow _).spl (hrow _), hsc, hxg]
     repeat' apply And.intro
     all_goals first | omega | kernel_rfl | skip
     subst hJ
     refine wk_keep [0, 10, 13] ⟨B.length, by simp, A ++ [y], B, q + 1, by simp, rfl, by simp; omega, ?_⟩
     rw [hsw]
     simp
 ·have h1' : ¬ (m : Int) - a = 1 := by omega
  simp (implicitDefEqProofs := false) (disch := omega) [gz, b78_0, wrap64, h1']
  subst JJ
  exact ⟨h1, at_mk (by simp) rfl⟩
end
end Go.Aw.Try

namespace Go.Aw.Try
open Go Go.Proofs Go.Aw
set_option maxRecDepth 100000
set_option maxHeartbeats 4000000
section
variable {E : Type} [Inhabited E]
theorem k78_p1 (row : E → List D) (hrow : ∀ e, RowOk 18 (row e)) (cmp : E → E → Int) (hp : Pre cmp) (f : Nat) (xf : XE) (hsc : xf.sc = true) (hf1 : f ≠ 166) (hf2 : f ≠ 155)
  (hxg : ∀ a b, xf.g [.agg (row a), .agg (row b)] = some (True, .int .i64 (cmp a b))) (H : List O) (r : Nat) (hr : r < H.length) {P u v S es : List E} {a m b : Nat} (M : Mg cmp P u v S es a m b) (hlen : es.length < 4611686018427387904) (hma : m ≠ a + 1) (sl : Nat → T) :
  wcodeX Tryz.prog G0 [(f, xf)] (H.set r (.row 18 (es.map row))).length b78_1 ⟨ofLr [(0, .v (.c (.os r 18 0 es.length))), (1, .int .i64 a), (2, .int .i64 m), (3, .int .i64 b), (4, .v (.c (.fn f [])))] sl, (H.set r (.row 18 (es.map row)))⟩ (cutQ (fun s => b ≠ m + 1 ∧ AtS [(0, .v (.c (.os r 18 0 es.length))), (1, .int .i64 a), (2, .int .i64 m), (3, .int .i64 b), (4, .v (.c (.fn f [])))] (H.set r (.row 18 (es.map row))) s) (retQ Tryz.prog (H.set r (.row 18 (es.map row))).length ir78.res (fun t H' => t = .tup [] ∧ ∃ w, Merged cmp (u ++ v) w ∧ H' = H.set r (.row 18 ((P ++ (w ++ S)).map row))))) := by
 obtain ⟨hes, ha, hm, hb, hul, hvl, hus, hvs, heL, nu, nv, mu, mv⟩ := M
 obtain ⟨n, hn⟩ : ∃ n, u.length + v.length = n := ⟨_, rfl⟩
 generalize hJJ : (fun s => b ≠ m + 1 ∧ AtS [(0, .v (.c (.os r 18 0 es.length))), (1, .int .i64 a), (2, .int .i64 m), (3, .int .i64 b), (4, .v (.c (.fn f [])))] (H.set r (.row 18 (es.map row))) s) = JJ
 by_cases h1 : b = m + 1
 ·have h1' : (b : Int) - m = 1 := by omega
  simp (implicitDefEqProofs := false) (disch := omega) [gz, b78_1, wrap64, h1']
  refine loopE (fun k s => ∃ i j, a ≤ i ∧ i ≤ j ∧ j ≤ m ∧ k = j - i ∧ (∀ c, a ≤ c → c < i → ¬ cmp (nth es m) (nth es c) < 0) ∧ (∀ c, j ≤ c → c < m → cmp (nth es m) (nth es c) < 0) ∧
   s = ⟨ofL [(0, .v (.c (.os r 18 0 es.length))), (2, .int .i64 m), (4, .v (.c (.fn f []))), (14, .int .i64 i), (15, .int .i64 j)], H.set r (.row 18 (es.map row))⟩)
   (fun s => ∃ i : Nat, a ≤ i ∧ i ≤ m ∧ (∀ c, a ≤ c → c < i → ¬ cmp (nth es m) (nth es c) < 0) ∧ (∀ c, i ≤ c → c < m → cmp (nth es m) (nth es c) < 0) ∧ AtS [(0, .v (.c (.os r 18 0 es.length))), (2, .int .i64 m), (14, .int .i64 i)] (H.set r (.row 18 (es.map row))) s) ?_ ?_ ?_
  ·refine wk_keep [0, 2, 4, 14, 15] ⟨_, a, m, Nat.le_refl _, by omega, Nat.le_refl _, rfl, fun c h1 h2 => by omega, fun c h1 h2 => by omega, ?_⟩
   simp
  ·rintro J L hJ hL k s ⟨i, j, hmi, hij, hjb, rfl, hlo, hhi, rfl⟩
   by_cases hlt : i < j
   ·obtain ⟨c, hc⟩ : ∃ c, c = (i + j) / 2 := ⟨_, rfl⟩
    simp (implicitDefEqProofs := false) (disch := omega) [gz, hlt, wrap64, wrapU64, half, ← hc, hr, nth_map, (hrow _).len, take_of_len, (hrow _).mapO, (hrow _).tk, (hrow _).nrm, borRow, (hrow _).cl, borV_map, osR_map, frz_map, nth_set_ne, (hrow _).spl (hrow _), hsc, hxg]
    repeat' apply And.intro
    all_goals first | omega | kernel_rfl | skip
    ·intro h
     subst hJ
     refine wk_keep [0, 2, 4, 14, 15] ⟨j - (c + 1), by omega, c + 1, j, by omega, by omega, by omega, rfl, fun c' q1 q2 q => ?_, hhi, ?_⟩
     ·have := hp.lt_le q (mu c' c q1 (by omega) (by omega)); omega
     ·simp
    ·intro h
     subst hJ
     refine wk_keep [0, 2, 4, 14, 15] ⟨c - i, by omega, i, c, by omega, by omega, by omega, rfl, hlo, fun c' q1 q2 => hp.lt_le h (mu c c' (by omega) q1 (by omega)), ?_⟩
     simp
   ·simp (implicitDefEqProofs := false) (disch := omega) [gz, hlt]
    subst hL
    have : i = j := by omega
    subst this
    exact ⟨i, hmi, hjb, hlo, hhi, at_mk (by simp) rfl⟩
  ·rintro _ ⟨i, hmi, hib, hlo, hhi, sl, rfl⟩
   simp (implicitDefEqProofs := false) (disch := omega) [gz, wrap64]
   obtain ⟨y, rfl⟩ : ∃ y, v = [y] := List.length_eq_one_iff.1 (by omega)
   obtain ⟨U1, U2, rfl, hU⟩ := split_at u (n := i - a) (by omega)
   have hy0 : nth es m = y := by rw [nv m (by omega) (by omega), Nat.sub_self]; rfl
   simp only [List.length_append, List.length_singleton] at hm hb hn hul
   have hU1 : ∀ x ∈ U1, cmp x y ≤ 0 := fun x hx => by
    obtain ⟨k, hk, e⟩ := mem_nth hx
    have := hlo (a + k) (by omega) (by omega)
    rw [hy0, nu _ (by omega) (by omega), Nat.add_sub_cancel_left, nth_app_l hk, e] at this; exact hp.le_of_not this
   have hU2 : ∀ x ∈ U2, cmp y x < 0 := fun x hx => by
    obtain ⟨k, hk, e⟩ := mem_nth hx
    have := hhi (i + k) (by omega) (by omega)
    rw [hy0, nu _ (by omega) (by omega), nth_app_r (by omega), show i + k - a - U1.length = k by omega, e] at this; exact this
   refine loopG (fun k s => ∃ A B q, U2 = A ++ B ∧ k = A.length ∧ q = i + A.length ∧ s = ⟨ofL [(0, .v (.c (.os r 18 0 es.length))), (14, .int .i64 i), (17, .int .i64 q)], H.set r (.row 18 ((P ++ (U1 ++ (A ++ (y :: (B ++ S))))).map row))⟩) ?_ ?_
   ·refine wk_keep [0, 14, 17] ⟨_, U2, [], m, by simp, rfl, by omega, ?_⟩
    simp [hes]
   ·rintro J hJ k s ⟨A, B, q, rfl, rfl, hq, rfl⟩
    rcases List.eq_nil_or_concat A with rfl | ⟨A, z, rfl⟩
    ·have hlt : ¬ i < q := by simp at hq; omega
     simp (implicitDefEqProofs := false) (disch := omega) [gz, hlt, wrap64]
     refine fin_here (by simp) ⟨rfl, (U1 ++ [y]) ++ B, ?_, by simp⟩
     have := merge_split hp (u1 := U1) (u2 := [] ++ B) (v1 := [y]) (v2 := []) (w1 := U1 ++ [y]) (w2 := B) hus (by simpa using hvs) (fun x hx z hz => by simp at hx; subst hx; exact hU2 z hz) (by simp)
      ⟨hus.left.app hvs fun x hx z hz => by simp at hz; subst hz; exact hU1 x hx, Flt.refl _, rfl⟩ ⟨by have := hus.right; simpa using this, by simpa using Flt.refl _, by simp⟩
     simpa using this
    ·simp only [List.concat_eq_append, List.length_append, List.length_singleton] at *
     have hlt : i < q := by omega
     obtain ⟨es', he'⟩ : ∃ es', es' = P ++ (U1 ++ ((A ++ [z]) ++ (y :: (B ++ S)))) := ⟨_, rfl⟩
     have hl' : es'.length = es.length := by rw [he', hes]; simp; omega
     have e1 : nth es' q = y := by rw [he', nth_app_r (by omega), nth_app_r (by omega), nth_app_r (by simp; omega), show q - P.length - U1.length - (A ++ [z]).length = 0 by simp; omega]; rfl
     have e2 : nth es' (q - 1) = z := by rw [he', nth_app_r (by omega), nth_app_r (by omega), nth_app_l (by simp; omega), nth_app_r (by omega), show q - 1 - P.length - U1.length - A.length = 0 by omega]; rfl
     have n1 : ((q : Int) - 1).toNat = q - 1 := by omega
     have c1 : ((q - 1 : Nat) : Int) = (q : Int) - 1 := by omega
     rw [← he']
     have hsw : (((es'.map row).set q (row z)).set (q - 1) (row y)) = ((P ++ (U1 ++ (A ++ (y :: (z :: (B ++ S)))))).map row) := by
      rw [← List.map_set, ← List.map_set, he', swap_adj2 (by omega)]
     simp (implicitDefEqProofs := false) (disch := omega) [gz, hlt, wrap64, n1, e1, e2, hl', hr, nth_map, (hrow _).len, take_of_len, (hrow _).mapO, (hrow _).tk, (hrow _).nrm, borRow, (hrow _).cl, borV_map, osR_map, frz_map, nth_set_ne, (hrow _).spl (hrow _), hsc, hxg]
     repeat' apply And.intro
     all_goals first | omega | kernel_rfl | skip
     subst hJ
     refine wk_keep [0, 14, 17] ⟨A.length, by simp, A, z :: B, q - 1, by simp, rfl, by omega, ?_⟩
     rw [hsw, c1]
     simp
 ·have h1' : ¬ (b : Int) - m = 1 := by omega
  simp (implicitDefEqProofs := false) (disch := omega) [gz, b78_1, wrap64, h1']
  subst JJ
  exact ⟨h1, at_mk (by simp) rfl⟩
end
end Go.Aw.Try

namespace Go.Aw.Try
open Go Go.Proofs Go.Aw
set_option maxRecDepth 100000
set_option maxHeartbeats 4000000
section
variable {E : Type} [Inhabited E]
theorem k78_p2 (row : E → List D) (hrow : ∀ e, RowOk 18 (row e)) (cmp : E → E → Int) (hp : Pre cmp) (f : Nat) (xf : XE) (hsc : xf.sc = true) (hf1 : f ≠ 166) (hf2 : f ≠ 155)
  (hxg : ∀ a b, xf.g [.agg (row a), .agg (row b)] = some (True, .int .i64 (cmp a b))) (H : List O) (r : Nat) (hr : r < H.length) {P u v S es : List E} {a m b : Nat} (M : Mg cmp P u v S es a m b) (hlen : es.length < 4611686018427387904) (R : T → List O → Prop) (sl : Nat → T) (mid : Nat) (hmid : mid = (a + b) / 2) :
  wcodeX Tryz.prog G0 [(f, xf)] (H.set r (.row 18 (es.map row))).length (.seq (.seq (.seq b78_2 b78_3) b78_4) b78_5) ⟨ofLr [(0, .v (.c (.os r 18 0 es.length))), (1, .int .i64 a), (2, .int .i64 m), (3, .int .i64 b), (4, .v (.c (.fn f [])))] sl, (H.set r (.row 18 (es.map row)))⟩ (cutQ (fun s => ∃ lo hi : Nat, (mid < m → lo + b = mid + m ∧ hi = mid) ∧ (¬ mid < m → lo = a ∧ hi = m) ∧ AtS [(0, .v (.c (.os r 18 0 es.length))), (1, .int .i64 a), (2, .int .i64 m), (3, .int .i64 b), (4, .v (.c (.fn f []))), (18, .int .i64 mid), (19, .int .i64 (mid + m : Nat)), (20, .int .i64 lo), (21, .int .i64 hi)] (H.set r (.row 18 (es.map row))) s) (retQ Tryz.prog (H.set r (.row 18 (es.map row))).length ir78.res R)) := by
 obtain ⟨hes, ha, hm, hb, hul, hvl, hus, hvs, heL, nu, nv, mu, mv⟩ := M
 generalize hJJ : (fun s => ∃ lo hi : Nat, (mid < m → lo + b = mid + m ∧ hi = mid) ∧ (¬ mid < m → lo = a ∧ hi = m) ∧ AtS [(0, .v (.c (.os r 18 0 es.length))), (1, .int .i64 a), (2, .int .i64 m), (3, .int .i64 b), (4, .v (.c (.fn f []))), (18, .int .i64 mid), (19, .int .i64 (mid + m : Nat)), (20, .int .i64 lo), (21, .int .i64 hi)] (H.set r (.row 18 (es.map row))) s) = JJ
 by_cases hc : mid < m
 ·simp (implicitDefEqProofs := false) (disch := omega) [gz, b78_2, b78_3, b78_4, b78_5, wrap64, wrapU64, half, ← hmid, hc]
  subst JJ
  exact ⟨mid + m - b, mid, fun _ => ⟨by omega, rfl⟩, fun h => absurd hc h, at_mk (by simp; omega) rfl⟩
 ·simp (implicitDefEqProofs := false) (disch := omega) [gz, b78_2, b78_3, b78_4, b78_5, wrap64, wrapU64, half, ← hmid, hc]
  subst JJ
  exact ⟨a, m, fun h => absurd h hc, fun _ => ⟨rfl, rfl⟩, at_mk (by simp) rfl⟩

theorem k78_p3 (row : E → List D) (hrow : ∀ e, RowOk 18 (row e)) (cmp : E → E → Int) (hp : Pre cmp) (f : Nat) (xf : XE) (hsc : xf.sc = true) (hf1 : f ≠ 166) (hf2 : f ≠ 155)
  (hxg : ∀ a b, xf.g [.agg (row a), .agg (row b)] = some (True, .int .i64 (cmp a b))) (H : List O) (r : Nat) (hr : r < H.length) {P u v S es : List E} {a m b : Nat} (M : Mg cmp P u v S es a m b) (hlen : es.length < 4611686018427387904) (R : T → List O → Prop) (sl : Nat → T) (mid N lo hi : Nat) (hmid : mid = (a + b) / 2) (hN : N = mid + m) (k1 : a ≤ lo) (k2 : lo ≤ hi) (k3 : hi ≤ m) (k4 : hi ≤ mid) (k5 : N ≤ lo + b) :
  wcodeX Tryz.prog G0 [(f, xf)] (H.set r (.row 18 (es.map row))).length (.seq b78_6 b78_7) ⟨ofLr [(0, .v (.c (.os r 18 0 es.length))), (1, .int .i64 a), (2, .int .i64 m), (3, .int .i64 b), (4, .v (.c (.fn f []))), (18, .int .i64 mid), (19, .int .i64 N), (20, .int .i64 lo), (21, .int .i64 hi)] sl, (H.set r (.row 18 (es.map row)))⟩ (cutQ (fun s => ∃ st : Nat, lo ≤ st ∧ st ≤ hi ∧ (∀ c, lo ≤ c → c < st → ¬ cmp (nth es (N - 1 - c)) (nth es c) < 0) ∧ (∀ c, st ≤ c → c < hi → cmp (nth es (N - 1 - c)) (nth es c) < 0) ∧ AtS [(0, .v (.c (.os r 18 0 es.length))), (1, .int .i64 a), (2, .int .i64 m), (3, .int .i64 b), (4, .v (.c (.fn f []))), (18, .int .i64 mid), (19, .int .i64 N), (20, .int .i64 st)] (H.set r (.row 18 (es.map row))) s) (retQ Tryz.prog (H.set r (.row 18 (es.map row))).length ir78.res R)) := by
 obtain ⟨hes, ha, hm, hb, hul, hvl, hus, hvs, heL, nu, nv, mu, mv⟩ := M
 generalize hJJ : (fun s => ∃ st : Nat, lo ≤ st ∧ st ≤ hi ∧ (∀ c, lo ≤ c → c < st → ¬ cmp (nth es (N - 1 - c)) (nth es c) < 0) ∧ (∀ c, st ≤ c → c < hi → cmp (nth es (N - 1 - c)) (nth es c) < 0) ∧ AtS [(0, .v (.c (.os r 18 0 es.length))), (1, .int .i64 a), (2, .int .i64 m), (3, .int .i64 b), (4, .v (.c (.fn f []))), (18, .int .i64 mid), (19, .int .i64 N), (20, .int .i64 st)] (H.set r (.row 18 (es.map row))) s) = JJ
 simp (implicitDefEqProofs := false) (disch := omega) [gz, b78_6, b78_7, wrap64]
 refine loopE (fun k s => ∃ i j, lo ≤ i ∧ i ≤ j ∧ j ≤ hi ∧ k = j - i ∧ (∀ c, lo ≤ c → c < i → ¬ cmp (nth es (N - 1 - c)) (nth es c) < 0) ∧ (∀ c, j ≤ c → c < hi → cmp (nth es (N - 1 - c)) (nth es c) < 0) ∧
  s = ⟨ofL [(0, .v (.c (.os r 18 0 es.length))), (1, .int .i64 a), (2, .int .i64 m), (3, .int .i64 b), (4, .v (.c (.fn f []))), (18, .int .i64 mid), (19, .int .i64 N), (20, .int .i64 i), (21, .int .i64 j), (22, .int .i64 (N - 1))], (H.set r (.row 18 (es.map row)))⟩)
  JJ ?_ ?_ ?_
 ·refine wk_keep [0, 1, 2, 3, 4, 18, 19, 20, 21, 22] ⟨_, lo, hi, Nat.le_refl _, by omega, Nat.le_refl _, rfl, fun c h1 h2 => by omega, fun c h1 h2 => by omega, ?_⟩
  simp
 ·rintro J L hJ hL k s ⟨i, j, hmi, hij, hjb, rfl, hlo, hhi, rfl⟩
  by_cases hlt : i < j
  ·obtain ⟨c, hc⟩ : ∃ c, c = (i + j) / 2 := ⟨_, rfl⟩
   have n1 : ((N : Int) - 1 - c).toNat = N - 1 - c := by omega
   simp (implicitDefEqProofs := false) (disch := omega) [gz, hlt, wrap64, wrapU64, half, ← hc, n1, hr, nth_map, (hrow _).len, take_of_len, (hrow _).mapO, (hrow _).tk, (hrow _).nrm, borRow, (hrow _).cl, borV_map, osR_map, frz_map, nth_set_ne, (hrow _).spl (hrow _), hsc, hxg]
   repeat' apply And.intro
   all_goals first | omega | kernel_rfl | skip
   ·intro h
    subst hJ
    refine wk_keep [0, 1, 2, 3, 4, 18, 19, 20, 21, 22] ⟨j - (c + 1), by omega, c + 1, j, by omega, by omega, by omega, rfl, fun c' q1 q2 q => ?_, hhi, ?_⟩
    ·have e1 := mu c' c (by omega) (by omega) (by omega)
     have e2 := mv (N - 1 - c) (N - 1 - c') (by omega) (by omega) (by omega)
     have := hp.le_lt e2 (hp.lt_le q e1); omega
    ·simp
   ·intro h
    subst hJ
    refine wk_keep [0, 1, 2, 3, 4, 18, 19, 20, 21, 22] ⟨c - i, by omega, i, c, by omega, by omega, by omega, rfl, hlo, fun c' q1 q2 => ?_, ?_⟩
    ·have e1 := mu c c' (by omega) (by omega) (by omega)
     have e2 := mv (N - 1 - c') (N - 1 - c) (by omega) (by omega) (by omega)
     exact hp.le_lt e2 (hp.lt_le h e1)
    ·simp
  ·simp (implicitDefEqProofs := false) (disch := omega) [gz, hlt]
   subst JJ
   subst hL
   have : i = j := by omega
   subst this
   exact ⟨i, hmi, hjb, hlo, hhi, at_mk (by simp) rfl⟩
 ·intro s hs
  exact hs

end
end Go.Aw.Try

namespace Go.Aw.Try
open Go Go.Proofs Go.Aw
set_option maxRecDepth 100000
set_option maxHeartbeats 4000000
section
variable {E : Type} [Inhabited E]
theorem k78_p4 (row : E → List D) (hrow : ∀ e, RowOk 18 (row e)) (cmp : E → E → Int) (hp : Pre cmp) (f : Nat) (xf : XE) (hsc : xf.sc = true) (hf1 : f ≠ 166) (hf2 : f ≠ 155)
  (hxg : ∀ a b, xf.g [.agg (row a), .agg (row b)] = some (True, .int .i64 (cmp a b))) (H : List O) (r : Nat) (hr : r < H.length) {P u v S es : List E} {a m b : Nat} (M : Mg cmp P u v S es a m b) (hlen : es.length < 4611686018427387904) (R : T → List O → Prop) (sl : Nat → T) (mid N st en : Nat) (k1 : a ≤ st) (k2 : st ≤ m) (k3 : m ≤ en) (k4 : en ≤ b) (hen : N = st + en) {u1 u2 v1 v2 : List E} (hu : u = u1 ++ u2) (hv : v = v1 ++ v2) (hU : u1.length = st - a) (hV : v1.length = en - m) :
  wcodeX Tryz.prog G0 [(f, xf)] (H.set r (.row 18 (es.map row))).length (.seq b78_8 b78_9) ⟨ofLr [(0, .v (.c (.os r 18 0 es.length))), (1, .int .i64 a), (2, .int .i64 m), (3, .int .i64 b), (4, .v (.c (.fn f []))), (18, .int .i64 mid), (19, .int .i64 N), (20, .int .i64 st)] sl, (H.set r (.row 18 (es.map row)))⟩ (cutQ (fun s => AtS [(0, .v (.c (.os r 18 0 es.length))), (1, .int .i64 a), (3, .int .i64 b), (4, .v (.c (.fn f []))), (18, .int .i64 mid), (20, .int .i64 st), (24, .int .i64 en)] (H.set r (.row 18 ((P ++ (u1 ++ (v1 ++ (u2 ++ (v2 ++ S))))).map row))) s) (retQ Tryz.prog (H.set r (.row 18 (es.map row))).length ir78.res R)) := by
 obtain ⟨hes, ha, hm, hb, hul, hvl, hus, hvs, heL, nu, nv, mu, mv⟩ := M
 have cen : (N : Int) - st = en := by omega
 subst hu
 subst hv
 simp only [List.length_append] at hm hb hul hvl
 have hf1' : ¬ f = 166 := hf1
 generalize hJJ : (fun s => AtS [(0, .v (.c (.os r 18 0 es.length))), (1, .int .i64 a), (3, .int .i64 b), (4, .v (.c (.fn f []))), (18, .int .i64 mid), (20, .int .i64 st), (24, .int .i64 en)] (H.set r (.row 18 ((P ++ (u1 ++ (v1 ++ (u2 ++ (v2 ++ S))))).map row))) s) = JJ
 by_cases c1 : st < m
 ·by_cases c2 : m < en
  ·simp (implicitDefEqProofs := false) (disch := omega) [gz, b78_8, b78_9, wrap64, cen, c1, c2, hf1']
   have hc := k95 row hrow es st m en c1 c2 (by omega) hlen f H r hr
   refine hc.mono ?_
   rintro t H' ⟨rfl, rfl⟩
   simp only [callK]
   have := rotN_app (m := m) (en - st) (i := m - st) (j := en - m) (Q := P ++ u1) (u := u2) (v := v1) (T := v2 ++ S) (by omega) (by omega) (by simp; omega) (by omega) (by omega) (by omega)
   simp only [List.append_assoc] at this hes
   subst JJ
   exact at_mk (by simp) (by rw [hes, this])
  ·have hv : v1 = [] := List.length_eq_zero_iff.1 (by omega)
   subst hv
   simp (implicitDefEqProofs := false) (disch := omega) [gz, b78_8, b78_9, wrap64, cen, c1, c2, hf1']
   subst JJ
   exact at_mk (by simp) (by rw [hes]; simp)
 ·have hu : u2 = [] := List.length_eq_zero_iff.1 (by omega)
  subst hu
  simp (implicitDefEqProofs := false) (disch := omega) [gz, b78_8, b78_9, wrap64, cen, c1, hf1']
  subst JJ
  exact at_mk (by simp) (by rw [hes]; simp)

end
end Go.Aw.Try

namespace Go.Aw.Try
open Go Go.Proofs Go.Aw
set_option maxRecDepth 100000
set_option maxHeartbeats 4000000
section
variable {E : Type} [Inhabited E]
theorem k78_p5 (row : E → List D) (hrow : ∀ e, RowOk 18 (row e)) (cmp : E → E → Int) (hp : Pre cmp) (f : Nat) (xf : XE) (hsc : xf.sc = true) (hf1 : f ≠ 166) (hf2 : f ≠ 155)
  (hxg : ∀ a b, xf.g [.agg (row a), .agg (row b)] = some (True, .int .i64 (cmp a b))) (H : List O) (r : Nat) (hr : r < H.length) {P u v S es : List E} {a m b : Nat} (M : Mg cmp P u v S es a m b) (hlen : es.length < 4611686018427387904) (ih : ∀ P' u' v' S' : List E, u'.length + v'.length < u.length + v.length → u' ≠ [] → v' ≠ [] → Srt cmp u' → Srt cmp v' → (P' ++ (u' ++ (v' ++ S'))).length < 4611686018427387904 → ACalls Tryz.prog G0 155 [.c (.os r 18 0 (P' ++ (u' ++ (v' ++ S'))).length), I P'.length, I (P'.length + u'.length : Nat), I (P'.length + u'.length + v'.length : Nat), .c (.fn f [])] (H.set r (.row 18 ((P' ++ (u' ++ (v' ++ S'))).map row))) fun t H' => t = .tup [] ∧ ∃ w, Merged cmp (u' ++ v') w ∧ H' = H.set r (.row 18 ((P' ++ (w ++ S')).map row))) (R : T → List O → Prop) (sl : Nat → T) (mid st en : Nat) (hmid : mid = (a + b) / 2) (k1 : a ≤ st) (k2 : st ≤ m) (k3 : m ≤ en) (k4 : en ≤ b) (hen : mid + m = st + en) (k5 : 1 < u.length) (k6 : 1 < v.length) {u1 u2 v1 v2 : List E} (hu : u = u1 ++ u2) (hv : v = v1 ++ v2) (hU : u1.length = st - a) (hV : v1.length = en - m) :
  wcodeX Tryz.prog G0 [(f, xf)] (H.set r (.row 18 (es.map row))).length b78_10 ⟨ofLr [(0, .v (.c (.os r 18 0 es.length))), (1, .int .i64 a), (3, .int .i64 b), (4, .v (.c (.fn f []))), (18, .int .i64 mid), (20, .int .i64 st), (24, .int .i64 en)] sl, (H.set r (.row 18 ((P ++ (u1 ++ (v1 ++ (u2 ++ (v2 ++ S))))).map row)))⟩ (cutQ (fun s => ∃ w1, Merged cmp (u1 ++ v1) w1 ∧ AtS [(0, .v (.c (.os r 18 0 es.length))), (3, .int .i64 b), (4, .v (.c (.fn f []))), (18, .int .i64 mid), (24, .int .i64 en)] (H.set r (.row 18 ((P ++ (w1 ++ (u2 ++ (v2 ++ S)))).map row))) s) (retQ Tryz.prog (H.set r (.row 18 (es.map row))).length ir78.res R)) := by
 obtain ⟨hes, ha, hm, hb, hul, hvl, hus, hvs, heL, nu, nv, mu, mv⟩ := M
 subst hu
 subst hv
 simp only [List.length_append] at hm hb hul hvl k5 k6 ih
 have hf2' : ¬ f = 155 := hf2
 generalize hJJ : (fun s => ∃ w1, Merged cmp (u1 ++ v1) w1 ∧ AtS [(0, .v (.c (.os r 18 0 es.length))), (3, .int .i64 b), (4, .v (.c (.fn f []))), (18, .int .i64 mid), (24, .int .i64 en)] (H.set r (.row 18 ((P ++ (w1 ++ (u2 ++ (v2 ++ S)))).map row))) s) = JJ
 by_cases c1 : a < st
 ·by_cases c2 : st < mid
  ·simp (implicitDefEqProofs := false) (disch := omega) [gz, b78_10, wrap64, c1, c2, hf2']
   have hc := ih P u1 v1 (u2 ++ (v2 ++ S)) (by omega) (fun e => by subst e; simp at hU; omega) (fun e => by subst e; simp at hV; omega) hus.left hvs.left (by rw [hes] at hlen; simp at hlen ⊢; omega)
   have el : P.length + (u1.length + (v1.length + (u2 ++ (v2 ++ S)).length)) = es.length := by rw [hes]; simp; omega
   rw [el, show P.length + u1.length + v1.length = mid by omega, show P.length + u1.length = st by omega, ← ha] at hc
   simp only [List.map_append] at hc ⊢
   refine hc.mono ?_
   rintro t H' ⟨rfl, w1, hw1, rfl⟩
   simp only [callK]
   subst JJ
   exact ⟨w1, hw1, at_mk (by simp) (by simp)⟩
  ·have hv : v1 = [] := List.length_eq_zero_iff.1 (by omega)
   subst hv
   simp (implicitDefEqProofs := false) (disch := omega) [gz, b78_10, wrap64, c1, c2, hf2']
   subst JJ
   exact ⟨u1, ⟨hus.left, by simpa using Flt.refl _, by simp⟩, at_mk (by simp) (by simp)⟩
 ·have hu : u1 = [] := List.length_eq_zero_iff.1 (by omega)
  subst hu
  simp (implicitDefEqProofs := false) (disch := omega) [gz, b78_10, wrap64, c1, hf2']
  subst JJ
  exact ⟨v1, ⟨hvs.left, Flt.refl _, rfl⟩, at_mk (by simp) (by simp)⟩

theorem k78_p6 (row : E → List D) (hrow : ∀ e, RowOk 18 (row e)) (cmp : E → E → Int) (hp : Pre cmp) (f : Nat) (xf : XE) (hsc : xf.sc = true) (hf1 : f ≠ 166) (hf2 : f ≠ 155)
  (hxg : ∀ a b, xf.g [.agg (row a), .agg (row b)] = some (True, .int .i64 (cmp a b))) (H : List O) (r : Nat) (hr : r < H.length) {P u v S es : List E} {a m b : Nat} (M : Mg cmp P u v S es a m b) (hlen : es.length < 4611686018427387904) (ih : ∀ P' u' v' S' : List E, u'.length + v'.length < u.length + v.length → u' ≠ [] → v' ≠ [] → Srt cmp u' → Srt cmp v' → (P' ++ (u' ++ (v' ++ S'))).length < 4611686018427387904 → ACalls Tryz.prog G0 155 [.c (.os r 18 0 (P' ++ (u' ++ (v' ++ S'))).length), I P'.length, I (P'.length + u'.length : Nat), I (P'.length + u'.length + v'.length : Nat), .c (.fn f [])] (H.set r (.row 18 ((P' ++ (u' ++ (v' ++ S'))).map row))) fun t H' => t = .tup [] ∧ ∃ w, Merged cmp (u' ++ v') w ∧ H' = H.set r (.row 18 ((P' ++ (w ++ S')).map row))) (sl : Nat → T) (mid st en : Nat) (hmid : mid = (a + b) / 2) (k1 : a ≤ st) (k2 : st ≤ m) (k3 : m ≤ en) (k4 : en ≤ b) (hen : mid + m = st + en) (k5 : 1 < u.length) (k6 : 1 < v.length) {u1 u2 v1 v2 : List E} (hu : u = u1 ++ u2) (hv : v = v1 ++ v2) (hU : u1.length = st - a) (hV : v1.length = en - m) (R : T → List O → Prop) (hR : ∀ w, Merged cmp (u ++ v) w → R (T.tup []) (H.set r (.row 18 ((P ++ (w ++ S)).map row)))) (w1 : List E) (hw1 : Merged cmp (u1 ++ v1) w1) (g1 : ∀ x ∈ v1, ∀ y ∈ u2, cmp x y < 0) (g2 : ∀ x ∈ u1, ∀ y ∈ v2, cmp x y ≤ 0) :
  wcodeX Tryz.prog G0 [(f, xf)] (H.set r (.row 18 (es.map row))).length (.seq b78_11 b78_12) ⟨ofLr [(0, .v (.c (.os r 18 0 es.length))), (3, .int .i64 b), (4, .v (.c (.fn f []))), (18, .int .i64 mid), (24, .int .i64 en)] sl, (H.set r (.row 18 ((P ++ (w1 ++ (u2 ++ (v2 ++ S)))).map row)))⟩ (retQ Tryz.prog (H.set r (.row 18 (es.map row))).length ir78.res R) := by
 obtain ⟨hes, ha, hm, hb, hul, hvl, hus, hvs, heL, nu, nv, mu, mv⟩ := M
 have hl1 := hw1.2.2
 have fin : ∀ w2, Merged cmp (u2 ++ v2) w2 → ∃ w, Merged cmp (u ++ v) w ∧ P ++ (w1 ++ (w2 ++ S)) = P ++ (w ++ S) := fun w2 h => ⟨w1 ++ w2, by rw [hu, hv] at *; exact merge_split hp hus hvs g1 g2 hw1 h, by simp⟩
 have fin2 : ∀ w2, Merged cmp (u2 ++ v2) w2 → R (T.tup []) (H.set r (.row 18 ((P ++ (w1 ++ (w2 ++ S))).map row))) := fun w2 h => by
  obtain ⟨w, q1, q2⟩ := fin w2 h
  rw [q2]; exact hR w q1
 have ul := congrArg List.length hu
 have vl := congrArg List.length hv
 rw [hu] at hus
 rw [hv] at hvs
 simp only [List.length_append] at hl1 ul vl
 have hf2' : ¬ f = 155 := hf2
 by_cases c1 : mid < en
 ·by_cases c2 : en < b
  ·simp (implicitDefEqProofs := false) (disch := omega) [gz, b78_11, b78_12, ir78, wrap64, c1, c2, hf2']
   have hc := ih (P ++ w1) u2 v2 S (by omega) (fun e => by subst e; simp at ul; omega) (fun e => by subst e; simp at vl; omega) hus.right hvs.right (by rw [hes] at hlen; simp at hlen ⊢; omega)
   have el : (P ++ w1 ++ (u2 ++ (v2 ++ S))).length = es.length := by rw [hes]; simp; omega
   rw [el, show (P ++ w1).length + u2.length + v2.length = b by simp; omega, show (P ++ w1).length + u2.length = en by simp; omega, show (P ++ w1).length = mid by simp; omega] at hc
   simp only [List.map_append, List.append_assoc] at hc ⊢
   refine hc.mono ?_
   rintro t H' ⟨rfl, w2, hw2, rfl⟩
   simp only [callK]
   have := fin2 w2 hw2
   exact fin_here (by simp) (by simpa using this)
  ·have hv : v2 = [] := List.length_eq_zero_iff.1 (by omega)
   subst hv
   simp (implicitDefEqProofs := false) (disch := omega) [gz, b78_11, b78_12, ir78, wrap64, c1, c2, hf2']
   have := fin2 u2 ⟨hus.right, by simpa using Flt.refl _, by simp⟩
   exact fin_here (by simp) (by simpa using this)
 ·have hu : u2 = [] := List.length_eq_zero_iff.1 (by omega)
  subst hu
  simp (implicitDefEqProofs := false) (disch := omega) [gz, b78_11, b78_12, ir78, wrap64, c1, hf2']
  have := fin2 v2 ⟨hvs.right, Flt.refl _, rfl⟩
  exact fin_here (by simp) (by simpa using this)

end
end Go.Aw.Try

namespace Go.Aw.Try
open Go Go.Proofs Go.Aw
set_option maxRecDepth 100000
set_option maxHeartbeats 4000000
section
variable {E : Type} [Inhabited E]
theorem k78 (row : E → List D) (hrow : ∀ e, RowOk 18 (row e)) (cmp : E → E → Int) (hp : Pre cmp) (f : Nat) (xf : XE) (hx : Contract Tryz.prog G0 f xf) (hsc : xf.sc = true) (hf1 : f ≠ 166) (hf2 : f ≠ 155)
  (hxg : ∀ a b, xf.g [.agg (row a), .agg (row b)] = some (True, .int .i64 (cmp a b))) (H : List O) (r : Nat) (hr : r < H.length) : ∀ (n : Nat) (P u v S : List E), u.length + v.length = n → u ≠ [] → v ≠ [] → Srt cmp u → Srt cmp v →
  (P ++ (u ++ (v ++ S))).length < 4611686018427387904 →
  ACalls Tryz.prog G0 155 [.c (.os r 18 0 (P ++ (u ++ (v ++ S))).length), I P.length, I (P.length + u.length : Nat), I (P.length + u.length + v.length : Nat), .c (.fn f [])] (H.set r (.row 18 ((P ++ (u ++ (v ++ S))).map row)))
   fun t H' => t = .tup [] ∧ ∃ w, Merged cmp (u ++ v) w ∧ H' = H.set r (.row 18 ((P ++ (w ++ S)).map row)) := by
 intro n
 induction n using Nat.strongRecOn with
 | _ n ih =>
 intro P u v S hn hu0 hv0 hus hvs hlen
 have M := Mg.mk' hp (P := P) (S := S) hu0 hv0 hus hvs
 obtain ⟨es, hes⟩ : ∃ es, es = P ++ (u ++ (v ++ S)) := ⟨_, rfl⟩
 obtain ⟨a, ha⟩ : ∃ a, a = P.length := ⟨_, rfl⟩
 obtain ⟨m, hm⟩ : ∃ m, m = P.length + u.length := ⟨_, rfl⟩
 obtain ⟨b, hb⟩ : ∃ b, b = P.length + u.length + v.length := ⟨_, rfl⟩
 rw [← hes, ← hb, ← hm, ← ha] at M
 rw [← hes, ← hb, ← hm, ← ha]
 rw [← hes] at hlen
 have hul := M.hul
 have hvl := M.hvl
 obtain ⟨mid, hmid⟩ : ∃ mid, mid = (a + b) / 2 := ⟨_, rfl⟩
 refine acallsX (X := [(f, xf)]) ⟨hx, trivial⟩ tab hmix Tryz.func155 c78 (by rfl) fun hw => ?_
 show wcodeX _ _ _ _ b78 _ _
 unfold b78
 refine seqX _ (k78_p0 row hrow cmp hp f xf hsc hf1 hf2 hxg H r hr M hlen hw) ?_
 rintro _ ⟨hma, sl, rfl⟩
 refine seqX _ (k78_p1 row hrow cmp hp f xf hsc hf1 hf2 hxg H r hr M hlen hma sl) ?_
 rintro _ ⟨hbm, sl, rfl⟩
 rw [seq_assoc, seq_assoc, seq_assoc]
 refine seqX _ (k78_p2 row hrow cmp hp f xf hsc hf1 hf2 hxg H r hr M hlen _ sl mid hmid) ?_
 rintro _ ⟨lo, hi, hc1, hc2, sl, rfl⟩
 obtain ⟨N, hN⟩ : ∃ N, N = mid + m := ⟨_, rfl⟩
 rw [← hN]
 have hall : a ≤ lo ∧ lo ≤ hi ∧ hi ≤ m ∧ hi ≤ mid ∧ N ≤ lo + b ∧ (lo = a ∨ lo + b = N) ∧ (hi = m ∨ hi = mid) ∧ a < mid ∧ mid < b := by
  by_cases hc : mid < m
  ·have := hc1 hc; omega
  ·have := hc2 hc; omega
 obtain ⟨k1, k2, k3, k4, k5, k6, k7, k8, k9⟩ := hall
 rw [seq_assoc]
 refine seqX _ (k78_p3 row hrow cmp hp f xf hsc hf1 hf2 hxg H r hr M hlen _ sl mid N lo hi hmid hN k1 k2 k3 k4 k5) ?_
 rintro _ ⟨st, hmi, hib, hlo, hhi, sl, rfl⟩
 obtain ⟨en, hen⟩ : ∃ en, en = N - st := ⟨_, rfl⟩
 obtain ⟨u1, u2, hu, hU⟩ := split_at u (n := st - a) (by omega)
 obtain ⟨v1, v2, hv, hV⟩ := split_at v (n := en - m) (by omega)
 have ul := congrArg List.length hu
 have vl := congrArg List.length hv
 simp only [List.length_append] at ul vl
 have eu1 : ∀ x ∈ u1, ∃ c, a ≤ c ∧ c < st ∧ nth es c = x := fun x hx => by
  obtain ⟨k, hk, e⟩ := mem_nth hx
  exact ⟨a + k, by omega, by omega, by rw [M.nu _ (by omega) (by omega), Nat.add_sub_cancel_left, hu, nth_app_l hk, e]⟩
 have eu2 : ∀ x ∈ u2, ∃ c, st ≤ c ∧ c < m ∧ nth es c = x := fun x hx => by
  obtain ⟨k, hk, e⟩ := mem_nth hx
  exact ⟨st + k, by omega, by omega, by rw [M.nu _ (by omega) (by omega), hu, nth_app_r (by omega), show st + k - a - u1.length = k by omega, e]⟩
 have ev1 : ∀ x ∈ v1, ∃ c, m ≤ c ∧ c < en ∧ nth es c = x := fun x hx => by
  obtain ⟨k, hk, e⟩ := mem_nth hx
  exact ⟨m + k, by omega, by omega, by rw [M.nv _ (by omega) (by omega), Nat.add_sub_cancel_left, hv, nth_app_l hk, e]⟩
 have ev2 : ∀ x ∈ v2, ∃ c, en ≤ c ∧ c < b ∧ nth es c = x := fun x hx => by
  obtain ⟨k, hk, e⟩ := mem_nth hx
  exact ⟨en + k, by omega, by omega, by rw [M.nv _ (by omega) (by omega), hv, nth_app_r (by omega), show en + k - m - v1.length = k by omega, e]⟩
 have g1 : ∀ x ∈ v1, ∀ y ∈ u2, cmp x y < 0 := fun x hx y hy => by
  obtain ⟨c, q1, q2, rfl⟩ := ev1 x hx
  obtain ⟨c', q3, q4, rfl⟩ := eu2 y hy
  have := hhi st (Nat.le_refl _) (by omega)
  rw [show N - 1 - st = en - 1 by omega] at this
  exact hp.le_lt (M.mv c (en - 1) q1 (by omega) (by omega)) (hp.lt_le this (M.mu st c' (by omega) q3 q4))
 have g2 : ∀ x ∈ u1, ∀ y ∈ v2, cmp x y ≤ 0 := fun x hx y hy => by
  obtain ⟨c, q1, q2, rfl⟩ := eu1 x hx
  obtain ⟨c', q3, q4, rfl⟩ := ev2 y hy
  have := hlo (st - 1) (by omega) (by omega)
  rw [show N - 1 - (st - 1) = en by omega] at this
  exact hp.tr _ _ _ (M.mu c (st - 1) q1 (by omega) (by omega)) (hp.tr _ _ _ (hp.le_of_not this) (M.mv en c' (by omega) q3 q4))
 rw [seq_assoc]
 refine seqX _ (k78_p4 row hrow cmp hp f xf hsc hf1 hf2 hxg H r hr M hlen _ sl mid N st en (by omega) (by omega) (by omega) (by omega) (by omega) hu hv hU hV) ?_
 rintro _ ⟨sl, rfl⟩
 have ih' : ∀ P' u' v' S' : List E, u'.length + v'.length < u.length + v.length → _ := fun P' u' v' S' h => ih _ (by omega) P' u' v' S' rfl
 refine seqX _ (k78_p5 row hrow cmp hp f xf hsc hf1 hf2 hxg H r hr M hlen ih' _ sl mid st en hmid (by omega) (by omega) (by omega) (by omega) (by omega) (by omega) (by omega) hu hv hU hV) ?_
 rintro _ ⟨w1, hw1, sl, rfl⟩
 exact k78_p6 row hrow cmp hp f xf hsc hf1 hf2 hxg H r hr M hlen ih' sl mid st en hmid (by omega) (by omega) (by omega) (by omega) (by omega) (by omega) (by omega) hu hv hU hV _ (fun w hw => ⟨rfl, w, hw, rfl⟩) w1 hw1 g1 g2
end
end Go.Aw.Try

namespace Go.Aw
section
variable {E : Type}
/-- Blocks, one behind the other. -/
def flat (W : List (List E)) : List E := W.flatten
@[simp] theorem flat_nil : flat ([] : List (List E)) = [] := rfl
@[simp] theorem flat_cons {w : List E} {W : List (List E)} : flat (w :: W) = w ++ flat W := rfl
@[simp] theorem flat_app {W V : List (List E)} : flat (W ++ V) = flat W ++ flat V := List.flatten_append
theorem flat_len {k : Nat} : ∀ {W : List (List E)}, (∀ w ∈ W, w.length = k) → (flat W).length = W.length * k
 | [], _ => by simp
 | w :: W, h => by
  have := flat_len (W := W) fun w hw => h w (List.mem_cons_of_mem _ hw)
  have := h w List.mem_cons_self
  simp only [flat_cons, List.length_append, List.length_cons, Nat.succ_mul]; omega
end
end Go.Aw
namespace Go.Aw.Try
open Go Go.Proofs Go.Aw
set_option maxRecDepth 100000
set_option maxHeartbeats 4000000
section
variable {E : Type} [Inhabited E]
theorem k64 (row : E → List D) (hrow : ∀ e, RowOk 18 (row e)) (cmp : E → E → Int) (hp : Pre cmp) (f : Nat) (xf : XE) (hx : Contract Tryz.prog G0 f xf) (hsc : xf.sc = true) (hf1 : f ≠ 166) (hf2 : f ≠ 155)
  (hxg : ∀ a b, xf.g [.agg (row a), .agg (row b)] = some (True, .int .i64 (cmp a b))) (H : List O) (r : Nat) (hr : r < H.length) (es : List E) (hl : es.length < 1152921504606846976) :
  ACalls Tryz.prog G0 132 [.c (.os r 18 0 es.length), I es.length, .c (.fn f [])] (H.set r (.row 18 (es.map row)))
   fun t H' => t = .tup [] ∧ H' = H.set r (.row 18 ((ssort cmp es).map row)) := by
 refine acallsX (X := []) trivial tab hmix Tryz.func132 c64 (by rfl) fun hw => ?_
 obtain ⟨n, hn⟩ : ∃ n, n = es.length := ⟨_, rfl⟩
 rw [← hn]
 simp (implicitDefEqProofs := false) (disch := omega) [gz, ir64, b64, b64_0, b64_1, b64_2, wrap64]
 refine loopE (fun k s => ∃ (W : List (List E)) (R : List E) (a b : Nat), (∀ w ∈ W, w.length = 20 ∧ Srt cmp w) ∧ Flt cmp ((flat W) ++ R) es ∧ (flat W).length + R.length = n ∧ a = (flat W).length ∧ b = a + 20 ∧ k = n - a ∧
  s = ⟨ofL [(0, .v (.c (.os r 18 0 n))), (1, .int .i64 n), (2, .v (.c (.fn f []))), (6, .int .i64 20), (7, .int .i64 a), (8, .int .i64 b)], H.set r (.row 18 (((flat W) ++ R).map row))⟩)
  (fun s => ∃ (W : List (List E)) (R : List E) (a : Nat), (∀ w ∈ W, w.length = 20 ∧ Srt cmp w) ∧ Flt cmp ((flat W) ++ R) es ∧ (flat W).length + R.length = n ∧ a = (flat W).length ∧ R.length < 20 ∧
   AtS [(0, .v (.c (.os r 18 0 n))), (1, .int .i64 n), (2, .v (.c (.fn f []))), (6, .int .i64 20), (7, .int .i64 a)] (H.set r (.row 18 (((flat W) ++ R).map row))) s) ?_ ?_ ?_
 ·refine wk_keep [0, 1, 2, 6, 7, 8] ⟨_, [], es, 0, 20, by simp, by simpa using Flt.refl _, by simp; omega, rfl, rfl, rfl, ?_⟩
  simp
 ·rintro J L hJ hL k s ⟨W, R, a, b, hW, hF, hlen, ha, hb, rfl, rfl⟩
  by_cases hlt : b ≤ n
  ·obtain ⟨R1, R2, rfl, hR1⟩ := split_at R (n := 20) (by omega)
   simp only [List.length_append] at hlen
   have hc := k77 row hrow cmp f xf hx hsc hxg ((flat W) ++ (R1 ++ R2)) a b (by omega) (by simp; omega) (by simp; omega) H r hr
   have el : ((flat W) ++ (R1 ++ R2)).length = n := by simp; omega
   obtain ⟨w, q1, q2, q3, q4⟩ := ins_sorts (P := (flat W)) (u := R1) (S := R2) hp
   rw [List.append_assoc, ← ha, show a + R1.length = b by omega] at q1
   rw [el, q1] at hc
   simp (implicitDefEqProofs := false) (disch := omega) [gz, hlt, wrap64]
   simp only [List.map_append] at hc
   refine hc.mono ?_
   rintro t H' ⟨rfl, rfl⟩
   simp (implicitDefEqProofs := false) (disch := omega) [gz, callK, wrap64]
   subst hJ
   refine wk_keep [0, 1, 2, 6, 7, 8] ⟨n - b, by omega, W ++ [w], R2, b, b + 20, ?_, ?_, ?_, ?_, rfl, rfl, ?_⟩
   ·intro x hx
    rcases List.mem_append.1 hx with hx | hx
    ·exact hW x hx
    ·simp at hx; subst hx; exact ⟨by omega, q2⟩
   ·refine Flt.trans ?_ hF
    have := ((Flt.refl (cmp := cmp) (flat W)).app q3).app (Flt.refl (cmp := cmp) R2)
    simpa using this
   ·simp; omega
   ·simp; omega
   ·simp
  ·simp (implicitDefEqProofs := false) (disch := omega) [gz, hlt]
   subst hL
   refine ⟨W, R, a, hW, hF, hlen, ha, by omega, at_mk (by simp) (by simp)⟩
 ·rintro _ ⟨W, R, a, hW, hF, hlen, ha, hR, sl, rfl⟩
  have hc := k77 row hrow cmp f xf hx hsc hxg ((flat W) ++ R) a n (by omega) (by simp; omega) (by simp; omega) H r hr
  have el : ((flat W) ++ R).length = n := by simp; omega
  obtain ⟨w, q1, q2, q3, q4⟩ := ins_sorts (P := (flat W)) (u := R) (S := []) hp
  rw [List.append_nil, List.append_nil, ← ha, show a + R.length = n by omega] at q1
  rw [el, q1] at hc
  simp (implicitDefEqProofs := false) (disch := omega) [gz, b64_3, b64_4, wrap64]
  simp only [List.map_append] at hc
  refine hc.mono ?_
  rintro t H' ⟨rfl, rfl⟩
  simp (implicitDefEqProofs := false) (disch := omega) [gz, callK, wrap64]
  refine loopG (fun k s => ∃ (W : List (List E)) (l : List E) (bs a b : Nat), 0 < bs ∧ (∀ w ∈ W, w.length = bs ∧ Srt cmp w) ∧ l.length < bs ∧ Srt cmp l ∧ Flt cmp ((flat W) ++ l) es ∧ (flat W).length + l.length = n ∧ k = n - bs ∧
   s = ⟨ofL [(0, .v (.c (.os r 18 0 n))), (1, .int .i64 n), (2, .v (.c (.fn f []))), (6, .int .i64 bs)], H.set r (.row 18 (((flat W) ++ l).map row))⟩) ?_ ?_
  ·refine wk_keep [0, 1, 2, 6] ⟨_, W, w, 20, 0, 0, by omega, hW, by omega, q2, ?_, by omega, rfl, ?_⟩
   ·exact ((Flt.refl (cmp := cmp) (flat W)).app q3).trans hF
   ·simp
  ·rintro J hJ k s ⟨W, l, bs, a, b, hbs, hW, hl1, hl2, hF, hlen, rfl, rfl⟩
   have hfl := flat_len fun w hw => (hW w hw).1
   by_cases hlt : bs < n
   ·simp (implicitDefEqProofs := false) (disch := omega) [gz, hlt, wrap64]
    refine loopE (fun k s => ∃ (W2 W1 : List (List E)) (a b : Nat), (∀ w ∈ W2, w.length = 2 * bs ∧ Srt cmp w) ∧ (∀ w ∈ W1, w.length = bs ∧ Srt cmp w) ∧ Flt cmp ((flat W2) ++ ((flat W1) ++ l)) es ∧ (flat W2).length + ((flat W1).length + l.length) = n ∧
      a = (flat W2).length ∧ b = a + 2 * bs ∧ k = n - a ∧
      s = ⟨ofL [(0, .v (.c (.os r 18 0 n))), (1, .int .i64 n), (2, .v (.c (.fn f []))), (6, .int .i64 bs), (7, .int .i64 a), (8, .int .i64 b)], H.set r (.row 18 (((flat W2) ++ ((flat W1) ++ l)).map row))⟩)
     (fun s => ∃ (W2 W1 : List (List E)) (a : Nat), (∀ w ∈ W2, w.length = 2 * bs ∧ Srt cmp w) ∧ (∀ w ∈ W1, w.length = bs ∧ Srt cmp w) ∧ Flt cmp ((flat W2) ++ ((flat W1) ++ l)) es ∧ (flat W2).length + ((flat W1).length + l.length) = n ∧
      a = (flat W2).length ∧ n < a + 2 * bs ∧ AtS [(0, .v (.c (.os r 18 0 n))), (1, .int .i64 n), (2, .v (.c (.fn f []))), (6, .int .i64 bs), (7, .int .i64 a)] (H.set r (.row 18 (((flat W2) ++ ((flat W1) ++ l)).map row))) s) ?_ ?_ ?_
    ·refine wk_keep [0, 1, 2, 6, 7, 8] ⟨_, [], W, 0, 2 * bs, by simp, hW, by simpa using hF, by simp; omega, rfl, by omega, rfl, ?_⟩
     simp
    ·rintro J2 L2 hJ2 hL2 k s ⟨W2, W1, a, b, hW2, hW1, hF, hlen, ha, hb, rfl, rfl⟩
     have hfl1 := flat_len fun w hw => (hW1 w hw).1
     by_cases hlt2 : b ≤ n
     ·match W1 with
      | [] => simp at hlen hfl1; omega
      | [w1] => simp at hlen hfl1; omega
      | w1 :: w2 :: W1 =>
       have h1 := hW1 w1 (by simp)
       have h2 := hW1 w2 (by simp)
       have hc := k78 row hrow cmp hp f xf hx hsc hf1 hf2 hxg H r hr _ (flat W2) w1 w2 ((flat W1) ++ l) rfl (fun e => by subst e; simp at h1; omega) (fun e => by subst e; simp at h2; omega) h1.2 h2.2 (by simp at hlen ⊢; omega)
       have el : ((flat W2) ++ (w1 ++ (w2 ++ ((flat W1) ++ l)))).length = n := by simp at hlen ⊢; omega
       rw [el, show (flat W2).length + w1.length + w2.length = b by omega, h1.1, ← ha] at hc
       have c1 : ((a + bs : Nat) : Int) = (a : Int) + bs := by omega
       rw [c1] at hc
       simp (implicitDefEqProofs := false) (disch := omega) [gz, hlt2, wrap64]
       simp only [List.map_append] at hc
       refine hc.mono ?_
       rintro t H' ⟨rfl, w, hw, rfl⟩
       simp (implicitDefEqProofs := false) (disch := omega) [gz, callK, wrap64]
       subst hJ2
       have hwl := hw.2.2
       simp only [List.length_append] at hwl
       refine wk_keep [0, 1, 2, 6, 7, 8] ⟨n - b, by omega, W2 ++ [w], W1, b, b + 2 * bs, ?_, fun x hx => hW1 x (by simp [hx]), ?_, ?_, ?_, rfl, rfl, ?_⟩
       ·intro x hx
        rcases List.mem_append.1 hx with hx | hx
        ·exact hW2 x hx
        ·simp at hx; subst hx; exact ⟨by omega, hw.1⟩
       ·refine Flt.trans ?_ hF
        have := ((Flt.refl (cmp := cmp) (flat W2)).app hw.2.1).app (Flt.refl (cmp := cmp) ((flat W1) ++ l))
        simpa using this
       ·simp at hlen ⊢; omega
       ·simp; omega
       ·simp
     ·simp (implicitDefEqProofs := false) (disch := omega) [gz, hlt2]
      subst hL2
      exact ⟨W2, W1, a, hW2, hW1, hF, hlen, ha, by omega, at_mk (by simp) (by simp)⟩
    ·rintro _ ⟨W2, W1, a, hW2, hW1, hF, hlen, ha, hnb, sl, rfl⟩
     have hfl1 := flat_len fun w hw => (hW1 w hw).1
     by_cases hm : a + bs < n
     ·match W1 with
      | [] => simp at hlen hfl1; omega
      | w1 :: w2 :: W1 => simp [Nat.succ_mul] at hlen hfl1; omega
      | [w1] =>
       have h1 := hW1 w1 (by simp)
       simp only [flat_cons, flat_nil, List.append_nil] at hlen hF ⊢
       have hc := k78 row hrow cmp hp f xf hx hsc hf1 hf2 hxg H r hr _ (flat W2) w1 l [] rfl (fun e => by subst e; simp at h1; omega) (fun e => by subst e; simp at hlen; omega) h1.2 hl2 (by simp at hlen ⊢; omega)
       have el : ((flat W2) ++ (w1 ++ (l ++ []))).length = n := by simp at hlen ⊢; omega
       rw [el, show (flat W2).length + w1.length + l.length = n by omega, h1.1, ← ha] at hc
       have c1 : ((a + bs : Nat) : Int) = (a : Int) + bs := by omega
       rw [c1] at hc
       have hm' : (a : Int) + bs < n := by omega
       simp (implicitDefEqProofs := false) (disch := omega) [gz, hm', wrap64]
       simp only [List.map_append, List.append_nil] at hc
       refine hc.mono ?_
       rintro t H' ⟨rfl, w, hw, rfl⟩
       simp (implicitDefEqProofs := false) (disch := omega) [gz, callK, wrap64]
       subst hJ
       have hwl := hw.2.2
       simp only [List.length_append] at hwl
       refine wk_keep [0, 1, 2, 6] ⟨n - 2 * bs, by omega, W2, w, 2 * bs, 0, 0, by omega, hW2, by omega, hw.1, ?_, by omega, rfl, ?_⟩
       ·exact ((Flt.refl (cmp := cmp) (flat W2)).app hw.2.1).trans hF
       ·have c2 : ((2 * bs : Nat) : Int) = (bs : Int) * 2 := by omega
        simp [c2]
     ·have hm' : ¬ (a : Int) + bs < n := by omega
      simp (implicitDefEqProofs := false) (disch := omega) [gz, hm', wrap64]
      subst hJ
      have c2 : ((2 * bs : Nat) : Int) = (bs : Int) * 2 := by omega
      match W1 with
      | [] =>
       simp only [flat_nil, List.nil_append, List.length_nil, Nat.zero_add] at hlen hF
       refine wk_keep [0, 1, 2, 6] ⟨n - 2 * bs, by omega, W2, l, 2 * bs, 0, 0, by omega, hW2, by omega, hl2, hF, by omega, rfl, ?_⟩
       simp [c2]
      | w1 :: w2 :: W1 => simp [Nat.succ_mul] at hlen hfl1; omega
      | [w1] =>
       have h1 := hW1 w1 (by simp)
       simp only [flat_cons, flat_nil, List.append_nil] at hlen hF
       have : l = [] := List.length_eq_zero_iff.1 (by omega)
       subst this
       refine wk_keep [0, 1, 2, 6] ⟨n - 2 * bs, by omega, W2, w1, 2 * bs, 0, 0, by omega, hW2, by omega, h1.2, by simpa using hF, by simpa using hlen, rfl, ?_⟩
       simp [c2]
   ·simp (implicitDefEqProofs := false) (disch := omega) [gz, hlt]
    have hs : (flat W) ++ l = ssort cmp es := by
     refine ssort_of hp ?_ hF
     match W with
     | [] => simpa using hl2
     | [w1] =>
      have h1 := hW w1 (by simp)
      simp at hlen
      have : l = [] := List.length_eq_zero_iff.1 (by omega)
      subst this
      simpa using h1.2
     | w1 :: w2 :: W1 => simp [Nat.succ_mul] at hlen hfl; omega
    rw [← hs]
    exact fin_here (by simp) ⟨rfl, by simp⟩
theorem k44 (row : E → List D) (hrow : ∀ e, RowOk 18 (row e)) (cmp : E → E → Int) (hp : Pre cmp) (f : Nat) (xf : XE) (hx : Contract Tryz.prog G0 f xf) (hsc : xf.sc = true) (hf1 : f ≠ 166) (hf2 : f ≠ 155)
  (hxg : ∀ a b, xf.g [.agg (row a), .agg (row b)] = some (True, .int .i64 (cmp a b))) (H : List O) (r : Nat) (hr : r < H.length) (es : List E) (hl : es.length < 1152921504606846976) :
  ACalls Tryz.prog G0 99 [.c (.os r 18 0 es.length), .c (.fn f [])] (H.set r (.row 18 (es.map row)))
   fun t H' => t = .tup [] ∧ H' = H.set r (.row 18 ((ssort cmp es).map row)) := by
 refine acallsX (X := []) trivial tab hmix Tryz.func99 c44 (by rfl) fun hw => ?_
 simp (implicitDefEqProofs := false) (disch := omega) [gz, ir44, b44, wrap64]
 refine (k64 row hrow cmp hp f xf hx hsc hf1 hf2 hxg H r hr es hl).mono ?_
 rintro t H' ⟨rfl, rfl⟩
 simp only [callK]
 exact fin_here (by simp) ⟨rfl, rfl⟩
end
end Go.Aw.Try

namespace Go.Aw
open Go
theorem contract_sc {P : Program} {G : Gl} {f : Nat} {g : List PV → Option (Prop × T)} (h : ∀ ps ob t, g ps = some (ob, t) → ob → scT t = true ∧ ACalls P G f (ps.map PV.toV) [] (fun t' H' => t' = t ∧ H' = [])) : Contract P G f ⟨true, g⟩ := by
 intro ps ob t hg ho
 exact h ps ob t hg ho
end Go.Aw
namespace Go.Aw.Try
open Go Go.Proofs Go.Aw
set_option maxRecDepth 100000
set_option maxHeartbeats 4000000
theorem k65 (a : Int) : ACalls Tryz.prog G0 156 [I a] [] fun t H => t = .bool false ∧ H = [] := by
 refine acallsX (X := []) trivial tab hmix Tryz.func156 c65 (by rfl) fun hw => ?_
 simp (implicitDefEqProofs := false) (disch := omega) [gz, ir65, b65]
 exact fin_nil ⟨rfl, rfl⟩
def x65 : XE := ⟨true, fun ps => match ps with | [.c (.v (.int .i64 _))] => some (True, .bool false) | _ => none⟩
theorem kx65 : Contract Tryz.prog G0 156 x65 := contract_sc fun ps ob t h _ => by
 split at h
 ·rename_i a
  injection h with h; injection h with h1 h2; subst h2
  exact ⟨rfl, k65 a⟩
 ·cases h
theorem k48 (a b : Int) : ACalls Tryz.prog G0 134 [I a, I b] [] fun t H => t = .int .i64 (cmpI a b) ∧ H = [] := by
 refine acallsX (X := [(156, x65)]) ⟨kx65, trivial⟩ tab hmix Tryz.func134 c48 (by rfl) fun hw => ?_
 by_cases h1 : a < b
 ·simp (implicitDefEqProofs := false) (disch := omega) [gz, ir48, b48, x65, h1]
  exact fin_nil ⟨by simp [cmpI, h1], rfl⟩
 ·by_cases h2 : b < a
  ·simp (implicitDefEqProofs := false) (disch := omega) [gz, ir48, b48, x65, h1, h2]
   exact fin_nil ⟨by simp [cmpI, h1, h2], rfl⟩
  ·simp (implicitDefEqProofs := false) (disch := omega) [gz, ir48, b48, x65, h1, h2]
   exact fin_nil ⟨by simp [cmpI, h1, h2], rfl⟩
theorem kx48 : Contract Tryz.prog G0 134 x48 := contract_sc fun ps ob t h _ => by
 split at h
 ·rename_i a b
  injection h with h; injection h with h1 h2; subst h2
  exact ⟨rfl, k48 a b⟩
 ·cases h
theorem k66 (a b : ByteArray) : ACalls Tryz.prog G0 123 [Sx a, Sx b] [] fun t H => t = .int .i64 (cmpS a b) ∧ H = [] :=
 acalls_of_calls (xs := [.string a, .string b]) (callable_of Tryz.func123 (by kernel_rfl) (by kernel_rfl)) rfl (fun w => Try.calls66 a b w) []
def x66 : XE := ⟨true, fun ps => match ps with | [.c (.v (.string a)), .c (.v (.string b))] => some (True, .int .i64 (cmpS a b)) | _ => none⟩
theorem kx66 : Contract Tryz.prog G0 123 x66 := contract_sc fun ps ob t h _ => by
 split at h
 ·rename_i a b
  injection h with h; injection h with h1 h2; subst h2
  exact ⟨rfl, k66 a b⟩
 ·cases h
theorem k49 (a b : ByteArray) : ACalls Tryz.prog G0 86 [Sx a, Sx b] [] fun t H => t = .int .i64 (cmpS a b) ∧ H = [] := by
 refine acallsX (X := [(123, x66)]) ⟨kx66, trivial⟩ tab hmix Tryz.func86 c49 (by rfl) fun hw => ?_
 simp (implicitDefEqProofs := false) (disch := omega) [gz, ir49, b49, x66]
 exact fin_nil ⟨rfl, rfl⟩
theorem kx49 : Contract Tryz.prog G0 86 x49 := contract_sc fun ps ob t h _ => by
 split at h
 ·rename_i a b
  injection h with h; injection h with h1 h2; subst h2
  exact ⟨rfl, k49 a b⟩
 ·cases h
def x47' : XE := ⟨true, fun ps => match ps with | [.c (.sl xs)] => (match intsOf xs with | some l => some (xs.length < 4611686018427387904, .int .i64 (orI l)) | none => none) | _ => none⟩
theorem kx47 : Contract Tryz.prog G0 133 x47' := contract_sc fun ps ob t h ho => by
 split at h
 ·rename_i xs
  split at h
  ·rename_i l hl
   injection h with h; injection h with h1 h2; subst h2; subst h1
   have := intsOf_get hl
   subst this
   exact ⟨rfl, k47 l (by simpa using ho)⟩
  ·cases h
 ·cases h

def cmpE (a b : Edit) : Int := orI [cmpI a.clock b.clock, cmpS a.id.a b.id.a, cmpI a.id.n b.id.n]
theorem k21' (a b : Edit) : ACalls Tryz.prog G0 100 [.agg (a.row.map .d), .agg (b.row.map .d)] [] fun t H => t = .int .i64 (cmpE a b) ∧ H = [] := by
 refine acallsX (X := [(133, x47'), (134, x48), (86, x49)]) ⟨kx47, kx48, kx49, trivial⟩ tab hmix Tryz.func100 c21 (by rfl) fun hw => ?_
 simp [ir21, b21, wcodeX, wopsX, wopX, wlex, stepX, calleeOf, fop, foot, ev, cv, argSl, holes, thenQ, normQ, blockQ, St.put, putS_eq, binIF, retQ, resL, resV, resT, argsOf, nrm, nrmC, callX, callF, xget, x47', x48, x49, toBVs, mapO, toBV, toB, toD, condP, Edit.row, V.known, V.cells, ptrTo, valOf, fillR, toDs, frz, frz1, apW, addH, osT, osR, borVs, borV, borC, intsOf]
 repeat' apply And.intro
 all_goals first | omega | kernel_rfl | skip
 exact fin_nil ⟨rfl, rfl⟩
def x21 : XE := ⟨true, fun ps => match ps with
 | [.agg (.v (.string a1) :: .v (.int .i64 n1) :: .v (.int .i64 c1) :: _), .agg (.v (.string a2) :: .v (.int .i64 n2) :: .v (.int .i64 c2) :: _)] =>
  some (∃ a b : Edit, ps = [.agg a.row, .agg b.row], .int .i64 (orI [cmpI c1 c2, cmpS a1 a2, cmpI n1 n2]))
 | _ => none⟩
theorem kx21 : Contract Tryz.prog G0 100 x21 := contract_sc fun ps ob t h ho => by
 split at h
 ·rename_i a1 n1 c1 r1 a2 n2 c2 r2
  injection h with h; injection h with h1 h2; subst h2; subst h1
  obtain ⟨a, b, e⟩ := ho
  refine ⟨rfl, ?_⟩
  have := k21' a b
  rw [e]
  simp only [Edit.row, List.cons.injEq, PVo.agg.injEq, D.v.injEq, Value.string.injEq, Value.int.injEq, true_and] at e
  obtain ⟨⟨e1, e2, e3, _⟩, ⟨e4, e5, e6, _⟩, _⟩ := e
  subst e1 e2 e3 e4 e5 e6
  exact this
 ·cases h
theorem xg21 (a b : Edit) : x21.g [.agg a.row, .agg b.row] = some (True, .int .i64 (cmpE a b)) := by
 show some (∃ a' b' : Edit, [PVo.agg a.row, .agg b.row] = [.agg a'.row, .agg b'.row], T.int .i64 (cmpE a b)) = _
 rw [show (∃ a' b' : Edit, [PVo.agg a.row, .agg b.row] = [.agg a'.row, .agg b'.row]) = True from eq_true ⟨a, b, rfl⟩]
theorem erow (e : Edit) : RowOk 18 e.row := ⟨rfl, fun d hd c h => by subst h; simp [Edit.row] at hd⟩
/-- The closure of Sort. -/
theorem k46 (a b : Edit) : ACalls Tryz.prog G0 102 [.agg (a.row.map .d), .agg (b.row.map .d)] [] fun t H => t = .bool (decide (cmpE a b = 0)) ∧ H = [] := by
 refine acallsX (X := [(100, x21)]) ⟨kx21, trivial⟩ tab hmix Tryz.func102 c46 (by rfl) fun hw => ?_
 have hsc : x21.sc = true := rfl
 simp (implicitDefEqProofs := false) (disch := omega) [gz, ir46, b46, (erow _).len, take_of_len, (erow _).mapO, (erow _).tk, (erow _).nrm, borRow, (erow _).cl, borV_map, osR_map, frz_map, hsc, xg21]
 exact fin_nil ⟨rfl, rfl⟩
def x46 : XE := ⟨true, fun ps => match ps with
 | [.agg (.v (.string a1) :: .v (.int .i64 n1) :: .v (.int .i64 c1) :: _), .agg (.v (.string a2) :: .v (.int .i64 n2) :: .v (.int .i64 c2) :: _)] =>
  some (∃ a b : Edit, ps = [.agg a.row, .agg b.row], .bool (decide (orI [cmpI c1 c2, cmpS a1 a2, cmpI n1 n2] = 0)))
 | _ => none⟩
theorem kx46 : Contract Tryz.prog G0 102 x46 := contract_sc fun ps ob t h ho => by
 split at h
 ·rename_i a1 n1 c1 r1 a2 n2 c2 r2
  injection h with h; injection h with h1 h2; subst h2; subst h1
  obtain ⟨a, b, e⟩ := ho
  refine ⟨rfl, ?_⟩
  have := k46 a b
  rw [e]
  simp only [Edit.row, List.cons.injEq, PVo.agg.injEq, D.v.injEq, Value.string.injEq, Value.int.injEq, true_and] at e
  obtain ⟨⟨e1, e2, e3, _⟩, ⟨e4, e5, e6, _⟩, _⟩ := e
  subst e1 e2 e3 e4 e5 e6
  exact this
 ·cases h
theorem xg46 (a b : Edit) : x46.g [.agg a.row, .agg b.row] = some (True, .bool (decide (cmpE a b = 0))) := by
 show some (∃ a' b' : Edit, [PVo.agg a.row, .agg b.row] = [.agg a'.row, .agg b'.row], T.bool (decide (cmpE a b = 0))) = _
 rw [show (∃ a' b' : Edit, [PVo.agg a.row, .agg b.row] = [.agg a'.row, .agg b'.row]) = True from eq_true ⟨a, b, rfl⟩]
end Go.Aw.Try

namespace Go.Aw
open Go

/-- An own row was laid behind the regions. -/
def Own (H : List O) (sz : Nat) (rows : List (List D)) : T → List O → Prop := fun t H' => t = .v (.c (.os H.length sz 0 rows.length)) ∧ H' = H ++ [.row sz rows]

section
variable {P : Program} {G : Gl} {N0 : Nat}

theorem fin_own {H L : List O} {k sz n : Nat} {rows : List (List D)} (hw : Wf H) (hk : L[k]? = some (.row sz rows)) (hn : n = rows.length) :
  Fin P H.length (Own H sz rows) (.v (.c (.os (H.length + k) sz 0 n))) (H ++ L) := by
 subst hn
 have hlt : k < L.length := (List.getElem?_eq_some_iff.1 hk).1
 refine fin_pre [k] hw (by simp [selB, phi, hlt]) ?_
 have e1 : phiP H.length [k] (H.length + k) = some H.length := by simp [phiP, phi]; omega
 have e2 : L.getD k .dead = .row sz rows := by rw [List.getD_eq_getElem?_getD, hk]; rfl
 refine ⟨?_, ?_⟩
 ·show T.v (V.c (C.ren _ _)) = _
  simp only [C.ren, e1]
 ·simp only [List.map_cons, List.map_nil, e2]; rfl

/-- A nil slice, told as an own row without elements. -/
theorem fweak_nil_os {H : List O} {sz : Nat} (hsz : 0 < sz) (hN : N0 ≤ H.length) : FWeak P N0 (.v (.c (.d (.v (.slice none 0 0))))) H (.v (.c (.os H.length sz 0 0))) (H ++ [.row sz []]) := by
 refine ⟨by simp; omega, fun ρ w v hH ht => ?_⟩
 have hρ : ρ H.length = none := by
  cases h : ρ H.length with
  | none => rfl
  | some b => have := (hH.small _ _ h).1; omega
 have hst : ∀ b, stab ρ H w b ↔ stab ρ (H ++ [.row sz []]) w b := fun b => by
  constructor
  ·rintro ⟨h1, h2⟩
   refine ⟨h1, fun r o hr hl => ?_⟩
   rw [List.getElem?_append] at hr
   split at hr
   ·exact h2 r o hr hl
   ·have : r = H.length := by
     have := (List.getElem?_eq_some_iff.1 hr).1; simp at this; omega
    subst this; rw [hρ]; simp
  ·rintro ⟨h1, h2⟩
   refine ⟨h1, fun r o hr hl => h2 r o ?_ hl⟩
   rw [List.getElem?_append, if_pos (List.getElem?_eq_some_iff.1 hr).1]; exact hr
 have hle : (ctx ρ H w).le (ctx ρ (H ++ [.row sz []]) w) := ⟨fun _ _ h => h, by simp [ctx], ⟨fun b hb => (hst b).1 hb, fun _ _ => rfl, Nat.le_refl _, fun _ _ _ h => h, rfl, rfl, rfl⟩⟩
 refine ⟨ρ, ⟨?_, ?_, ?_⟩, ?_, fun _ _ => rfl, fun b hb => (hst b).1 hb⟩
 ·intro r o hr
  rw [List.getElem?_append] at hr
  split at hr
  ·exact (hH.objs r o hr).mono hle fun _ a ha => rfl
  ·have : r = H.length := by
    have := (List.getElem?_eq_some_iff.1 hr).1; simp at this; omega
   subst this
   simp at hr; subst hr
   exact ⟨hsz, .inl ⟨hρ, rfl⟩⟩
 ·intro r r' o o' b hr hr' hl hl' h1 h2
  have lt : ∀ r b, ρ r = some b → r < H.length := fun r b h => (hH.small r b h).1
  rw [List.getElem?_append, if_pos (lt _ _ h1)] at hr
  rw [List.getElem?_append, if_pos (lt _ _ h2)] at hr'
  exact hH.inj r r' o o' b hr hr' hl hl' h1 h2
 ·intro r b h
  have := hH.small r b h
  exact ⟨by simp; omega, this.2⟩
 ·rw [trel_val ht]
  exact ⟨by simp [ctx], .inl ⟨rfl, none, rfl⟩⟩
theorem fin_own_nil {H : List O} {sz : Nat} {L : List O} (hw : Wf H) (hsz : 0 < sz) : Fin P H.length (Own H sz []) (.v (.c (.d (.v (.slice none 0 0))))) (H ++ L) := by
 have h1 : Fin P H.length (fun t H' => t = .v (.c (.d (.v (.slice none 0 0)))) ∧ H' = H) (.v (.c (.d (.v (.slice none 0 0))))) (H ++ L) := by
  have := fin_pre (P := P) (R := fun t H' => t = .v (.c (.d (.v (.slice none 0 0)))) ∧ H' = H) (t := .v (.c (.d (.v (.slice none 0 0))))) (H := H) (L := L) [] hw rfl ⟨rfl, by simp⟩
  exact this
 obtain ⟨t', H', a, b, c⟩ := h1
 subst b; subst c
 exact ⟨_, _, a.trans (fweak_nil_os hsz (Nat.le_refl _)), rfl, rfl⟩

/-- The front of a row. -/
theorem fweak_take {t : T} {H : List O} {r sz : Nat} {xs ys : List (List D)} (hr : H[r]? = some (.row sz (xs ++ ys))) (hN : N0 ≤ H.length) : FWeak P N0 t H t (H.set r (.row sz xs)) := by
 have hlt : r < H.length := (List.getElem?_eq_some_iff.1 hr).1
 refine ⟨by simpa using hN, fun ρ w v hH ht => ?_⟩
 have hget : ∀ i, (H.set r (.row sz xs))[i]? = if i = r then some (.row sz xs) else H[i]? := fun i => by
  rw [List.getElem?_set]
  by_cases h : r = i
  ·subst h; simp [hlt]
  ·rw [if_neg h, if_neg fun e => h e.symm]
 have hst : ∀ b, stab ρ H w b ↔ stab ρ (H.set r (.row sz xs)) w b := fun b => by
  constructor
  ·rintro ⟨h1, h2⟩
   refine ⟨h1, fun i o hi hl => ?_⟩
   rw [hget] at hi
   split at hi
   ·rename_i e; subst e; exact h2 i _ hr rfl
   ·exact h2 i o hi hl
  ·rintro ⟨h1, h2⟩
   refine ⟨h1, fun i o hi hl => ?_⟩
   by_cases e : i = r
   ·subst e; exact h2 i (.row sz xs) (by rw [hget]; simp) rfl
   ·exact h2 i o (by rw [hget, if_neg e]; exact hi) hl
 have hle : (ctx ρ H w).le (ctx ρ (H.set r (.row sz xs)) w) := ⟨fun _ _ h => h, by simp [ctx], ⟨fun b hb => (hst b).1 hb, fun _ _ => rfl, Nat.le_refl _, fun _ _ _ h => h, rfl, rfl, rfl⟩⟩
 refine ⟨ρ, ⟨?_, ?_, ?_⟩, ht.mono hle, fun _ _ => rfl, fun b hb => (hst b).1 hb⟩
 ·intro i o hi
  rw [hget] at hi
  split at hi
  ·rename_i e; subst e
   injection hi with hi; subst hi
   obtain ⟨h0, h1⟩ := (hH.objs i _ hr).mono hle fun _ a ha => rfl
   refine ⟨h0, ?_⟩
   rcases h1 with ⟨a, b⟩ | ⟨a, c, e, h1, h2, h3⟩
   ·exact .inl ⟨a, (List.append_eq_nil_iff.1 b).1⟩
   ·refine .inr ⟨a, c, e, h1, h2, ?_, fun x hx => h3.2.1 x (List.mem_append_left _ hx), fun i x j d hi hj => h3.2.2 i x j d ?_ hj⟩
    ·have := h3.1
     rw [List.length_append, Nat.add_mul] at this; omega
    ·rw [List.getElem?_append, if_pos (List.getElem?_eq_some_iff.1 hi).1]; exact hi
  ·exact (hH.objs i o hi).mono hle fun _ a ha => rfl
 ·intro i i' o o' b hi hi' hl hl' h1 h2
  have key : ∀ (i : Nat) (o : O), (H.set r (.row sz xs))[i]? = some o → o.live = true → ∃ o' : O, H[i]? = some o' ∧ o'.live = true := fun i o hi hl => by
   rw [hget] at hi
   split at hi
   ·rename_i e; subst e; exact ⟨_, hr, rfl⟩
   ·exact ⟨o, hi, hl⟩
  obtain ⟨q, hq, hql⟩ := key i o hi hl
  obtain ⟨q', hq', hql'⟩ := key i' o' hi' hl'
  exact hH.inj i i' q q' b hq hq' hql hql' h1 h2
 ·intro i b h
  have := hH.small i b h
  exact ⟨by simpa using this.1, this.2⟩
theorem set_snoc {H : List O} {o o' : O} : (H ++ [o]).set H.length o' = H ++ [o'] := by rw [app_set0]; rfl
end
end Go.Aw

namespace Go.Aw
section
variable {E : Type} [Inhabited E]
/-- Of neighbours that are equal, the first. -/
def cmptF (eqb : E → E → Bool) : E → List E → List E
 | _, [] => []
 | p, x :: l => if eqb x p then cmptF eqb x l else x :: cmptF eqb x l
def cmpt (eqb : E → E → Bool) : List E → List E
 | [] => []
 | x :: l => x :: cmptF eqb x l
theorem splice_front {α : Type} (xs : List α) (q : Nat) (zs : List α) : ∃ Z, splice xs q zs = xs.take q ++ Z := ⟨zs ++ xs.drop (q + zs.length), by simp [splice]⟩
theorem drop_nth {l : List E} {k : Nat} (h : k < l.length) : l.drop k = nth l k :: l.drop (k + 1) := by
 rw [List.drop_eq_getElem_cons h]; congr 1; simp [nth, List.getD_eq_getElem?_getD, h]
theorem take_nth {l : List E} {k : Nat} (h : k < l.length) : l.take (k + 1) = l.take k ++ [nth l k] := by
 rw [List.take_add_one, get_nth h]; rfl
theorem take_set_nth {l : List E} {k : Nat} {x : E} (h : k < l.length) : (l.set k x).take (k + 1) = l.take k ++ [x] := by
 rw [take_nth (by simpa using h), List.take_set_of_le (Nat.le_refl _)]
 congr 1
 simp [nth, List.getD_eq_getElem?_getD, h]
theorem cmpt_one (eqb : E → E → Bool) {l : List E} (h : 0 < l.length) : cmpt eqb l = l.take 1 ++ cmptF eqb (nth l 0) (l.drop 1) := by
 cases l with
 | nil => simp at h
 | cons x l => rfl
theorem cmptF_step (eqb : E → E → Bool) {l : List E} {k : Nat} {p : E} (h : k < l.length) : cmptF eqb p (l.drop k) = if eqb (nth l k) p then cmptF eqb (nth l k) (l.drop (k + 1)) else nth l k :: cmptF eqb (nth l k) (l.drop (k + 1)) := by
 rw [drop_nth h]; rfl
theorem nth_of_drop {l l' : List E} {a k : Nat} (h : l.drop a = l'.drop a) (hk : a ≤ k) : nth l k = nth l' k := by
 have e1 : nth (l.drop a) (k - a) = nth l k := by rw [nth_drop]; congr 1; omega
 have e2 : nth (l'.drop a) (k - a) = nth l' k := by rw [nth_drop]; congr 1; omega
 rw [← e1, ← e2, h]
theorem drop_more {l l' : List E} {a b : Nat} (h : l.drop a = l'.drop a) (hk : a ≤ b) : l.drop b = l'.drop b := by
 have := congrArg (List.drop (b - a)) h
 rw [List.drop_drop, List.drop_drop] at this
 rwa [show a + (b - a) = b by omega] at this
end
end Go.Aw
namespace Go.Aw.Try
open Go Go.Proofs Go.Aw
set_option maxRecDepth 100000
set_option maxHeartbeats 4000000
section
variable {E : Type} [Inhabited E]
theorem k43 (row : E → List D) (hrow : ∀ e, RowOk 18 (row e)) (es : List E) (hl : es.length < 68719476736) (H : List O) :
  ACalls Tryz.prog G0 98 [.c (.d (.sl (es.map row)))] H (Own H 18 (es.map row)) := by
 refine acallsX (X := []) trivial tab hmix Tryz.func98 c43 (by rfl) fun hw => ?_
 simp (implicitDefEqProofs := false) (disch := omega) [gz, ir43, b43, wrap64, elems, maxLen47]
 refine ⟨⟨⟨by omega, fun e _ => (hrow e).len⟩, ?_⟩, ?_⟩
 ·exact fin_own (L := [O.dead, O.row 18 (es.map row)]) (k := 1) hw rfl (by simp)
 ·intro h
  subst h
  have := fin_own_nil (P := Tryz.prog) (H := H) (sz := 18) (L := []) hw (by omega)
  simpa using this

theorem k45 (row : E → List D) (hrow : ∀ e, RowOk 18 (row e)) (eqb : E → E → Bool) (f : Nat) (xf : XE) (hx : Contract Tryz.prog G0 f xf) (hsc : xf.sc = true)
  (hxg : ∀ a b, xf.g [.agg (row a), .agg (row b)] = some (True, .bool (eqb a b))) (es : List E) (hl : es.length < 4611686018427387904) (H : List O) (r : Nat) (hr : r < H.length) :
  ACalls Tryz.prog G0 101 [.c (.os r 18 0 es.length), .c (.fn f [])] (H.set r (.row 18 (es.map row))) fun t H' => t = .v (.c (.os r 18 0 (cmpt eqb es).length)) ∧ H' = H.set r (.row 18 ((cmpt eqb es).map row)) := by
 refine acallsX (X := [(f, xf)]) ⟨hx, trivial⟩ tab hmix Tryz.func101 c45 (by rfl) fun hw => ?_
 obtain ⟨n, hn⟩ : ∃ n, n = es.length := ⟨_, rfl⟩
 rw [← hn]
 by_cases h2 : n < 2
 ·have h2' : (n : Int) < 2 := by omega
  simp (implicitDefEqProofs := false) (disch := omega) [gz, ir45, b45, b45_0, b45_1, wrap64, h2']
  have : cmpt eqb es = es := by
   match es with
   | [] => rfl
   | [x] => rfl
   | x :: y :: l => simp at hn; omega
  rw [this, ← hn]
  exact fin_here (by simp) ⟨rfl, rfl⟩
 ·have h2' : ¬ (n : Int) < 2 := by omega
  have h0 := cmpt_one eqb (l := es) (by omega)
  simp (implicitDefEqProofs := false) (disch := omega) [gz, ir45, b45, b45_0, b45_1, b45_2, wrap64, h2']
  refine loopG (fun c s => ∃ k, 1 ≤ k ∧ k ≤ n ∧ c = n - k ∧ cmpt eqb es = es.take k ++ cmptF eqb (nth es (k - 1)) (es.drop k) ∧
   s = ⟨ofL [(0, .v (.c (.os r 18 0 n))), (1, .v (.c (.fn f []))), (5, .int .i64 k)], H.set r (.row 18 (es.map row))⟩) ?_ ?_
  ·refine wk_keep [0, 1, 5] ⟨_, 1, by omega, by omega, rfl, h0, ?_⟩
   simp
  ·rintro J hJ c s ⟨k, hk1, hkn, rfl, hc, rfl⟩
   by_cases hlt : k < n
   ·have n1 : ((k : Int) - 1).toNat = k - 1 := by omega
    have hst := cmptF_step eqb (l := es) (k := k) (p := nth es (k - 1)) (by omega)
    simp (implicitDefEqProofs := false) (disch := omega) [gz, hlt, wrap64, n1, hr, nth_map, (hrow _).len, take_of_len, (hrow _).mapO, (hrow _).tk, (hrow _).nrm, borRow, (hrow _).cl, borV_map, osR_map, frz_map, nth_set_ne, (hrow _).spl (hrow _), hsc, hxg]
    repeat' apply And.intro
    all_goals first | omega | kernel_rfl | skip
    ·intro heq
     rw [if_pos heq] at hst
     rw [hst] at hc
     refine ⟨by omega, ?_⟩
     refine loopE (fun c s => ∃ (k2 q : Nat) (es' : List E), 1 ≤ k2 ∧ k + k2 ≤ n ∧ c = n - (k + k2) ∧ q + 1 ≤ k + k2 ∧ es'.length = n ∧ es'.drop (k + k2 - 1) = es.drop (k + k2 - 1) ∧ cmpt eqb es = es'.take q ++ cmptF eqb (nth es (k + k2 - 1)) (es.drop (k + k2)) ∧
       s = ⟨ofL [(0, .v (.c (.os r 18 0 n))), (1, .v (.c (.fn f []))), (5, .int .i64 q), (6, .v (.c (.os r 18 k (n - k)))), (7, .int .i64 k2)], H.set r (.row 18 (es'.map row))⟩)
      (fun s => ∃ (q : Nat) (es' : List E), q ≤ n ∧ es'.length = n ∧ cmpt eqb es = es'.take q ∧ AtS [(0, .v (.c (.os r 18 0 n))), (1, .v (.c (.fn f []))), (5, .int .i64 q)] (H.set r (.row 18 (es'.map row))) s) ?_ ?_ ?_
     ·refine wk_keep [0, 1, 5, 6, 7] ⟨_, 1, k, es, by omega, by omega, rfl, by omega, hn.symm, rfl, hc, ?_⟩
      simp
     ·rintro J2 L2 hJ2 hL2 c s ⟨k2, q, es', g1, g2, rfl, g3, hl', g4, g5, rfl⟩
      by_cases hlt2 : k + k2 < n
      ·have c1 : ((n - k : Nat) : Int) = (n : Int) - k := by omega
       have hlt2' : k2 < n - k := by omega
       have n2 : ((k2 : Int) - 1).toNat = k2 - 1 := by omega
       have e1 : nth es' (k + k2) = nth es (k + k2) := nth_of_drop g4 (by omega)
       have e2 : nth es' (k + (k2 - 1)) = nth es (k + k2 - 1) := by rw [show k + (k2 - 1) = k + k2 - 1 by omega]; exact nth_of_drop g4 (by omega)
       have hst := cmptF_step eqb (l := es) (k := k + k2) (p := nth es (k + k2 - 1)) (by omega)
       simp (implicitDefEqProofs := false) (disch := omega) [gz, hlt2', wrap64, n2, hl', e1, e2, hr, nth_map, (hrow _).len, take_of_len, (hrow _).mapO, (hrow _).tk, (hrow _).nrm, borRow, (hrow _).cl, borV_map, osR_map, frz_map, nth_set_ne, (hrow _).spl (hrow _), hsc, hxg]
       repeat' apply And.intro
       all_goals first | omega | kernel_rfl | skip
       ·intro hb
        rw [if_neg (by simp [hb])] at hst
        repeat' apply And.intro
        all_goals first | omega | skip
        subst hJ2
        refine wk_keep [0, 1, 5, 6, 7] ⟨n - (k + (k2 + 1)), by omega, k2 + 1, q + 1, es'.set q (nth es (k + k2)), by omega, by omega, rfl, by omega, by simpa using hl', ?_, ?_, ?_⟩
        ·rw [List.drop_set_of_lt (by omega)]
         exact drop_more g4 (by omega)
        ·rw [take_set_nth (by omega), g5, hst]
         simp [Nat.add_assoc]
        ·simp [List.map_set]
       ·intro hb
        rw [if_pos hb] at hst
        subst hJ2
        refine wk_keep [0, 1, 5, 6, 7] ⟨n - (k + (k2 + 1)), by omega, k2 + 1, q, es', by omega, by omega, rfl, by omega, hl', drop_more g4 (by omega), ?_, ?_⟩
        ·rw [g5, hst]; simp [Nat.add_assoc]
        ·simp
      ·have hlt2' : ¬ k2 < n - k := by omega
       simp (implicitDefEqProofs := false) (disch := omega) [gz, hlt2', wrap64]
       subst hL2
       refine ⟨q, es', by omega, hl', ?_, at_mk (by simp) rfl⟩
       rw [g5, List.drop_eq_nil_of_le (by omega)]; simp [cmptF]
     ·rintro _ ⟨q, es', hq, hl', g5, sl, rfl⟩
      simp (implicitDefEqProofs := false) (disch := omega) [gz, wrap64, hl', hr]
      repeat' apply And.intro
      all_goals first | omega | skip
      have hq2 : (cmpt eqb es).length = q := by rw [g5, List.length_take]; omega
      obtain ⟨Z, hZ⟩ := splice_front (es'.map row) q (List.replicate (n - q)
       [D.v (Value.string { data := #[] }), D.v (Value.int IntKind.i64 0), D.v (Value.int IntKind.i64 0), D.v (Value.int IntKind.i64 0), D.v (Value.slice none 0 0), D.v (Value.int IntKind.i64 0),
       D.v (Value.string { data := #[] }), D.v (Value.int IntKind.i64 0), D.v (Value.string { data := #[] }), D.v (Value.int IntKind.i64 0), D.v (Value.bool false), D.v (Value.string { data := #[] }),
       D.v (Value.string { data := #[] }), D.v (Value.string { data := #[] }), D.v (Value.string { data := #[] }), D.v (Value.string { data := #[] }), D.v (Value.int IntKind.i64 0), D.v (Value.string { data := #[] })])
      rw [hZ]
      refine fin_weak (fweak_take (r := r) (sz := 18) (xs := (es'.map row).take q) (ys := Z) (by simp [hr]) (by simp)) (fin_here (by simp) ⟨by rw [hq2], by simp [g5, List.map_take]⟩)
    ·intro hneq
     rw [if_neg (by simp [hneq])] at hst
     subst hJ
     refine wk_keep [0, 1, 5] ⟨n - (k + 1), by omega, k + 1, by omega, by omega, rfl, ?_, ?_⟩
     ·rw [hc, hst, take_nth (by omega)]; simp
     ·simp
   ·have : k = n := by omega
    subst this
    simp (implicitDefEqProofs := false) (disch := omega) [gz, hlt, b45_3, b45_4, wrap64]
    have e : cmpt eqb es = es := by rw [hc, List.drop_eq_nil_of_le (by omega), List.take_of_length_le (by omega)]; simp [cmptF]
    rw [e, ← hn]
    exact fin_here (by simp) ⟨rfl, rfl⟩

end
instance : Inhabited Edit := ⟨⟨⟨⟨#[]⟩, 0⟩, 0, 0, [], 0, ⟨⟨#[]⟩, 0⟩, ⟨⟨#[]⟩, 0⟩, false, ⟨#[]⟩, ⟨#[]⟩, ⟨#[]⟩, ⟨#[]⟩, ⟨⟨#[]⟩, 0⟩, ⟨#[]⟩⟩⟩
theorem cmpI_pre : Pre cmpI := ⟨fun a b => by unfold cmpI; (repeat' split) <;> omega, fun a b c => by unfold cmpI; (repeat' split) <;> omega⟩
theorem cmpE_pre : Pre cmpE := by
 have key : ∀ x y : Int, (orI [x, y, 0] : Int) = if x ≠ 0 then x else y := fun x y => by simp only [orI]; (repeat' split) <;> simp_all
 constructor
 ·intro a b
  have h1 := cmpI_pre.sgn a.clock b.clock
  have h1' := cmpI_pre.sgn b.clock a.clock
  have h2 := cmpS_pre.sgn a.id.a b.id.a
  have h2' := cmpS_pre.sgn b.id.a a.id.a
  have h3 := cmpI_pre.sgn a.id.n b.id.n
  simp only [cmpE, orI]
  (repeat' split) <;> omega
 ·intro a b c h k
  have h1 := cmpI_pre.tr a.clock b.clock c.clock
  have h1' := cmpI_pre.sgn a.clock b.clock
  have h1a := cmpI_pre.sgn b.clock a.clock
  have h1b := cmpI_pre.sgn c.clock b.clock
  have h1c := cmpI_pre.sgn a.clock c.clock
  have h1d := cmpI_pre.sgn c.clock a.clock
  have h1e := cmpI_pre.sgn b.clock c.clock
  have h1f := cmpI_pre.tr c.clock b.clock a.clock
  have g1 := cmpI_pre.tr c.clock a.clock b.clock
  have g2 := cmpI_pre.tr b.clock c.clock a.clock
  have h2 := cmpS_pre.tr a.id.a b.id.a c.id.a
  have h2' := cmpS_pre.sgn a.id.a b.id.a
  have h2a := cmpS_pre.sgn b.id.a a.id.a
  have h2b := cmpS_pre.sgn c.id.a b.id.a
  have h2c := cmpS_pre.sgn a.id.a c.id.a
  have h2d := cmpS_pre.sgn c.id.a a.id.a
  have h2e := cmpS_pre.sgn b.id.a c.id.a
  have g3 := cmpS_pre.tr c.id.a a.id.a b.id.a
  have g4 := cmpS_pre.tr b.id.a c.id.a a.id.a
  have h3 := cmpI_pre.tr a.id.n b.id.n c.id.n
  simp only [cmpE, orI] at h k ⊢
  generalize cmpI a.clock b.clock = x1 at *
  generalize cmpI b.clock c.clock = x2 at *
  generalize cmpI a.clock c.clock = x3 at *
  generalize cmpS a.id.a b.id.a = y1 at *
  generalize cmpS b.id.a c.id.a = y2 at *
  generalize cmpS a.id.a c.id.a = y3 at *
  generalize cmpI a.id.n b.id.n = z1 at *
  generalize cmpI b.id.n c.id.n = z2 at *
  generalize cmpI a.id.n c.id.n = z3 at *
  generalize cmpI b.clock a.clock = x1' at *
  generalize cmpI c.clock b.clock = x2' at *
  generalize cmpI c.clock a.clock = x3' at *
  generalize cmpS b.id.a a.id.a = y1' at *
  generalize cmpS c.id.a b.id.a = y2' at *
  generalize cmpS c.id.a a.id.a = y3' at *
  (repeat' split at h) <;> (repeat' split at k) <;> (repeat' split) <;> omega
/-- Sort's result. -/
def sortE (l : List Edit) : List Edit := cmpt (fun a b => decide (cmpE a b = 0)) (ssort cmpE l)
def Edit.rows (l : List Edit) : List (List D) := l.map Edit.row
theorem k20 (es : List Edit) (hl : es.length < 68719476736) (H : List O) : ACalls Tryz.prog G0 57 [.c (.d (.sl (es.map Edit.row)))] H (Own H 18 ((sortE es).map Edit.row)) := by
 refine acallsX (X := []) trivial tab hmix Tryz.func57 c20 (by rfl) fun hw => ?_
 simp (implicitDefEqProofs := false) (disch := omega) [gz, ir20, b20]
 refine (k43 Edit.row erow es hl H).mono ?_
 rintro t H' ⟨rfl, rfl⟩
 have e0 : (es.map Edit.row).length = es.length := by simp
 rw [e0]
 simp (implicitDefEqProofs := false) (disch := omega) [gz, callK]
 have h1 := k44 Edit.row erow cmpE cmpE_pre 100 x21 kx21 rfl (by decide) (by decide) xg21 (H ++ [.row 18 []]) H.length (by simp) es (by omega)
 rw [set_snoc] at h1
 refine h1.mono ?_
 rintro t H' ⟨rfl, rfl⟩
 rw [set_snoc]
 simp (implicitDefEqProofs := false) (disch := omega) [gz, callK]
 have h2 := k45 Edit.row erow (fun a b => decide (cmpE a b = 0)) 102 x46 kx46 rfl xg46 (ssort cmpE es) (by rw [ssort_len]; omega) (H ++ [.row 18 []]) H.length (by simp)
 rw [set_snoc, ssort_len] at h2
 refine h2.mono ?_
 rintro t H' ⟨rfl, rfl⟩
 rw [set_snoc]
 simp (implicitDefEqProofs := false) (disch := omega) [gz, callK]
 exact fin_here (by simp) ⟨by simp [sortE], rfl⟩
end Go.Aw.Try

namespace Go.Aw
open Go
def V.lt (n : Nat) : V → Prop
 | .c x => x.lt n
 | .agg cs => ∀ c ∈ cs, c.lt n
 | .any => True
def T.lt (n : Nat) : T → Prop
 | .v x => x.lt n
 | .tup vs => ∀ v ∈ vs, v.lt n
theorem V.ren_id {φ : Nat → Option Nat} {n : Nat} (hφ : ∀ r, r < n → φ r = some r) {v : V} (h : v.lt n) : v.ren φ = v := by
 cases v with
 | c c => simp only [V.ren, C.ren_id hφ h]
 | agg cs =>
  simp only [V.ren]; congr 1
  conv => rhs; rw [← List.map_id cs]
  exact List.map_congr_left fun c hc => C.ren_id hφ (h c hc)
 | any => rfl
theorem T.ren_id {φ : Nat → Option Nat} {n : Nat} (hφ : ∀ r, r < n → φ r = some r) {t : T} (h : t.lt n) : t.ren φ = t := by
 cases t with
 | v v => simp only [T.ren, V.ren_id hφ h]
 | tup vs =>
  simp only [T.ren]; congr 1
  conv => rhs; rw [← List.map_id vs]
  exact List.map_congr_left fun c hc => V.ren_id hφ (h c hc)
section
variable {P : Program} {G : Gl} {N0 : Nat}
theorem phiP_low {n : Nat} {ids : List Nat} : ∀ r, r < n → phiP n ids r = some r := fun r h => by simp [phiP, h]
theorem wk_junk {A L : List O} {sl : Nat → T} {K : St → Prop} (vals : List (Nat × T)) (hw : Wf A) (hN : N0 = A.length) (hv : ∀ p ∈ vals, sl p.1 = p.2 ∧ p.2.lt A.length) (h : K ⟨ofL vals, A⟩) : wk P G N0 ⟨sl, A ++ L⟩ K := by
 subst hN
 refine wk_pre [] (vals.map (·.1)) hw rfl ?_
 have e : (vals.map (·.1)).map (fun t => (t, (sl t).ren (phiP A.length []))) = vals := by
  rw [List.map_map]
  conv => rhs; rw [← List.map_id vals]
  refine List.map_congr_left fun p hp => ?_
  obtain ⟨h1, h2⟩ := hv p hp
  simp only [Function.comp, h1, T.ren_id phiP_low h2, id]
 rw [e, List.map_nil, List.append_nil]
 exact h
theorem wf_row {H : List O} {r sz sz' : Nat} {xs ys : List (List D)} (h : Wf (H.set r (.row sz xs))) : Wf (H.set r (.row sz' ys)) := by
 intro o ho
 rw [List.length_set]
 obtain ⟨i, hi⟩ := List.getElem?_of_mem ho
 rw [List.getElem?_set] at hi
 by_cases e : r = i
 ·subst e
  simp at hi
  obtain ⟨_, rfl⟩ := hi
  trivial
 ·rw [if_neg e] at hi
  have : o ∈ H.set r (.row sz xs) := List.mem_of_getElem? (i := i) (by rw [List.getElem?_set, if_neg e]; exact hi)
  have := h o this
  rwa [List.length_set] at this
theorem RowOk.splz {sz : Nat} {y : List D} (h : RowOk sz y) {z : List C} (hz : z.length = sz) : splice z 0 (y.map .d) = y.map .d := by
 simp [splice, h.len, hz]
section
variable {H L : List O} {r : Nat} {o o' : O}
@[simp] theorem get_set_app (h : r < H.length) : (H.set r o ++ L)[r]? = some o := by
 rw [List.getElem?_append_left (by simpa using h), List.getElem?_set_self h]
@[simp] theorem get_set_app0 : (H.set r o ++ L)[H.length]? = L[0]? := by
 rw [List.getElem?_append_right (by simp), List.length_set, Nat.sub_self]
@[simp] theorem get_set_appk (k : Nat) : (H.set r o ++ L)[H.length + k]? = L[k]? := by
 rw [List.getElem?_append_right (by simp), List.length_set, Nat.add_sub_cancel_left]
@[simp] theorem set_set_app (h : r < H.length) : (H.set r o ++ L).set r o' = H.set r o' ++ L := by
 rw [List.set_append_left _ _ (by simpa using h), List.set_set]
@[simp] theorem set_set_app0 : (H.set r o ++ L).set H.length o' = H.set r o ++ L.set 0 o' := by
 rw [List.set_append_right _ _ (by simp), List.length_set, Nat.sub_self]
@[simp] theorem set_set_appk (k : Nat) : (H.set r o ++ L).set (H.length + k) o' = H.set r o ++ L.set k o' := by
 rw [List.set_append_right _ _ (by simp), List.length_set, Nat.add_sub_cancel_left]
end
/-- Captured cells, lent. -/
theorem mapO_ip {H : List O} : ∀ (cps : List (List D)), mapO (toBV H) (cps.map fun cs => V.c (.d (.ip cs))) = some (cps.map fun cs => PVo.c (.ip cs))
 | [] => rfl
 | c :: r => by simp [mapO, toBV, mapO_ip r]
theorem mapO_ipc {H : List O} (cps : List (List D)) : mapO (toBV H) (cps.map ((fun c => V.c (C.d c)) ∘ D.ip)) = some (cps.map fun cs => PVo.c (.ip cs)) := mapO_ip cps
end
end Go.Aw

namespace Go.Aw
section
variable {E : Type} [Inhabited E]
/-- The first that is so, counted from k on. -/
def idxF (pr : E → Bool) : Nat → List E → Int
 | _, [] => -1
 | k, x :: l => if pr x then k else idxF pr (k + 1) l
theorem idxF_step (pr : E → Bool) {l : List E} {k : Nat} (h : k < l.length) : idxF pr k (l.drop k) = if pr (nth l k) then (k : Int) else idxF pr (k + 1) (l.drop (k + 1)) := by
 rw [drop_nth h]; rfl
theorem idxF_none (pr : E → Bool) : ∀ {l : List E} {k : Nat}, idxF pr k l = -1 → ∀ x ∈ l, pr x = false
 | [], k, h, x, hx => by simp at hx
 | y :: l, k, h, x, hx => by
  simp only [idxF] at h
  split at h
  ·omega
  ·rename_i hy
   rcases List.mem_cons.1 hx with rfl | hx
   ·simpa using hy
   ·exact idxF_none pr h x hx
theorem idxF_some (pr : E → Bool) : ∀ {l : List E} {k : Nat}, idxF pr k l ≠ -1 → ∃ i : Nat, idxF pr k l = ((k + i : Nat) : Int) ∧ i < l.length ∧ pr (nth l i) = true ∧ ∀ x ∈ l.take i, pr x = false
 | [], k, h => by simp [idxF] at h
 | y :: l, k, h => by
  simp only [idxF] at h ⊢
  by_cases hy : pr y = true
  ·rw [if_pos hy]
   exact ⟨0, rfl, by simp, hy, by simp⟩
  ·rw [if_neg hy] at h ⊢
   obtain ⟨i, h1, h2, h3, h4⟩ := idxF_some pr h
   refine ⟨i + 1, by rw [h1]; congr 1; omega, by simpa using h2, h3, fun x hx => ?_⟩
   rw [List.take_succ_cons] at hx
   rcases List.mem_cons.1 hx with rfl | hx
   ·simpa using hy
   ·exact h4 x hx
end
end Go.Aw
namespace Go.Aw.Try
open Go Go.Proofs Go.Aw
set_option maxRecDepth 100000
set_option maxHeartbeats 4000000
section
variable {E : Type} [Inhabited E]
theorem k60 (row : E → List D) (hrow : ∀ e, RowOk 18 (row e)) (pr : E → Bool) (g : Nat) (cps : List (List D)) (xg : XE) (hx : Contract Tryz.prog G0 g xg) (hsc : xg.sc = true)
  (hxg : ∀ e, xg.g (.agg (row e) :: cps.map fun cs => .c (.ip cs)) = some (True, .bool (pr e))) (es : List E) (hl : es.length < 4611686018427387904) :
  ACalls Tryz.prog G0 116 [.c (.d (.sl (es.map row))), .c (.d (.fn g (cps.map .ip)))] [] fun t H => t = .int .i64 (idxF pr 0 es) ∧ H = [] := by
 refine acallsX (X := [(g, xg)]) ⟨hx, trivial⟩ tab hmix Tryz.func116 c60 (by rfl) fun hw => ?_
 simp (implicitDefEqProofs := false) (disch := omega) [gz, ir60, b60, wrap64]
 refine loopG (fun k s => ∃ i, i ≤ es.length ∧ k = es.length - i ∧ idxF pr 0 es = idxF pr i (es.drop i) ∧
  s = ⟨ofL [(0, .v (.c (.d (.sl (es.map row))))), (1, .v (.c (.d (.fn g (cps.map .ip))))), (7, .int .i64 es.length), (8, .int .i64 i)], []⟩) ?_ ?_
 ·refine wk_keep [0, 1, 7, 8] ⟨_, 0, by omega, rfl, rfl, ?_⟩
  simp
 ·rintro J hJ k s ⟨i, hi, rfl, hid, rfl⟩
  by_cases hlt : i < es.length
  ·have hst := idxF_step pr hlt
   simp (implicitDefEqProofs := false) (disch := omega) [gz, hlt, wrap64, nth_map, (hrow _).len, take_of_len, (hrow _).mapO, (hrow _).tk, (hrow _).nrm, borRow, (hrow _).cl, borV_map, osR_map, frz_map, mapO_ipc, hsc, hxg]
   refine ⟨fun h => ?_, fun h => ?_⟩
   ·rw [if_pos h] at hst
    exact fin_nil ⟨by rw [hid, hst]; rfl, rfl⟩
   ·rw [if_neg (by simp [h])] at hst
    subst hJ
    refine wk_keep [0, 1, 7, 8] ⟨es.length - (i + 1), by omega, i + 1, by omega, rfl, by rw [hid, hst], ?_⟩
    simp
  ·simp (implicitDefEqProofs := false) (disch := omega) [gz, hlt]
   rw [hid, List.drop_eq_nil_of_le (by omega)]
   exact fin_nil ⟨rfl, rfl⟩

def x60 (row : E → List D) (pr : E → Bool) (g : Nat) (cps : List (List D)) (es : List E) : XE := ⟨true, fun ps => some (ps = [.c (.sl (es.map row)), .c (.fn g (cps.map .ip))], .int .i64 (idxF pr 0 es))⟩
theorem kx60 (row : E → List D) (hrow : ∀ e, RowOk 18 (row e)) (pr : E → Bool) (g : Nat) (cps : List (List D)) (xg : XE) (hx : Contract Tryz.prog G0 g xg) (hsc : xg.sc = true)
  (hxg : ∀ e, xg.g (.agg (row e) :: cps.map fun cs => .c (.ip cs)) = some (True, .bool (pr e))) (es : List E) (hl : es.length < 4611686018427387904) : Contract Tryz.prog G0 116 (x60 row pr g cps es) := contract_sc fun ps ob t h ho => by
 injection h with h; injection h with h1 h2; subst h2; subst h1
 subst ho
 exact ⟨rfl, k60 row hrow pr g cps xg hx hsc hxg es hl⟩
theorem k40 (row : E → List D) (hrow : ∀ e, RowOk 18 (row e)) (pr : E → Bool) (g : Nat) (hg : (116 = g) = False) (caps : List (Nat × Nat)) (cps : List (List D)) (xg : XE) (hx : Contract Tryz.prog G0 g xg) (hsc : xg.sc = true)
  (hxg : ∀ e, xg.g (.agg (row e) :: cps.map fun cs => .c (.ip cs)) = some (True, .bool (pr e))) (es : List E) (hl : es.length < 4611686018427387904) (H : List O) (r : Nat) (hr : r < H.length)
  (hc1 : ∀ (xs : List (List D)), toB 8 (H.set r (.row 18 xs)) (.fn g caps) = some (.fn g (cps.map .ip)))
  (hc2 : ∀ (xs : List (List D)) (L : List O), mapO (toBV (H.set r (.row 18 xs) ++ L)) (caps.map fun c => V.c (.ptr c.1 c.2)) = some (cps.map fun cs => PVo.c (.ip cs))) (hc3 : ∀ p ∈ caps, p.1 < H.length) :
  ACalls Tryz.prog G0 149 [.c (.os r 18 0 es.length), .c (.fn g caps)] (H.set r (.row 18 (es.map row))) fun t H' => t = .v (.c (.os r 18 0 (es.filter fun e => !pr e).length)) ∧ H' = H.set r (.row 18 ((es.filter fun e => !pr e).map row)) := by
 have hxs : (x60 row pr g cps es).sc = true := rfl
 refine acallsX (X := [(116, x60 row pr g cps es), (g, xg)]) ⟨kx60 row hrow pr g cps xg hx hsc hxg es hl, hx, trivial⟩ tab hmix Tryz.func149 c40 (by rfl) fun hw => ?_
 obtain ⟨n, hn⟩ : ∃ n, n = es.length := ⟨_, rfl⟩
 rw [← hn]
 have e0 : (es.map row).take n = es.map row := List.take_of_length_le (by simp; omega)
 have hle : n ≤ es.length := by omega
 by_cases hi : idxF pr 0 es = -1
 ·have hall := idxF_none pr hi
  have hf : es.filter (fun e => !pr e) = es := List.filter_eq_self.2 fun x hx => by simp [hall x hx]
  rw [hf, ← hn]
  simp (implicitDefEqProofs := false) (disch := omega) [gz, ir40, b40, wrap64, hxs, hr, hc1, x60, e0, hle, hi]
  repeat' apply And.intro
  all_goals first | omega | skip
  exact fin_here (by simp) ⟨rfl, rfl⟩
 ·obtain ⟨i, h1, h2, h3, h4⟩ := idxF_some pr hi
  rw [Nat.zero_add] at h1
  have hf0 : (es.take i).filter (fun e => !pr e) = es.take i := List.filter_eq_self.2 fun x hx => by simp [h4 x hx]
  have hf : es.filter (fun e => !pr e) = es.take i ++ (es.drop (i + 1)).filter (fun e => !pr e) := by
   conv => lhs; rw [← List.take_append_drop i es]
   rw [List.filter_append, hf0, drop_nth h2, List.filter_cons, h3]; rfl
  have hi' : ¬ (i : Int) = -1 := by omega
  simp (implicitDefEqProofs := false) (disch := omega) [gz, ir40, b40, wrap64, hxs, hr, hc1, x60, e0, hle, h1, hi']
  repeat' apply And.intro
  all_goals first | omega | skip
  refine loopE (fun c s => ∃ (j q : Nat) (es' : List E), j ≤ n ∧ q < j ∧ c = n - j ∧ es'.length = n ∧ es'.drop j = es.drop j ∧ es.filter (fun e => !pr e) = es'.take q ++ (es.drop j).filter (fun e => !pr e) ∧
    s = ⟨ofL [(0, .v (.c (.os r 18 0 n))), (1, .v (.c (.fn g caps))), (5, .int .i64 q), (6, .int .i64 j)], H.set r (.row 18 (es'.map row))⟩)
   (fun s => ∃ (q : Nat) (es' : List E), q ≤ n ∧ es'.length = n ∧ es.filter (fun e => !pr e) = es'.take q ∧ AtS [(0, .v (.c (.os r 18 0 n))), (5, .int .i64 q)] (H.set r (.row 18 (es'.map row))) s) ?_ ?_ ?_
  ·refine wk_keep [0, 1, 5, 6] ⟨_, i + 1, i, es, by omega, by omega, rfl, hn.symm, rfl, hf, ?_⟩
   simp
  ·rintro J2 L2 hJ2 hL2 c s ⟨j, q, es', g1, g2, rfl, hl', g4, g5, rfl⟩
   by_cases hlt : j < n
   ·have hsp : ∀ (e : E) {z : List C} (hz : z.length = 18), splice z 0 ((row e).map .d) = (row e).map .d := fun e z hz => (hrow e).splz hz
    have hst : (es.drop j).filter (fun e => !pr e) = if pr (nth es j) then (es.drop (j + 1)).filter (fun e => !pr e) else nth es j :: (es.drop (j + 1)).filter (fun e => !pr e) := by
     rw [drop_nth (by omega), List.filter_cons]; cases pr (nth es j) <;> simp
    have e1 : nth es' j = nth es j := nth_of_drop g4 (Nat.le_refl _)
    simp (implicitDefEqProofs := false) (disch := first | omega | (simp only [List.length_cons, List.length_nil] <;> omega)) [gz, hlt, wrap64, hl', hg, hc2, e1, hsp, hr, nth_map, (hrow _).len, take_of_len, (hrow _).mapO, (hrow _).tk, (hrow _).nrm, borRow, (hrow _).cl, borV_map, osR_map, frz_map, nth_set_ne, (hrow _).spl (hrow _), hsc, hxg]
    repeat' apply And.intro
    all_goals first | omega | skip
    ·intro hb
     rw [if_neg (by simp [hb])] at hst
     repeat' apply And.intro
     all_goals first | omega | skip
     subst hJ2
     rw [← List.map_set]
     refine wk_junk [(0, .v (.c (.os r 18 0 n))), (1, .v (.c (.fn g caps))), (5, .int .i64 (q + 1 : Nat)), (6, .int .i64 (j + 1 : Nat))] (wf_row hw) (by simp) (by simp [T.lt, V.lt, C.lt, hr]; exact fun a b h => hc3 (a, b) h) ⟨n - (j + 1), by omega, j + 1, q + 1, es'.set q (nth es j), by omega, by omega, rfl, by simpa using hl', ?_, ?_, ?_⟩
     ·rw [List.drop_set_of_lt (by omega)]
      exact drop_more g4 (by omega)
     ·rw [take_set_nth (by omega), g5, hst]; simp
     ·simp
    ·intro hb
     rw [if_pos hb] at hst
     subst hJ2
     refine wk_junk [(0, .v (.c (.os r 18 0 n))), (1, .v (.c (.fn g caps))), (5, .int .i64 q), (6, .int .i64 (j + 1 : Nat))] (wf_row hw) (by simp) (by simp [T.lt, V.lt, C.lt, hr]; exact fun a b h => hc3 (a, b) h) ⟨n - (j + 1), by omega, j + 1, q, es', by omega, by omega, rfl, hl', drop_more g4 (by omega), by rw [g5, hst], ?_⟩
     simp
   ·simp (implicitDefEqProofs := false) (disch := omega) [gz, hlt, wrap64]
    subst hL2
    refine ⟨q, es', by omega, hl', ?_, at_mk (by simp) rfl⟩
    rw [g5, List.drop_eq_nil_of_le (by omega)]; simp
  ·rintro _ ⟨q, es', hq, hl', g5, sl, rfl⟩
   simp (implicitDefEqProofs := false) (disch := omega) [gz, wrap64, hl', hr]
   repeat' apply And.intro
   all_goals first | omega | skip
   have hq2 : (es.filter (fun e => !pr e)).length = q := by rw [g5, List.length_take]; omega
   obtain ⟨Z, hZ⟩ := splice_front (es'.map row) q (List.replicate (n - q)
    [D.v (Value.string { data := #[] }), D.v (Value.int IntKind.i64 0), D.v (Value.int IntKind.i64 0), D.v (Value.int IntKind.i64 0), D.v (Value.slice none 0 0), D.v (Value.int IntKind.i64 0),
    D.v (Value.string { data := #[] }), D.v (Value.int IntKind.i64 0), D.v (Value.string { data := #[] }), D.v (Value.int IntKind.i64 0), D.v (Value.bool false), D.v (Value.string { data := #[] }),
    D.v (Value.string { data := #[] }), D.v (Value.string { data := #[] }), D.v (Value.string { data := #[] }), D.v (Value.string { data := #[] }), D.v (Value.int IntKind.i64 0), D.v (Value.string { data := #[] })])
   rw [hZ]
   refine fin_weak (fweak_take (r := r) (sz := 18) (xs := (es'.map row).take q) (ys := Z) (by simp [hr]) (by simp)) (fin_here (by simp) ⟨by rw [hq2], by simp [g5, List.map_take]⟩)
end
end Go.Aw.Try

namespace Go.Aw
open Go
section
variable {A B : Type} [DecidableEq A]
def alook : List (A × B) → A → Option B
 | [], _ => none
 | (k, v) :: r, a => if k = a then some v else alook r a
def aput : List (A × B) → A → B → List (A × B)
 | [], a, b => [(a, b)]
 | (k, v) :: r, a, b => if k = a then (a, b) :: r else (k, v) :: aput r a b
theorem alook_aput {a b : A} {v : B} : ∀ {m : List (A × B)}, alook (aput m a v) b = if a = b then some v else alook m b
 | [] => by simp [aput, alook]
 | (k, u) :: r => by
  simp only [aput]
  split
  ·rename_i h; subst h
   simp only [alook]
   split <;> simp_all
  ·rename_i h
   simp only [alook]
   rw [alook_aput (m := r)]
   by_cases h2 : k = b
   ·simp [h2]; intro h3; exact absurd (h2.trans h3.symm) h
   ·simp [h2]
def encM (ke : A → Value) (ve : B → PV) (m : List (A × B)) : List (Value × PV) := m.map fun p => (ke p.1, ve p.2)
theorem mfind_enc {ke : A → Value} {ve : B → PV} (hk : ∀ a b, keyB (ke a) (ke b) = decide (a = b)) (a : A) : ∀ (m : List (A × B)), mfind (encM ke ve m) (ke a) = (alook m a).map ve
 | [] => rfl
 | (k, v) :: r => by
  have ih := mfind_enc (ve := ve) hk a r
  simp only [encM, List.map_cons, mfind, alook, hk] at ih ⊢
  by_cases h : k = a
  ·subst h; simp
  ·have h' : ¬ a = k := fun e => h e.symm
   simp [h, h', ih]
theorem mput_enc {ke : A → Value} {ve : B → PV} (hk : ∀ a b, keyB (ke a) (ke b) = decide (a = b)) (a : A) (b : B) : ∀ (m : List (A × B)), mput (encM ke ve m) (ke a) (ve b) = encM ke ve (aput m a b)
 | [] => rfl
 | (k, v) :: r => by
  have ih := mput_enc (ve := ve) hk a b r
  simp only [encM, List.map_cons, mput, aput, hk] at ih ⊢
  by_cases h : k = a
  ·subst h; simp
  ·have h' : ¬ a = k := fun e => h e.symm
   simp [h, h', ih]
end
/-- From strings to whole numbers. -/
abbrev encSI (m : List (ByteArray × Int)) : List (Value × PV) := encM (fun s => .string s) (fun n => .c (.v (.int .i64 n))) m
theorem mfind_SI (a : ByteArray) (m : List (ByteArray × Int)) : mfind (encSI m) (.string a) = (alook m a).map fun n => PVo.c (.v (.int .i64 n)) := mfind_enc (ke := fun s => Value.string s) (fun a b => rfl) a m
theorem mput_SI (a : ByteArray) (n : Int) (m : List (ByteArray × Int)) : mput (encSI m) (.string a) (.c (.v (.int .i64 n))) = encSI (aput m a n) := mput_enc (ke := fun s => Value.string s) (ve := fun n => PVo.c (.v (.int .i64 n))) (fun a b => rfl) a n m

section
variable {P : Program} {G : Gl} {N0 : Nat}
theorem phiP_range {n k : Nat} : ∀ r, r < n + k → phiP n (List.range k) r = some r := fun r h => by
 unfold phiP
 split
 ·rfl
 ·have := phi_range k 0 (r - n)
  rw [← List.range_eq_range'] at this
  rw [this, if_pos (by omega)]
  simp; omega
/-- What lies behind the first new regions is let go. -/
theorem wk_junk2 {H M L : List O} {sl : Nat → T} {K : St → Prop} (vals : List (Nat × T)) (hw : Wf H) (hM : ∀ o ∈ M, o.lt (H.length + M.length)) (hN : N0 = H.length) (hv : ∀ p ∈ vals, sl p.1 = p.2 ∧ p.2.lt (H.length + M.length)) (h : K ⟨ofL vals, H ++ M⟩) :
  wk P G N0 ⟨sl, H ++ (M ++ L)⟩ K := by
 subst hN
 refine wk_pre (List.range M.length) (vals.map (·.1)) hw ?_ ?_
 ·simp only [selB, List.all_eq_true, List.mem_range, List.length_range]
  intro i hi
  rw [List.getElem?_range hi]
  have := phi_range M.length 0 i
  rw [← List.range_eq_range'] at this
  simp [this, hi]
  omega
 ·have e : (vals.map (·.1)).map (fun t => (t, (sl t).ren (phiP H.length (List.range M.length)))) = vals := by
   rw [List.map_map]
   conv => rhs; rw [← List.map_id vals]
   refine List.map_congr_left fun p hp => ?_
   obtain ⟨h1, h2⟩ := hv p hp
   simp only [Function.comp, h1, T.ren_id phiP_range h2, id]
  have e2 : (List.range M.length).map (fun i => ((M ++ L).getD i .dead).ren (phiP H.length (List.range M.length))) = M := by
   apply List.ext_getElem?
   intro i
   rw [List.getElem?_map]
   by_cases hi : i < M.length
   ·rw [List.getElem?_range hi]
    have : (M ++ L).getD i .dead = M[i] := by rw [List.getD_eq_getElem?_getD, List.getElem?_append_left hi]; simp [hi]
    simp only [Option.map_some, this]
    rw [O.ren_id phiP_range (hM _ (List.getElem_mem hi))]
    simp [hi]
   ·rw [List.getElem?_eq_none (by simp; omega), List.getElem?_eq_none (by omega)]; rfl
  rw [e, e2]
  exact h
end
end Go.Aw

namespace Go.Aw.Try
open Go Go.Proofs Go.Aw
set_option maxRecDepth 100000
set_option maxHeartbeats 4000000
structure Cutoff where
 who : ByteArray
 n : Int
 err : Int
def Cutoff.row (c : Cutoff) : List D := [.v (.string c.who), .v (.int .i64 c.n), .v (.int .i64 c.err)]
instance : Inhabited Cutoff := ⟨⟨⟨#[]⟩, 0, 0⟩⟩
theorem crow (e : Cutoff) : RowOk 3 e.row := ⟨rfl, fun d hd c h => by subst h; simp [Cutoff.row] at hd⟩
abbrev ktS : KT := ⟨false, [.s]⟩
/-- Is it above the cutoff? -/
def above (m : List (ByteArray × Int)) (e : Edit) : Bool := match alook m e.id.a with
 | some n => decide (n < e.id.n)
 | none => false
theorem k41 (m : List (ByteArray × Int)) (e : Edit) : ACalls Tryz.prog G0 150 [.agg (e.row.map .d), .c (.d (.ip [.mp ktS (encSI m)]))] [] fun t H => t = .bool (above m e) ∧ H = [] := by
 refine acallsX (X := []) trivial tab hmix Tryz.func150 c41 (by rfl) fun hw => ?_
 unfold above
 have hm := mfind_SI e.id.a m
 cases ha : alook m e.id.a with
 | none =>
  rw [ha] at hm
  simp (implicitDefEqProofs := false) (disch := omega) [gz, ir41, b41, Edit.row, conf, sksOk, skOk, hm, PV.toV]
  exact fin_nil ⟨rfl, rfl⟩
 | some n =>
  rw [ha] at hm
  simp (implicitDefEqProofs := false) (disch := omega) [gz, ir41, b41, Edit.row, conf, sksOk, skOk, hm, PV.toV]
  exact fin_nil ⟨rfl, rfl⟩

def x41 (m : List (ByteArray × Int)) : XE := ⟨true, fun ps => match ps with
 | [.agg (.v (.string a1) :: .v (.int .i64 n1) :: _), .c _] => some (∃ e : Edit, ps = [.agg e.row, .c (.ip [.mp ktS (encSI m)])], .bool (match alook m a1 with | some n => decide (n < n1) | none => false))
 | _ => none⟩
theorem kx41 (m : List (ByteArray × Int)) : Contract Tryz.prog G0 150 (x41 m) := contract_sc fun ps ob t h ho => by
 split at h
 ·rename_i a1 n1 r1 c1
  injection h with h; injection h with h1 h2; subst h2; subst h1
  obtain ⟨e, he⟩ := ho
  refine ⟨rfl, ?_⟩
  have := k41 m e
  rw [he]
  simp only [Edit.row, List.cons.injEq, PVo.agg.injEq, D.v.injEq, Value.string.injEq, Value.int.injEq, true_and] at he
  obtain ⟨⟨e1, e2, _⟩, _⟩ := he
  subst e1 e2
  exact this
 ·cases h
theorem xg41 (m : List (ByteArray × Int)) (e : Edit) : (x41 m).g (.agg e.row :: [[D.mp ktS (encSI m)]].map fun cs => .c (.ip cs)) = some (True, .bool (above m e)) := by
 show some (∃ e' : Edit, [PVo.agg e.row, .c (.ip [.mp ktS (encSI m)])] = [.agg e'.row, .c (.ip [.mp ktS (encSI m)])], T.bool (above m e)) = _
 rw [show (∃ e' : Edit, [PVo.agg e.row, .c (.ip [.mp ktS (encSI m)])] = [.agg e'.row, .c (.ip [.mp ktS (encSI m)])]) = True from eq_true ⟨e, rfl⟩]

/-- The cutoffs, one after the other. -/
def stepC (m : List (ByteArray × Int)) (c : Cutoff) : List (ByteArray × Int) :=
 if c.err = 22 then (match alook m c.who with | some n => if c.n < n then aput m c.who c.n else m | none => aput m c.who c.n) else m
def mapC (cuts : List Cutoff) : List (ByteArray × Int) := cuts.foldl stepC []
/-- Is it cut? -/
def cutBy (cuts : List Cutoff) (e : Edit) : Bool := cuts.any fun c => decide (c.err = 22) && (decide (c.who = e.id.a) && decide (c.n < e.id.n))
def effE (l : List Edit) (cuts : List Cutoff) : List Edit := (sortE l).filter fun e => !cutBy cuts e
theorem above_step (m : List (ByteArray × Int)) (c : Cutoff) (e : Edit) : above (stepC m c) e = (above m e || (decide (c.err = 22) && (decide (c.who = e.id.a) && decide (c.n < e.id.n)))) := by
 unfold stepC above
 by_cases h1 : c.err = 22
 ·rw [if_pos h1]
  cases h2 : alook m c.who with
  | none =>
   simp only [alook_aput]
   by_cases h3 : c.who = e.id.a
   ·rw [h3] at h2; simp [h1, h3, h2]
   ·simp [h1, h3]
  | some n =>
   simp only
   by_cases h4 : c.n < n
   ·rw [if_pos h4]
    simp only [alook_aput]
    by_cases h3 : c.who = e.id.a
    ·rw [h3] at h2; simp [h1, h3, h2]; omega
    ·simp [h1, h3]
   ·rw [if_neg h4]
    by_cases h3 : c.who = e.id.a
    ·rw [h3] at h2; simp [h1, h3, h2]; omega
    ·simp [h1, h3]
 ·simp [h1]
theorem above_map (cuts : List Cutoff) (e : Edit) : above (mapC cuts) e = cutBy cuts e := by
 have : ∀ (cuts : List Cutoff) (m : List (ByteArray × Int)), above (cuts.foldl stepC m) e = (above m e || cutBy cuts e) := by
  intro cuts
  induction cuts with
  | nil => intro m; simp [cutBy]
  | cons c r ih =>
   intro m
   rw [List.foldl_cons, ih, above_step]
   simp [cutBy, Bool.or_assoc]
 have h := this cuts []
 simpa [above, alook, mapC] using h
theorem cmptF_len {E : Type} (eqb : E → E → Bool) : ∀ (p : E) (l : List E), (cmptF eqb p l).length ≤ l.length
 | _, [] => Nat.le_refl _
 | p, x :: l => by
  have := cmptF_len eqb x l
  simp only [cmptF]; split <;> simp <;> omega
theorem cmpt_len {E : Type} (eqb : E → E → Bool) : ∀ (l : List E), (cmpt eqb l).length ≤ l.length
 | [] => Nat.le_refl _
 | x :: l => by have := cmptF_len eqb x l; simp [cmpt]; omega
theorem sortE_len (l : List Edit) : (sortE l).length ≤ l.length := by
 unfold sortE; have := cmpt_len (fun a b => decide (cmpE a b = 0)) (ssort cmpE l); rw [ssort_len] at this; exact this

theorem k18 (es : List Edit) (hl : es.length < 68719476736) (cuts : List Cutoff) (hc : cuts.length < 68719476736) (H : List O) :
  ACalls Tryz.prog G0 124 [.c (.d (.sl (es.map Edit.row))), .c (.d (.sl (cuts.map Cutoff.row)))] H (Own H 18 ((effE es cuts).map Edit.row)) := by
 refine acallsX (X := []) trivial tab hmix Tryz.func124 c18 (by rfl) fun hw => ?_
 simp (implicitDefEqProofs := false) (disch := omega) [gz, ir18, b18, wrap64]
 refine loopE (fun k s => ∃ i, i ≤ cuts.length ∧ k = cuts.length - i ∧
   s = ⟨ofL [(0, .v (.c (.d (.sl (es.map Edit.row))))), (5, .v (.c (.ptr (H.length + 1) 0))), (11, .v (.c (.d (.sl (cuts.map Cutoff.row))))), (12, .int .i64 cuts.length), (13, .int .i64 i)],
    H ++ [.map ktS (encSI (mapC (cuts.take i))), .cells [.mp H.length]]⟩)
  (fun s => AtS [(0, .v (.c (.d (.sl (es.map Edit.row))))), (5, .v (.c (.ptr (H.length + 1) 0)))] (H ++ [.map ktS (encSI (mapC cuts)), .cells [.mp H.length]]) s) ?_ ?_ ?_
 ·refine wk_keep [0, 5, 11, 12, 13] ⟨_, 0, by omega, rfl, ?_⟩
  simp [splice, mapC, encM]
 ·rintro J L hJ hL k s ⟨i, hi, rfl, rfl⟩
  by_cases hlt : i < cuts.length
  ·obtain ⟨c, hcc⟩ : ∃ c, nth cuts i = c := ⟨_, rfl⟩
   obtain ⟨m, hm⟩ : ∃ m, m = mapC (cuts.take i) := ⟨_, rfl⟩
   have hstep : mapC (cuts.take (i + 1)) = stepC m c := by
    rw [take_nth hlt, mapC, List.foldl_append, hm, ← hcc]; rfl
   have hfin : ∀ (sl : Nat → T) (L : List O), sl 0 = .v (.c (.d (.sl (es.map Edit.row)))) → sl 5 = .v (.c (.ptr (H.length + 1) 0)) → sl 11 = .v (.c (.d (.sl (cuts.map Cutoff.row)))) → sl 12 = .int .i64 cuts.length → sl 13 = .int .i64 (i + 1 : Nat) →
     wk Tryz.prog G0 H.length ⟨sl, H ++ ([.map ktS (encSI (stepC m c)), .cells [.mp H.length]] ++ L)⟩ fun s'' => ∃ k', k' < cuts.length - i ∧ J k' s'' := fun sl L h0 h5 h11 h12 h13 => by
    subst hJ
    refine wk_junk2 [(0, .v (.c (.d (.sl (es.map Edit.row))))), (5, .v (.c (.ptr (H.length + 1) 0))), (11, .v (.c (.d (.sl (cuts.map Cutoff.row))))), (12, .int .i64 cuts.length), (13, .int .i64 (i + 1 : Nat))] hw (by simp [O.lt, C.lt]) rfl (by simp [h0, h5, h11, h12, h13, T.lt, V.lt, C.lt]) ⟨cuts.length - (i + 1), by omega, i + 1, by omega, rfl, ?_⟩
    rw [hstep]
   rw [← hm]
   have hf := mfind_SI c.who m
   have hp := mput_SI c.who c.n m
   have hce : c.row = [.v (.string c.who), .v (.int .i64 c.n), .v (.int .i64 c.err)] := rfl
   unfold stepC at hfin
   by_cases he : c.err = 22
   ·rw [if_pos he] at hfin
    cases ha : alook m c.who with
    | none =>
     rw [ha] at hf hfin
     simp (implicitDefEqProofs := false) (disch := omega) [gz, hlt, wrap64, nth_map, hcc, hce, he, hf, hp, splice, conf, sksOk, skOk, PV.toV, toPV]
     exact hfin _ [_] (by simp) (by simp) (by simp) (by simp) (by simp)
    | some n =>
     rw [ha] at hf hfin
     by_cases hn : c.n < n
     ·simp only [if_pos hn] at hfin
      simp (implicitDefEqProofs := false) (disch := omega) [gz, hlt, wrap64, nth_map, hcc, hce, he, hf, hp, hn, splice, conf, sksOk, skOk, PV.toV, toPV]
      exact hfin _ [_] (by simp) (by simp) (by simp) (by simp) (by simp)
     ·simp only [if_neg hn] at hfin
      simp (implicitDefEqProofs := false) (disch := omega) [gz, hlt, wrap64, nth_map, hcc, hce, he, hf, hp, hn, splice, conf, sksOk, skOk, PV.toV, toPV]
      exact hfin _ [_] (by simp) (by simp) (by simp) (by simp) (by simp)
   ·rw [if_neg he] at hfin
    simp (implicitDefEqProofs := false) (disch := omega) [gz, hlt, wrap64, nth_map, hcc, hce, he, splice]
    exact hfin _ [_] (by simp) (by simp) (by simp) (by simp) (by simp)
  ·have : i = cuts.length := by omega
   subst this
   simp (implicitDefEqProofs := false) (disch := omega) [gz, hlt]
   subst hL
   exact at_mk (by simp) (by simp)
 ·rintro _ ⟨sl, rfl⟩
  simp (implicitDefEqProofs := false) (disch := omega) [gz, wrap64]
  obtain ⟨H2, hH2⟩ : ∃ H2, H2 = H ++ [.map ktS (encSI  (mapC cuts)), .cells [.mp H.length]] := ⟨_, rfl⟩
  have hl2 : H2.length = H.length + 2 := by rw [hH2]; simp
  rw [← hH2]
  refine (k20 es hl H2).mono ?_
  rintro t H' ⟨rfl, rfl⟩
  simp only [callK]
  simp (implicitDefEqProofs := false) (disch := omega) [gz, wrap64]
  have hcaps : ∀ (L : List O), mapO (toBV (H2 ++ L)) ([(H.length + 1, 0)].map fun c : Nat × Nat => V.c (.ptr c.1 c.2)) = some ([[D.mp ktS (encSI  (mapC cuts))]].map fun cs => PVo.c (.ip cs)) := fun L => by
   rw [hH2]
   simp [mapO, toBV]
  have h2 := k40 Edit.row erow (above (mapC cuts)) 150 (by simp) [(H.length + 1, 0)] [[D.mp ktS (encSI  (mapC cuts))]] (x41 (mapC cuts)) (kx41 _) rfl (xg41 _) (sortE es) (by have := sortE_len es; omega) (H2 ++ [.row 18 []]) H2.length (by simp)
   (fun xs => by rw [set_snoc, hH2]; simp) (fun xs L => by rw [set_snoc, List.append_assoc]; exact hcaps _) (by simp; omega)
  rw [set_snoc] at h2
  have e0 : ((sortE es).map Edit.row).length = (sortE es).length := by simp
  rw [e0] at *
  refine h2.mono ?_
  rintro t H' ⟨rfl, rfl⟩
  rw [set_snoc]
  simp only [callK]
  simp (implicitDefEqProofs := false) (disch := omega) [gz, wrap64]
  have hf : (sortE es).filter (fun e => !above (mapC cuts) e) = effE es cuts := by
   unfold effE; congr 1; funext e; rw [above_map]
  rw [hf, hl2, hH2]
  have := fin_own (P := Tryz.prog) (H := H) (L := [.map ktS (encSI  (mapC cuts)), .cells [.mp H.length], .row 18 ((effE es cuts).map Edit.row)]) (k := 2) (n := (effE es cuts).length) hw rfl (by simp)
  simpa using this
end Go.Aw.Try

namespace Go.Aw
open Go
section
variable {P : Program} {G : Gl}

/-- A contract's result, seen otherwise. -/
theorem acalls_fin {f : Nat} {vs : List V} {H : List O} {R R' : T → List O → Prop} (h : ACalls P G f vs H R) (hf : Wf H → ∀ t H', R t H' → Fin P H.length R' t H') : ACalls P G f vs H R' := by
 refine ⟨h.1, fun ρ w args hH hG hv => (h.2 ρ w args hH hG hv).mono ?_⟩
 rintro e w' ⟨v, t, ρ', H', e1, e2, e3, e4, e5⟩
 obtain ⟨t2, H2, hw, hR⟩ := hf (wf_of hH) t H' e2
 obtain ⟨ρ2, a1, a2, a3, a4⟩ := hw.2 ρ' w' v e3 e4
 refine ⟨v, t2, ρ2, H2, e1, hR, a1, a2, ⟨fun r b hr => ?_, hw.1, ⟨fun b hb => a4 b (e5.step.sub b hb), e5.step.keep, e5.step.size, e5.step.shape, e5.step.os, e5.step.tape, e5.step.output⟩⟩⟩
 have hlt := (hH.small r b hr).1
 show ρ2 r = some b
 rw [a3 r hlt]; exact e5.ρ r b hr

/-- An own row, told as data. -/
theorem own_data {f : Nat} {vs : List V} {H : List O} {sz : Nat} {rows : List (List D)} (h : ACalls P G f vs H (Own H sz rows)) : ACalls P G f vs H fun t H' => t = .v (.c (.d (.sl rows))) ∧ H' = H := by
 refine acalls_fin h fun hw t H' ⟨h1, h2⟩ => ?_
 subst h1; subst h2
 refine fin_pre_pv (p := .c (.sl rows)) (L' := [.frow sz rows]) hw ?_ ?_ ⟨rfl, rfl⟩
 ·simp [toPV]
 ·simp [frz, frz1]
theorem fin_tell {H L : List O} {R : T → List O → Prop} {r sz n : Nat} {rows : List (List D)} (hw : Wf H) (hr : H.length ≤ r) (hk : (H ++ L)[r]? = some (.row sz rows)) (hn : n = rows.length) (h : R (.v (.c (.d (.sl rows)))) H) :
  Fin P H.length R (.v (.c (.os r sz 0 n))) (H ++ L) := by
 subst hn
 refine fin_pre_pv (p := .c (.sl rows)) (L' := L.set (r - H.length) (.frow sz rows)) hw ?_ ?_ h
 ·simp [toPV, hk]
 ·simp only [V.cells, frz, frz1, hk]
  rw [List.set_append_right _ _ hr]
theorem fin_data {H L : List O} {R : T → List O → Prop} {x : D} (hw : Wf H) (hx : ∀ c, x ≠ .v (.slice none 0 c)) (h : R (.v (.c (.d x))) H) : Fin P H.length R (.v (.c (.d x))) (H ++ L) := by
 refine fin_pre_pv (p := .c x) (L' := L) hw ?_ ?_ h
 ·have : toD (H ++ L) (.d x) = some x := by
   unfold toD
   split
   ·rename_i c e; exact absurd (by injection e) (hx c)
   ·rename_i e; injection e with e; subst e; rfl
   ·rename_i e; cases e
   ·rename_i q _; exact absurd rfl (q x)
  simp [toPV, this]
 ·simp [frz, frz1]

/-- A contract as a function of data: 'enc': the arguments, 'ok': what is asked, 'F': the result. -/
noncomputable def mkX {α : Type} (sc : Bool) (enc : α → List PV) (ok : α → Prop) (F : α → T) : XE := ⟨sc, fun ps => open Classical in if h : ∃ a, enc a = ps ∧ ok a then some (True, F (Classical.choose h)) else none⟩
theorem mkX_g {α : Type} {sc : Bool} {enc : α → List PV} {ok : α → Prop} {F : α → T} (inj : ∀ a b, enc a = enc b → a = b) (a : α) (h : ok a) : (mkX sc enc ok F).g (enc a) = some (True, F a) := by
 have hex : ∃ b, enc b = enc a ∧ ok b := ⟨a, rfl, h⟩
 show (open Classical in if h : ∃ b, enc b = enc a ∧ ok b then some (True, F (Classical.choose h)) else none) = _
 rw [dif_pos hex, inj _ _ (Classical.choose_spec hex).1]
theorem mkX_scal {α : Type} {enc : α → List PV} {ok : α → Prop} {F : α → T} {f : Nat} (hs : ∀ a, scT (F a) = true) (h : ∀ a, ok a → ACalls P G f ((enc a).map PV.toV) [] fun t H => t = F a ∧ H = []) : Contract P G f (mkX true enc ok F) := by
 intro ps ob t hg ho
 have hg : (open Classical in if h : ∃ b, enc b = ps ∧ ok b then some (True, F (Classical.choose h)) else none) = some (ob, t) := hg
 split at hg
 ·rename_i hex
  injection hg with hg; injection hg with h1 h2; subst h2
  have hs' := Classical.choose_spec hex
  show if true = true then _ else _
  rw [if_pos rfl]
  refine ⟨hs _, ?_⟩
  have := h _ hs'.2
  rw [hs'.1] at this; exact this
 ·cases hg
theorem mkX_data {α : Type} {enc : α → List PV} {ok : α → Prop} {F : α → T} {f : Nat} (h : ∀ a, ok a → ∀ H, ACalls P G f ((enc a).map PV.toV) H fun t H' => t = F a ∧ H' = H) : Contract P G f (mkX false enc ok F) := by
 intro ps ob t hg ho
 have hg : (open Classical in if h : ∃ b, enc b = ps ∧ ok b then some (True, F (Classical.choose h)) else none) = some (ob, t) := hg
 split at hg
 ·rename_i hex
  injection hg with hg; injection hg with h1 h2; subst h2
  have hs' := Classical.choose_spec hex
  show if false = true then _ else _
  rw [if_neg (by simp)]
  intro H
  have := h _ hs'.2 H
  rw [hs'.1] at this; exact this
 ·cases hg
end
end Go.Aw

namespace Go.Aw
section
variable {E : Type} {cmp : E → E → Int}
/-- Inserted, unless its place is taken. -/
def insR (cmp : E → E → Int) : List E → E → List E
 | [], e => [e]
 | y :: r, e => if cmp y e = 0 then y :: r else if 0 < cmp y e then e :: y :: r else y :: insR cmp r e
def refS (cmp : E → E → Int) (l : List E) : List E := l.foldl (insR cmp) []
def Sst (cmp : E → E → Int) (l : List E) : Prop := l.Pairwise fun a b => cmp a b < 0
theorem insR_mem {e x : E} : ∀ {m : List E}, x ∈ insR cmp m e → x = e ∨ x ∈ m
 | [], h => by simp [insR] at h; exact .inl h
 | y :: r, h => by
  simp only [insR] at h
  split at h
  ·exact .inr h
  ·split at h
   ·rcases List.mem_cons.1 h with h | h
    ·exact .inl h
    ·exact .inr h
   ·rcases List.mem_cons.1 h with h | h
    ·exact .inr (by simp [h])
    ·rcases insR_mem h with h | h
     ·exact .inl h
     ·exact .inr (List.mem_cons_of_mem _ h)
theorem insR_sst (hp : Pre cmp) {e : E} : ∀ {m : List E}, Sst cmp m → Sst cmp (insR cmp m e)
 | [], h => by simp [insR, Sst]
 | y :: r, h => by
  have ⟨h1, h2⟩ := List.pairwise_cons.1 h
  simp only [insR]
  split
  ·exact h
  ·split
   ·rename_i h3 h4
    have hey : cmp e y < 0 := by have := hp.sgn e y; omega
    refine List.pairwise_cons.2 ⟨fun z hz => ?_, h⟩
    rcases List.mem_cons.1 hz with rfl | hz
    ·exact hey
    ·exact hp.lt_le hey (by have := h1 z hz; omega)
   ·rename_i h3 h4
    refine List.pairwise_cons.2 ⟨fun z hz => ?_, insR_sst hp h2⟩
    rcases insR_mem hz with rfl | hz
    ·omega
    ·exact h1 z hz
theorem insR_cls (hp : Pre cmp) {e x : E} : ∀ {m : List E}, Sst cmp m → cls cmp x (insR cmp m e) = if cmp x e = 0 ∧ cls cmp x m = [] then [e] else cls cmp x m
 | [], h => by simp [insR, cls_cons, cls_nil]
 | y :: r, h => by
  have ⟨h1, h2⟩ := List.pairwise_cons.1 h
  simp only [insR]
  split
  ·rename_i h3
   rw [if_neg]
   rintro ⟨h4, h5⟩
   have : cmp x y = 0 := hp.eq_tr h4 (hp.eq_symm h3)
   rw [cls_cons, if_pos this] at h5; simp at h5
  ·split
   ·rename_i h3 h4
    have hey : cmp e y < 0 := by have := hp.sgn e y; omega
    rw [cls_cons]
    by_cases hx : cmp x e = 0
    ·have hn : cls cmp x (y :: r) = [] := cls_none fun z hz h0 => by
      have hez : cmp e z < 0 := by
       rcases List.mem_cons.1 hz with rfl | hz
       ·exact hey
       ·exact hp.lt_le hey (by have := h1 z hz; omega)
      have := hp.eq_tr (hp.eq_symm hx) h0
      omega
     rw [if_pos hx, if_pos ⟨hx, hn⟩, hn]
    ·rw [if_neg hx, if_neg (fun q => hx q.1)]
   ·rename_i h3 h4
    rw [cls_cons, cls_cons, insR_cls hp h2]
    by_cases hy : cmp x y = 0
    ·have hx : ¬ cmp x e = 0 := fun q => by
      have := hp.eq_tr (hp.eq_symm hy) q; omega
     rw [if_pos hy, if_pos hy, if_neg (fun q => hx q.1), if_neg (fun q => hx q.1)]
    ·rw [if_neg hy, if_neg hy]
theorem refS_spec (hp : Pre cmp) (l : List E) : Sst cmp (refS cmp l) ∧ ∀ x, cls cmp x (refS cmp l) = (cls cmp x l).take 1 := by
 have key : ∀ (l pre m : List E), Sst cmp m → (∀ x, cls cmp x m = (cls cmp x pre).take 1) → Sst cmp (l.foldl (insR cmp) m) ∧ ∀ x, cls cmp x (l.foldl (insR cmp) m) = (cls cmp x (pre ++ l)).take 1 := by
  intro l
  induction l with
  | nil => intro pre m h1 h2; exact ⟨h1, fun x => by simpa using h2 x⟩
  | cons e l ih =>
   intro pre m h1 h2
   rw [List.foldl_cons, show pre ++ e :: l = (pre ++ [e]) ++ l by simp]
   refine ih (pre ++ [e]) _ (insR_sst hp h1) fun x => ?_
   rw [insR_cls hp h1, h2 x, cls_app, cls_cons, cls_nil]
   cases hc : cls cmp x pre with
   | nil => by_cases hx : cmp x e = 0 <;> simp [hx]
   | cons z zs => simp
 exact key l [] [] List.Pairwise.nil fun x => by simp [cls_nil]
theorem Sst.srt {l : List E} (h : Sst cmp l) : Srt cmp l := h.imp fun h => by omega

theorem cmptF_sub (eqb : E → E → Bool) : ∀ (p : E) (l : List E), (cmptF eqb p l).Sublist l
 | _, [] => List.Sublist.refl _
 | p, x :: l => by
  simp only [cmptF]
  split
  ·exact (cmptF_sub eqb x l).cons x
  ·exact (cmptF_sub eqb x l).cons_cons x
theorem cmpt_sub (eqb : E → E → Bool) : ∀ (l : List E), (cmpt eqb l).Sublist l
 | [] => List.Sublist.refl _
 | x :: l => (cmptF_sub eqb x l).cons_cons x
theorem cmptF_cls (hp : Pre cmp) {x : E} : ∀ (l : List E) (p : E), Srt cmp (p :: l) → cls cmp x (cmptF (fun a b => decide (cmp a b = 0)) p l) = if cmp x p = 0 then [] else (cls cmp x l).take 1
 | [], p, h => by simp [cmptF, cls_nil]
 | y :: r, p, h => by
  have ⟨h1, h2⟩ := List.pairwise_cons.1 h
  have ih := cmptF_cls hp (x := x) r y h2
  simp only [cmptF]
  by_cases hyp : cmp y p = 0
  ·rw [if_pos (by simp [hyp]), ih]
   by_cases hx : cmp x p = 0
   ·rw [if_pos hx, if_pos (hp.eq_tr hx (hp.eq_symm hyp))]
   ·have hxy : ¬ cmp x y = 0 := fun q => hx (hp.eq_tr q hyp)
    rw [if_neg hx, if_neg hxy, cls_cons, if_neg hxy]
  ·rw [if_neg (by simp [hyp]), cls_cons, ih]
   by_cases hx : cmp x p = 0
   ·have hxy : ¬ cmp x y = 0 := fun q => hyp (hp.eq_tr (hp.eq_symm q) hx)
    have hpy : cmp p y < 0 := by
     have := h1 y List.mem_cons_self
     have : ¬ cmp p y = 0 := fun q => hyp (hp.eq_symm q)
     omega
    have hn : cls cmp x r = [] := cls_none fun z hz h0 => by
     have : cmp y z ≤ 0 := (List.pairwise_cons.1 h2).1 z hz
     have := hp.lt_le hpy this
     have := hp.eq_tr (hp.eq_symm hx) h0
     omega
    rw [if_pos hx, if_neg hxy, if_neg hxy, hn]; rfl
   ·by_cases hxy : cmp x y = 0
    ·rw [if_neg hx, if_pos hxy, if_pos hxy, cls_cons, if_pos hxy]; simp
    ·rw [if_neg hx, if_neg hxy, if_neg hxy, cls_cons, if_neg hxy]
theorem cmpt_cls (hp : Pre cmp) {x : E} : ∀ (l : List E), Srt cmp l → cls cmp x (cmpt (fun a b => decide (cmp a b = 0)) l) = (cls cmp x l).take 1
 | [], h => by simp [cmpt, cls_nil]
 | y :: r, h => by
  simp only [cmpt]
  rw [cls_cons, cmptF_cls hp r y h, cls_cons]
  by_cases hxy : cmp x y = 0
  ·simp [hxy]
  ·simp [hxy]
theorem refS_cmpt (hp : Pre cmp) (l : List E) : refS cmp l = cmpt (fun a b => decide (cmp a b = 0)) (ssort cmp l) := by
 obtain ⟨h1, h2⟩ := refS_spec hp l
 refine srt_flt_unique hp h1.srt ((ssort_srt hp l).sublist (cmpt_sub _ _)) fun x => ?_
 rw [h2, cmpt_cls hp _ (ssort_srt hp l), ssort_flt hp l x]
theorem insR_len (m : List E) (e : E) : (insR cmp m e).length ≤ m.length + 1 := by
 induction m with
 | nil => simp [insR]
 | cons y r ih => simp only [insR]; (repeat' split) <;> simp <;> omega
theorem insR_split [Inhabited E] {l : List E} {e : E} {i : Nat} (hi : i < l.length) (h1 : ∀ c, c < i → cmp (nth l c) e < 0) (h2 : 0 < cmp (nth l i) e) : insR cmp l e = l.take i ++ e :: l.drop i := by
 induction l generalizing i with
 | nil => simp at hi
 | cons y r ih =>
  cases i with
  | zero =>
   have h2 : 0 < cmp y e := h2
   simp only [insR]; rw [if_neg (by omega), if_pos h2]; rfl
  | succ i =>
   have := h1 0 (by omega)
   have h0 : cmp y e < 0 := this
   simp only [insR]; rw [if_neg (by omega), if_neg (by omega), ih (by simpa using hi) (fun c hc => h1 (c + 1) (by omega)) h2]; rfl
theorem insR_taken [Inhabited E] {l : List E} {e : E} {i : Nat} (hi : i < l.length) (h1 : ∀ c, c < i → cmp (nth l c) e < 0) (h2 : cmp (nth l i) e = 0) : insR cmp l e = l := by
 induction l generalizing i with
 | nil => simp at hi
 | cons y r ih =>
  cases i with
  | zero => have h2 : cmp y e = 0 := h2; simp only [insR]; rw [if_pos h2]
  | succ i =>
   have := h1 0 (by omega)
   have h0 : cmp y e < 0 := this
   simp only [insR]; rw [if_neg (by omega), if_neg (by omega), ih (by simpa using hi) (fun c hc => h1 (c + 1) (by omega)) h2]
theorem insR_last [Inhabited E] {l : List E} {e : E} (h1 : ∀ c, c < l.length → cmp (nth l c) e < 0) : insR cmp l e = l ++ [e] := by
 induction l with
 | nil => rfl
 | cons y r ih =>
  have := h1 0 (by simp)
  have h0 : cmp y e < 0 := this
  simp only [insR]; rw [if_neg (by omega), if_neg (by omega), ih (fun c hc => h1 (c + 1) (by simpa using hc))]; rfl
end
end Go.Aw
namespace Go.Aw.Try
open Go Go.Proofs Go.Aw
set_option maxRecDepth 100000
set_option maxHeartbeats 4000000
theorem sortE_refS (l : List Edit) : refS cmpE l = sortE l := refS_cmpt cmpE_pre l
theorem Id.row_inj {a b : Id} (h : a.row = b.row) : a = b := by
 cases a; cases b; simp [Id.row] at h; simp [h]
theorem map_inj {α β : Type} {f : α → β} (hf : ∀ a b, f a = f b → a = b) : ∀ {l l' : List α}, l.map f = l'.map f → l = l'
 | [], [], _ => rfl
 | [], _ :: _, h => by simp at h
 | _ :: _, [], h => by simp at h
 | a :: l, b :: l', h => by
  simp only [List.map_cons, List.cons.injEq] at h
  rw [hf _ _ h.1, map_inj hf h.2]
theorem Edit.row_inj {a b : Edit} (h : a.row = b.row) : a = b := by
 obtain ⟨⟨_, _⟩, _, _, d1, _, ⟨_, _⟩, ⟨_, _⟩, _, _, _, _, _, ⟨_, _⟩, _⟩ := a
 obtain ⟨⟨_, _⟩, _, _, d2, _, ⟨_, _⟩, ⟨_, _⟩, _, _, _, _, _, ⟨_, _⟩, _⟩ := b
 simp [Edit.row] at h
 obtain ⟨h1, h2, h3, h4, h5, h6, h7, h8, h9, h10, h11, h12, h13, h14, h15, h16, h17, h18⟩ := h
 have := map_inj (fun _ _ => Id.row_inj) h5
 subst this
 simp [*]
theorem Cutoff.row_inj {a b : Cutoff} (h : a.row = b.row) : a = b := by
 cases a; cases b; simp [Cutoff.row] at h; simp [h]
theorem rows_inj {l l' : List Edit} (h : l.map Edit.row = l'.map Edit.row) : l = l' := map_inj (fun _ _ => Edit.row_inj) h
theorem crows_inj {l l' : List Cutoff} (h : l.map Cutoff.row = l'.map Cutoff.row) : l = l' := map_inj (fun _ _ => Cutoff.row_inj) h

theorem k76 (a b : Edit) : ACalls Tryz.prog G0 146 [.agg (a.row.map .d), .agg (b.row.map .d)] [] fun t H => t = .int .i64 (cmpE a b) ∧ H = [] := by
 refine acallsX (X := []) trivial tab hmix Tryz.func146 c76 (by rfl) fun hw => ?_
 have hs := strLt_eq a.id.a b.id.a
 have he := cmpS_eq a.id.a b.id.a
 have h1 := cmpS_one a.id.a b.id.a
 by_cases c1 : a.clock = b.clock
 ·by_cases c2 : a.id.a = b.id.a
  ·by_cases c3 : a.id.n < b.id.n
   ·simp (implicitDefEqProofs := false) (disch := omega) [gz, ir76, b76, Edit.row, binSF, c1, c2, c3]
    exact fin_nil ⟨by have := he.2 c2; simp [cmpE, orI, cmpI, c1, this, c3], rfl⟩
   ·by_cases c4 : b.id.n < a.id.n
    ·simp (implicitDefEqProofs := false) (disch := omega) [gz, ir76, b76, Edit.row, binSF, c1, c2, c3, c4]
     exact fin_nil ⟨by have := he.2 c2; simp [cmpE, orI, cmpI, c1, this, c3, c4], rfl⟩
    ·simp (implicitDefEqProofs := false) (disch := omega) [gz, ir76, b76, Edit.row, binSF, c1, c2, c3, c4]
     exact fin_nil ⟨by have := he.2 c2; simp [cmpE, orI, cmpI, c1, this, c3, c4], rfl⟩
  ·have hne : ¬ cmpS a.id.a b.id.a = 0 := fun q => c2 (he.1 q)
   by_cases c3 : cmpS a.id.a b.id.a < 0
   ·have : cmpS a.id.a b.id.a = -1 := by omega
    simp (implicitDefEqProofs := false) (disch := omega) [gz, ir76, b76, Edit.row, binSF, c1, c2, hs, c3]
    exact fin_nil ⟨by simp [cmpE, orI, cmpI, c1, this], rfl⟩
   ·have : cmpS a.id.a b.id.a = 1 := by omega
    simp (implicitDefEqProofs := false) (disch := omega) [gz, ir76, b76, Edit.row, binSF, c1, c2, hs, c3]
    exact fin_nil ⟨by simp [cmpE, orI, cmpI, c1, this], rfl⟩
 ·by_cases c2 : a.clock < b.clock
  ·simp (implicitDefEqProofs := false) (disch := omega) [gz, ir76, b76, Edit.row, c1, c2]
   exact fin_nil ⟨by simp [cmpE, orI, cmpI, c2], rfl⟩
  ·have c3 : b.clock < a.clock := by omega
   simp (implicitDefEqProofs := false) (disch := omega) [gz, ir76, b76, Edit.row, c1, c2]
   exact fin_nil ⟨by simp [cmpE, orI, cmpI, c2, c3], rfl⟩
noncomputable def x76 : XE := mkX true (fun (p : Edit × Edit) => [.agg p.1.row, .agg p.2.row]) (fun _ => True) (fun p => .int .i64 (cmpE p.1 p.2))
theorem inj2 (a b : Edit × Edit) (h : [PVo.agg a.1.row, PVo.agg a.2.row] = [PVo.agg b.1.row, .agg b.2.row]) : a = b := by
 simp at h
 exact Prod.ext (Edit.row_inj h.1) (Edit.row_inj h.2)
theorem kx76 : Contract Tryz.prog G0 146 x76 := mkX_scal (fun _ => rfl) fun p _ => k76 p.1 p.2
theorem xg76 (a b : Edit) : x76.g [.agg a.row, .agg b.row] = some (True, .int .i64 (cmpE a b)) := mkX_g inj2 (a, b) trivial
end Go.Aw.Try

namespace Go.Aw.Try
open Go Go.Proofs Go.Aw
set_option maxRecDepth 100000
set_option maxHeartbeats 4000000
theorem k63 (l : List Edit) (e : Edit) (hl : l.length < 68719476736) (H : List O) :
  ACalls Tryz.prog G0 121 [.c (.d (.sl (l.map Edit.row))), .agg (e.row.map .d)] H fun t H' => t = .v (.c (.d (.sl ((insR cmpE l e).map Edit.row)))) ∧ H' = H := by
 have hsc : x76.sc = true := rfl
 refine acallsX (X := [(146, x76)]) ⟨kx76, trivial⟩ tab hmix Tryz.func121 c63 (by rfl) fun hw => ?_
 simp (implicitDefEqProofs := false) (disch := omega) [gz, ir63, b63, b63_0, b63_1, b63_2, b63_3, wrap64, (erow _).len]
 refine loopE (fun k s => ∃ i, i ≤ l.length ∧ k = l.length - i ∧ (∀ c, c < i → cmpE (nth l c) e < 0) ∧
   s = ⟨ofL [(0, .v (.c (.d (.sl (l.map Edit.row))))), (3, .v (.c (.ptr H.length 0))), (5, .int .i64 i)], H ++ [.cells (e.row.map .d)]⟩)
  (fun s => (∀ c, c < l.length → cmpE (nth l c) e < 0) ∧ AtS [(0, .v (.c (.d (.sl (l.map Edit.row))))), (3, .v (.c (.ptr H.length 0)))] (H ++ [.cells (e.row.map .d)]) s) ?_ ?_ ?_
 ·refine wk_keep [0, 3, 5] ⟨_, 0, by omega, rfl, fun c h => by omega, ?_⟩
  simp
 ·rintro J L hJ hL k s ⟨i, hi, rfl, hlo, rfl⟩
  by_cases hlt : i < l.length
  ·by_cases h0 : cmpE (nth l i) e = 0
   ·simp (implicitDefEqProofs := false) (disch := omega) [gz, hlt, wrap64, hsc, xg76, h0, nth_map, (erow _).len, take_of_len, (erow _).mapO, (erow _).tk, (erow _).nrm, borRow, (erow _).cl, borV_map, osR_map, frz_map, nth_set_ne, (erow _).spl (erow _)]
    repeat' apply And.intro
    all_goals first | omega | kernel_rfl | skip
    refine fin_data hw (by simp) ⟨by rw [insR_taken hlt hlo h0], rfl⟩
   ·by_cases h1 : 0 < cmpE (nth l i) e
    ·have c1 : ((l.length : Nat) : Int) - i = ((l.length - i : Nat) : Int) := by omega
     have e0 : (l.map Edit.row).take l.length = l.map Edit.row := List.take_of_length_le (by simp)
     simp (implicitDefEqProofs := false) (disch := omega) [gz, hlt, wrap64, hsc, xg76, h0, h1, Nat.add_assoc, e0, nth_map, (erow _).len, take_of_len, (erow _).mapO, (erow _).tk, (erow _).nrm, borRow, (erow _).cl, borV_map, osR_map, frz_map, nth_set_ne, (erow _).spl (erow _)]
     repeat' apply And.intro
     all_goals first | omega | kernel_rfl | skip
     ·intro y hy
      obtain ⟨x, _, rfl⟩ := List.mem_map.1 (List.mem_of_mem_take hy); rfl
     ·intro y hy
      obtain ⟨x, _, rfl⟩ := List.mem_map.1 (List.mem_of_mem_drop hy); rfl
     ·refine fin_tell hw (by omega) (by rw [app_get]; rfl) (by simp; omega) ⟨?_, rfl⟩
      rw [insR_split hlt (fun c hc => hlo c hc) h1]; simp [List.map_take, List.map_drop]
    ·simp (implicitDefEqProofs := false) (disch := omega) [gz, hlt, wrap64, hsc, xg76, h0, h1, nth_map, (erow _).len, take_of_len, (erow _).mapO, (erow _).tk, (erow _).nrm, borRow, (erow _).cl, borV_map, osR_map, frz_map, nth_set_ne, (erow _).spl (erow _)]
     repeat' apply And.intro
     all_goals first | omega | kernel_rfl | skip
     subst hJ
     refine wk_keep [0, 3, 5] ⟨l.length - (i + 1), by omega, i + 1, by omega, rfl, fun c hc => ?_, ?_⟩
     ·by_cases hci : c = i
      ·subst hci; omega
      ·exact hlo c (by omega)
     ·simp
  ·simp (implicitDefEqProofs := false) (disch := omega) [gz, hlt]
   subst hL
   exact ⟨fun c h => hlo c (by omega), at_mk (by simp) (by simp)⟩
 ·rintro _ ⟨hall, sl, rfl⟩
  simp (implicitDefEqProofs := false) (disch := omega) [gz, wrap64, Nat.add_assoc, nth_map, (erow _).len, take_of_len, (erow _).mapO, (erow _).tk, (erow _).nrm, borRow, (erow _).cl, borV_map, osR_map, frz_map, nth_set_ne, (erow _).spl (erow _)]
  repeat' apply And.intro
  all_goals first | omega | kernel_rfl | skip
  exact fin_tell hw (by omega) (by rw [app_get]; rfl) (by simp) ⟨by rw [insR_last hall]; simp, rfl⟩

noncomputable def x63 : XE := mkX false (fun (p : List Edit × Edit) => [.c (.sl (p.1.map Edit.row)), .agg p.2.row]) (fun p => p.1.length < 68719476736) (fun p => .v (.c (.d (.sl ((insR cmpE p.1 p.2).map Edit.row)))))
theorem kx63 : Contract Tryz.prog G0 121 x63 := mkX_data fun p h H => k63 p.1 p.2 h H
theorem inj63 (a b : List Edit × Edit) (h : [PVo.c (.sl (a.1.map Edit.row)), PVo.agg a.2.row] = [PVo.c (.sl (b.1.map Edit.row)), .agg b.2.row]) : a = b := by
 simp at h
 exact Prod.ext (rows_inj h.1) (Edit.row_inj h.2)
theorem xg63 (l : List Edit) (e : Edit) (h : l.length < 68719476736) : x63.g [.c (.sl (l.map Edit.row)), .agg e.row] = some (True, .v (.c (.d (.sl ((insR cmpE l e).map Edit.row))))) := mkX_g inj63 (l, e) h
theorem foldl_len (l m : List Edit) : (l.foldl (insR cmpE) m).length ≤ m.length + l.length := by
 induction l generalizing m with
 | nil => simp
 | cons e l ih => have := ih (insR cmpE m e); have := insR_len (cmp := cmpE) m e; simp; omega
theorem k38 (l : List Edit) (hl : l.length < 68719476736) (H : List O) :
  ACalls Tryz.prog G0 80 [.c (.d (.sl (l.map Edit.row)))] H fun t H' => t = .v (.c (.d (.sl ((sortE l).map Edit.row)))) ∧ H' = H := by
 have hsc : x63.sc = false := rfl
 rw [← sortE_refS]
 refine acallsX (X := [(121, x63)]) ⟨kx63, trivial⟩ tab hmix Tryz.func80 c38 (by rfl) fun hw => ?_
 simp (implicitDefEqProofs := false) (disch := omega) [gz, ir38, b38, wrap64]
 have h63 := fun e => xg63 [] e (by simp)
 simp only [List.map_nil] at h63
 refine loopG (fun k s => ∃ i, i ≤ l.length ∧ k = l.length - i ∧
   ((i = 0 ∧ s = ⟨ofL [(0, .v (.c (.d (.sl (l.map Edit.row))))), (3, .v (.c (.os H.length 18 0 0))), (4, .int .i64 0)], H ++ [.row 18 []]⟩) ∨
   s = ⟨ofL [(0, .v (.c (.d (.sl (l.map Edit.row))))), (3, .v (.c (.d (.sl ((refS cmpE (l.take i)).map Edit.row))))), (4, .int .i64 i)], H⟩)) ?_ ?_
 ·refine wk_keep [0, 3, 4] ⟨_, 0, by omega, rfl, .inl ⟨rfl, ?_⟩⟩
  simp
 ·rintro J hJ k s ⟨i, hi, rfl, hs⟩
  by_cases hlt : i < l.length
  ·have hst : refS cmpE (l.take (i + 1)) = insR cmpE (refS cmpE (l.take i)) (nth l i) := by
    rw [take_nth hlt, refS, List.foldl_append]; rfl
   have hll : (refS cmpE (l.take i)).length < 68719476736 := by
    have := foldl_len (l.take i) []; rw [List.length_take, List.length_nil] at this; unfold refS; omega
   rcases hs with ⟨rfl, rfl⟩ | rfl
   ·simp (implicitDefEqProofs := false) (disch := omega) [gz, hlt, wrap64, hsc, h63, toPVs, frzVs, osVs, toPV, nth_map, (erow _).len, take_of_len, (erow _).mapO, (erow _).tk, (erow _).nrm, borRow, (erow _).cl, borV_map, osR_map, frz_map, nth_set_ne, (erow _).spl (erow _)]
    subst hJ
    refine wk_junk2 (M := []) (L := [_]) [(0, .v (.c (.d (.sl (l.map Edit.row))))), (3, .v (.c (.d (.sl ((refS cmpE (l.take 1)).map Edit.row))))), (4, .int .i64 1)] hw (by simp) rfl ?_ ⟨l.length - 1, by omega, 1, by omega, rfl, .inr (by simp)⟩
    have := hst
    simp [refS] at this
    simp [T.lt, V.lt, C.lt, refS, this]
   ·have h2 := fun e => xg63 _ e hll
    simp (implicitDefEqProofs := false) (disch := omega) [gz, hlt, wrap64, hsc, h2, toPVs, frzVs, osVs, toPV, nth_map, (erow _).len, take_of_len, (erow _).mapO, (erow _).tk, (erow _).nrm, borRow, (erow _).cl, borV_map, osR_map, frz_map, nth_set_ne, (erow _).spl (erow _)]
    subst hJ
    refine wk_keep [0, 3, 4] ⟨l.length - (i + 1), by omega, i + 1, by omega, rfl, .inr ?_⟩
    simp [hst]
  ·rcases hs with ⟨rfl, rfl⟩ | rfl
   ·have : l = [] := List.length_eq_zero_iff.1 (by omega)
    subst this
    simp (implicitDefEqProofs := false) (disch := omega) [gz, hlt]
    exact fin_tell (L := [_]) (r := H.length) (sz := 18) (rows := []) hw (by omega) (by simp) rfl ⟨rfl, rfl⟩
   ·have : i = l.length := by omega
    subst this
    simp (implicitDefEqProofs := false) (disch := omega) [gz, hlt]
    have := fin_data (P := Tryz.prog) (H := H) (L := []) (R := fun t H' => t = .v (.c (.d (.sl ((refS cmpE l).map Edit.row)))) ∧ H' = H) (x := .sl ((refS cmpE l).map Edit.row)) hw (by simp) ⟨rfl, rfl⟩
    simpa using this
noncomputable def x38 : XE := mkX false (fun (p : List Edit) => [.c (.sl (p.map Edit.row))]) (fun p => p.length < 68719476736) (fun p => .v (.c (.d (.sl ((sortE p).map Edit.row)))))
theorem kx38 : Contract Tryz.prog G0 80 x38 := mkX_data fun p h H => k38 p h H
theorem xg38 (l : List Edit) (h : l.length < 68719476736) : x38.g [.c (.sl (l.map Edit.row))] = some (True, .v (.c (.d (.sl ((sortE l).map Edit.row))))) := mkX_g (fun a b h => by simp at h; exact rows_inj h) l h

theorem k42 (e : Edit) (cuts : List Cutoff) (hl : cuts.length < 68719476736) : ACalls Tryz.prog G0 129 [.agg (e.row.map .d), .c (.d (.sl (cuts.map Cutoff.row)))] [] fun t H => t = .bool (!cutBy cuts e) ∧ H = [] := by
 refine acallsX (X := []) trivial tab hmix Tryz.func129 c42 (by rfl) fun hw => ?_
 simp (implicitDefEqProofs := false) (disch := omega) [gz, ir42, b42, wrap64, (erow _).len]
 refine loopG (fun k s => ∃ i, i ≤ cuts.length ∧ k = cuts.length - i ∧ cutBy cuts e = cutBy (cuts.drop i) e ∧
   s = ⟨ofL [(1, .v (.c (.d (.sl (cuts.map Cutoff.row))))), (2, .v (.c (.ptr 0 0))), (5, .int .i64 i)], [.cells (e.row.map .d)]⟩) ?_ ?_
 ·refine wk_keep [1, 2, 5] ⟨_, 0, by omega, rfl, rfl, ?_⟩
  simp
 ·rintro J hJ k s ⟨i, hi, rfl, hcut, rfl⟩
  by_cases hlt : i < cuts.length
  ·obtain ⟨c, hcc⟩ : ∃ c, nth cuts i = c := ⟨_, rfl⟩
   have hce : c.row = [.v (.string c.who), .v (.int .i64 c.n), .v (.int .i64 c.err)] := rfl
   have hee : e.row = .v (.string e.id.a) :: .v (.int .i64 e.id.n) :: e.row.drop 2 := rfl
   have hst : cutBy (cuts.drop i) e = ((decide (c.err = 22) && (decide (c.who = e.id.a) && decide (c.n < e.id.n))) || cutBy (cuts.drop (i + 1)) e) := by
    rw [drop_nth hlt, hcc]; rfl
   have hnext : cutBy (cuts.drop i) e = cutBy (cuts.drop (i + 1)) e → ∀ sl : Nat → T, sl 1 = .v (.c (.d (.sl (cuts.map Cutoff.row)))) → sl 2 = .v (.c (.ptr 0 0)) → sl 5 = .int .i64 (i + 1 : Nat) →
     wk Tryz.prog G0 0 ⟨sl, [.cells (e.row.map .d)]⟩ fun s'' => ∃ k', k' < cuts.length - i ∧ J k' s'' := fun h sl h1 h2 h5 => by
    subst hJ
    refine wk_keep [1, 2, 5] ⟨cuts.length - (i + 1), by omega, i + 1, by omega, rfl, by rw [hcut, h], ?_⟩
    simp [h1, h2, h5]
   by_cases h1 : c.err = 22
   ·by_cases h2 : c.who = e.id.a
    ·by_cases h3 : c.n < e.id.n
     ·simp (implicitDefEqProofs := false) (disch := omega) [gz, hlt, wrap64, nth_map, hcc, hce, h1, h2, h3, Edit.row, binSF]
      repeat' apply And.intro
      all_goals first | omega | kernel_rfl | skip
      exact fin_nil ⟨by rw [hcut, hst]; simp [h1, h2, h3], rfl⟩
     ·simp (implicitDefEqProofs := false) (disch := omega) [gz, hlt, wrap64, nth_map, hcc, hce, h1, h2, h3, Edit.row, binSF]
      repeat' apply And.intro
      all_goals first | omega | kernel_rfl | skip
      exact hnext (by rw [hst]; simp [h3]) _ (by simp) (by simp) (by simp)
    ·simp (implicitDefEqProofs := false) (disch := omega) [gz, hlt, wrap64, nth_map, hcc, hce, h1, h2, Edit.row, binSF]
     repeat' apply And.intro
     all_goals first | omega | kernel_rfl | skip
     exact hnext (by rw [hst]; simp [h2]) _ (by simp) (by simp) (by simp)
   ·simp (implicitDefEqProofs := false) (disch := omega) [gz, hlt, wrap64, nth_map, hcc, hce, h1, Edit.row, binSF]
    repeat' apply And.intro
    all_goals first | omega | kernel_rfl | skip
    exact hnext (by rw [hst]; simp [h1]) _ (by simp) (by simp) (by simp)
  ·simp (implicitDefEqProofs := false) (disch := omega) [gz, hlt]
   rw [hcut, List.drop_eq_nil_of_le (by omega)]
   exact fin_nil ⟨rfl, rfl⟩
noncomputable def x42 : XE := mkX true (fun (p : Edit × List Cutoff) => [.agg p.1.row, .c (.sl (p.2.map Cutoff.row))]) (fun p => p.2.length < 68719476736) (fun p => .bool (!cutBy p.2 p.1))
theorem kx42 : Contract Tryz.prog G0 129 x42 := mkX_scal (fun _ => rfl) fun p h => k42 p.1 p.2 h
theorem xg42 (e : Edit) (cuts : List Cutoff) (h : cuts.length < 68719476736) : x42.g [.agg e.row, .c (.sl (cuts.map Cutoff.row))] = some (True, .bool (!cutBy cuts e)) :=
 mkX_g (fun a b h => by simp at h; exact Prod.ext (Edit.row_inj h.1) (crows_inj h.2)) (e, cuts) h
end Go.Aw.Try

namespace Go.Aw.Try
open Go Go.Proofs Go.Aw
set_option maxRecDepth 100000
set_option maxHeartbeats 4000000
theorem k19 (es : List Edit) (hl : es.length < 68719476736) (cuts : List Cutoff) (hc : cuts.length < 68719476736) (H : List O) :
  ACalls Tryz.prog G0 92 [.c (.d (.sl (es.map Edit.row))), .c (.d (.sl (cuts.map Cutoff.row)))] H fun t H' => t = .v (.c (.d (.sl ((effE es cuts).map Edit.row)))) ∧ H' = H := by
 have h1 : x38.sc = false := rfl
 have h2 : x42.sc = true := rfl
 have g1 := xg38 es hl
 have g2 := fun e => xg42 e cuts hc
 refine acallsX (X := [(80, x38), (129, x42)]) ⟨kx38, kx42, trivial⟩ tab hmix Tryz.func92 c19 (by rfl) fun hw => ?_
 obtain ⟨s, hs⟩ : ∃ s, s = sortE es := ⟨_, rfl⟩
 have hsl : s.length < 68719476736 := by have := sortE_len es; rw [hs]; omega
 rw [← hs] at g1
 unfold effE
 rw [← hs]
 simp (implicitDefEqProofs := false) (disch := omega) [gz, ir19, b19, wrap64, h1, h2, g1, toPVs, frzVs, osVs, toPV]
 refine loopE (fun k st => ∃ i, i ≤ s.length ∧ k = s.length - i ∧
   st = ⟨ofL [(1, .v (.c (.d (.sl (cuts.map Cutoff.row))))), (5, .v (.c (.os H.length 18 0 ((s.take i).filter fun e => !cutBy cuts e).length))), (6, .v (.c (.d (.sl (s.map Edit.row))))), (7, .int .i64 i)], H ++ [.row 18 (((s.take i).filter fun e => !cutBy cuts e).map Edit.row)]⟩)
  (fun st => AtS [(5, .v (.c (.os H.length 18 0 (s.filter fun e => !cutBy cuts e).length)))] (H ++ [.row 18 ((s.filter fun e => !cutBy cuts e).map Edit.row)]) st) ?_ ?_ ?_
 ·refine wk_keep [1, 5, 6, 7] ⟨_, 0, by omega, rfl, ?_⟩
  simp
 ·rintro J L hJ hL k st ⟨i, hi, rfl, rfl⟩
  by_cases hlt : i < s.length
  ·obtain ⟨out, ho⟩ : ∃ out, out = (s.take i).filter fun e => !cutBy cuts e := ⟨_, rfl⟩
   have hol : out.length ≤ i := by rw [ho]; exact Nat.le_trans (List.length_filter_le _ _) (by simp; omega)
   have hst : (s.take (i + 1)).filter (fun e => !cutBy cuts e) = if cutBy cuts (nth s i) then out else out ++ [nth s i] := by
    rw [take_nth hlt, List.filter_append, ← ho]; cases h : cutBy cuts (nth s i) <;> simp [h]
   rw [← ho]
   by_cases hcut : cutBy cuts (nth s i) = true
   ·rw [if_pos hcut] at hst
    simp (implicitDefEqProofs := false) (disch := omega) [gz, hlt, wrap64, h2, g2, hcut, nth_map, (erow _).len, take_of_len, (erow _).mapO, (erow _).tk, (erow _).nrm, borRow, (erow _).cl, borV_map, osR_map, frz_map, nth_set_ne, (erow _).spl (erow _)]
    subst hJ
    refine wk_keep [1, 5, 6, 7] ⟨s.length - (i + 1), by omega, i + 1, by omega, rfl, ?_⟩
    rw [hst]; simp
   ·rw [if_neg hcut] at hst
    simp (implicitDefEqProofs := false) (disch := omega) [gz, hlt, wrap64, h2, g2, hcut, nth_map, (erow _).len, take_of_len, (erow _).mapO, (erow _).tk, (erow _).nrm, borRow, (erow _).cl, borV_map, osR_map, frz_map, nth_set_ne, (erow _).spl (erow _), Nat.add_assoc]
    repeat' apply And.intro
    all_goals first | omega | skip
    subst hJ
    refine wk_pre [2] [1, 5, 6, 7] hw rfl ⟨s.length - (i + 1), by omega, i + 1, by omega, rfl, ?_⟩
    rw [hst]; simp [phi, O.ren]
  ·have : i = s.length := by omega
   subst this
   simp (implicitDefEqProofs := false) (disch := omega) [gz, hlt]
   subst hL
   exact at_mk (by simp) (by simp)
 ·rintro _ ⟨sl, rfl⟩
  simp (implicitDefEqProofs := false) (disch := omega) [gz, wrap64]
  exact fin_tell (L := [_]) (r := H.length) (sz := 18) hw (by omega) (by simp) (by simp) ⟨rfl, rfl⟩
noncomputable def x19 : XE := mkX false (fun (p : List Edit × List Cutoff) => [.c (.sl (p.1.map Edit.row)), .c (.sl (p.2.map Cutoff.row))]) (fun p => p.1.length < 68719476736 ∧ p.2.length < 68719476736) (fun p => .v (.c (.d (.sl ((effE p.1 p.2).map Edit.row)))))
theorem kx19 : Contract Tryz.prog G0 92 x19 := mkX_data fun p h H => k19 p.1 h.1 p.2 h.2 H
theorem injLC (a b : List Edit × List Cutoff) (h : [PVo.c (D.sl (a.1.map Edit.row)), PVo.c (.sl (a.2.map Cutoff.row))] = [PVo.c (.sl (b.1.map Edit.row)), .c (.sl (b.2.map Cutoff.row))]) : a = b := by
 simp at h; exact Prod.ext (rows_inj h.1) (crows_inj h.2)
theorem xg19 (es : List Edit) (cuts : List Cutoff) (h : es.length < 68719476736) (h2 : cuts.length < 68719476736) : x19.g [.c (.sl (es.map Edit.row)), .c (.sl (cuts.map Cutoff.row))] = some (True, .v (.c (.d (.sl ((effE es cuts).map Edit.row))))) := mkX_g injLC (es, cuts) ⟨h, h2⟩
/-- Effective, its result told as data. -/
noncomputable def x18 : XE := mkX false (fun (p : List Edit × List Cutoff) => [.c (.sl (p.1.map Edit.row)), .c (.sl (p.2.map Cutoff.row))]) (fun p => p.1.length < 68719476736 ∧ p.2.length < 68719476736) (fun p => .v (.c (.d (.sl ((effE p.1 p.2).map Edit.row)))))
theorem kx18 : Contract Tryz.prog G0 124 x18 := mkX_data fun p h H => own_data (k18 p.1 h.1 p.2 h.2 H)
theorem xg18 (es : List Edit) (cuts : List Cutoff) (h : es.length < 68719476736) (h2 : cuts.length < 68719476736) : x18.g [.c (.sl (es.map Edit.row)), .c (.sl (cuts.map Cutoff.row))] = some (True, .v (.c (.d (.sl ((effE es cuts).map Edit.row))))) := mkX_g injLC (es, cuts) ⟨h, h2⟩
noncomputable def x20 : XE := mkX false (fun (p : List Edit) => [.c (.sl (p.map Edit.row))]) (fun p => p.length < 68719476736) (fun p => .v (.c (.d (.sl ((sortE p).map Edit.row)))))
theorem kx20 : Contract Tryz.prog G0 57 x20 := mkX_data fun p h H => own_data (k20 p h H)
theorem xg20 (l : List Edit) (h : l.length < 68719476736) : x20.g [.c (.sl (l.map Edit.row))] = some (True, .v (.c (.d (.sl ((sortE l).map Edit.row))))) := mkX_g (fun a b h => by simp at h; exact rows_inj h) l h

/-! ### equality -/
instance : DecidableEq Id := fun x y => decidable_of_iff (x.a = y.a ∧ x.n = y.n) ⟨fun h => by cases x; cases y; simp at h; simp [h], fun h => by subst h; exact ⟨rfl, rfl⟩⟩
def Edit.plain (e : Edit) : List Value := [.string e.id.a, .int .i64 e.id.n, .int .i64 e.clock, .int .i64 e.floor, .int .i64 e.kind, .string e.node.a, .int .i64 e.node.n, .string e.parent.a, .int .i64 e.parent.n, .bool e.neg, .string e.num, .string e.den, .string e.field, .string e.value, .string e.target.a, .int .i64 e.target.n, .string e.who]
instance : DecidableEq Edit := fun x y => decidable_of_iff (x.deps = y.deps ∧ (x.id = y.id ∧ x.clock = y.clock ∧ x.floor = y.floor ∧ x.kind = y.kind ∧ x.node = y.node ∧ x.parent = y.parent ∧ (x.neg = y.neg ∧ x.num = y.num ∧ x.den = y.den) ∧ x.field = y.field ∧ x.value = y.value ∧ x.target = y.target ∧ x.who = y.who))
 ⟨fun h => by cases x; cases y; simp at h; simp [h], fun h => by subst h; simp⟩
theorem Id.eq_iff (x y : Id) : x = y ↔ x.a = y.a ∧ x.n = y.n := ⟨fun h => by subst h; exact ⟨rfl, rfl⟩, fun h => by cases x; cases y; simp at h; simp [h]⟩
theorem Edit.eq_iff (x y : Edit) : x = y ↔ (x.deps = y.deps ∧ (x.id = y.id ∧ x.clock = y.clock ∧ x.floor = y.floor ∧ x.kind = y.kind ∧ x.node = y.node ∧ x.parent = y.parent ∧ (x.neg = y.neg ∧ x.num = y.num ∧ x.den = y.den) ∧ x.field = y.field ∧ x.value = y.value ∧ x.target = y.target ∧ x.who = y.who)) :=
 ⟨fun h => by subst h; simp, fun h => by cases x; cases y; simp at h; simp [h]⟩
instance : Inhabited Id := ⟨⟨⟨#[]⟩, 0⟩⟩
theorem list_eq_nth {α : Type} [Inhabited α] {l l' : List α} (hl : l.length = l'.length) (h : ∀ i, i < l.length → nth l i = nth l' i) : l = l' := by
 apply List.ext_getElem hl
 intro i h1 h2
 have := h i h1
 rw [nth_eq h1, nth_eq h2] at this; exact this
theorem k62 (a b : Edit) (ha : a.deps.length < 4611686018427387904) : ACalls Tryz.prog G0 56 [.agg (a.row.map .d), .agg (b.row.map .d)] [] fun t H => t = .bool (decide (a = b)) ∧ H = [] := by
 refine acallsX (X := []) trivial tab hmix Tryz.func56 c62 (by rfl) fun hw => ?_
 by_cases hlen : a.deps.length = b.deps.length
 ·have hlen' : (a.deps.length : Int) = b.deps.length := by omega
  simp (implicitDefEqProofs := false) (disch := omega) [gz, ir62, b62, b62_0, b62_1, b62_2, wrap64, Edit.row, hlen]
  refine loopE (fun k s => ∃ i, i ≤ b.deps.length ∧ k = b.deps.length - i ∧ (∀ c, c < i → nth a.deps c = nth b.deps c) ∧
    s = ⟨ofL [(2, .v (.c (.ptr 0 0))), (3, .v (.c (.ptr 1 0))), (15, .int .i64 b.deps.length), (16, .int .i64 i)], [.cells (a.row.map .d), .cells (b.row.map .d)]⟩)
   (fun s => a.deps = b.deps ∧ AtS [(2, .v (.c (.ptr 0 0))), (3, .v (.c (.ptr 1 0)))] [.cells (a.row.map .d), .cells (b.row.map .d)] s) ?_ ?_ ?_
  ·refine wk_keep [2, 3, 15, 16] ⟨_, 0, by omega, rfl, fun c h => by omega, ?_⟩
   simp [Edit.row]
  ·rintro J L hJ hL k s ⟨i, hi, rfl, hall, rfl⟩
   by_cases hlt : i < b.deps.length
   ·have hlt' : i < a.deps.length := by omega
    obtain ⟨x, hx⟩ : ∃ x, nth a.deps i = x := ⟨_, rfl⟩
    obtain ⟨y, hy⟩ : ∃ y, nth b.deps i = y := ⟨_, rfl⟩
    by_cases hxy : x = y
    ·subst hxy
     simp (implicitDefEqProofs := false) (disch := omega) [gz, hlt, hlt', wrap64, nth_map, hx, hy, Edit.row, Id.row, cellsEq, skEq]
     repeat' apply And.intro
     all_goals first | omega | kernel_rfl | skip
     subst hJ
     refine wk_keep [2, 3, 15, 16] ⟨b.deps.length - (i + 1), by omega, i + 1, by omega, rfl, fun c hc => ?_, ?_⟩
     ·by_cases hci : c = i
      ·subst hci; rw [hx, hy]
      ·exact hall c (by omega)
     ·simp [Edit.row]
    ·have hne : ¬ (a = b) := fun h => hxy (by rw [← hx, ← hy, h])
     have h1 : (decide (x.a = y.a) && decide (x.n = y.n)) = false := by
      rw [Id.eq_iff] at hxy; simp; intro h; exact fun q => hxy ⟨h, q⟩
     simp (implicitDefEqProofs := false) (disch := omega) [gz, hlt, hlt', wrap64, nth_map, hx, hy, Edit.row, Id.row, cellsEq, skEq]
     refine ⟨by kernel_rfl, ?_, fun q1 q2 => absurd ((Id.eq_iff x y).2 ⟨q1, q2⟩) hxy⟩
     intro _
     exact fin_nil ⟨by simp [hne], rfl⟩
   ·simp (implicitDefEqProofs := false) (disch := omega) [gz, hlt]
    subst hL
    exact ⟨list_eq_nth hlen fun c hc => hall c (by omega), at_mk (by simp) (by simp)⟩
  ·rintro _ ⟨hd, sl, rfl⟩
   by_cases h : a = b
   ·subst h
    simp (implicitDefEqProofs := false) (disch := omega) [gz, wrap64, Edit.row, b62_3, b62_4, cellsEq, skEq, binSF]
    exact fin_nil ⟨rfl, rfl⟩
   ·simp (implicitDefEqProofs := false) (disch := omega) [gz, wrap64, Edit.row, b62_3, b62_4, cellsEq, skEq, binSF]
    repeat' first | apply And.intro | intro _
    all_goals first
     | (refine fin_nil ⟨?_, rfl⟩; simp [h]; done)
     | (refine fin_nil ⟨?_, rfl⟩; simp [h]; intro q; exact h ((Edit.eq_iff _ _).2 (by simp [Id.eq_iff, *])))
 ·have hlen' : ¬ (a.deps.length : Int) = b.deps.length := by omega
  simp (implicitDefEqProofs := false) (disch := omega) [gz, ir62, b62, b62_0, b62_1, wrap64, Edit.row, hlen, hlen']
  exact fin_nil ⟨by simp; intro h; exact hlen (by rw [h]), rfl⟩

noncomputable def x62 : XE := mkX true (fun (p : Edit × Edit) => [.agg p.1.row, .agg p.2.row]) (fun p => p.1.deps.length < 4611686018427387904) (fun p => .bool (decide (p.1 = p.2)))
theorem kx62 : Contract Tryz.prog G0 56 x62 := mkX_scal (fun _ => rfl) fun p h => k62 p.1 p.2 h
theorem xg62 (a b : Edit) (h : a.deps.length < 4611686018427387904) : x62.g [.agg a.row, .agg b.row] = some (True, .bool (decide (a = b))) := mkX_g inj2 (a, b) h
theorem k37 (a b : Edit) (ha : a.deps.length < 4611686018427387904) : ACalls Tryz.prog G0 33 [.agg (a.row.map .d), .agg (b.row.map .d)] [] fun t H => t = .bool (decide (a = b)) ∧ H = [] := by
 refine acallsX (X := [(56, x62)]) ⟨kx62, trivial⟩ tab hmix Tryz.func33 c37 (by rfl) fun hw => ?_
 have hsc : x62.sc = true := rfl
 have hx := xg62 a b ha
 simp (implicitDefEqProofs := false) (disch := omega) [gz, ir37, b37, nth_map, (erow _).len, take_of_len, (erow _).mapO, (erow _).tk, (erow _).nrm, borRow, (erow _).cl, borV_map, osR_map, frz_map, nth_set_ne, (erow _).spl (erow _), hsc, hx]
 exact fin_nil ⟨rfl, rfl⟩
noncomputable def x37 : XE := mkX true (fun (p : Edit × Edit) => [.agg p.1.row, .agg p.2.row]) (fun p => p.1.deps.length < 4611686018427387904) (fun p => .bool (decide (p.1 = p.2)))
theorem kx37 : Contract Tryz.prog G0 33 x37 := mkX_scal (fun _ => rfl) fun p h => k37 p.1 p.2 h
theorem xg37 (a b : Edit) (h : a.deps.length < 4611686018427387904) : x37.g [.agg a.row, .agg b.row] = some (True, .bool (decide (a = b))) := mkX_g inj2 (a, b) h
theorem nth_mem {α : Type} [Inhabited α] {l : List α} {i : Nat} (h : i < l.length) : nth l i ∈ l := by rw [nth_eq h]; exact List.getElem_mem h
end Go.Aw.Try

namespace Go.Aw
open Go Go.Proofs Go.Sort
def srow (s : ByteArray) : List D := [.v (.string s)]
section
variable {P : Program} {G : Gl}
end
end Go.Aw

namespace Go.Aw
open Go
/-- Strictly ascending. -/
def AscS (l : List ByteArray) : Prop := l.Pairwise fun a b => cmpS a b < 0
end Go.Aw

namespace Go.Aw
open Go
section
variable {P : Program} {G : Gl} {N0 : Nat}
theorem nil_row_le {ρ : Nat → Option Nat} {H : List O} {w : World} {sz : Nat} (hsz : 0 < sz) (hH : HRel P ρ H w) : HRel P ρ (H ++ [.row sz []]) w ∧ (ctx ρ H w).le (ctx ρ (H ++ [.row sz []]) w) := by
 have hρ : ρ H.length = none := by
  cases h : ρ H.length with
  | none => rfl
  | some b => have := (hH.small _ _ h).1; omega
 have hst : ∀ b, stab ρ H w b ↔ stab ρ (H ++ [.row sz []]) w b := fun b => by
  constructor
  ·rintro ⟨h1, h2⟩
   refine ⟨h1, fun r o hr hl => ?_⟩
   rw [List.getElem?_append] at hr
   split at hr
   ·exact h2 r o hr hl
   ·have : r = H.length := by
     have := (List.getElem?_eq_some_iff.1 hr).1; simp at this; omega
    subst this; rw [hρ]; simp
  ·rintro ⟨h1, h2⟩
   refine ⟨h1, fun r o hr hl => h2 r o ?_ hl⟩
   rw [List.getElem?_append, if_pos (List.getElem?_eq_some_iff.1 hr).1]; exact hr
 have hle : (ctx ρ H w).le (ctx ρ (H ++ [.row sz []]) w) := ⟨fun _ _ h => h, by simp [ctx], ⟨fun b hb => (hst b).1 hb, fun _ _ => rfl, Nat.le_refl _, fun _ _ _ h => h, rfl, rfl, rfl⟩⟩
 refine ⟨⟨?_, ?_, ?_⟩, hle⟩
 ·intro r o hr
  rw [List.getElem?_append] at hr
  split at hr
  ·exact (hH.objs r o hr).mono hle fun _ a ha => rfl
  ·have : r = H.length := by
    have := (List.getElem?_eq_some_iff.1 hr).1; simp at this; omega
   subst this
   simp at hr; subst hr
   exact ⟨hsz, .inl ⟨hρ, rfl⟩⟩
 ·intro r r' o o' b hr hr' hl hl' h1 h2
  have lt : ∀ r b, ρ r = some b → r < H.length := fun r b h => (hH.small r b h).1
  rw [List.getElem?_append, if_pos (lt _ _ h1)] at hr
  rw [List.getElem?_append, if_pos (lt _ _ h2)] at hr'
  exact hH.inj r r' o o' b hr hr' hl hl' h1 h2
 ·intro r b h
  have := hH.small r b h
  exact ⟨by simp; omega, this.2⟩
theorem wk_nil_os {sl : Nat → T} {H : List O} {K : St → Prop} (t sz : Nat) (hsz : 0 < sz) (ht : sl t = .v (.c (.d (.v (.slice none 0 0))))) (h : wk P G N0 ⟨putS sl t (.v (.c (.os H.length sz 0 0))), H ++ [.row sz []]⟩ K) : wk P G N0 ⟨sl, H⟩ K := by
 refine wk_weak ?_ h
 intro n b ρ a w hb1 hb2 hs
 obtain ⟨g1, g2⟩ := nil_row_le hsz hs.heap
 refine ⟨ρ, g1, hs.size, hs.defers, fun i => ?_, hs.glob.mono g2.step, hs.le.trans g2⟩
 show TRel P _ (putS sl t _ i) _
 unfold putS
 split
 ·rename_i e
  subst e
  have := hs.slots i
  show TRel P _ _ _
  have h2 : TRel P (ctx ρ H w) (.v (.c (.d (.v (.slice none 0 0))))) (a.tmps.getD i undef) := by
   have h3 : TRel P (ctx ρ H w) (sl i) (a.tmps.getD i undef) := this
   rw [ht] at h3; exact h3
  rw [trel_val h2]
  exact ⟨by simp [ctx], .inl ⟨rfl, none, rfl⟩⟩
 ·exact (hs.slots i).mono g2
end
end Go.Aw

namespace Go.Aw.Try
open Go Go.Proofs Go.Aw
set_option maxRecDepth 100000
set_option maxHeartbeats 4000000
/-! ### strings in lists -/
theorem srow_inj {l l' : List ByteArray} (h : l.map srow = l'.map srow) : l = l' := map_inj (fun a b h => by simpa [srow] using h) h
theorem idxF_any {E : Type} (pr : E → Bool) (l : List E) (k : Nat) : (0 ≤ idxF pr k l) ↔ l.any pr = true := by
 induction l generalizing k with
 | nil => simp [idxF]
 | cons x l ih =>
  simp only [idxF, List.any_cons]
  by_cases h : pr x = true
  ·simp [h]
  ·have h' : pr x = false := by simpa using h
   simp [h', ih]
/-- slices.IndexFunc at ByteArray. -/
theorem k609 (pr : ByteArray → Bool) (g : Nat) (cps : List (List D)) (xg : XE) (hx : Contract Tryz.prog G0 g xg) (hsc : xg.sc = true)
  (hxg : ∀ e, xg.g (.c (.v (.string e)) :: cps.map fun cs => .c (.ip cs)) = some (True, .bool (pr e))) (es : List (ByteArray)) (hl : es.length < 4611686018427387904) :
  ACalls Tryz.prog G0 109 [.c (.d (.sl (es.map srow))), .c (.d (.fn g (cps.map .ip)))] [] fun t H => t = .int .i64 (idxF pr 0 es) ∧ H = [] := by
 refine acallsX (X := [(g, xg)]) ⟨hx, trivial⟩ tab hmix Tryz.func109 c609 (by rfl) fun hw => ?_
 simp (implicitDefEqProofs := false) (disch := omega) [gz, ir609, b609, wrap64]
 refine loopG (fun k s => ∃ i, i ≤ es.length ∧ k = es.length - i ∧ idxF pr 0 es = idxF pr i (es.drop i) ∧
  s = ⟨ofL [(0, .v (.c (.d (.sl (es.map srow))))), (1, .v (.c (.d (.fn g (cps.map .ip))))), (7, .int .i64 es.length), (8, .int .i64 i)], []⟩) ?_ ?_
 ·refine wk_keep [0, 1, 7, 8] ⟨_, 0, by omega, rfl, rfl, ?_⟩
  simp
 ·rintro J hJ k s ⟨i, hi, rfl, hid, rfl⟩
  by_cases hlt : i < es.length
  ·have hst := idxF_step pr hlt
   obtain ⟨e, he⟩ : ∃ e, nth es i = e := ⟨_, rfl⟩
   have hee : srow e = [.v (.string e)] := rfl
   have hxg := hxg e
   skip
   rw [he] at hst
   simp (implicitDefEqProofs := false) (disch := omega) [gz, hlt, wrap64, nth_map, he, hee, mapO_ipc, hsc, hxg]
   refine ⟨fun h => ?_, fun h => ?_⟩
   ·rw [if_pos h] at hst
    exact fin_nil ⟨by rw [hid, hst]; rfl, rfl⟩
   ·rw [if_neg (by simp [h])] at hst
    subst hJ
    refine wk_keep [0, 1, 7, 8] ⟨es.length - (i + 1), by omega, i + 1, by omega, rfl, by rw [hid, hst], ?_⟩
    simp
  ·simp (implicitDefEqProofs := false) (disch := omega) [gz, hlt]
   rw [hid, List.drop_eq_nil_of_le (by omega)]
   exact fin_nil ⟨rfl, rfl⟩
def x609 (pr : ByteArray → Bool) (g : Nat) (cps : List (List D)) (es : List (ByteArray)) : XE := ⟨true, fun ps => some (ps = [.c (.sl (es.map srow)), .c (.fn g (cps.map .ip))], .int .i64 (idxF pr 0 es))⟩
theorem kx609 (pr : ByteArray → Bool) (g : Nat) (cps : List (List D)) (xg : XE) (hx : Contract Tryz.prog G0 g xg) (hsc : xg.sc = true)
  (hxg : ∀ e, xg.g (.c (.v (.string e)) :: cps.map fun cs => .c (.ip cs)) = some (True, .bool (pr e))) (es : List (ByteArray)) (hl : es.length < 4611686018427387904) : Contract Tryz.prog G0 109 (x609 pr g cps es) := contract_sc fun ps ob t h ho => by
 injection h with h; injection h with h1 h2; subst h2; subst h1
 subst ho
 exact ⟨rfl, k609 pr g cps xg hx hsc hxg es hl⟩
/-- slices.ContainsFunc at ByteArray. -/
theorem k564 (pr : ByteArray → Bool) (g : Nat) (cps : List (List D)) (xg : XE) (hx : Contract Tryz.prog G0 g xg) (hsc : xg.sc = true)
  (hxg : ∀ e, xg.g (.c (.v (.string e)) :: cps.map fun cs => .c (.ip cs)) = some (True, .bool (pr e))) (es : List (ByteArray)) (hl : es.length < 4611686018427387904) :
  ACalls Tryz.prog G0 64 [.c (.d (.sl (es.map srow))), .c (.d (.fn g (cps.map .ip)))] [] fun t H => t = .bool (es.any pr) ∧ H = [] := by
 have h1 : (x609 pr g cps es).sc = true := rfl
 refine acallsX (X := [(109, x609 pr g cps es)]) ⟨kx609 pr g cps xg hx hsc hxg es hl, trivial⟩ tab hmix Tryz.func64 c564 (by rfl) fun hw => ?_
 have ha := idxF_any pr es 0
 by_cases h : 0 ≤ idxF pr 0 es
 ·rw [ha.1 h]
  simp (implicitDefEqProofs := false) (disch := omega) [gz, ir564, b564, h1, x609, h]
  exact fin_nil ⟨rfl, rfl⟩
 ·have : es.any pr = false := by
   cases hb : es.any pr
   ·rfl
   ·exact absurd (ha.2 hb) h
  rw [this]
  simp (implicitDefEqProofs := false) (disch := omega) [gz, ir564, b564, h1, x609, h]
  exact fin_nil ⟨rfl, rfl⟩
def x564 (pr : ByteArray → Bool) (g : Nat) (cps : List (List D)) (es : List (ByteArray)) : XE := ⟨true, fun ps => some (ps = [.c (.sl (es.map srow)), .c (.fn g (cps.map .ip))], .bool (es.any pr))⟩
theorem kx564 (pr : ByteArray → Bool) (g : Nat) (cps : List (List D)) (xg : XE) (hx : Contract Tryz.prog G0 g xg) (hsc : xg.sc = true)
  (hxg : ∀ e, xg.g (.c (.v (.string e)) :: cps.map fun cs => .c (.ip cs)) = some (True, .bool (pr e))) (es : List (ByteArray)) (hl : es.length < 4611686018427387904) : Contract Tryz.prog G0 64 (x564 pr g cps es) := contract_sc fun ps ob t h ho => by
 injection h with h; injection h with h1 h2; subst h2; subst h1
 subst ho
 exact ⟨rfl, k564 pr g cps xg hx hsc hxg es hl⟩
/-- slices.Index at strings. -/
theorem k618 (l : List ByteArray) (x : ByteArray) (hl : l.length < 4611686018427387904) :
  ACalls Tryz.prog G0 118 [.c (.d (.sl (l.map srow))), Sx x] [] fun t H => t = .int .i64 (idxF (fun y => decide (x = y)) 0 l) ∧ H = [] := by
 refine acallsX (X := []) trivial tab hmix Tryz.func118 c618 (by rfl) fun hw => ?_
 simp (implicitDefEqProofs := false) (disch := omega) [gz, ir618, b618, wrap64]
 refine loopG (fun k s => ∃ i, i ≤ l.length ∧ k = l.length - i ∧ idxF (fun y => decide (x = y)) 0 l = idxF (fun y => decide (x = y)) i (l.drop i) ∧
  s = ⟨ofL [(0, .v (.c (.d (.sl (l.map srow))))), (1, .str x), (7, .int .i64 l.length), (8, .int .i64 i)], []⟩) ?_ ?_
 ·refine wk_keep [0, 1, 7, 8] ⟨_, 0, by omega, rfl, rfl, ?_⟩
  simp
 ·rintro J hJ k s ⟨i, hi, rfl, hid, rfl⟩
  by_cases hlt : i < l.length
  ·have hst := idxF_step (fun y => decide (x = y)) hlt
   obtain ⟨e, he⟩ : ∃ e, nth l i = e := ⟨_, rfl⟩
   have hee : srow e = [.v (.string e)] := rfl
   rw [he] at hst
   by_cases q : x = e
   ·rw [if_pos (decide_eq_true q)] at hst
    simp (implicitDefEqProofs := false) (disch := omega) [gz, hlt, wrap64, nth_map, he, hee, binSF, q]
    exact fin_nil ⟨by rw [← q, hid, hst]; rfl, rfl⟩
   ·rw [if_neg (by simp [q])] at hst
    simp (implicitDefEqProofs := false) (disch := omega) [gz, hlt, wrap64, nth_map, he, hee, binSF, q]
    subst hJ
    refine wk_keep [0, 1, 7, 8] ⟨l.length - (i + 1), by omega, i + 1, by omega, rfl, by rw [hid, hst], ?_⟩
    simp
  ·simp (implicitDefEqProofs := false) (disch := omega) [gz, hlt]
   rw [hid, List.drop_eq_nil_of_le (by omega)]
   exact fin_nil ⟨rfl, rfl⟩
theorem injSS (a b : List ByteArray × ByteArray) (h : [PVo.c (D.sl (a.1.map srow)), PVo.c (.v (.string a.2))] = [PVo.c (.sl (b.1.map srow)), .c (.v (.string b.2))]) : a = b := by
 simp only [List.cons.injEq, PVo.c.injEq, D.sl.injEq, D.v.injEq, Value.string.injEq] at h
 exact Prod.ext (srow_inj h.1) h.2.1
noncomputable def x618 : XE := mkX true (fun (p : List ByteArray × ByteArray) => [.c (.sl (p.1.map srow)), .c (.v (.string p.2))]) (fun p => p.1.length < 4611686018427387904) (fun p => .int .i64 (idxF (fun y => decide (p.2 = y)) 0 p.1))
theorem kx618 : Contract Tryz.prog G0 118 x618 := mkX_scal (fun _ => rfl) fun p h => k618 p.1 p.2 h
theorem xg618 (l : List ByteArray) (x : ByteArray) (h : l.length < 4611686018427387904) : x618.g [.c (.sl (l.map srow)), .c (.v (.string x))] = some (True, .int .i64 (idxF (fun y => decide (x = y)) 0 l)) := mkX_g injSS (l, x) h
/-- Is the string in the list? -/
def hasS (l : List ByteArray) (x : ByteArray) : Bool := l.any fun y => decide (x = y)
theorem hasS_iff (l : List ByteArray) (x : ByteArray) : hasS l x = true ↔ x ∈ l := by
 unfold hasS
 rw [List.any_eq_true]
 constructor
 ·rintro ⟨y, hy, e⟩; rw [of_decide_eq_true e]; exact hy
 ·intro h; exact ⟨x, h, by simp⟩
theorem k577 (l : List ByteArray) (x : ByteArray) (hl : l.length < 4611686018427387904) :
  ACalls Tryz.prog G0 77 [.c (.d (.sl (l.map srow))), Sx x] [] fun t H => t = .bool (hasS l x) ∧ H = [] := by
 have h1 : x618.sc = true := rfl
 have g1 := xg618 l x hl
 refine acallsX (X := [(118, x618)]) ⟨kx618, trivial⟩ tab hmix Tryz.func77 c577 (by rfl) fun hw => ?_
 have ha := idxF_any (fun y => decide (x = y)) l 0
 by_cases h : 0 ≤ idxF (fun y => decide (x = y)) 0 l
 ·have hm : hasS l x = true := ha.1 h
  rw [hm]
  simp (implicitDefEqProofs := false) (disch := omega) [gz, ir577, b577, h1, g1, h]
  exact fin_nil ⟨rfl, rfl⟩
 ·have hm : hasS l x = false := by
   cases hb : hasS l x
   ·rfl
   ·exact absurd (ha.2 hb) h
  rw [hm]
  simp (implicitDefEqProofs := false) (disch := omega) [gz, ir577, b577, h1, g1, h]
  exact fin_nil ⟨rfl, rfl⟩
noncomputable def x577 : XE := mkX true (fun (p : List ByteArray × ByteArray) => [.c (.sl (p.1.map srow)), .c (.v (.string p.2))]) (fun p => p.1.length < 4611686018427387904) (fun p => .bool (hasS p.1 p.2))
theorem kx577 : Contract Tryz.prog G0 77 x577 := mkX_scal (fun _ => rfl) fun p h => k577 p.1 p.2 h
theorem xg577 (l : List ByteArray) (x : ByteArray) (h : l.length < 4611686018427387904) : x577.g [.c (.sl (l.map srow)), .c (.v (.string x))] = some (True, .bool (hasS l x)) := mkX_g injSS (l, x) h
/-- slices.Equal at strings. -/
theorem k569 (a b : List ByteArray) (hb : b.length < 4611686018427387904) :
  ACalls Tryz.prog G0 69 [.c (.d (.sl (a.map srow))), .c (.d (.sl (b.map srow)))] [] fun t H => t = .bool (decide (a = b)) ∧ H = [] := by
 refine acallsX (X := []) trivial tab hmix Tryz.func69 c569 (by rfl) fun hw => ?_
 by_cases hln : a.length = b.length
 ·simp (implicitDefEqProofs := false) (disch := omega) [gz, ir569, b569, hln, wrap64]
  refine loopE (fun k s => ∃ i, i ≤ b.length ∧ k = b.length - i ∧ (a.take i = b.take i) ∧
    s = ⟨ofL [(0, .v (.c (.d (.sl (a.map srow))))), (1, .v (.c (.d (.sl (b.map srow))))), (12, .int .i64 b.length), (13, .int .i64 i)], []⟩)
   (fun s => a = b ∧ AtS [] [] s) ?_ ?_ ?_
  ·refine wk_keep [0, 1, 12, 13] ⟨_, 0, by omega, rfl, by simp, ?_⟩
   simp
  ·rintro J L hJ hL k s ⟨i, hi, rfl, hq, rfl⟩
   by_cases hlt : i < b.length
   ·have hlt' : i < a.length := by omega
    obtain ⟨x, hx⟩ : ∃ e, nth a i = e := ⟨_, rfl⟩
    obtain ⟨y, hy⟩ : ∃ e, nth b i = e := ⟨_, rfl⟩
    have hxe : srow x = [.v (.string x)] := rfl
    have hye : srow y = [.v (.string y)] := rfl
    by_cases q : x = y
    ·have hn : a.take (i + 1) = b.take (i + 1) := by rw [take_nth hlt', take_nth hlt, hx, hy, hq, q]
     simp (implicitDefEqProofs := false) (disch := omega) [gz, hlt, hlt', wrap64, nth_map, hx, hy, hxe, hye, binSF, q]
     repeat' (with_reducible apply And.intro)
     all_goals first | omega | kernel_rfl | skip
     subst hJ
     refine wk_keep [0, 1, 12, 13] ⟨b.length - (i + 1), by omega, i + 1, by omega, rfl, hn, ?_⟩
     simp
    ·have hne : a ≠ b := fun e => q (by rw [← hx, ← hy, e])
     simp (implicitDefEqProofs := false) (disch := omega) [gz, hlt, hlt', wrap64, nth_map, hx, hy, hxe, hye, binSF, q]
     repeat' (with_reducible apply And.intro)
     all_goals first | omega | kernel_rfl | skip
     exact fin_nil ⟨by simp [hne], rfl⟩
   ·have : i = b.length := by omega
    subst this
    simp (implicitDefEqProofs := false) (disch := omega) [gz, hlt]
    subst hL
    rw [List.take_length, ← hln, List.take_length] at hq
    exact ⟨hq, at_mk (by simp) rfl⟩
  ·rintro _ ⟨hq, sl, rfl⟩
   simp (implicitDefEqProofs := false) (disch := omega) [gz, wrap64]
   exact fin_nil ⟨by simp [hq], rfl⟩
 ·have hne : a ≠ b := fun e => hln (by rw [e])
  have hln' : ¬ (a.length : Int) = b.length := by omega
  simp (implicitDefEqProofs := false) (disch := omega) [gz, ir569, b569, hln', hln, wrap64]
  exact fin_nil ⟨by simp [hne], rfl⟩
theorem injSL (a b : List ByteArray × List ByteArray) (h : [PVo.c (D.sl (a.1.map srow)), PVo.c (.sl (a.2.map srow))] = [PVo.c (.sl (b.1.map srow)), .c (.sl (b.2.map srow))]) : a = b := by
 simp only [List.cons.injEq, PVo.c.injEq, D.sl.injEq] at h
 exact Prod.ext (srow_inj h.1) (srow_inj h.2.1)
noncomputable def x569 : XE := mkX true (fun (p : List ByteArray × List ByteArray) => [.c (.sl (p.1.map srow)), .c (.sl (p.2.map srow))]) (fun p => p.2.length < 4611686018427387904) (fun p => .bool (decide (p.1 = p.2)))
theorem kx569 : Contract Tryz.prog G0 69 x569 := mkX_scal (fun _ => rfl) fun p h => k569 p.1 p.2 h
theorem xg569 (a b : List ByteArray) (hb : b.length < 4611686018427387904) : x569.g [.c (.sl (a.map srow)), .c (.sl (b.map srow))] = some (True, .bool (decide (a = b))) := mkX_g injSL (a, b) hb
/-- part: is the one list within the other? -/
def partS (a b : List ByteArray) : Bool := a.all fun s => hasS b s
noncomputable def x604 (b : List ByteArray) : XE := mkX true (fun (s : ByteArray) => [.c (.v (.string s)), .c (.ip [.sl (b.map srow)])]) (fun _ => b.length < 4611686018427387904) (fun s => .bool (!hasS b s))
theorem k604 (s : ByteArray) (b : List ByteArray) (hb : b.length < 4611686018427387904) : ACalls Tryz.prog G0 104 [Sx s, .c (.d (.ip [.sl (b.map srow)]))] [] fun t H => t = .bool (!hasS b s) ∧ H = [] := by
 have h1 : x577.sc = true := rfl
 have g1 := xg577 b s hb
 refine acallsX (X := [(77, x577)]) ⟨kx577, trivial⟩ tab hmix Tryz.func104 c604 (by rfl) fun hw => ?_
 simp (implicitDefEqProofs := false) (disch := omega) [gz, ir604, b604, h1, g1]
 exact fin_nil ⟨rfl, rfl⟩
theorem kx604 (b : List ByteArray) : Contract Tryz.prog G0 104 (x604 b) := mkX_scal (fun _ => rfl) fun s h => k604 s b h
theorem xg604 (b : List ByteArray) (hb : b.length < 4611686018427387904) (s : ByteArray) : (x604 b).g (.c (.v (.string s)) :: [[D.sl (b.map srow)]].map fun cs => .c (.ip cs)) = some (True, .bool (!hasS b s)) := mkX_g (fun a b h => by simp at h; exact h) s hb
theorem k559 (a b : List ByteArray) (ha : a.length < 4611686018427387904) (hb : b.length < 4611686018427387904) :
  ACalls Tryz.prog G0 59 [.c (.d (.sl (a.map srow))), .c (.d (.sl (b.map srow)))] [] fun t H => t = .bool (partS a b) ∧ H = [] := by
 have h1 : (x564 (fun s => !hasS b s) 104 [[D.sl (b.map srow)]] a).sc = true := rfl
 refine acallsX (X := [(64, x564 (fun s => !hasS b s) 104 [[D.sl (b.map srow)]] a)]) ⟨kx564 _ 104 _ (x604 b) (kx604 b) rfl (xg604 b hb) a ha, trivial⟩ tab hmix Tryz.func59 c559 (by rfl) fun hw => ?_
 have hp : partS a b = !(a.any fun s => !hasS b s) := by unfold partS; rw [List.not_any_eq_all_not]; simp
 rw [hp]
 obtain ⟨q, hq⟩ : ∃ q, q = a.any fun s => !hasS b s := ⟨_, rfl⟩
 rw [← hq]
 simp (implicitDefEqProofs := false) (disch := omega) [gz, ir559, b559, h1, x564, ← hq]
 exact fin_nil ⟨rfl, rfl⟩
noncomputable def x559 : XE := mkX true (fun (p : List ByteArray × List ByteArray) => [.c (.sl (p.1.map srow)), .c (.sl (p.2.map srow))]) (fun p => p.1.length < 4611686018427387904 ∧ p.2.length < 4611686018427387904) (fun p => .bool (partS p.1 p.2))
theorem kx559 : Contract Tryz.prog G0 59 x559 := mkX_scal (fun _ => rfl) fun p h => k559 p.1 p.2 h.1 h.2
theorem xg559 (a b : List ByteArray) (ha : a.length < 4611686018427387904) (hb : b.length < 4611686018427387904) : x559.g [.c (.sl (a.map srow)), .c (.sl (b.map srow))] = some (True, .bool (partS a b)) := mkX_g injSL (a, b) ⟨ha, hb⟩
end Go.Aw.Try

namespace Go.Aw.Try
open Go Go.Proofs Go.Aw
set_option maxRecDepth 100000
set_option maxHeartbeats 4000000
/-! ### version vectors -/
/-- slices.IndexFunc at Id. -/
theorem k619 (pr : Id → Bool) (g : Nat) (cps : List (List D)) (xg : XE) (hx : Contract Tryz.prog G0 g xg) (hsc : xg.sc = true)
  (hxg : ∀ e, xg.g (.agg (Id.row e) :: cps.map fun cs => .c (.ip cs)) = some (True, .bool (pr e))) (es : List (Id)) (hl : es.length < 4611686018427387904) :
  ACalls Tryz.prog G0 119 [.c (.d (.sl (es.map Id.row))), .c (.d (.fn g (cps.map .ip)))] [] fun t H => t = .int .i64 (idxF pr 0 es) ∧ H = [] := by
 refine acallsX (X := [(g, xg)]) ⟨hx, trivial⟩ tab hmix Tryz.func119 c619 (by rfl) fun hw => ?_
 simp (implicitDefEqProofs := false) (disch := omega) [gz, ir619, b619, wrap64]
 refine loopG (fun k s => ∃ i, i ≤ es.length ∧ k = es.length - i ∧ idxF pr 0 es = idxF pr i (es.drop i) ∧
  s = ⟨ofL [(0, .v (.c (.d (.sl (es.map Id.row))))), (1, .v (.c (.d (.fn g (cps.map .ip))))), (7, .int .i64 es.length), (8, .int .i64 i)], []⟩) ?_ ?_
 ·refine wk_keep [0, 1, 7, 8] ⟨_, 0, by omega, rfl, rfl, ?_⟩
  simp
 ·rintro J hJ k s ⟨i, hi, rfl, hid, rfl⟩
  by_cases hlt : i < es.length
  ·have hst := idxF_step pr hlt
   obtain ⟨e, he⟩ : ∃ e, nth es i = e := ⟨_, rfl⟩
   have hee : Id.row e = [.v (.string e.a), .v (.int .i64 e.n)] := rfl
   have hxg := hxg e
   rw [hee] at hxg
   rw [he] at hst
   simp (implicitDefEqProofs := false) (disch := omega) [gz, hlt, wrap64, nth_map, he, hee, mapO_ipc, hsc, hxg]
   refine ⟨fun h => ?_, fun h => ?_⟩
   ·rw [if_pos h] at hst
    exact fin_nil ⟨by rw [hid, hst]; rfl, rfl⟩
   ·rw [if_neg (by simp [h])] at hst
    subst hJ
    refine wk_keep [0, 1, 7, 8] ⟨es.length - (i + 1), by omega, i + 1, by omega, rfl, by rw [hid, hst], ?_⟩
    simp
  ·simp (implicitDefEqProofs := false) (disch := omega) [gz, hlt]
   rw [hid, List.drop_eq_nil_of_le (by omega)]
   exact fin_nil ⟨rfl, rfl⟩
def x619 (pr : Id → Bool) (g : Nat) (cps : List (List D)) (es : List (Id)) : XE := ⟨true, fun ps => some (ps = [.c (.sl (es.map Id.row)), .c (.fn g (cps.map .ip))], .int .i64 (idxF pr 0 es))⟩
theorem kx619 (pr : Id → Bool) (g : Nat) (cps : List (List D)) (xg : XE) (hx : Contract Tryz.prog G0 g xg) (hsc : xg.sc = true)
  (hxg : ∀ e, xg.g (.agg (Id.row e) :: cps.map fun cs => .c (.ip cs)) = some (True, .bool (pr e))) (es : List (Id)) (hl : es.length < 4611686018427387904) : Contract Tryz.prog G0 119 (x619 pr g cps es) := contract_sc fun ps ob t h ho => by
 injection h with h; injection h with h1 h2; subst h2; subst h1
 subst ho
 exact ⟨rfl, k619 pr g cps xg hx hsc hxg es hl⟩

def prA (a : ByteArray) (x : Id) : Bool := decide (x.a = a)
noncomputable def x620 (a : ByteArray) : XE := mkX true (fun (x : Id) => [.agg x.row, .c (.ip [.v (.string a)])]) (fun _ => True) (fun x => .bool (prA a x))
theorem k620 (x : Id) (a : ByteArray) : ACalls Tryz.prog G0 120 [.agg (x.row.map .d), .c (.d (.ip [.v (.string a)]))] [] fun t H => t = .bool (prA a x) ∧ H = [] := by
 refine acallsX (X := []) trivial tab hmix Tryz.func120 c620 (by rfl) fun hw => ?_
 have hxe : x.row = [.v (.string x.a), .v (.int .i64 x.n)] := rfl
 unfold prA
 simp (implicitDefEqProofs := false) (disch := omega) [gz, ir620, b620, hxe, binSF]
 exact fin_nil ⟨rfl, rfl⟩
theorem kx620 (a : ByteArray) : Contract Tryz.prog G0 120 (x620 a) := mkX_scal (fun _ => rfl) fun x _ => k620 x a
theorem xg620 (a : ByteArray) (x : Id) : (x620 a).g (.agg (Id.row x) :: [[D.v (.string a)]].map fun cs => .c (.ip cs)) = some (True, .bool (prA a x)) := mkX_g (fun a b h => by simp at h; exact Id.row_inj h) x trivial
/-- The number of an author in a vector, 0 if it is not there. -/
def hasN (v : List Id) (a : ByteArray) : Int := match v.find? (prA a) with | some x => x.n | none => 0
theorem idxF_find {E : Type} [Inhabited E] (pr : E → Bool) : ∀ (l : List E) (k : Nat), (idxF pr k l < 0 ∧ l.find? pr = none) ∨ ∃ i : Nat, idxF pr k l = ((k + i : Nat) : Int) ∧ i < l.length ∧ l.find? pr = some (nth l i)
 | [], k => .inl ⟨by simp [idxF], rfl⟩
 | x :: r, k => by
  simp only [idxF, List.find?_cons]
  by_cases h : pr x = true
  ·rw [if_pos h, h]; exact .inr ⟨0, by simp, by simp, rfl⟩
  ·rw [if_neg h]
   have h' : pr x = false := by simpa using h
   rw [h']
   rcases idxF_find pr r (k + 1) with ⟨h1, h2⟩ | ⟨i, h1, h2, h3⟩
   ·exact .inl ⟨h1, h2⟩
   ·exact .inr ⟨i + 1, by rw [h1]; congr 1; omega, by simp; omega, by rw [h3]; rfl⟩
theorem k579 (v : List Id) (a : ByteArray) (hl : v.length < 4611686018427387904) : ACalls Tryz.prog G0 79 [.c (.d (.sl (v.map Id.row))), Sx a] [] fun t H => t = .int .i64 (hasN v a) ∧ H = [] := by
 have h1 : (x619 (prA a) 120 [[D.v (.string a)]] v).sc = true := rfl
 refine acallsX (X := [(119, x619 (prA a) 120 [[D.v (.string a)]] v)]) ⟨kx619 _ 120 _ (x620 a) (kx620 a) rfl (xg620 a) v hl, trivial⟩ tab hmix Tryz.func79 c579 (by rfl) fun hw => ?_
 rcases idxF_find (prA a) v 0 with ⟨q1, q2⟩ | ⟨i, q1, q2, q3⟩
 ·have hN : hasN v a = 0 := by unfold hasN; rw [q2]
  rw [hN]
  simp (implicitDefEqProofs := false) (disch := omega) [gz, ir579, b579, h1, x619, q1]
  exact fin_nil ⟨rfl, rfl⟩
 ·obtain ⟨x, hx⟩ : ∃ x, nth v i = x := ⟨_, rfl⟩
  have hxe : x.row = [.v (.string x.a), .v (.int .i64 x.n)] := rfl
  have hN : hasN v a = x.n := by unfold hasN; rw [q3, hx]
  rw [hN]
  rw [Nat.zero_add] at q1
  simp (implicitDefEqProofs := false) (disch := omega) [gz, ir579, b579, h1, x619, q1, q2, nth_map, hx, hxe]
  exact ⟨fun h => by omega, fin_nil ⟨rfl, rfl⟩⟩
theorem injVS (a b : List Id × ByteArray) (h : [PVo.c (D.sl (a.1.map Id.row)), PVo.c (.v (.string a.2))] = [PVo.c (.sl (b.1.map Id.row)), .c (.v (.string b.2))]) : a = b := by
 simp only [List.cons.injEq, PVo.c.injEq, D.sl.injEq, D.v.injEq, Value.string.injEq] at h
 exact Prod.ext (map_inj (fun _ _ => Id.row_inj) h.1) h.2.1
noncomputable def x579 : XE := mkX true (fun (p : List Id × ByteArray) => [.c (.sl (p.1.map Id.row)), .c (.v (.string p.2))]) (fun p => p.1.length < 4611686018427387904) (fun p => .int .i64 (hasN p.1 p.2))
theorem kx579 : Contract Tryz.prog G0 79 x579 := mkX_scal (fun _ => rfl) fun p h => k579 p.1 p.2 h
theorem xg579 (v : List Id) (a : ByteArray) (h : v.length < 4611686018427387904) : x579.g [.c (.sl (v.map Id.row)), .c (.v (.string a))] = some (True, .int .i64 (hasN v a)) := mkX_g injVS (v, a) h
/-! the comparison, the search -/
theorem k585 (x : Id) (a : ByteArray) : ACalls Tryz.prog G0 85 [.agg (x.row.map .d), Sx a] [] fun t H => t = .int .i64 (cmpS x.a a) ∧ H = [] := by
 have h1 : x49.sc = true := rfl
 refine acallsX (X := [(86, x49)]) ⟨kx49, trivial⟩ tab hmix Tryz.func85 c585 (by rfl) fun hw => ?_
 have hxe : x.row = [.v (.string x.a), .v (.int .i64 x.n)] := rfl
 simp (implicitDefEqProofs := false) (disch := omega) [gz, ir585, b585, hxe, h1, x49]
 exact fin_nil ⟨rfl, rfl⟩
noncomputable def x585 : XE := mkX true (fun (p : Id × ByteArray) => [.agg p.1.row, .c (.v (.string p.2))]) (fun _ => True) (fun p => .int .i64 (cmpS p.1.a p.2))
theorem kx585 : Contract Tryz.prog G0 85 x585 := mkX_scal (fun _ => rfl) fun p _ => k585 p.1 p.2
theorem xg585 (x : Id) (a : ByteArray) : x585.g [.agg x.row, .c (.v (.string a))] = some (True, .int .i64 (cmpS x.a a)) := mkX_g (fun a b h => by
 simp only [List.cons.injEq, PVo.agg.injEq, PVo.c.injEq, D.v.injEq, Value.string.injEq] at h
 exact Prod.ext (Id.row_inj h.1) h.2.1) (x, a) trivial
/-- Authors strictly ascending. -/
def AscI (v : List Id) : Prop := v.Pairwise fun x y => cmpS x.a y.a < 0
/-- Where an author is or would be. -/
def lowB (v : List Id) (a : ByteArray) : Nat := (v.takeWhile fun x => decide (cmpS x.a a < 0)).length
theorem lowB_le (v : List Id) (a : ByteArray) : lowB v a ≤ v.length := (List.takeWhile_sublist _).length_le
theorem lowB_spec {v : List Id} (h : AscI v) (a : ByteArray) {i : Nat} (hi : i ≤ v.length) (h1 : ∀ j, j < i → cmpS (nth v j).a a < 0) (h2 : i < v.length → ¬ cmpS (nth v i).a a < 0) : lowB v a = i := by
 unfold lowB
 induction v generalizing i with
 | nil => simp at hi; subst hi; rfl
 | cons x v ih =>
  cases i with
  | zero =>
   have : ¬ cmpS x.a a < 0 := h2 (by simp)
   simp [List.takeWhile_cons, this]
  | succ i =>
   have : cmpS x.a a < 0 := h1 0 (by omega)
   have := ih (List.pairwise_cons.1 h).2 (i := i) (by simpa using hi) (fun j hj => h1 (j + 1) (by omega)) (fun hl => h2 (by simpa using hl))
   simp [List.takeWhile_cons, *]
theorem asc_lt {v : List Id} (h : AscI v) {i j : Nat} (hij : i < j) (hj : j < v.length) : cmpS (nth v i).a (nth v j).a < 0 := by
 rw [nth_eq (by omega), nth_eq hj]
 exact List.pairwise_iff_getElem.1 h i j (by omega) hj hij
theorem asc_low {v : List Id} (h : AscI v) {a : ByteArray} {i j : Nat} (hij : i ≤ j) (hj : j < v.length) (hc : cmpS (nth v j).a a < 0) : cmpS (nth v i).a a < 0 := by
 by_cases e : i = j
 ·subst e; exact hc
 ·have h1 := asc_lt h (show i < j by omega) hj
  have h2 := cmpS_pre.tr (nth v i).a (nth v j).a a (by omega) (by omega)
  by_cases q : cmpS (nth v i).a a = 0
  ·have e1 := (cmpS_eq _ _).1 q
   rw [e1] at h1
   have := cmpS_sgn a (nth v j).a
   omega
  ·omega
theorem k584 (v : List Id) (a : ByteArray) (ha : AscI v) (hl : v.length < 4611686018427387904) :
  ACalls Tryz.prog G0 84 [.c (.d (.sl (v.map Id.row))), Sx a, .c (.d (.fn 85 []))] [] fun t H => t = .tup [I (lowB v a), .c (.d (.v (.bool (decide (lowB v a < v.length ∧ (nth v (lowB v a)).a = a)))))] ∧ H = [] := by
 have h1 : x585.sc = true := rfl
 refine acallsX (X := [(85, x585)]) ⟨kx585, trivial⟩ tab hmix Tryz.func84 c584 (by rfl) fun hw => ?_
 simp (implicitDefEqProofs := false) (disch := omega) [gz, ir584, b584, wrap64]
 refine loopE (fun k s => ∃ i j : Nat, i ≤ j ∧ j ≤ v.length ∧ k = j - i ∧ (∀ c, c < i → cmpS (nth v c).a a < 0) ∧ (j < v.length → ¬ cmpS (nth v j).a a < 0) ∧
   s = ⟨ofL [(0, .v (.c (.d (.sl (v.map Id.row))))), (1, .str a), (2, .v (.c (.d (.fn 85 [])))), (8, .int .i64 v.length), (9, .int .i64 i), (10, .int .i64 j)], []⟩)
  (fun s => AtS [(0, .v (.c (.d (.sl (v.map Id.row))))), (1, .str a), (2, .v (.c (.d (.fn 85 [])))), (8, .int .i64 v.length), (9, .int .i64 (lowB v a))] [] s) ?_ ?_ ?_
 ·refine wk_keep [0, 1, 2, 8, 9, 10] ⟨_, 0, v.length, by omega, by omega, rfl, fun c h => by omega, fun h => by omega, ?_⟩
  simp
 ·rintro J L hJ hL k s ⟨i, j, hij, hj, rfl, g1, g2, rfl⟩
  by_cases hlt : i < j
  ·obtain ⟨m, hm⟩ : ∃ m, m = (i + j) / 2 := ⟨_, rfl⟩
   have hml : m < v.length := by omega
   obtain ⟨x, hx⟩ : ∃ x, nth v m = x := ⟨_, rfl⟩
   have hxe : x.row = [.v (.string x.a), .v (.int .i64 x.n)] := rfl
   have gx := xg585 x a
   rw [hxe] at gx
   have hh := half i j
   rw [← hm] at hh
   obtain ⟨q, hq⟩ : ∃ q, q = cmpS x.a a := ⟨_, rfl⟩
   rw [← hq] at gx
   have low : q < 0 → ∀ c, c < m + 1 → cmpS (nth v c).a a < 0 := fun h c hc => asc_low ha (show c ≤ m by omega) hml (by rw [hx, ← hq]; exact h)
   by_cases hc : q < 0
   ·simp (implicitDefEqProofs := false) (disch := omega) [gz, hlt, wrap64, wrapU64, hh, hml, nth_map, hx, hxe, h1, gx, hc]
    subst hJ
    refine wk_keep [0, 1, 2, 8, 9, 10] ⟨j - (m + 1), by omega, m + 1, j, by omega, by omega, rfl, low hc, g2, ?_⟩
    simp
   ·simp (implicitDefEqProofs := false) (disch := omega) [gz, hlt, wrap64, wrapU64, hh, hml, nth_map, hx, hxe, h1, gx, hc]
    subst hJ
    refine wk_keep [0, 1, 2, 8, 9, 10] ⟨m - i, by omega, i, m, by omega, by omega, rfl, g1, fun _ => by rw [hx, ← hq]; exact hc, ?_⟩
    simp
  ·have : i = j := by omega
   subst this
   have hb := lowB_spec ha a hj g1 g2
   simp (implicitDefEqProofs := false) (disch := omega) [gz, hlt]
   subst hL
   rw [hb]
   exact at_mk (by simp) rfl
 ·rintro _ ⟨sl, rfl⟩
  obtain ⟨i, hi⟩ : ∃ i, i = lowB v a := ⟨_, rfl⟩
  have hil : i ≤ v.length := by rw [hi]; exact lowB_le v a
  rw [← hi]
  by_cases hlt : i < v.length
  ·obtain ⟨x, hx⟩ : ∃ x, nth v i = x := ⟨_, rfl⟩
   have hxe : x.row = [.v (.string x.a), .v (.int .i64 x.n)] := rfl
   have gx := xg585 x a
   rw [hxe] at gx
   obtain ⟨q, hq⟩ : ∃ q, q = cmpS x.a a := ⟨_, rfl⟩
   have he := cmpS_eq x.a a
   rw [← hq] at gx he
   by_cases hc : q = 0
   ·simp (implicitDefEqProofs := false) (disch := omega) [gz, hlt, wrap64, nth_map, hx, hxe, h1, gx, hc]
    exact fin_nil ⟨by simp [he.1 hc, hx], rfl⟩
   ·have hne : ¬ x.a = a := fun e => hc (he.2 e)
    simp (implicitDefEqProofs := false) (disch := omega) [gz, hlt, wrap64, nth_map, hx, hxe, h1, gx, hc]
    exact fin_nil ⟨by simp [hx, hne], rfl⟩
  ·simp (implicitDefEqProofs := false) (disch := omega) [gz, hlt, wrap64]
   exact fin_nil ⟨by simp, rfl⟩
end Go.Aw.Try

namespace Go.Aw.Try
open Go Go.Proofs Go.Aw
set_option maxRecDepth 100000
set_option maxHeartbeats 4000000
theorem hasN_cons (x : Id) (v : List Id) (a : ByteArray) : hasN (x :: v) a = if x.a = a then x.n else hasN v a := by
 unfold hasN prA
 rw [List.find?_cons]
 by_cases e : x.a = a
 ·rw [decide_eq_true e, if_pos e]
 ·rw [decide_eq_false e, if_neg e]
theorem lowB_cons (x : Id) (v : List Id) (a : ByteArray) : lowB (x :: v) a = if cmpS x.a a < 0 then lowB v a + 1 else 0 := by
 unfold lowB
 rw [List.takeWhile_cons]
 by_cases e : cmpS x.a a < 0
 ·rw [decide_eq_true e, if_pos rfl, if_pos e]; rfl
 ·rw [decide_eq_false e, if_neg (by simp), if_neg e]; rfl
theorem hasN_none {v : List Id} {a : ByteArray} (h : ∀ y ∈ v, y.a ≠ a) : hasN v a = 0 := by
 induction v with
 | nil => rfl
 | cons x v ih => rw [hasN_cons, if_neg (h x List.mem_cons_self)]; exact ih fun y hy => h y (List.mem_cons_of_mem _ hy)
theorem hasN_low {v : List Id} (h : AscI v) (a : ByteArray) : hasN v a = if lowB v a < v.length ∧ (nth v (lowB v a)).a = a then (nth v (lowB v a)).n else 0 := by
 induction v with
 | nil => rfl
 | cons x v ih =>
  obtain ⟨h1, h2⟩ := List.pairwise_cons.1 h
  have ih := ih h2
  rw [hasN_cons, lowB_cons]
  by_cases hc : cmpS x.a a < 0
  ·have e : x.a ≠ a := fun q => by rw [(cmpS_eq _ _).2 q] at hc; omega
   rw [if_neg e, if_pos hc, ih]
   have e1 : nth (x :: v) (lowB v a + 1) = nth v (lowB v a) := rfl
   rw [e1]
   simp only [List.length_cons, Nat.add_lt_add_iff_right]
  ·rw [if_neg hc]
   have e0 : nth (x :: v) 0 = x := rfl
   rw [e0]
   by_cases e : x.a = a
   ·rw [if_pos e, if_pos ⟨by simp, e⟩]
   ·rw [if_neg e, if_neg fun q => e q.2]
    refine hasN_none fun y hy q => ?_
    have := h1 y hy
    rw [q] at this
    exact hc this
/-- Does a vector include an Id? -/
def conI (v : List Id) (x : Id) : Bool := decide (1 ≤ x.n) && decide (x.n ≤ hasN v x.a)
noncomputable def x584 : XE := mkX true (fun (p : List Id × ByteArray) => [.c (.sl (p.1.map Id.row)), .c (.v (.string p.2)), .c (.fn 85 [])]) (fun p => AscI p.1 ∧ p.1.length < 4611686018427387904) (fun p => .tup [I (lowB p.1 p.2), .c (.d (.v (.bool (decide (lowB p.1 p.2 < p.1.length ∧ (nth p.1 (lowB p.1 p.2)).a = p.2)))))])
theorem kx584 : Contract Tryz.prog G0 84 x584 := mkX_scal (fun _ => rfl) fun p h => k584 p.1 p.2 h.1 h.2
theorem xg584 (v : List Id) (a : ByteArray) (h1 : AscI v) (h : v.length < 4611686018427387904) : x584.g [.c (.sl (v.map Id.row)), .c (.v (.string a)), .c (.fn 85 [])] = some (True, .tup [I (lowB v a), .c (.d (.v (.bool (decide (lowB v a < v.length ∧ (nth v (lowB v a)).a = a)))))]) := mkX_g (fun a b h => by
 simp only [List.cons.injEq, PVo.c.injEq, D.sl.injEq, D.v.injEq, Value.string.injEq] at h
 exact Prod.ext (map_inj (fun _ _ => Id.row_inj) h.1) h.2.1) (v, a) ⟨h1, h⟩
theorem k547 (v : List Id) (a : ByteArray) (ha : AscI v) (hl : v.length < 4611686018427387904) :
  ACalls Tryz.prog G0 47 [.c (.d (.sl (v.map Id.row))), Sx a] [] fun t H => t = .tup [I (lowB v a), .c (.d (.v (.bool (decide (lowB v a < v.length ∧ (nth v (lowB v a)).a = a)))))] ∧ H = [] := by
 have h1 : x584.sc = true := rfl
 have g := xg584 v a ha hl
 obtain ⟨q, hq⟩ : ∃ q, q = decide (lowB v a < v.length ∧ (nth v (lowB v a)).a = a) := ⟨_, rfl⟩
 rw [← hq] at g ⊢
 refine acallsX (X := [(84, x584)]) ⟨kx584, trivial⟩ tab hmix Tryz.func47 c547 (by rfl) fun hw => ?_
 simp (implicitDefEqProofs := false) (disch := omega) [gz, ir547, b547, h1, g]
 exact fin_nil ⟨rfl, rfl⟩
noncomputable def x547 : XE := mkX true (fun (p : List Id × ByteArray) => [.c (.sl (p.1.map Id.row)), .c (.v (.string p.2))]) (fun p => AscI p.1 ∧ p.1.length < 4611686018427387904) (fun p => .tup [I (lowB p.1 p.2), .c (.d (.v (.bool (decide (lowB p.1 p.2 < p.1.length ∧ (nth p.1 (lowB p.1 p.2)).a = p.2)))))])
theorem kx547 : Contract Tryz.prog G0 47 x547 := mkX_scal (fun _ => rfl) fun p h => k547 p.1 p.2 h.1 h.2
theorem xg547 (v : List Id) (a : ByteArray) (h1 : AscI v) (h : v.length < 4611686018427387904) : x547.g [.c (.sl (v.map Id.row)), .c (.v (.string a))] = some (True, .tup [I (lowB v a), .c (.d (.v (.bool (decide (lowB v a < v.length ∧ (nth v (lowB v a)).a = a)))))]) := mkX_g injVS (v, a) ⟨h1, h⟩
theorem k517 (v : List Id) (x : Id) (ha : AscI v) (hl : v.length < 4611686018427387904) :
  ACalls Tryz.prog G0 17 [.c (.d (.sl (v.map Id.row))), .agg (x.row.map .d)] [] fun t H => t = .bool (conI v x) ∧ H = [] := by
 have h1 : x547.sc = true := rfl
 have hxe : x.row = [.v (.string x.a), .v (.int .i64 x.n)] := rfl
 have hN := hasN_low ha x.a
 have g := xg547 v x.a ha hl
 refine acallsX (X := [(47, x547)]) ⟨kx547, trivial⟩ tab hmix Tryz.func17 c517 (by rfl) fun hw => ?_
 rw [hxe]
 obtain ⟨i, hi⟩ : ∃ i, i = lowB v x.a := ⟨_, rfl⟩
 rw [← hi] at g hN
 unfold conI
 rw [hN]
 by_cases hf : i < v.length ∧ (nth v i).a = x.a
 ·obtain ⟨y, hy⟩ : ∃ y, nth v i = y := ⟨_, rfl⟩
  have hye : y.row = [.v (.string y.a), .v (.int .i64 y.n)] := rfl
  have hil := hf.1
  rw [if_pos hf, hy]
  rw [decide_eq_true hf] at g
  by_cases q1 : 1 ≤ x.n
  ·simp (implicitDefEqProofs := false) (disch := omega) [gz, ir517, b517, h1, g, hil, nth_map, hy, hye, q1]
   repeat' (with_reducible apply And.intro)
   all_goals first | omega | kernel_rfl | skip
   exact fin_nil ⟨by simp, rfl⟩
  ·simp (implicitDefEqProofs := false) (disch := omega) [gz, ir517, b517, h1, g, hil, nth_map, hy, hye, q1]
   repeat' (with_reducible apply And.intro)
   all_goals first | omega | kernel_rfl | skip
   exact fin_nil ⟨by simp, rfl⟩
 ·rw [if_neg hf]
  rw [decide_eq_false hf] at g
  have : (decide (1 ≤ x.n) && decide (x.n ≤ 0)) = false := by
   by_cases q : 1 ≤ x.n
   ·simp; omega
   ·simp; omega
  rw [this]
  simp (implicitDefEqProofs := false) (disch := omega) [gz, ir517, b517, h1, g]
  repeat' (with_reducible apply And.intro)
  all_goals first | omega | kernel_rfl | skip
  exact fin_nil ⟨by simp, rfl⟩
theorem injVI (a b : List Id × Id) (h : [PVo.c (D.sl (a.1.map Id.row)), PVo.agg a.2.row] = [PVo.c (.sl (b.1.map Id.row)), .agg b.2.row]) : a = b := by
 simp only [List.cons.injEq, PVo.c.injEq, PVo.agg.injEq, D.sl.injEq] at h
 exact Prod.ext (map_inj (fun _ _ => Id.row_inj) h.1) (Id.row_inj h.2.1)
noncomputable def x517 : XE := mkX true (fun (p : List Id × Id) => [.c (.sl (p.1.map Id.row)), .agg p.2.row]) (fun p => AscI p.1 ∧ p.1.length < 4611686018427387904) (fun p => .bool (conI p.1 p.2))
theorem kx517 : Contract Tryz.prog G0 17 x517 := mkX_scal (fun _ => rfl) fun p h => k517 p.1 p.2 h.1 h.2
theorem xg517 (v : List Id) (x : Id) (h1 : AscI v) (h : v.length < 4611686018427387904) : x517.g [.c (.sl (v.map Id.row)), .agg x.row] = some (True, .bool (conI v x)) := mkX_g injVI (v, x) ⟨h1, h⟩
/-! ### votes -/
structure Vote where
 e : Edit
 set : List ByteArray
instance : Inhabited Vote := ⟨⟨default, []⟩⟩
def Vote.row (v : Vote) : List D := v.e.row ++ [.sl (v.set.map srow)]
theorem Vote.row_eq (v : Vote) : v.row = [.v (.string v.e.id.a), .v (.int .i64 v.e.id.n), .v (.int .i64 v.e.clock), .v (.int .i64 v.e.floor), .sl (v.e.deps.map Id.row), .v (.int .i64 v.e.kind), .v (.string v.e.node.a), .v (.int .i64 v.e.node.n), .v (.string v.e.parent.a), .v (.int .i64 v.e.parent.n), .v (.bool v.e.neg), .v (.string v.e.num), .v (.string v.e.den), .v (.string v.e.field), .v (.string v.e.value), .v (.string v.e.target.a), .v (.int .i64 v.e.target.n), .v (.string v.e.who), .sl (v.set.map srow)] := rfl
theorem Vote.row_inj {a b : Vote} (h : a.row = b.row) : a = b := by
 unfold Vote.row at h
 have h1 : a.e.row.length = b.e.row.length := rfl
 obtain ⟨h2, h3⟩ := List.append_inj h h1
 cases a; cases b
 simp only [List.cons.injEq, D.sl.injEq] at h3
 have e1 := Edit.row_inj h2
 have e2 := srow_inj h3.1
 simp only at e1 e2
 rw [e1, e2]
/-- slices.IndexFunc at Vote. -/
theorem k608 (pr : Vote → Bool) (g : Nat) (cps : List (List D)) (xg : XE) (hx : Contract Tryz.prog G0 g xg) (hsc : xg.sc = true)
  (hxg : ∀ e, xg.g (.agg (Vote.row e) :: cps.map fun cs => .c (.ip cs)) = some (True, .bool (pr e))) (es : List (Vote)) (hl : es.length < 4611686018427387904) :
  ACalls Tryz.prog G0 108 [.c (.d (.sl (es.map Vote.row))), .c (.d (.fn g (cps.map .ip)))] [] fun t H => t = .int .i64 (idxF pr 0 es) ∧ H = [] := by
 refine acallsX (X := [(g, xg)]) ⟨hx, trivial⟩ tab hmix Tryz.func108 c608 (by rfl) fun hw => ?_
 simp (implicitDefEqProofs := false) (disch := omega) [gz, ir608, b608, wrap64]
 refine loopG (fun k s => ∃ i, i ≤ es.length ∧ k = es.length - i ∧ idxF pr 0 es = idxF pr i (es.drop i) ∧
  s = ⟨ofL [(0, .v (.c (.d (.sl (es.map Vote.row))))), (1, .v (.c (.d (.fn g (cps.map .ip))))), (7, .int .i64 es.length), (8, .int .i64 i)], []⟩) ?_ ?_
 ·refine wk_keep [0, 1, 7, 8] ⟨_, 0, by omega, rfl, rfl, ?_⟩
  simp
 ·rintro J hJ k s ⟨i, hi, rfl, hid, rfl⟩
  by_cases hlt : i < es.length
  ·have hst := idxF_step pr hlt
   obtain ⟨e, he⟩ : ∃ e, nth es i = e := ⟨_, rfl⟩
   have hee := Vote.row_eq e
   have hxg := hxg e
   rw [hee] at hxg
   rw [he] at hst
   simp (implicitDefEqProofs := false) (disch := omega) [gz, hlt, wrap64, nth_map, he, hee, mapO_ipc, hsc, hxg]
   refine ⟨fun h => ?_, fun h => ?_⟩
   ·rw [if_pos h] at hst
    exact fin_nil ⟨by rw [hid, hst]; rfl, rfl⟩
   ·rw [if_neg (by simp [h])] at hst
    subst hJ
    refine wk_keep [0, 1, 7, 8] ⟨es.length - (i + 1), by omega, i + 1, by omega, rfl, by rw [hid, hst], ?_⟩
    simp
  ·simp (implicitDefEqProofs := false) (disch := omega) [gz, hlt]
   rw [hid, List.drop_eq_nil_of_le (by omega)]
   exact fin_nil ⟨rfl, rfl⟩
def x608 (pr : Vote → Bool) (g : Nat) (cps : List (List D)) (es : List (Vote)) : XE := ⟨true, fun ps => some (ps = [.c (.sl (es.map Vote.row)), .c (.fn g (cps.map .ip))], .int .i64 (idxF pr 0 es))⟩
theorem kx608 (pr : Vote → Bool) (g : Nat) (cps : List (List D)) (xg : XE) (hx : Contract Tryz.prog G0 g xg) (hsc : xg.sc = true)
  (hxg : ∀ e, xg.g (.agg (Vote.row e) :: cps.map fun cs => .c (.ip cs)) = some (True, .bool (pr e))) (es : List (Vote)) (hl : es.length < 4611686018427387904) : Contract Tryz.prog G0 108 (x608 pr g cps es) := contract_sc fun ps ob t h ho => by
 injection h with h; injection h with h1 h2; subst h2; subst h1
 subst ho
 exact ⟨rfl, k608 pr g cps xg hx hsc hxg es hl⟩
/-- slices.ContainsFunc at Vote. -/
theorem k562 (pr : Vote → Bool) (g : Nat) (cps : List (List D)) (xg : XE) (hx : Contract Tryz.prog G0 g xg) (hsc : xg.sc = true)
  (hxg : ∀ e, xg.g (.agg (Vote.row e) :: cps.map fun cs => .c (.ip cs)) = some (True, .bool (pr e))) (es : List (Vote)) (hl : es.length < 4611686018427387904) :
  ACalls Tryz.prog G0 62 [.c (.d (.sl (es.map Vote.row))), .c (.d (.fn g (cps.map .ip)))] [] fun t H => t = .bool (es.any pr) ∧ H = [] := by
 have h1 : (x608 pr g cps es).sc = true := rfl
 refine acallsX (X := [(108, x608 pr g cps es)]) ⟨kx608 pr g cps xg hx hsc hxg es hl, trivial⟩ tab hmix Tryz.func62 c562 (by rfl) fun hw => ?_
 have ha := idxF_any pr es 0
 by_cases h : 0 ≤ idxF pr 0 es
 ·rw [ha.1 h]
  simp (implicitDefEqProofs := false) (disch := omega) [gz, ir562, b562, h1, x608, h]
  exact fin_nil ⟨rfl, rfl⟩
 ·have : es.any pr = false := by
   cases hb : es.any pr
   ·rfl
   ·exact absurd (ha.2 hb) h
  rw [this]
  simp (implicitDefEqProofs := false) (disch := omega) [gz, ir562, b562, h1, x608, h]
  exact fin_nil ⟨rfl, rfl⟩
def x562 (pr : Vote → Bool) (g : Nat) (cps : List (List D)) (es : List (Vote)) : XE := ⟨true, fun ps => some (ps = [.c (.sl (es.map Vote.row)), .c (.fn g (cps.map .ip))], .bool (es.any pr))⟩
theorem kx562 (pr : Vote → Bool) (g : Nat) (cps : List (List D)) (xg : XE) (hx : Contract Tryz.prog G0 g xg) (hsc : xg.sc = true)
  (hxg : ∀ e, xg.g (.agg (Vote.row e) :: cps.map fun cs => .c (.ip cs)) = some (True, .bool (pr e))) (es : List (Vote)) (hl : es.length < 4611686018427387904) : Contract Tryz.prog G0 62 (x562 pr g cps es) := contract_sc fun ps ob t h ho => by
 injection h with h; injection h with h1 h2; subst h2; subst h1
 subst ho
 exact ⟨rfl, k562 pr g cps xg hx hsc hxg es hl⟩

/-- Does a version vector contain all these votes? -/
def knowsV (d : List Id) (vs : List Vote) : Bool := vs.all fun v => conI d v.e.id
noncomputable def x617 (e : Edit) : XE := mkX true (fun (v : Vote) => [.agg v.row, .c (.ip e.row)]) (fun _ => AscI e.deps ∧ e.deps.length < 4611686018427387904) (fun v => .bool (!conI e.deps v.e.id))
theorem k617 (v : Vote) (f : Edit) (h : AscI f.deps) (hl : f.deps.length < 4611686018427387904) : ACalls Tryz.prog G0 117 [.agg (v.row.map .d), .c (.d (.ip f.row))] [] fun t H => t = .bool (!conI f.deps v.e.id) ∧ H = [] := by
 have h1 : x517.sc = true := rfl
 have g := xg517 f.deps v.e.id h hl
 have hxe : v.e.id.row = [.v (.string v.e.id.a), .v (.int .i64 v.e.id.n)] := rfl
 rw [hxe] at g
 refine acallsX (X := [(17, x517)]) ⟨kx517, trivial⟩ tab hmix Tryz.func117 c617 (by rfl) fun hw => ?_
 have hee := Vote.row_eq v
 have hfe := Edit.row_eq f
 simp (implicitDefEqProofs := false) (disch := omega) [gz, ir617, b617, hee, hfe, h1, g]
 exact fin_nil ⟨rfl, rfl⟩
theorem kx617 (e : Edit) : Contract Tryz.prog G0 117 (x617 e) := mkX_scal (fun _ => rfl) fun v h => k617 v e h.1 h.2
theorem xg617 (e : Edit) (h : AscI e.deps) (hl : e.deps.length < 4611686018427387904) (v : Vote) : (x617 e).g (.agg (Vote.row v) :: [e.row].map fun cs => .c (.ip cs)) = some (True, .bool (!conI e.deps v.e.id)) := mkX_g (fun a b h => by simp at h; exact Vote.row_inj h) v ⟨h, hl⟩
theorem k575 (f : Edit) (vs : List Vote) (h : AscI f.deps) (hl : f.deps.length < 4611686018427387904) (hv : vs.length < 4611686018427387904) :
  ACalls Tryz.prog G0 75 [.agg (f.row.map .d), .c (.d (.sl (vs.map Vote.row)))] [] fun t H => t = .bool (knowsV f.deps vs) ∧ H = [] := by
 obtain ⟨X0, hX0⟩ : ∃ X0, X0 = x562 (fun v => !conI f.deps v.e.id) 117 [f.row] vs := ⟨_, rfl⟩
 have hk : Contract Tryz.prog G0 62 X0 := by rw [hX0]; exact kx562 _ 117 _ (x617 f) (kx617 f) rfl (xg617 f h hl) vs hv
 have h1 : X0.sc = true := by rw [hX0]; rfl
 refine acallsX (X := [(62, X0)]) ⟨hk, trivial⟩ tab hmix Tryz.func75 c575 (by rfl) fun hw => ?_
 have hp : knowsV f.deps vs = !(vs.any fun v => !conI f.deps v.e.id) := by unfold knowsV; rw [List.not_any_eq_all_not]; simp
 rw [hp]
 obtain ⟨q, hq⟩ : ∃ q, q = vs.any fun v => !conI f.deps v.e.id := ⟨_, rfl⟩
 rw [← hq]
 have hfe := Edit.row_eq f
 have hx : ∀ ps, X0.g ps = some (ps = [.c (.sl (vs.map Vote.row)), .c (.fn 117 [.ip [.v (.string f.id.a), .v (.int .i64 f.id.n), .v (.int .i64 f.clock), .v (.int .i64 f.floor), .sl (f.deps.map Id.row), .v (.int .i64 f.kind), .v (.string f.node.a), .v (.int .i64 f.node.n), .v (.string f.parent.a), .v (.int .i64 f.parent.n), .v (.bool f.neg), .v (.string f.num), .v (.string f.den), .v (.string f.field), .v (.string f.value), .v (.string f.target.a), .v (.int .i64 f.target.n), .v (.string f.who)]])], .bool q) := fun ps => by rw [hX0, hq]; rfl
 simp (implicitDefEqProofs := false) (disch := omega) [gz, ir575, b575, h1, hfe, hx]
 exact fin_nil ⟨rfl, rfl⟩
theorem injEV (a b : Edit × List Vote) (h : [PVo.agg a.1.row, PVo.c (D.sl (a.2.map Vote.row))] = [PVo.agg b.1.row, .c (.sl (b.2.map Vote.row))]) : a = b := by
 simp only [List.cons.injEq, PVo.c.injEq, PVo.agg.injEq, D.sl.injEq] at h
 exact Prod.ext (Edit.row_inj h.1) (map_inj (fun _ _ => Vote.row_inj) h.2.1)
noncomputable def x575 : XE := mkX true (fun (p : Edit × List Vote) => [.agg p.1.row, .c (.sl (p.2.map Vote.row))]) (fun p => AscI p.1.deps ∧ p.1.deps.length < 4611686018427387904 ∧ p.2.length < 4611686018427387904) (fun p => .bool (knowsV p.1.deps p.2))
theorem kx575 : Contract Tryz.prog G0 75 x575 := mkX_scal (fun _ => rfl) fun p h => k575 p.1 p.2 h.1 h.2.1 h.2.2
theorem xg575 (f : Edit) (vs : List Vote) (h : AscI f.deps) (hl : f.deps.length < 4611686018427387904) (hv : vs.length < 4611686018427387904) : x575.g [.agg f.row, .c (.sl (vs.map Vote.row))] = some (True, .bool (knowsV f.deps vs)) := mkX_g injEV (f, vs) ⟨h, hl, hv⟩
end Go.Aw.Try

namespace Go.Aw.Try
open Go Go.Proofs Go.Aw
set_option maxRecDepth 100000
set_option maxHeartbeats 4000000
/-! ### votes and members chosen -/
theorem vrow (v : Vote) : RowOk 19 v.row := ⟨rfl, fun d hd c h => by subst h; simp [Vote.row, Edit.row] at hd⟩
theorem k606 (es : List Vote) (hl : es.length < 68719476736) (H : List O) :
  ACalls Tryz.prog G0 106 [.c (.d (.sl (es.map Vote.row)))] H (Own H 19 (es.map Vote.row)) := by
 refine acallsX (X := []) trivial tab hmix Tryz.func106 c606 (by rfl) fun hw => ?_
 simp (implicitDefEqProofs := false) (disch := omega) [gz, ir606, b606, wrap64, elems, maxLen47]
 refine ⟨⟨⟨by omega, fun e _ => (vrow e).len⟩, ?_⟩, ?_⟩
 ·exact fin_own (L := [O.dead, O.row 19 (es.map Vote.row)]) (k := 1) hw rfl (by simp)
 ·intro h
  subst h
  have := fin_own_nil (P := Tryz.prog) (H := H) (sz := 19) (L := []) hw (by omega)
  simpa using this
theorem k605 (pr : Vote → Bool) (g : Nat) (hg : (108 = g) = False) (caps : List (Nat × Nat)) (cps : List (List D)) (xg : XE) (hx : Contract Tryz.prog G0 g xg) (hsc : xg.sc = true)
  (hxg : ∀ e, xg.g (.agg (Vote.row e) :: cps.map fun cs => .c (.ip cs)) = some (True, .bool (pr e))) (es : List Vote) (hl : es.length < 4611686018427387904) (H : List O) (r : Nat) (hr : r < H.length)
  (hc1 : ∀ (xs : List (List D)), toB 8 (H.set r (.row 19 xs)) (.fn g caps) = some (.fn g (cps.map .ip)))
  (hc2 : ∀ (xs : List (List D)) (L : List O), mapO (toBV (H.set r (.row 19 xs) ++ L)) (caps.map fun c => V.c (.ptr c.1 c.2)) = some (cps.map fun cs => PVo.c (.ip cs))) (hc3 : ∀ p ∈ caps, p.1 < H.length) :
  ACalls Tryz.prog G0 105 [.c (.os r 19 0 es.length), .c (.fn g caps)] (H.set r (.row 19 (es.map Vote.row))) fun t H' => t = .v (.c (.os r 19 0 (es.filter fun e => !pr e).length)) ∧ H' = H.set r (.row 19 ((es.filter fun e => !pr e).map Vote.row)) := by
 have hxs : (x608 pr g cps es).sc = true := rfl
 refine acallsX (X := [(108, x608 pr g cps es), (g, xg)]) ⟨kx608 pr g cps xg hx hsc hxg es hl, hx, trivial⟩ tab hmix Tryz.func105 c605 (by rfl) fun hw => ?_
 obtain ⟨n, hn⟩ : ∃ n, n = es.length := ⟨_, rfl⟩
 rw [← hn]
 have e0 : (es.map Vote.row).take n = es.map Vote.row := List.take_of_length_le (by simp; omega)
 have hle : n ≤ es.length := by omega
 by_cases hi : idxF pr 0 es = -1
 ·have hall := idxF_none pr hi
  have hf : es.filter (fun e => !pr e) = es := List.filter_eq_self.2 fun x hx => by simp [hall x hx]
  rw [hf, ← hn]
  simp (implicitDefEqProofs := false) (disch := omega) [gz, ir605, b605, wrap64, hxs, hr, hc1, x608, e0, hle, hi]
  repeat' apply And.intro
  all_goals first | omega | skip
  exact fin_here (by simp) ⟨rfl, rfl⟩
 ·obtain ⟨i, h1, h2, h3, h4⟩ := idxF_some pr hi
  rw [Nat.zero_add] at h1
  have hf0 : (es.take i).filter (fun e => !pr e) = es.take i := List.filter_eq_self.2 fun x hx => by simp [h4 x hx]
  have hf : es.filter (fun e => !pr e) = es.take i ++ (es.drop (i + 1)).filter (fun e => !pr e) := by
   conv => lhs; rw [← List.take_append_drop i es]
   rw [List.filter_append, hf0, drop_nth h2, List.filter_cons, h3]; rfl
  have hi' : ¬ (i : Int) = -1 := by omega
  simp (implicitDefEqProofs := false) (disch := omega) [gz, ir605, b605, wrap64, hxs, hr, hc1, x608, e0, hle, h1, hi']
  repeat' apply And.intro
  all_goals first | omega | skip
  refine loopE (fun c s => ∃ (j q : Nat) (es' : List Vote), j ≤ n ∧ q < j ∧ c = n - j ∧ es'.length = n ∧ es'.drop j = es.drop j ∧ es.filter (fun e => !pr e) = es'.take q ++ (es.drop j).filter (fun e => !pr e) ∧
    s = ⟨ofL [(0, .v (.c (.os r 19 0 n))), (1, .v (.c (.fn g caps))), (5, .int .i64 q), (6, .int .i64 j)], H.set r (.row 19 (es'.map Vote.row))⟩)
   (fun s => ∃ (q : Nat) (es' : List Vote), q ≤ n ∧ es'.length = n ∧ es.filter (fun e => !pr e) = es'.take q ∧ AtS [(0, .v (.c (.os r 19 0 n))), (5, .int .i64 q)] (H.set r (.row 19 (es'.map Vote.row))) s) ?_ ?_ ?_
  ·refine wk_keep [0, 1, 5, 6] ⟨_, i + 1, i, es, by omega, by omega, rfl, hn.symm, rfl, hf, ?_⟩
   simp
  ·rintro J2 L2 hJ2 hL2 c s ⟨j, q, es', g1, g2, rfl, hl', g4, g5, rfl⟩
   by_cases hlt : j < n
   ·have hsp : ∀ (e : Vote) {z : List C} (hz : z.length = 19), splice z 0 ((Vote.row e).map .d) = (Vote.row e).map .d := fun e z hz => (vrow e).splz hz
    have hst : (es.drop j).filter (fun e => !pr e) = if pr (nth es j) then (es.drop (j + 1)).filter (fun e => !pr e) else nth es j :: (es.drop (j + 1)).filter (fun e => !pr e) := by
     rw [drop_nth (by omega), List.filter_cons]; cases pr (nth es j) <;> simp
    have e1 : nth es' j = nth es j := nth_of_drop g4 (Nat.le_refl _)
    simp (implicitDefEqProofs := false) (disch := first | omega | (simp only [List.length_cons, List.length_nil] <;> omega)) [gz, hlt, wrap64, hl', hg, hc2, e1, hsp, hr, nth_map, (vrow _).len, take_of_len, (vrow _).mapO, (vrow _).tk, (vrow _).nrm, borRow, (vrow _).cl, borV_map, osR_map, frz_map, nth_set_ne, (vrow _).spl (vrow _), hsc, hxg]
    repeat' apply And.intro
    all_goals first | omega | skip
    ·intro hb
     rw [if_neg (by simp [hb])] at hst
     repeat' apply And.intro
     all_goals first | omega | skip
     subst hJ2
     rw [← List.map_set]
     refine wk_junk [(0, .v (.c (.os r 19 0 n))), (1, .v (.c (.fn g caps))), (5, .int .i64 (q + 1 : Nat)), (6, .int .i64 (j + 1 : Nat))] (wf_row hw) (by simp) (by simp [T.lt, V.lt, C.lt, hr]; exact fun a b h => hc3 (a, b) h) ⟨n - (j + 1), by omega, j + 1, q + 1, es'.set q (nth es j), by omega, by omega, rfl, by simpa using hl', ?_, ?_, ?_⟩
     ·rw [List.drop_set_of_lt (by omega)]
      exact drop_more g4 (by omega)
     ·rw [take_set_nth (by omega), g5, hst]; simp
     ·simp
    ·intro hb
     rw [if_pos hb] at hst
     subst hJ2
     refine wk_junk [(0, .v (.c (.os r 19 0 n))), (1, .v (.c (.fn g caps))), (5, .int .i64 q), (6, .int .i64 (j + 1 : Nat))] (wf_row hw) (by simp) (by simp [T.lt, V.lt, C.lt, hr]; exact fun a b h => hc3 (a, b) h) ⟨n - (j + 1), by omega, j + 1, q, es', by omega, by omega, rfl, hl', drop_more g4 (by omega), by rw [g5, hst], ?_⟩
     simp
   ·simp (implicitDefEqProofs := false) (disch := omega) [gz, hlt, wrap64]
    subst hL2
    refine ⟨q, es', by omega, hl', ?_, at_mk (by simp) rfl⟩
    rw [g5, List.drop_eq_nil_of_le (by omega)]; simp
  ·rintro _ ⟨q, es', hq, hl', g5, sl, rfl⟩
   simp (implicitDefEqProofs := false) (disch := omega) [gz, wrap64, hl', hr]
   repeat' apply And.intro
   all_goals first | omega | skip
   have hq2 : (es.filter (fun e => !pr e)).length = q := by rw [g5, List.length_take]; omega
   obtain ⟨Z, hZ⟩ := splice_front (es'.map Vote.row) q (List.replicate (n - q)
    [D.v (Value.string { data := #[] }), D.v (Value.int IntKind.i64 0), D.v (Value.int IntKind.i64 0), D.v (Value.int IntKind.i64 0), D.v (Value.slice none 0 0), D.v (Value.int IntKind.i64 0),
    D.v (Value.string { data := #[] }), D.v (Value.int IntKind.i64 0), D.v (Value.string { data := #[] }), D.v (Value.int IntKind.i64 0), D.v (Value.bool false), D.v (Value.string { data := #[] }),
    D.v (Value.string { data := #[] }), D.v (Value.string { data := #[] }), D.v (Value.string { data := #[] }), D.v (Value.string { data := #[] }), D.v (Value.int IntKind.i64 0), D.v (Value.string { data := #[] }), D.v (Value.slice none 0 0)])
   rw [hZ]
   refine fin_weak (fweak_take (r := r) (sz := 19) (xs := (es'.map Vote.row).take q) (ys := Z) (by simp [hr]) (by simp)) (fin_here (by simp) ⟨by rw [hq2], by simp [g5, List.map_take]⟩)
theorem k611 (es : List ByteArray) (hl : es.length < 68719476736) (H : List O) :
  ACalls Tryz.prog G0 111 [.c (.d (.sl (es.map srow)))] H (Own H 1 (es.map srow)) := by
 refine acallsX (X := []) trivial tab hmix Tryz.func111 c611 (by rfl) fun hw => ?_
 simp (implicitDefEqProofs := false) (disch := omega) [gz, ir611, b611, wrap64, elems, maxLen47]
 refine ⟨⟨⟨by omega, fun e _ => rfl⟩, ?_⟩, ?_⟩
 ·exact fin_own (L := [O.dead, O.row 1 (es.map srow)]) (k := 1) hw rfl (by simp)
 ·intro h
  subst h
  have := fin_own_nil (P := Tryz.prog) (H := H) (sz := 1) (L := []) hw (by omega)
  simpa using this
theorem k610 (pr : ByteArray → Bool) (g : Nat) (hg : (109 = g) = False) (caps : List (Nat × Nat)) (cps : List (List D)) (xg : XE) (hx : Contract Tryz.prog G0 g xg) (hsc : xg.sc = true)
  (hxg : ∀ e, xg.g (.c (.v (.string e)) :: cps.map fun cs => .c (.ip cs)) = some (True, .bool (pr e))) (es : List ByteArray) (hl : es.length < 4611686018427387904) (H : List O) (r : Nat) (hr : r < H.length)
  (hc1 : ∀ (xs : List (List D)), toB 8 (H.set r (.row 1 xs)) (.fn g caps) = some (.fn g (cps.map .ip)))
  (hc2 : ∀ (xs : List (List D)) (L : List O), mapO (toBV (H.set r (.row 1 xs) ++ L)) (caps.map fun c => V.c (.ptr c.1 c.2)) = some (cps.map fun cs => PVo.c (.ip cs))) (hc3 : ∀ p ∈ caps, p.1 < H.length) :
  ACalls Tryz.prog G0 110 [.c (.os r 1 0 es.length), .c (.fn g caps)] (H.set r (.row 1 (es.map srow))) fun t H' => t = .v (.c (.os r 1 0 (es.filter fun e => !pr e).length)) ∧ H' = H.set r (.row 1 ((es.filter fun e => !pr e).map srow)) := by
 have hxs : (x609 pr g cps es).sc = true := rfl
 refine acallsX (X := [(109, x609 pr g cps es), (g, xg)]) ⟨kx609 pr g cps xg hx hsc hxg es hl, hx, trivial⟩ tab hmix Tryz.func110 c610 (by rfl) fun hw => ?_
 obtain ⟨n, hn⟩ : ∃ n, n = es.length := ⟨_, rfl⟩
 rw [← hn]
 have e0 : (es.map srow).take n = es.map srow := List.take_of_length_le (by simp; omega)
 have hle : n ≤ es.length := by omega
 by_cases hi : idxF pr 0 es = -1
 ·have hall := idxF_none pr hi
  have hf : es.filter (fun e => !pr e) = es := List.filter_eq_self.2 fun x hx => by simp [hall x hx]
  rw [hf, ← hn]
  simp (implicitDefEqProofs := false) (disch := omega) [gz, ir610, b610, wrap64, hxs, hr, hc1, x609, e0, hle, hi]
  repeat' apply And.intro
  all_goals first | omega | skip
  exact fin_here (by simp) ⟨rfl, rfl⟩
 ·obtain ⟨i, h1, h2, h3, h4⟩ := idxF_some pr hi
  rw [Nat.zero_add] at h1
  have hf0 : (es.take i).filter (fun e => !pr e) = es.take i := List.filter_eq_self.2 fun x hx => by simp [h4 x hx]
  have hf : es.filter (fun e => !pr e) = es.take i ++ (es.drop (i + 1)).filter (fun e => !pr e) := by
   conv => lhs; rw [← List.take_append_drop i es]
   rw [List.filter_append, hf0, drop_nth h2, List.filter_cons, h3]; rfl
  have hi' : ¬ (i : Int) = -1 := by omega
  simp (implicitDefEqProofs := false) (disch := omega) [gz, ir610, b610, wrap64, hxs, hr, hc1, x609, e0, hle, h1, hi']
  repeat' apply And.intro
  all_goals first | omega | skip
  refine loopE (fun c s => ∃ (j q : Nat) (es' : List ByteArray), j ≤ n ∧ q < j ∧ c = n - j ∧ es'.length = n ∧ es'.drop j = es.drop j ∧ es.filter (fun e => !pr e) = es'.take q ++ (es.drop j).filter (fun e => !pr e) ∧
    s = ⟨ofL [(0, .v (.c (.os r 1 0 n))), (1, .v (.c (.fn g caps))), (5, .int .i64 q), (6, .int .i64 j)], H.set r (.row 1 (es'.map srow))⟩)
   (fun s => ∃ (q : Nat) (es' : List ByteArray), q ≤ n ∧ es'.length = n ∧ es.filter (fun e => !pr e) = es'.take q ∧ AtS [(0, .v (.c (.os r 1 0 n))), (5, .int .i64 q)] (H.set r (.row 1 (es'.map srow))) s) ?_ ?_ ?_
  ·refine wk_keep [0, 1, 5, 6] ⟨_, i + 1, i, es, by omega, by omega, rfl, hn.symm, rfl, hf, ?_⟩
   simp
  ·rintro J2 L2 hJ2 hL2 c s ⟨j, q, es', g1, g2, rfl, hl', g4, g5, rfl⟩
   by_cases hlt : j < n
   ·have hc20 : ∀ xs : List (List D), mapO (toBV (H.set r (.row 1 xs))) (caps.map fun c => V.c (.ptr c.1 c.2)) = some (cps.map fun cs => PVo.c (.ip cs)) := fun xs => by simpa using hc2 xs []
    have hst : (es.drop j).filter (fun e => !pr e) = if pr (nth es j) then (es.drop (j + 1)).filter (fun e => !pr e) else nth es j :: (es.drop (j + 1)).filter (fun e => !pr e) := by
     rw [drop_nth (by omega), List.filter_cons]; cases pr (nth es j) <;> simp
    have e1 : nth es' j = nth es j := nth_of_drop g4 (Nat.le_refl _)
    obtain ⟨y, hy⟩ : ∃ y, nth es j = y := ⟨_, rfl⟩
    have hye : srow y = [.v (.string y)] := rfl
    rw [hy] at e1 hst
    simp (implicitDefEqProofs := false) (disch := first | omega | (simp only [List.length_cons, List.length_nil] <;> omega)) [gz, hlt, wrap64, hl', hg, hc2, e1, hye, hr, nth_map, splice, hc20, hsc, hxg]
    repeat' apply And.intro
    all_goals first | omega | skip
    ·intro hb
     rw [if_neg (by simp [hb])] at hst
     repeat' apply And.intro
     all_goals first | omega | skip
     subst hJ2
     have hset : D.v (.string y) :: (srow (nth es' q)).tail = srow y := rfl
     rw [hset, ← List.map_set]
     refine wk_keep [0, 1, 5, 6] ⟨n - (j + 1), by omega, j + 1, q + 1, es'.set q y, by omega, by omega, rfl, by simpa using hl', ?_, ?_, ?_⟩
     ·rw [List.drop_set_of_lt (by omega)]
      exact drop_more g4 (by omega)
     ·rw [take_set_nth (by omega), g5, hst]; simp
     ·simp
    ·intro hb
     rw [if_pos hb] at hst
     subst hJ2
     refine wk_keep [0, 1, 5, 6] ⟨n - (j + 1), by omega, j + 1, q, es', by omega, by omega, rfl, hl', drop_more g4 (by omega), by rw [g5, hst], ?_⟩
     simp
   ·simp (implicitDefEqProofs := false) (disch := omega) [gz, hlt, wrap64]
    subst hL2
    refine ⟨q, es', by omega, hl', ?_, at_mk (by simp) rfl⟩
    rw [g5, List.drop_eq_nil_of_le (by omega)]; simp
  ·rintro _ ⟨q, es', hq, hl', g5, sl, rfl⟩
   simp (implicitDefEqProofs := false) (disch := omega) [gz, wrap64, hl', hr]
   repeat' apply And.intro
   all_goals first | omega | skip
   have hq2 : (es.filter (fun e => !pr e)).length = q := by rw [g5, List.length_take]; omega
   obtain ⟨Z, hZ⟩ := splice_front (es'.map srow) q (List.replicate (n - q)
    [D.v (Value.string { data := #[] })])
   rw [hZ]
   refine fin_weak (fweak_take (r := r) (sz := 1) (xs := (es'.map srow).take q) (ys := Z) (by simp [hr]) (by simp)) (fin_here (by simp) ⟨by rw [hq2], by simp [g5, List.map_take]⟩)
end Go.Aw.Try

namespace Go.Aw.Try
open Go Go.Proofs Go.Aw
set_option maxRecDepth 100000
set_option maxHeartbeats 4000000
/-- Members, edits, votes that count. -/
structure Cn where
 mem : List ByteArray
 l : List Edit
 vs : List Vote
def Cn.cs (c : Cn) : List D := [.sl (c.mem.map srow), .sl (c.l.map Edit.row), .sl (c.vs.map Vote.row)]
/-- The votes for exactly this set. -/
def ofV (vs : List Vote) (set : List ByteArray) : List Vote := vs.filter fun v => decide (v.set = set)
def stayS (mem set : List ByteArray) : List ByteArray := mem.filter fun s => !hasS set s
noncomputable def x607 (set : List ByteArray) : XE := mkX true (fun (v : Vote) => [.agg v.row, .c (.ip [.sl (set.map srow)])]) (fun _ => set.length < 4611686018427387904) (fun v => .bool (!decide (v.set = set)))
theorem k607 (v : Vote) (set : List ByteArray) (h2 : set.length < 4611686018427387904) : ACalls Tryz.prog G0 107 [.agg (v.row.map .d), .c (.d (.ip [.sl (set.map srow)]))] [] fun t H => t = .bool (!decide (v.set = set)) ∧ H = [] := by
 have h : x569.sc = true := rfl
 have g := xg569 v.set set h2
 obtain ⟨q, hq⟩ : ∃ q, q = decide (v.set = set) := ⟨_, rfl⟩
 rw [← hq] at g ⊢
 refine acallsX (X := [(69, x569)]) ⟨kx569, trivial⟩ tab hmix Tryz.func107 c607 (by rfl) fun hw => ?_
 have hee := Vote.row_eq v
 simp (implicitDefEqProofs := false) (disch := omega) [gz, ir607, b607, hee, h, g]
 exact fin_nil ⟨rfl, rfl⟩
theorem kx607 (set : List ByteArray) : Contract Tryz.prog G0 107 (x607 set) := mkX_scal (fun _ => rfl) fun v h => k607 v set h
theorem xg607 (set : List ByteArray) (h : set.length < 4611686018427387904) (v : Vote) : (x607 set).g (.agg (Vote.row v) :: [[D.sl (set.map srow)]].map fun cs => .c (.ip cs)) = some (True, .bool (!decide (v.set = set))) := mkX_g (fun a b h => by simp at h; exact Vote.row_inj h) v h
theorem k612 (s : ByteArray) (set : List ByteArray) (h2 : set.length < 4611686018427387904) : ACalls Tryz.prog G0 112 [Sx s, .c (.d (.ip [.sl (set.map srow)]))] [] fun t H => t = .bool (hasS set s) ∧ H = [] := by
 have h : x577.sc = true := rfl
 have g := xg577 set s h2
 refine acallsX (X := [(77, x577)]) ⟨kx577, trivial⟩ tab hmix Tryz.func112 c612 (by rfl) fun hw => ?_
 simp (implicitDefEqProofs := false) (disch := omega) [gz, ir612, b612, h, g]
 exact fin_nil ⟨rfl, rfl⟩
noncomputable def x612 (set : List ByteArray) : XE := mkX true (fun (s : ByteArray) => [.c (.v (.string s)), .c (.ip [.sl (set.map srow)])]) (fun _ => set.length < 4611686018427387904) (fun s => .bool (hasS set s))
theorem kx612 (set : List ByteArray) : Contract Tryz.prog G0 112 (x612 set) := mkX_scal (fun _ => rfl) fun s h => k612 s set h
theorem xg612 (set : List ByteArray) (h : set.length < 4611686018427387904) (s : ByteArray) : (x612 set).g (.c (.v (.string s)) :: [[D.sl (set.map srow)]].map fun cs => .c (.ip cs)) = some (True, .bool (hasS set s)) := mkX_g (fun a b h => by simp at h; exact h) s h
theorem k565 (c : Cn) (set : List ByteArray) (h1 : c.mem.length < 68719476736) (h2 : set.length < 4611686018427387904) (H : List O) :
  ACalls Tryz.prog G0 65 [.c (.d (.ip c.cs)), .c (.d (.sl (set.map srow)))] H (Own H 1 ((stayS c.mem set).map srow)) := by
 refine acallsX (X := []) trivial tab hmix Tryz.func65 c565 (by rfl) fun hw => ?_
 have hce : c.cs = [.sl (c.mem.map srow), .sl (c.l.map Edit.row), .sl (c.vs.map Vote.row)] := rfl
 simp (implicitDefEqProofs := false) (disch := omega) [gz, ir565, b565, hce]
 obtain ⟨H2, hH2⟩ : ∃ H2, H2 = H ++ [O.cells [.d (.sl (set.map srow))]] := ⟨_, rfl⟩
 rw [← hH2]
 refine (k611 c.mem h1 H2).mono ?_
 rintro t H' ⟨rfl, rfl⟩
 simp only [callK]
 simp (implicitDefEqProofs := false) (disch := omega) [gz, wrap64]
 have hcaps : ∀ (L : List O), mapO (toBV (H2 ++ L)) ([(H.length, 0)].map fun c : Nat × Nat => V.c (.ptr c.1 c.2)) = some ([[D.sl (set.map srow)]].map fun cs => PVo.c (.ip cs)) := fun L => by
  rw [hH2]
  simp [mapO, toBV]
 have hl2 : H2.length = H.length + 1 := by rw [hH2]; simp
 have h2 := k610 (hasS set) 112 (by simp) [(H.length, 0)] [[D.sl (set.map srow)]] (x612 set) (kx612 set) rfl (xg612 set h2) c.mem (by omega) (H2 ++ [.row 1 []]) H2.length (by simp)
  (fun xs => by rw [set_snoc, hH2]; simp) (fun xs L => by rw [set_snoc, List.append_assoc]; exact hcaps _) (by simp; omega)
 rw [set_snoc] at h2
 have e0 : (c.mem.map srow).length = c.mem.length := by simp
 rw [e0] at *
 refine h2.mono ?_
 rintro t H' ⟨rfl, rfl⟩
 rw [set_snoc]
 simp only [callK]
 simp (implicitDefEqProofs := false) (disch := omega) [gz, wrap64]
 have hf : c.mem.filter (fun s => !hasS set s) = stayS c.mem set := rfl
 rw [hf, hl2, hH2]
 have := fin_own (P := Tryz.prog) (H := H) (L := [.cells [.d (.sl (set.map srow))], .row 1 ((stayS c.mem set).map srow)]) (k := 1) (n := (stayS c.mem set).length) hw rfl (by simp)
 simpa using this
theorem k560 (c : Cn) (set : List ByteArray) (h1 : c.vs.length < 68719476736) (h2 : set.length < 4611686018427387904) (H : List O) :
  ACalls Tryz.prog G0 60 [.c (.d (.ip c.cs)), .c (.d (.sl (set.map srow)))] H (Own H 19 ((ofV c.vs set).map Vote.row)) := by
 refine acallsX (X := []) trivial tab hmix Tryz.func60 c560 (by rfl) fun hw => ?_
 have hce : c.cs = [.sl (c.mem.map srow), .sl (c.l.map Edit.row), .sl (c.vs.map Vote.row)] := rfl
 simp (implicitDefEqProofs := false) (disch := omega) [gz, ir560, b560, hce]
 obtain ⟨H2, hH2⟩ : ∃ H2, H2 = H ++ [O.cells [.d (.sl (set.map srow))]] := ⟨_, rfl⟩
 rw [← hH2]
 refine (k606 c.vs h1 H2).mono ?_
 rintro t H' ⟨rfl, rfl⟩
 simp only [callK]
 simp (implicitDefEqProofs := false) (disch := omega) [gz, wrap64]
 have hcaps : ∀ (L : List O), mapO (toBV (H2 ++ L)) ([(H.length, 0)].map fun c : Nat × Nat => V.c (.ptr c.1 c.2)) = some ([[D.sl (set.map srow)]].map fun cs => PVo.c (.ip cs)) := fun L => by
  rw [hH2]
  simp [mapO, toBV]
 have hl2 : H2.length = H.length + 1 := by rw [hH2]; simp
 have h3 := k605 (fun v => !decide (v.set = set)) 107 (by simp) [(H.length, 0)] [[D.sl (set.map srow)]] (x607 set) (kx607 set) rfl (xg607 set h2) c.vs (by omega) (H2 ++ [.row 19 []]) H2.length (by simp)
  (fun xs => by rw [set_snoc, hH2]; simp) (fun xs L => by rw [set_snoc, List.append_assoc]; exact hcaps _) (by simp; omega)
 rw [set_snoc] at h3
 have e0 : (c.vs.map Vote.row).length = c.vs.length := by simp
 rw [e0] at *
 refine h3.mono ?_
 rintro t H' ⟨rfl, rfl⟩
 rw [set_snoc]
 simp only [callK]
 simp (implicitDefEqProofs := false) (disch := omega) [gz, wrap64]
 have hf : c.vs.filter (fun v => decide (v.set = set)) = ofV c.vs set := rfl
 rw [hf, hl2, hH2]
 have := fin_own (P := Tryz.prog) (H := H) (L := [.cells [.d (.sl (set.map srow))], .row 19 ((ofV c.vs set).map Vote.row)]) (k := 1) (n := (ofV c.vs set).length) hw rfl (by simp)
 simpa using this
theorem Cn.cs_inj {a b : Cn} (h : a.cs = b.cs) : a = b := by
 unfold Cn.cs at h
 simp only [List.cons.injEq, D.sl.injEq] at h
 cases a; cases b
 have e1 := srow_inj h.1
 have e2 := rows_inj h.2.1
 have e3 := map_inj (fun _ _ => Vote.row_inj) h.2.2.1
 simp only at e1 e2 e3
 rw [e1, e2, e3]
theorem injCS (a b : Cn × List ByteArray) (h : [PVo.c (D.ip a.1.cs), PVo.c (.sl (a.2.map srow))] = [PVo.c (.ip b.1.cs), .c (.sl (b.2.map srow))]) : a = b := by
 simp only [List.cons.injEq, PVo.c.injEq, D.ip.injEq, D.sl.injEq] at h
 exact Prod.ext (Cn.cs_inj h.1) (srow_inj h.2.1)
noncomputable def x565 : XE := mkX false (fun (p : Cn × List ByteArray) => [.c (.ip p.1.cs), .c (.sl (p.2.map srow))]) (fun p => p.1.mem.length < 68719476736 ∧ p.2.length < 4611686018427387904) (fun p => .v (.c (.d (.sl ((stayS p.1.mem p.2).map srow)))))
theorem kx565 : Contract Tryz.prog G0 65 x565 := mkX_data fun p h H => own_data (k565 p.1 p.2 h.1 h.2 H)
theorem xg565 (c : Cn) (set : List ByteArray) (h1 : c.mem.length < 68719476736) (h2 : set.length < 4611686018427387904) : x565.g [.c (.ip c.cs), .c (.sl (set.map srow))] = some (True, .v (.c (.d (.sl ((stayS c.mem set).map srow))))) := mkX_g injCS (c, set) ⟨h1, h2⟩
noncomputable def x560 : XE := mkX false (fun (p : Cn × List ByteArray) => [.c (.ip p.1.cs), .c (.sl (p.2.map srow))]) (fun p => p.1.vs.length < 68719476736 ∧ p.2.length < 4611686018427387904) (fun p => .v (.c (.d (.sl ((ofV p.1.vs p.2).map Vote.row)))))
theorem kx560 : Contract Tryz.prog G0 60 x560 := mkX_data fun p h H => own_data (k560 p.1 p.2 h.1 h.2 H)
theorem xg560 (c : Cn) (set : List ByteArray) (h1 : c.vs.length < 68719476736) (h2 : set.length < 4611686018427387904) : x560.g [.c (.ip c.cs), .c (.sl (set.map srow))] = some (True, .v (.c (.d (.sl ((ofV c.vs set).map Vote.row))))) := mkX_g injCS (c, set) ⟨h1, h2⟩
end Go.Aw.Try

namespace Go.Aw.Try
open Go Go.Proofs Go.Aw
set_option maxRecDepth 100000
set_option maxHeartbeats 4000000
/-! ### the closures of out -/
def setrow (s : List ByteArray) : List D := [.sl (s.map srow)]
theorem setrow_inj {a b : List ByteArray} (h : setrow a = setrow b) : a = b := by
 unfold setrow at h
 simp only [List.cons.injEq, D.sl.injEq] at h
 exact srow_inj h.1
theorem sets_inj {a b : List (List ByteArray)} (h : a.map setrow = b.map setrow) : a = b := map_inj (fun _ _ => setrow_inj) h
theorem votes_inj {a b : List Vote} (h : a.map Vote.row = b.map Vote.row) : a = b := map_inj (fun _ _ => Vote.row_inj) h
/-- slices.IndexFunc at List ByteArray. -/
theorem k613 (pr : List ByteArray → Bool) (g : Nat) (cps : List (List D)) (xg : XE) (hx : Contract Tryz.prog G0 g xg) (hsc : xg.sc = true)
  (hxg : ∀ e, xg.g (.c (.sl (e.map srow)) :: cps.map fun cs => .c (.ip cs)) = some (True, .bool (pr e))) (es : List (List ByteArray)) (hl : es.length < 4611686018427387904) :
  ACalls Tryz.prog G0 113 [.c (.d (.sl (es.map setrow))), .c (.d (.fn g (cps.map .ip)))] [] fun t H => t = .int .i64 (idxF pr 0 es) ∧ H = [] := by
 refine acallsX (X := [(g, xg)]) ⟨hx, trivial⟩ tab hmix Tryz.func113 c613 (by rfl) fun hw => ?_
 simp (implicitDefEqProofs := false) (disch := omega) [gz, ir613, b613, wrap64]
 refine loopG (fun k s => ∃ i, i ≤ es.length ∧ k = es.length - i ∧ idxF pr 0 es = idxF pr i (es.drop i) ∧
  s = ⟨ofL [(0, .v (.c (.d (.sl (es.map setrow))))), (1, .v (.c (.d (.fn g (cps.map .ip))))), (7, .int .i64 es.length), (8, .int .i64 i)], []⟩) ?_ ?_
 ·refine wk_keep [0, 1, 7, 8] ⟨_, 0, by omega, rfl, rfl, ?_⟩
  simp
 ·rintro J hJ k s ⟨i, hi, rfl, hid, rfl⟩
  by_cases hlt : i < es.length
  ·have hst := idxF_step pr hlt
   obtain ⟨e, he⟩ : ∃ e, nth es i = e := ⟨_, rfl⟩
   have hee : setrow e = [.sl (e.map srow)] := rfl
   have hxg := hxg e
   skip
   rw [he] at hst
   simp (implicitDefEqProofs := false) (disch := omega) [gz, hlt, wrap64, nth_map, he, hee, mapO_ipc, hsc, hxg]
   refine ⟨fun h => ?_, fun h => ?_⟩
   ·rw [if_pos h] at hst
    exact fin_nil ⟨by rw [hid, hst]; rfl, rfl⟩
   ·rw [if_neg (by simp [h])] at hst
    subst hJ
    refine wk_keep [0, 1, 7, 8] ⟨es.length - (i + 1), by omega, i + 1, by omega, rfl, by rw [hid, hst], ?_⟩
    simp
  ·simp (implicitDefEqProofs := false) (disch := omega) [gz, hlt]
   rw [hid, List.drop_eq_nil_of_le (by omega)]
   exact fin_nil ⟨rfl, rfl⟩
def x613 (pr : List ByteArray → Bool) (g : Nat) (cps : List (List D)) (es : List (List ByteArray)) : XE := ⟨true, fun ps => some (ps = [.c (.sl (es.map setrow)), .c (.fn g (cps.map .ip))], .int .i64 (idxF pr 0 es))⟩
theorem kx613 (pr : List ByteArray → Bool) (g : Nat) (cps : List (List D)) (xg : XE) (hx : Contract Tryz.prog G0 g xg) (hsc : xg.sc = true)
  (hxg : ∀ e, xg.g (.c (.sl (e.map srow)) :: cps.map fun cs => .c (.ip cs)) = some (True, .bool (pr e))) (es : List (List ByteArray)) (hl : es.length < 4611686018427387904) : Contract Tryz.prog G0 113 (x613 pr g cps es) := contract_sc fun ps ob t h ho => by
 injection h with h; injection h with h1 h2; subst h2; subst h1
 subst ho
 exact ⟨rfl, k613 pr g cps xg hx hsc hxg es hl⟩
/-- slices.ContainsFunc at List ByteArray. -/
theorem k567 (pr : List ByteArray → Bool) (g : Nat) (cps : List (List D)) (xg : XE) (hx : Contract Tryz.prog G0 g xg) (hsc : xg.sc = true)
  (hxg : ∀ e, xg.g (.c (.sl (e.map srow)) :: cps.map fun cs => .c (.ip cs)) = some (True, .bool (pr e))) (es : List (List ByteArray)) (hl : es.length < 4611686018427387904) :
  ACalls Tryz.prog G0 67 [.c (.d (.sl (es.map setrow))), .c (.d (.fn g (cps.map .ip)))] [] fun t H => t = .bool (es.any pr) ∧ H = [] := by
 have h1 : (x613 pr g cps es).sc = true := rfl
 refine acallsX (X := [(113, x613 pr g cps es)]) ⟨kx613 pr g cps xg hx hsc hxg es hl, trivial⟩ tab hmix Tryz.func67 c567 (by rfl) fun hw => ?_
 have ha := idxF_any pr es 0
 by_cases h : 0 ≤ idxF pr 0 es
 ·rw [ha.1 h]
  simp (implicitDefEqProofs := false) (disch := omega) [gz, ir567, b567, h1, x613, h]
  exact fin_nil ⟨rfl, rfl⟩
 ·have : es.any pr = false := by
   cases hb : es.any pr
   ·rfl
   ·exact absurd (ha.2 hb) h
  rw [this]
  simp (implicitDefEqProofs := false) (disch := omega) [gz, ir567, b567, h1, x613, h]
  exact fin_nil ⟨rfl, rfl⟩
/-- Has the member voted? -/
def saidB (vs : List Vote) (s : ByteArray) : Bool := vs.any fun v => decide (v.e.id.a = s)
noncomputable def x563 (s : ByteArray) : XE := mkX true (fun (v : Vote) => [.agg v.row, .c (.ip [.v (.string s)])]) (fun _ => True) (fun v => .bool (decide (v.e.id.a = s)))
theorem k563 (v : Vote) (s : ByteArray) : ACalls Tryz.prog G0 63 [.agg (v.row.map .d), .c (.d (.ip [.v (.string s)]))] [] fun t H => t = .bool (decide (v.e.id.a = s)) ∧ H = [] := by
 refine acallsX (X := []) trivial tab hmix Tryz.func63 c563 (by rfl) fun hw => ?_
 have hee := Vote.row_eq v
 simp (implicitDefEqProofs := false) (disch := omega) [gz, ir563, b563, hee, binSF]
 exact fin_nil ⟨rfl, rfl⟩
theorem kx563 (s : ByteArray) : Contract Tryz.prog G0 63 (x563 s) := mkX_scal (fun _ => rfl) fun v _ => k563 v s
theorem xg563 (s : ByteArray) (v : Vote) : (x563 s).g (.agg (Vote.row v) :: [[D.v (.string s)]].map fun cs => .c (.ip cs)) = some (True, .bool (decide (v.e.id.a = s))) := mkX_g (fun a b h => by simp at h; exact Vote.row_inj h) v trivial
noncomputable def x62a : XE := mkX true (fun (p : List Vote × ByteArray) => [.c (.sl (p.1.map Vote.row)), .c (.fn 63 [.ip [.v (.string p.2)]])]) (fun p => p.1.length < 4611686018427387904) (fun p => .bool (saidB p.1 p.2))
theorem kx62a : Contract Tryz.prog G0 62 x62a := mkX_scal (fun _ => rfl) fun p h => k562 (fun v => decide (v.e.id.a = p.2)) 63 [[D.v (.string p.2)]] (x563 p.2) (kx563 p.2) rfl (xg563 p.2) p.1 h
theorem xg62a (vs : List Vote) (s : ByteArray) (h : vs.length < 4611686018427387904) : x62a.g [.c (.sl (vs.map Vote.row)), .c (.fn 63 [.ip [.v (.string s)]])] = some (True, .bool (saidB vs s)) := mkX_g (fun a b h => by
 simp only [List.cons.injEq, PVo.c.injEq, D.sl.injEq, D.fn.injEq, D.ip.injEq, D.v.injEq, Value.string.injEq] at h
 exact Prod.ext (votes_inj h.1) h.2.1.2.1.1) (vs, s) h
theorem k561 (s : ByteArray) (vs : List Vote) (h : vs.length < 4611686018427387904) : ACalls Tryz.prog G0 61 [Sx s, .c (.d (.ip [.sl (vs.map Vote.row)]))] [] fun t H => t = .bool (saidB vs s) ∧ H = [] := by
 have h1 : x62a.sc = true := rfl
 have g := xg62a vs s h
 refine acallsX (X := [(62, x62a)]) ⟨kx62a, trivial⟩ tab hmix Tryz.func61 c561 (by rfl) fun hw => ?_
 simp (implicitDefEqProofs := false) (disch := omega) [gz, ir561, b561, h1, g]
 exact fin_nil ⟨rfl, rfl⟩
noncomputable def x561 (vs : List Vote) : XE := mkX true (fun (s : ByteArray) => [.c (.v (.string s)), .c (.ip [.sl (vs.map Vote.row)])]) (fun _ => vs.length < 4611686018427387904) (fun s => .bool (saidB vs s))
theorem kx561 (vs : List Vote) : Contract Tryz.prog G0 61 (x561 vs) := mkX_scal (fun _ => rfl) fun s h => k561 s vs h
theorem xg561 (vs : List Vote) (h : vs.length < 4611686018427387904) (s : ByteArray) : (x561 vs).g [.c (.v (.string s)), .c (.ip [.sl (vs.map Vote.row)])] = some (True, .bool (saidB vs s)) := mkX_g (fun a b h => by simp at h; exact h) s h
theorem k566 (s : ByteArray) (vs : List Vote) (h : vs.length < 4611686018427387904) : ACalls Tryz.prog G0 66 [Sx s, .c (.d (.ip [.fn 61 [.ip [.sl (vs.map Vote.row)]]]))] [] fun t H => t = .bool (!saidB vs s) ∧ H = [] := by
 have h1 : (x561 vs).sc = true := rfl
 have g := xg561 vs h s
 refine acallsX (X := [(61, x561 vs)]) ⟨kx561 vs, trivial⟩ tab hmix Tryz.func66 c566 (by rfl) fun hw => ?_
 simp (implicitDefEqProofs := false) (disch := omega) [gz, ir566, b566, h1, g]
 exact fin_nil ⟨rfl, rfl⟩
noncomputable def x566 (vs : List Vote) : XE := mkX true (fun (s : ByteArray) => [.c (.v (.string s)), .c (.ip [.fn 61 [.ip [.sl (vs.map Vote.row)]]])]) (fun _ => vs.length < 4611686018427387904) (fun s => .bool (!saidB vs s))
theorem kx566 (vs : List Vote) : Contract Tryz.prog G0 66 (x566 vs) := mkX_scal (fun _ => rfl) fun s h => k566 s vs h
theorem xg566 (vs : List Vote) (h : vs.length < 4611686018427387904) (s : ByteArray) : (x566 vs).g (.c (.v (.string s)) :: [[D.fn 61 [.ip [.sl (vs.map Vote.row)]]]].map fun cs => .c (.ip cs)) = some (True, .bool (!saidB vs s)) := mkX_g (fun a b h => by simp at h; exact h) s h
noncomputable def x64a : XE := mkX true (fun (p : List ByteArray × List Vote) => [.c (.sl (p.1.map srow)), .c (.fn 66 [.ip [.fn 61 [.ip [.sl (p.2.map Vote.row)]]]])]) (fun p => p.1.length < 4611686018427387904 ∧ p.2.length < 4611686018427387904) (fun p => .bool (p.1.any fun s => !saidB p.2 s))
theorem kx64a : Contract Tryz.prog G0 64 x64a := mkX_scal (fun _ => rfl) fun p h => k564 (fun s => !saidB p.2 s) 66 [[D.fn 61 [.ip [.sl (p.2.map Vote.row)]]]] (x566 p.2) (kx566 p.2) rfl (xg566 p.2 h.2) p.1 h.1
theorem xg64a (l : List ByteArray) (vs : List Vote) (h1 : l.length < 4611686018427387904) (h2 : vs.length < 4611686018427387904) : x64a.g [.c (.sl (l.map srow)), .c (.fn 66 [.ip [.fn 61 [.ip [.sl (vs.map Vote.row)]]]])] = some (True, .bool (l.any fun s => !saidB vs s)) := mkX_g (fun a b h => by
 simp only [List.cons.injEq, PVo.c.injEq, D.sl.injEq, D.fn.injEq, D.ip.injEq] at h
 exact Prod.ext (srow_inj h.1) (votes_inj h.2.1.2.1.1.2.1.1)) (l, vs) ⟨h1, h2⟩
noncomputable def x568 (v : Vote) : XE := mkX true (fun (x : List ByteArray) => [.c (.sl (x.map srow)), .c (.ip v.row)]) (fun _ => v.set.length < 4611686018427387904) (fun x => .bool (decide (x = v.set)))
theorem k568 (x : List ByteArray) (v : Vote) (h : v.set.length < 4611686018427387904) : ACalls Tryz.prog G0 68 [.c (.d (.sl (x.map srow))), .c (.d (.ip v.row))] [] fun t H => t = .bool (decide (x = v.set)) ∧ H = [] := by
 have h1 : x569.sc = true := rfl
 have g := xg569 x v.set h
 obtain ⟨q, hq⟩ : ∃ q, q = decide (x = v.set) := ⟨_, rfl⟩
 rw [← hq] at g ⊢
 refine acallsX (X := [(69, x569)]) ⟨kx569, trivial⟩ tab hmix Tryz.func68 c568 (by rfl) fun hw => ?_
 have hee := Vote.row_eq v
 simp (implicitDefEqProofs := false) (disch := omega) [gz, ir568, b568, hee, h1, g]
 exact fin_nil ⟨rfl, rfl⟩
theorem kx568 (v : Vote) : Contract Tryz.prog G0 68 (x568 v) := mkX_scal (fun _ => rfl) fun x h => k568 x v h
theorem xg568 (v : Vote) (h : v.set.length < 4611686018427387904) (x : List ByteArray) : (x568 v).g (.c (.sl (x.map srow)) :: [v.row].map fun cs => .c (.ip cs)) = some (True, .bool (decide (x = v.set))) := mkX_g (fun a b h => by simp at h; exact srow_inj h) x h
noncomputable def x67a : XE := mkX true (fun (p : List (List ByteArray) × Vote) => [.c (.sl (p.1.map setrow)), .c (.fn 68 [.ip p.2.row])]) (fun p => p.1.length < 4611686018427387904 ∧ p.2.set.length < 4611686018427387904) (fun p => .bool (p.1.any fun x => decide (x = p.2.set)))
theorem kx67a : Contract Tryz.prog G0 67 x67a := mkX_scal (fun _ => rfl) fun p h => k567 (fun x => decide (x = p.2.set)) 68 [p.2.row] (x568 p.2) (kx568 p.2) rfl (xg568 p.2 h.2) p.1 h.1
theorem xg67a (l : List (List ByteArray)) (v : Vote) (h1 : l.length < 4611686018427387904) (h2 : v.set.length < 4611686018427387904) : x67a.g [.c (.sl (l.map setrow)), .c (.fn 68 [.ip v.row])] = some (True, .bool (l.any fun x => decide (x = v.set))) := mkX_g (fun a b h => by
 simp only [List.cons.injEq, PVo.c.injEq, D.sl.injEq, D.fn.injEq, D.ip.injEq] at h
 exact Prod.ext (sets_inj h.1) (Vote.row_inj h.2.1.2.1)) (l, v) ⟨h1, h2⟩
end Go.Aw.Try

namespace Go.Aw.Try
open Go Go.Proofs Go.Aw
set_option maxRecDepth 100000
set_option maxHeartbeats 4000000
/-! ### sets, sorted by their size -/
/-- The sizes compared. -/
def cmpL (a b : List ByteArray) : Int := IntKind.i64.wrap ((a.length : Int) - b.length)
theorem k571' (a b : List ByteArray) : ACalls Tryz.prog G0 71 [.c (.d (.sl (a.map srow))), .c (.d (.sl (b.map srow)))] [] fun t H => t = .int .i64 (cmpL a b) ∧ H = [] := by
 refine acallsX (X := []) trivial tab hmix Tryz.func71 c571 (by rfl) fun hw => ?_
 unfold cmpL
 simp (implicitDefEqProofs := false) (disch := omega) [gz, ir571, b571]
 exact fin_nil ⟨rfl, rfl⟩
noncomputable def x571' : XE := mkX true (fun (p : List ByteArray × List ByteArray) => [.c (.sl (p.1.map srow)), .c (.sl (p.2.map srow))]) (fun _ => True) (fun p => .int .i64 (cmpL p.1 p.2))
theorem kx571' : Contract Tryz.prog G0 71 x571' := mkX_scal (fun _ => rfl) fun p _ => k571' p.1 p.2
theorem xg571' (a b : List ByteArray) : x571'.g [.c (.sl (a.map srow)), .c (.sl (b.map srow))] = some (True, .int .i64 (cmpL a b)) := mkX_g injSL (a, b) trivial
theorem k636 (cmp : (List ByteArray) → (List ByteArray) → Int) (f : Nat) (xf : XE) (hx : Contract Tryz.prog G0 f xf) (hsc : xf.sc = true)
  (hxg : ∀ a b, xf.g [.c (.sl (a.map srow)), .c (.sl (b.map srow))] = some (True, .int .i64 (cmp a b))) (es : List (List ByteArray)) (a b : Nat) (hab : a ≤ b) (hb : b ≤ es.length) (hl : es.length < 4611686018427387904)
  (H : List O) (r : Nat) (hr : r < H.length) :
  ACalls Tryz.prog G0 136 [.c (.os r 1 0 es.length), I a, I b, .c (.fn f [])] (H.set r (.row 1 (es.map setrow))) fun t H' => t = .tup [] ∧ H' = H.set r (.row 1 ((insN cmp a (b - (a + 1)) (a + 1) es).map setrow)) := by
 have hse : ∀ s, setrow s = [D.sl (s.map srow)] := fun _ => rfl
 refine acallsX (X := [(f, xf)]) ⟨hx, trivial⟩ tab hmix Tryz.func136 c636 (by rfl) fun hw => ?_
 simp (implicitDefEqProofs := false) (disch := omega) [gz, ir636, b636, wrap64]
 refine loopX (fun k s => ∃ i es', a < i ∧ (i ≤ b ∨ i = a + 1) ∧ k = b - i ∧ es'.length = es.length ∧ insN cmp a (b - i) i es' = insN cmp a (b - (a + 1)) (a + 1) es ∧
  s = ⟨ofL [(0, .v (.c (.os r 1 0 es.length))), (1, .int .i64 a), (2, .int .i64 b), (3, .v (.c (.fn f []))), (8, .int .i64 i)], H.set r (.row 1 (es'.map setrow))⟩) ?_ ?_
 ·refine wk_keep [0, 1, 2, 3, 8] ⟨_, a + 1, es, by omega, by omega, rfl, rfl, rfl, ?_⟩
  simp
 ·rintro k s ⟨i, es', hai, hib, rfl, hle, hins, rfl⟩
  by_cases hlt : i < b
  ·simp (implicitDefEqProofs := false) (disch := omega) [gz, hlt, wrap64]
   refine loopX (fun k s => ∃ j, a ≤ j ∧ j ≤ i ∧ k = j ∧ insP cmp es' a (nth es' i) i = insP cmp es' a (nth es' i) j ∧
    s = ⟨ofL [(0, .v (.c (.os r 1 0 es.length))), (1, .int .i64 a), (2, .int .i64 b), (3, .v (.c (.fn f []))), (8, .int .i64 i), (9, .int .i64 j)], H.set r (.row 1 ((mv es' i j).map setrow))⟩) ?_ ?_
   ·refine wk_keep [0, 1, 2, 3, 8, 9] ⟨_, i, by omega, by omega, rfl, rfl, ?_⟩
    simp [mv_self es' (show i < es'.length by omega)]
   ·rintro j s ⟨_, haj, hji, rfl, hp, rfl⟩
    by_cases hj : a < j
    ·have hil : i < es'.length := by omega
     have hml := mv_len es' hji hil
     have hjl : j < (mv es' i j).length := by omega
     have hjl' : j - 1 < (mv es' i j).length := by omega
     have e1 := mv_at es' hji hil
     have e2 := mv_pred es' hji hil (by omega)
     have eN : ((j : Int) - 1).toNat = j - 1 := by omega
     simp (implicitDefEqProofs := false) (disch := omega) [gz, hj, wrap64, hr, nth_map, hjl, hjl', e1, e2, eN, hse, splice, hsc, hxg]
     have htl : ∀ Z, (nth ((List.map setrow (mv es' i j)).set j Z) (j - 1)).tail = [] := fun Z => by rw [nth_set_ne (by omega), nth_map _ hjl']; rfl
     have hcast : ((j - 1 : Nat) : Int) = (j : Int) - 1 := by omega
     have hsw : (((mv es' i j).map setrow).set j [D.sl ((nth es' (j - 1)).map srow)]).set (j - 1) [D.sl ((nth es' i).map srow)] = (mv es' i (j - 1)).map setrow := by
      have q1 : [D.sl ((nth es' (j - 1)).map srow)] = setrow (nth es' (j - 1)) := rfl
      have q2 : [D.sl ((nth es' i).map srow)] = setrow (nth es' i) := rfl
      rw [q1, q2, ← List.map_set, ← List.map_set, mv_swap es' hji hil (by omega)]
     refine ⟨by kernel_rfl, by omega, by omega, fun hc => ?_, fun hc => ?_⟩
     ·repeat' apply And.intro
      all_goals first | omega | kernel_rfl | skip
      refine wk_keep [0, 1, 2, 3, 8, 9] ⟨j - 1, by omega, j - 1, by omega, by omega, rfl, ?_, ?_⟩
      ·rw [hp]
       obtain ⟨m, rfl⟩ : ∃ m, j = m + 1 := ⟨j - 1, by omega⟩
       simp only [insP]
       rw [if_pos ⟨hj, by simpa using hc⟩]; rfl
      ·simp [hcast, htl, hsw]
     ·have hpj : insP cmp es' a (nth es' i) i = j := by
       rw [hp]
       obtain ⟨m, rfl⟩ : ∃ m, j = m + 1 := ⟨j - 1, by omega⟩
       simp only [insP]
       rw [if_neg (fun q => absurd q.2 (by simpa using hc))]
      have e3 : b - i = (b - (i + 1)) + 1 := by omega
      refine wk_keep [0, 1, 2, 3, 8] ⟨b - (i + 1), by omega, i + 1, by omega, by omega, rfl, mv es' i j, by omega, ?_, ?_⟩
      ·rw [← hins, e3]; simp only [insN, hpj]
      ·simp
    ·have hil : i < es'.length := by omega
     have hml := mv_len es' hji hil
     simp (implicitDefEqProofs := false) (disch := omega) [gz, hj, wrap64]
     have hpj : insP cmp es' a (nth es' i) i = j := by
      rw [hp]
      cases j with
      | zero => rfl
      | succ m => simp only [insP]; rw [if_neg (fun q => hj q.1)]
     have e3 : b - i = (b - (i + 1)) + 1 := by omega
     refine ⟨by kernel_rfl, ?_⟩
     refine wk_keep [0, 1, 2, 3, 8] ⟨b - (i + 1), by omega, i + 1, by omega, by omega, rfl, mv es' i j, by omega, ?_, ?_⟩
     ·rw [← hins, e3]; simp only [insN, hpj]
     ·simp
  ·simp (implicitDefEqProofs := false) (disch := omega) [gz, hlt, wrap64]
   have e : b - i = 0 := by omega
   rw [e] at hins
   simp only [insN] at hins
   exact fin_here (by simp) ⟨rfl, by rw [hins]⟩
end Go.Aw.Try

namespace Go.Aw.Try
open Go Go.Proofs Go.Aw
set_option maxRecDepth 100000
set_option maxHeartbeats 4000000
theorem k94s (n : Nat) (hn : n ≤ 12) (H : List O) : ACalls Tryz.prog G0 145 [.c (.d (.v (.int .u64 n)))] H fun t H' => (∃ v, t = .int .i64 v) ∧ H' = H := by
 refine acallsX (X := []) trivial tab hmix Tryz.func145 c94 (by rfl) fun hw => ?_
 have h1 : ¬ (4294967296 : Int) ≤ n := by omega
 have h2 : ¬ (65536 : Int) ≤ n := by omega
 have h3 : ¬ (256 : Int) ≤ n := by omega
 have h4 : IntKind.u8.wrap n = n := by simp [IntKind.wrap, IntKind.bits, IntKind.signed]; omega
 simp (implicitDefEqProofs := false) (disch := omega) [gz, ir94, b94, wrap64, h1, h2, h3, h4]
 refine ⟨by simp [ByteArray.size]; omega, fin_here (by simp) ⟨⟨_, rfl⟩, rfl⟩⟩
theorem k75s (n : Nat) (hn : n ≤ 12) (H : List O) : ACalls Tryz.prog G0 115 [.c (.d (.v (.int .u64 n)))] H fun t H' => (∃ v, t = .int .i64 v) ∧ H' = H := by
 refine acallsX (X := []) trivial tab hmix Tryz.func115 c75 (by rfl) fun hw => ?_
 simp (implicitDefEqProofs := false) (disch := omega) [gz, ir75, b75, wrap64]
 refine (k94s n hn H).mono ?_
 rintro t H' ⟨⟨v, rfl⟩, rfl⟩
 simp (implicitDefEqProofs := false) (disch := omega) [gz, callK]
 exact fin_here (by simp) ⟨⟨_, rfl⟩, rfl⟩
theorem k614 (es : List (List ByteArray)) (hn : es.length ≤ 12) (v : Int) (H : List O) (r : Nat) (hr : r < H.length) :
  ACalls Tryz.prog G0 114 [.c (.os r 1 0 es.length), I 0, I es.length, I v, .c (.fn 71 [])] (H.set r (.row 1 (es.map setrow))) fun t H' => t = .tup [] ∧ H' = H.set r (.row 1 ((insN cmpL 0 (es.length - 1) 1 es).map setrow)) := by
 refine acallsX (X := []) trivial tab hmix Tryz.func114 c614 (by rfl) fun hw => ?_
 have h1 : (es.length : Int) ≤ 12 := by omega
 simp (implicitDefEqProofs := false) (disch := omega) [gz, ir614, b614, b614_0, b614_1, b614_2, wrap64]
 refine loopE (fun k s => s = ⟨ofL [(0, .v (.c (.os r 1 0 es.length))), (1, .int .i64 0), (2, .int .i64 es.length), (3, .int .i64 v), (4, .v (.c (.fn 71 [])))], H.set r (.row 1 (es.map setrow))⟩) (fun s => False) ?_ ?_ ?_
 ·refine wk_keep [0, 1, 2, 3, 4] ⟨0, ?_⟩
  simp
 ·rintro J L hJ hL k s rfl
  simp (implicitDefEqProofs := false) (disch := omega) [gz, wrap64, h1]
  refine (k636 cmpL 71 x571' kx571' rfl xg571' es 0 es.length (by omega) (by omega) (by omega) H r hr).mono ?_
  rintro t H' ⟨rfl, rfl⟩
  simp (implicitDefEqProofs := false) (disch := omega) [gz, callK]
  exact fin_here (by simp) ⟨rfl, rfl⟩
 ·rintro _ h
  exact h.elim
theorem k570 (es : List (List ByteArray)) (hn : es.length ≤ 12) (H : List O) (r : Nat) (hr : r < H.length) :
  ACalls Tryz.prog G0 70 [.c (.os r 1 0 es.length), .c (.fn 71 [])] (H.set r (.row 1 (es.map setrow))) fun t H' => t = .tup [] ∧ H' = H.set r (.row 1 ((insN cmpL 0 (es.length - 1) 1 es).map setrow)) := by
 refine acallsX (X := []) trivial tab hmix Tryz.func70 c570 (by rfl) fun hw => ?_
 have e0 : IntKind.u64.wrap (es.length : Int) = es.length := by simp [IntKind.wrap, IntKind.bits, IntKind.signed]; omega
 simp (implicitDefEqProofs := false) (disch := omega) [gz, ir570, b570, wrap64, e0]
 refine (k75s es.length hn _).mono ?_
 rintro t H' ⟨⟨v, rfl⟩, rfl⟩
 simp (implicitDefEqProofs := false) (disch := omega) [gz, callK]
 refine (k614 es hn v H r hr).mono ?_
 rintro t H' ⟨rfl, rfl⟩
 simp (implicitDefEqProofs := false) (disch := omega) [gz, callK]
 exact fin_here (by simp) ⟨rfl, rfl⟩
end Go.Aw.Try
