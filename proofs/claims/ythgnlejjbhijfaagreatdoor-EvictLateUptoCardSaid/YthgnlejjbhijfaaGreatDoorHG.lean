/- An abstract machine over the model, and contracts of functions of this program on it (part 7): words and lemmas for the proof in the last text. -/
import Derived.WalkKit
import Derived.ProofKit
import Derived.OpenShut
import Derived.JoinedCond
import Derived.Carry
import Derived.Test.YthgnlejjbhijfaaGreatDoorCards
import Derived.Test.YthgnlejjbhijfaaGreatDoorTie
import Derived.Deep.DeepHandedRow
import Derived.Shelf.Vars
import Derived.Test.YthgnlejjbhijfaaGreatDoorHF
set_option linter.unusedSimpArgs false
set_option linter.unusedVariables false
set_option linter.unusedSectionVars false

namespace Go.Aw.Try
open Go Go.Proofs Go.Aw
set_option maxRecDepth 100000
set_option maxHeartbeats 4000000
/-! ### names of authors -/
def byt (s : ByteArray) (i : Nat) : Int := ((s.data[i]?.getD 0).toNat : Int)
def badA (s : ByteArray) (i : Nat) : Bool := !(decide (97 ≤ byt s i) && decide (byt s i ≤ 122)) && (decide (i = 0) || (decide (byt s i < 48) || decide (57 < byt s i)))
def authB (s : ByteArray) : Bool := decide (∀ j, j < s.size → badA s j = false) && (decide (0 < s.size) && decide (s.size ≤ 24))
theorem k526 (s : ByteArray) (hs : s.size < 4611686018427387904) : ACalls Tryz.prog G0 26 [Sx s] [] fun t H => t = .bool (authB s) ∧ H = [] := by
  refine acallsX (X := []) trivial tab hmix Tryz.func26 c526 (by rfl) fun hw => ?_
  simp (implicitDefEqProofs := false) (disch := omega) [List.getElem?_cons_zero, ir526, b526, wrap64]
  refine loopE (fun k st => ∃ i, i ≤ s.size ∧ k = s.size - i ∧ (∀ j, j < i → badA s j = false) ∧
      st = ⟨ofL [(0, .v (.c (.d (.v (.string s))))), (3, .int .i64 i)], []⟩)
    (fun st => (∀ j, j < s.size → badA s j = false) ∧ AtS [(0, .v (.c (.d (.v (.string s)))))] [] st) ?_ ?_ ?_
  · refine wk_keep [0, 3] ⟨_, 0, by omega, rfl, fun j hj => by omega, ?_⟩
    simp
  · rintro J L hJ hL k st ⟨i, hi, rfl, hb, rfl⟩
    by_cases hlt : i < s.size
    · have hby : ((s.data[i]?.getD 0).toNat : Int) = byt s i := rfl
      obtain ⟨b, hbb⟩ : ∃ b, b = byt s i := ⟨_, rfl⟩
      have hbad : badA s i = (!(decide (97 ≤ b) && decide (b ≤ 122)) && (decide (i = 0) || (decide (b < 48) || decide (57 < b)))) := by rw [hbb]; rfl
      rw [← hbb] at hby
      by_cases c1 : 97 ≤ b
      · have c1' : ¬ b < 97 := by omega
        by_cases c2 : b ≤ 122
        · have c2' : ¬ 122 < b := by omega
          simp (implicitDefEqProofs := false) (disch := omega) [List.getElem?_cons_zero, hlt, wrap64, hby, c1, c1', c2, c2']
          subst hJ
          refine wk_keep [0, 3] ⟨s.size - (i + 1), by omega, i + 1, by omega, rfl, fun j hj => ?_, ?_⟩
          · by_cases e1 : j = i
            · subst e1; rw [hbad]; simp [c1, c1', c2, c2']
            · exact hb j (by omega)
          · simp
        · have c2' : 122 < b := by omega
          by_cases c3 : i = 0
          · subst c3
            rw [show authB s = false from by unfold authB; rw [decide_eq_false (fun h => by have := h 0 hlt; rw [hbad] at this; simp [c1, c1', c2, c2'] at this), Bool.false_and]]
            simp (implicitDefEqProofs := false) (disch := omega) [List.getElem?_cons_zero, hlt, wrap64, hby, c1, c1', c2, c2']
            exact fin_nil ⟨rfl, rfl⟩
          · have c4 : ¬ b < 48 := by omega
            have c4' : 48 ≤ b := by omega
            have c5 : 57 < b := by omega
            rw [show authB s = false from by unfold authB; rw [decide_eq_false (fun h => by have := h i hlt; rw [hbad] at this; simp [c1, c1', c2, c2', c3, c4, c4', c5] at this), Bool.false_and]]
            simp (implicitDefEqProofs := false) (disch := omega) [List.getElem?_cons_zero, hlt, wrap64, hby, c1, c1', c2, c2', c3, c4, c4', c5]
            exact fin_nil ⟨rfl, rfl⟩
      · have c1' : b < 97 := by omega
        by_cases c3 : i = 0
        · subst c3
          rw [show authB s = false from by unfold authB; rw [decide_eq_false (fun h => by have := h 0 hlt; rw [hbad] at this; simp [c1, c1'] at this), Bool.false_and]]
          simp (implicitDefEqProofs := false) (disch := omega) [List.getElem?_cons_zero, hlt, wrap64, hby, c1, c1']
          exact fin_nil ⟨rfl, rfl⟩
        · by_cases c4 : b < 48
          · have c4' : ¬ 48 ≤ b := by omega
            rw [show authB s = false from by unfold authB; rw [decide_eq_false (fun h => by have := h i hlt; rw [hbad] at this; simp [c1, c1', c3, c4, c4'] at this), Bool.false_and]]
            simp (implicitDefEqProofs := false) (disch := omega) [List.getElem?_cons_zero, hlt, wrap64, hby, c1, c1', c3, c4, c4']
            exact fin_nil ⟨rfl, rfl⟩
          · have c4' : 48 ≤ b := by omega
            by_cases c5 : 57 < b
            · have c5' : ¬ b ≤ 57 := by omega
              rw [show authB s = false from by unfold authB; rw [decide_eq_false (fun h => by have := h i hlt; rw [hbad] at this; simp [c1, c1', c3, c4, c4', c5, c5'] at this), Bool.false_and]]
              simp (implicitDefEqProofs := false) (disch := omega) [List.getElem?_cons_zero, hlt, wrap64, hby, c1, c1', c3, c4, c4', c5, c5']
              exact fin_nil ⟨rfl, rfl⟩
            · have c5' : b ≤ 57 := by omega
              simp (implicitDefEqProofs := false) (disch := omega) [List.getElem?_cons_zero, hlt, wrap64, hby, c1, c1', c3, c4, c4', c5, c5']
              subst hJ
              refine wk_keep [0, 3] ⟨s.size - (i + 1), by omega, i + 1, by omega, rfl, fun j hj => ?_, ?_⟩
              · by_cases e1 : j = i
                · subst e1; rw [hbad]; simp [c1, c1', c3, c4, c4', c5, c5']
                · exact hb j (by omega)
              · simp
    · have : i = s.size := by omega
      subst this
      simp (implicitDefEqProofs := false) (disch := omega) [List.getElem?_cons_zero, hlt]
      subst hL
      exact ⟨hb, at_mk (by simp) rfl⟩
  · rintro _ ⟨hb, sl, rfl⟩
    simp (implicitDefEqProofs := false) (disch := omega) [List.getElem?_cons_zero, wrap64]
    have ha : authB s = (decide (0 < s.size) && decide (s.size ≤ 24)) := by unfold authB; rw [decide_eq_true hb, Bool.true_and]
    refine ⟨fun h => fin_nil ⟨?_, rfl⟩, fun h => fin_nil ⟨?_, rfl⟩⟩
    · rw [ha, decide_eq_true h, Bool.true_and]
      have : decide ((s.size : Int) ≤ 24) = decide (s.size ≤ 24) := by
        by_cases q : s.size ≤ 24
        · rw [decide_eq_true q, decide_eq_true (by omega)]
        · rw [decide_eq_false q, decide_eq_false (by omega)]
      rw [this]; rfl
    · rw [ha, h]; rfl
noncomputable def x526 : XE := mkX true (fun (s : ByteArray) => [.c (.v (.string s))]) (fun s => s.size < 4611686018427387904) (fun s => .bool (authB s))
theorem kx526 : Contract Tryz.prog G0 26 x526 := mkX_scal (fun _ => rfl) fun s h => k526 s h
theorem xg526 (s : ByteArray) (h : s.size < 4611686018427387904) : x526.g [.c (.v (.string s))] = some (True, .bool (authB s)) := mkX_g (fun a b h => by simp at h; exact h) s h
/-! ### Check -/
def codeI (v : List Id) (i : Nat) : Int := if authB (nth v i).a = false then 7 else if (nth v i).n < 1 then 2 else if 0 < i ∧ (nth v i).a = (nth v (i - 1)).a then 8 else if 0 < i ∧ strLt (nth v i).a (nth v (i - 1)).a = true then 3 else 0
def chkV (v : List Id) : Nat → Nat → Int
  | _, 0 => 0
  | i, k + 1 => if codeI v i ≠ 0 then codeI v i else chkV v (i + 1) k
theorem k528 (v : List Id) (hl : v.length < 4611686018427387904) (hs : ∀ x ∈ v, x.a.size < 4611686018427387904) : ACalls Tryz.prog G0 28 [.c (.d (.sl (v.map Id.row)))] [] fun t H => t = .int .i64 (chkV v 0 v.length) ∧ H = [] := by
  have s1 : x526.sc = true := rfl
  refine acallsX (X := [(26, x526)]) ⟨kx526, trivial⟩ tab hmix Tryz.func28 c528 (by rfl) fun hw => ?_
  simp (implicitDefEqProofs := false) (disch := omega) [List.getElem?_cons_zero, ir528, b528, b528_0, b528_1, b528_2, b528_3, wrap64]
  refine loopE (fun k st => ∃ i, i ≤ v.length ∧ k = v.length - i ∧ chkV v 0 v.length = chkV v i (v.length - i) ∧
      st = ⟨ofL [(0, .v (.c (.d (.sl (v.map Id.row))))), (3, .int .i64 i)], []⟩)
    (fun st => chkV v 0 v.length = 0 ∧ AtS [] [] st) ?_ ?_ ?_
  · refine wk_keep [0, 3] ⟨_, 0, by omega, rfl, rfl, ?_⟩
    simp
  · rintro J L hJ hL k st ⟨i, hi, rfl, hb, rfl⟩
    by_cases hlt : i < v.length
    · obtain ⟨x, hx⟩ : ∃ x, nth v i = x := ⟨_, rfl⟩
      obtain ⟨y, hy⟩ : ∃ y, nth v (i - 1) = y := ⟨_, rfl⟩
      have hm : x ∈ v := by rw [← hx]; exact nth_mem hlt
      have hxr : x.row = [.v (.string x.a), .v (.int .i64 x.n)] := rfl
      have hyr : y.row = [.v (.string y.a), .v (.int .i64 y.n)] := rfl
      have g1 := xg526 x.a (hs x hm)
      have hk : v.length - i = (v.length - (i + 1)) + 1 := by omega
      rw [hk] at hb
      have hcd : codeI v i = if authB x.a = false then 7 else if x.n < 1 then 2 else if 0 < i ∧ x.a = y.a then 8 else if 0 < i ∧ strLt x.a y.a = true then 3 else 0 := by unfold codeI; rw [hx, hy]
      have hst : chkV v i (v.length - (i + 1) + 1) = if codeI v i ≠ 0 then codeI v i else chkV v (i + 1) (v.length - (i + 1)) := rfl
      rw [hcd] at hst
      obtain ⟨q, hq⟩ : ∃ q, q = authB x.a := ⟨_, rfl⟩
      rw [← hq] at g1 hst
      cases q
      · rw [hb, hst]
        simp (implicitDefEqProofs := false) (disch := omega) [List.getElem?_cons_zero, hlt, wrap64, nth_map, hx, hxr, s1, g1]
        exact fin_nil ⟨rfl, rfl⟩
      · by_cases c1 : x.n < 1
        · rw [hb, hst]
          simp (implicitDefEqProofs := false) (disch := omega) [List.getElem?_cons_zero, hlt, wrap64, nth_map, hx, hxr, s1, g1, c1]
          exact fin_nil ⟨rfl, rfl⟩
        · by_cases c2 : 0 < i
          · have hi1 : ((i : Int) - 1) = ((i - 1 : Nat) : Int) := by omega
            have hl1 : i - 1 < v.length := by omega
            by_cases c3 : x.a = y.a
            · rw [c3] at g1
              rw [hb, hst]
              simp (implicitDefEqProofs := false) (disch := omega) [List.getElem?_cons_zero, hlt, wrap64, nth_map, hx, hxr, hy, hyr, s1, g1, c1, c2, c3, hi1, hl1, binSF]
              repeat' (with_reducible apply And.intro)
              all_goals first | omega | kernel_rfl | exact fun _ _ => rfl | skip
              exact fin_nil ⟨rfl, rfl⟩
            · obtain ⟨p, hp⟩ : ∃ p, p = strLt x.a y.a := ⟨_, rfl⟩
              rw [← hp] at hst
              cases p
              · simp (implicitDefEqProofs := false) (disch := omega) [List.getElem?_cons_zero, hlt, wrap64, nth_map, hx, hxr, hy, hyr, s1, g1, c1, c2, c3, hi1, hl1, binSF, ← hp]
                repeat' (with_reducible apply And.intro)
                all_goals first | omega | kernel_rfl | exact fun _ _ => rfl | skip
                subst hJ
                refine wk_keep [0, 3] ⟨v.length - (i + 1), by omega, i + 1, by omega, rfl, ?_, ?_⟩
                · rw [hb, hst]; simp [c1, c2, c3]
                · simp
              · rw [hb, hst]
                simp (implicitDefEqProofs := false) (disch := omega) [List.getElem?_cons_zero, hlt, wrap64, nth_map, hx, hxr, hy, hyr, s1, g1, c1, c2, c3, hi1, hl1, binSF, ← hp]
                repeat' (with_reducible apply And.intro)
                all_goals first | omega | kernel_rfl | exact fun _ _ => rfl | skip
                exact fin_nil ⟨rfl, rfl⟩
          · have : i = 0 := by omega
            subst this
            simp (implicitDefEqProofs := false) (disch := omega) [List.getElem?_cons_zero, hlt, wrap64, nth_map, hx, hxr, s1, g1, c1]
            repeat' (with_reducible apply And.intro)
            all_goals first | omega | kernel_rfl | exact fun _ _ => rfl | skip
            subst hJ
            refine wk_keep [0, 3] ⟨v.length - (0 + 1), by omega, 0 + 1, by omega, rfl, ?_, ?_⟩
            · rw [hb, hst]; simp [c1]
            · simp
    · have : i = v.length := by omega
      subst this
      simp (implicitDefEqProofs := false) (disch := omega) [List.getElem?_cons_zero, hlt]
      subst hL
      refine ⟨by rw [hb, Nat.sub_self]; rfl, at_mk (by simp) rfl⟩
  · rintro _ ⟨hb, sl, rfl⟩
    rw [hb]
    simp (implicitDefEqProofs := false) (disch := omega) [List.getElem?_cons_zero, wrap64]
    exact fin_nil ⟨rfl, rfl⟩
noncomputable def x528 : XE := mkX true (fun (v : List Id) => [.c (.sl (v.map Id.row))]) (fun v => v.length < 4611686018427387904 ∧ ∀ x ∈ v, x.a.size < 4611686018427387904) (fun v => .int .i64 (chkV v 0 v.length))
theorem kx528 : Contract Tryz.prog G0 28 x528 := mkX_scal (fun _ => rfl) fun v h => k528 v h.1 h.2
theorem xg528 (v : List Id) (h1 : v.length < 4611686018427387904) (h2 : ∀ x ∈ v, x.a.size < 4611686018427387904) : x528.g [.c (.sl (v.map Id.row))] = some (True, .int .i64 (chkV v 0 v.length)) := mkX_g (fun a b h => by simp only [List.cons.injEq, PVo.c.injEq, D.sl.injEq] at h; exact map_inj (fun a b h => by cases a; cases b; simp [Id.row] at h; simp [h]) h.1) v ⟨h1, h2⟩
theorem chk_zero {v : List Id} : ∀ {k i : Nat}, chkV v i k = 0 → ∀ j, i ≤ j → j < i + k → codeI v j = 0
  | 0, i, _, j, h1, h2 => by omega
  | k + 1, i, h, j, h1, h2 => by
    simp only [chkV] at h
    split at h
    · rename_i hn; exact absurd h hn
    · rename_i hn
      by_cases e : j = i
      · subst e; exact Classical.byContradiction fun q => hn q
      · exact chk_zero h j (by omega) (by omega)
theorem cmpS_trans {a b c : ByteArray} (h1 : cmpS a b < 0) (h2 : cmpS b c < 0) : cmpS a c < 0 := by
  have h3 := cmpS_pre.tr a b c (by omega) (by omega)
  by_cases h : cmpS a c = 0
  · have := (cmpS_eq a c).1 h
    subst this
    have := cmpS_sgn a b
    omega
  · omega
theorem asc_of_adj {v : List Id} (h : ∀ j, 0 < j → j < v.length → cmpS (nth v (j - 1)).a (nth v j).a < 0) : AscI v := by
  have key : ∀ d i, i + d + 1 < v.length → cmpS (nth v i).a (nth v (i + d + 1)).a < 0 := by
    intro d
    induction d with
    | zero => intro i hi; exact h (i + 1) (by omega) hi
    | succ d ih =>
      intro i hi
      have h1 := ih i (by omega)
      have h2 := h (i + (d + 1) + 1) (by omega) hi
      exact cmpS_trans h1 h2
  unfold AscI
  rw [List.pairwise_iff_getElem]
  intro i j hi hj hij
  have := key (j - i - 1) i (by omega)
  rw [show i + (j - i - 1) + 1 = j from by omega, nth_eq hi, nth_eq hj] at this
  exact this
/-- A valid vector ascends. -/
theorem chk_asc {v : List Id} (h : chkV v 0 v.length = 0) : AscI v ∧ ∀ x ∈ v, 1 ≤ x.n := by
  have hc : ∀ j, j < v.length → codeI v j = 0 := fun j hj => chk_zero h j (by omega) (by omega)
  have hone : ∀ j, j < v.length → 1 ≤ (nth v j).n ∧ (0 < j → cmpS (nth v (j - 1)).a (nth v j).a < 0) := fun j hj => by
    have := hc j hj
    unfold codeI at this
    split at this
    · simp at this
    · split at this
      · simp at this
      · rename_i h2
        split at this
        · simp at this
        · rename_i h3
          split at this
          · simp at this
          · rename_i h4
            refine ⟨by omega, fun h0 => ?_⟩
            have h3 : (nth v j).a ≠ (nth v (j - 1)).a := fun e => h3 ⟨h0, e⟩
            have h4 : ¬ strLt (nth v j).a (nth v (j - 1)).a = true := fun e => h4 ⟨h0, e⟩
            rw [strLt_eq] at h4
            have h5 : ¬ cmpS (nth v j).a (nth v (j - 1)).a < 0 := fun q => h4 (decide_eq_true q)
            have h6 : cmpS (nth v j).a (nth v (j - 1)).a ≠ 0 := fun q => h3 ((cmpS_eq _ _).1 q)
            have := cmpS_sgn (nth v (j - 1)).a (nth v j).a
            omega
  refine ⟨asc_of_adj fun j h0 hj => (hone j hj).2 h0, fun x hx => ?_⟩
  obtain ⟨j, hj, rfl⟩ := List.mem_iff_getElem.1 hx
  have := (hone j hj).1
  rw [nth_eq hj] at this; exact this
end Go.Aw.Try

namespace Go.Aw.Try
open Go Go.Proofs Go.Aw
set_option maxRecDepth 100000
set_option maxHeartbeats 4000000
/-! ### Right -/
instance : Inhabited Edit := ⟨⟨⟨⟨#[]⟩, 0⟩, 0, 0, [], 0, ⟨⟨#[]⟩, 0⟩, ⟨⟨#[]⟩, 0⟩, false, ⟨#[]⟩, ⟨#[]⟩, ⟨#[]⟩, ⟨#[]⟩, ⟨⟨#[]⟩, 0⟩, ⟨#[]⟩⟩⟩
def okE (e : Edit) : Prop := chkV e.deps 0 e.deps.length = 0 ∧ e.deps.length ≤ 12 ∧ e.who.size ≤ 300 ∧ 1 ≤ e.id.n ∧ 0 ≤ e.clock
/-- What Right asks. -/
def OkR (l : List Edit) (all : List Member) : Prop := l.length ≤ 40 ∧ all.length ≤ 8 ∧
  (∀ i, i < all.length → authB (nth all i).name = true ∧ ∀ j, j < i → (nth all j).name ≠ (nth all i).name) ∧
  ∀ i, i < l.length → okE (nth l i) ∧ ∀ j, j < i → (nth l j).id = (nth l i).id → nth l j = nth l i
noncomputable def rightN (l : List Edit) (all : List Member) : Int := open Classical in if OkR l all then 1 else 0
theorem right_no {l : List Edit} {all : List Member} (h : ¬ OkR l all) : rightN l all = 0 := by unfold rightN; rw [if_neg h]
theorem right_yes {l : List Edit} {all : List Member} (h : OkR l all) : rightN l all = 1 := by unfold rightN; rw [if_pos h]
def szE (e : Edit) : Prop := e.deps.length < 4611686018427387904 ∧ (∀ x ∈ e.deps, x.a.size < 4611686018427387904)
theorem k512 (l : List Edit) (all : List Member) (h1 : l.length < 4611686018427387904) (h2 : all.length < 4611686018427387904) (h3 : ∀ m ∈ all, m.name.size < 4611686018427387904) (h4 : ∀ e ∈ l, szE e) :
    ACalls Tryz.prog G0 12 [.c (.d (.sl (l.map Edit.row))), .c (.d (.sl (all.map Member.row)))] [] fun t H => t = .int .i64 (rightN l all) ∧ H = [] := by
  have s1 : x526.sc = true := rfl
  have s2 : x528.sc = true := rfl
  have s3 : x37.sc = true := rfl
  refine acallsX (X := [(26, x526), (28, x528), (33, x37)]) ⟨kx526, kx528, kx37, trivial⟩ tab hmix Tryz.func12 c512 (by rfl) fun hw => ?_
  have no : ¬ OkR l all → ∀ Z, Fin Tryz.prog 0 (fun t H => t = .int .i64 (rightN l all) ∧ H = []) (.int .i64 0) Z := fun h Z => fin_nil ⟨by rw [right_no h]; rfl, rfl⟩
  obtain ⟨R0, hR0⟩ : ∃ r, r = rightN l all := ⟨_, rfl⟩
  have hno := @right_no l all
  have hyes := @right_yes l all
  rw [← hR0] at no hno hyes ⊢
  simp (implicitDefEqProofs := false) (disch := omega) [List.getElem?_cons_zero, ir512, b512, b512_0, b512_1, wrap64]
  refine ⟨fun c1 => ⟨fun c2 => no (fun h => by have := h.2.1; omega) _, fun c2 => ?_⟩, fun c1 => no (fun h => by have := h.1; omega) _⟩
  simp (implicitDefEqProofs := false) (disch := omega) [List.getElem?_cons_zero, b512_2, wrap64]
  refine loopE (fun k st => ∃ i, i ≤ all.length ∧ k = all.length - i ∧ (∀ q, q < i → authB (nth all q).name = true ∧ ∀ j, j < q → (nth all j).name ≠ (nth all q).name) ∧
      st = ⟨ofL [(0, .v (.c (.d (.sl (l.map Edit.row))))), (1, .v (.c (.d (.sl (all.map Member.row))))), (21, .v (.c (.d (.sl (all.map Member.row))))), (22, .int .i64 all.length), (23, .int .i64 i)], []⟩)
    (fun st => (∀ q, q < all.length → authB (nth all q).name = true ∧ ∀ j, j < q → (nth all j).name ≠ (nth all q).name) ∧ AtS [(0, .v (.c (.d (.sl (l.map Edit.row)))))] [] st) ?_ ?_ ?_
  · refine wk_keep [0, 1, 21, 22, 23] ⟨_, 0, by omega, rfl, fun q hq => by omega, ?_⟩
    simp
  · rintro J L hJ hL k st ⟨i, hi, rfl, hA, rfl⟩
    by_cases hlt : i < all.length
    · obtain ⟨x, hx⟩ : ∃ x, nth all i = x := ⟨_, rfl⟩
      have hm : x ∈ all := by rw [← hx]; exact nth_mem hlt
      have hxr : x.row = [.v (.string x.name), .v (.string x.key)] := rfl
      have g1 := xg526 x.name (h3 x hm)
      obtain ⟨q, hq⟩ : ∃ q, q = authB x.name := ⟨_, rfl⟩
      rw [← hq] at g1
      cases q
      · simp (implicitDefEqProofs := false) (disch := omega) [List.getElem?_cons_zero, hlt, wrap64, nth_map, hx, hxr, s1, g1, splice, fillC]
        exact no (fun h => by have := (h.2.2.1 i hlt).1; rw [hx, ← hq] at this; cases this) _
      · simp (implicitDefEqProofs := false) (disch := omega) [List.getElem?_cons_zero, hlt, wrap64, nth_map, hx, hxr, s1, g1, splice, fillC]
        refine ⟨hi, ?_⟩
        obtain ⟨T, hT⟩ : ∃ T, T = all.take i := ⟨_, rfl⟩
        have hTl : T.length = i := by rw [hT, List.length_take]; omega
        have hTn : ∀ j, j < i → nth T j = nth all j := fun j hj => by rw [hT]; simp [nth, List.getD_eq_getElem?_getD, List.getElem?_take, hj]
        refine loopE (fun k st => ∃ j, j ≤ i ∧ k = i - j ∧ (∀ p, p < j → (nth all p).name ≠ x.name) ∧
            st = ⟨ofL [(0, .v (.c (.d (.sl (l.map Edit.row))))), (1, .v (.c (.d (.sl (all.map Member.row))))), (21, .v (.c (.d (.sl (all.map Member.row))))), (22, .int .i64 all.length), (23, .int .i64 i), (6, .v (.c (.ptr 0 0))), (34, .v (.c (.d (.sl (T.map Member.row))))), (35, .int .i64 i), (36, .int .i64 j)], [.cells [.d (.v (.string x.name)), .d (.v (.string x.key))]]⟩)
          (fun st => (∀ p, p < i → (nth all p).name ≠ x.name) ∧ AtS [(0, .v (.c (.d (.sl (l.map Edit.row))))), (1, .v (.c (.d (.sl (all.map Member.row))))), (21, .v (.c (.d (.sl (all.map Member.row))))), (22, .int .i64 all.length), (23, .int .i64 i)] [.cells [.d (.v (.string x.name)), .d (.v (.string x.key))]] st) ?_ ?_ ?_
        · refine wk_keep [0, 1, 21, 22, 23, 6, 34, 35, 36] ⟨_, 0, by omega, rfl, fun p hp => by omega, ?_⟩
          simp [hT]
        · rintro J2 L2 hJ2 hL2 k2 st ⟨j, hj, rfl, hB, rfl⟩
          by_cases hjl : j < i
          · obtain ⟨y, hy⟩ : ∃ y, nth T j = y := ⟨_, rfl⟩
            have hy' : nth all j = y := by rw [← hTn j hjl]; exact hy
            have hyr : y.row = [.v (.string y.name), .v (.string y.key)] := rfl
            have hjT : j < T.length := by omega
            by_cases c3 : y.name = x.name
            · simp (implicitDefEqProofs := false) (disch := omega) [List.getElem?_cons_zero, hjl, hjT, hTl, wrap64, nth_map, hy, hyr, splice, fillC, binSF, c3]
              exact no (fun h => (h.2.2.1 i hlt).2 j hjl (by rw [hy', hx]; exact c3)) _
            · simp (implicitDefEqProofs := false) (disch := omega) [List.getElem?_cons_zero, hjl, hjT, hTl, wrap64, nth_map, hy, hyr, splice, fillC, binSF, c3]
              subst hJ2
              refine wk_nil [0] [0, 1, 21, 22, 23, 6, 34, 35, 36] rfl ⟨i - (j + 1), by omega, j + 1, by omega, rfl, fun p hp => ?_, ?_⟩
              · by_cases e1 : p = j
                · subst e1; rw [hy']; exact c3
                · exact hB p (by omega)
              · simp [phi, O.ren]
          · have : j = i := by omega
            subst this
            simp (implicitDefEqProofs := false) (disch := omega) [List.getElem?_cons_zero, hjl]
            subst hL2
            exact ⟨hB, at_mk (by simp) rfl⟩
        · rintro _ ⟨hB, sl, rfl⟩
          simp (implicitDefEqProofs := false) (disch := omega) [List.getElem?_cons_zero, wrap64]
          subst hJ
          refine wk_nil [] [0, 1, 21, 22, 23] rfl ⟨all.length - (i + 1), by omega, i + 1, by omega, rfl, fun p hp => ?_, ?_⟩
          · by_cases e1 : p = i
            · subst e1; rw [hx]; exact ⟨hq.symm, hB⟩
            · exact hA p (by omega)
          · simp
    · have : i = all.length := by omega
      subst this
      simp (implicitDefEqProofs := false) (disch := omega) [List.getElem?_cons_zero, hlt]
      subst hL
      exact ⟨hA, at_mk (by simp) rfl⟩
  · rintro _ ⟨hA, sl, rfl⟩
    simp (implicitDefEqProofs := false) (disch := omega) [List.getElem?_cons_zero, b512_3, wrap64]
    refine loopE (fun k st => ∃ i, i ≤ l.length ∧ k = l.length - i ∧ (∀ q, q < i → okE (nth l q) ∧ ∀ j, j < q → (nth l j).id = (nth l q).id → nth l j = nth l q) ∧
        st = ⟨ofL [(0, .v (.c (.d (.sl (l.map Edit.row))))), (47, .v (.c (.d (.sl (l.map Edit.row))))), (48, .int .i64 l.length), (49, .int .i64 i)], []⟩)
      (fun st => (∀ q, q < l.length → okE (nth l q) ∧ ∀ j, j < q → (nth l j).id = (nth l q).id → nth l j = nth l q) ∧ AtS [] [] st) ?_ ?_ ?_
    · refine wk_keep [0, 47, 48, 49] ⟨_, 0, by omega, rfl, fun q hq => by omega, ?_⟩
      simp
    · rintro J L hJ hL k st ⟨i, hi, rfl, hE, rfl⟩
      by_cases hlt : i < l.length
      · obtain ⟨e, he⟩ : ∃ e, nth l i = e := ⟨_, rfl⟩
        have hm : e ∈ l := by rw [← he]; exact nth_mem hlt
        have hee : e.row = [.v (.string e.id.a), .v (.int .i64 e.id.n), .v (.int .i64 e.clock), .v (.int .i64 e.floor), .sl (e.deps.map Id.row), .v (.int .i64 e.kind), .v (.string e.node.a), .v (.int .i64 e.node.n), .v (.string e.parent.a), .v (.int .i64 e.parent.n), .v (.bool e.neg), .v (.string e.num), .v (.string e.den), .v (.string e.field), .v (.string e.value), .v (.string e.target.a), .v (.int .i64 e.target.n), .v (.string e.who)] := rfl
        obtain ⟨z1, z2⟩ := h4 e hm
        have g2 := xg528 e.deps z1 z2
        obtain ⟨q, hq⟩ : ∃ q, q = chkV e.deps 0 e.deps.length := ⟨_, rfl⟩
        rw [← hq] at g2
        simp (implicitDefEqProofs := false) (disch := omega) [List.getElem?_cons_zero, hlt, wrap64, nth_map, he, hee, s2, g2, splice, fillC]
        have hnoE : ¬ okE e → ∀ Z, Fin Tryz.prog 0 (fun t H => t = .int .i64 R0 ∧ H = []) (.int .i64 0) Z := fun q Z => no (fun h => q (by have := (h.2.2.2 i hlt).1; rw [he] at this; exact this)) Z
        refine ⟨fun d1 => ⟨fun d2 => ⟨fun d3 => ⟨fun d4 => ⟨fun d5 => ?_, fun d5 => ⟨hi, ?_⟩⟩, fun d4 => ?_⟩, fun d3 => ?_⟩, fun d2 => ?_⟩, fun d1 => ?_⟩
        · exact hnoE (fun ⟨b1, b2, b3, b4, b5⟩ => by omega) _
        · have hokE : okE e := ⟨by omega, by omega, by omega, by omega, by omega⟩
          obtain ⟨T, hT⟩ : ∃ T, T = l.take i := ⟨_, rfl⟩
          have hTl : T.length = i := by rw [hT, List.length_take]; omega
          have hTn : ∀ j, j < i → nth T j = nth l j := fun j hj => by rw [hT]; simp [nth, List.getD_eq_getElem?_getD, List.getElem?_take, hj]
          refine loopE (fun k st => ∃ j, j ≤ i ∧ k = i - j ∧ (∀ p, p < j → (nth l p).id = e.id → nth l p = e) ∧
              st = ⟨ofL [(0, .v (.c (.d (.sl (l.map Edit.row))))), (47, .v (.c (.d (.sl (l.map Edit.row))))), (48, .int .i64 l.length), (49, .int .i64 i), (10, .v (.c (.ptr 0 0))), (83, .v (.c (.d (.sl (T.map Edit.row))))), (84, .int .i64 i), (85, .int .i64 j)], [.cells ([.v (.string e.id.a), .v (.int .i64 e.id.n), .v (.int .i64 e.clock), .v (.int .i64 e.floor), .sl (e.deps.map Id.row), .v (.int .i64 e.kind), .v (.string e.node.a), .v (.int .i64 e.node.n), .v (.string e.parent.a), .v (.int .i64 e.parent.n), .v (.bool e.neg), .v (.string e.num), .v (.string e.den), .v (.string e.field), .v (.string e.value), .v (.string e.target.a), .v (.int .i64 e.target.n), .v (.string e.who)].map .d)]⟩)
            (fun st => (∀ p, p < i → (nth l p).id = e.id → nth l p = e) ∧ AtS [(0, .v (.c (.d (.sl (l.map Edit.row))))), (47, .v (.c (.d (.sl (l.map Edit.row))))), (48, .int .i64 l.length), (49, .int .i64 i)] [.cells ([.v (.string e.id.a), .v (.int .i64 e.id.n), .v (.int .i64 e.clock), .v (.int .i64 e.floor), .sl (e.deps.map Id.row), .v (.int .i64 e.kind), .v (.string e.node.a), .v (.int .i64 e.node.n), .v (.string e.parent.a), .v (.int .i64 e.parent.n), .v (.bool e.neg), .v (.string e.num), .v (.string e.den), .v (.string e.field), .v (.string e.value), .v (.string e.target.a), .v (.int .i64 e.target.n), .v (.string e.who)].map .d)] st) ?_ ?_ ?_
          · refine wk_keep [0, 47, 48, 49, 10, 83, 84, 85] ⟨_, 0, by omega, rfl, fun p hp => by omega, ?_⟩
            simp [hT]
          · rintro J2 L2 hJ2 hL2 k2 st ⟨j, hj, rfl, hB, rfl⟩
            by_cases hjl : j < i
            · obtain ⟨f, hf⟩ : ∃ f, nth T j = f := ⟨_, rfl⟩
              have hf' : nth l j = f := by rw [← hTn j hjl]; exact hf
              have hfm : f ∈ l := by rw [← hf']; exact nth_mem (by omega)
              have hfr : f.row = [.v (.string f.id.a), .v (.int .i64 f.id.n), .v (.int .i64 f.clock), .v (.int .i64 f.floor), .sl (f.deps.map Id.row), .v (.int .i64 f.kind), .v (.string f.node.a), .v (.int .i64 f.node.n), .v (.string f.parent.a), .v (.int .i64 f.parent.n), .v (.bool f.neg), .v (.string f.num), .v (.string f.den), .v (.string f.field), .v (.string f.value), .v (.string f.target.a), .v (.int .i64 f.target.n), .v (.string f.who)] := rfl
              have hjT : j < T.length := by omega
              have g3 := xg37 f e (h4 f hfm).1
              rw [hfr, hee] at g3
              obtain ⟨p, hp⟩ : ∃ p, p = decide (f = e) := ⟨_, rfl⟩
              rw [← hp] at g3
              have hid : f.id = e.id ↔ f.id.a = e.id.a ∧ f.id.n = e.id.n := by
                constructor
                · intro h; rw [h]; exact ⟨rfl, rfl⟩
                · intro h; cases hx : f.id; cases hy : e.id; rw [hx, hy] at h; simp at h; simp [h]
              by_cases c3 : f.id.a = e.id.a
              · by_cases c4 : f.id.n = e.id.n
                · cases p
                  · rw [c3, c4] at g3
                    simp (implicitDefEqProofs := false) (disch := omega) [List.getElem?_cons_zero, hjl, hjT, hTl, wrap64, nth_map, hf, hfr, splice, fillC, c3, c4, cellsEq, skEq, s3, g3]
                    exact no (fun h => by
                      have h5 := (h.2.2.2 i hlt).2 j hjl (by rw [hf', he]; exact hid.2 ⟨c3, c4⟩)
                      rw [hf', he] at h5
                      rw [decide_eq_true h5] at hp; cases hp) _
                  · rw [c3, c4] at g3
                    simp (implicitDefEqProofs := false) (disch := omega) [List.getElem?_cons_zero, hjl, hjT, hTl, wrap64, nth_map, hf, hfr, splice, fillC, c3, c4, cellsEq, skEq, s3, g3]
                    subst hJ2
                    refine wk_nil [0] [0, 47, 48, 49, 10, 83, 84, 85] rfl ⟨i - (j + 1), by omega, j + 1, by omega, rfl, fun p' hp' => ?_, ?_⟩
                    · by_cases e1 : p' = j
                      · subst e1; rw [hf']; exact fun _ => of_decide_eq_true hp.symm
                      · exact hB p' (by omega)
                    · simp [phi, O.ren]
                · simp (implicitDefEqProofs := false) (disch := omega) [List.getElem?_cons_zero, hjl, hjT, hTl, wrap64, nth_map, hf, hfr, splice, fillC, c3, c4, cellsEq, skEq]
                  subst hJ2
                  refine wk_nil [0] [0, 47, 48, 49, 10, 83, 84, 85] rfl ⟨i - (j + 1), by omega, j + 1, by omega, rfl, fun p' hp' => ?_, ?_⟩
                  · by_cases e1 : p' = j
                    · subst e1; rw [hf']; exact fun h => absurd (hid.1 h).2 c4
                    · exact hB p' (by omega)
                  · simp [phi, O.ren]
              · simp (implicitDefEqProofs := false) (disch := omega) [List.getElem?_cons_zero, hjl, hjT, hTl, wrap64, nth_map, hf, hfr, splice, fillC, c3, cellsEq, skEq]
                subst hJ2
                refine wk_nil [0] [0, 47, 48, 49, 10, 83, 84, 85] rfl ⟨i - (j + 1), by omega, j + 1, by omega, rfl, fun p' hp' => ?_, ?_⟩
                · by_cases e1 : p' = j
                  · subst e1; rw [hf']; exact fun h => absurd (hid.1 h).1 c3
                  · exact hB p' (by omega)
                · simp [phi, O.ren]
            · have : j = i := by omega
              subst this
              simp (implicitDefEqProofs := false) (disch := omega) [List.getElem?_cons_zero, hjl]
              subst hL2
              exact ⟨hB, at_mk (by simp) rfl⟩
          · rintro _ ⟨hB, sl, rfl⟩
            simp (implicitDefEqProofs := false) (disch := omega) [List.getElem?_cons_zero, wrap64]
            subst hJ
            refine wk_nil [] [0, 47, 48, 49] rfl ⟨l.length - (i + 1), by omega, i + 1, by omega, rfl, fun p hp => ?_, ?_⟩
            · by_cases e1 : p = i
              · subst e1; rw [he]; exact ⟨hokE, hB⟩
              · exact hE p (by omega)
            · simp
        · exact hnoE (fun ⟨b1, b2, b3, b4, b5⟩ => by omega) _
        · exact hnoE (fun ⟨b1, b2, b3, b4, b5⟩ => by omega) _
        · exact hnoE (fun ⟨b1, b2, b3, b4, b5⟩ => by omega) _
        · exact hnoE (fun ⟨b1, b2, b3, b4, b5⟩ => by omega) _
      · have : i = l.length := by omega
        subst this
        simp (implicitDefEqProofs := false) (disch := omega) [List.getElem?_cons_zero, hlt]
        subst hL
        exact ⟨hE, at_mk (by simp) rfl⟩
    · rintro _ ⟨hE, sl, rfl⟩
      rw [hyes ⟨by omega, by omega, hA, hE⟩]
      simp (implicitDefEqProofs := false) (disch := omega) [List.getElem?_cons_zero, b512_4, b512_5, wrap64]
      exact fin_nil ⟨rfl, rfl⟩
noncomputable def x512 : XE := mkX true (fun (p : List Edit × List Member) => [.c (.sl (p.1.map Edit.row)), .c (.sl (p.2.map Member.row))]) (fun p => p.1.length < 4611686018427387904 ∧ p.2.length < 4611686018427387904 ∧ (∀ m ∈ p.2, m.name.size < 4611686018427387904) ∧ ∀ e ∈ p.1, szE e) (fun p => .int .i64 (rightN p.1 p.2))
theorem kx512 : Contract Tryz.prog G0 12 x512 := mkX_scal (fun _ => rfl) fun p h => k512 p.1 p.2 h.1 h.2.1 h.2.2.1 h.2.2.2
theorem injLM (a b : List Edit × List Member) (h : [PVo.c (D.sl (a.1.map Edit.row)), PVo.c (D.sl (a.2.map Member.row))] = [PVo.c (D.sl (b.1.map Edit.row)), PVo.c (D.sl (b.2.map Member.row))]) : a = b := by
  simp only [List.cons.injEq, PVo.c.injEq, D.sl.injEq] at h
  exact Prod.ext (rows_inj h.1) (mrows_inj h.2.1)
theorem xg512 (l : List Edit) (all : List Member) (h1 : l.length < 4611686018427387904) (h2 : all.length < 4611686018427387904) (h3 : ∀ m ∈ all, m.name.size < 4611686018427387904) (h4 : ∀ e ∈ l, szE e) : x512.g [.c (.sl (l.map Edit.row)), .c (.sl (all.map Member.row))] = some (True, .int .i64 (rightN l all)) := mkX_g injLM (l, all) ⟨h1, h2, h3, h4⟩
/-! ### Same, cut -/
instance : DecidableEq Cutoff := fun a b => if h : a.who = b.who ∧ a.n = b.n ∧ a.err = b.err then isTrue (by cases a; cases b; simp at h; simp [h]) else isFalse (fun e => h (by rw [e]; exact ⟨rfl, rfl, rfl⟩))
theorem list_nth_eq {α : Type} [Inhabited α] {a b : List α} (hl : a.length = b.length) (h : ∀ p, p < a.length → nth a p = nth b p) : a = b := by
  apply List.ext_getElem hl
  intro p h1 h2
  have := h p h1
  rw [nth_eq h1, nth_eq h2] at this; exact this
theorem k513 (a b : List Cutoff) (h1 : a.length < 4611686018427387904) : ACalls Tryz.prog G0 13 [.c (.d (.sl (a.map Cutoff.row))), .c (.d (.sl (b.map Cutoff.row)))] [] fun t H => t = .bool (decide (a = b)) ∧ H = [] := by
  refine acallsX (X := []) trivial tab hmix Tryz.func13 c513 (by rfl) fun hw => ?_
  simp (implicitDefEqProofs := false) (disch := omega) [List.getElem?_cons_zero, ir513, b513, wrap64]
  refine ⟨fun c1 => ?_, fun c1 => ?_⟩
  · have : a ≠ b := fun h => c1 (by rw [h])
    rw [decide_eq_false this]
    exact fin_nil ⟨rfl, rfl⟩
  · have hl : a.length = b.length := by omega
    refine loopE (fun k st => ∃ i, i ≤ a.length ∧ k = a.length - i ∧ (∀ p, p < i → nth a p = nth b p) ∧
        st = ⟨ofL [(0, .v (.c (.d (.sl (a.map Cutoff.row))))), (1, .v (.c (.d (.sl (b.map Cutoff.row))))), (12, .int .i64 a.length), (13, .int .i64 i)], []⟩)
      (fun st => (∀ p, p < a.length → nth a p = nth b p) ∧ AtS [] [] st) ?_ ?_ ?_
    · refine wk_nil [] [0, 1, 12, 13] rfl ⟨_, 0, by omega, rfl, fun p hp => by omega, ?_⟩
      simp
    · rintro J L hJ hL k st ⟨i, hi, rfl, hB, rfl⟩
      by_cases hlt : i < a.length
      · have hlt2 : i < b.length := by omega
        obtain ⟨x, hx⟩ : ∃ x, nth a i = x := ⟨_, rfl⟩
        obtain ⟨y, hy⟩ : ∃ x, nth b i = x := ⟨_, rfl⟩
        have hxr : x.row = [.v (.string x.who), .v (.int .i64 x.n), .v (.int .i64 x.err)] := rfl
        have hyr : y.row = [.v (.string y.who), .v (.int .i64 y.n), .v (.int .i64 y.err)] := rfl
        by_cases h : x.who = y.who ∧ x.n = y.n ∧ x.err = y.err
        · have hxy : x = y := by cases x; cases y; simp at h; simp [h]
          simp (implicitDefEqProofs := false) (disch := omega) [List.getElem?_cons_zero, hlt, hlt2, wrap64, nth_map, hx, hy, hxr, hyr, h.1, h.2.1, h.2.2, cellsEq, skEq]
          repeat' (with_reducible apply And.intro)
          all_goals first | omega | kernel_rfl | exact fun _ _ => rfl | skip
          subst hJ
          refine wk_nil [] [0, 1, 12, 13] rfl ⟨a.length - (i + 1), by omega, i + 1, by omega, rfl, fun p hp => ?_, ?_⟩
          · by_cases e1 : p = i
            · subst e1; rw [hx, hy]; exact hxy
            · exact hB p (by omega)
          · simp
        · have hne : a ≠ b := fun e => h (by subst e; rw [hx] at hy; subst hy; exact ⟨rfl, rfl, rfl⟩)
          have hq : (decide (x.who = y.who) && (decide (x.n = y.n) && decide (x.err = y.err))) = false := by
            cases hz : (decide (x.who = y.who) && (decide (x.n = y.n) && decide (x.err = y.err)))
            · rfl
            · simp at hz; exact absurd hz h
          rw [decide_eq_false hne]
          simp (implicitDefEqProofs := false) (disch := omega) [List.getElem?_cons_zero, hlt, hlt2, wrap64, nth_map, hx, hy, hxr, hyr, cellsEq, skEq]
          exact ⟨by kernel_rfl, fun _ => fin_nil ⟨rfl, rfl⟩, fun h1 h2 h3 => absurd ⟨h1, h2, h3⟩ h⟩
      · have : i = a.length := by omega
        subst this
        simp (implicitDefEqProofs := false) (disch := omega) [List.getElem?_cons_zero, hlt]
        subst hL
        exact ⟨hB, at_mk (by simp) rfl⟩
    · rintro _ ⟨hB, sl, rfl⟩
      rw [decide_eq_true (list_nth_eq hl hB)]
      simp (implicitDefEqProofs := false) (disch := omega) [List.getElem?_cons_zero, wrap64]
      exact fin_nil ⟨rfl, rfl⟩
def cutF : List Cutoff → ByteArray → Int × Bool
  | [], _ => (0, false)
  | c :: r, nm => if c.who = nm ∧ c.err = 22 then (c.n, true) else cutF r nm
theorem k516 (a : List Cutoff) (nm : ByteArray) (h1 : a.length < 4611686018427387904) : ACalls Tryz.prog G0 16 [.c (.d (.sl (a.map Cutoff.row))), Sx nm] [] fun t H => t = .tup [.c (.d (.v (.int .i64 (cutF a nm).1))), .c (.d (.v (.bool (cutF a nm).2)))] ∧ H = [] := by
  refine acallsX (X := []) trivial tab hmix Tryz.func16 c516 (by rfl) fun hw => ?_
  simp (implicitDefEqProofs := false) (disch := omega) [List.getElem?_cons_zero, ir516, b516, wrap64]
  refine loopE (fun k st => ∃ i, i ≤ a.length ∧ k = a.length - i ∧ cutF a nm = cutF (a.drop i) nm ∧
      st = ⟨ofL [(1, .v (.c (.d (.v (.string nm))))), (8, .v (.c (.d (.sl (a.map Cutoff.row))))), (9, .int .i64 a.length), (10, .int .i64 i)], []⟩)
    (fun st => cutF a nm = (0, false) ∧ AtS [] [] st) ?_ ?_ ?_
  · refine wk_nil [] [1, 8, 9, 10] rfl ⟨_, 0, by omega, rfl, rfl, ?_⟩
    simp [Sx]
  · rintro J L hJ hL k st ⟨i, hi, rfl, hb, rfl⟩
    by_cases hlt : i < a.length
    · obtain ⟨x, hx⟩ : ∃ x, nth a i = x := ⟨_, rfl⟩
      have hxr : x.row = [.v (.string x.who), .v (.int .i64 x.n), .v (.int .i64 x.err)] := rfl
      have hd : a.drop i = x :: a.drop (i + 1) := by rw [List.drop_eq_getElem_cons hlt, ← nth_eq hlt, hx]
      have hst : cutF (a.drop i) nm = if x.who = nm ∧ x.err = 22 then (x.n, true) else cutF (a.drop (i + 1)) nm := by rw [hd]; rfl
      by_cases c1 : x.who = nm
      · by_cases c2 : x.err = 22
        · rw [hb, hst, if_pos ⟨c1, c2⟩]
          simp (implicitDefEqProofs := false) (disch := omega) [List.getElem?_cons_zero, hlt, wrap64, nth_map, hx, hxr, splice, fillC, c1, c2, binSF]
          exact fin_nil ⟨rfl, rfl⟩
        · rw [if_neg (fun h => c2 h.2)] at hst
          simp (implicitDefEqProofs := false) (disch := omega) [List.getElem?_cons_zero, hlt, wrap64, nth_map, hx, hxr, splice, fillC, c1, c2, binSF]
          subst hJ
          refine wk_nil [] [1, 8, 9, 10] rfl ⟨a.length - (i + 1), by omega, i + 1, by omega, rfl, by rw [hb, hst], ?_⟩
          simp
      · rw [if_neg (fun h => c1 h.1)] at hst
        simp (implicitDefEqProofs := false) (disch := omega) [List.getElem?_cons_zero, hlt, wrap64, nth_map, hx, hxr, splice, fillC, c1, binSF]
        subst hJ
        refine wk_nil [] [1, 8, 9, 10] rfl ⟨a.length - (i + 1), by omega, i + 1, by omega, rfl, by rw [hb, hst], ?_⟩
        simp
    · have : i = a.length := by omega
      subst this
      simp (implicitDefEqProofs := false) (disch := omega) [List.getElem?_cons_zero, hlt]
      subst hL
      exact ⟨by rw [hb, List.drop_length]; rfl, at_mk (by simp) rfl⟩
  · rintro _ ⟨hb, sl, rfl⟩
    rw [hb]
    simp (implicitDefEqProofs := false) (disch := omega) [List.getElem?_cons_zero, wrap64]
    exact fin_nil ⟨rfl, rfl⟩
theorem cuts_inj {a b : List Cutoff} (h : a.map Cutoff.row = b.map Cutoff.row) : a = b := map_inj (fun a b h => by cases a; cases b; simp [Cutoff.row] at h; simp [h]) h
noncomputable def x513 : XE := mkX true (fun (p : List Cutoff × List Cutoff) => [.c (.sl (p.1.map Cutoff.row)), .c (.sl (p.2.map Cutoff.row))]) (fun p => p.1.length < 4611686018427387904) (fun p => .bool (decide (p.1 = p.2)))
theorem kx513 : Contract Tryz.prog G0 13 x513 := mkX_scal (fun _ => rfl) fun p h => k513 p.1 p.2 h
theorem xg513 (a b : List Cutoff) (h1 : a.length < 4611686018427387904) : x513.g [.c (.sl (a.map Cutoff.row)), .c (.sl (b.map Cutoff.row))] = some (True, .bool (decide (a = b))) := mkX_g (fun a b h => by
  simp only [List.cons.injEq, PVo.c.injEq, D.sl.injEq] at h
  exact Prod.ext (cuts_inj h.1) (cuts_inj h.2.1)) (a, b) h1
def cutT (p : Int × Bool) : T := .tup [.c (.d (.v (.int .i64 p.1))), .c (.d (.v (.bool p.2)))]
noncomputable def x516 : XE := mkX true (fun (p : List Cutoff × ByteArray) => [.c (.sl (p.1.map Cutoff.row)), .c (.v (.string p.2))]) (fun p => p.1.length < 4611686018427387904) (fun p => cutT (cutF p.1 p.2))
theorem kx516 : Contract Tryz.prog G0 16 x516 := mkX_scal (fun _ => rfl) fun p h => k516 p.1 p.2 h
theorem xg516 (a : List Cutoff) (nm : ByteArray) (h1 : a.length < 4611686018427387904) : x516.g [.c (.sl (a.map Cutoff.row)), .c (.v (.string nm))] = some (True, cutT (cutF a nm)) := mkX_g (fun a b h => by
  simp only [List.cons.injEq, PVo.c.injEq, D.sl.injEq, D.v.injEq, Value.string.injEq] at h
  exact Prod.ext (cuts_inj h.1) h.2.1) (a, nm) h1
noncomputable def x514 (m : Int) : XE := mkX false (fun (p : List Edit × List Member) => [.c (.sl (p.1.map Edit.row)), .c (.sl (p.2.map Member.row))]) (fun p => okC p.1 p.2) (fun p => .v (.c (.d (.sl ((cutsE p.1 p.2).map Cutoff.row)))))
theorem kx514 (m : Int) : Contract Tryz.prog (GM m) 14 (x514 m) := mkX_data fun p h H => k514 m p.1 p.2 h H
theorem xg514 (m : Int) (l : List Edit) (all : List Member) (h : okC l all) : (x514 m).g [.c (.sl (l.map Edit.row)), .c (.sl (all.map Member.row))] = some (True, .v (.c (.d (.sl ((cutsE l all).map Cutoff.row))))) := mkX_g injLM (l, all) h
end Go.Aw.Try

/- From what a statement's row says of the arguments to the abstract machine's data, and back. -/
namespace Go.Aw
open Go

/-- Shapes of cells. -/
inductive Sh where
  | i (k : IntKind)
  | b
  | s
  | sl (es : List Sh)

mutual
def okSh : Sh → D → Prop
  | .i k, d => ∃ n, d = .v (.int k n) ∧ (Lit.int k n).wf = true
  | .b, d => ∃ x, d = .v (.bool x)
  | .s, d => ∃ x, d = .v (.string x)
  | .sl es, d => ∃ xs, d = .sl xs ∧ ∀ x ∈ xs, okShs es x
def okShs : List Sh → List D → Prop
  | [], l => l = []
  | e :: es, l => ∃ d r, l = d :: r ∧ okSh e d ∧ okShs es r
end

theorem okShs_len : ∀ {es : List Sh} {l : List D}, okShs es l → l.length = es.length
  | [], l, h => by simp only [okShs] at h; subst h; rfl
  | e :: es, l, h => by
    simp only [okShs] at h
    obtain ⟨d, r, rfl, _, h⟩ := h
    simp [okShs_len h]
theorem okShs_app : ∀ {es es' : List Sh} {l l' : List D}, okShs es l → okShs es' l' → okShs (es ++ es') (l ++ l')
  | [], es', l, l', h, h' => by simp only [okShs] at h; subst h; exact h'
  | e :: es, es', l, l', h, h' => by
    simp only [okShs] at h
    obtain ⟨d, r, rfl, h1, h⟩ := h
    simp only [List.cons_append, okShs]
    exact ⟨d, r ++ l', rfl, h1, okShs_app h h'⟩

section
variable (P : Program)
mutual
def shT : Nat → TypeId → Option (List Sh)
  | 0, _ => none
  | n + 1, t => match P.underlying t with
    | some .bool => some [.b]
    | some (.int k) => some [.i k]
    | some .string => some [.s]
    | some (.slice e) => match shT n e with
      | some es => if P.cellsOf e = es.length ∧ 0 < es.length then some [.sl es] else none
      | none => none
    | some (.struct fs) => match shF n 0 fs.toList with
      | some es => if P.cellsOf t = es.length then some es else none
      | none => none
    | _ => none
def shF : Nat → Nat → List Field → Option (List Sh)
  | _, _, [] => some []
  | 0, _, _ => none
  | n + 1, run, f :: r => if f.offset = run then match shT n f.type with
    | some es => if P.cellsOf f.type = es.length then match shF n (run + es.length) r with
      | some l => some (es ++ l)
      | none => none else none
    | none => none else none
end
end

section
variable {H : Type}
mutual
def datD : DataW H → List D
  | .lit (.int k n) => [.v (.int k n)]
  | .lit (.bool b) => [.v (.bool b)]
  | .lit (.string bs) => [.v (.string ⟨bs.toArray⟩)]
  | .nil => [.sl []]
  | .slice es _ => [.sl (datDs es)]
  | .agg ps => datF ps
  | _ => []
def datDs : List (DataW H) → List (List D)
  | [] => []
  | d :: r => datD d :: datDs r
def datF : List (DataW H) → List D
  | [] => []
  | d :: r => datD d ++ datF r
end
theorem datDs_len : ∀ l : List (DataW H), (datDs l).length = l.length
  | [] => rfl
  | d :: r => by simp [datDs, datDs_len r]
theorem datDs_get : ∀ (l : List (DataW H)) (i : Nat), (datDs l)[i]? = (l[i]?).map datD
  | [], i => by simp [datDs]
  | d :: r, 0 => by simp [datDs]
  | d :: r, i + 1 => by simp [datDs, datDs_get r i]
end

theorem mapM_some {α β : Type} {f : α → Option β} : ∀ {l : List α} {r : List β}, l.mapM f = some r → r.length = l.length ∧ ∀ (i : Nat) x, l[i]? = some x → ∃ y, r[i]? = some y ∧ f x = some y
  | [], r, h => by simp at h; subst h; simp
  | a :: l, r, h => by
    rw [List.mapM_cons] at h
    cases hf : f a with
    | none => rw [hf] at h; cases h
    | some b =>
      rw [hf] at h
      cases hm : l.mapM f with
      | none => rw [hm] at h; cases h
      | some r' =>
        rw [hm] at h
        have h : some (b :: r') = some r := h
        injection h with h; subst h
        obtain ⟨h1, h2⟩ := mapM_some hm
        refine ⟨by simp [h1], fun i x hx => ?_⟩
        cases i with
        | zero => simp at hx; subst hx; exact ⟨b, by simp, hf⟩
        | succ i => simp at hx; obtain ⟨y, hy, hz⟩ := h2 i x hx; exact ⟨y, by simpa using hy, hz⟩

/-- Cells that are read as data. -/
def Rd (w : World) (es : List Sh) (cs : List Value) (ds : List D) : Prop :=
  okShs es ds ∧ cs.length = es.length ∧ ∀ (i : Nat) d v, ds[i]? = some d → cs[i]? = some v → DRel (fun b => b < w.heap.size) w d v
theorem Rd.one {w : World} {e : Sh} {v : Value} {d : D} (h : okSh e d) (hd : DRel (fun b => b < w.heap.size) w d v) : Rd w [e] [v] [d] :=
  ⟨by simp only [okShs]; exact ⟨d, [], rfl, h, rfl⟩, rfl, fun i d' v' h1 h2 => by
    cases i with
    | zero => simp at h1 h2; subst h1; subst h2; exact hd
    | succ i => simp at h1⟩
theorem Rd.app {w : World} {es es' : List Sh} {cs cs' : List Value} {ds ds' : List D} (h : Rd w es cs ds) (k : Rd w es' cs' ds') : Rd w (es ++ es') (cs ++ cs') (ds ++ ds') := by
  have l1 := okShs_len h.1
  refine ⟨okShs_app h.1 k.1, by simp [h.2.1, k.2.1], fun i d v h1 h2 => ?_⟩
  rw [List.getElem?_append] at h1 h2
  rw [l1] at h1
  rw [h.2.1] at h2
  split at h1
  · rename_i hi; rw [if_pos hi] at h2; exact h.2.2 i d v h1 h2
  · rename_i hi; rw [if_neg hi] at h2; exact k.2.2 _ d v h1 h2

theorem cells_get {w : World} {a : Addr} {n : Nat} {cs : List Value} (h : w.cells? 0 a n = some cs) : cs.length = n ∧ ∀ (j : Nat) v, cs[j]? = some v → w.cell? (a.add j) = some v := by
  unfold World.cells? at h
  rw [if_pos (Nat.zero_le _)] at h
  obtain ⟨h1, h2⟩ := mapM_some h
  rw [List.length_range] at h1
  refine ⟨h1, fun j v hv => ?_⟩
  have hj : j < n := by
    have := (List.getElem?_eq_some_iff.1 hv).1; omega
  obtain ⟨y, hy, hz⟩ := h2 j j (by simp [hj])
  rw [hv] at hy; injection hy with hy; subst hy
  exact hz
theorem cell_spot {w : World} {a : Addr} {v : Value} (h : w.cell? a = some v) : a.spot = none ∧ a.block < w.heap.size := by
  unfold World.cell? at h
  split at h
  · rename_i c _ _ hb
    refine ⟨?_, (Array.getElem?_eq_some_iff.1 hb).1⟩
    cases hs : a.spot with
    | none => rfl
    | some x => rw [hs] at h; simp at h
  · cases h

section
variable {H : Type} {enc : TypeId × Value → H} {P : Program} {w : World} {sp : Nat → Bool} {held : Bool}
theorem trod_fields {fuel : Nat} (ih : ∀ (n : Nat) (t : TypeId) (es : List Sh) (cs : List Value) (d : DataW H) (ps : List MemPlace), shT P n t = some es → DataW.trod enc P w 0 sp held fuel t cs = some (d, ps) → Rd w es cs (datD d)) :
    ∀ (fs : List Field) (n run : Nat) (es : List Sh) (cs : List Value) (xs : List (DataW H × List MemPlace)), shF P n run fs = some es →
      fs.mapM (fun f => DataW.trod enc P w 0 sp held fuel f.type ((cs.drop f.offset).take (P.cellsOf f.type))) = some xs → run + es.length ≤ cs.length → Rd w es ((cs.drop run).take es.length) (datF (xs.map (·.1)))
  | [], n, run, es, cs, xs, h, hm, hl => by
    have : es = [] := by cases n <;> · simp only [shF] at h; injection h with h; exact h.symm
    subst this
    simp at hm; subst hm
    exact ⟨by simp [datF, okShs], by simp, fun i d v h1 => by simp [datF] at h1⟩
  | f :: fs, 0, run, es, cs, xs, h, hm, hl => by simp [shF] at h
  | f :: fs, n + 1, run, es, cs, xs, h, hm, hl => by
    simp only [shF] at h
    split at h
    · rename_i ho
      split at h
      · rename_i es1 h1
        split at h
        · rename_i hc
          split at h
          · rename_i l h2
            injection h with h; subst h
            rw [List.mapM_cons] at hm
            cases hf : DataW.trod enc P w 0 sp held fuel f.type ((cs.drop f.offset).take (P.cellsOf f.type)) with
            | none => rw [hf] at hm; cases hm
            | some x =>
              rw [hf] at hm
              cases hr : fs.mapM (fun f => DataW.trod enc P w 0 sp held fuel f.type ((cs.drop f.offset).take (P.cellsOf f.type))) with
              | none => rw [hr] at hm; cases hm
              | some xs' =>
                rw [hr] at hm
                have hm : some (x :: xs') = some xs := hm
                injection hm with hm; subst hm
                simp only [List.length_append] at hl
                have g1 := ih n f.type es1 _ x.1 x.2 h1 hf
                have g2 := trod_fields ih fs n (run + es1.length) l cs xs' h2 hr (by omega)
                rw [ho, hc] at g1
                have e : (cs.drop run).take (es1 ++ l).length = (cs.drop run).take es1.length ++ (cs.drop (run + es1.length)).take l.length := by
                  rw [List.length_append, List.take_add, List.drop_drop]
                rw [e]
                exact g1.app g2
          · cases h
        · cases h
      · cases h
    · cases h

theorem trod_rd : ∀ (fuel n : Nat) (t : TypeId) (es : List Sh) (cs : List Value) (d : DataW H) (ps : List MemPlace), shT P n t = some es → DataW.trod enc P w 0 sp held fuel t cs = some (d, ps) → Rd w es cs (datD d)
  | 0, n, t, es, cs, d, ps, hs, h => by simp [DataW.trod] at h
  | fuel + 1, 0, t, es, cs, d, ps, hs, h => by simp [shT] at hs
  | fuel + 1, n + 1, t, es, cs, d, ps, hs, h => by
    have ih := trod_rd fuel
    cases hu : P.underlying t with
    | none => simp [shT, hu] at hs
    | some td =>
      unfold DataW.trod at h
      simp only [shT, hu] at hs
      rw [hu] at h
      cases td <;> simp only at hs <;> first | (cases hs; done) | skip
      case bool =>
        injection hs with hs; subst hs
        split at h <;> first | (rename_i e; cases e; done) | (rename_i e _; cases e; done) | (rename_i e _ _; cases e; done) | skip
        · injection h with h; injection h with h1 h2; subst h1
          exact Rd.one ⟨_, rfl⟩ (.v _ rfl)
        · cases h
      case int k =>
        injection hs with hs; subst hs
        split at h <;> first | (rename_i e; cases e; done) | (rename_i e _; cases e; done) | (rename_i e _ _; cases e; done) | skip
        · rename_i e
          injection e with e; injection e with e; subst e
          split at h
          · rename_i hk
            obtain ⟨rfl, hw⟩ := hk
            injection h with h; injection h with h1 h2; subst h1
            exact Rd.one ⟨_, rfl, hw⟩ (.v _ rfl)
          · cases h
        · cases h
      case string =>
        injection hs with hs; subst hs
        split at h <;> first | (rename_i e; cases e; done) | (rename_i e _; cases e; done) | (rename_i e _ _; cases e; done) | skip
        · rename_i s0 e
          split at h
          · injection h with h; injection h with h1 h2; subst h1
            exact Rd.one ⟨_, rfl⟩ (by simpa [datD] using DRel.v (.string s0) rfl)
          · cases h
        · cases h
      case slice e =>
        split at hs
        · rename_i es1 h1
          split at hs
          · rename_i hc
            injection hs with hs; subst hs
            split at h <;> first | (rename_i e; cases e; done) | (rename_i e _; cases e; done) | (rename_i e _ _; cases e; done) | skip
            · injection h with h; injection h with h1 h2; subst h1
              exact Rd.one ⟨[], rfl, by simp⟩ (.nil none 0)
            · rename_i e' a len cap heq
              injection heq with heq; injection heq with heq; subst heq
              simp only at h
              split at h
              · rename_i hcap
                cases hm : (List.range len).mapM (fun i => (w.cells? 0 (a.add (i * P.cellsOf e)) (P.cellsOf e)).bind (DataW.trod enc P w 0 sp held fuel e)) with
                | none => rw [hm] at h; cases h
                | some elems =>
                  rw [hm] at h
                  simp only [Option.bind_some, Option.map_eq_some_iff] at h
                  obtain ⟨rest, _, h⟩ := h
                  injection h with h2 h3; subst h2
                  obtain ⟨hlen, hget⟩ := mapM_some hm
                  rw [List.length_range] at hlen
                  have hel : ∀ (i : Nat) x, elems[i]? = some x → ∃ cs, w.cells? 0 (a.add (i * es1.length)) es1.length = some cs ∧ Rd w es1 cs (datD x.1) := fun i x hx => by
                    have hi : i < len := by have := (List.getElem?_eq_some_iff.1 hx).1; omega
                    obtain ⟨y, hy, hz⟩ := hget i i (by simp [hi])
                    rw [hx] at hy; injection hy with hy; subst hy
                    simp only [Option.bind_eq_some_iff] at hz
                    obtain ⟨cs, hcs, hz⟩ := hz
                    rw [hc.1] at hcs
                    exact ⟨cs, hcs, ih n e es1 cs x.1 x.2 h1 hz⟩
                  have hget' : ∀ (i : Nat) y, (datDs (elems.map (·.1)))[i]? = some y → ∃ x, elems[i]? = some x ∧ y = datD x.1 := fun i y hy => by
                    rw [datDs_get, List.getElem?_map] at hy
                    cases hx : elems[i]? with
                    | none => rw [hx] at hy; cases hy
                    | some x => rw [hx] at hy; simp at hy; exact ⟨x, rfl, hy.symm⟩
                  have hok : ∀ y ∈ datDs (elems.map (·.1)), okShs es1 y := fun y hy => by
                    obtain ⟨i, hi⟩ := List.getElem?_of_mem hy
                    obtain ⟨x, hx, rfl⟩ := hget' i y hi
                    obtain ⟨cs, _, hr⟩ := hel i x hx
                    exact hr.1
                  refine Rd.one ⟨_, rfl, hok⟩ ?_
                  by_cases hl0 : len = 0
                  · have : elems = [] := List.length_eq_zero_iff.1 (by omega)
                    subst this; subst hl0
                    exact .nil _ _
                  · obtain ⟨x0, hx0⟩ : ∃ x0, elems[0]? = some x0 := ⟨elems[0]'(by omega), by simp⟩
                    obtain ⟨cs0, hcs0, hr0⟩ := hel 0 x0 hx0
                    obtain ⟨g1, g2⟩ := cells_get hcs0
                    obtain ⟨v0, hv0⟩ : ∃ v0, cs0[0]? = some v0 := ⟨cs0[0]'(by omega), by simp⟩
                    have hsp := cell_spot (g2 0 v0 hv0)
                    have ha0 : (a.add (0 * es1.length)).add 0 = a := by simp [Addr.add]
                    rw [ha0] at hsp
                    have hadd : ∀ i j, (a.add (i * es1.length)).add j = ⟨a.block, a.off + i * es1.length + j, none⟩ := fun i j => by
                      cases a with
                      | mk b o sp0 =>
                        have : sp0 = none := hsp.1
                        subst this
                        unfold Addr.add
                        split
                        · split
                          · rename_i q1 q2; simp [q1, q2]
                          · rename_i q1 q2; simp [q1]
                        · split
                          · rename_i q1 q2; simp [q2]
                          · rfl
                    obtain ⟨b, o, sp0⟩ := a
                    have : sp0 = none := hsp.1
                    subst this
                    have hlen' : (datDs (elems.map (·.1))).length = len := by rw [datDs_len, List.length_map, hlen]
                    have hcell : ∀ (i : Nat) (y : List D) (j : Nat) (d : D), (datDs (elems.map (·.1)))[i]? = some y → y[j]? = some d → ∃ v, w.cell? ⟨b, o + i * es1.length + j, none⟩ = some v ∧ DRel (fun b => b < w.heap.size) w d v := fun i y j d hy hd => by
                      obtain ⟨x, hx, rfl⟩ := hget' i y hy
                      obtain ⟨cs, hcs, hr⟩ := hel i x hx
                      obtain ⟨q1, q2⟩ := cells_get hcs
                      have hj : j < cs.length := by
                        have := (List.getElem?_eq_some_iff.1 hd).1
                        rw [okShs_len hr.1] at this; omega
                      have hv : cs[j]? = some cs[j] := by simp [hj]
                      refine ⟨cs[j], ?_, hr.2.2 j d _ hd hv⟩
                      have := q2 j _ hv
                      rw [hadd] at this; exact this
                    have := DRel.sl (S := fun b => b < w.heap.size) (w := w) (datDs (elems.map (·.1))) b o cap es1.length (fun i j => (w.cell? ⟨b, o + i * es1.length + j, none⟩).getD undef) hsp.2 hsp.2 (by rw [hlen']; exact hcap.2.1)
                      (fun i x hx => by
                        obtain ⟨x', hx', rfl⟩ := hget' i x hx
                        obtain ⟨cs, _, hr⟩ := hel i x' hx'
                        exact okShs_len hr.1)
                      (fun i x j d hi hj => by obtain ⟨v, hv, _⟩ := hcell i x j d hi hj; rw [hv]; rfl)
                      (fun i x j d hi hj => by obtain ⟨v, hv, hr⟩ := hcell i x j d hi hj; rw [hv]; exact hr)
                    rw [hlen'] at this
                    exact this
              · cases h
            · cases h
          · cases hs
        · cases hs
      case struct fs =>
        split at hs
        · rename_i es1 h1
          split at hs
          · rename_i hc
            injection hs with hs; subst hs
            split at h <;> first | (rename_i e; cases e; done) | (rename_i e _; cases e; done) | (rename_i e _ _; cases e; done) | skip
            · rename_i fs' heq
              injection heq with heq; injection heq with heq; subst heq
              split at h
              · rename_i hlen
                simp only [Option.map_eq_some_iff] at h
                obtain ⟨xs, hm, h⟩ := h
                injection h with h2 h3; subst h2
                have := trod_fields ih fs.toList n 0 es1 _ xs h1 hm (by omega)
                rw [List.drop_zero, List.take_of_length_le (by omega)] at this
                exact this
              · cases h
            · exact (‹∀ fs_1, some (TypeDesc.struct fs) = some (TypeDesc.struct fs_1) → False› fs rfl).elim
          · cases hs
        · cases hs

theorem vals_of_trod : ∀ {ts : List TypeId} {vs : List Value} {ds : List (DataW H)} {ps : List MemPlace}, DataW.TrodAll enc P w 0 sp held ts vs ds ps →
    ∀ (n : Nat) (ess : List (List Sh)), ts.map (shT P n) = ess.map some → vs.length = ts.length ∧ ds.length = ts.length ∧
      ∀ (i : Nat) es v d, ess[i]? = some es → vs[i]? = some v → ds[i]? = some d → Rd w es v.cells.toList (datD d)
  | [], [], [], ps, h, n, ess, he => by
    have : ess = [] := by cases ess <;> simp_all
    subst this
    simp
  | t :: ts, v :: vs, d :: ds, ps, h, n, ess, he => by
    obtain ⟨p, q, ⟨fuel, h1⟩, h2, _⟩ := h
    match ess, he with
    | es :: ess, he =>
      simp only [List.map_cons, List.cons.injEq] at he
      obtain ⟨g1, g2, g3⟩ := vals_of_trod h2 n ess he.2
      refine ⟨by simp [g1], by simp [g2], fun i es' v' d' hi hv hd => ?_⟩
      cases i with
      | zero => simp at hi hv hd; subst hi; subst hv; subst hd; exact trod_rd fuel n t es _ _ _ he.1 h1
      | succ i => simp at hi hv hd; exact g3 i es' v' d' hi hv hd
  | [], _ :: _, _, _, h, _, _, _ => by cases h
  | [], [], _ :: _, _, h, _, _, _ => by cases h
  | _ :: _, [], _, _, h, _, _, _ => by cases h
  | _ :: _, _ :: _, [], _, h, _, _, _ => by cases h

/-- What the cells give as an argument: one cell, or a struct. -/
def argV (agg : Bool) (ds : List D) : V := if agg then .agg (ds.map .d) else match ds with | [d] => .c (.d d) | _ => .any
theorem argV_rel {k : K} (hS : k.S = fun b => b < k.w.heap.size) {es : List Sh} {v : Value} {ds : List D} {agg : Bool} (h : Rd k.w es v.cells.toList ds) (ha : agg = true → ∃ cs, v = .agg cs) (hna : agg = false → v.cells = #[v] ∧ es.length = 1) :
    VRel P k (argV agg ds) v := by
  cases agg with
  | true =>
    obtain ⟨cs, rfl⟩ := ha rfl
    have hl := okShs_len h.1
    have h2 := h.2.1
    refine ⟨cs, rfl, ?_, fun i c v hc hv => ?_⟩
    · simp [Value.cells] at h2; simp [hl, h2]
    · rw [List.getElem?_map] at hc
      cases hd : ds[i]? with
      | none => rw [hd] at hc; cases hc
      | some d =>
        rw [hd] at hc; simp at hc; subst hc
        have := h.2.2 i d v hd (by simpa [Value.cells] using hv)
        show DRel k.S k.w d v
        rw [hS]; exact this
  | false =>
    obtain ⟨hc, he⟩ := hna rfl
    have hl := okShs_len h.1
    match ds, hl with
    | [d], _ =>
      have := h.2.2 0 d v rfl (by rw [hc]; rfl)
      show DRel k.S k.w d v
      rw [hS]; exact this
    | [], hl => rw [he] at hl; cases hl
    | _ :: _ :: _, hl => rw [he] at hl; simp at hl

theorem stab_nil0 (w : World) : (ctx (fun _ => none) [] w).S = fun b => b < w.heap.size := by
  funext b
  apply propext
  constructor
  · intro h; exact h.1
  · intro h; exact ⟨h, fun r o hr => by simp at hr⟩
theorem hrel_nil (w : World) : HRel P (fun _ => none) [] w := ⟨fun r o hr => by simp at hr, fun r r' o o' b hr => by simp at hr, fun r b hr => by cases hr⟩

/-- What a law's contract gives for its row. -/
theorem post_of_acalls {G0 : Gl} (hl : laidOutB P = true) {f : Nat} {fn : Func} {s : ChangeSpec} {W : World} (hG0 : GRel G0 (stab (fun _ => none) [] W) W) {args : Array Value} {ds gs : List (DataW H)} {before : List MemPlace} {us : List V} {R : T → List O → Prop} {apart handsOn : Bool} {tb : TypeId}
    (hres : fn.resultTypes = #[tb]) (hb : P.underlying tb = some .bool) (hvars : s.vars = []) (hspec : s.fn H (ds ++ gs) = { results := [.lit (.bool true)], args := ds })
    (hparams : ∀ t ∈ fn.params.toList, P.readableRec t = true ∧ t < P.types.size)
    (hW : DataW.Whole enc P fn.params.toList s.vars apart W args.toList ds gs before)
    (hv : VsRel P (ctx (fun _ => none) [] W) us args) (h : ACalls P G0 f us [] R) (hR : ∀ t H, R t H → t = .bool true) :
    Calls P f args W fun e W' => ∃ v, e = .returned v ∧ s.post enc P fn apart true handsOn false W args v W' := by
  refine (h.2 (fun _ => none) W args (hrel_nil W) hG0 hv).mono ?_
  rintro e W' ⟨v, t, ρ', H', rfl, hRt, hH, ht, le⟩
  have := hR t H' hRt
  subst this
  have hvt : v = .bool true := drel_v ht
  subst hvt
  have hstep := le.step
  rw [stab_nil0] at hstep
  have hkeep : ∀ b, b < W.heap.size → W'.heap[b]? = W.heap[b]? := hstep.keep
  obtain ⟨p, q, hA, hV, hpq, hz, hn⟩ := id hW
  have hlt : ∀ x ∈ before, x.block < W.heap.size := fun x hx => by simpa using hW.lt x hx
  have hq : q = [] := by rw [hvars] at hV; cases gs <;> simp [DataW.TrodVars] at hV; exact hV
  subst hq
  rw [List.append_nil] at hpq
  have hbelow : Go.RowKit.Below W.heap.size W W' := ⟨hstep.os, hstep.tape, hstep.output, hstep.size, hkeep⟩
  have hargs : ∀ (ts : List TypeId) (vs : List Value) (ds : List (DataW H)) (ps : List MemPlace), (∀ t ∈ ts, P.readableRec t = true ∧ t < P.types.size) → (∀ x ∈ ps, x.block < W.heap.size) → DataW.TrodAll enc P W 0 (fun _ => true) true ts vs ds ps →
      DataW.TrodAll enc P W' 0 (fun b => decide (b < W.heap.size)) true ts vs ds ps := by
    intro ts
    induction ts with
    | nil => intro vs ds ps _ _ h; cases vs <;> cases ds <;> exact h
    | cons t ts ih =>
      intro vs ds ps hp hlt h
      cases vs with
      | nil => cases h
      | cons v vs =>
        cases ds with
        | nil => cases h
        | cons d ds =>
          obtain ⟨p, q, h1, h2, rfl⟩ := h
          have ht := hp t List.mem_cons_self
          exact ⟨p, q, Go.RowKit.Below.trod hl ht.1 ht.2 h1 hbelow (fun x hx => hlt x (List.mem_append_left _ hx)), ih vs ds q (fun t ht => hp t (List.mem_cons_of_mem _ ht)) (fun x hx => hlt x (List.mem_append_right _ hx)) h2, rfl⟩
  refine ⟨_, rfl, ds, gs, before, [], before, [], hW, ?_, ?_, ?_, ?_, fun h => by cases h⟩
  · rw [hspec, hres]
    exact ⟨[], [], Go.RowKit.shut_bool hb true, rfl, rfl⟩
  · rw [hspec]; exact hargs _ _ _ _ hparams hlt (hpq ▸ hA)
  · rw [hspec, hvars]; simp [DataW.TrodVars]
  · refine ⟨hstep.os, hstep.output, fun i hi => ?_⟩
    rw [hkeep i hi]
    cases W.heap[i]? with
    | none => simp
    | some o => cases o <;> simp
end
end Go.Aw

/- A law's contract gives its row; the weight of what came in. -/
namespace Go.Aw
open Go
section
variable {P : Program} {w : World}
def aggT (P : Program) (t : TypeId) : Bool := match P.underlying t with
  | some (.struct _) => true
  | some (.array _ _) => true
  | _ => false
theorem okWide_one {r : Reach} {base : Nat} {t : TypeId} {v : Value} (ha : aggT P t = false) (h : Value.okWide P w r base t v) : v.cells = #[v] := by
  unfold aggT at ha
  unfold Value.okWide at h
  cases hu : P.underlying t with
  | none =>
    rw [hu] at h
    cases v <;> first | rfl | (simp [Cell.okWide, Cell.ok, hu] at h)
  | some td =>
    rw [hu] at h ha
    cases td <;> first | (cases ha; done) | (cases v <;> first | rfl | (simp [Cell.okWide, Cell.ok, hu] at h))
theorem okWide_agg {r : Reach} {base : Nat} {t : TypeId} {v : Value} (ha : aggT P t = true) (h : Value.okWide P w r base t v) : ∃ cs, v = .agg cs := by
  unfold aggT at ha
  unfold Value.okWide at h
  cases hu : P.underlying t with
  | none => rw [hu] at ha; cases ha
  | some td =>
    rw [hu] at h ha
    cases td <;> first | (cases ha; done) | (obtain ⟨cs, e, _⟩ := h; exact ⟨cs, e⟩)
theorem shT_one {n : Nat} {t : TypeId} {es : List Sh} (ha : aggT P t = false) (h : shT P n t = some es) : es.length = 1 := by
  cases n with
  | zero => simp [shT] at h
  | succ n =>
    unfold aggT at ha
    cases hu : P.underlying t with
    | none => simp [shT, hu] at h
    | some td =>
      rw [hu] at ha
      simp only [shT, hu] at h
      cases td <;> simp only at h <;> first | (cases h; done) | (cases ha; done) | (injection h with h; subst h; rfl) | skip
      split at h
      · split at h
        · injection h with h; subst h; rfl
        · cases h
      · cases h

variable {H : Type} {enc : TypeId × Value → H}
theorem law_calls {G0 : Gl} (hl : laidOutB P = true) {f : Nat} {fn : Func} {s : ChangeSpec} {W : World} (hG0 : GRel G0 (stab (fun _ => none) [] W) W) {base : Nat} {args : Array Value} {ds gs : List (DataW H)} {before : List MemPlace} {apart handsOn : Bool} {tb : TypeId}
    {n : Nat} {ess : List (List Sh)} {aggs : List Bool} (hts : fn.params.toList.map (shT P n) = ess.map some) (hag : fn.params.toList.map (aggT P) = aggs)
    (hres : fn.resultTypes = #[tb]) (hb : P.underlying tb = some .bool) (hvars : s.vars = []) (hspec : ∀ ds : List (DataW H), ds.length = fn.params.toList.length → s.fn H ds = { results := [.lit (.bool true)], args := ds })
    (hparams : fn.params.toList.all (fun t => P.readableRec t && decide (t < P.types.size)) = true)
    (hval : ∀ (j : Nat) t v, fn.params[j]? = some t → args[j]? = some v → Value.okWide P W .any base t v)
    (hW : DataW.Whole enc P fn.params.toList s.vars apart W args.toList ds gs before)
    (h : (ds.map datD).length = ess.length → (∀ (i : Nat) es u, ess[i]? = some es → (ds.map datD)[i]? = some u → okShs es u) → gs = [] → ACalls P G0 f (List.zipWith argV aggs (ds.map datD)) [] fun t _ => t = .bool true) :
    Calls P f args W fun e W' => ∃ v, e = .returned v ∧ s.post enc P fn apart true handsOn false W args v W' := by
  obtain ⟨p, q, hA, hV, hpq, hz, hn⟩ := id hW
  have hgs : gs = [] := by rw [hvars] at hV; cases gs <;> simp [DataW.TrodVars] at hV; rfl
  subst hgs
  obtain ⟨l1, l2, hr⟩ := vals_of_trod hA n ess hts
  have hel : ess.length = fn.params.toList.length := by have := congrArg List.length hts; simpa using this.symm
  have hal : aggs.length = fn.params.toList.length := by rw [← hag]; simp
  have hok := h (by simp [l2, hel]) (fun i es u he hu => by
    rw [List.getElem?_map] at hu
    cases hd : ds[i]? with
    | none => rw [hd] at hu; cases hu
    | some d =>
      rw [hd] at hu; simp at hu; subst hu
      have hi : i < args.toList.length := by rw [l1, ← l2]; exact (List.getElem?_eq_some_iff.1 hd).1
      exact (hr i es _ d he (List.getElem?_eq_getElem hi) hd).1) rfl
  refine post_of_acalls hl hG0 (ds := ds) (gs := []) hres hb hvars (by rw [List.append_nil]; exact hspec ds l2) (fun t ht => ?_) hW ?_ hok (fun t H h => h)
  · have := List.all_eq_true.1 hparams t ht
    simp at this; exact this
  · refine ⟨by simp [hal, l2]; simpa using l1, fun i c v hc hv => ?_⟩
    rw [List.getElem?_zipWith] at hc
    have hv' : args.toList[i]? = some v := by simpa using hv
    have hi : i < fn.params.toList.length := by rw [← l1]; exact (List.getElem?_eq_some_iff.1 hv').1
    have hp : fn.params.toList[i]? = some fn.params.toList[i] := List.getElem?_eq_getElem hi
    obtain ⟨t, ht⟩ : ∃ t, fn.params.toList[i]? = some t := ⟨_, hp⟩
    have hga : aggs[i]? = some (aggT P t) := by rw [← hag, List.getElem?_map, ht]; rfl
    have hsh : ∃ es, ess[i]? = some es ∧ shT P n t = some es := by
      have h1 : (fn.params.toList.map (shT P n))[i]? = some (shT P n t) := by rw [List.getElem?_map, ht]; rfl
      rw [hts, List.getElem?_map] at h1
      cases he : ess[i]? with
      | none => rw [he] at h1; cases h1
      | some es => rw [he] at h1; simp at h1; exact ⟨es, rfl, h1.symm⟩
    obtain ⟨es, he, hse⟩ := hsh
    have hdi : i < ds.length := by rw [l2]; exact hi
    have hd : ds[i]? = some ds[i] := List.getElem?_eq_getElem hdi
    have hdm : (ds.map datD)[i]? = some (datD ds[i]) := by rw [List.getElem?_map, hd]; rfl
    rw [hga, hdm] at hc
    simp at hc
    subst hc
    have hrd := hr i es v ds[i] he hv' hd
    have hok' := hval i t v (by simpa using ht) hv
    exact argV_rel (k := ctx (fun _ => none) [] W) (stab_nil0 W) hrd (fun ha => okWide_agg ha hok') (fun ha => ⟨okWide_one ha hok', shT_one ha hse⟩)

/-! ### weights -/
mutual
def wD : D → Nat
  | .v (.string s) => s.size + 1
  | .sl xs => wDss xs + 1
  | _ => 1
def wDs : List D → Nat
  | [] => 0
  | d :: r => wD d + wDs r
def wDss : List (List D) → Nat
  | [] => 0
  | x :: r => wDs x + wDss r
end
theorem wDs_app : ∀ (a b : List D), wDs (a ++ b) = wDs a + wDs b
  | [], b => by simp [wDs]
  | d :: a, b => by simp only [List.cons_append, wDs, wDs_app a b]; omega
end
end Go.Aw

namespace Go.Aw.Try
open Go Go.Proofs Go.Proofs.YthgnlejjbhijfaaGreatDoor Go.Aw
set_option maxRecDepth 100000
/-! ### what came in, as data of this program -/
abbrev idSh : List Sh := [.s, .i .i64]
abbrev editSh : List Sh := [.s, .i .i64, .i .i64, .i .i64, .sl idSh, .i .i64, .s, .i .i64, .s, .i .i64, .b, .s, .s, .s, .s, .s, .i .i64, .s]
abbrev cutSh : List Sh := [.s, .i .i64, .i .i64]
theorem dec_id {l : List D} (h : okShs idSh l) : ∃ x : Id, l = x.row := by
  simp only [idSh, okShs, okSh] at h
  obtain ⟨_, _, rfl, ⟨a, rfl⟩, _, _, rfl, ⟨n, rfl, _⟩, rfl⟩ := h
  exact ⟨⟨a, n⟩, rfl⟩
theorem dec_cut {l : List D} (h : okShs cutSh l) : ∃ x : Cutoff, l = x.row := by
  simp only [cutSh, okShs, okSh] at h
  obtain ⟨_, _, rfl, ⟨a, rfl⟩, _, _, rfl, ⟨n, rfl, _⟩, _, _, rfl, ⟨m, rfl, _⟩, rfl⟩ := h
  exact ⟨⟨a, n, m⟩, rfl⟩
theorem dec_list {α : Type} {row : α → List D} {sh : List Sh} (hd : ∀ l, okShs sh l → ∃ x, l = row x) : ∀ {xs : List (List D)}, (∀ x ∈ xs, okShs sh x) → ∃ l : List α, xs = l.map row
  | [], _ => ⟨[], rfl⟩
  | x :: xs, h => by
    obtain ⟨a, rfl⟩ := hd x (h x List.mem_cons_self)
    obtain ⟨l, rfl⟩ := dec_list hd (fun y hy => h y (List.mem_cons_of_mem _ hy))
    exact ⟨a :: l, rfl⟩
theorem dec_edit {l : List D} (h : okShs editSh l) : ∃ e : Edit, l = e.row := by
  simp only [editSh, okShs, okSh] at h
  obtain ⟨_, _, rfl, ⟨a1, rfl⟩, _, _, rfl, ⟨a2, rfl, _⟩, _, _, rfl, ⟨a3, rfl, _⟩, _, _, rfl, ⟨a4, rfl, _⟩, _, _, rfl, ⟨a5, rfl, h5⟩, _, _, rfl, ⟨a6, rfl, _⟩, _, _, rfl, ⟨a7, rfl⟩, _, _, rfl, ⟨a8, rfl, _⟩, _, _, rfl, ⟨a9, rfl⟩, _, _, rfl, ⟨a10, rfl, _⟩,
    _, _, rfl, ⟨a11, rfl⟩, _, _, rfl, ⟨a12, rfl⟩, _, _, rfl, ⟨a13, rfl⟩, _, _, rfl, ⟨a14, rfl⟩, _, _, rfl, ⟨a15, rfl⟩, _, _, rfl, ⟨a16, rfl⟩, _, _, rfl, ⟨a17, rfl, _⟩, _, _, rfl, ⟨a18, rfl⟩, rfl⟩ := h
  obtain ⟨ds, rfl⟩ := dec_list (row := Id.row) (fun l h => dec_id h) h5
  exact ⟨⟨⟨a1, a2⟩, a3, a4, ds, a6, ⟨a7, a8⟩, ⟨a9, a10⟩, a11, a12, a13, a14, a15, ⟨a16, a17⟩, a18⟩, rfl⟩
theorem dec_edits {l : List D} (h : okShs [.sl editSh] l) : ∃ es : List Edit, l = [.sl (es.map Edit.row)] := by
  simp only [okShs, okSh] at h
  obtain ⟨_, _, rfl, ⟨xs, rfl, h⟩, rfl⟩ := h
  obtain ⟨es, rfl⟩ := dec_list (row := Edit.row) (fun l h => dec_edit h) h
  exact ⟨es, rfl⟩
theorem dec_cuts {l : List D} (h : okShs [.sl cutSh] l) : ∃ es : List Cutoff, l = [.sl (es.map Cutoff.row)] := by
  simp only [okShs, okSh] at h
  obtain ⟨_, _, rfl, ⟨xs, rfl, h⟩, rfl⟩ := h
  obtain ⟨es, rfl⟩ := dec_list (row := Cutoff.row) (fun l h => dec_cut h) h
  exact ⟨es, rfl⟩
theorem wrows {α : Type} {row : α → List D} (h : ∀ x, row x ≠ []) : ∀ l : List α, l.length ≤ wDss (l.map row)
  | [] => by simp
  | x :: l => by
    have := wrows h l
    have h1 : 1 ≤ wDs (row x) := by
      cases hx : row x with
      | nil => exact absurd hx (h x)
      | cons d r =>
        have : 1 ≤ wD d := by unfold wD; split <;> omega
        simp only [wDs]; omega
    simp only [List.map_cons, wDss, List.length_cons]; omega
section
variable {H : Type}
mutual
theorem bulk_D : ∀ d : DataW H, wDs (datD d) ≤ Rows.uptoBulk d
  | .lit l => by cases l <;> simp [datD, wDs, wD, Rows.uptoBulk, ByteArray.size]
  | .nil => by simp [datD, wDs, wD, wDss, Rows.uptoBulk]
  | .ptr d => by simp [datD, wDs]
  | .slice es sp => by
    have := bulk_Ds es
    simp only [datD, wDs, wD, Rows.uptoBulk]; omega
  | .agg ps => by
    have := bulk_F ps
    simp only [datD, Rows.uptoBulk]; omega
  | .iface t d => by simp [datD, wDs]
  | .map es => by simp [datD, wDs]
  | .held h => by simp [datD, wDs]
theorem bulk_Ds : ∀ l : List (DataW H), wDss (datDs l) ≤ Rows.uptoBulkAll l
  | [] => by simp [datDs, wDss]
  | d :: r => by
    have h1 := bulk_D d
    have h2 := bulk_Ds r
    simp only [datDs, wDss, Rows.uptoBulkAll]; omega
theorem bulk_F : ∀ l : List (DataW H), wDs (datF l) ≤ Rows.uptoBulkAll l
  | [] => by simp [datF, wDs]
  | d :: r => by
    have h1 := bulk_D d
    have h2 := bulk_F r
    simp only [datF, Rows.uptoBulkAll]; rw [wDs_app]; omega
end
/-- The bound, argument by argument. -/
theorem bulk_args {ds : List (DataW H)} (hk : Rows.uptoSmall H ds = true) : ∀ (i : Nat) u, (ds.map datD)[i]? = some u → wDs u ≤ 1048576 := by
  have h : Rows.uptoBulkAll ds ≤ 1048576 := of_decide_eq_true hk
  intro i u hu
  have key : ∀ (ds : List (DataW H)) (i : Nat) u, (ds.map datD)[i]? = some u → wDs u ≤ Rows.uptoBulkAll ds := by
    intro ds
    induction ds with
    | nil => intro i u hu; simp at hu
    | cons d r ih =>
      intro i u hu
      cases i with
      | zero => simp at hu; subst hu; have := bulk_D d; simp only [Rows.uptoBulkAll]; omega
      | succ i => simp at hu; have := ih i u (by simpa using hu); simp only [Rows.uptoBulkAll]; omega
  exact Nat.le_trans (key ds i u hu) h
end
theorem own : ownKnob Tryz.prog.godebug = none := by kernel_rfl
theorem laid : laidOutB Tryz.prog = true := by kernel_rfl
abbrev memSh : List Sh := [.s, .s]
theorem dec_mem {l : List D} (h : okShs memSh l) : ∃ x : Member, l = x.row := by
  simp only [memSh, okShs, okSh] at h
  obtain ⟨_, _, rfl, ⟨a, rfl⟩, _, _, rfl, ⟨n, rfl⟩, rfl⟩ := h
  exact ⟨⟨a, n⟩, rfl⟩
theorem dec_members {l : List D} (h : okShs [.sl memSh] l) : ∃ es : List Member, l = [.sl (es.map Member.row)] := by
  simp only [okShs, okSh] at h
  obtain ⟨_, _, rfl, ⟨xs, rfl, h⟩, rfl⟩ := h
  obtain ⟨es, rfl⟩ := dec_list (row := Member.row) (fun l h => dec_mem h) h
  exact ⟨es, rfl⟩
theorem wmem {α : Type} {row : α → List D} : ∀ {l : List α} {x : α}, x ∈ l → wDs (row x) ≤ wDss (l.map row)
  | [], x, h => by cases h
  | y :: l, x, h => by
    simp only [List.map_cons, wDss]
    rcases List.mem_cons.1 h with rfl | h
    · omega
    · have := wmem (row := row) h; omega
/-- What the bound says of edits. -/
theorem b_edits {l : List Edit} (h : wDs [.sl (l.map Edit.row)] ≤ 1048576) : l.length ≤ 1048576 ∧ ∀ e ∈ l, szE e := by
  simp only [wDs, wD] at h
  have h1 := wrows (row := Edit.row) (fun x => by simp [Edit.row]) l
  refine ⟨by omega, fun e he => ?_⟩
  have h2 := wmem (row := Edit.row) he
  have h3 : wDss (e.deps.map Id.row) ≤ wDs e.row := by simp only [Edit.row, wDs, wD]; omega
  have h4 := wrows (row := Id.row) (fun x => by simp [Id.row]) e.deps
  refine ⟨by omega, fun x hx => ?_⟩
  have h5 := wmem (row := Id.row) hx
  have h6 : x.a.size ≤ wDs (Id.row x) := by simp only [Id.row, wDs, wD]; omega
  omega
theorem b_members {l : List Member} (h : wDs [.sl (l.map Member.row)] ≤ 1048576) : l.length ≤ 1048576 ∧ ∀ m ∈ l, m.name.size < 4611686018427387904 := by
  simp only [wDs, wD] at h
  have h1 := wrows (row := Member.row) (fun x => by simp [Member.row]) l
  refine ⟨by omega, fun e he => ?_⟩
  have h2 := wmem (row := Member.row) he
  have h6 : e.name.size ≤ wDs (Member.row e) := by simp only [Member.row, wDs, wD]; omega
  omega
/-- internal/bytealg.MaxLen holds an int: of the world's shape. -/
theorem maxlen {W : World} (h : W.ShapedOpen Tryz.prog) : ∃ m, GRel (GM m) (stab (fun _ => none) [] W) W := by
  obtain ⟨m, hm⟩ := cell_of_shapedOpen_int (P := Tryz.prog) (g := 0) (t := 3) (zero := #[.int .i64 0]) h (of_decide_eq_true (by kernel_rfl)) (by kernel_rfl) rfl (by kernel_rfl) (by kernel_rfl) Tryz.underlying3
  refine ⟨m, fun g cs hg => ?_⟩
  unfold GM at hg
  split at hg
  · rename_i h0
    subst h0
    injection hg with hg; subst hg
    have hlt : 0 < W.heap.size := World.block_lt_of_cell? _ _ hm
    refine ⟨⟨hlt, fun r o hr => by simp at hr⟩, hlt, fun j d hj => ?_⟩
    cases j with
    | zero => injection hj with hj; subst hj; exact ⟨_, hm, DRel.v _ rfl⟩
    | succ j => simp at hj
  · cases hg
/-! ### the witness's world -/
def litV : DataW Unit → Value
  | .lit (.int k n) => .int k n
  | _ => undef
def aggV : DataW Unit → List Value
  | .agg xs => xs.flatMap fun d => match d with
    | .agg ys => ys.map litV
    | d => [litV d]
  | _ => []
def layO (cs : Array Value) : Obj → Obj
  | .cells _ t fz => .cells cs t fz
  | o => o
noncomputable def laidWorld (os : Os) : World :=
  { World.holding Tryz.prog os ⟨#[], #[], []⟩ with heap := ((World.holding Tryz.prog os ⟨#[], #[], []⟩).heap.modify 1 (layO (aggV Go.Pinned.utf8First).toArray)).modify 2 (layO (aggV (Rows.laid_unicode_utf8_acceptRanges (H := Unit))).toArray) }
end Go.Aw.Try

/- A call that gives a new row of scalars, its arguments lent. -/
namespace Go.Aw
open Go
section
variable {P : Program} {G : Gl}
def flatR (rows : List (List D)) : Prop := ∀ x ∈ rows, ∀ d ∈ x, ∃ v, d = .v v
theorem lend_own {f : Nat} {vs : List V} {ps : List PV} {H : List O} {sz : Nat} {rows : List (List D)} (hp : toBVs H vs = some ps) (hf : flatR rows)
    (h : ACalls P G f (ps.map PV.toV) [] (Own [] sz rows)) : ACalls P G f vs H (Own H sz rows) := by
  refine ⟨h.1, fun ρ w args hH hG hv => ?_⟩
  obtain ⟨g1, g2⟩ := mapO_get hp
  have h0 : HRel P (fun _ => none) [] w := ⟨fun r o hr => by simp at hr, fun r r' o o' b hr => by simp at hr, fun r b hb => by cases hb⟩
  have hG0 : GRel G (stab (fun _ => none) [] w) w := by rw [stab_nil]; exact hG.mono (step_all H)
  have hv0 : VsRel P (ctx (fun _ => none) [] w) (ps.map PV.toV) args := by
    refine ⟨by rw [List.length_map, g1]; exact hv.1, fun i c v hi hvi => ?_⟩
    rw [List.getElem?_map] at hi
    cases hq : ps[i]? with
    | none => rw [hq] at hi; cases hi
    | some p =>
      rw [hq] at hi
      simp at hi
      subst hi
      have hil : i < vs.length := by rw [← g1]; exact lt_of_get hq
      have hx : vs[i]? = some vs[i] := by simp [hil]
      have := toBV_rel hH (g2 i _ p hx hq) (hv.2 i _ v hx hvi)
      refine prel_vrel (k := ctx (fun _ => none) [] w) ?_
      show PRel (stab (fun _ => none) [] w) w p v
      rw [stab_nil]; exact this
  refine (h.2 _ w args h0 hG0 hv0).mono fun e w' ⟨v, t', ρ', H', e1, ⟨et, eh⟩, e3, e4, e5⟩ => ?_
  subst et
  have eh : H' = [.row sz rows] := eh
  subst eh
  have e6 : (ctx (fun _ => none) [] w).S = allB w := stab_nil w
  have hstep : Step (allB w) w (allB w') w' := by
    have := e5.step
    rw [e6] at this
    exact this.more fun b hb => hb.1
  have hnew : ∀ b, b < w.heap.size → ρ' 0 ≠ some b := fun b hb hq => by
    have h1 := e5.step.sub b (by rw [e6]; exact hb)
    exact h1.2 0 (.row sz rows) rfl rfl hq
  have hnone : ρ H.length = none := by
    cases hq : ρ H.length with
    | none => rfl
    | some b => have := (hH.small _ _ hq).1; omega
  obtain ⟨ρ2, hρ2⟩ : ∃ ρ2 : Nat → Option Nat, ρ2 = fun r => if r = H.length then ρ' 0 else ρ r := ⟨_, rfl⟩
  have r1 : ρ2 H.length = ρ' 0 := by rw [hρ2]; simp
  have r2 : ∀ r, r ≠ H.length → ρ2 r = ρ r := fun r hr => by rw [hρ2]; simp [hr]
  have hget : ∀ r o, (H ++ [O.row sz rows])[r]? = some o → (r < H.length ∧ H[r]? = some o) ∨ (r = H.length ∧ o = .row sz rows) := fun r o hr => by
    rw [List.getElem?_append] at hr
    split at hr
    · rename_i hl; exact .inl ⟨hl, hr⟩
    · rename_i hl
      have : r - H.length = 0 := by
        have := (List.getElem?_eq_some_iff.1 hr).1; simp at this; omega
      rw [this] at hr
      injection hr with hr
      exact .inr ⟨by omega, hr.symm⟩
  have le : (ctx ρ H w).le (ctx ρ2 (H ++ [.row sz rows]) w') := by
    refine ⟨fun r b hr => ?_, by simp [ctx], ⟨fun b hb => ⟨Nat.lt_of_lt_of_le hb.1 hstep.size, fun r o hr hl => ?_⟩, fun b hb => hstep.keep b hb.1, hstep.size, hstep.shape, hstep.os, hstep.tape, hstep.output⟩⟩
    · have hr : ρ r = some b := hr
      show ρ2 r = some b
      rw [r2 r (fun e => by rw [e, hnone] at hr; cases hr)]; exact hr
    · rcases hget r o hr with ⟨h1, h2⟩ | ⟨h1, h2⟩
      · rw [r2 r (by omega)]; exact hb.2 r o h2 hl
      · rw [h1, r1]; exact hnew b hb.1
  have ho := e3.objs 0 (.row sz rows) rfl
  have hsub : ∀ b, stab ρ' [.row sz rows] w' b → (ctx ρ2 (H ++ [.row sz rows]) w').S b ∨ True := fun _ _ => .inr trivial
  have hobj : ORel P (ctx ρ2 (H ++ [.row sz rows]) w') (ρ2 H.length) (.row sz rows) := by
    rw [r1]
    refine ⟨ho.1, ?_⟩
    rcases ho.2 with q | ⟨a, c, e, q1, q2, q3⟩
    · exact .inl q
    · refine .inr ⟨a, c, e, q1, q2, q3.1, q3.2.1, fun i x j d hi hj => ?_⟩
      obtain ⟨u, hu, hd⟩ := q3.2.2 i x j d hi hj
      obtain ⟨z, rfl⟩ := hf x (List.mem_of_getElem? hi) d (List.mem_of_getElem? hj)
      have hz := drel_v hd
      subst hz
      exact ⟨_, hu, DRel.v _ (drel_one hd)⟩
  have hR : HRel P ρ2 (H ++ [.row sz rows]) w' := by
    refine hH.change le (fun r o hr => ?_) (fun ra rb o1 o2 b q1 q2 l1 l2 s1 s2 => ?_) (fun r b hr => ?_)
    · rcases hget r o hr with ⟨h1, h2⟩ | ⟨h1, h2⟩
      · exact .inr ⟨h2, r2 r (by omega), fun _ a ha => hstep.keep a (hH.small r a ha).2⟩
      · subst h1; subst h2; exact .inl hobj
    · have small : ∀ r b, r < H.length → ρ2 r = some b → b < w.heap.size := fun r b hr hq => by
        rw [r2 r (by omega)] at hq; exact (hH.small r b hq).2
      rcases hget ra o1 q1 with ⟨h1, h2⟩ | ⟨h1, h2⟩
      · rcases hget rb o2 q2 with ⟨h3, h4⟩ | ⟨h3, h4⟩
        · rw [r2 ra (by omega)] at s1; rw [r2 rb (by omega)] at s2
          exact hH.inj ra rb o1 o2 b h2 h4 l1 l2 s1 s2
        · have := small ra b h1 s1
          rw [h3, r1] at s2
          exact absurd s2 (hnew b this)
      · rcases hget rb o2 q2 with ⟨h3, h4⟩ | ⟨h3, h4⟩
        · have := small rb b h3 s2
          rw [h1, r1] at s1
          exact absurd s1 (hnew b this)
        · omega
    · by_cases e : r = H.length
      · rw [e, r1] at hr
        exact ⟨by rw [e]; simp, (e3.small 0 b hr).2⟩
      · rw [r2 r e] at hr
        have := hH.small r b hr
        exact ⟨by simp; omega, Nat.lt_of_lt_of_le this.2 hstep.size⟩
  refine ⟨v, .v (.c (.os H.length sz 0 rows.length)), ρ2, _, e1, ⟨rfl, rfl⟩, hR, ?_, le⟩
  have e4 : CRel P (ctx ρ' [.row sz rows] w') (.os 0 sz 0 rows.length) v := e4
  show CRel P (ctx ρ2 (H ++ [.row sz rows]) w') (.os H.length sz 0 rows.length) v
  refine ⟨by simp [ctx], ?_⟩
  rcases e4.2 with q | ⟨b, cap, e, n, q1, q2⟩
  · exact .inl q
  · exact .inr ⟨b, cap, e, n, by show ρ2 H.length = some b; rw [r1]; exact q1, q2⟩
end
end Go.Aw

namespace Go.Aw.Try
open Go Go.Proofs Go.Aw
set_option maxRecDepth 100000
set_option maxHeartbeats 4000000
/-! ### the chapter's example -/
def mkM (s : ByteArray) : Member := ⟨s, ⟨#[]⟩⟩
theorem k529 (ss : List ByteArray) (hl : ss.length < 4294967296) (H : List O) :
    ACalls Tryz.prog G0 29 [.c (.d (.sl (ss.map srow)))] H (Own H 2 ((ss.map mkM).map Member.row)) := by
  refine acallsX (X := []) trivial tab hmix Tryz.func29 c529 (by rfl) fun hw => ?_
  simp (implicitDefEqProofs := false) (disch := omega) [List.getElem?_cons_zero, ir529, b529, wrap64]
  refine loopE (fun k st => ∃ i, i ≤ ss.length ∧ k = ss.length - i ∧
      st = ⟨ofL [(3, .v (.c (.os H.length 2 0 i))), (6, .v (.c (.d (.sl (ss.map srow))))), (7, .int .i64 ss.length), (8, .int .i64 i)], H ++ [.row 2 (((ss.take i).map mkM).map Member.row)]⟩)
    (fun st => AtS [(3, .v (.c (.os H.length 2 0 ss.length)))] (H ++ [.row 2 ((ss.map mkM).map Member.row)]) st) ?_ ?_ ?_
  · refine wk_nil_os 3 2 (by omega) (by simp) ?_
    refine wk_keep [3, 6, 7, 8] ⟨_, 0, by omega, rfl, ?_⟩
    simp
  · rintro J L hJ hL k st ⟨i, hi, rfl, rfl⟩
    by_cases hlt : i < ss.length
    · obtain ⟨x, hx⟩ : ∃ x, nth ss i = x := ⟨_, rfl⟩
      have hst : (ss.take (i + 1)).map mkM = (ss.take i).map mkM ++ [mkM x] := by rw [take_nth hlt, hx, List.map_append]; rfl
      obtain ⟨T, hT⟩ : ∃ T, T = (ss.take i).map mkM := ⟨_, rfl⟩
      have hTl : T.length = i := by rw [hT, List.length_map, List.length_take]; omega
      rw [← hT] at hst ⊢
      have tS : (T.map Member.row).take i = T.map Member.row := List.take_of_length_le (by simp [hTl])
      simp (implicitDefEqProofs := false) (disch := omega) [List.getElem?_cons_zero, hlt, wrap64, nth_map, hx, srow, splice, fillC, tS, hTl, toPVs, frzVs, osVs, toPV, toDs, Nat.add_assoc]
      repeat' (with_reducible apply And.intro)
      all_goals first | omega | kernel_rfl | exact fun _ _ => rfl | skip
      subst hJ
      refine wk_pre [2] [3, 6, 7, 8] hw rfl ⟨ss.length - (i + 1), by omega, i + 1, by omega, rfl, ?_⟩
      rw [hst]; simp [phiP, phi, O.ren, Member.row, mkM, show ¬ (H.length + 2 < H.length) from by omega]
    · have : i = ss.length := by omega
      subst this
      rw [List.take_length]
      simp (implicitDefEqProofs := false) (disch := omega) [List.getElem?_cons_zero, hlt]
      subst hL
      exact at_mk (by simp) (by simp)
  · rintro _ ⟨sl, rfl⟩
    simp (implicitDefEqProofs := false) (disch := omega) [List.getElem?_cons_zero, wrap64]
    exact fin_own (k := 0) hw (by simp) (by simp)
noncomputable def x529 : XE := mkX false (fun (ss : List ByteArray) => [.c (.sl (ss.map srow))]) (fun ss => ss.length < 4294967296) (fun ss => .v (.c (.d (.sl ((ss.map mkM).map Member.row)))))
theorem kx529 : Contract Tryz.prog G0 29 x529 := mkX_data fun p h H => own_data (k529 p h H)
theorem xg529 (ss : List ByteArray) (h : ss.length < 4294967296) : x529.g [.c (.sl (ss.map srow))] = some (True, .v (.c (.d (.sl ((ss.map mkM).map Member.row))))) := mkX_g (fun a b h => by simp only [List.cons.injEq, PVo.c.injEq, D.sl.injEq] at h; exact srow_inj h.1) ss h
def sCid : ByteArray := ⟨#[99, 105, 100]⟩
def sAnn : ByteArray := ⟨#[97, 110, 110]⟩
def sBob : ByteArray := ⟨#[98, 111, 98]⟩
theorem k530 (n : Int) (H : List O) : ACalls Tryz.prog G0 30 [I n] H fun t H' => t = .v (.agg ((Id.row ⟨sCid, n⟩).map .d)) ∧ H' = H := by
  refine acallsX (X := []) trivial tab hmix Tryz.func30 c530 (by rfl) fun hw => ?_
  simp (implicitDefEqProofs := false) (disch := omega) [List.getElem?_cons_zero, ir530, b530, fillC, splice]
  exact fin_pre_pv (p := .agg (Id.row ⟨sCid, n⟩)) (L' := [_]) hw (by simp [toPV, toDs, Id.row, sCid]) (by simp [frz, frz1]; rfl) ⟨rfl, rfl⟩
noncomputable def x530 : XE := mkX false (fun (n : Int) => [.c (.v (.int .i64 n))]) (fun _ => True) (fun n => .v (.agg ((Id.row ⟨sCid, n⟩).map .d)))
theorem kx530 : Contract Tryz.prog G0 30 x530 := mkX_data fun p _ H => k530 p H
theorem xg530 (n : Int) : x530.g [.c (.v (.int .i64 n))] = some (True, .v (.agg ((Id.row ⟨sCid, n⟩).map .d))) := mkX_g (fun a b h => by simp at h; exact h) n trivial
def voteE (a : ByteArray) (n c : Int) (who : ByteArray) (deps : List Id) : Edit := ⟨⟨a, n⟩, c, 0, deps, 5, ⟨⟨#[]⟩, 0⟩, ⟨⟨#[]⟩, 0⟩, false, ⟨#[]⟩, ⟨#[]⟩, ⟨#[]⟩, ⟨#[]⟩, ⟨⟨#[]⟩, 0⟩, who⟩
structure VArg where
  a : ByteArray
  n : Int
  c : Int
  who : ByteArray
  deps : List Id
theorem k531 (p : VArg) (H : List O) : ACalls Tryz.prog G0 31 [Sx p.a, I p.n, I p.c, Sx p.who, .c (.d (.sl (p.deps.map Id.row)))] H fun t H' => t = .v (.agg ((voteE p.a p.n p.c p.who p.deps).row.map .d)) ∧ H' = H := by
  refine acallsX (X := []) trivial tab hmix Tryz.func31 c531 (by rfl) fun hw => ?_
  simp (implicitDefEqProofs := false) (disch := omega) [List.getElem?_cons_zero, ir531, b531, fillC, splice]
  exact fin_pre_pv (p := .agg (voteE p.a p.n p.c p.who p.deps).row) (L' := [_]) hw (by simp [toPV, toDs, voteE, Edit.row]) (by simp [frz, frz1]; rfl) ⟨rfl, rfl⟩
theorem ids_inj {a b : List Id} (h : a.map Id.row = b.map Id.row) : a = b := map_inj (fun a b h => by cases a; cases b; simp [Id.row] at h; simp [h]) h
noncomputable def x531 : XE := mkX false (fun (p : VArg) => [.c (.v (.string p.a)), .c (.v (.int .i64 p.n)), .c (.v (.int .i64 p.c)), .c (.v (.string p.who)), .c (.sl (p.deps.map Id.row))]) (fun _ => True) (fun p => .v (.agg ((voteE p.a p.n p.c p.who p.deps).row.map .d)))
theorem kx531 : Contract Tryz.prog G0 31 x531 := mkX_data fun p _ H => k531 p H
theorem injV (a b : VArg) (h : [PVo.c (D.v (.string a.a)), .c (.v (.int .i64 a.n)), .c (.v (.int .i64 a.c)), .c (.v (.string a.who)), .c (.sl (a.deps.map Id.row))] = [PVo.c (D.v (.string b.a)), .c (.v (.int .i64 b.n)), .c (.v (.int .i64 b.c)), .c (.v (.string b.who)), .c (.sl (b.deps.map Id.row))]) : a = b := by
  simp only [List.cons.injEq, PVo.c.injEq, D.sl.injEq, D.v.injEq, Value.string.injEq, Value.int.injEq] at h
  obtain ⟨q1, ⟨_, q2⟩, ⟨_, q3⟩, q4, q5, _⟩ := h
  cases a; cases b
  have q5 := ids_inj q5
  simp only at q1 q2 q3 q4 q5
  rw [q1, q2, q3, q4, q5]
theorem xg531 (a : ByteArray) (n c : Int) (who : ByteArray) (deps : List Id) : x531.g [.c (.v (.string a)), .c (.v (.int .i64 n)), .c (.v (.int .i64 c)), .c (.v (.string who)), .c (.sl (deps.map Id.row))] = some (True, .v (.agg ((voteE a n c who deps).row.map .d))) := mkX_g injV (VArg.mk a n c who deps) trivial
def noteV (a : ByteArray) (own other : Id) : Edit := ⟨⟨a, 2⟩, 7, 0, if strLt other.a own.a = true then [other, own] else [own, other], 6, ⟨⟨#[]⟩, 0⟩, ⟨⟨#[]⟩, 0⟩, false, ⟨#[]⟩, ⟨#[]⟩, ⟨#[]⟩, ⟨#[]⟩, ⟨⟨#[]⟩, 0⟩, ⟨#[]⟩⟩
theorem k532 (a : ByteArray) (x y : Id) (H : List O) : ACalls Tryz.prog G0 32 [Sx a, .agg (x.row.map .d), .agg (y.row.map .d)] H fun t H' => t = .v (.agg ((noteV a x y).row.map .d)) ∧ H' = H := by
  refine acallsX (X := []) trivial tab hmix Tryz.func32 c532 (by rfl) fun hw => ?_
  have hx : x.row = [.v (.string x.a), .v (.int .i64 x.n)] := rfl
  have hy : y.row = [.v (.string y.a), .v (.int .i64 y.n)] := rfl
  obtain ⟨q, hq⟩ : ∃ q, q = strLt y.a x.a := ⟨_, rfl⟩
  have hn : noteV a x y = ⟨⟨a, 2⟩, 7, 0, if q = true then [y, x] else [x, y], 6, ⟨⟨#[]⟩, 0⟩, ⟨⟨#[]⟩, 0⟩, false, ⟨#[]⟩, ⟨#[]⟩, ⟨#[]⟩, ⟨#[]⟩, ⟨⟨#[]⟩, 0⟩, ⟨#[]⟩⟩ := by rw [hq]; rfl
  cases q
  · simp (implicitDefEqProofs := false) (disch := omega) [List.getElem?_cons_zero, ir532, b532, hx, hy, fillC, splice, binSF, ← hq, toDs]
    exact fin_pre_pv (p := .agg (noteV a x y).row) (L' := [_, _, _, _]) hw (by rw [hn]; simp [toPV, toDs, toD, Edit.row, Id.row]) (by simp [frz, frz1, V.cells]; exact ⟨rfl, rfl, rfl, rfl⟩) ⟨rfl, rfl⟩
  · simp (implicitDefEqProofs := false) (disch := omega) [List.getElem?_cons_zero, ir532, b532, hx, hy, fillC, splice, binSF, ← hq, toDs]
    exact fin_pre_pv (p := .agg (noteV a x y).row) (L' := [_, _, _, _, _]) hw (by rw [hn]; simp [toPV, toDs, toD, Edit.row, Id.row]) (by simp [frz, frz1, V.cells]; exact ⟨rfl, rfl, rfl, rfl, rfl⟩) ⟨rfl, rfl⟩
structure NArg where
  a : ByteArray
  x : Id
  y : Id
theorem injN (a b : NArg) (h : [PVo.c (D.v (.string a.a)), .agg a.x.row, .agg a.y.row] = [PVo.c (D.v (.string b.a)), .agg b.x.row, .agg b.y.row]) : a = b := by
  obtain ⟨a1, ⟨a2, a3⟩, ⟨a4, a5⟩⟩ := a
  obtain ⟨b1, ⟨b2, b3⟩, ⟨b4, b5⟩⟩ := b
  simp [Id.row] at h
  simp [h]
noncomputable def x532 : XE := mkX false (fun (p : NArg) => [.c (.v (.string p.a)), .agg p.x.row, .agg p.y.row]) (fun _ => True) (fun p => .v (.agg ((noteV p.a p.x p.y).row.map .d)))
theorem kx532 : Contract Tryz.prog G0 32 x532 := mkX_data fun p _ H => k532 p.a p.x p.y H
theorem xg532 (a : ByteArray) (x y : Id) : x532.g [.c (.v (.string a)), .agg x.row, .agg y.row] = some (True, .v (.agg ((noteV a x y).row.map .d))) := mkX_g injN (NArg.mk a x y) trivial
def liveL : List Edit := [voteE sAnn 1 5 sCid [⟨sCid, 2⟩], voteE sBob 1 6 sCid [⟨sCid, 3⟩]]
def liveL1 : List Edit := [voteE sAnn 1 5 sCid [⟨sCid, 2⟩]]
def noteX (a : ByteArray) : Edit := ⟨⟨a, 2⟩, 7, 0, [⟨sAnn, 1⟩, ⟨sBob, 1⟩], 6, ⟨⟨#[]⟩, 0⟩, ⟨⟨#[]⟩, 0⟩, false, ⟨#[]⟩, ⟨#[]⟩, ⟨#[]⟩, ⟨#[]⟩, ⟨⟨#[]⟩, 0⟩, ⟨#[]⟩⟩
theorem note_1 : noteV sAnn ⟨sAnn, 1⟩ ⟨sBob, 1⟩ = noteX sAnn := by decide +kernel
theorem note_2 : noteV sBob ⟨sBob, 1⟩ ⟨sAnn, 1⟩ = noteX sBob := by decide +kernel
def liveN : List Edit := [voteE sAnn 1 5 sCid [⟨sCid, 2⟩], voteE sBob 1 6 sCid [⟨sCid, 3⟩], noteX sAnn, noteX sBob]
def liveA : List Member := [mkM sAnn, mkM sBob, mkM sCid]
theorem live_c1 : cutsE liveL1 liveA = [] := by decide +kernel
theorem live_c2 : cutsE liveL liveA = [⟨sCid, 3, 22⟩, ⟨sCid, 2, 19⟩] := by decide +kernel
theorem live_c3 : cutsE liveN liveA = [⟨sCid, 3, 22⟩] := by decide +kernel
theorem live_who : ∀ e ∈ liveN, e.who.size < 4294967281 := by decide +kernel
theorem live_good : Good liveN := by
  have h : ∀ e ∈ liveN, (e.deps.length < 3 ∧ ∀ i, i < e.deps.length → 0 < i → cmpS (nth e.deps (i - 1)).a (nth e.deps i).a < 0) := by decide +kernel
  exact fun e he => ⟨asc_of_adj fun j h0 hj => (h e he).2 j hj h0, by have := (h e he).1; omega⟩
theorem live_ok (l : List Edit) (h1 : ∀ e ∈ l, e ∈ liveN) (h2 : l.length < 5) (h3 : (outU (gatC l liveA).mem (gatC l liveA).vs (gatC l liveA).vs).length ≤ 12) : okC l liveA :=
  ⟨by omega, by decide, fun e he => live_who e (h1 e he), fun e he => live_good e (h1 e he), h3⟩
theorem live_k1 : okC liveL1 liveA := live_ok _ (by decide +kernel) (by decide) (by decide +kernel)
theorem live_k2 : okC liveL liveA := live_ok _ (by decide +kernel) (by decide) (by decide +kernel)
theorem live_k3 : okC liveN liveA := live_ok _ (by decide +kernel) (by decide) (by decide +kernel)
theorem flat_cuts (l : List Cutoff) : flatR (l.map Cutoff.row) := fun x hx d hd => by
  obtain ⟨c, _, rfl⟩ := List.mem_map.1 hx
  simp [Cutoff.row] at hd
  rcases hd with rfl | rfl | rfl <;> exact ⟨_, rfl⟩
theorem k511 (m : Int) : ACalls Tryz.prog (GM m) 11 [] [] fun t H => t = .bool true ∧ H = [] := by
  have s1 : x529.sc = false := rfl
  have s2 : x530.sc = false := rfl
  have s3 : x531.sc = false := rfl
  have s4 : x532.sc = false := rfl
  have s5 : x513.sc = true := rfl
  have g1 := xg529 [sAnn, sBob, sCid] (by decide)
  have g2 := xg531 sAnn 1 5 sCid [⟨sCid, 2⟩]
  have g3 := xg531 sBob 1 6 sCid [⟨sCid, 3⟩]
  simp only [List.map_cons, List.map_nil, sAnn, sBob, sCid, srow, Id.row] at g1 g2 g3
  refine acallsX (X := [(29, x529), (30, x530), (31, x531), (32, x532), (13, x513)]) ⟨kx529.gm, kx530.gm, kx531.gm, kx532.gm, kx513.gm, trivial⟩ tab hmix Tryz.func11 c511 (by rfl) fun hw => ?_
  simp (implicitDefEqProofs := false) (disch := omega) [List.getElem?_cons_zero, ir511, b511, b511_0, b511_1, b511_2, b511_3, b511_4, s1, s2, s3, g1, g2, g3, xg530, sCid, Id.row, toPVs, frzVs, osVs, toPV, toDs, toD, splice, fillC, voteE, Edit.row]
  have h1 := k514o m liveL1 liveA live_k1 []
  have h2 := k514o m liveL liveA live_k2 []
  have h3 := k514o m liveN liveA live_k3 []
  rw [live_c1] at h1
  rw [live_c2] at h2
  rw [live_c3] at h3
  refine (lend_own (ps := [.c (.sl (liveL1.map Edit.row)), .c (.sl (liveA.map Member.row))]) (by rfl) (flat_cuts _) h1).mono ?_
  rintro t H' ⟨rfl, rfl⟩
  simp (implicitDefEqProofs := false) (disch := omega) [List.getElem?_cons_zero, callK]
  refine (lend_own (ps := [.c (.sl (liveL.map Edit.row)), .c (.sl (liveA.map Member.row))]) (by rfl) (flat_cuts _) h2).mono ?_
  rintro t H' ⟨rfl, rfl⟩
  have g4 := xg513 [⟨sCid, 3, 22⟩, ⟨sCid, 2, 19⟩] [⟨sCid, 3, 22⟩, ⟨sCid, 2, 19⟩] (by decide)
  rw [decide_eq_true rfl] at g4
  simp only [List.map_cons, List.map_nil, Cutoff.row, sCid] at g4
  simp (implicitDefEqProofs := false) (disch := omega) [List.getElem?_cons_zero, callK, g4, s5, Cutoff.row, sCid, splice, fillC, toDs, toD]
  have g5 := xg532 sAnn ⟨sAnn, 1⟩ ⟨sBob, 1⟩
  have g6 := xg532 sBob ⟨sBob, 1⟩ ⟨sAnn, 1⟩
  rw [note_1] at g5
  rw [note_2] at g6
  simp only [List.map_cons, List.map_nil, Id.row, noteX, Edit.row, sAnn, sBob] at g5 g6
  simp (implicitDefEqProofs := false) (disch := omega) [List.getElem?_cons_zero, b511_5, b511_6, g5, g6, s4, toPVs, frzVs, osVs, toPV, toDs, toD, splice, fillC]
  refine ⟨by kernel_rfl, by kernel_rfl, ?_⟩
  simp (implicitDefEqProofs := false) (disch := omega) [List.getElem?_cons_zero, b511_7, b511_8]
  refine (lend_own (ps := [.c (.sl (liveN.map Edit.row)), .c (.sl (liveA.map Member.row))]) (by rfl) (flat_cuts _) h3).mono ?_
  rintro t H' ⟨rfl, rfl⟩
  have g7 := xg513 [⟨sCid, 3, 22⟩] [⟨sCid, 3, 22⟩] (by decide)
  rw [decide_eq_true rfl] at g7
  simp only [List.map_cons, List.map_nil, Cutoff.row, sCid] at g7
  simp (implicitDefEqProofs := false) (disch := omega) [List.getElem?_cons_zero, callK, g7, s5, Cutoff.row, sCid, splice, fillC, toDs, toD]
  exact fin_nil ⟨rfl, rfl⟩
def x511 : XE := ⟨true, fun ps => match ps with | [] => some (True, .bool true) | _ => none⟩
theorem kx511 (m : Int) : Contract Tryz.prog (GM m) 11 x511 := contract_sc fun ps ob t h _ => by
  split at h
  · injection h with h; injection h with h1 h2; subst h2
    exact ⟨rfl, k511 m⟩
  · cases h
end Go.Aw.Try

namespace Go.Aw.Try
open Go Go.Proofs Go.Aw
set_option maxRecDepth 100000
set_option maxHeartbeats 4000000
/-! ### votes, and the sets that are decided -/
theorem pw_of_adj {α : Type} [Inhabited α] {R : α → α → Prop} (tr : ∀ a b c, R a b → R b c → R a c) {v : List α} (h : ∀ j, 0 < j → j < v.length → R (nth v (j - 1)) (nth v j)) : v.Pairwise R := by
  have key : ∀ d i, i + d + 1 < v.length → R (nth v i) (nth v (i + d + 1)) := by
    intro d
    induction d with
    | zero => intro i hi; exact h (i + 1) (by omega) hi
    | succ d ih =>
      intro i hi
      exact tr _ _ _ (ih i (by omega)) (h (i + (d + 1) + 1) (by omega) hi)
  rw [List.pairwise_iff_getElem]
  intro i j hi hj hij
  have := key (j - i - 1) i (by omega)
  rw [show i + (j - i - 1) + 1 = j from by omega, nth_eq hi, nth_eq hj] at this
  exact this
theorem nodup_len {α : Type} [DecidableEq α] : ∀ {M A : List α}, M.Nodup → (∀ x ∈ M, x ∈ A) → M.length ≤ A.length
  | [], _, _, _ => Nat.zero_le _
  | x :: r, A, hn, hs => by
    obtain ⟨h1, h2⟩ := List.nodup_cons.1 hn
    have hx : x ∈ A := hs x (List.mem_cons_self ..)
    have := nodup_len (A := A.erase x) h2 fun y hy => (List.mem_erase_of_ne (fun e => h1 (by rw [← e]; exact hy))).2 (hs y (List.mem_cons_of_mem _ hy))
    rw [List.length_erase_of_mem hx] at this
    have : 0 < A.length := List.length_pos_of_mem hx
    simp only [List.length_cons]; omega
theorem nodup_out {α : Type} [DecidableEq α] {M A : List α} (hn : M.Nodup) (h : A.length < M.length) : ∃ s ∈ M, s ∉ A := by
  refine Classical.byContradiction fun hc => ?_
  have := nodup_len hn (A := A) fun x hx => Classical.byContradiction fun hq => hc ⟨x, hx, hq⟩
  omega
theorem partS_iff {a b : List ByteArray} : partS a b = true ↔ ∀ s ∈ a, s ∈ b := by
  unfold partS
  rw [List.all_eq_true]
  exact ⟨fun h s hs => (hasS_iff b s).1 (h s hs), fun h s hs => (hasS_iff b s).2 (h s hs)⟩
/-- A vote that is well formed. -/
structure VOk (M : List ByteArray) (v : Vote) : Prop where
  kind : v.e.kind = 5
  mem : v.e.id.a ∈ M
  half : 2 * v.set.length < M.length
  asc : AscS v.set
  sub : ∀ s ∈ v.set, s ∈ M
  self : v.e.id.a ∉ v.set
  pos : 1 ≤ v.set.length
  who : v.set = parts v.e.who comma
theorem vok_of {M S : List ByteArray} {e : Edit} (h : namesO e M = some S) : VOk M ⟨e, S⟩ := by
  obtain ⟨h1, h2, h3, h4, h5⟩ := namesO_some h
  have hj : ∀ j, j < S.length → nth S j ≠ e.id.a ∧ nth S j ∈ M ∧ (0 < j → cmpS (nth S (j - 1)) (nth S j) < 0) := fun j hj => by
    have := h5 j hj
    unfold badN at this
    simp only [Bool.or_eq_false_iff, Bool.and_eq_false_iff, decide_eq_false_iff_not, Bool.not_eq_false'] at this
    refine ⟨this.1, (hasS_iff _ _).1 this.2.1, fun h0 => ?_⟩
    rcases this.2.2 with q | q
    · exact absurd h0 q
    · rw [strLt_eq] at q; exact of_decide_eq_true q
  refine ⟨h2, (hasS_iff _ _).1 h3, h4, pw_of_adj (R := fun a b => cmpS a b < 0) (fun a b c => cmpS_trans) fun j h0 h => (hj j h).2.2 h0, fun s hs => ?_, fun hs => ?_, ?_, h1⟩
  · obtain ⟨i, hi, rfl⟩ := List.mem_iff_getElem.1 hs
    have := (hj i hi).2.1
    rw [nth_eq hi] at this; exact this
  · obtain ⟨i, hi, he⟩ := List.mem_iff_getElem.1 hs
    have := (hj i hi).1
    rw [nth_eq hi] at this; exact this he
  · show 1 ≤ S.length
    rw [h1, parts_len _ _ comma_size]; omega
/-- Votes of one author grow. -/
def ChainV (vs : List Vote) : Prop := vs.Pairwise fun u v => u.e.id.a = v.e.id.a → (∀ s ∈ u.set, s ∈ v.set) ∧ u.set.length < v.set.length
theorem gatF_chain (M : List ByteArray) (l : List Edit) : ChainV (gatF M l).vs := by
  have key : ∀ (l : List Edit) (g : Gs), ChainV g.vs → (∀ u ∈ g.vs, ∃ A, alook g.m u.e.id.a = some A ∧ (∀ s ∈ u.set, s ∈ A) ∧ u.set.length ≤ A.length) → ChainV (l.foldl (gatS M) g).vs := by
    intro l
    induction l with
    | nil => intro g h _; exact h
    | cons e l ih =>
      intro g h1 h2
      rw [List.foldl_cons]
      unfold gatS
      cases hN : namesO e M with
      | none => exact ih g h1 h2
      | some S =>
        by_cases hb : blockB (alook g.m e.id.a) S = true
        · simp only [if_pos hb]; exact ih g h1 h2
        · simp only [if_neg hb]
          have hA : ∀ A, alook g.m e.id.a = some A → (∀ s ∈ A, s ∈ S) ∧ A.length < S.length := fun A ha => by
            rw [ha] at hb
            unfold blockB at hb
            simp only [Bool.or_eq_true, Bool.not_eq_true', decide_eq_true_eq, not_or] at hb
            refine ⟨partS_iff.1 ?_, by omega⟩
            cases hq : partS A S
            · exact absurd hq hb.1
            · rfl
          refine ih _ ?_ ?_
          · show ChainV (g.vs ++ [⟨e, S⟩])
            unfold ChainV
            rw [List.pairwise_append]
            refine ⟨h1, List.pairwise_singleton _ _, fun u hu v hv he => ?_⟩
            rw [List.mem_singleton] at hv; subst hv
            obtain ⟨A, ha, h3, h4⟩ := h2 u hu
            rw [he] at ha
            obtain ⟨h5, h6⟩ := hA A ha
            exact ⟨fun s hs => h5 s (h3 s hs), by show _ < S.length; omega⟩
          · intro u hu
            show ∃ A, alook (aput g.m e.id.a S) u.e.id.a = some A ∧ _
            rw [alook_aput]
            rcases List.mem_append.1 hu with hu | hu
            · obtain ⟨A, ha, h3, h4⟩ := h2 u hu
              by_cases q : e.id.a = u.e.id.a
              · rw [if_pos q]
                rw [← q] at ha
                obtain ⟨h5, h6⟩ := hA A ha
                exact ⟨S, rfl, fun s hs => h5 s (h3 s hs), by omega⟩
              · rw [if_neg q]; exact ⟨A, ha, h3, h4⟩
            · rw [List.mem_singleton] at hu; subst hu
              rw [if_pos rfl]; exact ⟨S, rfl, fun s hs => hs, Nat.le_refl _⟩
  exact key l ⟨[], []⟩ List.Pairwise.nil (fun u hu => by cases hu)
theorem saidB_iff {vs : List Vote} {S : List ByteArray} {s : ByteArray} : saidB (ofV vs S) s = true ↔ ∃ v ∈ vs, v.set = S ∧ v.e.id.a = s := by
  unfold saidB ofV
  rw [List.any_eq_true]
  constructor
  · rintro ⟨v, hv, he⟩
    rw [List.mem_filter] at hv
    exact ⟨v, hv.1, of_decide_eq_true hv.2, of_decide_eq_true he⟩
  · rintro ⟨v, hv, h1, h2⟩
    exact ⟨v, List.mem_filter.2 ⟨hv, decide_eq_true h1⟩, decide_eq_true h2⟩
theorem mem_stay {M S : List ByteArray} {s : ByteArray} : s ∈ stayS M S ↔ s ∈ M ∧ s ∉ S := by
  unfold stayS
  rw [List.mem_filter, Bool.not_eq_true']
  constructor
  · rintro ⟨h1, h2⟩
    exact ⟨h1, fun q => by rw [(hasS_iff S s).2 q] at h2; cases h2⟩
  · rintro ⟨h1, h2⟩
    refine ⟨h1, ?_⟩
    cases hq : hasS S s
    · rfl
    · exact absurd ((hasS_iff S s).1 hq) h2
theorem decB_iff {M : List ByteArray} {vs : List Vote} {S : List ByteArray} : decB M vs S = true ↔ ∀ s ∈ M, s ∉ S → ∃ v ∈ vs, v.set = S ∧ v.e.id.a = s := by
  unfold decB
  rw [Bool.not_eq_true', List.any_eq_false]
  constructor
  · intro h s hs hn
    have := h s (mem_stay.2 ⟨hs, hn⟩)
    rw [Bool.not_eq_true, Bool.not_eq_false'] at this
    exact saidB_iff.1 this
  · intro h s hs
    obtain ⟨h1, h2⟩ := mem_stay.1 hs
    rw [Bool.not_eq_true, Bool.not_eq_false']
    exact saidB_iff.2 (h s h1 h2)
/-- Votes as they are gathered. -/
structure VsOk (M : List ByteArray) (vs : List Vote) : Prop where
  nod : M.Nodup
  ok : ∀ v ∈ vs, VOk M v
  chain : ChainV vs
theorem chain_cmp {M : List ByteArray} {vs : List Vote} (h : VsOk M vs) {u v : Vote} (hu : u ∈ vs) (hv : v ∈ vs) (he : u.e.id.a = v.e.id.a) :
    u.set = v.set ∨ ((∀ s ∈ u.set, s ∈ v.set) ∧ u.set.length < v.set.length) ∨ ((∀ s ∈ v.set, s ∈ u.set) ∧ v.set.length < u.set.length) := by
  obtain ⟨i, hi, rfl⟩ := List.mem_iff_getElem.1 hu
  obtain ⟨j, hj, rfl⟩ := List.mem_iff_getElem.1 hv
  have hc := List.pairwise_iff_getElem.1 h.chain
  rcases Nat.lt_trichotomy i j with q | q | q
  · exact .inr (.inl (hc i j hi hj q he))
  · subst q; exact .inl rfl
  · exact .inr (.inr (hc j i hj hi q he.symm))
/-- A set that is decided. -/
def Dcd (M : List ByteArray) (vs : List Vote) (S : List ByteArray) : Prop := (∃ v ∈ vs, v.set = S) ∧ decB M vs S = true
theorem dcd_of_out {M : List ByteArray} {vs : List Vote} {S : List ByteArray} (h : S ∈ outU M vs vs) : Dcd M vs S := by
  obtain ⟨v, hv, rfl, hd⟩ := outU_mem h
  exact ⟨⟨v, hv, rfl⟩, hd⟩
/-- Of two decided sets one is part of the other. -/
theorem dcd_cmp {M : List ByteArray} {vs : List Vote} (h : VsOk M vs) {S T : List ByteArray} (hS : Dcd M vs S) (hT : Dcd M vs T) :
    S = T ∨ ((∀ s ∈ S, s ∈ T) ∧ S.length < T.length) ∨ ((∀ s ∈ T, s ∈ S) ∧ T.length < S.length) := by
  obtain ⟨⟨u, hu, rfl⟩, d1⟩ := hS
  obtain ⟨⟨v, hv, rfl⟩, d2⟩ := hT
  have h1 := (h.ok u hu).half
  have h2 := (h.ok v hv).half
  obtain ⟨s, hs, hn⟩ := nodup_out h.nod (A := u.set ++ v.set) (by rw [List.length_append]; omega)
  rw [List.mem_append, not_or] at hn
  obtain ⟨u', hu', e1, e2⟩ := decB_iff.1 d1 s hs hn.1
  obtain ⟨v', hv', e3, e4⟩ := decB_iff.1 d2 s hs hn.2
  rw [← e1, ← e3]
  exact chain_cmp h hu' hv' (by rw [e2, e4])
theorem dcd_len {M : List ByteArray} {vs : List Vote} (h : VsOk M vs) {S T : List ByteArray} (hS : Dcd M vs S) (hT : Dcd M vs T) (e : S.length = T.length) : S = T := by
  rcases dcd_cmp h hS hT with q | q | q
  · exact q
  · omega
  · omega
theorem outU_nodup (M : List ByteArray) (vs l : List Vote) : (outU M vs l).Nodup := by
  have key : ∀ (l : List Vote) (a : List (List ByteArray)), a.Nodup → (l.foldl (outStep M vs) a).Nodup := by
    intro l
    induction l with
    | nil => intro a h; exact h
    | cons v l ih =>
      intro a h
      refine ih _ ?_
      unfold outStep
      split
      · rename_i hc
        simp only [Bool.and_eq_true, Bool.not_eq_true', List.any_eq_false, decide_eq_true_eq] at hc
        unfold List.Nodup
        rw [List.pairwise_append]
        refine ⟨h, List.pairwise_singleton _ _, fun x hx y hy => ?_⟩
        rw [List.mem_singleton] at hy; subst hy
        exact hc.2 x hx
      · exact h
  exact key l [] List.Pairwise.nil
theorem nodup_small {l : List Nat} (n : Nat) (h : l.Nodup) (hb : ∀ x ∈ l, x < n) : l.length ≤ n := by
  have := nodup_len (A := List.range n) h fun x hx => List.mem_range.2 (hb x hx)
  simpa using this
theorem outU_few {M : List ByteArray} {vs : List Vote} (h : VsOk M vs) (h8 : M.length ≤ 8) : (outU M vs vs).length ≤ 12 := by
  have h1 : ((outU M vs vs).map List.length).Nodup := by
    unfold List.Nodup
    rw [List.pairwise_map]
    refine List.Pairwise.imp_of_mem (R := fun a b => a ≠ b) (fun {a b} ha hb hne e => hne ?_) (outU_nodup M vs vs)
    exact dcd_len h (dcd_of_out ha) (dcd_of_out hb) e
  have := nodup_small 4 h1 fun x hx => by
    obtain ⟨S, hS, rfl⟩ := List.mem_map.1 hx
    obtain ⟨⟨v, hv, rfl⟩, _⟩ := dcd_of_out hS
    have := (h.ok v hv).half
    omega
  rw [List.length_map] at this
  omega
theorem OkR.nod {l : List Edit} {all : List Member} (h : OkR l all) : (all.map Member.name).Nodup := by
  unfold List.Nodup
  rw [List.pairwise_map, List.pairwise_iff_getElem]
  intro i j hi hj hij
  have := (h.2.2.1 j hj).2 i hij
  rw [nth_eq hi, nth_eq hj] at this; exact this
theorem OkR.okE {l : List Edit} {all : List Member} (h : OkR l all) {e : Edit} (he : e ∈ l) : okE e := by
  obtain ⟨i, hi, rfl⟩ := List.mem_iff_getElem.1 he
  have := (h.2.2.2 i hi).1
  rw [nth_eq hi] at this; exact this
theorem OkR.vs {l : List Edit} {all : List Member} (h : OkR l all) : VsOk (all.map Member.name) (gatC l all).vs :=
  ⟨h.nod, fun v hv => vok_of (gatC_mem hv).2, gatF_chain _ _⟩
theorem OkR.okC {l : List Edit} {all : List Member} (h : OkR l all) : okC l all := by
  have h1 := h.1
  have h2 := h.2.1
  refine ⟨by omega, by omega, fun e he => ?_, fun e he => ?_, outU_few h.vs (by show (all.map Member.name).length ≤ 8; rw [List.length_map]; exact h2)⟩
  · have := (h.okE he).2.2.1; omega
  · have hk := h.okE he
    exact ⟨(chk_asc hk.1).1, by have := hk.2.1; omega⟩
theorem hasN_nonneg {v : List Id} (h : ∀ x ∈ v, 1 ≤ x.n) (a : ByteArray) : 0 ≤ hasN v a := by
  unfold hasN
  cases hf : v.find? (prA a) with
  | none => exact Int.le_refl _
  | some x => have := h x (List.mem_of_find?_eq_some hf); show 0 ≤ x.n; omega
end Go.Aw.Try

namespace Go.Aw.Try
open Go Go.Proofs Go.Aw
set_option maxRecDepth 100000
set_option maxHeartbeats 4000000
/-! ### EvictMinority: the walk -/
/-- Lists of a size that fits. -/
structure Sz (l : List Edit) (all : List Member) : Prop where
  sl : l.length < 4611686018427387904
  sa : all.length < 4611686018427387904
  sn : ∀ m ∈ all, m.name.size < 4611686018427387904
  se : ∀ e ∈ l, szE e
def gst (x : List Cutoff) : Nat × ByteArray := x.foldl (fun s c => if c.err = 22 then (s.1 + 1, c.who) else s) (0, ⟨#[]⟩)
def okAt (x : List Cutoff) (i : Nat) : Prop :=
  ((nth x i).err = 22 ∧ (0 < (gst (x.take i)).1 → strLt (gst (x.take i)).2 (nth x i).who = true)) ∨
  ((nth x i).err = 19 ∧ 0 < i ∧ (nth x (i - 1)).who = (nth x i).who ∧ (nth x (i - 1)).err = 22 ∧ (nth x i).n ≤ (nth x (i - 1)).n)
def votedB (l : List Edit) (nm : ByteArray) : Bool := l.any fun e => decide (e.kind = 5) && decide (e.id.a = nm)
structure MinOk (l : List Edit) (all : List Member) (x : List Cutoff) : Prop where
  len : x.length < 1000000
  at' : ∀ i, i < x.length → okAt x i
  few : 0 < (gst x).1 → 2 * (gst x).1 < all.length
  vote : 0 < (gst x).1 → ∀ m ∈ all, (cutF x m.name).2 = true ∨ votedB l m.name = true
theorem gst_len (x : List Cutoff) : (gst x).1 ≤ x.length := by
  have key : ∀ (x : List Cutoff) (s : Nat × ByteArray), (x.foldl (fun s c => if c.err = 22 then (s.1 + 1, c.who) else s) s).1 ≤ s.1 + x.length := by
    intro x
    induction x with
    | nil => intro s; simp
    | cons c x ih =>
      intro s
      have := ih (if c.err = 22 then (s.1 + 1, c.who) else s)
      rw [List.foldl_cons, List.length_cons]
      have h2 : (if c.err = 22 then (s.1 + 1, c.who) else s).1 ≤ s.1 + 1 := by split <;> simp
      omega
  have := key x (0, ⟨#[]⟩)
  simpa [gst] using this
theorem gst_take {x : List Cutoff} {i : Nat} (h : i < x.length) : gst (x.take (i + 1)) = if (nth x i).err = 22 then ((gst (x.take i)).1 + 1, (nth x i).who) else gst (x.take i) := by
  rw [gst, take_foldl _ _ h]; rfl
theorem strLt_not {a b : ByteArray} (h : strLt a b = true) : (strLt b a || decide (b = a)) = false := by
  rw [strLt_eq] at h
  have h := of_decide_eq_true h
  have h2 := cmpS_sgn a b
  have h3 : ¬ cmpS b a < 0 := by omega
  have h4 : b ≠ a := fun e => by subst e; have := (cmpS_eq b b).2 rfl; omega
  rw [strLt_eq, decide_eq_false h3, decide_eq_false h4]; rfl
theorem k504 (m : Int) (l : List Edit) (all : List Member) (hz : Sz l all) (hm : OkR l all → MinOk l all (cutsE l all)) :
    ACalls Tryz.prog (GM m) 4 [.c (.d (.sl (l.map Edit.row))), .c (.d (.sl (all.map Member.row)))] [] fun t H => t = .bool true ∧ H = [] := by
  have s1 : x511.sc = true := rfl
  have s2 : x512.sc = true := rfl
  have s3 : (x514 m).sc = false := rfl
  have s4 : x516.sc = true := rfl
  have g0 : x511.g [] = some (True, .bool true) := rfl
  have g1 := xg512 l all hz.sl hz.sa hz.sn hz.se
  refine acallsX (X := [(11, x511), (12, x512), (14, x514 m), (16, x516)]) ⟨kx511 m, kx512.gm, kx514 m, kx516.gm, trivial⟩ tab hmix Tryz.func4 c504 (by rfl) fun hw => ?_
  by_cases hok : OkR l all
  · have hM := hm hok
    rw [right_yes hok] at g1
    have g2 := xg514 m l all hok.okC
    obtain ⟨x, hx⟩ : ∃ x, x = cutsE l all := ⟨_, rfl⟩
    rw [← hx] at hM g2
    have hxl := hM.len
    simp (implicitDefEqProofs := false) (disch := omega) [List.getElem?_cons_zero, ir504, b504, b504_0, b504_1, b504_2, b504_3, b504_4, b504_5, s1, s2, s3, g0, g1, g2, wrap64, toPVs, frzVs, osVs, toPV]
    refine loopE (fun k st => ∃ i, i ≤ x.length ∧ k = x.length - i ∧
        st = ⟨ofL [(0, .v (.c (.d (.sl (l.map Edit.row))))), (1, .v (.c (.d (.sl (all.map Member.row))))), (5, .int .i64 (gst (x.take i)).1), (6, .v (.c (.d (.v (.string (gst (x.take i)).2))))), (7, .v (.c (.d (.sl (x.map Cutoff.row))))), (26, .v (.c (.d (.sl (x.map Cutoff.row))))), (27, .int .i64 x.length), (28, .int .i64 i)], []⟩)
      (fun st => AtS [(0, .v (.c (.d (.sl (l.map Edit.row))))), (1, .v (.c (.d (.sl (all.map Member.row))))), (5, .int .i64 (gst x).1), (7, .v (.c (.d (.sl (x.map Cutoff.row)))))] [] st) ?_ ?_ ?_
    · refine wk_nil [] [0, 1, 5, 6, 7, 26, 27, 28] rfl ⟨_, 0, by omega, rfl, ?_⟩
      simp [gst]
    · rintro J L hJ hL k st ⟨i, hi, rfl, rfl⟩
      by_cases hlt : i < x.length
      · have hst := gst_take hlt
        have hat := hM.at' i hlt
        unfold okAt at hat
        obtain ⟨c, hc⟩ : ∃ c, nth x i = c := ⟨_, rfl⟩
        obtain ⟨d, hd⟩ : ∃ c, nth x (i - 1) = c := ⟨_, rfl⟩
        have hcr : c.row = [.v (.string c.who), .v (.int .i64 c.n), .v (.int .i64 c.err)] := rfl
        have hdr : d.row = [.v (.string d.who), .v (.int .i64 d.n), .v (.int .i64 d.err)] := rfl
        have hgl := gst_len (x.take i)
        rw [List.length_take] at hgl
        rw [hc] at hst
        rw [hc, hd] at hat
        obtain ⟨n, hn⟩ : ∃ n, n = (gst (x.take i)).1 := ⟨_, rfl⟩
        obtain ⟨la, hla⟩ : ∃ n, n = (gst (x.take i)).2 := ⟨_, rfl⟩
        rw [← hn, ← hla] at hat
        rw [← hn] at hst hgl
        rw [← hn, ← hla]
        rcases hat with ⟨a1, a2⟩ | ⟨a1, a2, a3, a4, a5⟩
        · rw [if_pos a1] at hst
          by_cases n0 : 0 < n
          · have hle := strLt_not (a2 n0)
            simp (implicitDefEqProofs := false) (disch := omega) [List.getElem?_cons_zero, hlt, wrap64, nth_map, hc, hcr, splice, fillC, a1, n0, binSF, hle]
            repeat' (with_reducible apply And.intro)
            all_goals first | omega | kernel_rfl | exact fun _ _ => rfl | skip
            subst hJ
            refine wk_nil [] [0, 1, 5, 6, 7, 26, 27, 28] rfl ⟨x.length - (i + 1), by omega, i + 1, by omega, rfl, ?_⟩
            rw [hst]; simp
          · have n1 : n = 0 := by omega
            simp (implicitDefEqProofs := false) (disch := omega) [List.getElem?_cons_zero, hlt, wrap64, nth_map, hc, hcr, splice, fillC, a1, n1, binSF]
            repeat' (with_reducible apply And.intro)
            all_goals first | omega | kernel_rfl | exact fun _ _ => rfl | skip
            subst hJ
            refine wk_nil [] [0, 1, 5, 6, 7, 26, 27, 28] rfl ⟨x.length - (i + 1), by omega, i + 1, by omega, rfl, ?_⟩
            rw [hst]; simp [n1]
        · have hi1 : ((i : Int) - 1) = ((i - 1 : Nat) : Int) := by omega
          have hl1 : i - 1 < x.length := by omega
          have hi0 : ¬ i = 0 := by omega
          rw [if_neg (by omega)] at hst
          simp (implicitDefEqProofs := false) (disch := omega) [List.getElem?_cons_zero, hlt, wrap64, nth_map, hc, hcr, hd, hdr, splice, fillC, a1, a2, a3, a4, a5, hi1, hl1, hi0, binSF]
          repeat' (with_reducible apply And.intro)
          all_goals first | omega | kernel_rfl | exact fun _ _ => rfl | skip
          subst hJ
          refine wk_nil [] [0, 1, 5, 6, 7, 26, 27, 28] rfl ⟨x.length - (i + 1), by omega, i + 1, by omega, rfl, ?_⟩
          rw [hst, ← hn, ← hla]; simp
      · have : i = x.length := by omega
        subst this
        rw [List.take_length]
        simp (implicitDefEqProofs := false) (disch := omega) [List.getElem?_cons_zero, hlt]
        subst hL
        exact at_mk (by simp) rfl
    · rintro _ ⟨sl, rfl⟩
      have hfew := hM.few
      have hvote := hM.vote
      have hgl := gst_len x
      have hal := hok.2.1
      have hl40 := hok.1
      obtain ⟨n, hn⟩ : ∃ n, n = (gst x).1 := ⟨_, rfl⟩
      rw [← hn] at hfew hvote hgl ⊢
      show wcodeX Tryz.prog (GM m) _ 0 (.seq b504_6 (.seq b504_7 (.seq b504_8 b504_9))) _ _
      refine seqG (fun st => AtS [(1, .v (.c (.d (.sl (all.map Member.row))))), (0, .v (.c (.d (.sl (l.map Edit.row))))), (5, .int .i64 n), (7, .v (.c (.d (.sl (x.map Cutoff.row)))))] [] st) ?_ ?_
      · rintro J' hJ'
        simp (implicitDefEqProofs := false) (disch := omega) [List.getElem?_cons_zero, b504_6, wrap64]
        subst hJ'
        refine ⟨fun h => ⟨fun h2 => absurd (hfew h2) (by omega), fun h2 => ?_⟩, fun h => ?_⟩
        · exact at_mk (by simp) rfl
        · exact at_mk (by simp) rfl
      rintro _ ⟨sl, rfl⟩
      simp (implicitDefEqProofs := false) (disch := omega) [List.getElem?_cons_zero, b504_7, wrap64]
      refine loopE (fun k st => ∃ i, i ≤ all.length ∧ k = all.length - i ∧ st = ⟨ofL [(0, .v (.c (.d (.sl (l.map Edit.row))))), (5, .int .i64 n), (7, .v (.c (.d (.sl (x.map Cutoff.row))))), (94, .v (.c (.d (.sl (all.map Member.row))))), (95, .int .i64 all.length), (96, .int .i64 i)], []⟩) (fun st => AtS [] [] st) ?_ ?_ ?_
      · refine wk_nil [] [0, 5, 7, 94, 95, 96] rfl ⟨_, 0, by omega, rfl, ?_⟩
        simp
      · rintro J L hJ hL k st ⟨i, hi, rfl, rfl⟩
        by_cases hlt : i < all.length
        · obtain ⟨y, hy⟩ : ∃ y, nth all i = y := ⟨_, rfl⟩
          have hym : y ∈ all := by rw [← hy]; exact nth_mem hlt
          have hyr : y.row = [.v (.string y.name), .v (.string y.key)] := rfl
          have g3 := xg516 x y.name (by omega)
          have hv := fun h => hvote h y hym
          obtain ⟨q, hq⟩ : ∃ q, q = cutF x y.name := ⟨_, rfl⟩
          rw [← hq] at g3 hv
          have hcT : cutT q = .tup [.c (.d (.v (.int .i64 q.1))), .c (.d (.v (.bool q.2)))] := rfl
          rw [hcT] at g3
          simp (implicitDefEqProofs := false) (disch := omega) [List.getElem?_cons_zero, hlt, wrap64, nth_map, hy, hyr, splice, fillC, s4, g3]
          refine loopE (fun k st => ∃ j, j ≤ l.length ∧ k = l.length - j ∧ st = ⟨ofL [(0, .v (.c (.d (.sl (l.map Edit.row))))), (5, .int .i64 n), (7, .v (.c (.d (.sl (x.map Cutoff.row))))), (94, .v (.c (.d (.sl (all.map Member.row))))), (95, .int .i64 all.length), (96, .int .i64 i), (11, .v (.c (.ptr 0 0))), (13, .bool q.2), (14, .bool (votedB (l.take j) y.name)), (107, .v (.c (.d (.sl (l.map Edit.row))))), (108, .int .i64 l.length), (109, .int .i64 j)], [.cells [.d (.v (.string y.name)), .d (.v (.string y.key))]]⟩)
            (fun st => AtS [(0, .v (.c (.d (.sl (l.map Edit.row))))), (5, .int .i64 n), (7, .v (.c (.d (.sl (x.map Cutoff.row))))), (94, .v (.c (.d (.sl (all.map Member.row))))), (95, .int .i64 all.length), (96, .int .i64 i), (13, .bool q.2), (14, .bool (votedB l y.name))] [.cells [.d (.v (.string y.name)), .d (.v (.string y.key))]] st) ?_ ?_ ?_
          · refine wk_nil [0] [0, 5, 7, 94, 95, 96, 11, 13, 14, 107, 108, 109] rfl ⟨_, 0, by omega, rfl, ?_⟩
            simp [votedB, phi, O.ren]
          · rintro J2 L2 hJ2 hL2 k2 st ⟨j, hj, rfl, rfl⟩
            by_cases hjl : j < l.length
            · obtain ⟨e, he⟩ : ∃ e, nth l j = e := ⟨_, rfl⟩
              have hee : e.row = [.v (.string e.id.a), .v (.int .i64 e.id.n), .v (.int .i64 e.clock), .v (.int .i64 e.floor), .sl (e.deps.map Id.row), .v (.int .i64 e.kind), .v (.string e.node.a), .v (.int .i64 e.node.n), .v (.string e.parent.a), .v (.int .i64 e.parent.n), .v (.bool e.neg), .v (.string e.num), .v (.string e.den), .v (.string e.field), .v (.string e.value), .v (.string e.target.a), .v (.int .i64 e.target.n), .v (.string e.who)] := rfl
              have hst : votedB (l.take (j + 1)) y.name = (votedB (l.take j) y.name || (decide (e.kind = 5) && decide (e.id.a = y.name))) := by
                unfold votedB; rw [take_nth hjl, List.any_append, he]; simp
              obtain ⟨v, hv2⟩ : ∃ v, v = votedB (l.take j) y.name := ⟨_, rfl⟩
              rw [← hv2] at hst ⊢
              have fin : ∀ (sl : Nat → T) (Z : List O), sl 0 = .v (.c (.d (.sl (l.map Edit.row)))) → sl 5 = .int .i64 n → sl 7 = .v (.c (.d (.sl (x.map Cutoff.row)))) → sl 94 = .v (.c (.d (.sl (all.map Member.row)))) → sl 95 = .int .i64 all.length → sl 96 = .int .i64 i → sl 11 = .v (.c (.ptr 0 0)) → sl 13 = .bool q.2 →
                  sl 14 = .bool (votedB (l.take (j + 1)) y.name) → sl 107 = .v (.c (.d (.sl (l.map Edit.row)))) → sl 108 = .int .i64 l.length → sl 109 = .int .i64 (j + 1 : Nat) → wk Tryz.prog (GM m) 0 ⟨sl, .cells [.d (.v (.string y.name)), .d (.v (.string y.key))] :: Z⟩ (fun s'' => ∃ k', k' < l.length - j ∧ J2 k' s'') := fun sl Z q0 q1 q2 q3 q4 q5 q6 q7 q8 q9 q10 q11 => by
                subst hJ2
                refine wk_nil [0] [0, 5, 7, 94, 95, 96, 11, 13, 14, 107, 108, 109] (by simp [selB, phi]) ⟨l.length - (j + 1), by omega, j + 1, by omega, rfl, ?_⟩
                simp [q0, q1, q2, q3, q4, q5, q6, q7, q8, q9, q10, q11, phi, O.ren]
              cases v
              · by_cases c1 : e.kind = 5
                · simp (implicitDefEqProofs := false) (disch := omega) [List.getElem?_cons_zero, hjl, wrap64, nth_map, he, hee, splice, fillC, binSF, c1]
                  exact fin _ _ (by simp) (by simp) (by simp) (by simp) (by simp) (by simp) (by simp) (by simp) (by rw [hst]; simp [c1]) (by simp) (by simp) (by simp) 
                · simp (implicitDefEqProofs := false) (disch := omega) [List.getElem?_cons_zero, hjl, wrap64, nth_map, he, hee, splice, fillC, binSF, c1]
                  exact fin _ _ (by simp) (by simp) (by simp) (by simp) (by simp) (by simp) (by simp) (by simp) (by rw [hst]; simp [c1]) (by simp) (by simp) (by simp) 
              · simp (implicitDefEqProofs := false) (disch := omega) [List.getElem?_cons_zero, hjl, wrap64, nth_map, he, hee, splice, fillC, binSF]
                exact fin _ _ (by simp) (by simp) (by simp) (by simp) (by simp) (by simp) (by simp) (by simp) (by rw [hst]; simp) (by simp) (by simp) (by simp) 
            · have : j = l.length := by omega
              subst this
              rw [List.take_length]
              simp (implicitDefEqProofs := false) (disch := omega) [List.getElem?_cons_zero, hjl]
              subst hL2
              exact at_mk (by simp) rfl
          · rintro _ ⟨sl, rfl⟩
            obtain ⟨w, hw2⟩ : ∃ w, w = votedB l y.name := ⟨_, rfl⟩
            obtain ⟨z, hz2⟩ : ∃ z, z = q.2 := ⟨_, rfl⟩
            rw [← hw2, ← hz2] at hv ⊢
            have fin2 : ∀ (sl : Nat → T) (Z : List O), sl 0 = .v (.c (.d (.sl (l.map Edit.row)))) → sl 5 = .int .i64 n → sl 7 = .v (.c (.d (.sl (x.map Cutoff.row)))) → sl 94 = .v (.c (.d (.sl (all.map Member.row)))) → sl 95 = .int .i64 all.length → sl 96 = .int .i64 (i + 1 : Nat) → wk Tryz.prog (GM m) 0 ⟨sl, Z⟩ (fun s'' => ∃ k', k' < all.length - i ∧ J k' s'') := fun sl Z q0 q1 q2 q3 q4 q5 => by
              subst hJ
              refine wk_nil [] [0, 5, 7, 94, 95, 96] rfl ⟨all.length - (i + 1), by omega, i + 1, by omega, rfl, ?_⟩
              simp [q0, q1, q2, q3, q4, q5]
            simp (implicitDefEqProofs := false) (disch := omega) [List.getElem?_cons_zero, wrap64]
            refine ⟨fun h => ⟨fun h2 => ⟨fun h3 => ?_, fun h3 => ?_⟩, fun h2 => ?_⟩, fun h => ?_⟩
            · rcases hv h with q | q
              · rw [h2] at q; cases q
              · rw [h3] at q; cases q
            · exact fin2 _ _ (by simp) (by simp) (by simp) (by simp) (by simp) (by simp) 
            · exact fin2 _ _ (by simp) (by simp) (by simp) (by simp) (by simp) (by simp) 
            · exact fin2 _ _ (by simp) (by simp) (by simp) (by simp) (by simp) (by simp) 
        · have : i = all.length := by omega
          subst this
          simp (implicitDefEqProofs := false) (disch := omega) [List.getElem?_cons_zero, hlt]
          subst hL
          exact at_mk (by simp) rfl
      · rintro _ ⟨sl, rfl⟩
        simp (implicitDefEqProofs := false) (disch := omega) [List.getElem?_cons_zero, b504_8, b504_9]
        exact fin_nil ⟨rfl, rfl⟩
  · rw [right_no hok] at g1
    simp (implicitDefEqProofs := false) (disch := omega) [List.getElem?_cons_zero, ir504, b504, b504_0, b504_1, b504_2, s1, s2, g0, g1]
    exact fin_nil ⟨rfl, rfl⟩
end Go.Aw.Try

namespace Go.Aw.Try
open Go Go.Proofs Go.Aw
set_option maxRecDepth 100000
set_option maxHeartbeats 4000000
/-! ### EvictMinority: the law -/
theorem sure_fold {s : ByteArray} : ∀ {l : List Vote} {x : Int}, (∀ v ∈ l, 0 ≤ hasN v.e.deps s) →
    (0 ≤ x → 0 ≤ l.foldl (sureStep s) x ∧ l.foldl (sureStep s) x ≤ x) ∧ ∀ v ∈ l, s ∈ v.set → 0 ≤ l.foldl (sureStep s) x ∧ l.foldl (sureStep s) x ≤ hasN v.e.deps s
  | [], x, _ => ⟨fun h => ⟨h, Int.le_refl _⟩, fun v hv => by cases hv⟩
  | v :: l, x, h => by
    have hv := h v (List.mem_cons_self ..)
    have ih := sure_fold (s := s) (l := l) (x := sureStep s x v) fun u hu => h u (List.mem_cons_of_mem _ hu)
    rw [List.foldl_cons]
    have hx : 0 ≤ x → 0 ≤ sureStep s x v ∧ sureStep s x v ≤ x := fun h0 => by
      unfold sureStep
      split
      · rename_i hc
        simp only [Bool.and_eq_true, Bool.or_eq_true, decide_eq_true_eq] at hc
        exact ⟨hv, by omega⟩
      · exact ⟨h0, Int.le_refl _⟩
    have hin : s ∈ v.set → 0 ≤ sureStep s x v ∧ sureStep s x v ≤ hasN v.e.deps s := fun hs => by
      unfold sureStep
      rw [(hasS_iff v.set s).2 hs, Bool.true_and]
      split
      · exact ⟨hv, Int.le_refl _⟩
      · rename_i hc
        simp only [Bool.or_eq_true, decide_eq_true_eq, not_or] at hc
        exact ⟨by omega, by omega⟩
    refine ⟨fun h0 => ?_, fun u hu hs => ?_⟩
    · obtain ⟨a, b⟩ := hx h0
      obtain ⟨c, d⟩ := ih.1 a
      exact ⟨c, by omega⟩
    · rcases List.mem_cons.1 hu with rfl | hu
      · obtain ⟨a, b⟩ := hin hs
        obtain ⟨c, d⟩ := ih.1 a
        exact ⟨c, by omega⟩
      · exact ih.2 u hu hs
theorem sureN_le {vs : List Vote} {s : ByteArray} (h : ∀ v ∈ vs, 0 ≤ hasN v.e.deps s) {v : Vote} (hv : v ∈ vs) (hs : s ∈ v.set) : sureN vs s ≤ hasN v.e.deps s := by
  obtain ⟨h1, h2⟩ := (sure_fold (x := -1) h).2 v hv hs
  unfold sureN sureL
  rw [if_neg (by omega)]; exact h2
theorem max_fold {s : ByteArray} : ∀ {l : List Vote} {x : Int}, x ≤ l.foldl (maxStep s) x ∧ ∀ v ∈ l, hasN v.e.deps s ≤ l.foldl (maxStep s) x
  | [], x => ⟨Int.le_refl _, fun v hv => by cases hv⟩
  | v :: l, x => by
    have ih := max_fold (s := s) (l := l) (x := maxStep s x v)
    rw [List.foldl_cons]
    have h1 : x ≤ maxStep s x v ∧ hasN v.e.deps s ≤ maxStep s x v := by unfold maxStep; split <;> omega
    refine ⟨by omega, fun u hu => ?_⟩
    rcases List.mem_cons.1 hu with rfl | hu
    · omega
    · exact ih.2 u hu
theorem maxN_ge {vs : List Vote} {s : ByteArray} {v : Vote} (hv : v ∈ vs) : hasN v.e.deps s ≤ maxN vs s := max_fold.2 v hv
theorem pickI_lead {vs : List Vote} {sets : List (List ByteArray)} {at' : Nat} {name : ByteArray} : ∀ {m i : Nat}, pickI vs sets at' name m = some i → leadB vs sets at' name i = true
  | 0, i, h => by cases h
  | m + 1, i, h => by
    simp only [pickI] at h
    split at h
    · rename_i hl; injection h with h; subst h; exact hl
    · exact pickI_lead h
theorem mem_ofV {vs : List Vote} {S : List ByteArray} {v : Vote} : v ∈ ofV vs S ↔ v ∈ vs ∧ v.set = S := by
  unfold ofV; rw [List.mem_filter, decide_eq_true_eq]
theorem upto_sure {vs : List Vote} {sets : List (List ByteArray)} {s : ByteArray} (h : ∀ v ∈ vs, 0 ≤ hasN v.e.deps s) (hd : ∀ S ∈ sets, ∃ v ∈ vs, v.set = S) :
    ∀ at', at' < sets.length → s ∈ nth sets at' → sureN vs s ≤ uptoE vs sets s at' := by
  intro at'
  induction at' using Nat.strongRecOn with
  | _ n ih =>
    intro hn hs
    rw [uptoE_eq]
    cases hp : pickI vs sets n s n with
    | some i =>
      have hlt := pickI_lt hp
      have hl := pickI_lead hp
      unfold leadB at hl
      rw [Bool.and_eq_true] at hl
      exact ih i hlt (by omega) ((hasS_iff _ _).1 hl.1)
    | none =>
      obtain ⟨v, hv, he⟩ := hd _ (nth_mem hn)
      have h1 : sureN vs s ≤ hasN v.e.deps s := sureN_le h hv (by rw [he]; exact hs)
      have h2 := maxN_ge (s := s) (mem_ofV.2 ⟨hv, he⟩)
      exact Int.le_trans h1 h2
theorem okAt_app {x y : List Cutoff} {i : Nat} (hi : i < x.length) (h : okAt x i) : okAt (x ++ y) i := by
  unfold okAt at h ⊢
  rw [nth_app_l hi, nth_app_l (show i - 1 < x.length by omega), List.take_append_of_le_length (by omega)]
  exact h
theorem cutF_some {x : List Cutoff} {nm : ByteArray} (h : ∃ c ∈ x, c.who = nm ∧ c.err = 22) : (cutF x nm).2 = true := by
  induction x with
  | nil => obtain ⟨c, hc, _⟩ := h; cases hc
  | cons d x ih =>
    obtain ⟨c, hc, h1, h2⟩ := h
    unfold cutF
    split
    · rfl
    · rename_i hn
      rcases List.mem_cons.1 hc with rfl | hc
      · exact absurd ⟨h1, h2⟩ hn
      · exact ih ⟨c, hc, h1, h2⟩
/-- The cutoffs of one name. -/
def blk (N U : ByteArray → Int) (fin : Bool) (s : ByteArray) : List Cutoff := ⟨s, N s, 22⟩ :: if fin = true then [] else [⟨s, U s, 19⟩]
theorem blk_all {N U : ByteArray → Int} {fin : Bool} {S : List ByteArray} (ha : AscS S) (hu : ∀ s ∈ S, U s ≤ N s) : ∀ k, k ≤ S.length →
    (∀ i, i < ((S.take k).flatMap (blk N U fin)).length → okAt ((S.take k).flatMap (blk N U fin)) i) ∧ (gst ((S.take k).flatMap (blk N U fin))).1 = k ∧ (0 < k → (gst ((S.take k).flatMap (blk N U fin))).2 = nth S (k - 1)) := by
  intro k
  induction k with
  | zero => intro _; exact ⟨fun i hi => by simp at hi, rfl, fun h => by omega⟩
  | succ k ih =>
    intro hk
    obtain ⟨h1, h2, h3⟩ := ih (by omega)
    have hlt : k < S.length := by omega
    have hD : (S.take (k + 1)).flatMap (blk N U fin) = (S.take k).flatMap (blk N U fin) ++ blk N U fin (nth S k) := by
      rw [take_nth hlt, List.flatMap_append]; simp
    have hs : nth S k ∈ S := nth_mem hlt
    obtain ⟨D, hDD⟩ : ∃ D, D = (S.take k).flatMap (blk N U fin) := ⟨_, rfl⟩
    obtain ⟨s, hss⟩ : ∃ s, s = nth S k := ⟨_, rfl⟩
    rw [← hDD] at h1 h2 h3 hD
    rw [← hss] at hD hs
    rw [hD]
    have hg : gst (D ++ blk N U fin s) = (k + 1, s) := by
      unfold gst blk
      rw [List.foldl_append]
      have e1 : D.foldl (fun s c => if c.err = 22 then (s.1 + 1, c.who) else s) (0, ⟨#[]⟩) = gst D := rfl
      rw [e1]
      cases fin <;> simp [h2]
    have hhd : okAt (D ++ blk N U fin s) D.length := by
      have e0 : nth (D ++ blk N U fin s) D.length = ⟨s, N s, 22⟩ := by rw [nth_app_r (Nat.le_refl _), Nat.sub_self]; rfl
      have e1 : (D ++ blk N U fin s).take D.length = D := by simp
      unfold okAt
      rw [e0, e1]
      refine .inl ⟨rfl, fun h0 => ?_⟩
      rw [h2] at h0
      rw [h3 h0, strLt_eq]
      refine decide_eq_true ?_
      have hp := List.pairwise_iff_getElem.1 ha (k - 1) k (by omega) hlt (by omega)
      show cmpS (nth S (k - 1)) s < 0
      rw [hss, nth_eq (show k - 1 < S.length by omega), nth_eq hlt]; exact hp
    refine ⟨fun i hi => ?_, by rw [hg], fun _ => by rw [hg, Nat.add_sub_cancel, hss]⟩
    by_cases c1 : i < D.length
    · exact okAt_app c1 (h1 i c1)
    · by_cases c2 : i = D.length
      · subst c2; exact hhd
      · cases fin with
        | true => simp [blk] at hi; omega
        | false =>
          have hi2 : i = D.length + 1 := by simp [blk] at hi; omega
          subst hi2
          have e0 : nth (D ++ blk N U false s) (D.length + 1) = ⟨s, U s, 19⟩ := by rw [nth_app_r (by omega), show D.length + 1 - D.length = 1 from by omega]; rfl
          have e1 : nth (D ++ blk N U false s) D.length = ⟨s, N s, 22⟩ := by rw [nth_app_r (Nat.le_refl _), Nat.sub_self]; rfl
          unfold okAt
          rw [Nat.add_sub_cancel, e0, e1]
          exact .inr ⟨rfl, by omega, rfl, rfl, hu s hs⟩
theorem blk_len {N U : ByteArray → Int} {fin : Bool} (S : List ByteArray) : (S.flatMap (blk N U fin)).length ≤ 2 * S.length := by
  induction S with
  | nil => simp
  | cons s S ih =>
    have : (blk N U fin s).length ≤ 2 := by unfold blk; cases fin <;> simp
    simp only [List.flatMap_cons, List.length_append, List.length_cons]; omega
theorem minority_ok {l : List Edit} {all : List Member} (h : OkR l all) : MinOk l all (cutsE l all) := by
  have hv := h.vs
  have hsm : ∀ v ∈ (gatC l all).vs, SmallS v.set := fun v hv2 => by
    have := (hv.ok v hv2).half
    have h2 := h.2.1
    rw [List.length_map] at this
    show v.set.length < _; omega
  unfold cutsE
  obtain ⟨c, hc⟩ : ∃ c, c = gatC l all := ⟨_, rfl⟩
  rw [← hc] at hv hsm ⊢
  have hcm : c.mem = all.map Member.name := by rw [hc]; rfl
  rw [hcm]
  obtain ⟨sets, hsets⟩ : ∃ s, s = outL (all.map Member.name) c.vs := ⟨_, rfl⟩
  rw [← hsets]
  unfold cutsC
  by_cases h0 : sets.length = 0
  · rw [if_pos h0]
    exact ⟨by simp, fun i hi => by simp at hi, fun q => by simp [gst] at q, fun q => by simp [gst] at q⟩
  · rw [if_neg h0]
    have hn1 : sets.length - 1 < sets.length := by omega
    obtain ⟨S, hS⟩ : ∃ S, S = nth sets (sets.length - 1) := ⟨_, rfl⟩
    rw [← hS]
    have hSm : S ∈ sets := by rw [hS]; exact nth_mem hn1
    have hdc : ∀ T ∈ sets, Dcd (all.map Member.name) c.vs T := fun T hT => by
      rw [hsets] at hT
      exact dcd_of_out ((outL_mem hsm).1 hT)
    obtain ⟨⟨v0, hv0, he0⟩, hd0⟩ := hdc S hSm
    have hvok := hv.ok v0 hv0
    have hnn : ∀ s : ByteArray, ∀ v ∈ c.vs, 0 ≤ hasN v.e.deps s := fun s v hv2 => by
      rw [hc] at hv2
      have := h.okE (gatC_mem hv2).1
      exact hasN_nonneg (chk_asc this.1).2 s
    obtain ⟨fin, hfin⟩ : ∃ f, f = finalB c S := ⟨_, rfl⟩
    rw [← hfin]
    have hb : cutOf c sets fin = blk (fun s => uptoE c.vs sets s (sets.length - 1)) (fun s => sureN c.vs s) fin := rfl
    rw [hb]
    have hasc : AscS S := by have := hvok.asc; rw [he0] at this; exact this
    have hhalf : 2 * S.length < all.length := by have := hvok.half; rw [he0, List.length_map] at this; exact this
    have h2 := h.2.1
    obtain ⟨b1, b2, b3⟩ := blk_all (N := fun s => uptoE c.vs sets s (sets.length - 1)) (U := fun s => sureN c.vs s) (fin := fin) hasc (fun s hs => upto_sure (hnn s) (fun T hT => (hdc T hT).1) _ hn1 (by rw [← hS]; exact hs)) S.length (Nat.le_refl _)
    rw [List.take_length] at b1 b2 b3
    refine ⟨by have := blk_len (N := fun s => uptoE c.vs sets s (sets.length - 1)) (U := fun s => sureN c.vs s) (fin := fin) S; omega, b1, fun _ => by rw [b2]; exact hhalf, fun _ m hm => ?_⟩
    by_cases hin : m.name ∈ S
    · refine .inl (cutF_some ⟨⟨m.name, uptoE c.vs sets m.name (sets.length - 1), 22⟩, ?_, rfl, rfl⟩)
      exact List.mem_flatMap.2 ⟨m.name, hin, by unfold blk; exact List.mem_cons_self ..⟩
    · refine .inr ?_
      obtain ⟨v, hv2, _, ha⟩ := decB_iff.1 hd0 m.name (List.mem_map_of_mem hm) hin
      have hvk := hv.ok v hv2
      rw [hc] at hv2
      unfold votedB
      rw [List.any_eq_true]
      exact ⟨v.e, (gatC_mem hv2).1, by rw [hvk.kind, ha]; simp⟩
theorem minority_walk (m : Int) (l : List Edit) (all : List Member) (hz : Sz l all) :
    ACalls Tryz.prog (GM m) 4 [.c (.d (.sl (l.map Edit.row))), .c (.d (.sl (all.map Member.row)))] [] fun t H => t = .bool true ∧ H = [] := k504 m l all hz minority_ok
end Go.Aw.Try
