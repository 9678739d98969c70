/- An abstract machine over the model, and contracts of functions of this program on it (part 6): words and lemmas for the proof in the last text. -/
import Derived.Lib.SplitLaws
import Derived.Test.YthgnlejjbhijfaaGreatDoorKE
set_option linter.unusedSimpArgs false
set_option linter.unusedVariables false
set_option linter.unusedSectionVars false

namespace Go.Aw.Try
open Go Go.Proofs Go.Aw
set_option maxRecDepth 100000
set_option maxHeartbeats 4000000
/-! ### the reference's small functions -/
theorem hasS_no {l : List ByteArray} {x : ByteArray} (h : ∀ j, j < l.length → nth l j ≠ x) : hasS l x = false := by
  cases hq : hasS l x
  · rfl
  · obtain ⟨j, hj, e⟩ := List.mem_iff_getElem.1 ((hasS_iff l x).1 hq)
    exact absurd (by rw [nth_eq hj]; exact e) (h j hj)
theorem k581 (all : List Member) (nm : ByteArray) (h1 : all.length < 4611686018427387904) : ACalls Tryz.prog G0 81 [.c (.d (.sl (all.map Member.row))), Sx nm] [] fun t H => t = .bool (hasS (all.map Member.name) nm) ∧ H = [] := by
  refine acallsX (X := []) trivial tab hmix Tryz.func81 c581 (by rfl) fun hw => ?_
  obtain ⟨M, hM⟩ : ∃ M, M = all.map Member.name := ⟨_, rfl⟩
  have hMl : M.length = all.length := by rw [hM, List.length_map]
  rw [← hM]
  simp (implicitDefEqProofs := false) (disch := omega) [List.getElem?_cons_zero, ir581, b581, wrap64]
  refine loopE (fun k st => ∃ i, i ≤ all.length ∧ k = all.length - i ∧ (∀ j, j < i → nth M j ≠ nm) ∧
      st = ⟨ofL [(1, .v (.c (.d (.v (.string nm))))), (7, .v (.c (.d (.sl (all.map Member.row))))), (8, .int .i64 all.length), (9, .int .i64 i)], []⟩)
    (fun st => (∀ j, j < all.length → nth M j ≠ nm) ∧ AtS [] [] st) ?_ ?_ ?_
  · refine wk_nil [] [1, 7, 8, 9] rfl ⟨_, 0, by omega, rfl, fun j hj => by omega, ?_⟩
    simp [Sx]
  · rintro J L hJ hL k st ⟨i, hi, rfl, hb, rfl⟩
    by_cases hlt : i < all.length
    · obtain ⟨x, hx⟩ : ∃ x, nth all i = x := ⟨_, rfl⟩
      have hxr : x.row = [.v (.string x.name), .v (.string x.key)] := rfl
      have hMi : nth M i = x.name := by rw [hM, nth_map _ hlt, hx]
      by_cases c1 : x.name = nm
      · have : hasS M nm = true := (hasS_iff _ _).2 (by rw [← c1, ← hMi]; exact nth_mem (by omega))
        rw [this]
        simp (implicitDefEqProofs := false) (disch := omega) [List.getElem?_cons_zero, hlt, wrap64, nth_map, hx, hxr, splice, fillC, binSF, c1]
        exact fin_nil ⟨rfl, rfl⟩
      · simp (implicitDefEqProofs := false) (disch := omega) [List.getElem?_cons_zero, hlt, wrap64, nth_map, hx, hxr, splice, fillC, binSF, c1]
        subst hJ
        refine wk_nil [] [1, 7, 8, 9] rfl ⟨all.length - (i + 1), by omega, i + 1, by omega, rfl, fun j hj => ?_, ?_⟩
        · by_cases e1 : j = i
          · subst e1; rw [hMi]; exact c1
          · exact hb j (by omega)
        · simp
    · have : i = all.length := by omega
      subst this
      simp (implicitDefEqProofs := false) (disch := omega) [List.getElem?_cons_zero, hlt]
      subst hL
      exact ⟨hb, at_mk (by simp) rfl⟩
  · rintro _ ⟨hb, sl, rfl⟩
    rw [hasS_no (fun j hj => hb j (by omega))]
    simp (implicitDefEqProofs := false) (disch := omega) [List.getElem?_cons_zero, wrap64]
    exact fin_nil ⟨rfl, rfl⟩
noncomputable def x581 : XE := mkX true (fun (p : List Member × ByteArray) => [.c (.sl (p.1.map Member.row)), .c (.v (.string p.2))]) (fun p => p.1.length < 4611686018427387904) (fun p => .bool (hasS (p.1.map Member.name) p.2))
theorem kx581 : Contract Tryz.prog G0 81 x581 := mkX_scal (fun _ => rfl) fun p h => k581 p.1 p.2 h
theorem xg581 (all : List Member) (nm : ByteArray) (h : all.length < 4611686018427387904) : x581.g [.c (.sl (all.map Member.row)), .c (.v (.string nm))] = some (True, .bool (hasS (all.map Member.name) nm)) := mkX_g (fun a b h => by
  simp only [List.cons.injEq, PVo.c.injEq, D.sl.injEq, D.v.injEq, Value.string.injEq] at h
  exact Prod.ext (mrows_inj h.1) h.2.1) (all, nm) h
theorem k546 (l : List ByteArray) (nm : ByteArray) (h1 : l.length < 4611686018427387904) : ACalls Tryz.prog G0 46 [.c (.d (.sl (l.map srow))), Sx nm] [] fun t H => t = .bool (hasS l nm) ∧ H = [] := by
  refine acallsX (X := []) trivial tab hmix Tryz.func46 c546 (by rfl) fun hw => ?_
  simp (implicitDefEqProofs := false) (disch := omega) [List.getElem?_cons_zero, ir546, b546, wrap64]
  refine loopE (fun k st => ∃ i, i ≤ l.length ∧ k = l.length - i ∧ (∀ j, j < i → nth l j ≠ nm) ∧
      st = ⟨ofL [(1, .v (.c (.d (.v (.string nm))))), (7, .v (.c (.d (.sl (l.map srow))))), (8, .int .i64 l.length), (9, .int .i64 i)], []⟩)
    (fun st => (∀ j, j < l.length → nth l j ≠ nm) ∧ AtS [] [] st) ?_ ?_ ?_
  · refine wk_nil [] [1, 7, 8, 9] rfl ⟨_, 0, by omega, rfl, fun j hj => by omega, ?_⟩
    simp [Sx]
  · rintro J L hJ hL k st ⟨i, hi, rfl, hb, rfl⟩
    by_cases hlt : i < l.length
    · obtain ⟨x, hx⟩ : ∃ x, nth l i = x := ⟨_, rfl⟩
      by_cases c1 : x = nm
      · have : hasS l nm = true := (hasS_iff _ _).2 (by rw [← c1, ← hx]; exact nth_mem hlt)
        rw [this]
        simp (implicitDefEqProofs := false) (disch := omega) [List.getElem?_cons_zero, hlt, wrap64, nth_map, hx, srow, binSF, c1]
        exact fin_nil ⟨rfl, rfl⟩
      · simp (implicitDefEqProofs := false) (disch := omega) [List.getElem?_cons_zero, hlt, wrap64, nth_map, hx, srow, binSF, c1]
        subst hJ
        refine wk_nil [] [1, 7, 8, 9] rfl ⟨l.length - (i + 1), by omega, i + 1, by omega, rfl, fun j hj => ?_, ?_⟩
        · by_cases e1 : j = i
          · subst e1; rw [hx]; exact c1
          · exact hb j (by omega)
        · simp
    · have : i = l.length := by omega
      subst this
      simp (implicitDefEqProofs := false) (disch := omega) [List.getElem?_cons_zero, hlt]
      subst hL
      exact ⟨hb, at_mk (by simp) rfl⟩
  · rintro _ ⟨hb, sl, rfl⟩
    rw [hasS_no hb]
    simp (implicitDefEqProofs := false) (disch := omega) [List.getElem?_cons_zero, wrap64]
    exact fin_nil ⟨rfl, rfl⟩
noncomputable def x546 : XE := mkX true (fun (p : List ByteArray × ByteArray) => [.c (.sl (p.1.map srow)), .c (.v (.string p.2))]) (fun p => p.1.length < 4611686018427387904) (fun p => .bool (hasS p.1 p.2))
theorem kx546 : Contract Tryz.prog G0 46 x546 := mkX_scal (fun _ => rfl) fun p h => k546 p.1 p.2 h
theorem xg546 (l : List ByteArray) (x : ByteArray) (h : l.length < 4611686018427387904) : x546.g [.c (.sl (l.map srow)), .c (.v (.string x))] = some (True, .bool (hasS l x)) := mkX_g injSS (l, x) h
theorem k582 (a b : List ByteArray) (h1 : a.length < 4611686018427387904) (h2 : b.length < 4611686018427387904) : ACalls Tryz.prog G0 82 [.c (.d (.sl (a.map srow))), .c (.d (.sl (b.map srow)))] [] fun t H => t = .bool (partS a b) ∧ H = [] := by
  have s1 : x546.sc = true := rfl
  refine acallsX (X := [(46, x546)]) ⟨kx546, trivial⟩ tab hmix Tryz.func82 c582 (by rfl) fun hw => ?_
  simp (implicitDefEqProofs := false) (disch := omega) [List.getElem?_cons_zero, ir582, b582, wrap64]
  refine loopE (fun k st => ∃ i, i ≤ a.length ∧ k = a.length - i ∧ (∀ j, j < i → nth a j ∈ b) ∧
      st = ⟨ofL [(1, .v (.c (.d (.sl (b.map srow))))), (7, .v (.c (.d (.sl (a.map srow))))), (8, .int .i64 a.length), (9, .int .i64 i)], []⟩)
    (fun st => (∀ j, j < a.length → nth a j ∈ b) ∧ AtS [] [] st) ?_ ?_ ?_
  · refine wk_nil [] [1, 7, 8, 9] rfl ⟨_, 0, by omega, rfl, fun j hj => by omega, ?_⟩
    simp
  · rintro J L hJ hL k st ⟨i, hi, rfl, hb, rfl⟩
    by_cases hlt : i < a.length
    · obtain ⟨x, hx⟩ : ∃ x, nth a i = x := ⟨_, rfl⟩
      have hxa : x ∈ a := by rw [← hx]; exact nth_mem hlt
      have g1 := xg546 b x h2
      obtain ⟨q, hq⟩ : ∃ q, q = hasS b x := ⟨_, rfl⟩
      rw [← hq] at g1
      cases q
      · have : partS a b = false := by
          cases hp : partS a b
          · rfl
          · have := (hasS_iff b x).2 (partS_iff.1 hp x hxa); rw [← hq] at this; cases this
        rw [this]
        simp (implicitDefEqProofs := false) (disch := omega) [List.getElem?_cons_zero, hlt, wrap64, nth_map, hx, srow, s1, g1]
        exact fin_nil ⟨rfl, rfl⟩
      · simp (implicitDefEqProofs := false) (disch := omega) [List.getElem?_cons_zero, hlt, wrap64, nth_map, hx, srow, s1, g1]
        subst hJ
        refine wk_nil [] [1, 7, 8, 9] rfl ⟨a.length - (i + 1), by omega, i + 1, by omega, rfl, fun j hj => ?_, ?_⟩
        · by_cases e1 : j = i
          · subst e1; rw [hx]; exact (hasS_iff b x).1 hq.symm
          · exact hb j (by omega)
        · simp
    · have : i = a.length := by omega
      subst this
      simp (implicitDefEqProofs := false) (disch := omega) [List.getElem?_cons_zero, hlt]
      subst hL
      exact ⟨hb, at_mk (by simp) rfl⟩
  · rintro _ ⟨hb, sl, rfl⟩
    have : partS a b = true := partS_iff.2 fun s hs => by
      obtain ⟨j, hj, rfl⟩ := List.mem_iff_getElem.1 hs
      have := hb j hj; rw [nth_eq hj] at this; exact this
    rw [this]
    simp (implicitDefEqProofs := false) (disch := omega) [List.getElem?_cons_zero, wrap64]
    exact fin_nil ⟨rfl, rfl⟩
noncomputable def x582 : XE := mkX true (fun (p : List ByteArray × List ByteArray) => [.c (.sl (p.1.map srow)), .c (.sl (p.2.map srow))]) (fun p => p.1.length < 4611686018427387904 ∧ p.2.length < 4611686018427387904) (fun p => .bool (partS p.1 p.2))
theorem kx582 : Contract Tryz.prog G0 82 x582 := mkX_scal (fun _ => rfl) fun p h => k582 p.1 p.2 h.1 h.2
theorem xg582 (a b : List ByteArray) (ha : a.length < 4611686018427387904) (hb : b.length < 4611686018427387904) : x582.g [.c (.sl (a.map srow)), .c (.sl (b.map srow))] = some (True, .bool (partS a b)) := mkX_g injSL (a, b) ⟨ha, hb⟩
theorem hasN_step (x : Id) (r : List Id) (a : ByteArray) : hasN (x :: r) a = if x.a = a then x.n else hasN r a := by
  unfold hasN
  rw [List.find?_cons]
  by_cases h : x.a = a
  · have : prA a x = true := by simp [prA, h]
    rw [this, if_pos h]
  · have : prA a x = false := by simp [prA, h]
    rw [this, if_neg h]
theorem k545 (v : List Id) (nm : ByteArray) (h1 : v.length < 4611686018427387904) : ACalls Tryz.prog G0 45 [.c (.d (.sl (v.map Id.row))), Sx nm] [] fun t H => t = .int .i64 (hasN v nm) ∧ H = [] := by
  refine acallsX (X := []) trivial tab hmix Tryz.func45 c545 (by rfl) fun hw => ?_
  simp (implicitDefEqProofs := false) (disch := omega) [List.getElem?_cons_zero, ir545, b545, wrap64]
  refine loopE (fun k st => ∃ i, i ≤ v.length ∧ k = v.length - i ∧ hasN v nm = hasN (v.drop i) nm ∧
      st = ⟨ofL [(1, .v (.c (.d (.v (.string nm))))), (7, .v (.c (.d (.sl (v.map Id.row))))), (8, .int .i64 v.length), (9, .int .i64 i)], []⟩)
    (fun st => hasN v nm = 0 ∧ AtS [] [] st) ?_ ?_ ?_
  · refine wk_nil [] [1, 7, 8, 9] rfl ⟨_, 0, by omega, rfl, rfl, ?_⟩
    simp [Sx]
  · rintro J L hJ hL k st ⟨i, hi, rfl, hb, rfl⟩
    by_cases hlt : i < v.length
    · obtain ⟨x, hx⟩ : ∃ x, nth v i = x := ⟨_, rfl⟩
      have hxr : x.row = [.v (.string x.a), .v (.int .i64 x.n)] := rfl
      have hd : v.drop i = x :: v.drop (i + 1) := by rw [List.drop_eq_getElem_cons hlt, ← nth_eq hlt, hx]
      rw [hd, hasN_step] at hb
      by_cases c1 : x.a = nm
      · rw [hb, if_pos c1]
        simp (implicitDefEqProofs := false) (disch := omega) [List.getElem?_cons_zero, hlt, wrap64, nth_map, hx, hxr, splice, fillC, binSF, c1]
        exact fin_nil ⟨rfl, rfl⟩
      · rw [if_neg c1] at hb
        simp (implicitDefEqProofs := false) (disch := omega) [List.getElem?_cons_zero, hlt, wrap64, nth_map, hx, hxr, splice, fillC, binSF, c1]
        subst hJ
        refine wk_nil [] [1, 7, 8, 9] rfl ⟨v.length - (i + 1), by omega, i + 1, by omega, rfl, hb, ?_⟩
        simp
    · have : i = v.length := by omega
      subst this
      simp (implicitDefEqProofs := false) (disch := omega) [List.getElem?_cons_zero, hlt]
      subst hL
      exact ⟨by rw [hb, List.drop_length]; rfl, at_mk (by simp) rfl⟩
  · rintro _ ⟨hb, sl, rfl⟩
    rw [hb]
    simp (implicitDefEqProofs := false) (disch := omega) [List.getElem?_cons_zero, wrap64]
    exact fin_nil ⟨rfl, rfl⟩
noncomputable def x545 : XE := mkX true (fun (p : List Id × ByteArray) => [.c (.sl (p.1.map Id.row)), .c (.v (.string p.2))]) (fun p => p.1.length < 4611686018427387904) (fun p => .int .i64 (hasN p.1 p.2))
theorem kx545 : Contract Tryz.prog G0 45 x545 := mkX_scal (fun _ => rfl) fun p h => k545 p.1 p.2 h
theorem xg545 (v : List Id) (a : ByteArray) (h : v.length < 4611686018427387904) : x545.g [.c (.sl (v.map Id.row)), .c (.v (.string a))] = some (True, .int .i64 (hasN v a)) := mkX_g injVS (v, a) h
theorem k647 (v : List Id) (nm : ByteArray) (h1 : v.length < 4611686018427387904) : ACalls Tryz.prog G0 147 [.c (.d (.sl (v.map Id.row))), Sx nm] [] fun t H => t = .int .i64 (hasN v nm) ∧ H = [] := by
  refine acallsX (X := []) trivial tab hmix Tryz.func147 c647 (by rfl) fun hw => ?_
  simp (implicitDefEqProofs := false) (disch := omega) [List.getElem?_cons_zero, ir647, b647, wrap64]
  refine loopE (fun k st => ∃ i, i ≤ v.length ∧ k = v.length - i ∧ hasN v nm = hasN (v.drop i) nm ∧
      st = ⟨ofL [(0, .v (.c (.d (.sl (v.map Id.row))))), (1, .v (.c (.d (.v (.string nm))))), (5, .int .i64 i)], []⟩)
    (fun st => hasN v nm = 0 ∧ AtS [] [] st) ?_ ?_ ?_
  · refine wk_nil [] [0, 1, 5] rfl ⟨_, 0, by omega, rfl, rfl, ?_⟩
    simp [Sx]
  · rintro J L hJ hL k st ⟨i, hi, rfl, hb, rfl⟩
    by_cases hlt : i < v.length
    · obtain ⟨x, hx⟩ : ∃ x, nth v i = x := ⟨_, rfl⟩
      have hxr : x.row = [.v (.string x.a), .v (.int .i64 x.n)] := rfl
      have hd : v.drop i = x :: v.drop (i + 1) := by rw [List.drop_eq_getElem_cons hlt, ← nth_eq hlt, hx]
      rw [hd, hasN_step] at hb
      by_cases c1 : x.a = nm
      · rw [hb, if_pos c1]
        simp (implicitDefEqProofs := false) (disch := omega) [List.getElem?_cons_zero, hlt, wrap64, nth_map, hx, hxr, splice, fillC, binSF, c1]
        exact fin_nil ⟨rfl, rfl⟩
      · rw [if_neg c1] at hb
        simp (implicitDefEqProofs := false) (disch := omega) [List.getElem?_cons_zero, hlt, wrap64, nth_map, hx, hxr, splice, fillC, binSF, c1]
        subst hJ
        refine wk_nil [] [0, 1, 5] rfl ⟨v.length - (i + 1), by omega, i + 1, by omega, rfl, hb, ?_⟩
        simp
    · have : i = v.length := by omega
      subst this
      simp (implicitDefEqProofs := false) (disch := omega) [List.getElem?_cons_zero, hlt]
      subst hL
      exact ⟨by rw [hb, List.drop_length]; rfl, at_mk (by simp) rfl⟩
  · rintro _ ⟨hb, sl, rfl⟩
    rw [hb]
    simp (implicitDefEqProofs := false) (disch := omega) [List.getElem?_cons_zero, wrap64]
    exact fin_nil ⟨rfl, rfl⟩
noncomputable def x647 : XE := mkX true (fun (p : List Id × ByteArray) => [.c (.sl (p.1.map Id.row)), .c (.v (.string p.2))]) (fun p => p.1.length < 4611686018427387904) (fun p => .int .i64 (hasN p.1 p.2))
theorem kx647 : Contract Tryz.prog G0 147 x647 := mkX_scal (fun _ => rfl) fun p h => k647 p.1 p.2 h
theorem xg647 (v : List Id) (a : ByteArray) (h : v.length < 4611686018427387904) : x647.g [.c (.sl (v.map Id.row)), .c (.v (.string a))] = some (True, .int .i64 (hasN v a)) := mkX_g injVS (v, a) h
theorem k622 (v : List Id) (x : Id) (h1 : v.length < 4611686018427387904) : ACalls Tryz.prog G0 122 [.c (.d (.sl (v.map Id.row))), .agg (x.row.map .d)] [] fun t H => t = .bool (conI v x) ∧ H = [] := by
  have s1 : x647.sc = true := rfl
  have g1 := xg647 v x.a h1
  have hxr : x.row = [.v (.string x.a), .v (.int .i64 x.n)] := rfl
  refine acallsX (X := [(147, x647)]) ⟨kx647, trivial⟩ tab hmix Tryz.func122 c622 (by rfl) fun hw => ?_
  obtain ⟨n, hn⟩ : ∃ n, n = hasN v x.a := ⟨_, rfl⟩
  have hc : conI v x = (decide (1 ≤ x.n) && decide (x.n ≤ n)) := by rw [hn]; rfl
  rw [← hn] at g1
  rw [hc]
  by_cases c1 : 1 ≤ x.n
  · simp (implicitDefEqProofs := false) (disch := omega) [List.getElem?_cons_zero, ir622, b622, hxr, s1, g1, c1]
    repeat' (with_reducible apply And.intro)
    all_goals first | omega | kernel_rfl | exact fun _ _ => rfl | skip
    exact fin_nil ⟨rfl, rfl⟩
  · simp (implicitDefEqProofs := false) (disch := omega) [List.getElem?_cons_zero, ir622, b622, hxr, s1, g1, c1]
    repeat' (with_reducible apply And.intro)
    all_goals first | omega | kernel_rfl | exact fun _ _ => rfl | skip
    exact fin_nil ⟨rfl, rfl⟩
noncomputable def x622 : XE := mkX true (fun (p : List Id × Id) => [.c (.sl (p.1.map Id.row)), .agg p.2.row]) (fun p => p.1.length < 4611686018427387904) (fun p => .bool (conI p.1 p.2))
theorem kx622 : Contract Tryz.prog G0 122 x622 := mkX_scal (fun _ => rfl) fun p h => k622 p.1 p.2 h
theorem xg622 (v : List Id) (x : Id) (h : v.length < 4611686018427387904) : x622.g [.c (.sl (v.map Id.row)), .agg x.row] = some (True, .bool (conI v x)) := mkX_g injVI (v, x) h
def knowsE (v : List Id) (l : List Edit) : Bool := l.all fun e => conI v e.id
theorem k583 (v : List Id) (l : List Edit) (h1 : v.length < 4611686018427387904) (h2 : l.length < 4611686018427387904) : ACalls Tryz.prog G0 83 [.c (.d (.sl (v.map Id.row))), .c (.d (.sl (l.map Edit.row)))] [] fun t H => t = .bool (knowsE v l) ∧ H = [] := by
  have s1 : x622.sc = true := rfl
  refine acallsX (X := [(122, x622)]) ⟨kx622, trivial⟩ tab hmix Tryz.func83 c583 (by rfl) fun hw => ?_
  simp (implicitDefEqProofs := false) (disch := omega) [List.getElem?_cons_zero, ir583, b583, wrap64]
  refine loopE (fun k st => ∃ i, i ≤ l.length ∧ k = l.length - i ∧ knowsE v l = knowsE v (l.drop i) ∧
      st = ⟨ofL [(0, .v (.c (.d (.sl (v.map Id.row))))), (7, .v (.c (.d (.sl (l.map Edit.row))))), (8, .int .i64 l.length), (9, .int .i64 i)], []⟩)
    (fun st => knowsE v l = true ∧ AtS [] [] st) ?_ ?_ ?_
  · refine wk_nil [] [0, 7, 8, 9] rfl ⟨_, 0, by omega, rfl, rfl, ?_⟩
    simp
  · rintro J L hJ hL k st ⟨i, hi, rfl, hb, rfl⟩
    by_cases hlt : i < l.length
    · obtain ⟨e, he⟩ : ∃ x, nth l i = x := ⟨_, rfl⟩
      have hee : e.row = [.v (.string e.id.a), .v (.int .i64 e.id.n), .v (.int .i64 e.clock), .v (.int .i64 e.floor), .sl (e.deps.map Id.row), .v (.int .i64 e.kind), .v (.string e.node.a), .v (.int .i64 e.node.n), .v (.string e.parent.a), .v (.int .i64 e.parent.n), .v (.bool e.neg), .v (.string e.num), .v (.string e.den), .v (.string e.field), .v (.string e.value), .v (.string e.target.a), .v (.int .i64 e.target.n), .v (.string e.who)] := rfl
      have hd : l.drop i = e :: l.drop (i + 1) := by rw [List.drop_eq_getElem_cons hlt, ← nth_eq hlt, he]
      have g1 := xg622 v e.id h1
      have hir : e.id.row = [.v (.string e.id.a), .v (.int .i64 e.id.n)] := rfl
      rw [hir] at g1
      obtain ⟨q, hq⟩ : ∃ q, q = conI v e.id := ⟨_, rfl⟩
      rw [← hq] at g1
      have hb2 : knowsE v l = (q && knowsE v (l.drop (i + 1))) := by rw [hb, hd, hq]; rfl
      cases q
      · rw [hb2, Bool.false_and]
        simp (implicitDefEqProofs := false) (disch := omega) [List.getElem?_cons_zero, hlt, wrap64, nth_map, he, hee, splice, fillC, s1, g1]
        exact fin_nil ⟨rfl, rfl⟩
      · rw [Bool.true_and] at hb2
        simp (implicitDefEqProofs := false) (disch := omega) [List.getElem?_cons_zero, hlt, wrap64, nth_map, he, hee, splice, fillC, s1, g1]
        subst hJ
        refine wk_nil [] [0, 7, 8, 9] rfl ⟨l.length - (i + 1), by omega, i + 1, by omega, rfl, hb2, ?_⟩
        simp
    · have : i = l.length := by omega
      subst this
      simp (implicitDefEqProofs := false) (disch := omega) [List.getElem?_cons_zero, hlt]
      subst hL
      exact ⟨by rw [hb, List.drop_length]; rfl, at_mk (by simp) rfl⟩
  · rintro _ ⟨hb, sl, rfl⟩
    rw [hb]
    simp (implicitDefEqProofs := false) (disch := omega) [List.getElem?_cons_zero, wrap64]
    exact fin_nil ⟨rfl, rfl⟩
noncomputable def x583 : XE := mkX true (fun (p : List Id × List Edit) => [.c (.sl (p.1.map Id.row)), .c (.sl (p.2.map Edit.row))]) (fun p => p.1.length < 4611686018427387904 ∧ p.2.length < 4611686018427387904) (fun p => .bool (knowsE p.1 p.2))
theorem kx583 : Contract Tryz.prog G0 83 x583 := mkX_scal (fun _ => rfl) fun p h => k583 p.1 p.2 h.1 h.2
theorem xg583 (v : List Id) (l : List Edit) (h1 : v.length < 4611686018427387904) (h2 : l.length < 4611686018427387904) : x583.g [.c (.sl (v.map Id.row)), .c (.sl (l.map Edit.row))] = some (True, .bool (knowsE v l)) := mkX_g (fun a b h => by
  simp only [List.cons.injEq, PVo.c.injEq, D.sl.injEq] at h
  exact Prod.ext (ids_inj h.1) (rows_inj h.2.1)) (v, l) ⟨h1, h2⟩
end Go.Aw.Try

namespace Go.Aw.Try
open Go Go.Proofs Go.Aw
set_option maxRecDepth 100000
set_option maxHeartbeats 4000000
/-! ### parts, letter by letter -/
def tl (s : ByteArray) : List UInt8 := s.data.toList
theorem tl_inj {a b : ByteArray} (h : tl a = tl b) : a = b := by
  obtain ⟨⟨x⟩⟩ := a
  obtain ⟨⟨y⟩⟩ := b
  have h : x = y := h
  rw [h]
theorem tl_len (s : ByteArray) : (tl s).length = s.size := rfl
def splC : List UInt8 → List UInt8 → List (List UInt8)
  | cur, [] => [cur]
  | cur, c :: r => if c = 44 then cur :: splC [] r else splC (cur ++ [c]) r
def preL (a : List UInt8) : List (List UInt8) → List (List UInt8)
  | [] => []
  | h :: t => (a ++ h) :: t
theorem splC_pre (a : List UInt8) : ∀ (s cur : List UInt8), splC (a ++ cur) s = preL a (splC cur s)
  | [], cur => rfl
  | c :: r, cur => by
    unfold splC
    by_cases h : c = 44
    · rw [if_pos h, if_pos h]; rfl
    · rw [if_neg h, if_neg h, List.append_assoc]; exact splC_pre a r (cur ++ [c])
theorem ix_ne {b : UInt8} {l : List UInt8} (h : b ≠ 44) : Lib.index (b :: l) [44] = if Lib.index l [44] == -1 then -1 else Lib.index l [44] + 1 := by
  have hp : ([44] : List UInt8).isPrefixOf (b :: l) = false := by simp [List.isPrefixOf, Ne.symm h]
  rw [Lib.index, hp]; simp
theorem ix_eq (l : List UInt8) : Lib.index (44 :: l) [44] = 0 := by rw [Lib.index]; simp [List.isPrefixOf]
theorem splK_ne {c : UInt8} (h : c ≠ 44) (r : List UInt8) (k : Nat) : Lib.splitK [44] 0 k (c :: r) = preL [c] (Lib.splitK [44] 0 k r) := by
  cases k with
  | zero => rfl
  | succ k =>
    simp only [Lib.splitK, ix_ne h]
    by_cases hm : Lib.index r [44] = -1
    · rw [hm]; rfl
    · have hge := Lib.index_ge r [44]
      obtain ⟨j, hj⟩ : ∃ j : Nat, Lib.index r [44] = j := ⟨(Lib.index r [44]).toNat, by omega⟩
      rw [hj]
      have e1 : ((j : Int) == -1) = false := by
        cases q : ((j : Int) == -1)
        · rfl
        · have := beq_iff_eq.1 q; omega
      rw [e1]
      have e2 : ((j : Int) + 1 == -1) = false := by
        cases q : ((j : Int) + 1 == -1)
        · rfl
        · have := beq_iff_eq.1 q; omega
      simp only [Bool.false_eq_true, if_false, e2]
      have e3 : ((j : Int) + 1).toNat = j + 1 := by omega
      rw [e3]
      simp [preL]
theorem spl_eq : ∀ s : List UInt8, Lib.splitK [44] 0 (Lib.count s [44]) s = splC [] s
  | [] => by rw [Lib.count_one]; rfl
  | c :: r => by
    have ih := spl_eq r
    by_cases h : c = 44
    · subst h
      rw [Lib.count_cons_eq, Nat.add_comm]
      simp only [Lib.splitK, ix_eq]
      simp [splC, ih]
    · rw [Lib.count_cons_ne c 44 r h, splK_ne h, ih]
      have hs : splC [] (c :: r) = splC ([] ++ [c]) r := by rw [splC, if_neg h]
      rw [hs]
      exact (splC_pre [c] r []).symm
theorem parts_spl (s : ByteArray) : (parts s comma).map tl = splC [] (tl s) := by
  have h := Lib.splitB_data comma 0 (Lib.countB s comma) s
  have e : Lib.countB s comma = Lib.count s.data.toList [44] := rfl
  have e2 : comma.data.toList = [44] := rfl
  rw [e2] at h
  unfold parts
  rw [show tl = fun s => s.data.toList from rfl, h, e]
  exact spl_eq _
/-- What is known of the parts when the text up to i has been read. -/
def InvP (P : List ByteArray) (w : List UInt8) (i : Nat) (out : List ByteArray) (name : ByteArray) : Prop :=
  (i ≤ w.length ∧ P.map tl = out.map tl ++ splC (tl name) (w.drop i) ∧ name.size ≤ i) ∨ (i = w.length + 1 ∧ P = out ∧ name.size = 0)
theorem map_pre {P out : List ByteArray} {name : ByteArray} {X : List (List UInt8)} (h : P.map tl = out.map tl ++ (tl name :: X)) : ∃ Y, P = out ++ (name :: Y) ∧ Y.map tl = X := by
  obtain ⟨l1, l2, rfl, h1, h2⟩ := List.map_eq_append_iff.1 h
  obtain ⟨n, Y, rfl, h3, h4⟩ := List.map_eq_cons_iff.1 h2
  have e1 : l1 = out := map_inj (fun a b => tl_inj) h1
  exact ⟨Y, by rw [e1, tl_inj h3], h4⟩
/-! ### Names -/
noncomputable def refN (e : Edit) (M : List ByteArray) : Option (List ByteArray) := if ∀ j, j < (parts e.who comma).length → badN e.id.a M (parts e.who comma) j = false then some (parts e.who comma) else none
def refT (M : List ByteArray) : Option (List ByteArray) → T
  | none => .tup [.c (.d (.v (.slice none 0 0))), .c (.d (.v (.bool false)))]
  | some P => .tup [.c (.d (.sl (P.map srow))), .c (.d (.v (.bool (decide (2 * P.length < M.length)))))]
theorem tl_app (a b : ByteArray) : tl (a ++ b) = tl a ++ tl b := by simp [tl]
theorem tl_ext (s : ByteArray) {i : Nat} {b : UInt8} (h : (tl s)[i]? = some b) : tl (s.extract i (i + 1)) = [b] := by
  have hi : i < (tl s).length := (List.getElem?_eq_some_iff.1 h).1
  have e : (tl s)[i] = b := (List.getElem?_eq_some_iff.1 h).2
  have : tl (s.extract i (i + 1)) = ((tl s).take (i + 1)).drop i := by
    simp [tl, List.drop_take]
  rw [this, List.take_succ_eq_append_getElem hi, e]
  rw [List.drop_append_of_le_length (by simp; omega)]
  simp
theorem tl_empty : tl (⟨#[]⟩ : ByteArray) = [] := rfl
theorem k542 (e : Edit) (all : List Member) (h1 : e.who.size < 4294967281) (h2 : all.length < 34359738368) (H : List O) :
    ACalls Tryz.prog G0 42 [.agg (e.row.map .d), .c (.d (.sl (all.map Member.row)))] H fun t H' => t = refT (all.map Member.name) (refN e (all.map Member.name)) ∧ H' = H := by
  have s1 : x581.sc = true := rfl
  refine acallsX (X := [(81, x581)]) ⟨kx581, trivial⟩ tab hmix Tryz.func42 c542 (by rfl) fun hw => ?_
  have hee : e.row = [.v (.string e.id.a), .v (.int .i64 e.id.n), .v (.int .i64 e.clock), .v (.int .i64 e.floor), .sl (e.deps.map Id.row), .v (.int .i64 e.kind), .v (.string e.node.a), .v (.int .i64 e.node.n), .v (.string e.parent.a), .v (.int .i64 e.parent.n), .v (.bool e.neg), .v (.string e.num), .v (.string e.den), .v (.string e.field), .v (.string e.value), .v (.string e.target.a), .v (.int .i64 e.target.n), .v (.string e.who)] := rfl
  obtain ⟨M, hM⟩ : ∃ M, M = all.map Member.name := ⟨_, rfl⟩
  have hMl : M.length = all.length := by rw [hM, List.length_map]
  rw [← hM]
  obtain ⟨P, hP⟩ : ∃ P, P = parts e.who comma := ⟨_, rfl⟩
  have hsp : P.map tl = splC [] (tl e.who) := by rw [hP]; exact parts_spl _
  have hPl : P.length ≤ e.who.size + 1 := by rw [hP]; exact parts_le _
  have hno : ¬ (∀ j, j < P.length → badN e.id.a M P j = false) → refN e M = none := fun h => by unfold refN; rw [← hP, if_neg h]
  have hyes : (∀ j, j < P.length → badN e.id.a M P j = false) → refN e M = some P := fun h => by unfold refN; rw [← hP, if_pos h]
  obtain ⟨R0, hR0⟩ : ∃ R0, R0 = refN e M := ⟨_, rfl⟩
  rw [← hR0] at hno hyes ⊢
  obtain ⟨t, ht⟩ : ∃ t, t = e.who ++ (⟨#[44]⟩ : ByteArray) := ⟨_, rfl⟩
  have htl : tl t = tl e.who ++ [44] := by rw [ht]; show (e.who ++ (⟨#[44]⟩ : ByteArray)).data.toList = _; simp [tl]
  have hts : t.size = e.who.size + 1 := by rw [← tl_len, htl, List.length_append, tl_len]; rfl
  simp (implicitDefEqProofs := false) (disch := omega) [List.getElem?_cons_zero, ir542, b542, b542_0, b542_1, b542_2, b542_3, b542_4, hee, wrap64, binSF, ← ht]
  refine ⟨by show e.who.size + 1 ≤ _; omega, ?_⟩
  refine loopE (fun k st => ∃ (i : Nat) (out : List ByteArray) (name : ByteArray), i ≤ e.who.size + 1 ∧ k = e.who.size + 1 - i ∧ InvP P (tl e.who) i out name ∧ (∀ j, j < out.length → badN e.id.a M P j = false) ∧
      st = ⟨ofL [(1, .v (.c (.d (.sl (all.map Member.row))))), (2, .v (.c (.ptr H.length 0))), (6, .v (.c (.os (H.length + 1) 1 0 out.length))), (7, .v (.c (.d (.v (.string name))))), (8, .v (.c (.d (.v (.string t))))), (9, .int .i64 i)], H ++ [.cells ([.v (.string e.id.a), .v (.int .i64 e.id.n), .v (.int .i64 e.clock), .v (.int .i64 e.floor), .sl (e.deps.map Id.row), .v (.int .i64 e.kind), .v (.string e.node.a), .v (.int .i64 e.node.n), .v (.string e.parent.a), .v (.int .i64 e.parent.n), .v (.bool e.neg), .v (.string e.num), .v (.string e.den), .v (.string e.field), .v (.string e.value), .v (.string e.target.a), .v (.int .i64 e.target.n), .v (.string e.who)].map .d), .row 1 (out.map srow)]⟩)
    (fun st => (∀ j, j < P.length → badN e.id.a M P j = false) ∧ AtS [(1, .v (.c (.d (.sl (all.map Member.row))))), (6, .v (.c (.os (H.length + 1) 1 0 P.length)))] (H ++ [.cells ([.v (.string e.id.a), .v (.int .i64 e.id.n), .v (.int .i64 e.clock), .v (.int .i64 e.floor), .sl (e.deps.map Id.row), .v (.int .i64 e.kind), .v (.string e.node.a), .v (.int .i64 e.node.n), .v (.string e.parent.a), .v (.int .i64 e.parent.n), .v (.bool e.neg), .v (.string e.num), .v (.string e.den), .v (.string e.field), .v (.string e.value), .v (.string e.target.a), .v (.int .i64 e.target.n), .v (.string e.who)].map .d), .row 1 (P.map srow)]) st) ?_ ?_ ?_
  · refine wk_pre [0, 1] [1, 2, 6, 7, 8, 9] hw rfl ⟨_, 0, [], ⟨#[]⟩, by omega, rfl, .inl ⟨by omega, by rw [hsp]; rfl, Nat.le_refl _⟩, fun j hj => by simp at hj, ?_⟩
    simp [phiP, phi, O.ren, show ¬ (H.length + 1 < H.length) from by omega]
  · rintro J L hJ hL k st ⟨i, out, name, hi, rfl, hinv, hgood, rfl⟩
    have hkeep : ∀ (sl : Nat → T) (out' : List ByteArray) (name' : ByteArray) (ids : List Nat) (Z : List O), ids = [0, 1] ∧ Z = [O.cells ([.v (.string e.id.a), .v (.int .i64 e.id.n), .v (.int .i64 e.clock), .v (.int .i64 e.floor), .sl (e.deps.map Id.row), .v (.int .i64 e.kind), .v (.string e.node.a), .v (.int .i64 e.node.n), .v (.string e.parent.a), .v (.int .i64 e.parent.n), .v (.bool e.neg), .v (.string e.num), .v (.string e.den), .v (.string e.field), .v (.string e.value), .v (.string e.target.a), .v (.int .i64 e.target.n), .v (.string e.who)].map .d), .row 1 (out'.map srow)] → (∀ p ∈ [(1, T.v (.c (.d (.sl (all.map Member.row))))), (2, .v (.c (.ptr H.length 0))), (6, .v (.c (.os (H.length + 1) 1 0 out'.length))), (7, .v (.c (.d (.v (.string name'))))), (8, .v (.c (.d (.v (.string t))))), (9, .int .i64 (i + 1 : Nat))], sl p.1 = p.2) →
        i + 1 ≤ e.who.size + 1 → InvP P (tl e.who) (i + 1) out' name' → (∀ j, j < out'.length → badN e.id.a M P j = false) → wk Tryz.prog G0 H.length ⟨sl, H ++ Z⟩ (fun s'' => ∃ k', k' < e.who.size + 1 - i ∧ J k' s'') := by
      rintro sl out' name' ids Z ⟨rfl, rfl⟩ hsl q1 q2 q3
      subst hJ
      refine wk_pre [0, 1] [1, 2, 6, 7, 8, 9] hw rfl ⟨e.who.size + 1 - (i + 1), by omega, i + 1, out', name', q1, rfl, q2, q3, ?_⟩
      simp at hsl
      simp [hsl, phiP, phi, O.ren, show ¬ (H.length + 1 < H.length) from by omega]
    by_cases hlt : i < t.size
    · obtain ⟨b, hb⟩ : ∃ b, (tl t)[i]? = some b := ⟨_, List.getElem?_eq_getElem (by rw [tl_len]; exact hlt)⟩
      have hby : t.data[i]?.getD 0 = b := by
        have : t.data[i]? = some b := by rw [← hb]; simp [tl]
        rw [this]; rfl
      have hout : out.length ≤ P.length := by
        rcases hinv with ⟨_, q, _⟩ | ⟨_, q, _⟩
        · have := congrArg List.length q; rw [List.length_append, List.length_map, List.length_map] at this; omega
        · rw [q]; exact Nat.le_refl _
      have hnm : name.size ≤ i := by rcases hinv with ⟨_, _, q⟩ | ⟨_, _, q⟩ <;> omega
      have hl2 : out.length < 4294967290 := by omega
      by_cases cb : b = 44
      · subst cb
        have hbn : (((44 : UInt8).toNat : Nat) : Int) = 44 := rfl
        have hX : ∃ X, P.map tl = out.map tl ++ (tl name :: X) ∧ ((i < e.who.size ∧ X = splC [] ((tl e.who).drop (i + 1))) ∨ (i = e.who.size ∧ X = [])) := by
          rcases hinv with ⟨q1, q2, q3⟩ | ⟨q1, _, _⟩
          · by_cases q : i = e.who.size
            · refine ⟨[], ?_, .inr ⟨q, rfl⟩⟩
              rw [q2, List.drop_eq_nil_of_le (by rw [tl_len]; omega)]; rfl
            · have hin : i < (tl e.who).length := by rw [tl_len]; omega
              have hb2 : (tl e.who)[i]? = some 44 := by rw [htl, List.getElem?_append_left hin] at hb; exact hb
              have hd : (tl e.who).drop i = 44 :: (tl e.who).drop (i + 1) := by
                rw [List.drop_eq_getElem_cons hin, (List.getElem?_eq_some_iff.1 hb2).2]
              refine ⟨splC [] ((tl e.who).drop (i + 1)), ?_, .inl ⟨by omega, rfl⟩⟩
              rw [q2, hd, splC, if_pos rfl]
          · rw [tl_len] at q1; omega
        obtain ⟨X, hX1, hX2⟩ := hX
        obtain ⟨Y, hPY, hYX⟩ := map_pre hX1
        have hPn : nth P out.length = name := by rw [hPY, nth_app_r (Nat.le_refl _), Nat.sub_self]; rfl
        have hPlt : out.length < P.length := by rw [hPY]; simp
        obtain ⟨u, hu⟩ : ∃ u, u = hasS M name := ⟨_, rfl⟩
        have g1 := xg581 all name (by omega)
        rw [← hM, ← hu] at g1
        obtain ⟨pr, hpr⟩ : ∃ pr, nth out (out.length - 1) = pr := ⟨_, rfl⟩
        have hPp : 0 < out.length → nth P (out.length - 1) = pr := fun h0 => by rw [hPY, nth_app_l (by omega), hpr]
        obtain ⟨w, hw2⟩ : ∃ w, w = strLt pr name := ⟨_, rfl⟩
        have hbad : badN e.id.a M P out.length = (decide (name = e.id.a) || (!u || (decide (0 < out.length) && !w))) := by
          unfold badN
          rw [hPn, hu]
          by_cases h0 : 0 < out.length
          · rw [hPp h0, hw2]
          · rw [decide_eq_false h0, Bool.false_and, Bool.false_and]
        have tS : (out.map srow).take out.length = out.map srow := List.take_of_length_le (by simp)
        have hnone : badN e.id.a M P out.length = true → R0 = none := fun q => hno fun h => by rw [h _ hPlt] at q; cases q
        have hgo : badN e.id.a M P out.length = false → InvP P (tl e.who) (i + 1) (out ++ [name]) ⟨#[]⟩ ∧ ∀ j, j < (out ++ [name]).length → badN e.id.a M P j = false := fun q => by
          refine ⟨?_, fun j hj => ?_⟩
          · rcases hX2 with ⟨q1, q2⟩ | ⟨q1, q2⟩
            · refine .inl ⟨by rw [tl_len]; omega, ?_, Nat.zero_le _⟩
              rw [hPY, List.map_append, List.map_cons, hYX, q2, List.map_append, tl_empty]; simp
            · refine .inr ⟨by rw [tl_len]; omega, ?_, rfl⟩
              rw [q2] at hYX
              have : Y = [] := List.map_eq_nil_iff.1 hYX
              rw [hPY, this]
          · rw [List.length_append, List.length_singleton] at hj
            by_cases e1 : j = out.length
            · rw [e1]; exact q
            · exact hgood j (by omega)
        by_cases h0 : 0 < out.length
        · have hi1 : ((out.length : Int) - 1) = ((out.length - 1 : Nat) : Int) := by omega
          have hl1 : out.length - 1 < out.length := by omega
          cases w
          · rw [hnone (by rw [hbad]; simp [h0])]
            simp (implicitDefEqProofs := false) (disch := omega) [List.getElem?_cons_zero, hlt, wrap64, hby, hbn, binSF, nth_map, srow, s1, g1, hi1, hl1, hpr, h0, ← hw2]
            exact fin_drop hw ⟨rfl, rfl⟩
          · by_cases ce : name = e.id.a
            · rw [ce] at hw2 g1 ⊢
              rw [hnone (by rw [hbad]; simp [ce, h0])]
              simp (implicitDefEqProofs := false) (disch := omega) [List.getElem?_cons_zero, hlt, wrap64, hby, hbn, binSF, nth_map, srow, s1, g1, hi1, hl1, hpr, h0, ← hw2, ce]
              exact fin_drop hw ⟨rfl, rfl⟩
            · cases u
              · rw [hnone (by rw [hbad]; simp [h0])]
                simp (implicitDefEqProofs := false) (disch := omega) [List.getElem?_cons_zero, hlt, wrap64, hby, hbn, binSF, nth_map, srow, s1, g1, hi1, hl1, hpr, h0, ← hw2, ce]
                exact fin_drop hw ⟨rfl, rfl⟩
              · have hq : badN e.id.a M P out.length = false := by rw [hbad]; simp [h0, ce]
                simp (implicitDefEqProofs := false) (disch := omega) [List.getElem?_cons_zero, hlt, wrap64, hby, hbn, binSF, nth_map, srow, s1, g1, splice, fillC, toDs, toD, tS, Nat.add_assoc, hi1, hl1, hpr, h0, ← hw2, ce]
                repeat' (with_reducible apply And.intro)
                all_goals first | omega | kernel_rfl | exact fun _ _ => rfl | skip
                subst hJ
                refine wk_pre [0, 3] [1, 2, 6, 7, 8, 9] hw rfl ⟨e.who.size + 1 - (i + 1), by omega, i + 1, out ++ [name], ⟨#[]⟩, by omega, rfl, (hgo hq).1, (hgo hq).2, ?_⟩
                simp [phiP, phi, O.ren, srow, show ¬ (H.length + 3 < H.length) from by omega]
        · have h00 : out.length = 0 := by omega
          by_cases ce : name = e.id.a
          · rw [ce] at g1 ⊢
            rw [hnone (by rw [hbad]; simp [ce, h0])]
            simp (implicitDefEqProofs := false) (disch := omega) [List.getElem?_cons_zero, hlt, wrap64, hby, hbn, binSF, nth_map, srow, s1, g1, h00, ce]
            exact fin_drop hw ⟨rfl, rfl⟩
          · cases u
            · rw [hnone (by rw [hbad]; simp [h0])]
              simp (implicitDefEqProofs := false) (disch := omega) [List.getElem?_cons_zero, hlt, wrap64, hby, hbn, binSF, nth_map, srow, s1, g1, h00, ce]
              exact fin_drop hw ⟨rfl, rfl⟩
            · have hq : badN e.id.a M P out.length = false := by rw [hbad]; simp [h0, ce]
              simp (implicitDefEqProofs := false) (disch := omega) [List.getElem?_cons_zero, hlt, wrap64, hby, hbn, binSF, nth_map, srow, s1, g1, splice, fillC, toDs, toD, tS, Nat.add_assoc, h00, ce]
              repeat' (with_reducible apply And.intro)
              all_goals first | omega | kernel_rfl | exact fun _ _ => rfl | skip
              subst hJ
              refine wk_pre [0, 3] [1, 2, 6, 7, 8, 9] hw rfl ⟨e.who.size + 1 - (i + 1), by omega, i + 1, out ++ [name], ⟨#[]⟩, by omega, rfl, (hgo hq).1, (hgo hq).2, ?_⟩
              simp [phiP, phi, O.ren, srow, h00, show ¬ (H.length + 3 < H.length) from by omega]
      · have hbn : ¬ (b.toNat : Int) = 44 := fun h => by
          have h2 : b.toNat = (44 : UInt8).toNat := by show b.toNat = 44; omega
          exact cb (UInt8.toNat_inj.1 h2)
        simp (implicitDefEqProofs := false) (disch := omega) [List.getElem?_cons_zero, hlt, wrap64, hby, hbn, binSF]
        have hin : i < (tl e.who).length := by
          rw [tl_len]
          by_cases q : i = e.who.size
          · exfalso
            rw [htl, List.getElem?_append_right (by rw [tl_len]; omega), tl_len, q, Nat.sub_self] at hb
            injection hb with hb
            exact cb hb.symm
          · omega
        have hb2 : (tl e.who)[i]? = some b := by rw [htl, List.getElem?_append_left hin] at hb; exact hb
        have hd : (tl e.who).drop i = b :: (tl e.who).drop (i + 1) := by
          rw [List.drop_eq_getElem_cons hin, (List.getElem?_eq_some_iff.1 hb2).2]
        have hex := tl_ext t hb
        refine ⟨by omega, by omega, ?_⟩
        refine hkeep _ out (name ++ t.extract i (i + 1)) [0, 1] _ ⟨rfl, rfl⟩ (by simp) (by omega) ?_ hgood
        rcases hinv with ⟨q1, q2, q3⟩ | ⟨q1, _, _⟩
        · refine .inl ⟨by omega, ?_, ?_⟩
          · rw [q2, hd, splC, if_neg cb, tl_app, hex]
          · have : (name ++ t.extract i (i + 1)).size = name.size + 1 := by rw [← tl_len, tl_app, hex, List.length_append, tl_len]; rfl
            omega
        · rw [tl_len] at q1; omega
    · have hiN : i = e.who.size + 1 := by omega
      simp (implicitDefEqProofs := false) (disch := omega) [List.getElem?_cons_zero, hlt]
      subst hL
      have hPo : P = out := by
        rcases hinv with ⟨q, _, _⟩ | ⟨_, q, _⟩
        · rw [tl_len] at q; omega
        · exact q
      subst hPo
      exact ⟨hgood, at_mk (by simp) rfl⟩
  · rintro _ ⟨hg, sl, rfl⟩
    rw [hyes hg]
    simp (implicitDefEqProofs := false) (disch := omega) [List.getElem?_cons_zero, b542_5, b542_6, wrap64]
    have hdc : decide (2 * (P.length : Int) < (all.length : Int)) = decide (2 * P.length < M.length) := by
      rw [hMl]
      by_cases q : 2 * P.length < all.length
      · rw [decide_eq_true q, decide_eq_true (by omega)]
      · rw [decide_eq_false q, decide_eq_false (by omega)]
    rw [hdc]
    exact fin_pre_pvs (ps := [.c (.sl (P.map srow)), .c (.v (.bool (decide (2 * P.length < M.length))))]) (L' := [.cells ([.v (.string e.id.a), .v (.int .i64 e.id.n), .v (.int .i64 e.clock), .v (.int .i64 e.floor), .sl (e.deps.map Id.row), .v (.int .i64 e.kind), .v (.string e.node.a), .v (.int .i64 e.node.n), .v (.string e.parent.a), .v (.int .i64 e.parent.n), .v (.bool e.neg), .v (.string e.num), .v (.string e.den), .v (.string e.field), .v (.string e.value), .v (.string e.target.a), .v (.int .i64 e.target.n), .v (.string e.who)].map .d), .frow 1 (P.map srow)]) hw (by simp [toPVs, toPV, toD, take_of_len]) (by simp [frzVs, frz, frz1, V.cells]) ⟨rfl, rfl⟩
theorem edits_agg_inj {a b : Edit × List Member} (h : [PVo.agg a.1.row, PVo.c (D.sl (a.2.map Member.row))] = [PVo.agg b.1.row, PVo.c (D.sl (b.2.map Member.row))]) : a = b := by
  simp only [List.cons.injEq, PVo.c.injEq, PVo.agg.injEq, D.sl.injEq] at h
  exact Prod.ext (Edit.row_inj h.1) (mrows_inj h.2.1)
noncomputable def x542 : XE := mkX false (fun (p : Edit × List Member) => [.agg p.1.row, .c (.sl (p.2.map Member.row))]) (fun p => p.1.who.size < 4294967281 ∧ p.2.length < 34359738368) (fun p => refT (p.2.map Member.name) (refN p.1 (p.2.map Member.name)))
theorem kx542 : Contract Tryz.prog G0 42 x542 := mkX_data fun p h H => k542 p.1 p.2 h.1 h.2 H
theorem xg542 (e : Edit) (all : List Member) (h1 : e.who.size < 4294967281) (h2 : all.length < 34359738368) : x542.g [.agg e.row, .c (.sl (all.map Member.row))] = some (True, refT (all.map Member.name) (refN e (all.map Member.name))) := mkX_g (fun a b h => edits_agg_inj h) (e, all) ⟨h1, h2⟩
/-- A counted vote, as the reference names it. -/
theorem refN_of {M S : List ByteArray} {e : Edit} (h : namesO e M = some S) : refN e M = some S := by
  obtain ⟨h1, _, _, _, h5⟩ := namesO_some h
  unfold refN
  rw [← h1, if_pos h5]
theorem namesO_ref {M : List ByteArray} {e : Edit} : namesO e M = match refN e M with
    | none => none
    | some P => if e.kind = 5 ∧ hasS M e.id.a = true ∧ 2 * P.length < M.length then some P else none := by
  unfold refN namesO
  by_cases h : ∀ j, j < (parts e.who comma).length → badN e.id.a M (parts e.who comma) j = false
  · rw [if_pos h]
    by_cases q : e.kind = 5 ∧ hasS M e.id.a = true ∧ 2 * (parts e.who comma).length < M.length
    · simp only [if_pos q]; rw [if_pos ⟨q.1, q.2.1, q.2.2, h⟩]
    · simp only [if_neg q]; rw [if_neg (fun z => q ⟨z.1, z.2.1, z.2.2.1⟩)]
  · rw [if_neg h, if_neg (fun z => h z.2.2.2)]
end Go.Aw.Try

namespace Go.Aw.Try
open Go Go.Proofs Go.Aw
set_option maxRecDepth 100000
set_option maxHeartbeats 4000000
/-! ### Votes -/
def edV (vs : List Vote) : List Edit := vs.map Vote.e
def lastV (a : ByteArray) (vs : List Vote) : List ByteArray := vs.foldl (fun s v => if v.e.id.a = a then v.set else s) []
theorem gat_last (M : List ByteArray) (l : List Edit) (a : ByteArray) : lastV a (gatF M l).vs = (alook (gatF M l).m a).getD [] := by
  have key : ∀ (l : List Edit) (g : Gs), lastV a g.vs = (alook g.m a).getD [] → lastV a (l.foldl (gatS M) g).vs = (alook (l.foldl (gatS M) g).m a).getD [] := by
    intro l
    induction l with
    | nil => intro g h; exact h
    | cons e l ih =>
      intro g h
      rw [List.foldl_cons]
      refine ih _ ?_
      unfold gatS
      cases namesO e M with
      | none => exact h
      | some S =>
        by_cases q : blockB (alook g.m e.id.a) S = true
        · simp only [if_pos q]; exact h
        · simp only [if_neg q]
          rw [alook_aput]
          unfold lastV at h ⊢
          rw [List.foldl_append]
          by_cases c : e.id.a = a
          · rw [if_pos c]; simp [c]
          · rw [if_neg c]; simp [c]; exact h
  exact key l ⟨[], []⟩ rfl
theorem block_last {M : List ByteArray} {l : List Edit} {a : ByteArray} {S : List ByteArray} (hS : 1 ≤ S.length) :
    blockB (alook (gatF M l).m a) S = !(partS (lastV a (gatF M l).vs) S && decide ((lastV a (gatF M l).vs).length < S.length)) := by
  rw [gat_last]
  cases alook (gatF M l).m a with
  | none =>
    show false = !(partS [] S && decide (0 < S.length))
    rw [decide_eq_true (by omega)]; rfl
  | some A =>
    show (!partS A S || decide (S.length ≤ A.length)) = !(partS A S && decide (A.length < S.length))
    cases partS A S
    · rfl
    · by_cases q : A.length < S.length
      · rw [decide_eq_true q, decide_eq_false (by omega)]; rfl
      · rw [decide_eq_false q, decide_eq_true (by omega)]; rfl
theorem k539 (l : List Edit) (all : List Member) (h1 : l.length < 34359738368) (h2 : all.length < 34359738368) (h3 : ∀ e ∈ l, e.who.size < 4294967281) (H : List O) :
    ACalls Tryz.prog G0 39 [.c (.d (.sl (l.map Edit.row))), .c (.d (.sl (all.map Member.row)))] H (Own H 18 ((edV (gatF (all.map Member.name) (sortE l)).vs).map Edit.row)) := by
  have s1 : x38.sc = false := rfl
  have s2 : x542.sc = false := rfl
  have s3 : x581.sc = true := rfl
  have s4 : x582.sc = true := rfl
  have g1 := xg38 l (by omega)
  refine acallsX (X := [(80, x38), (42, x542), (81, x581), (82, x582)]) ⟨kx38, kx542, kx581, kx582, trivial⟩ tab hmix Tryz.func39 c539 (by rfl) fun hw => ?_
  obtain ⟨M, hM⟩ : ∃ M, M = all.map Member.name := ⟨_, rfl⟩
  have hMl : M.length = all.length := by rw [hM, List.length_map]
  obtain ⟨S, hS⟩ : ∃ S, S = sortE l := ⟨_, rfl⟩
  have hSl : S.length ≤ l.length := by rw [hS]; exact sortE_len l
  have hSm : ∀ e ∈ S, e.who.size < 4294967281 := fun e he => h3 e (by rw [hS] at he; exact sortE_mem he)
  rw [← hS] at g1
  rw [← hM, ← hS]
  simp (implicitDefEqProofs := false) (disch := omega) [List.getElem?_cons_zero, ir539, b539, b539_0, b539_1, b539_2, s1, g1, wrap64, toPVs, frzVs, osVs, toPV]
  refine loopE (fun k st => ∃ (i : Nat) (g : Gs), i ≤ S.length ∧ k = S.length - i ∧ g = gatF M (S.take i) ∧ st = ⟨ofL [(1, .v (.c (.d (.sl (all.map Member.row))))), (5, .v (.c (.os H.length 18 0 g.vs.length))), (15, .v (.c (.d (.sl (S.map Edit.row))))), (16, .int .i64 S.length), (17, .int .i64 i)], H ++ [.row 18 ((edV g.vs).map Edit.row)]⟩)
    (fun st => ∃ g, g = gatF M S ∧ AtS [(5, .v (.c (.os H.length 18 0 g.vs.length)))] (H ++ [.row 18 ((edV g.vs).map Edit.row)]) st) ?_ ?_ ?_
  · refine wk_pre [0] [1, 5, 15, 16, 17] hw rfl ⟨_, 0, ⟨[], []⟩, by omega, rfl, rfl, ?_⟩
    simp [phiP, phi, O.ren, edV]
  · rintro J L hJ hL k st ⟨i, g, hi, rfl, hg, rfl⟩
    by_cases hlt : i < S.length
    · obtain ⟨e, he⟩ : ∃ e, nth S i = e := ⟨_, rfl⟩
      have hem : e ∈ S := by rw [← he]; exact nth_mem hlt
      have hst : gatF M (S.take (i + 1)) = gatS M g e := by rw [gatF, take_foldl _ _ hlt, he, hg]; rfl
      have hgl : g.vs.length ≤ i := by rw [hg]; have := gatF_len M (S.take i); simp at this; omega
      have hgm : ∀ v ∈ g.vs, namesO v.e M = some v.set ∧ v.e.who.size < 4294967281 := fun v hv => by
        rw [hg] at hv
        obtain ⟨q1, q2⟩ := gatF_mem hv
        exact ⟨q2, hSm v.e (List.mem_of_mem_take q1)⟩
      have hee : e.row = [.v (.string e.id.a), .v (.int .i64 e.id.n), .v (.int .i64 e.clock), .v (.int .i64 e.floor), .sl (e.deps.map Id.row), .v (.int .i64 e.kind), .v (.string e.node.a), .v (.int .i64 e.node.n), .v (.string e.parent.a), .v (.int .i64 e.parent.n), .v (.bool e.neg), .v (.string e.num), .v (.string e.den), .v (.string e.field), .v (.string e.value), .v (.string e.target.a), .v (.int .i64 e.target.n), .v (.string e.who)] := rfl
      have g2 := xg542 e all (hSm e hem) h2
      have g3 := xg581 all e.id.a (by omega)
      rw [← hM] at g2 g3
      obtain ⟨u, hu⟩ : ∃ u, u = hasS M e.id.a := ⟨_, rfl⟩
      obtain ⟨N, hN⟩ : ∃ N, N = refN e M := ⟨_, rfl⟩
      have hno := namesO_ref (M := M) (e := e)
      rw [← hN, ← hu] at hno
      rw [← hu] at g3
      rw [← hN, hee] at g2
      unfold gatS at hst
      have hout : (edV g.vs).length = g.vs.length := by unfold edV; rw [List.length_map]
      obtain ⟨W, hW⟩ : ∃ W, W = edV g.vs := ⟨_, rfl⟩
      rw [← hW] at hout ⊢
      have tS : (W.map Edit.row).take g.vs.length = W.map Edit.row := List.take_of_length_le (by simp [hout])
      have keep : ∀ (sl : Nat → T) (o : O), namesO e M = none → (∀ p ∈ [(1, .v (.c (.d (.sl (all.map Member.row))))), (5, .v (.c (.os H.length 18 0 g.vs.length))), (15, .v (.c (.d (.sl (S.map Edit.row))))), (16, .int .i64 S.length), (17, .int .i64 (i + 1 : Nat))], sl p.1 = p.2) → wk Tryz.prog G0 H.length ⟨sl, H ++ [.row 18 (W.map Edit.row), o]⟩ (fun s'' => ∃ k', k' < S.length - i ∧ J k' s'') := fun sl o hnn hsl => by
        rw [hnn] at hst
        subst hJ
        refine wk_pre [0] [1, 5, 15, 16, 17] hw rfl ⟨S.length - (i + 1), by omega, i + 1, g, by omega, rfl, hst.symm, ?_⟩
        simp at hsl
        simp [hsl, phiP, phi, O.ren, ← hW]
      cases N with
      | none =>
        have hT : refT M none = .tup [.c (.d (.v (.slice none 0 0))), .c (.d (.v (.bool false)))] := rfl
        rw [hT] at g2
        simp (implicitDefEqProofs := false) (disch := omega) [List.getElem?_cons_zero, hlt, wrap64, nth_map, he, hee, splice, fillC, s2, g2, toPVs, frzVs, osVs, toPV, Nat.add_assoc]
        exact ⟨fun _ => keep _ _ hno (by simp), fun _ => keep _ _ hno (by simp)⟩
      | some P =>
        have hT : refT M (some P) = .tup [.c (.d (.sl (P.map srow))), .c (.d (.v (.bool (decide (2 * P.length < M.length)))))] := rfl
        rw [hT] at g2
        obtain ⟨b, hb⟩ : ∃ b, b = decide (2 * P.length < M.length) := ⟨_, rfl⟩
        rw [← hb] at g2
        by_cases q1 : e.kind = 5
        · rw [q1] at g2
          cases b
          · have hnn : namesO e M = none := by
              rw [hno]; simp only; rw [if_neg]
              rintro ⟨_, _, q⟩
              rw [decide_eq_true q] at hb; cases hb
            simp (implicitDefEqProofs := false) (disch := omega) [List.getElem?_cons_zero, hlt, wrap64, nth_map, he, hee, splice, fillC, s2, s3, g2, g3, toPVs, frzVs, osVs, toPV, Nat.add_assoc, q1]
            exact keep _ _ hnn (by simp)
          · cases u
            · have hnn : namesO e M = none := by
                rw [hno]; simp only; rw [if_neg]
                rintro ⟨_, q, _⟩
                cases q
              simp (implicitDefEqProofs := false) (disch := omega) [List.getElem?_cons_zero, hlt, wrap64, nth_map, he, hee, splice, fillC, s2, s3, g2, g3, toPVs, frzVs, osVs, toPV, Nat.add_assoc, q1]
              exact keep _ _ hnn (by simp)
            · have hnn : namesO e M = some P := by
                rw [hno]; simp only; rw [if_pos ⟨q1, trivial, of_decide_eq_true hb.symm⟩]
              rw [hnn] at hst
              replace hst : gatF M (S.take (i + 1)) = if blockB (alook g.m e.id.a) P = true then g else ⟨g.vs ++ [⟨e, P⟩], aput g.m e.id.a P⟩ := hst
              have hvk := vok_of hnn
              have hP1 : 1 ≤ P.length := hvk.pos
              have hPs : P.length < 4294967283 := by
                rw [(namesO_some hnn).1]; have := parts_le e.who; have := hSm e hem; omega
              have hbl := block_last (M := M) (l := S.take i) (a := e.id.a) hP1
              rw [← hg] at hbl
              simp (implicitDefEqProofs := false) (disch := omega) [List.getElem?_cons_zero, hlt, wrap64, nth_map, he, hee, splice, fillC, s2, s3, g2, g3, toPVs, frzVs, osVs, toPV, Nat.add_assoc, q1]
              refine loopE (fun k st => ∃ j, j ≤ g.vs.length ∧ k = g.vs.length - j ∧
                  st = ⟨ofL [(1, .v (.c (.d (.sl (all.map Member.row))))), (5, .v (.c (.os H.length 18 0 g.vs.length))), (15, .v (.c (.d (.sl (S.map Edit.row))))), (16, .int .i64 S.length), (17, .int .i64 i), (7, .v (.c (.ptr (H.length + 1) 0))), (8, .v (.c (.d (.sl (P.map srow))))), (10, .v (.c (.d (.sl ((lastV e.id.a (g.vs.take j)).map srow))))), (43, .v (.c (.os H.length 18 0 g.vs.length))), (44, .int .i64 g.vs.length), (45, .int .i64 j)], H ++ [.row 18 (W.map Edit.row), .cells ([.v (.string e.id.a), .v (.int .i64 e.id.n), .v (.int .i64 e.clock), .v (.int .i64 e.floor), .sl (e.deps.map Id.row), .v (.int .i64 e.kind), .v (.string e.node.a), .v (.int .i64 e.node.n), .v (.string e.parent.a), .v (.int .i64 e.parent.n), .v (.bool e.neg), .v (.string e.num), .v (.string e.den), .v (.string e.field), .v (.string e.value), .v (.string e.target.a), .v (.int .i64 e.target.n), .v (.string e.who)].map .d)]⟩)
                (fun st => AtS [(1, .v (.c (.d (.sl (all.map Member.row))))), (5, .v (.c (.os H.length 18 0 g.vs.length))), (15, .v (.c (.d (.sl (S.map Edit.row))))), (16, .int .i64 S.length), (17, .int .i64 i), (7, .v (.c (.ptr (H.length + 1) 0))), (8, .v (.c (.d (.sl (P.map srow))))), (10, .v (.c (.d (.sl ((lastV e.id.a g.vs).map srow)))))] (H ++ [.row 18 (W.map Edit.row), .cells ([.v (.string e.id.a), .v (.int .i64 e.id.n), .v (.int .i64 e.clock), .v (.int .i64 e.floor), .sl (e.deps.map Id.row), .v (.int .i64 e.kind), .v (.string e.node.a), .v (.int .i64 e.node.n), .v (.string e.parent.a), .v (.int .i64 e.parent.n), .v (.bool e.neg), .v (.string e.num), .v (.string e.den), .v (.string e.field), .v (.string e.value), .v (.string e.target.a), .v (.int .i64 e.target.n), .v (.string e.who)].map .d)]) st) ?_ ?_ ?_
              · refine wk_tell 10 (u := .c (.os (H.length + 2) 1 0 0)) (p := .c (.sl [])) (by simp) (by simp [toPV, toD]) ?_
                simp only [V.cells, frz, frz1, List.foldl_cons, List.foldl_nil]
                simp [PV.toV]
                refine wk_pre [0, 1] [1, 5, 15, 16, 17, 7, 8, 10, 43, 44, 45] hw rfl ⟨_, 0, by omega, rfl, ?_⟩
                simp [phiP, phi, O.ren, lastV, q1, PV.toV]
              · rintro J2 L2 hJ2 hL2 k2 st ⟨j, hj, rfl, rfl⟩
                by_cases hjl : j < g.vs.length
                · obtain ⟨v, hv⟩ : ∃ v, nth g.vs j = v := ⟨_, rfl⟩
                  have hvm : v ∈ g.vs := by rw [← hv]; exact nth_mem hjl
                  obtain ⟨f, hf⟩ : ∃ f, f = v.e := ⟨_, rfl⟩
                  have hWj : nth W j = f := by rw [hW, hf, ← hv]; unfold edV; rw [nth_map _ hjl]
                  have hjW : j < W.length := by omega
                  have hst2 : lastV e.id.a (g.vs.take (j + 1)) = if f.id.a = e.id.a then v.set else lastV e.id.a (g.vs.take j) := by
                    unfold lastV; rw [take_foldl _ _ hjl, hv, hf]
                  obtain ⟨n1, n2⟩ := hgm v hvm
                  have g5 := xg542 f all (by rw [hf]; exact n2) h2
                  rw [← hM, hf, refN_of n1] at g5
                  have hT2 : refT M (some v.set) = .tup [.c (.d (.sl (v.set.map srow))), .c (.d (.v (.bool (decide (2 * v.set.length < M.length)))))] := rfl
                  rw [hT2, ← hf] at g5
                  have hfe : f.row = [.v (.string f.id.a), .v (.int .i64 f.id.n), .v (.int .i64 f.clock), .v (.int .i64 f.floor), .sl (f.deps.map Id.row), .v (.int .i64 f.kind), .v (.string f.node.a), .v (.int .i64 f.node.n), .v (.string f.parent.a), .v (.int .i64 f.parent.n), .v (.bool f.neg), .v (.string f.num), .v (.string f.den), .v (.string f.field), .v (.string f.value), .v (.string f.target.a), .v (.int .i64 f.target.n), .v (.string f.who)] := rfl
                  rw [hfe] at g5
                  obtain ⟨z, hz⟩ : ∃ z, z = lastV e.id.a (g.vs.take j) := ⟨_, rfl⟩
                  rw [← hz] at hst2 ⊢
                  by_cases c1 : f.id.a = e.id.a
                  · rw [if_pos c1] at hst2
                    rw [c1] at g5
                    simp (implicitDefEqProofs := false) (disch := omega) [List.getElem?_cons_zero, hjl, hjW, wrap64, nth_map, hWj, hfe, splice, fillC, binSF, c1, s2, g5, toPVs, frzVs, osVs, toPV, Nat.add_assoc]
                    subst hJ2
                    refine wk_pre [0, 1] [1, 5, 15, 16, 17, 7, 8, 10, 43, 44, 45] hw rfl ⟨g.vs.length - (j + 1), by omega, j + 1, by omega, rfl, ?_⟩
                    rw [hst2]
                    simp [phiP, phi, O.ren]
                  · rw [if_neg c1] at hst2
                    simp (implicitDefEqProofs := false) (disch := omega) [List.getElem?_cons_zero, hjl, hjW, wrap64, nth_map, hWj, hfe, splice, fillC, binSF, c1, Nat.add_assoc]
                    subst hJ2
                    refine wk_pre [0, 1] [1, 5, 15, 16, 17, 7, 8, 10, 43, 44, 45] hw rfl ⟨g.vs.length - (j + 1), by omega, j + 1, by omega, rfl, ?_⟩
                    rw [hst2]
                    simp [phiP, phi, O.ren]
                · have : j = g.vs.length := by omega
                  subst this
                  rw [List.take_length]
                  simp (implicitDefEqProofs := false) (disch := omega) [List.getElem?_cons_zero, hjl]
                  subst hL2
                  exact at_mk (by simp) rfl
              · rintro _ ⟨sl, rfl⟩
                obtain ⟨z, hz⟩ : ∃ z, z = lastV e.id.a g.vs := ⟨_, rfl⟩
                rw [← hz] at hbl ⊢
                have hzs : z.length < 4294967283 := by
                  rw [hz, hg, gat_last]
                  cases hq : alook (gatF M (S.take i)).m e.id.a with
                  | none => simp
                  | some A => exact gat_small (fun e he => hSm e (List.mem_of_mem_take he)) _ _ hq
                have g6 := xg582 z P (by omega) (by omega)
                obtain ⟨pz, hpz⟩ : ∃ pz, pz = partS z P := ⟨_, rfl⟩
                rw [← hpz] at g6 hbl
                by_cases hc : z.length < P.length
                · rw [decide_eq_true hc] at hbl
                  cases pz
                  · simp at hbl
                    simp (implicitDefEqProofs := false) (disch := omega) [List.getElem?_cons_zero, s4, g6, wrap64, toPVs, frzVs, osVs, toPV, hc, splice, fillC, Nat.add_assoc]
                    rw [if_pos hbl] at hst
                    subst hJ
                    refine wk_pre [0] [1, 5, 15, 16, 17] hw rfl ⟨S.length - (i + 1), by omega, i + 1, g, by omega, rfl, hst.symm, ?_⟩
                    simp [phiP, phi, O.ren, ← hW]
                  · simp at hbl
                    simp (implicitDefEqProofs := false) (disch := omega) [List.getElem?_cons_zero, s4, g6, wrap64, toPVs, frzVs, osVs, toPV, hc, splice, fillC, Nat.add_assoc]
                    refine ⟨⟨hout.symm, by have := gatF_len M (S.take i); rw [← hg] at this; simp at this; omega⟩, ?_⟩
                    rw [if_neg (by simp [hbl])] at hst
                    subst hJ
                    refine wk_pre [3] [1, 5, 15, 16, 17] hw rfl ⟨S.length - (i + 1), by omega, i + 1, ⟨g.vs ++ [⟨e, P⟩], aput g.m e.id.a P⟩, by omega, rfl, hst.symm, ?_⟩
                    have hW2 : (edV (g.vs ++ [(⟨e, P⟩ : Vote)])) = W ++ [e] := by rw [hW]; simp [edV]
                    rw [hW2]
                    simp [phiP, phi, O.ren, hee, hout, show ¬ (H.length + 3 < H.length) from by omega]
                · rw [decide_eq_false hc] at hbl
                  cases pz
                  · simp at hbl
                    simp (implicitDefEqProofs := false) (disch := omega) [List.getElem?_cons_zero, s4, g6, wrap64, toPVs, frzVs, osVs, toPV, hc, splice, fillC, Nat.add_assoc]
                    rw [if_pos hbl] at hst
                    subst hJ
                    refine wk_pre [0] [1, 5, 15, 16, 17] hw rfl ⟨S.length - (i + 1), by omega, i + 1, g, by omega, rfl, hst.symm, ?_⟩
                    simp [phiP, phi, O.ren, ← hW]
                  · simp at hbl
                    simp (implicitDefEqProofs := false) (disch := omega) [List.getElem?_cons_zero, s4, g6, wrap64, toPVs, frzVs, osVs, toPV, hc, splice, fillC, Nat.add_assoc]
                    rw [if_pos hbl] at hst
                    subst hJ
                    refine wk_pre [0] [1, 5, 15, 16, 17] hw rfl ⟨S.length - (i + 1), by omega, i + 1, g, by omega, rfl, hst.symm, ?_⟩
                    simp [phiP, phi, O.ren, ← hW]
        · have hnn : namesO e M = none := by
            rw [hno]; simp only; rw [if_neg (fun q => q1 q.1)]
          simp (implicitDefEqProofs := false) (disch := omega) [List.getElem?_cons_zero, hlt, wrap64, nth_map, he, hee, splice, fillC, s2, s3, g2, g3, toPVs, frzVs, osVs, toPV, Nat.add_assoc, q1]
          exact keep _ _ hnn (by simp)
    · have : i = S.length := by omega
      subst this
      rw [List.take_length] at hg
      simp (implicitDefEqProofs := false) (disch := omega) [List.getElem?_cons_zero, hlt]
      subst hL
      exact ⟨g, hg, at_mk (by simp) rfl⟩
  · rintro _ ⟨g, rfl, sl, rfl⟩
    simp (implicitDefEqProofs := false) (disch := omega) [List.getElem?_cons_zero, b539_3, b539_4, wrap64]
    exact fin_own (k := 0) hw rfl (by simp [edV])
end Go.Aw.Try

namespace Go.Aw.Try
open Go Go.Proofs Go.Aw
set_option maxRecDepth 100000
set_option maxHeartbeats 4000000
/-! ### the reference's votes of a set, and its decided sets -/
def joinC : List (List UInt8) → List UInt8
  | [] => []
  | [x] => x
  | x :: y :: r => x ++ 44 :: joinC (y :: r)
theorem splC_cons : ∀ (s cur : List UInt8), ∃ h t, splC cur s = h :: t
  | [], cur => ⟨cur, [], rfl⟩
  | c :: r, cur => by
    unfold splC
    by_cases h : c = 44
    · rw [if_pos h]; exact ⟨_, _, rfl⟩
    · rw [if_neg h]; exact splC_cons r _
theorem joinC_spl : ∀ (s cur : List UInt8), joinC (splC cur s) = cur ++ s
  | [], cur => by simp [splC, joinC]
  | c :: r, cur => by
    unfold splC
    by_cases h : c = 44
    · rw [if_pos h]
      obtain ⟨a, t, e⟩ := splC_cons r []
      have := joinC_spl r []
      rw [e] at this ⊢
      show cur ++ 44 :: joinC (a :: t) = _
      rw [this, h]; rfl
    · rw [if_neg h, joinC_spl r (cur ++ [c])]; simp
theorem parts_inj {a b : ByteArray} (h : parts a comma = parts b comma) : a = b := by
  have h1 := congrArg (fun l => joinC (l.map tl)) h
  simp only [parts_spl, joinC_spl, List.nil_append] at h1
  exact tl_inj h1
noncomputable def vsOf (W : List Edit) : List Vote := W.map fun e => ⟨e, parts e.who comma⟩
theorem vsOf_ed {M : List ByteArray} {vs : List Vote} (h : ∀ v ∈ vs, VOk M v) : vsOf (edV vs) = vs := by
  unfold vsOf edV
  rw [List.map_map]
  refine (List.map_congr_left (g := id) fun v hv => ?_).trans (List.map_id vs)
  show (⟨v.e, parts v.e.who comma⟩ : Vote) = v
  rw [← (h v hv).who]
theorem mem_vsOf {W : List Edit} {v : Vote} : v ∈ vsOf W ↔ v.e ∈ W ∧ v.set = parts v.e.who comma := by
  unfold vsOf
  rw [List.mem_map]
  constructor
  · rintro ⟨e, he, rfl⟩; exact ⟨he, rfl⟩
  · rintro ⟨h1, h2⟩; exact ⟨v.e, h1, by rw [← h2]⟩
/-- The edit that stands for a set alone. -/
def wE (who : ByteArray) : Edit := ⟨⟨⟨#[]⟩, 0⟩, 0, 0, [], 0, ⟨⟨#[]⟩, 0⟩, ⟨⟨#[]⟩, 0⟩, false, ⟨#[]⟩, ⟨#[]⟩, ⟨#[]⟩, ⟨#[]⟩, ⟨⟨#[]⟩, 0⟩, who⟩
/-- The votes that count, as the reference has them. -/
structure OkW (all : List Member) (W : List Edit) : Prop where
  nod : (all.map Member.name).Nodup
  nm : ∀ e ∈ W, namesO e (all.map Member.name) = some (parts e.who comma)
  chain : ChainV (vsOf W)
  len : W.length ≤ 40
  mlen : all.length ≤ 8
  sm : ∀ e ∈ W, e.who.size ≤ 300 ∧ AscI e.deps ∧ e.deps.length ≤ 12 ∧ ∀ a, 0 ≤ hasN e.deps a
  ne : ∀ m ∈ all, m.name ≠ ⟨#[]⟩
theorem OkW.vs {all : List Member} {W : List Edit} (h : OkW all W) : VsOk (all.map Member.name) (vsOf W) :=
  ⟨h.nod, fun v hv => by
    obtain ⟨h1, h2⟩ := mem_vsOf.1 hv
    have := vok_of (h.nm v.e h1)
    rw [← h2] at this; exact this, h.chain⟩
theorem OkW.h8 {all : List Member} {W : List Edit} (h : OkW all W) : (all.map Member.name).length ≤ 8 := by rw [List.length_map]; exact h.mlen
theorem hasS_false {l : List ByteArray} {x : ByteArray} (h : x ∉ l) : hasS l x = false := by
  cases hq : hasS l x
  · rfl
  · exact absurd ((hasS_iff l x).1 hq) h
theorem ref_wE {M : List ByteArray} {e : Edit} (h : namesO e M = some (parts e.who comma)) (hn : ⟨#[]⟩ ∉ M) : refN (wE e.who) M = some (parts e.who comma) := by
  obtain ⟨_, _, _, _, h5⟩ := namesO_some h
  unfold refN
  show (if ∀ j, j < (parts e.who comma).length → badN ⟨#[]⟩ M (parts e.who comma) j = false then some (parts e.who comma) else none) = _
  rw [if_pos]
  intro j hj
  have := h5 j hj
  unfold badN at this ⊢
  simp only [Bool.or_eq_false_iff, decide_eq_false_iff_not] at this ⊢
  refine ⟨fun q => hn ?_, this.2⟩
  rw [← q]
  exact (hasS_iff _ _).1 (by simpa using this.2.1)
theorem OkW.wE {all : List Member} {W : List Edit} (h : OkW all W) {who : ByteArray} (hw : ∃ e ∈ W, e.who = who) : refN (wE who) (all.map Member.name) = some (parts who comma) := by
  obtain ⟨e, he, rfl⟩ := hw
  refine ref_wE (h.nm e he) fun q => ?_
  obtain ⟨m, hm, e1⟩ := List.mem_map.1 q
  exact h.ne m hm e1
def firstV (W : List Edit) (a who : ByteArray) : Option Edit := W.find? fun e => decide (e.id.a = a) && decide (e.who = who)
def ofStep (W : List Edit) (who : ByteArray) (S : List ByteArray) (acc : Option (List Edit)) (m : Member) : Option (List Edit) := match acc with
  | none => none
  | some out => if hasS S m.name = true then some out else match firstV W m.name who with
    | none => none
    | some e => some (out ++ [e])
noncomputable def ofR (all : List Member) (W : List Edit) (who : ByteArray) : Option (List Edit) := all.foldl (ofStep W who (parts who comma)) (some [])
theorem ofStep_none (W : List Edit) (who : ByteArray) (S : List ByteArray) : ∀ l : List Member, l.foldl (ofStep W who S) none = none
  | [] => rfl
  | m :: l => ofStep_none W who S l
theorem firstV_some {W : List Edit} {a who : ByteArray} {e : Edit} (h : firstV W a who = some e) : e ∈ W ∧ e.id.a = a ∧ e.who = who := by
  have h1 := List.find?_some h
  simp at h1
  exact ⟨List.mem_of_find?_eq_some h, h1⟩
theorem firstV_none {W : List Edit} {a who : ByteArray} (h : firstV W a who = none) : ∀ e ∈ W, ¬ (e.id.a = a ∧ e.who = who) := by
  intro e he
  have := List.find?_eq_none.1 h e he
  simpa using this
theorem ofR_key (W : List Edit) (who : ByteArray) (S : List ByteArray) : ∀ (l : List Member) (out : List Edit), match l.foldl (ofStep W who S) (some out) with
    | none => ∃ m ∈ l, m.name ∉ S ∧ firstV W m.name who = none
    | some r => (∀ e, e ∈ r ↔ e ∈ out ∨ ∃ m ∈ l, m.name ∉ S ∧ firstV W m.name who = some e) ∧ (∀ m ∈ l, m.name ∉ S → firstV W m.name who ≠ none) ∧ r.length ≤ out.length + l.length
  | [], out => by
    simp only [List.foldl_nil]
    exact ⟨fun e => by simp, (by simp), (by simp)⟩
  | m :: l, out => by
    rw [List.foldl_cons]
    by_cases hS : m.name ∈ S
    · have e1 : ofStep W who S (some out) m = some out := by unfold ofStep; simp only; rw [if_pos ((hasS_iff S _).2 hS)]
      rw [e1]
      have ih := ofR_key W who S l out
      cases hr : l.foldl (ofStep W who S) (some out) with
      | none => rw [hr] at ih; obtain ⟨m', h1, h2⟩ := ih; exact ⟨m', List.mem_cons_of_mem _ h1, h2⟩
      | some r =>
        rw [hr] at ih
        obtain ⟨h1, h2, h3⟩ := ih
        refine ⟨fun e => ?_, fun m' hm' hn => ?_, by simp only [List.length_cons]; omega⟩
        · rw [h1 e]
          constructor
          · rintro (q | ⟨m', q1, q2⟩)
            · exact .inl q
            · exact .inr ⟨m', List.mem_cons_of_mem _ q1, q2⟩
          · rintro (q | ⟨m', q1, q2⟩)
            · exact .inl q
            · rcases List.mem_cons.1 q1 with rfl | q1
              · exact absurd hS q2.1
              · exact .inr ⟨m', q1, q2⟩
        · rcases List.mem_cons.1 hm' with rfl | q1
          · exact absurd hS hn
          · exact h2 m' q1 hn
    · cases hf : firstV W m.name who with
      | none =>
        have e1 : ofStep W who S (some out) m = none := by unfold ofStep; simp only; rw [if_neg (by rw [hasS_false hS]; simp), hf]
        rw [e1, ofStep_none]
        exact ⟨m, List.mem_cons_self .., hS, hf⟩
      | some f =>
        have e1 : ofStep W who S (some out) m = some (out ++ [f]) := by unfold ofStep; simp only; rw [if_neg (by rw [hasS_false hS]; simp), hf]
        rw [e1]
        have ih := ofR_key W who S l (out ++ [f])
        cases hr : l.foldl (ofStep W who S) (some (out ++ [f])) with
        | none => rw [hr] at ih; obtain ⟨m', h1, h2⟩ := ih; exact ⟨m', List.mem_cons_of_mem _ h1, h2⟩
        | some r =>
          rw [hr] at ih
          obtain ⟨h1, h2, h3⟩ := ih
          refine ⟨fun e => ?_, fun m' hm' hn => ?_, by simp only [List.length_cons, List.length_append, List.length_nil] at h3 ⊢; omega⟩
          · rw [h1 e, List.mem_append, List.mem_singleton]
            constructor
            · rintro ((q | rfl) | ⟨m', q1, q2⟩)
              · exact .inl q
              · exact .inr ⟨m, List.mem_cons_self .., hS, hf⟩
              · exact .inr ⟨m', List.mem_cons_of_mem _ q1, q2⟩
            · rintro (q | ⟨m', q1, q2⟩)
              · exact .inl (.inl q)
              · rcases List.mem_cons.1 q1 with rfl | q1
                · rw [hf] at q2; exact .inl (.inr (Option.some.inj q2.2).symm)
                · exact .inr ⟨m', q1, q2⟩
          · rcases List.mem_cons.1 hm' with rfl | q1
            · rw [hf]; exact fun q => by cases q
            · exact h2 m' q1 hn
/-- One author votes once for a set. -/
theorem OkW.one {all : List Member} {W : List Edit} (h : OkW all W) {e f : Edit} (he : e ∈ W) (hf : f ∈ W) (ha : e.id.a = f.id.a) (hw : e.who = f.who) : e = f := by
  obtain ⟨i, hi, rfl⟩ := List.mem_iff_getElem.1 he
  obtain ⟨j, hj, rfl⟩ := List.mem_iff_getElem.1 hf
  have hc := List.pairwise_iff_getElem.1 h.chain
  have hl : (vsOf W).length = W.length := List.length_map ..
  have hg : ∀ k (hk : k < W.length), (vsOf W)[k]'(by rw [hl]; exact hk) = ⟨W[k], parts W[k].who comma⟩ := fun k hk => by simp [vsOf]
  rcases Nat.lt_trichotomy i j with q | q | q
  · have := (hc i j (by omega) (by omega) q (by rw [hg i hi, hg j hj]; exact ha)).2
    rw [hg i hi, hg j hj] at this
    simp only [hw] at this; omega
  · subst q; rfl
  · have := (hc j i (by omega) (by omega) q (by rw [hg i hi, hg j hj]; exact ha.symm)).2
    rw [hg i hi, hg j hj] at this
    simp only [hw] at this; omega
theorem OkW.of_some {all : List Member} {W : List Edit} (h : OkW all W) {who : ByteArray} {own : List Edit} (ho : ofR all W who = some own) :
    (∀ e, e ∈ own ↔ e ∈ W ∧ e.who = who) ∧ decB (all.map Member.name) (vsOf W) (parts who comma) = true ∧ own.length ≤ 8 := by
  have key := ofR_key W who (parts who comma) all []
  unfold ofR at ho
  rw [ho] at key
  obtain ⟨h1, h2, h3⟩ := key
  refine ⟨fun e => ?_, decB_iff.2 fun s hs hn => ?_, by have := h.mlen; simp at h3; omega⟩
  · rw [h1 e]
    constructor
    · rintro (q | ⟨m, _, _, q⟩)
      · cases q
      · obtain ⟨q1, _, q3⟩ := firstV_some q; exact ⟨q1, q3⟩
    · rintro ⟨q1, q2⟩
      have hv := vok_of (h.nm e q1)
      obtain ⟨m, hm, e1⟩ := List.mem_map.1 hv.mem
      have hns : m.name ∉ parts who comma := by rw [e1, ← q2]; exact hv.self
      refine .inr ⟨m, hm, hns, ?_⟩
      cases hf : firstV W m.name who with
      | none => exact absurd hf (h2 m hm hns)
      | some f =>
        obtain ⟨r1, r2, r3⟩ := firstV_some hf
        rw [h.one r1 q1 (by rw [r2, e1]) (by rw [r3, q2])]
  · obtain ⟨m, hm, rfl⟩ := List.mem_map.1 hs
    cases hf : firstV W m.name who with
    | none => exact absurd hf (h2 m hm hn)
    | some f =>
      obtain ⟨r1, r2, r3⟩ := firstV_some hf
      exact ⟨⟨f, parts f.who comma⟩, mem_vsOf.2 ⟨r1, rfl⟩, by rw [r3], r2⟩
theorem OkW.of_none {all : List Member} {W : List Edit} (h : OkW all W) {who : ByteArray} (ho : ofR all W who = none) :
    decB (all.map Member.name) (vsOf W) (parts who comma) = false := by
  have key := ofR_key W who (parts who comma) all []
  unfold ofR at ho
  rw [ho] at key
  obtain ⟨m, hm, hn, hf⟩ := key
  cases hd : decB (all.map Member.name) (vsOf W) (parts who comma)
  · rfl
  · obtain ⟨v, hv, h1, h2⟩ := decB_iff.1 hd m.name (List.mem_map.2 ⟨m, hm, rfl⟩) hn
    obtain ⟨h3, h4⟩ := mem_vsOf.1 hv
    exact absurd ⟨h2, parts_inj (h4.symm.trans h1)⟩ (firstV_none hf v.e h3)
theorem OkW.of_mem {all : List Member} {W : List Edit} (h : OkW all W) {who : ByteArray} {own : List Edit} (ho : ofR all W who = some own) (v : Vote) :
    v ∈ vsOf own ↔ v ∈ ofV (vsOf W) (parts who comma) := by
  rw [mem_vsOf]
  unfold ofV
  rw [List.mem_filter, mem_vsOf, decide_eq_true_eq, (h.of_some ho).1]
  constructor
  · rintro ⟨⟨h1, h2⟩, h3⟩; exact ⟨⟨h1, h3⟩, by rw [h3, h2]⟩
  · rintro ⟨⟨h1, h2⟩, h3⟩; exact ⟨⟨h1, parts_inj (h2.symm.trans h3)⟩, h2⟩
/-- The decided sets, as the reference lists them. -/
noncomputable def outsStep (all : List Member) (W : List Edit) (size : Nat) (out : List ByteArray) (v : Edit) : List ByteArray :=
  if ((ofR all W v.who).isSome && (decide ((parts v.who comma).length = size) && !hasS out v.who)) = true then out ++ [v.who] else out
noncomputable def outsR (all : List Member) (W : List Edit) (n : Nat) : List ByteArray := (List.range n).foldl (fun out k => W.foldl (outsStep all W (k + 1)) out) []
noncomputable def plen (w : ByteArray) : Nat := (parts w comma).length
structure OutI (all : List Member) (W : List Edit) (size : Nat) (out : List ByteArray) : Prop where
  pw : out.Pairwise fun a b => plen a < plen b
  mem : ∀ w ∈ out, (∃ e ∈ W, e.who = w) ∧ ofR all W w ≠ none ∧ plen w ≤ size
  has : ∀ e ∈ W, ofR all W e.who ≠ none → plen e.who < size → e.who ∈ out
theorem OkW.len_one {all : List Member} {W : List Edit} (h : OkW all W) {e f : Edit} (he : e ∈ W) (hf : f ∈ W) (h1 : ofR all W e.who ≠ none) (h2 : ofR all W f.who ≠ none) (hl : plen e.who = plen f.who) : e.who = f.who := by
  have dc : ∀ {e : Edit}, e ∈ W → ofR all W e.who ≠ none → Dcd (all.map Member.name) (vsOf W) (parts e.who comma) := fun {e} he hn => by
    cases ho : ofR all W e.who with
    | none => exact absurd ho hn
    | some own => exact ⟨⟨⟨e, parts e.who comma⟩, mem_vsOf.2 ⟨he, rfl⟩, rfl⟩, (h.of_some ho).2.1⟩
  exact parts_inj (dcd_len h.vs (dc he h1) (dc hf h2) hl)
theorem OkW.outs_in {all : List Member} {W : List Edit} (h : OkW all W) (size : Nat) : ∀ (l : List Edit) (out : List ByteArray), (∀ e ∈ l, e ∈ W) → OutI all W size out →
    OutI all W size (l.foldl (outsStep all W size) out) ∧ (∀ w ∈ out, w ∈ l.foldl (outsStep all W size) out) ∧ ∀ e ∈ l, ofR all W e.who ≠ none → plen e.who = size → e.who ∈ l.foldl (outsStep all W size) out
  | [], out, _, hi => ⟨hi, fun w hw => hw, fun e he => by cases he⟩
  | v :: l, out, hs, hi => by
    rw [List.foldl_cons]
    have hv := hs v (List.mem_cons_self ..)
    have step : OutI all W size (outsStep all W size out v) ∧ (∀ w ∈ out, w ∈ outsStep all W size out v) ∧ (ofR all W v.who ≠ none → plen v.who = size → v.who ∈ outsStep all W size out v) := by
      unfold outsStep
      split
      · rename_i hc
        simp only [Bool.and_eq_true, decide_eq_true_eq, Bool.not_eq_true'] at hc
        obtain ⟨c1, c2, c3⟩ := hc
        have hn : ofR all W v.who ≠ none := fun q => by rw [q] at c1; cases c1
        have hni : v.who ∉ out := fun q => by rw [(hasS_iff _ _).2 q] at c3; cases c3
        refine ⟨⟨?_, fun w hw => ?_, fun e he q1 q2 => List.mem_append_left _ (hi.has e he q1 q2)⟩, fun w hw => List.mem_append_left _ hw, fun _ _ => by simp⟩
        · rw [List.pairwise_append]
          refine ⟨hi.pw, List.pairwise_singleton _ _, fun a ha b hb => ?_⟩
          rw [List.mem_singleton] at hb; subst hb
          obtain ⟨⟨f, hf, rfl⟩, q2, q3⟩ := hi.mem a ha
          have : plen f.who ≠ plen v.who := fun q => hni (by rw [← h.len_one hf hv q2 hn q]; exact ha)
          have e2 : plen v.who = size := c2
          omega
        · rcases List.mem_append.1 hw with hw | hw
          · exact hi.mem w hw
          · rw [List.mem_singleton] at hw; subst hw
            exact ⟨⟨v, hv, rfl⟩, hn, Nat.le_of_eq c2⟩
      · rename_i hc
        refine ⟨hi, fun w hw => hw, fun q1 q2 => ?_⟩
        cases ho : ofR all W v.who with
        | none => exact absurd ho q1
        | some own =>
          have e2 : (parts v.who comma).length = size := q2
          rw [ho, e2] at hc
          simp at hc
          exact (hasS_iff _ _).1 hc
    obtain ⟨s1, s2, s3⟩ := step
    obtain ⟨r1, r2, r3⟩ := OkW.outs_in h size l _ (fun e he => hs e (List.mem_cons_of_mem _ he)) s1
    refine ⟨r1, fun w hw => r2 w (s2 w hw), fun e he q1 q2 => ?_⟩
    rcases List.mem_cons.1 he with rfl | he
    · exact r2 _ (s3 q1 q2)
    · exact r3 e he q1 q2
theorem OkW.outs_all {all : List Member} {W : List Edit} (h : OkW all W) : ∀ n, OutI all W (n + 1) (outsR all W n)
  | 0 => ⟨List.Pairwise.nil, fun w hw => (by cases hw), fun e he _ q => by
      have : 1 ≤ (parts e.who comma).length := (vok_of (h.nm e he)).pos
      unfold plen at q; omega⟩
  | n + 1 => by
    have ih := OkW.outs_all h n
    obtain ⟨r1, r2, r3⟩ := h.outs_in (n + 1) W _ (fun e he => he) ih
    have e : outsR all W (n + 1) = W.foldl (outsStep all W (n + 1)) (outsR all W n) := by
      unfold outsR; rw [List.range_succ, List.foldl_append]; rfl
    rw [e]
    refine ⟨r1.pw, fun w hw => ?_, fun e he q1 q2 => ?_⟩
    · obtain ⟨a, b, c⟩ := r1.mem w hw; exact ⟨a, b, by omega⟩
    · by_cases q : plen e.who = n + 1
      · exact r3 e he q1 q
      · exact r1.has e he q1 (by omega)
theorem OkW.outs_eq {all : List Member} {W : List Edit} (h : OkW all W) : (outsR all W all.length).map (fun w => parts w comma) = outL (all.map Member.name) (vsOf W) := by
  have hI := h.outs_all all.length
  refine pw_ext (R := fun a b : List ByteArray => a.length < b.length) (fun a b q => by omega) (fun a => by omega) ?_ (out_sorted h.vs h.h8) fun S => ?_
  · rw [List.pairwise_map]; exact hI.pw
  · rw [mem_out h.vs h.h8, List.mem_map]
    constructor
    · rintro ⟨w, hw, rfl⟩
      obtain ⟨⟨e, he, rfl⟩, hn, _⟩ := hI.mem w hw
      cases ho : ofR all W e.who with
      | none => exact absurd ho hn
      | some own => exact ⟨⟨⟨e, parts e.who comma⟩, mem_vsOf.2 ⟨he, rfl⟩, rfl⟩, (h.of_some ho).2.1⟩
    · rintro ⟨⟨v, hv, rfl⟩, hd⟩
      obtain ⟨h1, h2⟩ := mem_vsOf.1 hv
      refine ⟨v.e.who, hI.has v.e h1 (fun q => ?_) ?_, h2.symm⟩
      · rw [h2, h.of_none q] at hd; cases hd
      · have := (h.vs.ok v hv).half
        rw [h2, List.length_map] at this
        unfold plen; omega
end Go.Aw.Try

namespace Go.Aw.Try
open Go Go.Proofs Go.Aw
set_option maxRecDepth 100000
set_option maxHeartbeats 4000000
/-! ### Of -/
def ofT : Option (List Edit) → T
  | none => .tup [.c (.d (.v (.slice none 0 0))), .c (.d (.v (.bool false)))]
  | some own => .tup [.c (.d (.sl (own.map Edit.row))), .c (.d (.v (.bool true)))]
theorem firstV_take {W : List Edit} {a who : ByteArray} {j : Nat} (h : j < W.length) : firstV (W.take (j + 1)) a who = match firstV (W.take j) a who with
    | some f => some f
    | none => if (nth W j).id.a = a ∧ (nth W j).who = who then some (nth W j) else none := by
  unfold firstV
  rw [take_nth h, List.find?_append]
  cases (W.take j).find? fun e => decide (e.id.a = a) && decide (e.who = who) with
  | some f => rfl
  | none =>
    by_cases q : (nth W j).id.a = a ∧ (nth W j).who = who
    · rw [if_pos q]; simp [q.1, q.2]
    · rw [if_neg q]; simp; simpa using q
theorem wE_row (who : ByteArray) : (wE who).row = [.v (.string ⟨#[]⟩), .v (.int .i64 0), .v (.int .i64 0), .v (.int .i64 0), .sl [], .v (.int .i64 0), .v (.string ⟨#[]⟩), .v (.int .i64 0), .v (.string ⟨#[]⟩), .v (.int .i64 0), .v (.bool false), .v (.string ⟨#[]⟩), .v (.string ⟨#[]⟩), .v (.string ⟨#[]⟩), .v (.string ⟨#[]⟩), .v (.string ⟨#[]⟩), .v (.int .i64 0), .v (.string who)] := rfl
theorem ref_T {all : List Member} {W : List Edit} (h : OkW all W) {who : ByteArray} (hw : ∃ e ∈ W, e.who = who) : x542.g [.agg (wE who).row, .c (.sl (all.map Member.row))] = some (True, .tup [.c (.d (.sl ((parts who comma).map srow))), .c (.d (.v (.bool (decide (2 * (parts who comma).length < (all.map Member.name).length)))))]) := by
  obtain ⟨e, he, rfl⟩ := hw
  have := xg542 (wE e.who) all (by have := (h.sm e he).1; show e.who.size < _; omega) (by have := h.mlen; omega)
  rw [this, h.wE ⟨e, he, rfl⟩]; rfl
theorem ref_Te {all : List Member} {W : List Edit} (h : OkW all W) {e : Edit} (he : e ∈ W) : x542.g [.agg e.row, .c (.sl (all.map Member.row))] = some (True, .tup [.c (.d (.sl ((parts e.who comma).map srow))), .c (.d (.v (.bool (decide (2 * (parts e.who comma).length < (all.map Member.name).length)))))]) := by
  have := xg542 e all (by have := (h.sm e he).1; omega) (by have := h.mlen; omega)
  rw [this, refN_of (h.nm e he)]; rfl
theorem OkW.pln {all : List Member} {W : List Edit} (h : OkW all W) {who : ByteArray} (hw : ∃ e ∈ W, e.who = who) : (parts who comma).length ≤ 8 ∧ 1 ≤ (parts who comma).length := by
  obtain ⟨e, he, rfl⟩ := hw
  have hv := vok_of (h.nm e he)
  have h1 := hv.half
  have h2 := hv.pos
  have h3 := h.h8
  simp only at h1 h2
  omega
theorem k541 (who : ByteArray) (W : List Edit) (all : List Member) (h : OkW all W) (hwho : ∃ e ∈ W, e.who = who) (H : List O) :
    ACalls Tryz.prog G0 41 [Sx who, .c (.d (.sl (W.map Edit.row))), .c (.d (.sl (all.map Member.row)))] H fun t H' => t = ofT (ofR all W who) ∧ H' = H := by
  have s1 : x542.sc = false := rfl
  have s2 : x546.sc = true := rfl
  have g1 := ref_T h hwho
  rw [wE_row] at g1
  have hal := h.mlen
  have hWl := h.len
  obtain ⟨pl, _⟩ := h.pln hwho
  refine acallsX (X := [(42, x542), (46, x546)]) ⟨kx542, kx546, trivial⟩ tab hmix Tryz.func41 c541 (by rfl) fun hw => ?_
  unfold ofR
  obtain ⟨S, hS⟩ : ∃ S, S = parts who comma := ⟨_, rfl⟩
  rw [← hS] at g1 pl ⊢
  simp (implicitDefEqProofs := false) (disch := omega) [List.getElem?_cons_zero, ir541, b541, b541_0, b541_1, b541_2, b541_3, Sx, splice, fillC, s1, g1, wrap64, toPVs, frzVs, osVs, toPV]
  refine loopE (fun k st => ∃ (i : Nat) (out : List Edit), i ≤ all.length ∧ k = all.length - i ∧ all.foldl (ofStep W who S) (some []) = (all.drop i).foldl (ofStep W who S) (some out) ∧ out.length ≤ i ∧
      st = ⟨ofL [(0, .v (.c (.d (.v (.string who))))), (1, .v (.c (.d (.sl (W.map Edit.row))))), (8, .v (.c (.d (.sl (S.map srow))))), (24, .v (.c (.d (.sl (all.map Member.row))))), (25, .int .i64 all.length), (26, .int .i64 i), (10, .v (.c (.os H.length 18 0 out.length)))], H ++ [.row 18 (out.map Edit.row)]⟩)
    (fun st => ∃ out, all.foldl (ofStep W who S) (some []) = some out ∧ AtS [(10, .v (.c (.os H.length 18 0 out.length)))] (H ++ [.row 18 (out.map Edit.row)]) st) ?_ ?_ ?_
  · refine wk_pre [0] [0, 1, 8, 24, 25, 26, 10] hw rfl ⟨_, 0, [], by omega, rfl, rfl, Nat.le_refl _, ?_⟩
    simp [phiP, phi, O.ren, Sx]
  · rintro J L hJ hL k st ⟨i, out, hi, rfl, hfo, hol, rfl⟩
    by_cases hlt : i < all.length
    · obtain ⟨m, hm⟩ : ∃ m, nth all i = m := ⟨_, rfl⟩
      have hmr : m.row = [.v (.string m.name), .v (.string m.key)] := rfl
      have hd : all.drop i = m :: all.drop (i + 1) := by rw [List.drop_eq_getElem_cons hlt, ← nth_eq hlt, hm]
      rw [hd, List.foldl_cons] at hfo
      have g2 := xg546 S m.name (by omega)
      obtain ⟨u, hu⟩ : ∃ u, u = hasS S m.name := ⟨_, rfl⟩
      have hstep : ofStep W who S (some out) m = if u = true then some out else match firstV W m.name who with
          | none => none
          | some e => some (out ++ [e]) := by rw [hu]; rfl
      rw [← hu] at g2
      cases u
      · rw [if_neg (by simp)] at hstep
        simp (implicitDefEqProofs := false) (disch := omega) [List.getElem?_cons_zero, hlt, wrap64, nth_map, hm, hmr, splice, fillC, s2, g2, Nat.add_assoc]
        refine loopE (fun k st => ∃ (j : Nat) (r : Option Edit), j ≤ W.length ∧ k = W.length - j ∧ r = firstV (W.take j) m.name who ∧
            st = ⟨ofL [(0, .v (.c (.d (.v (.string who))))), (1, .v (.c (.d (.sl (W.map Edit.row))))), (8, .v (.c (.d (.sl (S.map srow))))), (24, .v (.c (.d (.sl (all.map Member.row))))), (25, .int .i64 all.length), (26, .int .i64 i), (12, .v (.c (.ptr (H.length + 1) 0))), (34, .v (.c (.d (.sl (W.map Edit.row))))), (35, .int .i64 W.length), (36, .int .i64 j), (13, .bool r.isSome), (10, .v (.c (.os H.length 18 0 (out ++ r.toList).length)))], H ++ [.row 18 ((out ++ r.toList).map Edit.row), .cells ([.v (.string m.name), .v (.string m.key)].map .d)]⟩)
          (fun st => ∃ r, r = firstV W m.name who ∧ AtS [(0, .v (.c (.d (.v (.string who))))), (1, .v (.c (.d (.sl (W.map Edit.row))))), (8, .v (.c (.d (.sl (S.map srow))))), (24, .v (.c (.d (.sl (all.map Member.row))))), (25, .int .i64 all.length), (26, .int .i64 i), (13, .bool r.isSome), (10, .v (.c (.os H.length 18 0 (out ++ r.toList).length)))] (H ++ [.row 18 ((out ++ r.toList).map Edit.row), .cells ([.v (.string m.name), .v (.string m.key)].map .d)]) st) ?_ ?_ ?_
        · refine wk_pre [0, 1] [0, 1, 8, 24, 25, 26, 12, 34, 35, 36, 13, 10] hw rfl ⟨_, 0, none, by omega, rfl, rfl, ?_⟩
          simp [phiP, phi, O.ren]
        · rintro J2 L2 hJ2 hL2 k2 st ⟨j, r, hj, rfl, hr, rfl⟩
          by_cases hjl : j < W.length
          · obtain ⟨e, he⟩ : ∃ e, nth W j = e := ⟨_, rfl⟩
            have hee : e.row = [.v (.string e.id.a), .v (.int .i64 e.id.n), .v (.int .i64 e.clock), .v (.int .i64 e.floor), .sl (e.deps.map Id.row), .v (.int .i64 e.kind), .v (.string e.node.a), .v (.int .i64 e.node.n), .v (.string e.parent.a), .v (.int .i64 e.parent.n), .v (.bool e.neg), .v (.string e.num), .v (.string e.den), .v (.string e.field), .v (.string e.value), .v (.string e.target.a), .v (.int .i64 e.target.n), .v (.string e.who)] := rfl
            have hft := firstV_take (a := m.name) (who := who) hjl
            rw [← hr, he] at hft
            have keep : ∀ (sl : Nat → T) (o : O), firstV (W.take (j + 1)) m.name who = r → (∀ p ∈ [(0, .v (.c (.d (.v (.string who))))), (1, .v (.c (.d (.sl (W.map Edit.row))))), (8, .v (.c (.d (.sl (S.map srow))))), (24, .v (.c (.d (.sl (all.map Member.row))))), (25, .int .i64 all.length), (26, .int .i64 i), (12, T.v (.c (.ptr (H.length + 1) 0))), (34, .v (.c (.d (.sl (W.map Edit.row))))), (35, .int .i64 W.length), (36, .int .i64 (j + 1 : Nat)), (13, .bool r.isSome), (10, .v (.c (.os H.length 18 0 (out ++ r.toList).length)))], sl p.1 = p.2) → wk Tryz.prog G0 H.length ⟨sl, H ++ [.row 18 ((out ++ r.toList).map Edit.row), .cells ([.v (.string m.name), .v (.string m.key)].map .d), o]⟩ (fun s'' => ∃ k', k' < W.length - j ∧ J2 k' s'') := fun sl o hnn hsl => by
              subst hJ2
              refine wk_pre [0, 1] [0, 1, 8, 24, 25, 26, 12, 34, 35, 36, 13, 10] hw rfl ⟨W.length - (j + 1), by omega, j + 1, r, by omega, rfl, hnn.symm, ?_⟩
              simp at hsl
              simp [hsl, phiP, phi, O.ren]
            obtain ⟨Z, hZ⟩ : ∃ Z, Z = out ++ r.toList := ⟨_, rfl⟩
            have hZl : Z.length ≤ i + 1 := by rw [hZ]; cases r <;> simp <;> omega
            have tS : (Z.map Edit.row).take Z.length = Z.map Edit.row := List.take_of_length_le (by simp)
            by_cases c1 : e.id.a = m.name
            · by_cases c2 : e.who = who
              · cases r with
                | some f =>
                  simp only at hft
                  rw [← hZ] at keep ⊢
                  simp (implicitDefEqProofs := false) (disch := omega) [List.getElem?_cons_zero, hjl, wrap64, nth_map, he, hee, splice, fillC, binSF, c1, c2, Nat.add_assoc]
                  exact keep _ _ hft (by simp)
                | none =>
                  simp only at hft
                  rw [if_pos ⟨c1, c2⟩] at hft
                  have hZo : Z = out := by rw [hZ]; simp
                  rw [← hZ]
                  simp (implicitDefEqProofs := false) (disch := omega) [List.getElem?_cons_zero, hjl, wrap64, nth_map, he, hee, splice, fillC, binSF, c1, c2, toDs, toD, tS, Nat.add_assoc]
                  repeat' (with_reducible apply And.intro)
                  all_goals first | omega | kernel_rfl | exact fun _ _ => rfl | skip
                  subst hJ2
                  refine wk_pre [4, 1] [0, 1, 8, 24, 25, 26, 12, 34, 35, 36, 13, 10] hw rfl ⟨W.length - (j + 1), by omega, j + 1, some e, by omega, rfl, hft.symm, ?_⟩
                  rw [hZo]
                  simp [phiP, phi, O.ren, hee, c1, c2, show ¬ (H.length + 4 < H.length) from by omega]
              · have hkk : firstV (W.take (j + 1)) m.name who = r := by
                  rw [hft]; cases r
                  · simp only; rw [if_neg (fun q => c2 q.2)]
                  · rfl
                rw [← hZ] at keep ⊢
                simp (implicitDefEqProofs := false) (disch := omega) [List.getElem?_cons_zero, hjl, wrap64, nth_map, he, hee, splice, fillC, binSF, c1, c2, Nat.add_assoc]
                exact keep _ _ hkk (by simp)
            · have hkk : firstV (W.take (j + 1)) m.name who = r := by
                rw [hft]; cases r
                · simp only; rw [if_neg (fun q => c1 q.1)]
                · rfl
              rw [← hZ] at keep ⊢
              simp (implicitDefEqProofs := false) (disch := omega) [List.getElem?_cons_zero, hjl, wrap64, nth_map, he, hee, splice, fillC, binSF, c1, Nat.add_assoc]
              exact keep _ _ hkk (by simp)
          · have : j = W.length := by omega
            subst this
            rw [List.take_length] at hr
            simp (implicitDefEqProofs := false) (disch := omega) [List.getElem?_cons_zero, hjl]
            subst hL2
            exact ⟨r, hr, at_mk (by simp) (by simp)⟩
        · rintro _ ⟨r, hr, sl, rfl⟩
          rw [← hr] at hstep
          cases r with
          | none =>
            simp only at hstep
            rw [hstep, ofStep_none] at hfo
            rw [hfo]
            simp (implicitDefEqProofs := false) (disch := omega) [List.getElem?_cons_zero, wrap64]
            exact fin_drop hw ⟨rfl, rfl⟩
          | some f =>
            simp only at hstep
            rw [hstep] at hfo
            simp (implicitDefEqProofs := false) (disch := omega) [List.getElem?_cons_zero, wrap64]
            subst hJ
            refine wk_pre [0] [0, 1, 8, 24, 25, 26, 10] hw rfl ⟨all.length - (i + 1), by omega, i + 1, out ++ [f], by omega, rfl, hfo, by simp; omega, ?_⟩
            simp [phiP, phi, O.ren]
      · rw [if_pos rfl] at hstep
        rw [hstep] at hfo
        simp (implicitDefEqProofs := false) (disch := omega) [List.getElem?_cons_zero, hlt, wrap64, nth_map, hm, hmr, splice, fillC, s2, g2, Nat.add_assoc]
        subst hJ
        refine wk_pre [0] [0, 1, 8, 24, 25, 26, 10] hw rfl ⟨all.length - (i + 1), by omega, i + 1, out, by omega, rfl, hfo, by omega, ?_⟩
        simp [phiP, phi, O.ren]
    · have : i = all.length := by omega
      subst this
      rw [List.drop_length] at hfo
      simp (implicitDefEqProofs := false) (disch := omega) [List.getElem?_cons_zero, hlt]
      subst hL
      exact ⟨out, hfo, at_mk (by simp) rfl⟩
  · rintro _ ⟨out, hout, sl, rfl⟩
    rw [hout]
    simp (implicitDefEqProofs := false) (disch := omega) [List.getElem?_cons_zero, b541_4, b541_5, wrap64]
    exact fin_pre_pvs (ps := [.c (.sl (out.map Edit.row)), .c (.v (.bool true))]) (L' := [.frow 18 (out.map Edit.row)]) hw (by simp [toPVs, toPV, toD, take_of_len]) (by simp [frzVs, frz, frz1, V.cells]) ⟨rfl, rfl⟩
noncomputable def x541 : XE := mkX false (fun (p : ByteArray × List Edit × List Member) => [.c (.v (.string p.1)), .c (.sl (p.2.1.map Edit.row)), .c (.sl (p.2.2.map Member.row))]) (fun p => OkW p.2.2 p.2.1 ∧ ∃ e ∈ p.2.1, e.who = p.1) (fun p => ofT (ofR p.2.2 p.2.1 p.1))
theorem kx541 : Contract Tryz.prog G0 41 x541 := mkX_data fun p h H => k541 p.1 p.2.1 p.2.2 h.1 h.2 H
theorem xg541 (who : ByteArray) (W : List Edit) (all : List Member) (h : OkW all W) (hw : ∃ e ∈ W, e.who = who) : x541.g [.c (.v (.string who)), .c (.sl (W.map Edit.row)), .c (.sl (all.map Member.row))] = some (True, ofT (ofR all W who)) := mkX_g (fun a b h => by
  simp only [List.cons.injEq, PVo.c.injEq, D.sl.injEq, D.v.injEq, Value.string.injEq] at h
  exact Prod.ext h.1 (Prod.ext (rows_inj h.2.1) (mrows_inj h.2.2.1))) (who, W, all) ⟨h, hw⟩
end Go.Aw.Try

namespace Go.Aw.Try
open Go Go.Proofs Go.Aw
set_option maxRecDepth 100000
set_option maxHeartbeats 4000000
/-! ### Outs -/
theorem outs_len (all : List Member) (W : List Edit) (size : Nat) : ∀ (l : List Edit) (out : List ByteArray), (l.foldl (outsStep all W size) out).length ≤ out.length + l.length
  | [], out => Nat.le_refl _
  | v :: l, out => by
    rw [List.foldl_cons]
    have := outs_len all W size l (outsStep all W size out v)
    have h2 : (outsStep all W size out v).length ≤ out.length + 1 := by unfold outsStep; split <;> simp
    rw [List.length_cons]; omega
theorem outsR_succ (all : List Member) (W : List Edit) (n : Nat) : outsR all W (n + 1) = W.foldl (outsStep all W (n + 1)) (outsR all W n) := by
  unfold outsR; rw [List.range_succ, List.foldl_append]; rfl
theorem outsR_len (all : List Member) (W : List Edit) : ∀ n, (outsR all W n).length ≤ n * W.length
  | 0 => Nat.zero_le _
  | n + 1 => by
    rw [outsR_succ]
    have := outs_len all W (n + 1) W (outsR all W n)
    have := outsR_len all W n
    rw [Nat.succ_mul]; omega
theorem k540 (W : List Edit) (all : List Member) (h : OkW all W) (H : List O) :
    ACalls Tryz.prog G0 40 [.c (.d (.sl (W.map Edit.row))), .c (.d (.sl (all.map Member.row)))] H (Own H 1 ((outsR all W all.length).map srow)) := by
  have s1 : x542.sc = false := rfl
  have s2 : x546.sc = true := rfl
  have s3 : x541.sc = false := rfl
  have hal := h.mlen
  have hWl := h.len
  have hol : ∀ n, n ≤ 8 → (outsR all W n).length ≤ 320 := fun n hn => by
    have h1 := outsR_len all W n
    have h2 : n * W.length ≤ 8 * 40 := Nat.mul_le_mul hn hWl
    omega
  refine acallsX (X := [(42, x542), (46, x546), (41, x541)]) ⟨kx542, kx546, kx541, trivial⟩ tab hmix Tryz.func40 c540 (by rfl) fun hw => ?_
  simp (implicitDefEqProofs := false) (disch := omega) [List.getElem?_cons_zero, ir540, b540, b540_0, b540_1, b540_2, wrap64]
  refine loopE (fun k st => ∃ n, n ≤ all.length ∧ k = all.length - n ∧
      st = ⟨ofL [(0, .v (.c (.d (.sl (W.map Edit.row))))), (1, .v (.c (.d (.sl (all.map Member.row))))), (6, .int .i64 (n + 1 : Nat)), (5, .v (.c (.os H.length 1 0 (outsR all W n).length)))], H ++ [.row 1 ((outsR all W n).map srow)]⟩)
    (fun st => AtS [(5, .v (.c (.os H.length 1 0 (outsR all W all.length).length)))] (H ++ [.row 1 ((outsR all W all.length).map srow)]) st) ?_ ?_ ?_
  · refine wk_pre [0] [0, 1, 6, 5] hw rfl ⟨_, 0, by omega, rfl, ?_⟩
    simp [phiP, phi, O.ren, outsR]
  · rintro J L hJ hL k st ⟨n, hn, rfl, rfl⟩
    by_cases hlt : n < all.length
    · have hle : ((n + 1 : Nat) : Int) ≤ (all.length : Int) := by omega
      have hsz : ((n + 1 : Nat) : Int) = (n : Int) + 1 := by omega
      have hsucc := outsR_succ all W n
      obtain ⟨O0, hO0⟩ : ∃ O0, O0 = outsR all W n := ⟨_, rfl⟩
      have hO0l := hol n (by omega)
      rw [← hO0] at hsucc hO0l ⊢
      simp (implicitDefEqProofs := false) (disch := omega) [List.getElem?_cons_zero, hlt, hle, wrap64]
      refine ⟨fun hq => ?_, fun hq => absurd hq (by omega)⟩
      refine loopE (fun k st => ∃ (j : Nat), j ≤ W.length ∧ k = W.length - j ∧
          st = ⟨ofL [(0, .v (.c (.d (.sl (W.map Edit.row))))), (1, .v (.c (.d (.sl (all.map Member.row))))), (6, .int .i64 (n + 1 : Nat)), (20, .v (.c (.d (.sl (W.map Edit.row))))), (21, .int .i64 W.length), (22, .int .i64 j), (5, .v (.c (.os H.length 1 0 ((W.take j).foldl (outsStep all W (n + 1)) O0).length)))], H ++ [.row 1 (((W.take j).foldl (outsStep all W (n + 1)) O0).map srow)]⟩)
        (fun st => AtS [(0, .v (.c (.d (.sl (W.map Edit.row))))), (1, .v (.c (.d (.sl (all.map Member.row))))), (6, .int .i64 (n + 1 : Nat)), (5, .v (.c (.os H.length 1 0 (outsR all W (n + 1)).length)))] (H ++ [.row 1 ((outsR all W (n + 1)).map srow)]) st) ?_ ?_ ?_
      · refine wk_pre [0] [0, 1, 6, 20, 21, 22, 5] hw rfl ⟨_, 0, by omega, rfl, ?_⟩
        simp [phiP, phi, O.ren]
      · rintro J2 L2 hJ2 hL2 k2 st ⟨j, hj, rfl, rfl⟩
        by_cases hjl : j < W.length
        · obtain ⟨e, he⟩ : ∃ e, nth W j = e := ⟨_, rfl⟩
          have hem : e ∈ W := by rw [← he]; exact nth_mem hjl
          have hee : e.row = [.v (.string e.id.a), .v (.int .i64 e.id.n), .v (.int .i64 e.clock), .v (.int .i64 e.floor), .sl (e.deps.map Id.row), .v (.int .i64 e.kind), .v (.string e.node.a), .v (.int .i64 e.node.n), .v (.string e.parent.a), .v (.int .i64 e.parent.n), .v (.bool e.neg), .v (.string e.num), .v (.string e.den), .v (.string e.field), .v (.string e.value), .v (.string e.target.a), .v (.int .i64 e.target.n), .v (.string e.who)] := rfl
          have hstep : (W.take (j + 1)).foldl (outsStep all W (n + 1)) O0 = outsStep all W (n + 1) ((W.take j).foldl (outsStep all W (n + 1)) O0) e := by
            rw [take_nth hjl, List.foldl_append, he]; rfl
          have hXl := outs_len all W (n + 1) (W.take j) O0
          rw [List.length_take] at hXl
          obtain ⟨X, hX⟩ : ∃ X, X = (W.take j).foldl (outsStep all W (n + 1)) O0 := ⟨_, rfl⟩
          rw [← hX] at hstep hXl ⊢
          replace hstep : (W.take (j + 1)).foldl (outsStep all W (n + 1)) O0 = if ((ofR all W e.who).isSome && (decide ((parts e.who comma).length = n + 1) && !hasS X e.who)) = true then X ++ [e.who] else X := hstep
          have g1 := ref_Te h hem
          rw [hee] at g1
          have g2 := xg541 e.who W all h ⟨e, hem, rfl⟩
          have g3 := xg546 X e.who (by omega)
          obtain ⟨pl, _⟩ := h.pln ⟨e, hem, rfl⟩
          obtain ⟨P, hP⟩ : ∃ P, P = parts e.who comma := ⟨_, rfl⟩
          obtain ⟨R, hR⟩ : ∃ R, R = ofR all W e.who := ⟨_, rfl⟩
          obtain ⟨u, hu⟩ : ∃ u, u = hasS X e.who := ⟨_, rfl⟩
          rw [← hP] at g1 hstep pl
          rw [← hR] at g2 hstep
          rw [← hu] at g3 hstep
          have tS : (X.map srow).take X.length = X.map srow := List.take_of_length_le (by simp)
          have keep : ∀ (sl : Nat → T) (o : O), (W.take (j + 1)).foldl (outsStep all W (n + 1)) O0 = X → (∀ p ∈ [(0, T.v (.c (.d (.sl (W.map Edit.row))))), (1, .v (.c (.d (.sl (all.map Member.row))))), (6, .int .i64 (n + 1 : Nat)), (20, .v (.c (.d (.sl (W.map Edit.row))))), (21, .int .i64 W.length), (22, .int .i64 (j + 1 : Nat)), (5, .v (.c (.os H.length 1 0 X.length)))], sl p.1 = p.2) → wk Tryz.prog G0 H.length ⟨sl, H ++ [.row 1 (X.map srow), o]⟩ (fun s'' => ∃ k', k' < W.length - j ∧ J2 k' s'') := fun sl o hnn hsl => by
            subst hJ2
            refine wk_pre [0] [0, 1, 6, 20, 21, 22, 5] hw rfl ⟨W.length - (j + 1), by omega, j + 1, by omega, rfl, ?_⟩
            rw [hnn]
            simp at hsl
            simp [hsl, phiP, phi, O.ren]
          cases R with
          | none =>
            have hT : ofT none = .tup [.c (.d (.v (.slice none 0 0))), .c (.d (.v (.bool false)))] := rfl
            rw [hT] at g2
            simp (implicitDefEqProofs := false) (disch := omega) [List.getElem?_cons_zero, hjl, wrap64, nth_map, he, hee, splice, fillC, s1, s2, s3, g1, g2, g3, toPVs, frzVs, osVs, toPV, Nat.add_assoc]
            exact keep _ _ (by rw [hstep]; rfl) (by simp)
          | some own =>
            have hT : ofT (some own) = .tup [.c (.d (.sl (own.map Edit.row))), .c (.d (.v (.bool true)))] := rfl
            rw [hT] at g2
            by_cases c1 : P.length = n + 1
            · have c1' : (P.length : Int) = (n : Int) + 1 := by omega
              cases u
              · rw [if_pos (by simp [c1])] at hstep
                simp (implicitDefEqProofs := false) (disch := omega) [List.getElem?_cons_zero, hjl, wrap64, nth_map, he, hee, splice, fillC, s1, s2, s3, g1, g2, g3, c1, c1', toPVs, frzVs, osVs, toPV, toDs, toD, tS, Nat.add_assoc]
                repeat' (with_reducible apply And.intro)
                all_goals first | omega | kernel_rfl | exact fun _ _ => rfl | skip
                subst hJ2
                refine wk_pre [3] [0, 1, 6, 20, 21, 22, 5] hw rfl ⟨W.length - (j + 1), by omega, j + 1, by omega, rfl, ?_⟩
                rw [hstep]
                simp [phiP, phi, O.ren, srow, show ¬ (H.length + 3 < H.length) from by omega]
              · simp (implicitDefEqProofs := false) (disch := omega) [List.getElem?_cons_zero, hjl, wrap64, nth_map, he, hee, splice, fillC, s1, s2, s3, g1, g2, g3, c1, c1', toPVs, frzVs, osVs, toPV, tS, Nat.add_assoc]
                exact keep _ _ (by rw [hstep]; simp) (by simp)
            · have c1' : ¬ (P.length : Int) = (n : Int) + 1 := by omega
              simp (implicitDefEqProofs := false) (disch := omega) [List.getElem?_cons_zero, hjl, wrap64, nth_map, he, hee, splice, fillC, s1, s2, s3, g1, g2, g3, c1, c1', toPVs, frzVs, osVs, toPV, Nat.add_assoc]
              exact keep _ _ (by rw [hstep]; simp [c1]) (by simp)
        · have : j = W.length := by omega
          subst this
          rw [List.take_length]
          simp (implicitDefEqProofs := false) (disch := omega) [List.getElem?_cons_zero, hjl]
          subst hL2
          rw [hsucc]
          exact at_mk (by simp) (by simp)
      · rintro _ ⟨sl, rfl⟩
        simp (implicitDefEqProofs := false) (disch := omega) [List.getElem?_cons_zero, wrap64]
        subst hJ
        refine wk_pre [0] [0, 1, 6, 5] hw rfl ⟨all.length - (n + 1), by omega, n + 1, by omega, rfl, ?_⟩
        simp [phiP, phi, O.ren]
    · have : n = all.length := by omega
      subst this
      simp (implicitDefEqProofs := false) (disch := omega) [List.getElem?_cons_zero, hlt]
      refine ⟨fun hq => absurd hq (by omega), fun hq => ?_⟩
      subst hL
      exact at_mk (by simp) (by simp)
  · rintro _ ⟨sl, rfl⟩
    simp (implicitDefEqProofs := false) (disch := omega) [List.getElem?_cons_zero, b540_3, b540_4, wrap64]
    exact fin_own (k := 0) hw rfl (by simp)
noncomputable def x540 : XE := mkX false (fun (p : List Edit × List Member) => [.c (.sl (p.1.map Edit.row)), .c (.sl (p.2.map Member.row))]) (fun p => OkW p.2 p.1) (fun p => .v (.c (.d (.sl ((outsR p.2 p.1 p.2.length).map srow)))))
theorem kx540 : Contract Tryz.prog G0 40 x540 := mkX_data fun p h H => own_data (k540 p.1 p.2 h H)
theorem xg540 (W : List Edit) (all : List Member) (h : OkW all W) : x540.g [.c (.sl (W.map Edit.row)), .c (.sl (all.map Member.row))] = some (True, .v (.c (.d (.sl ((outsR all W all.length).map srow))))) := mkX_g (fun a b h => by
  simp only [List.cons.injEq, PVo.c.injEq, D.sl.injEq] at h
  exact Prod.ext (rows_inj h.1) (mrows_inj h.2.1)) (W, all) h
end Go.Aw.Try

namespace Go.Aw.Try
open Go Go.Proofs Go.Aw
set_option maxRecDepth 100000
set_option maxHeartbeats 4000000
/-! ### number -/
def idxW : List ByteArray → ByteArray → Nat
  | [], _ => 0
  | x :: r, w => if x = w then 0 else idxW r w + 1
theorem idxW_nth : ∀ {l : List ByteArray} {w : ByteArray}, idxW l w < l.length → nth l (idxW l w) = w
  | [], w, h => by cases h
  | x :: r, w, h => by
    unfold idxW at h ⊢
    by_cases c : x = w
    · rw [if_pos c]; exact c
    · rw [if_neg c] at h ⊢
      have := idxW_nth (l := r) (w := w) (by simp only [List.length_cons] at h; omega)
      exact this
theorem idxW_of : ∀ {l : List ByteArray} {i : Nat}, l.Nodup → i < l.length → idxW l (nth l i) = i
  | [], i, _, h => by cases h
  | x :: r, 0, _, _ => by unfold idxW; exact if_pos rfl
  | x :: r, i + 1, hn, h => by
    obtain ⟨h1, h2⟩ := List.nodup_cons.1 hn
    have hi : i < r.length := by simp only [List.length_cons] at h; omega
    have e : nth (x :: r) (i + 1) = nth r i := rfl
    unfold idxW
    rw [e, if_neg (fun q => h1 (by rw [q]; exact nth_mem hi)), idxW_of h2 hi]
structure RArg where
  who : ByteArray
  name : ByteArray
  outs : List ByteArray
  W : List Edit
  all : List Member
noncomputable def x544 (n : Nat) : XE := mkX true (fun (p : RArg) => [.c (.v (.string p.who)), .c (.v (.string p.name)), .c (.sl (p.outs.map srow)), .c (.sl (p.W.map Edit.row)), .c (.sl (p.all.map Member.row))])
  (fun p => OkW p.all p.W ∧ p.outs = outsR p.all p.W p.all.length ∧ idxW p.outs p.who < p.outs.length ∧ idxW p.outs p.who < n)
  (fun p => .int .i64 (uptoE (vsOf p.W) (outL (p.all.map Member.name) (vsOf p.W)) p.name (idxW p.outs p.who)))
theorem injR6 (a b : RArg) (h : [PVo.c (D.v (.string a.who)), PVo.c (D.v (.string a.name)), PVo.c (D.sl (a.outs.map srow)), PVo.c (D.sl (a.W.map Edit.row)), PVo.c (D.sl (a.all.map Member.row))] = [PVo.c (D.v (.string b.who)), PVo.c (D.v (.string b.name)), PVo.c (D.sl (b.outs.map srow)), PVo.c (D.sl (b.W.map Edit.row)), PVo.c (D.sl (b.all.map Member.row))]) : a = b := by
  simp only [List.cons.injEq, PVo.c.injEq, D.sl.injEq, D.v.injEq, Value.string.injEq] at h
  obtain ⟨h1, h2, h3, h4, h5, _⟩ := h
  cases a; cases b
  simp only at h1 h2 h3 h4 h5
  rw [h1, h2, srow_inj h3, rows_inj h4, mrows_inj h5]
theorem OutI.nodup {all : List Member} {W : List Edit} {size : Nat} {out : List ByteArray} (h : OutI all W size out) : out.Nodup := by
  unfold List.Nodup
  exact h.pw.imp fun {a b} hab e => by subst e; omega
theorem xg544 (n : Nat) (W : List Edit) (all : List Member) (name : ByteArray) (h : OkW all W) (i : Nat) (hi : i < (outsR all W all.length).length) (hn : i < n) :
    (x544 n).g [.c (.v (.string (nth (outsR all W all.length) i))), .c (.v (.string name)), .c (.sl ((outsR all W all.length).map srow)), .c (.sl (W.map Edit.row)), .c (.sl (all.map Member.row))] = some (True, .int .i64 (uptoE (vsOf W) (outL (all.map Member.name) (vsOf W)) name i)) := by
  have e := idxW_of (h.outs_all all.length).nodup hi
  have := mkX_g (sc := true) (enc := fun (p : RArg) => [PVo.c (D.v (.string p.who)), .c (.v (.string p.name)), .c (.sl (p.outs.map srow)), .c (.sl (p.W.map Edit.row)), .c (.sl (p.all.map Member.row))])
    (ok := fun p => OkW p.all p.W ∧ p.outs = outsR p.all p.W p.all.length ∧ idxW p.outs p.who < p.outs.length ∧ idxW p.outs p.who < n)
    (F := fun p => T.int .i64 (uptoE (vsOf p.W) (outL (p.all.map Member.name) (vsOf p.W)) p.name (idxW p.outs p.who))) injR6 (RArg.mk (nth (outsR all W all.length) i) name (outsR all W all.length) W all) ⟨h, rfl, by rw [e]; exact hi, by rw [e]; exact hn⟩
  simp only [e] at this
  exact this
theorem knows_of (d : List Id) (l : List Edit) : knowsE d l = knowsV d (vsOf l) := by
  unfold knowsE knowsV vsOf
  rw [List.all_map]; rfl
theorem anyK_eq {all : List Member} {W : List Edit} (h : OkW all W) {a b : ByteArray} {own theirs : List Edit} (ho : ofR all W a = some own) (ht : ofR all W b = some theirs) :
    anyKnows (ofV (vsOf W) (parts a comma)) (ofV (vsOf W) (parts b comma)) = own.any fun e => knowsE e.deps theirs := by
  rw [← anyKnows_ext (h.of_mem ho) (h.of_mem ht)]
  unfold anyKnows
  show ((own.map fun e => (⟨e, parts e.who comma⟩ : Vote)).any _) = _
  rw [List.any_map]
  congr 1
  funext e
  exact (knows_of _ _).symm
noncomputable def maxR (own : List Edit) (name : ByteArray) : Int := maxN (vsOf own) name
theorem maxR_take {own : List Edit} {name : ByteArray} {i : Nat} (h : i < own.length) : maxR (own.take (i + 1)) name = if maxR (own.take i) name < hasN (nth own i).deps name then hasN (nth own i).deps name else maxR (own.take i) name := by
  unfold maxR vsOf maxN
  rw [take_nth h, List.map_append, List.foldl_append]; rfl
theorem anyK_true {own theirs : List Edit} {j : Nat} (h : j < own.length) (hk : knowsE (nth own j).deps theirs = true) : (own.any fun e => knowsE e.deps theirs) = true := by
  rw [List.any_eq_true]; exact ⟨_, nth_mem h, hk⟩
theorem anyK_false {own theirs : List Edit} (h : ∀ j, j < own.length → knowsE (nth own j).deps theirs = false) : (own.any fun e => knowsE e.deps theirs) = false := by
  rw [List.any_eq_false]
  intro e he
  obtain ⟨j, hj, rfl⟩ := List.mem_iff_getElem.1 he
  have := h j hj
  rw [nth_eq hj] at this
  rw [this]; simp
theorem OkW.part_no {all : List Member} {W : List Edit} (h : OkW all W) {a b : ByteArray} (ha : ∃ e ∈ W, e.who = a) (hl : plen b < plen a) : partS (parts a comma) (parts b comma) = false := by
  cases hp : partS (parts a comma) (parts b comma)
  · rfl
  · obtain ⟨e, he, rfl⟩ := ha
    have hv := vok_of (h.nm e he)
    have hnd : (parts e.who comma).Nodup := by
      unfold List.Nodup
      exact hv.asc.imp fun {x y} hxy e => by subst e; have := (cmpS_eq x x).2 rfl; omega
    have := nodup_len hnd (partS_iff.1 hp)
    unfold plen at hl; omega
theorem k544 (n : Nat) (hn : Contract Tryz.prog G0 44 (x544 n)) (W : List Edit) (all : List Member) (name : ByteArray) (h : OkW all W) (outs : List ByteArray) (hou : outs = outsR all W all.length) (hi : n < outs.length) (who : ByteArray) (hwho : nth outs n = who) :
    ACalls Tryz.prog G0 44 [Sx who, Sx name, .c (.d (.sl (outs.map srow))), .c (.d (.sl (W.map Edit.row))), .c (.d (.sl (all.map Member.row)))] [] fun t H => t = .int .i64 (uptoE (vsOf W) (outL (all.map Member.name) (vsOf W)) name n) ∧ H = [] := by
  have s1 : x541.sc = false := rfl
  have s2 : x542.sc = false := rfl
  have s3 : x582.sc = true := rfl
  have s4 : x546.sc = true := rfl
  have s5 : x583.sc = true := rfl
  have s6 : (x544 n).sc = true := rfl
  have s7 : x545.sc = true := rfl
  have hal := h.mlen
  have hWl := h.len
  have hI := h.outs_all all.length
  rw [← hou] at hI
  have hpw : ∀ i j, i < j → j < outs.length → plen (nth outs i) < plen (nth outs j) := fun i j hij hj => by
    have := List.pairwise_iff_getElem.1 hI.pw i j (by omega) hj hij
    rw [nth_eq (by omega : i < outs.length), nth_eq hj]; exact this
  have hin : ∀ i, i < outs.length → (∃ e ∈ W, e.who = nth outs i) ∧ ∃ own, ofR all W (nth outs i) = some own := fun i hi => by
    obtain ⟨a, b, _⟩ := hI.mem _ (nth_mem hi)
    refine ⟨a, ?_⟩
    cases ho : ofR all W (nth outs i) with
    | none => exact absurd ho b
    | some own => exact ⟨own, rfl⟩
  have hol : outs.length ≤ 320 := by
    rw [hou]
    have h1 := outsR_len all W all.length
    have h2 : all.length * W.length ≤ 8 * 40 := Nat.mul_le_mul hal hWl
    omega
  have g6 := fun m hm hmn => xg544 n W all name h m (by rw [← hou]; exact hm) hmn
  rw [← hou] at g6
  have hsets : outL (all.map Member.name) (vsOf W) = outs.map (fun w => parts w comma) := by rw [hou]; exact h.outs_eq.symm
  obtain ⟨sets, hse⟩ : ∃ s, s = outL (all.map Member.name) (vsOf W) := ⟨_, rfl⟩
  rw [← hse] at g6 hsets ⊢
  have hns : ∀ i, i < outs.length → nth sets i = parts (nth outs i) comma := fun i hi => by rw [hsets, nth_map _ hi]
  have hU := uptoE_eq (vsOf W) sets name n
  obtain ⟨hw1, own, hown⟩ := hin n hi
  rw [hwho] at hw1 hown
  have hset0 := hns n hi
  rw [hwho] at hset0
  rw [hset0] at hU
  have hMx : maxN (ofV (vsOf W) (parts who comma)) name = maxR own name := (maxN_ext (h.of_mem hown)).symm
  rw [hMx] at hU
  obtain ⟨pl, _⟩ := h.pln hw1
  have hownl := (h.of_some hown).2.2
  have hownm : ∀ e ∈ own, e ∈ W := fun e he => ((h.of_some hown).1 e |>.1 he).1
  have g1 := xg541 who W all h hw1
  rw [hown, show ofT (some own) = .tup [.c (.d (.sl (own.map Edit.row))), .c (.d (.v (.bool true)))] from rfl] at g1
  have g2 := ref_T h hw1
  rw [wE_row] at g2
  obtain ⟨set, hset⟩ : ∃ s, s = parts who comma := ⟨_, rfl⟩
  rw [← hset] at g2 hset0 pl
  refine acallsX (X := [(41, x541), (42, x542), (82, x582), (46, x546), (83, x583), (44, x544 n), (45, x545)]) ⟨kx541, kx542, kx582, kx546, kx583, hn, kx545, trivial⟩ tab hmix Tryz.func44 c544 (by rfl) fun hw => ?_
  simp (implicitDefEqProofs := false) (disch := omega) [List.getElem?_cons_zero, ir544, b544, b544_0, b544_1, b544_2, b544_3, Sx, splice, fillC, s1, s2, g1, g2, wrap64, toPVs, frzVs, osVs, toPV]
  refine loopE (fun k st => ∃ m, m ≤ outs.length ∧ k = m ∧ pickI (vsOf W) sets n name n = pickI (vsOf W) sets n name (min m n) ∧
      st = ⟨ofL [(0, T.v (.c (.d (.v (.string who))))), (1, .v (.c (.d (.v (.string name))))), (2, .v (.c (.d (.sl (outs.map srow))))), (3, .v (.c (.d (.sl (W.map Edit.row))))), (4, .v (.c (.d (.sl (all.map Member.row))))), (11, .v (.c (.d (.sl (own.map Edit.row))))), (13, .v (.c (.d (.sl (set.map srow))))), (15, .int .i64 ((m : Int) - 1))], []⟩)
    (fun st => pickI (vsOf W) sets n name n = none ∧ AtS [(1, .v (.c (.d (.v (.string name))))), (11, .v (.c (.d (.sl (own.map Edit.row)))))] [] st) ?_ ?_ ?_
  · refine wk_nil [] [0, 1, 2, 3, 4, 11, 13, 15] rfl ⟨outs.length, outs.length, Nat.le_refl _, rfl, by rw [Nat.min_eq_right (by omega)], ?_⟩
    simp
  · rintro J L hJ hL m st ⟨_, hm, rfl, hpk, rfl⟩
    by_cases hlt : m = 0
    · subst hlt
      simp (implicitDefEqProofs := false) (disch := omega) [List.getElem?_cons_zero, wrap64]
      subst hL
      refine ⟨by rw [hpk, Nat.zero_min]; rfl, at_mk (by simp) rfl⟩
    · obtain ⟨m, rfl⟩ : ∃ j, m = j + 1 := ⟨m - 1, by omega⟩
      have hm' : m < outs.length := by omega
      have hm1 : ((m + 1 : Nat) : Int) - 1 = m := by omega
      obtain ⟨hww, theirs, hth⟩ := hin m hm'
      obtain ⟨w, hwm⟩ : ∃ w, nth outs m = w := ⟨_, rfl⟩
      have g7 := g6 m hm'
      rw [hwm] at hww hth g7
      obtain ⟨plm, _⟩ := h.pln hww
      have g3 := ref_T h hww
      rw [wE_row] at g3
      have hsm := hns m hm'
      rw [hwm] at hsm
      obtain ⟨sm, hsm2⟩ : ∃ s, s = parts w comma := ⟨_, rfl⟩
      have g4 := xg582 sm set (by rw [hsm2]; omega) (by omega)
      have g5 := xg546 sm name (by rw [hsm2]; omega)
      have gth := xg541 w W all h hww
      rw [hth, show ofT (some theirs) = .tup [.c (.d (.sl (theirs.map Edit.row))), .c (.d (.v (.bool true)))] from rfl] at gth
      have hthl := (h.of_some hth).2.2
      rw [← hsm2] at g3 hsm
      rw [hm1]
      have hsr : srow w = [D.v (.string w)] := rfl
      by_cases cmn : m = n
      · have hwe : w = who := by rw [← hwm, cmn, hwho]
        have hk2 : pickI (vsOf W) sets n name n = pickI (vsOf W) sets n name (min m n) := by rw [hpk, cmn, Nat.min_eq_right (by omega), Nat.min_self]
        rw [hwe] at g3 hsr hwm
        simp (implicitDefEqProofs := false) (disch := omega) [List.getElem?_cons_zero, wrap64, hm', hi, nth_map, hwm, hsr, splice, fillC, binSF, s1, s2, s3, s4, s5, g3, g4, g5, gth, toPVs, frzVs, osVs, toPV]
        subst hJ
        refine wk_nil [] [0, 1, 2, 3, 4, 11, 13, 15] rfl ⟨m, by omega, m, by omega, rfl, hk2, ?_⟩
        simp
      · have hwe : ¬ w = who := fun q => by
          rcases Nat.lt_or_gt_of_ne cmn with c | c
          · have := hpw m n c hi; rw [hwm, hwho, q] at this; omega
          · have := hpw n m c hm'; rw [hwm, hwho, q] at this; omega
        by_cases cgt : n < m
        · have hk2 : pickI (vsOf W) sets n name n = pickI (vsOf W) sets n name (min m n) := by rw [hpk, Nat.min_eq_right (by omega), Nat.min_eq_right (by omega)]
          have hq2 : partS sm set = false := by
            rw [hsm2, hset]
            refine h.part_no hww ?_
            have := hpw n m cgt hm'; rw [hwm, hwho] at this; exact this
          rw [hq2] at g4
          simp (implicitDefEqProofs := false) (disch := omega) [List.getElem?_cons_zero, wrap64, hm', hi, nth_map, hwm, hsr, splice, fillC, binSF, hwe, s1, s2, s3, s4, s5, g3, g4, g5, gth, toPVs, frzVs, osVs, toPV]
          subst hJ
          refine wk_nil [] [0, 1, 2, 3, 4, 11, 13, 15] rfl ⟨m, by omega, m, by omega, rfl, hk2, ?_⟩
          simp
        · have hlt2 : m < n := by omega
          have g8 := g7 hlt2
          rw [Nat.min_eq_left (by omega)] at hpk
          have hst : pickI (vsOf W) sets n name (m + 1) = if leadB (vsOf W) sets n name m then some m else pickI (vsOf W) sets n name m := rfl
          unfold leadB at hst
          rw [hsm, hset0] at hst
          have hak := anyK_eq h hown hth
          rw [← hset, ← hsm2] at hak
          rw [hak] at hst
          obtain ⟨q1, hq1⟩ : ∃ q, q = hasS sm name := ⟨_, rfl⟩
          obtain ⟨q2, hq2⟩ : ∃ q, q = partS sm set := ⟨_, rfl⟩
          rw [← hq1] at g5 hst
          rw [← hq2] at g4 hst
          have done : ∀ (sl : Nat → T), pickI (vsOf W) sets n name (m + 1) = pickI (vsOf W) sets n name m → (∀ p ∈ [(0, T.v (.c (.d (.v (.string who))))), (1, .v (.c (.d (.v (.string name))))), (2, .v (.c (.d (.sl (outs.map srow))))), (3, .v (.c (.d (.sl (W.map Edit.row))))), (4, .v (.c (.d (.sl (all.map Member.row))))), (11, .v (.c (.d (.sl (own.map Edit.row))))), (13, .v (.c (.d (.sl (set.map srow))))), (15, .int .i64 ((m : Int) - 1))], sl p.1 = p.2) → ∀ Z, wk Tryz.prog G0 0 ⟨sl, Z⟩ (fun s'' => ∃ k', k' < m + 1 ∧ J k' s'') := fun sl hnn hsl Z => by
            subst hJ
            refine wk_nil [] [0, 1, 2, 3, 4, 11, 13, 15] rfl ⟨m, by omega, m, by omega, rfl, by rw [hpk, hnn, Nat.min_eq_left (by omega)], ?_⟩
            simp at hsl
            simp [hsl]
          cases q2
          · simp (implicitDefEqProofs := false) (disch := omega) [List.getElem?_cons_zero, wrap64, hm', hi, nth_map, hwm, hsr, splice, fillC, binSF, hwe, s1, s2, s3, s4, s5, g3, g4, g5, gth, toPVs, frzVs, osVs, toPV]
            exact done _ (by rw [hst]; simp) (by simp) _
          · cases q1
            · simp (implicitDefEqProofs := false) (disch := omega) [List.getElem?_cons_zero, wrap64, hm', hi, nth_map, hwm, hsr, splice, fillC, binSF, hwe, s1, s2, s3, s4, s5, g3, g4, g5, gth, toPVs, frzVs, osVs, toPV]
              exact done _ (by rw [hst]; simp) (by simp) _
            · simp (implicitDefEqProofs := false) (disch := omega) [List.getElem?_cons_zero, wrap64, hm', hi, nth_map, hwm, hsr, splice, fillC, binSF, hwe, s1, s2, s3, s4, s5, g3, g4, g5, gth, toPVs, frzVs, osVs, toPV]
              refine loopE (fun k st => ∃ j, j ≤ own.length ∧ k = own.length - j ∧ (∀ q, q < j → knowsE (nth own q).deps theirs = false) ∧
                  st = ⟨ofL [(0, T.v (.c (.d (.v (.string who))))), (1, .v (.c (.d (.v (.string name))))), (2, .v (.c (.d (.sl (outs.map srow))))), (3, .v (.c (.d (.sl (W.map Edit.row))))), (4, .v (.c (.d (.sl (all.map Member.row))))), (11, .v (.c (.d (.sl (own.map Edit.row))))), (13, .v (.c (.d (.sl (set.map srow))))), (15, .int .i64 (m : Int)), (18, .v (.c (.d (.sl (theirs.map Edit.row))))), (84, .v (.c (.d (.sl (own.map Edit.row))))), (85, .int .i64 own.length), (86, .int .i64 j)], []⟩)
                (fun st => (∀ q, q < own.length → knowsE (nth own q).deps theirs = false) ∧ AtS [(0, T.v (.c (.d (.v (.string who))))), (1, .v (.c (.d (.v (.string name))))), (2, .v (.c (.d (.sl (outs.map srow))))), (3, .v (.c (.d (.sl (W.map Edit.row))))), (4, .v (.c (.d (.sl (all.map Member.row))))), (11, .v (.c (.d (.sl (own.map Edit.row))))), (13, .v (.c (.d (.sl (set.map srow))))), (15, .int .i64 (m : Int))] [] st) ?_ ?_ ?_
              · refine wk_nil [] [0, 1, 2, 3, 4, 11, 13, 15, 18, 84, 85, 86] rfl ⟨_, 0, by omega, rfl, fun q hq => by omega, ?_⟩
                simp
              · rintro J2 L2 hJ2 hL2 k2 st ⟨j, hj, rfl, hno, rfl⟩
                by_cases hjl : j < own.length
                · obtain ⟨e, he⟩ : ∃ e, nth own j = e := ⟨_, rfl⟩
                  have hem : e ∈ W := hownm e (by rw [← he]; exact nth_mem hjl)
                  have hee : e.row = [.v (.string e.id.a), .v (.int .i64 e.id.n), .v (.int .i64 e.clock), .v (.int .i64 e.floor), .sl (e.deps.map Id.row), .v (.int .i64 e.kind), .v (.string e.node.a), .v (.int .i64 e.node.n), .v (.string e.parent.a), .v (.int .i64 e.parent.n), .v (.bool e.neg), .v (.string e.num), .v (.string e.den), .v (.string e.field), .v (.string e.value), .v (.string e.target.a), .v (.int .i64 e.target.n), .v (.string e.who)] := rfl
                  have g9 := xg583 e.deps theirs (by have := (h.sm e hem).2.2.1; omega) (by omega)
                  obtain ⟨z, hz⟩ : ∃ z, z = knowsE e.deps theirs := ⟨_, rfl⟩
                  rw [← hz] at g9
                  cases z
                  · simp (implicitDefEqProofs := false) (disch := omega) [List.getElem?_cons_zero, hjl, wrap64, nth_map, he, hee, splice, fillC, s5, g9]
                    subst hJ2
                    refine wk_nil [] [0, 1, 2, 3, 4, 11, 13, 15, 18, 84, 85, 86] rfl ⟨own.length - (j + 1), by omega, j + 1, by omega, rfl, fun q hq => ?_, ?_⟩
                    · by_cases qe : q = j
                      · rw [qe, he]; exact hz.symm
                      · exact hno q (by omega)
                    · simp
                  · have hat := anyK_true (theirs := theirs) hjl (by rw [he]; exact hz.symm)
                    rw [hat] at hst
                    rw [hpk, hst] at hU
                    simp (implicitDefEqProofs := false) (disch := omega) [List.getElem?_cons_zero, hjl, wrap64, nth_map, he, hee, hm', hwm, hsr, splice, fillC, s5, s6, g9, g8]
                    exact fin_nil ⟨by rw [hU]; simp, rfl⟩
                · have : j = own.length := by omega
                  subst this
                  simp (implicitDefEqProofs := false) (disch := omega) [List.getElem?_cons_zero, hjl]
                  subst hL2
                  exact ⟨hno, at_mk (by simp) rfl⟩
              · rintro _ ⟨hno, sl, rfl⟩
                rw [anyK_false hno] at hst
                simp (implicitDefEqProofs := false) (disch := omega) [List.getElem?_cons_zero, wrap64]
                exact done _ (by rw [hst]; simp) (by simp) _
  · rintro _ ⟨hpn, sl, rfl⟩
    rw [hpn] at hU
    simp (implicitDefEqProofs := false) (disch := omega) [List.getElem?_cons_zero, b544_4, b544_5, b544_6, b544_7, wrap64]
    refine loopE (fun k st => ∃ i, i ≤ own.length ∧ k = own.length - i ∧
        st = ⟨ofL [(1, .v (.c (.d (.v (.string name))))), (22, .int .i64 (maxR (own.take i) name)), (104, .v (.c (.d (.sl (own.map Edit.row))))), (105, .int .i64 own.length), (106, .int .i64 i)], []⟩)
      (fun st => AtS [(22, .int .i64 (maxR own name))] [] st) ?_ ?_ ?_
    · refine wk_nil [] [1, 22, 104, 105, 106] rfl ⟨_, 0, by omega, rfl, ?_⟩
      simp [maxR, vsOf, maxN]
    · rintro J L hJ hL k st ⟨i, hi', rfl, rfl⟩
      by_cases hlt : i < own.length
      · obtain ⟨e, he⟩ : ∃ v, nth own i = v := ⟨_, rfl⟩
        have hem : e ∈ W := hownm e (by rw [← he]; exact nth_mem hlt)
        have hee : e.row = [.v (.string e.id.a), .v (.int .i64 e.id.n), .v (.int .i64 e.clock), .v (.int .i64 e.floor), .sl (e.deps.map Id.row), .v (.int .i64 e.kind), .v (.string e.node.a), .v (.int .i64 e.node.n), .v (.string e.parent.a), .v (.int .i64 e.parent.n), .v (.bool e.neg), .v (.string e.num), .v (.string e.den), .v (.string e.field), .v (.string e.value), .v (.string e.target.a), .v (.int .i64 e.target.n), .v (.string e.who)] := rfl
        have hst := maxR_take (name := name) hlt
        rw [he] at hst
        have g7 := xg545 e.deps name (by have := (h.sm e hem).2.2.1; omega)
        obtain ⟨x, hx⟩ : ∃ x, x = maxR (own.take i) name := ⟨_, rfl⟩
        obtain ⟨y, hy⟩ : ∃ y, y = hasN e.deps name := ⟨_, rfl⟩
        rw [← hx, ← hy] at hst
        rw [← hy] at g7
        rw [← hx]
        by_cases c : x < y
        · rw [if_pos c] at hst
          simp (implicitDefEqProofs := false) (disch := omega) [List.getElem?_cons_zero, hlt, wrap64, nth_map, he, hee, splice, fillC, s7, g7, c]
          subst hJ
          refine wk_nil [] [1, 22, 104, 105, 106] rfl ⟨own.length - (i + 1), by omega, i + 1, by omega, rfl, ?_⟩
          rw [hst]; simp
        · rw [if_neg c] at hst
          simp (implicitDefEqProofs := false) (disch := omega) [List.getElem?_cons_zero, hlt, wrap64, nth_map, he, hee, splice, fillC, s7, g7, c]
          subst hJ
          refine wk_nil [] [1, 22, 104, 105, 106] rfl ⟨own.length - (i + 1), by omega, i + 1, by omega, rfl, ?_⟩
          rw [hst]; simp
      · have : i = own.length := by omega
        subst this
        rw [List.take_length]
        simp (implicitDefEqProofs := false) (disch := omega) [List.getElem?_cons_zero, hlt]
        subst hL
        exact at_mk (by simp) rfl
    · rintro _ ⟨sl, rfl⟩
      simp (implicitDefEqProofs := false) (disch := omega) [List.getElem?_cons_zero, wrap64]
      exact fin_nil ⟨by rw [hU]; rfl, rfl⟩
theorem kx544 (n : Nat) : Contract Tryz.prog G0 44 (x544 n) := by
  induction n using Nat.strongRecOn with
  | _ n ih => exact mkX_scal (fun _ => rfl) fun p h => k544 (idxW p.outs p.who) (ih _ h.2.2.2) p.W p.all p.name h.1 p.outs h.2.1 h.2.2.1 p.who (idxW_nth h.2.2.1)
end Go.Aw.Try

namespace Go.Aw.Try
open Go Go.Proofs Go.Aw
set_option maxRecDepth 100000
set_option maxHeartbeats 4000000
/-! ### Final -/
def knewR (l : List Edit) (own : List Edit) (s : ByteArray) : Bool := l.any fun e => decide (e.id.a = s) && knowsE e.deps own
theorem knewR_take {l own : List Edit} {s : ByteArray} {j : Nat} (h : j < l.length) : knewR (l.take (j + 1)) own s = (knewR (l.take j) own s || (decide ((nth l j).id.a = s) && knowsE (nth l j).deps own)) := by
  unfold knewR
  rw [take_nth h, List.any_append]; simp
theorem knew_eq {all : List Member} {W : List Edit} (h : OkW all W) {who : ByteArray} {own : List Edit} (ho : ofR all W who = some own) (l : List Edit) (s : ByteArray) :
    knewB l (ofV (vsOf W) (parts who comma)) s = knewR l own s := by
  unfold knewB knewR
  congr 1
  funext e
  rw [knows_of, knowsV_ext (h.of_mem ho)]
theorem k543 (who : ByteArray) (l W : List Edit) (all : List Member) (h : OkW all W) (hwho : ∃ e ∈ W, e.who = who) (own : List Edit) (hown : ofR all W who = some own) (hl : l.length < 4611686018427387904) (hld : ∀ e ∈ l, e.deps.length < 4611686018427387904) :
    ACalls Tryz.prog G0 43 [Sx who, .c (.d (.sl (l.map Edit.row))), .c (.d (.sl (W.map Edit.row))), .c (.d (.sl (all.map Member.row)))] [] fun t H => t = .int .i64 (if finalB ⟨all.map Member.name, l, vsOf W⟩ (parts who comma) = true then 1 else 0) ∧ H = [] := by
  have s1 : x541.sc = false := rfl
  have s2 : x542.sc = false := rfl
  have s4 : x546.sc = true := rfl
  have s5 : x583.sc = true := rfl
  have hal := h.mlen
  obtain ⟨pl, _⟩ := h.pln hwho
  have hownl := (h.of_some hown).2.2
  have g1 := xg541 who W all h hwho
  rw [hown, show ofT (some own) = .tup [.c (.d (.sl (own.map Edit.row))), .c (.d (.v (.bool true)))] from rfl] at g1
  have g2 := ref_T h hwho
  rw [wE_row] at g2
  have hyes : (∀ q, q < all.length → (nth all q).name ∈ parts who comma ∨ knewR l own (nth all q).name = true) → finalB ⟨all.map Member.name, l, vsOf W⟩ (parts who comma) = true := fun hq => by
    refine finalB_iff.2 fun s hs hn => ?_
    obtain ⟨m, hm, rfl⟩ := List.mem_map.1 hs
    obtain ⟨q, hql, rfl⟩ := List.mem_iff_getElem.1 hm
    have := hq q hql
    rw [nth_eq hql] at this
    rw [knew_eq h hown]
    exact this.resolve_left hn
  have hno : ∀ q, q < all.length → (nth all q).name ∉ parts who comma → knewR l own (nth all q).name = false → finalB ⟨all.map Member.name, l, vsOf W⟩ (parts who comma) = false := fun q hq hn hk => by
    cases hf : finalB ⟨all.map Member.name, l, vsOf W⟩ (parts who comma)
    · rfl
    · have := finalB_iff.1 hf (nth all q).name (List.mem_map.2 ⟨_, nth_mem hq, rfl⟩) hn
      rw [knew_eq h hown, hk] at this; cases this
  obtain ⟨S, hS⟩ : ∃ S, S = parts who comma := ⟨_, rfl⟩
  rw [← hS] at g2 pl hyes hno ⊢
  obtain ⟨F, hF⟩ : ∃ F, F = finalB ⟨all.map Member.name, l, vsOf W⟩ S := ⟨_, rfl⟩
  rw [← hF] at hyes hno ⊢
  refine acallsX (X := [(41, x541), (42, x542), (46, x546), (83, x583)]) ⟨kx541, kx542, kx546, kx583, trivial⟩ tab hmix Tryz.func43 c543 (by rfl) fun hw => ?_
  simp (implicitDefEqProofs := false) (disch := omega) [List.getElem?_cons_zero, ir543, b543, b543_0, b543_1, b543_2, b543_3, Sx, splice, fillC, s1, s2, g1, g2, wrap64, toPVs, frzVs, osVs, toPV]
  refine loopE (fun k st => ∃ (i : Nat), i ≤ all.length ∧ k = all.length - i ∧ (∀ q, q < i → (nth all q).name ∈ S ∨ knewR l own (nth all q).name = true) ∧
      st = ⟨ofL [(1, T.v (.c (.d (.sl (l.map Edit.row))))), (9, .v (.c (.d (.sl (own.map Edit.row))))), (11, .v (.c (.d (.sl (S.map srow))))), (32, .v (.c (.d (.sl (all.map Member.row))))), (33, .int .i64 all.length), (34, .int .i64 i)], []⟩)
    (fun st => (∀ q, q < all.length → (nth all q).name ∈ S ∨ knewR l own (nth all q).name = true) ∧ AtS [] [] st) ?_ ?_ ?_
  · refine wk_nil [] [1, 9, 11, 32, 33, 34] rfl ⟨_, 0, by omega, rfl, fun q hq => by omega, ?_⟩
    simp
  · rintro J L hJ hL k st ⟨i, hi, rfl, hall, rfl⟩
    by_cases hlt : i < all.length
    · obtain ⟨m, hm⟩ : ∃ m, nth all i = m := ⟨_, rfl⟩
      have hmr : m.row = [.v (.string m.name), .v (.string m.key)] := rfl
      have hno2 := hno i hlt
      rw [hm] at hno2
      have g3 := xg546 S m.name (by omega)
      obtain ⟨u, hu⟩ : ∃ u, u = hasS S m.name := ⟨_, rfl⟩
      rw [← hu] at g3
      have next : (m.name ∈ S ∨ knewR l own m.name = true) → ∀ q, q < i + 1 → (nth all q).name ∈ S ∨ knewR l own (nth all q).name = true := fun hc q hq => by
        by_cases qe : q = i
        · rw [qe, hm]; exact hc
        · exact hall q (by omega)
      cases u
      · have hns : m.name ∉ S := fun q => by rw [(hasS_iff S m.name).2 q] at hu; cases hu
        simp (implicitDefEqProofs := false) (disch := omega) [List.getElem?_cons_zero, hlt, wrap64, nth_map, hm, hmr, splice, fillC, s4, g3]
        refine loopE (fun k st => ∃ (j : Nat), j ≤ l.length ∧ k = l.length - j ∧ st = ⟨ofL [(1, T.v (.c (.d (.sl (l.map Edit.row))))), (9, .v (.c (.d (.sl (own.map Edit.row))))), (11, .v (.c (.d (.sl (S.map srow))))), (32, .v (.c (.d (.sl (all.map Member.row))))), (33, .int .i64 all.length), (34, .int .i64 i), (14, .v (.c (.ptr 0 0))), (42, .v (.c (.d (.sl (l.map Edit.row))))), (43, .int .i64 l.length), (44, .int .i64 j), (15, .bool (knewR (l.take j) own m.name))], [.cells ([.v (.string m.name), .v (.string m.key)].map .d)]⟩)
          (fun st => AtS [(1, T.v (.c (.d (.sl (l.map Edit.row))))), (9, .v (.c (.d (.sl (own.map Edit.row))))), (11, .v (.c (.d (.sl (S.map srow))))), (32, .v (.c (.d (.sl (all.map Member.row))))), (33, .int .i64 all.length), (34, .int .i64 i), (15, .bool (knewR l own m.name))] ([.cells ([.v (.string m.name), .v (.string m.key)].map .d)]) st) ?_ ?_ ?_
        · refine wk_nil [0] [1, 9, 11, 32, 33, 34, 14, 42, 43, 44, 15] rfl ⟨_, 0, by omega, rfl, ?_⟩
          simp [phi, O.ren, knewR]
        · rintro J2 L2 hJ2 hL2 k2 st ⟨j, hj, rfl, rfl⟩
          by_cases hjl : j < l.length
          · obtain ⟨e, he⟩ : ∃ e, nth l j = e := ⟨_, rfl⟩
            have hel : e ∈ l := by rw [← he]; exact nth_mem hjl
            have hee : e.row = [.v (.string e.id.a), .v (.int .i64 e.id.n), .v (.int .i64 e.clock), .v (.int .i64 e.floor), .sl (e.deps.map Id.row), .v (.int .i64 e.kind), .v (.string e.node.a), .v (.int .i64 e.node.n), .v (.string e.parent.a), .v (.int .i64 e.parent.n), .v (.bool e.neg), .v (.string e.num), .v (.string e.den), .v (.string e.field), .v (.string e.value), .v (.string e.target.a), .v (.int .i64 e.target.n), .v (.string e.who)] := rfl
            have hst := knewR_take (own := own) (s := m.name) hjl
            rw [he] at hst
            have g4 := xg583 e.deps own (hld e hel) (by omega)
            obtain ⟨z, hz⟩ : ∃ z, z = knowsE e.deps own := ⟨_, rfl⟩
            obtain ⟨y, hy⟩ : ∃ y, y = knewR (l.take j) own m.name := ⟨_, rfl⟩
            rw [← hz] at g4 hst
            rw [← hy] at hst ⊢
            have keep : ∀ (sl : Nat → T) (o : O) (b : Bool), knewR (l.take (j + 1)) own m.name = b → (∀ p ∈ [(1, T.v (.c (.d (.sl (l.map Edit.row))))), (9, .v (.c (.d (.sl (own.map Edit.row))))), (11, .v (.c (.d (.sl (S.map srow))))), (32, .v (.c (.d (.sl (all.map Member.row))))), (33, .int .i64 all.length), (34, .int .i64 i), (14, T.v (.c (.ptr 0 0))), (42, .v (.c (.d (.sl (l.map Edit.row))))), (43, .int .i64 l.length), (44, .int .i64 (j + 1 : Nat)), (15, .bool b)], sl p.1 = p.2) → wk Tryz.prog G0 0 ⟨sl, [.cells ([.v (.string m.name), .v (.string m.key)].map .d), o]⟩ (fun s'' => ∃ k', k' < l.length - j ∧ J2 k' s'') := fun sl o b hnn hsl => by
              subst hJ2
              refine wk_nil [0] [1, 9, 11, 32, 33, 34, 14, 42, 43, 44, 15] rfl ⟨l.length - (j + 1), by omega, j + 1, by omega, rfl, ?_⟩
              rw [hnn]
              simp at hsl
              simp [hsl, phi, O.ren]
            cases y
            · by_cases c1 : e.id.a = m.name
              · simp (implicitDefEqProofs := false) (disch := omega) [List.getElem?_cons_zero, hjl, wrap64, nth_map, he, hee, splice, fillC, binSF, c1, s5, g4]
                exact keep _ _ z (by rw [hst]; simp [c1]) (by simp)
              · simp (implicitDefEqProofs := false) (disch := omega) [List.getElem?_cons_zero, hjl, wrap64, nth_map, he, hee, splice, fillC, binSF, c1, s5, g4]
                exact keep _ _ false (by rw [hst]; simp [c1]) (by simp)
            · simp (implicitDefEqProofs := false) (disch := omega) [List.getElem?_cons_zero, hjl, wrap64, nth_map, he, hee, splice, fillC, binSF, s5, g4]
              exact keep _ _ true (by rw [hst]; simp) (by simp)
          · have : j = l.length := by omega
            subst this
            rw [List.take_length]
            simp (implicitDefEqProofs := false) (disch := omega) [List.getElem?_cons_zero, hjl]
            subst hL2
            exact at_mk (by simp) (by simp)
        · rintro _ ⟨sl, rfl⟩
          obtain ⟨y, hy⟩ : ∃ y, y = knewR l own m.name := ⟨_, rfl⟩
          rw [← hy] at hno2 next ⊢
          cases y
          · rw [hno2 hns rfl]
            simp (implicitDefEqProofs := false) (disch := omega) [List.getElem?_cons_zero, wrap64]
            exact fin_nil ⟨rfl, rfl⟩
          · simp (implicitDefEqProofs := false) (disch := omega) [List.getElem?_cons_zero, wrap64]
            subst hJ
            refine wk_nil [] [1, 9, 11, 32, 33, 34] rfl ⟨all.length - (i + 1), by omega, i + 1, by omega, rfl, next (.inr rfl), ?_⟩
            simp [phi, O.ren]
      · have hns : m.name ∈ S := (hasS_iff S m.name).1 hu.symm
        simp (implicitDefEqProofs := false) (disch := omega) [List.getElem?_cons_zero, hlt, wrap64, nth_map, hm, hmr, splice, fillC, s4, g3]
        subst hJ
        refine wk_nil [] [1, 9, 11, 32, 33, 34] rfl ⟨all.length - (i + 1), by omega, i + 1, by omega, rfl, next (.inl hns), ?_⟩
        simp [phi, O.ren]
    · have : i = all.length := by omega
      subst this
      simp (implicitDefEqProofs := false) (disch := omega) [List.getElem?_cons_zero, hlt]
      subst hL
      exact ⟨hall, at_mk (by simp) rfl⟩
  · rintro _ ⟨hq, sl, rfl⟩
    rw [hyes hq]
    simp (implicitDefEqProofs := false) (disch := omega) [List.getElem?_cons_zero, b543_4, b543_5, wrap64]
    exact fin_nil ⟨rfl, rfl⟩
structure FArg where
  who : ByteArray
  l : List Edit
  W : List Edit
  all : List Member
noncomputable def x543 : XE := mkX true (fun (p : FArg) => [.c (.v (.string p.who)), .c (.sl (p.l.map Edit.row)), .c (.sl (p.W.map Edit.row)), .c (.sl (p.all.map Member.row))])
  (fun p => OkW p.all p.W ∧ (∃ e ∈ p.W, e.who = p.who) ∧ ofR p.all p.W p.who ≠ none ∧ p.l.length < 4611686018427387904 ∧ ∀ e ∈ p.l, e.deps.length < 4611686018427387904)
  (fun p => .int .i64 (if finalB ⟨p.all.map Member.name, p.l, vsOf p.W⟩ (parts p.who comma) = true then 1 else 0))
theorem kx543 : Contract Tryz.prog G0 43 x543 := mkX_scal (fun _ => rfl) fun p h => by
  obtain ⟨h1, h2, h3, h4, h5⟩ := h
  cases ho : ofR p.all p.W p.who with
  | none => exact absurd ho h3
  | some own => exact k543 p.who p.l p.W p.all h1 h2 own ho h4 h5
theorem xg543 (who : ByteArray) (l W : List Edit) (all : List Member) (h : OkW all W) (hw : ∃ e ∈ W, e.who = who) (ho : ofR all W who ≠ none) (hl : l.length < 4611686018427387904) (hld : ∀ e ∈ l, e.deps.length < 4611686018427387904) :
    x543.g [.c (.v (.string who)), .c (.sl (l.map Edit.row)), .c (.sl (W.map Edit.row)), .c (.sl (all.map Member.row))] = some (True, .int .i64 (if finalB ⟨all.map Member.name, l, vsOf W⟩ (parts who comma) = true then 1 else 0)) := mkX_g (fun a b h => by
  simp only [List.cons.injEq, PVo.c.injEq, D.sl.injEq, D.v.injEq, Value.string.injEq] at h
  obtain ⟨h1, h2, h3, h4, _⟩ := h
  cases a; cases b
  simp only at h1 h2 h3 h4
  rw [h1, rows_inj h2, rows_inj h3, mrows_inj h4]) (FArg.mk who l W all) ⟨h, hw, ho, hl, hld⟩
end Go.Aw.Try

namespace Go.Aw.Try
open Go Go.Proofs Go.Aw
set_option maxRecDepth 100000
set_option maxHeartbeats 4000000
/-! ### Cuts -/
noncomputable def parts' (e : Edit) : List ByteArray := parts e.who comma
theorem OkR.okW {l : List Edit} {all : List Member} (h : OkR l all) : OkW all (edV (gatC l all).vs) := by
  have hv := h.vs
  have hin : ∀ e ∈ edV (gatC l all).vs, ∃ v ∈ (gatC l all).vs, v.e = e := fun e he => List.mem_map.1 he
  refine ⟨h.nod, fun e he => ?_, ?_, ?_, h.2.1, fun e he => ?_, fun m hm q => ?_⟩
  · obtain ⟨v, hv1, rfl⟩ := hin e he
    have := (gatC_mem hv1).2
    rw [this, (hv.ok v hv1).who]
  · rw [vsOf_ed hv.ok]; exact hv.chain
  · unfold edV; rw [List.length_map]; exact Nat.le_trans (gatC_len l all) h.1
  · obtain ⟨v, hv1, rfl⟩ := hin e he
    have hk := h.okE (gatC_mem hv1).1
    have hc := chk_asc hk.1
    exact ⟨hk.2.2.1, hc.1, hk.2.1, fun a => hasN_nonneg hc.2 a⟩
  · obtain ⟨i, hi, rfl⟩ := List.mem_iff_getElem.1 hm
    have := (h.2.2.1 i hi).1
    rw [nth_eq hi, q] at this
    unfold authB at this
    simp only [Bool.and_eq_true, decide_eq_true_eq] at this
    exact absurd this.2.1 (Nat.lt_irrefl 0)
noncomputable def x539 : XE := mkX false (fun (p : List Edit × List Member) => [.c (.sl (p.1.map Edit.row)), .c (.sl (p.2.map Member.row))]) (fun p => p.1.length < 34359738368 ∧ p.2.length < 34359738368 ∧ ∀ e ∈ p.1, e.who.size < 4294967281) (fun p => .v (.c (.d (.sl ((edV (gatF (p.2.map Member.name) (sortE p.1)).vs).map Edit.row)))))
theorem kx539 : Contract Tryz.prog G0 39 x539 := mkX_data fun p h H => own_data (k539 p.1 p.2 h.1 h.2.1 h.2.2 H)
theorem xg539 (l : List Edit) (all : List Member) (h1 : l.length < 34359738368) (h2 : all.length < 34359738368) (h3 : ∀ e ∈ l, e.who.size < 4294967281) : x539.g [.c (.sl (l.map Edit.row)), .c (.sl (all.map Member.row))] = some (True, .v (.c (.d (.sl ((edV (gatC l all).vs).map Edit.row))))) := mkX_g (fun a b h => by
  simp only [List.cons.injEq, PVo.c.injEq, D.sl.injEq] at h
  exact Prod.ext (rows_inj h.1) (mrows_inj h.2.1)) (l, all) ⟨h1, h2, h3⟩
noncomputable def leastStep (name : ByteArray) (x : Int) (e : Edit) : Int := if hasS (parts' e) name && decide (hasN e.deps name < x) then hasN e.deps name else x
theorem least_take {W : List Edit} {name : ByteArray} {x : Int} {j : Nat} (h : j < W.length) : (W.take (j + 1)).foldl (leastStep name) x = leastStep name ((W.take j).foldl (leastStep name) x) (nth W j) := by
  rw [take_nth h, List.foldl_append]; rfl
theorem least_fold {name : ByteArray} : ∀ (W : List Edit) (x : Int), W.foldl (leastStep name) x ≤ x ∧ (∀ e ∈ W, name ∈ parts' e → W.foldl (leastStep name) x ≤ hasN e.deps name) ∧ (W.foldl (leastStep name) x = x ∨ ∃ e ∈ W, name ∈ parts' e ∧ hasN e.deps name = W.foldl (leastStep name) x)
  | [], x => ⟨Int.le_refl _, fun e he => (by cases he), .inl rfl⟩
  | v :: W, x => by
    rw [List.foldl_cons]
    obtain ⟨h1, h2, h3⟩ := least_fold (name := name) W (leastStep name x v)
    have hs : leastStep name x v ≤ x ∧ (name ∈ parts' v → leastStep name x v ≤ hasN v.deps name) ∧ (leastStep name x v = x ∨ (name ∈ parts' v ∧ hasN v.deps name = leastStep name x v)) := by
      unfold leastStep
      split
      · rename_i hc
        simp only [Bool.and_eq_true, decide_eq_true_eq] at hc
        exact ⟨by omega, fun _ => Int.le_refl _, .inr ⟨(hasS_iff _ _).1 hc.1, rfl⟩⟩
      · rename_i hc
        simp only [Bool.and_eq_true, decide_eq_true_eq, not_and] at hc
        refine ⟨Int.le_refl _, fun hn => ?_, .inl rfl⟩
        have := hc ((hasS_iff _ _).2 hn); omega
    obtain ⟨s1, s2, s3⟩ := hs
    refine ⟨by omega, fun e he hn => ?_, ?_⟩
    · rcases List.mem_cons.1 he with rfl | he
      · have := s2 hn; omega
      · exact h2 e he hn
    · rcases h3 with h3 | ⟨e, he, hn, h3⟩
      · rcases s3 with s3 | ⟨hn, s3⟩
        · exact .inl (by omega)
        · exact .inr ⟨v, List.mem_cons_self .., hn, by omega⟩
      · exact .inr ⟨e, List.mem_cons_of_mem _ he, hn, h3⟩
theorem sure_hit {s : ByteArray} : ∀ (vs : List Vote) (x : Int), vs.foldl (sureStep s) x = x ∨ ∃ v ∈ vs, s ∈ v.set ∧ hasN v.e.deps s = vs.foldl (sureStep s) x
  | [], x => .inl rfl
  | v :: vs, x => by
    rw [List.foldl_cons]
    rcases sure_hit (s := s) vs (sureStep s x v) with h | ⟨u, hu, h1, h2⟩
    · rw [h]
      unfold sureStep
      split
      · rename_i hc
        simp only [Bool.and_eq_true] at hc
        exact .inr ⟨v, List.mem_cons_self .., (hasS_iff _ _).1 hc.1, rfl⟩
      · exact .inl rfl
    · exact .inr ⟨u, List.mem_cons_of_mem _ hu, h1, h2⟩
theorem OkW.least {all : List Member} {W : List Edit} (h : OkW all W) {name : ByteArray} {e : Edit} (he : e ∈ W) (hn : name ∈ parts' e) : W.foldl (leastStep name) (hasN e.deps name) = sureN (vsOf W) name := by
  have hp : ∀ v ∈ vsOf W, 0 ≤ hasN v.e.deps name := fun v hv => (h.sm v.e (mem_vsOf.1 hv).1).2.2.2 name
  have hm : ∀ e ∈ W, (⟨e, parts' e⟩ : Vote) ∈ vsOf W := fun e he => mem_vsOf.2 ⟨he, rfl⟩
  obtain ⟨h1, h2, h3⟩ := least_fold (name := name) W (hasN e.deps name)
  have hle : ∀ f ∈ W, name ∈ parts' f → sureN (vsOf W) name ≤ hasN f.deps name := fun f hf q => sureN_le hp (hm f hf) q
  obtain ⟨f, hf, hfn, hfe⟩ : ∃ f ∈ W, name ∈ parts' f ∧ hasN f.deps name = W.foldl (leastStep name) (hasN e.deps name) := by
    rcases h3 with h3 | h3
    · exact ⟨e, he, hn, h3.symm⟩
    · exact h3
  obtain ⟨s1, s2⟩ := (sure_fold (x := -1) hp).2 _ (hm e he) hn
  have hs : sureN (vsOf W) name = (vsOf W).foldl (sureStep name) (-1) := by
    unfold sureN sureL; rw [if_neg (by omega)]
  rcases sure_hit (s := name) (vsOf W) (-1) with q | ⟨v, hv, q1, q2⟩
  · omega
  · obtain ⟨r1, r2⟩ := mem_vsOf.1 hv
    have a1 := h2 v.e r1 (by unfold parts'; rw [← r2]; exact q1)
    have a2 := hle f hf hfn
    omega
theorem k515o (l : List Edit) (all : List Member) (h : OkR l all) (H : List O) :
    ACalls Tryz.prog G0 15 [.c (.d (.sl (l.map Edit.row))), .c (.d (.sl (all.map Member.row)))] H (Own H 3 ((cutsE l all).map Cutoff.row)) := by
  have s1 : x539.sc = false := rfl
  have s2 : x540.sc = false := rfl
  have s3 : x541.sc = false := rfl
  have s4 : x542.sc = false := rfl
  have s5 : x543.sc = true := rfl
  have s7 : x545.sc = true := rfl
  have s8 : x546.sc = true := rfl
  have hC := h.okC
  have g1 := xg539 l all (by have := h.1; omega) (by have := h.2.1; omega) hC.who
  have hvv := vsOf_ed h.vs.ok
  have hO := h.okW
  have hE : cutsE l all = cutsC (gatC l all) (outL (gatC l all).mem (gatC l all).vs) := rfl
  obtain ⟨W, hW⟩ : ∃ W, W = edV (gatC l all).vs := ⟨_, rfl⟩
  rw [← hW] at g1 hvv hO
  have hcE : gatC l all = ⟨all.map Member.name, l, vsOf W⟩ := by rw [hvv]; rfl
  rw [hcE] at hE
  have hsets := hO.outs_eq
  have g2 := xg540 W all hO
  have hWl := hO.len
  have hal := hO.mlen
  obtain ⟨outs, hou⟩ : ∃ outs, outs = outsR all W all.length := ⟨_, rfl⟩
  have hI := hO.outs_all all.length
  have hol : outs.length ≤ 320 := by
    rw [hou]
    have h1 := outsR_len all W all.length
    have h2 : all.length * W.length ≤ 8 * 40 := Nat.mul_le_mul hal hWl
    omega
  rw [← hou] at g2 hsets hI
  obtain ⟨sets, hse⟩ : ∃ s, s = outL (all.map Member.name) (vsOf W) := ⟨_, rfl⟩
  rw [← hse] at hsets
  have hE2 : cutsE l all = cutsC ⟨all.map Member.name, l, vsOf W⟩ sets := by rw [hE, hse]
  have hsl : sets.length = outs.length := by rw [← hsets, List.length_map]
  obtain ⟨X0, hX0⟩ : ∃ X0, X0 = x544 outs.length := ⟨_, rfl⟩
  have hkX : Contract Tryz.prog G0 44 X0 := by rw [hX0]; exact kx544 _
  have s6 : X0.sc = true := by rw [hX0]; rfl
  rw [hE2]
  refine acallsX (X := [(39, x539), (40, x540), (41, x541), (42, x542), (43, x543), (44, X0), (45, x545), (46, x546)]) ⟨kx539, kx540, kx541, kx542, kx543, hkX, kx545, kx546, trivial⟩ tab hmix Tryz.func15 c515 (by rfl) fun hw => ?_
  by_cases h0 : outs.length = 0
  · have hce : cutsC ⟨all.map Member.name, l, vsOf W⟩ sets = [] := by unfold cutsC; rw [if_pos (by omega)]
    rw [hce]
    simp (implicitDefEqProofs := false) (disch := omega) [List.getElem?_cons_zero, ir515, b515, b515_0, b515_1, b515_2, b515_3, s1, s2, g1, g2, h0, wrap64, toPVs, frzVs, osVs, toPV]
    have := fin_own_nil (P := Tryz.prog) (sz := 3) (L := []) hw (by omega)
    rw [List.append_nil] at this
    exact this
  · obtain ⟨n, hn⟩ : ∃ n, outs.length = n + 1 := ⟨outs.length - 1, by omega⟩
    have hn1 : n < outs.length := by omega
    obtain ⟨who, hwho⟩ : ∃ w, nth outs n = w := ⟨_, rfl⟩
    have hwm : who ∈ outs := by rw [← hwho]; exact nth_mem hn1
    obtain ⟨hw1, hw2, _⟩ := hI.mem who hwm
    obtain ⟨own, hown⟩ : ∃ own, ofR all W who = some own := by
      cases ho : ofR all W who with
      | none => exact absurd ho hw2
      | some own => exact ⟨own, rfl⟩
    have hos := hO.of_some hown
    obtain ⟨pl, _⟩ := hO.pln hw1
    have g3 := xg541 who W all hO hw1
    rw [hown, show ofT (some own) = .tup [.c (.d (.sl (own.map Edit.row))), .c (.d (.v (.bool true)))] from rfl] at g3
    have g4 := ref_T hO hw1
    rw [wE_row] at g4
    have g5 := xg543 who l W all hO hw1 hw2 (by have := h.1; omega) (fun e he => (hC.good e he).2)
    have g6 := fun name => xg544 outs.length W all name hO n (by rw [← hou]; exact hn1) hn1
    rw [← hou, ← hX0, ← hse, hwho] at g6
    -- the first of the votes
    have hownp : 0 < own.length := by
      obtain ⟨e, he, he2⟩ := hw1
      have hv := vok_of (hO.nm e he)
      have hh := hv.half
      obtain ⟨s, hs, hns⟩ := nodup_out hO.nod (A := parts e.who comma) (by simp only at hh; omega)
      rw [he2] at hns
      obtain ⟨v, hv1, hv2, hv3⟩ := decB_iff.1 hos.2.1 s hs hns
      obtain ⟨r1, r2⟩ := mem_vsOf.1 hv1
      exact List.length_pos_of_mem ((hos.1 v.e).2 ⟨r1, parts_inj (r2.symm.trans hv2)⟩)
    obtain ⟨e0, he0⟩ : ∃ e, nth own 0 = e := ⟨_, rfl⟩
    have he0o : e0 ∈ own := by rw [← he0]; exact nth_mem hownp
    obtain ⟨he0W, he0w⟩ := (hos.1 e0).1 he0o
    have he0r : e0.row = [.v (.string e0.id.a), .v (.int .i64 e0.id.n), .v (.int .i64 e0.clock), .v (.int .i64 e0.floor), .sl (e0.deps.map Id.row), .v (.int .i64 e0.kind), .v (.string e0.node.a), .v (.int .i64 e0.node.n), .v (.string e0.parent.a), .v (.int .i64 e0.parent.n), .v (.bool e0.neg), .v (.string e0.num), .v (.string e0.den), .v (.string e0.field), .v (.string e0.value), .v (.string e0.target.a), .v (.int .i64 e0.target.n), .v (.string e0.who)] := rfl
    have hst : nth sets n = parts who comma := by rw [← hsets, nth_map _ hn1, hwho]
    have hpe0 : parts' e0 = parts who comma := by unfold parts'; rw [he0w]
    obtain ⟨S, hS⟩ : ∃ S, S = parts who comma := ⟨_, rfl⟩
    rw [← hS] at g4 g5 pl hst hpe0
    obtain ⟨fin, hfin⟩ : ∃ b, b = finalB ⟨all.map Member.name, l, vsOf W⟩ S := ⟨_, rfl⟩
    rw [← hfin] at g5
    have hce : cutsC ⟨all.map Member.name, l, vsOf W⟩ sets = S.flatMap (cutOf ⟨all.map Member.name, l, vsOf W⟩ sets fin) := by
      unfold cutsC; rw [if_neg (by omega), show sets.length - 1 = n from by omega, hst, hfin]
    rw [hce]
    have hsr : ∀ s, srow s = [D.v (.string s)] := fun _ => rfl
    have hown8 := hos.2.2
    simp (implicitDefEqProofs := false) (disch := omega) [List.getElem?_cons_zero, ir515, b515, b515_0, b515_1, b515_2, b515_3, b515_4, b515_5, b515_6, b515_7, b515_8, b515_9, s1, s2, s3, s4, s5, g1, g2, g3, g4, g5, hn, hn1, hwho, hsr, nth_map, splice, fillC, wrap64, toPVs, frzVs, osVs, toPV]
    refine ⟨fun h => absurd h (by omega), fun _ => ⟨by omega, ?_⟩⟩
    obtain ⟨ct, hct⟩ : ∃ f, f = cutOf ⟨all.map Member.name, l, vsOf W⟩ sets fin := ⟨_, rfl⟩
    rw [← hct]
    have hDl : ∀ x : List ByteArray, (x.flatMap ct).length ≤ 2 * x.length := fun x => by
      induction x with
      | nil => simp
      | cons a x ih =>
        have : (ct a).length ≤ 2 := by rw [hct]; unfold cutOf; cases fin <;> simp
        simp only [List.flatMap_cons, List.length_append, List.length_cons]; omega
    refine loopE (fun k st => ∃ i, i ≤ S.length ∧ k = S.length - i ∧
        st = ⟨ofL [(1, T.v (.c (.d (.sl (all.map Member.row))))), (5, .v (.c (.d (.sl (W.map Edit.row))))), (6, .v (.c (.d (.sl (outs.map srow))))), (7, .v (.c (.d (.v (.string who))))), (8, .v (.c (.d (.sl (own.map Edit.row))))), (12, .int .i64 (if fin = true then 1 else 0)), (56, .v (.c (.d (.sl (S.map srow))))), (57, .int .i64 S.length), (58, .int .i64 i), (13, .v (.c (.os H.length 3 0 ((S.take i).flatMap ct).length)))], H ++ [.row 3 (((S.take i).flatMap ct).map Cutoff.row)]⟩)
      (fun st => AtS [(13, .v (.c (.os H.length 3 0 (S.flatMap ct).length)))] (H ++ [.row 3 ((S.flatMap ct).map Cutoff.row)]) st) ?_ ?_ ?_
    · refine wk_pre [0] [1, 5, 6, 7, 8, 12, 56, 57, 58, 13] hw rfl ⟨_, 0, by omega, rfl, ?_⟩
      simp [phiP, phi, O.ren]
      try (cases fin <;> simp)
    · rintro J L hJ hL k st ⟨i, hi, rfl, rfl⟩
      by_cases hlt : i < S.length
      · obtain ⟨s, hs⟩ : ∃ s, nth S i = s := ⟨_, rfl⟩
        have hsS : s ∈ S := by rw [← hs]; exact nth_mem hlt
        have g7 := g6 s
        have hD : (S.take (i + 1)).flatMap ct = (S.take i).flatMap ct ++ ct s := by
          rw [take_nth hlt, List.flatMap_append, hs]; simp
        obtain ⟨D0, hD0⟩ : ∃ D0, D0 = (S.take i).flatMap ct := ⟨_, rfl⟩
        have hD0l : D0.length ≤ 2 * i := by rw [hD0]; have := hDl (S.take i); simp at this; simp; omega
        rw [← hD0] at hD ⊢
        have hcs : ct s = ⟨s, uptoE (vsOf W) sets s n, 22⟩ :: if fin = true then [] else [⟨s, sureN (vsOf W) s, 19⟩] := by
          rw [hct]; unfold cutOf; rw [show sets.length - 1 = n from by omega]
        obtain ⟨a1, ha1⟩ : ∃ a, a = uptoE (vsOf W) sets s n := ⟨_, rfl⟩
        rw [← ha1] at g7 hcs
        rw [hcs] at hD
        have tS : (D0.map Cutoff.row).take D0.length = D0.map Cutoff.row := List.take_of_length_le (by simp)
        cases fin
        · have hle := hO.least he0W (by rw [hpe0]; exact hsS)
          rw [← hle] at hD
          have g8 := xg545 e0.deps s (by have := (hO.sm e0 he0W).2.2.1; omega)
          obtain ⟨y0, hy0⟩ : ∃ y, y = hasN e0.deps s := ⟨_, rfl⟩
          rw [← hy0] at g8 hD
          simp (implicitDefEqProofs := false) (disch := omega) [List.getElem?_cons_zero, hlt, wrap64, nth_map, hs, hsr, splice, fillC, s6, s7, g7, g8, hownp, he0, he0r, tS, toPVs, frzVs, osVs, toPV, toDs, toD, Nat.add_assoc]
          repeat' (with_reducible apply And.intro)
          all_goals first | omega | kernel_rfl | exact fun _ _ => rfl | skip
          obtain ⟨D1, hD1⟩ : ∃ D1, D1 = D0 ++ [(⟨s, a1, 22⟩ : Cutoff)] := ⟨_, rfl⟩
          have hD1l : D1.length = D0.length + 1 := by rw [hD1]; simp
          have tS1 : (D1.map Cutoff.row).take D1.length = D1.map Cutoff.row := List.take_of_length_le (by simp)
          refine loopE (fun k st => ∃ j, j ≤ W.length ∧ k = W.length - j ∧
              st = ⟨ofL [(1, T.v (.c (.d (.sl (all.map Member.row))))), (5, .v (.c (.d (.sl (W.map Edit.row))))), (6, .v (.c (.d (.sl (outs.map srow))))), (7, .v (.c (.d (.v (.string who))))), (8, .v (.c (.d (.sl (own.map Edit.row))))), (12, .int .i64 0), (56, .v (.c (.d (.sl (S.map srow))))), (57, .int .i64 S.length), (58, .int .i64 i), (15, .v (.c (.d (.v (.string s))))), (16, .int .i64 ((W.take j).foldl (leastStep s) y0)), (81, .v (.c (.d (.sl (W.map Edit.row))))), (82, .int .i64 W.length), (83, .int .i64 j), (13, .v (.c (.os H.length 3 0 D1.length)))], H ++ [.row 3 (D1.map Cutoff.row)]⟩)
            (fun st => AtS [(1, T.v (.c (.d (.sl (all.map Member.row))))), (5, .v (.c (.d (.sl (W.map Edit.row))))), (6, .v (.c (.d (.sl (outs.map srow))))), (7, .v (.c (.d (.v (.string who))))), (8, .v (.c (.d (.sl (own.map Edit.row))))), (12, .int .i64 0), (56, .v (.c (.d (.sl (S.map srow))))), (57, .int .i64 S.length), (58, .int .i64 i), (15, .v (.c (.d (.v (.string s))))), (16, .int .i64 (W.foldl (leastStep s) y0)), (13, .v (.c (.os H.length 3 0 D1.length)))] (H ++ [.row 3 (D1.map Cutoff.row)]) st) ?_ ?_ ?_
          · refine wk_pre [2] [1, 5, 6, 7, 8, 12, 56, 57, 58, 15, 16, 81, 82, 83, 13] hw rfl ⟨_, 0, by omega, rfl, ?_⟩
            simp [phiP, phi, O.ren, hD1, Cutoff.row, show ¬ (H.length + 2 < H.length) from by omega]
          · rintro J2 L2 hJ2 hL2 k2 st ⟨j, hj, rfl, rfl⟩
            by_cases hjl : j < W.length
            · obtain ⟨e, he⟩ : ∃ e, nth W j = e := ⟨_, rfl⟩
              have hem : e ∈ W := by rw [← he]; exact nth_mem hjl
              have hee : e.row = [.v (.string e.id.a), .v (.int .i64 e.id.n), .v (.int .i64 e.clock), .v (.int .i64 e.floor), .sl (e.deps.map Id.row), .v (.int .i64 e.kind), .v (.string e.node.a), .v (.int .i64 e.node.n), .v (.string e.parent.a), .v (.int .i64 e.parent.n), .v (.bool e.neg), .v (.string e.num), .v (.string e.den), .v (.string e.field), .v (.string e.value), .v (.string e.target.a), .v (.int .i64 e.target.n), .v (.string e.who)] := rfl
              have hst2 := least_take (name := s) (x := y0) hjl
              rw [he] at hst2
              obtain ⟨x, hx⟩ : ∃ x, x = (W.take j).foldl (leastStep s) y0 := ⟨_, rfl⟩
              rw [← hx] at hst2 ⊢
              replace hst2 : (W.take (j + 1)).foldl (leastStep s) y0 = if (hasS (parts e.who comma) s && decide (hasN e.deps s < x)) = true then hasN e.deps s else x := hst2
              have k1 := ref_Te hO hem
              rw [hee] at k1
              obtain ⟨ple, _⟩ := hO.pln ⟨e, hem, rfl⟩
              have k2 := xg546 (parts e.who comma) s (by omega)
              have k3 := xg545 e.deps s (by have := (hO.sm e hem).2.2.1; omega)
              obtain ⟨P, hP⟩ : ∃ P, P = parts e.who comma := ⟨_, rfl⟩
              rw [← hP] at k1 k2 hst2
              obtain ⟨u, hu⟩ : ∃ u, u = hasS P s := ⟨_, rfl⟩
              obtain ⟨y, hy⟩ : ∃ y, y = hasN e.deps s := ⟨_, rfl⟩
              rw [← hu] at k2 hst2
              rw [← hy] at k3 hst2
              have keep : ∀ (sl : Nat → T) (o : O) (z : Int), (W.take (j + 1)).foldl (leastStep s) y0 = z → (∀ p ∈ [(1, T.v (.c (.d (.sl (all.map Member.row))))), (5, .v (.c (.d (.sl (W.map Edit.row))))), (6, .v (.c (.d (.sl (outs.map srow))))), (7, .v (.c (.d (.v (.string who))))), (8, .v (.c (.d (.sl (own.map Edit.row))))), (12, .int .i64 0), (56, .v (.c (.d (.sl (S.map srow))))), (57, .int .i64 S.length), (58, .int .i64 i), (15, .v (.c (.d (.v (.string s))))), (16, .int .i64 z), (81, .v (.c (.d (.sl (W.map Edit.row))))), (82, .int .i64 W.length), (83, .int .i64 (j + 1 : Nat)), (13, .v (.c (.os H.length 3 0 D1.length)))], sl p.1 = p.2) → wk Tryz.prog G0 H.length ⟨sl, H ++ [.row 3 (D1.map Cutoff.row), o]⟩ (fun s'' => ∃ k', k' < W.length - j ∧ J2 k' s'') := fun sl o z hnn hsl => by
                subst hJ2
                refine wk_pre [0] [1, 5, 6, 7, 8, 12, 56, 57, 58, 15, 16, 81, 82, 83, 13] hw rfl ⟨W.length - (j + 1), by omega, j + 1, by omega, rfl, ?_⟩
                rw [hnn]
                simp at hsl
                simp [hsl, phiP, phi, O.ren]
              cases u
              · simp (implicitDefEqProofs := false) (disch := omega) [List.getElem?_cons_zero, hjl, wrap64, nth_map, he, hee, splice, fillC, s4, s7, s8, k1, k2, k3, toPVs, frzVs, osVs, toPV, Nat.add_assoc]
                exact keep _ _ x (by rw [hst2]; simp) (by simp)
              · by_cases c : y < x
                · simp (implicitDefEqProofs := false) (disch := omega) [List.getElem?_cons_zero, hjl, wrap64, nth_map, he, hee, splice, fillC, s4, s7, s8, k1, k2, k3, c, toPVs, frzVs, osVs, toPV, Nat.add_assoc]
                  exact keep _ _ y (by rw [hst2]; simp [c]) (by simp)
                · simp (implicitDefEqProofs := false) (disch := omega) [List.getElem?_cons_zero, hjl, wrap64, nth_map, he, hee, splice, fillC, s4, s7, s8, k1, k2, k3, c, toPVs, frzVs, osVs, toPV, Nat.add_assoc]
                  exact keep _ _ x (by rw [hst2]; simp [c]) (by simp)
            · have : j = W.length := by omega
              subst this
              rw [List.take_length]
              simp (implicitDefEqProofs := false) (disch := omega) [List.getElem?_cons_zero, hjl]
              subst hL2
              exact at_mk (by simp) (by simp)
          · rintro _ ⟨sl, rfl⟩
            obtain ⟨a2, ha2⟩ : ∃ a, a = W.foldl (leastStep s) y0 := ⟨_, rfl⟩
            rw [← ha2] at hD ⊢
            simp (implicitDefEqProofs := false) (disch := omega) [List.getElem?_cons_zero, wrap64, splice, fillC, tS1, toDs, toD, Nat.add_assoc]
            repeat' (with_reducible apply And.intro)
            all_goals first | omega | kernel_rfl | exact fun _ _ => rfl | skip
            subst hJ
            refine wk_pre [2] [1, 5, 6, 7, 8, 12, 56, 57, 58, 13] hw rfl ⟨S.length - (i + 1), by omega, i + 1, by omega, rfl, ?_⟩
            rw [hD, hD1]
            simp [phiP, phi, O.ren, Cutoff.row, show ¬ (H.length + 2 < H.length) from by omega]
        · simp (implicitDefEqProofs := false) (disch := omega) [List.getElem?_cons_zero, hlt, wrap64, nth_map, hs, hsr, splice, fillC, s6, s7, g7, tS, toPVs, frzVs, osVs, toPV, toDs, toD, Nat.add_assoc]
          repeat' (with_reducible apply And.intro)
          all_goals first | omega | kernel_rfl | exact fun _ _ => rfl | skip
          subst hJ
          refine wk_pre [2] [1, 5, 6, 7, 8, 12, 56, 57, 58, 13] hw rfl ⟨S.length - (i + 1), by omega, i + 1, by omega, rfl, ?_⟩
          rw [hD]
          simp [phiP, phi, O.ren, Cutoff.row, show ¬ (H.length + 2 < H.length) from by omega]
      · have : i = S.length := by omega
        subst this
        rw [List.take_length]
        simp (implicitDefEqProofs := false) (disch := omega) [List.getElem?_cons_zero, hlt]
        subst hL
        exact at_mk (by simp) (by simp)
    · rintro _ ⟨sl, rfl⟩
      simp (implicitDefEqProofs := false) (disch := omega) [List.getElem?_cons_zero, b515_10, b515_11, wrap64]
      exact fin_own (k := 0) hw rfl (by simp)
noncomputable def x515 : XE := mkX false (fun (p : List Edit × List Member) => [.c (.sl (p.1.map Edit.row)), .c (.sl (p.2.map Member.row))]) (fun p => OkR p.1 p.2) (fun p => .v (.c (.d (.sl ((cutsE p.1 p.2).map Cutoff.row)))))
theorem kx515 : Contract Tryz.prog G0 15 x515 := mkX_data fun p h H => own_data (k515o p.1 p.2 h H)
theorem xg515 (l : List Edit) (all : List Member) (h : OkR l all) : x515.g [.c (.sl (l.map Edit.row)), .c (.sl (all.map Member.row))] = some (True, .v (.c (.d (.sl ((cutsE l all).map Cutoff.row))))) := mkX_g (fun a b h => by
  simp only [List.cons.injEq, PVo.c.injEq, D.sl.injEq] at h
  exact Prod.ext (rows_inj h.1) (mrows_inj h.2.1)) (l, all) h
end Go.Aw.Try

namespace Go.Aw.Try
open Go Go.Proofs Go.Aw
set_option maxRecDepth 100000
set_option maxHeartbeats 4000000
/-! ### EvictCutoffs -/
theorem OkR.cuts_len {l : List Edit} {all : List Member} (h : OkR l all) : (cutsE l all).length ≤ 1000 := by
  have hv := h.vs
  have h8 : (all.map Member.name).length ≤ 8 := by rw [List.length_map]; exact h.2.1
  unfold cutsE cutsC
  split
  · exact Nat.zero_le _
  · rename_i hq
    obtain ⟨S, hS⟩ : ∃ S, S = nth (outL (gatC l all).mem (gatC l all).vs) ((outL (gatC l all).mem (gatC l all).vs).length - 1) := ⟨_, rfl⟩
    have hm : S ∈ outL (gatC l all).mem (gatC l all).vs := by rw [hS]; exact nth_mem (by omega)
    obtain ⟨⟨v, hv1, hv2⟩, _⟩ := (mem_out hv h8).1 hm
    have hh := (hv.ok v hv1).half
    rw [← hS]
    have : ∀ x : List ByteArray, (x.flatMap (cutOf (gatC l all) (outL (gatC l all).mem (gatC l all).vs) (finalB (gatC l all) S))).length ≤ 2 * x.length := fun x => by
      induction x with
      | nil => simp
      | cons a x ih =>
        have : (cutOf (gatC l all) (outL (gatC l all).mem (gatC l all).vs) (finalB (gatC l all) S) a).length ≤ 2 := by unfold cutOf; split <;> simp
        simp only [List.flatMap_cons, List.length_append, List.length_cons]; omega
    have := this S
    rw [hv2] at hh; omega
theorem cutoffs_walk (m : Int) (l : List Edit) (all : List Member) (hz : Sz l all) :
    ACalls Tryz.prog (GM m) 3 [.c (.d (.sl (l.map Edit.row))), .c (.d (.sl (all.map Member.row)))] [] fun t H => t = .bool true ∧ H = [] := by
  have s1 : x511.sc = true := rfl
  have s2 : x512.sc = true := rfl
  have s3 : (x514 m).sc = false := rfl
  have s4 : x515.sc = false := rfl
  have s5 : x513.sc = true := rfl
  have g0 : x511.g [] = some (True, .bool true) := rfl
  have g1 := xg512 l all hz.sl hz.sa hz.sn hz.se
  refine acallsX (X := [(11, x511), (12, x512), (14, x514 m), (15, x515), (13, x513)]) ⟨kx511 m, kx512.gm, kx514 m, kx515.gm, kx513.gm, trivial⟩ tab hmix Tryz.func3 c503 (by rfl) fun hw => ?_
  by_cases hok : OkR l all
  · rw [right_yes hok] at g1
    have g2 := xg514 m l all hok.okC
    have g3 := xg515 l all hok
    have g4 := xg513 (cutsE l all) (cutsE l all) (by have := hok.cuts_len; omega)
    rw [decide_eq_true rfl] at g4
    simp (implicitDefEqProofs := false) (disch := omega) [List.getElem?_cons_zero, ir503, b503, s1, s2, s3, s4, s5, g0, g1, g2, g3, g4, wrap64, toPVs, frzVs, osVs, toPV]
    exact fin_nil ⟨rfl, rfl⟩
  · rw [right_no hok] at g1
    simp (implicitDefEqProofs := false) (disch := omega) [List.getElem?_cons_zero, ir503, b503, s1, s2, g0, g1, wrap64]
    exact fin_nil ⟨rfl, rfl⟩
end Go.Aw.Try
