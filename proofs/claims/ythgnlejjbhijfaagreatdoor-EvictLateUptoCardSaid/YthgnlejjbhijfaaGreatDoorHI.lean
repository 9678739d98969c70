/- An abstract machine over the model, and contracts of functions of this program on it (part 9): words and lemmas for the proof in the last text. -/
import Derived.Test.YthgnlejjbhijfaaGreatDoorHH
set_option linter.unusedSimpArgs false
set_option linter.unusedVariables false
set_option linter.unusedSectionVars false

namespace Go.Aw.Try
open Go Go.Proofs Go.Aw
set_option maxRecDepth 100000
set_option maxHeartbeats 4000000
def b507_0 : AC := (.region 0 [
    ⟨(some 4), (.mov (.const (.bool false))), none⟩])
def b507_1 : AC := (.seq (.region 0 [
    ⟨(some 8), (.call 11 []), none⟩,
    ⟨(some 9), (.not (.tmp 8)), none⟩])
  (.cond (.tmp 9) (.seq (.region 0 [
    ⟨(some 4), (.mov (.const (.bool false))), none⟩])
  .ret) .skip))
def b507_2 : AC := (.seq (.region 0 [
    ⟨(some 10), (.mov (.tmp 0)), none⟩,
    ⟨(some 11), (.mov (.tmp 1)), none⟩,
    ⟨(some 12), (.call 12 [(.tmp 10), (.tmp 11)]), none⟩,
    ⟨(some 13), (.binI .eql .i64 (.tmp 12) (.const (.int .i64 0))), none⟩])
  (.cond (.tmp 13) (.seq (.region 0 [
    ⟨(some 4), (.mov (.const (.bool true))), none⟩])
  .ret) .skip))
def b507_3 : AC := (.region 2 [
    ⟨(some 14), (.bsl 0 18 [(.v (.string ⟨#[]⟩)), (.v (.int .i64 0)), (.v (.int .i64 0)), (.v (.int .i64 0)), (.v (.slice none 0 0)), (.v (.int .i64 0)), (.v (.string ⟨#[]⟩)), (.v (.int .i64 0)), (.v (.string ⟨#[]⟩)), (.v (.int .i64 0)), (.v (.bool false)), (.v (.string ⟨#[]⟩)), (.v (.string ⟨#[]⟩)), (.v (.string ⟨#[]⟩)), (.v (.string ⟨#[]⟩)), (.v (.string ⟨#[]⟩)), (.v (.int .i64 0)), (.v (.string ⟨#[]⟩))] 0 []), none⟩,
    ⟨(some 15), (.mov (.tmp 0)), none⟩,
    ⟨(some 16), (.app 1 18 232 (.tmp 14) (.tmp 15)), none⟩,
    ⟨(some 5), (.mov (.tmp 16)), none⟩])
def b507_4 : AC := (.region 0 [
    ⟨(some 17), (.mov (.tmp 5)), none⟩,
    ⟨(some 18), (.call 18 [(.tmp 17)]), none⟩])
def b507_5 : AC := (.region 2 [
    ⟨(some 19), (.bsl 0 2 [(.v (.string ⟨#[]⟩)), (.v (.string ⟨#[]⟩))] 0 []), none⟩,
    ⟨(some 20), (.mov (.tmp 1)), none⟩,
    ⟨(some 21), (.app 1 2 32 (.tmp 19) (.tmp 20)), none⟩,
    ⟨(some 6), (.mov (.tmp 21)), none⟩])
def b507_6 : AC := (.region 0 [
    ⟨(some 22), (.mov (.tmp 6)), none⟩,
    ⟨(some 23), (.call 19 [(.tmp 22)]), none⟩])
def b507_7 : AC := (.region 0 [
    ⟨(some 24), (.mov (.tmp 0)), none⟩,
    ⟨(some 25), (.mov (.tmp 1)), none⟩,
    ⟨(some 26), (.call 14 [(.tmp 24), (.tmp 25)]), none⟩,
    ⟨(some 7), (.mov (.tmp 26)), none⟩])
def b507_8 : AC := (.region 3 [
    ⟨(some 27), (.mov (.tmp 5)), none⟩,
    ⟨(some 28), (.mov (.tmp 1)), none⟩,
    ⟨(some 29), (.call 14 [(.tmp 27), (.tmp 28)]), none⟩,
    ⟨(some 30), (.mov (.tmp 7)), none⟩,
    ⟨(some 31), (.call 13 [(.tmp 29), (.tmp 30)]), none⟩,
    ⟨(some 32), (.mov (.tmp 31)), none⟩,
    ⟨(some 33), (.bsl 0 18 [(.v (.string ⟨#[]⟩)), (.v (.int .i64 0)), (.v (.int .i64 0)), (.v (.int .i64 0)), (.v (.slice none 0 0)), (.v (.int .i64 0)), (.v (.string ⟨#[]⟩)), (.v (.int .i64 0)), (.v (.string ⟨#[]⟩)), (.v (.int .i64 0)), (.v (.bool false)), (.v (.string ⟨#[]⟩)), (.v (.string ⟨#[]⟩)), (.v (.string ⟨#[]⟩)), (.v (.string ⟨#[]⟩)), (.v (.string ⟨#[]⟩)), (.v (.int .i64 0)), (.v (.string ⟨#[]⟩))] 0 []), (some (32, true))⟩,
    ⟨(some 34), (.mov (.tmp 0)), (some (32, true))⟩,
    ⟨(some 35), (.app 1 18 232 (.tmp 33) (.tmp 34)), (some (32, true))⟩,
    ⟨(some 36), (.mov (.tmp 5)), (some (32, true))⟩,
    ⟨(some 37), (.app 2 18 232 (.tmp 35) (.tmp 36)), (some (32, true))⟩,
    ⟨(some 38), (.mov (.tmp 1)), (some (32, true))⟩,
    ⟨(some 39), (.call 14 [(.tmp 37), (.tmp 38)]), (some (32, true))⟩,
    ⟨(some 40), (.mov (.tmp 7)), (some (32, true))⟩,
    ⟨(some 41), (.call 13 [(.tmp 39), (.tmp 40)]), (some (32, true))⟩,
    ⟨(some 42), (.pick (.tmp 32) (.tmp 41) (.const (.bool false))), none⟩,
    ⟨(some 43), (.mov (.tmp 42)), none⟩,
    ⟨(some 44), (.mov (.tmp 0)), (some (43, true))⟩,
    ⟨(some 45), (.mov (.tmp 6)), (some (43, true))⟩,
    ⟨(some 46), (.call 14 [(.tmp 44), (.tmp 45)]), (some (43, true))⟩,
    ⟨(some 47), (.mov (.tmp 7)), (some (43, true))⟩,
    ⟨(some 48), (.call 13 [(.tmp 46), (.tmp 47)]), (some (43, true))⟩,
    ⟨(some 49), (.pick (.tmp 43) (.tmp 48) (.const (.bool false))), none⟩,
    ⟨(some 4), (.mov (.tmp 49)), none⟩])
def b507_9 : AC := .ret
def b507 : AC := (.seq b507_0 (.seq b507_1 (.seq b507_2 (.seq b507_3 (.seq b507_4 (.seq b507_5 (.seq b507_6 (.seq b507_7 (.seq b507_8 b507_9)))))))))
def ir507 : AF := ⟨50, [(.tmp 4)], b507⟩
theorem c507 : compF tt Tryz.f7 = some ir507 := by kernel_rfl
def b518 : AC := (.seq (.region 0 [
    ⟨(some 4), (.mov (.tmp 0)), none⟩,
    ⟨(some 5), (.lenL (.tmp 4)), none⟩,
    ⟨(some 6), (.binI .sub .i64 (.tmp 5) (.const (.int .i64 1))), none⟩,
    ⟨(some 2), (.mov (.const (.int .i64 0))), none⟩,
    ⟨(some 3), (.mov (.tmp 6)), none⟩])
  (.block 0 (.loop (.seq (.seq (.region 0 [
    ⟨(some 7), (.mov (.tmp 2)), none⟩,
    ⟨(some 8), (.mov (.tmp 3)), none⟩,
    ⟨(some 9), (.binI .lss .i64 (.tmp 7) (.tmp 8)), none⟩])
  (.cond (.tmp 9) .skip (.exit 0)))
  (.seq (.block 1 (.dregion 0 [
    ⟨(some 14), (.mov (.tmp 0)), none⟩,
    ⟨(some 15), (.mov (.tmp 2)), none⟩,
    ⟨(some 16), (.mov (.tmp 0)), none⟩,
    ⟨(some 17), (.mov (.tmp 3)), none⟩,
    ⟨(some 18), (.mov (.tmp 0)), none⟩,
    ⟨(some 19), (.mov (.tmp 3)), none⟩,
    ⟨(some 20), (.iaddr 18 (.tmp 18) (.tmp 19)), none⟩,
    ⟨(some 21), (.load true 18 (.tmp 20)), none⟩,
    ⟨(some 22), (.mov (.tmp 0)), none⟩,
    ⟨(some 23), (.mov (.tmp 2)), none⟩,
    ⟨(some 24), (.iaddr 18 (.tmp 22) (.tmp 23)), none⟩,
    ⟨(some 25), (.load true 18 (.tmp 24)), none⟩,
    ⟨(some 26), (.iaddr 18 (.tmp 14) (.tmp 15)), none⟩,
    ⟨none, (.store 18 (.tmp 26) (.tmp 21)), none⟩,
    ⟨(some 27), (.iaddr 18 (.tmp 16) (.tmp 17)), none⟩,
    ⟨none, (.store 18 (.tmp 27) (.tmp 25)), none⟩] [[], [], [], [], [], [], [4, 5], [6], [], [], [8, 9], [10], [0, 1, 0, 1, 4, 5, 6, 7, 11], [12, 7, 0, 1, 4, 5, 6, 7, 11], [2, 3, 0, 1, 2, 3, 4, 5, 6, 7, 8, 9, 10, 11, 12, 13], [14, 11, 13, 0, 1, 2, 3, 4, 5, 6, 7, 8, 9, 10, 11, 12, 13]]))
  (.region 0 [
    ⟨(some 10), (.mov (.tmp 2)), none⟩,
    ⟨(some 11), (.binI .add .i64 (.tmp 10) (.const (.int .i64 1))), none⟩,
    ⟨(some 12), (.mov (.tmp 3)), none⟩,
    ⟨(some 13), (.binI .sub .i64 (.tmp 12) (.const (.int .i64 1))), none⟩,
    ⟨(some 2), (.mov (.tmp 11)), none⟩,
    ⟨(some 3), (.mov (.tmp 13)), none⟩]))))))
def ir518 : AF := ⟨28, [], b518⟩
theorem c518 : compF tt Tryz.f18 = some ir518 := by kernel_rfl
def b519 : AC := (.seq (.region 0 [
    ⟨(some 4), (.mov (.tmp 0)), none⟩,
    ⟨(some 5), (.lenL (.tmp 4)), none⟩,
    ⟨(some 6), (.binI .sub .i64 (.tmp 5) (.const (.int .i64 1))), none⟩,
    ⟨(some 2), (.mov (.const (.int .i64 0))), none⟩,
    ⟨(some 3), (.mov (.tmp 6)), none⟩])
  (.block 0 (.loop (.seq (.seq (.region 0 [
    ⟨(some 7), (.mov (.tmp 2)), none⟩,
    ⟨(some 8), (.mov (.tmp 3)), none⟩,
    ⟨(some 9), (.binI .lss .i64 (.tmp 7) (.tmp 8)), none⟩])
  (.cond (.tmp 9) .skip (.exit 0)))
  (.seq (.block 1 (.dregion 0 [
    ⟨(some 14), (.mov (.tmp 0)), none⟩,
    ⟨(some 15), (.mov (.tmp 2)), none⟩,
    ⟨(some 16), (.mov (.tmp 0)), none⟩,
    ⟨(some 17), (.mov (.tmp 3)), none⟩,
    ⟨(some 18), (.mov (.tmp 0)), none⟩,
    ⟨(some 19), (.mov (.tmp 3)), none⟩,
    ⟨(some 20), (.iaddr 2 (.tmp 18) (.tmp 19)), none⟩,
    ⟨(some 21), (.load true 2 (.tmp 20)), none⟩,
    ⟨(some 22), (.mov (.tmp 0)), none⟩,
    ⟨(some 23), (.mov (.tmp 2)), none⟩,
    ⟨(some 24), (.iaddr 2 (.tmp 22) (.tmp 23)), none⟩,
    ⟨(some 25), (.load true 2 (.tmp 24)), none⟩,
    ⟨(some 26), (.iaddr 2 (.tmp 14) (.tmp 15)), none⟩,
    ⟨none, (.store 2 (.tmp 26) (.tmp 21)), none⟩,
    ⟨(some 27), (.iaddr 2 (.tmp 16) (.tmp 17)), none⟩,
    ⟨none, (.store 2 (.tmp 27) (.tmp 25)), none⟩] [[], [], [], [], [], [], [4, 5], [6], [], [], [8, 9], [10], [0, 1, 0, 1, 4, 5, 6, 7, 11], [12, 7, 0, 1, 4, 5, 6, 7, 11], [2, 3, 0, 1, 2, 3, 4, 5, 6, 7, 8, 9, 10, 11, 12, 13], [14, 11, 13, 0, 1, 2, 3, 4, 5, 6, 7, 8, 9, 10, 11, 12, 13]]))
  (.region 0 [
    ⟨(some 10), (.mov (.tmp 2)), none⟩,
    ⟨(some 11), (.binI .add .i64 (.tmp 10) (.const (.int .i64 1))), none⟩,
    ⟨(some 12), (.mov (.tmp 3)), none⟩,
    ⟨(some 13), (.binI .sub .i64 (.tmp 12) (.const (.int .i64 1))), none⟩,
    ⟨(some 2), (.mov (.tmp 11)), none⟩,
    ⟨(some 3), (.mov (.tmp 13)), none⟩]))))))
def ir519 : AF := ⟨28, [], b519⟩
theorem c519 : compF tt Tryz.f19 = some ir519 := by kernel_rfl
end Go.Aw.Try

namespace Go.Aw.Try
open Go Go.Proofs Go.Aw
set_option maxRecDepth 100000
set_option maxHeartbeats 4000000
/-! ### slices.Reverse -/
theorem swap_mem {α : Type} [Inhabited α] {l : List α} {i j : Nat} (hi : i < l.length) (hj : j < l.length) (hij : i ≠ j) (e : α) : e ∈ (l.set i (nth l j)).set j (nth l i) ↔ e ∈ l := by
  have hget : ∀ k, ((l.set i (nth l j)).set j (nth l i))[k]? = if k = j then some (nth l i) else if k = i then some (nth l j) else l[k]? := fun k => by
    by_cases h1 : k = j
    · subst h1; rw [if_pos rfl, List.getElem?_set_self (by rw [List.length_set]; exact hj)]
    · rw [if_neg h1, List.getElem?_set_ne (fun e => h1 e.symm)]
      by_cases h2 : k = i
      · subst h2; rw [if_pos rfl, List.getElem?_set_self hi]
      · rw [if_neg h2, List.getElem?_set_ne (fun e => h2 e.symm)]
  constructor
  · intro h
    obtain ⟨k, hk⟩ := List.getElem?_of_mem h
    rw [hget] at hk
    split at hk
    · injection hk with hk; rw [← hk]; exact nth_mem hi
    · split at hk
      · injection hk with hk; rw [← hk]; exact nth_mem hj
      · exact List.mem_of_getElem? hk
  · intro h
    obtain ⟨k, hk⟩ := List.getElem?_of_mem h
    by_cases h1 : k = j
    · subst h1
      refine List.mem_of_getElem? (i := i) ?_
      rw [hget, if_neg hij, if_pos rfl, nth_eq hj]
      rw [List.getElem?_eq_getElem hj] at hk; exact hk
    · by_cases h2 : k = i
      · subst h2
        refine List.mem_of_getElem? (i := j) ?_
        rw [hget, if_pos rfl, nth_eq hi]
        rw [List.getElem?_eq_getElem hi] at hk; exact hk
      · refine List.mem_of_getElem? (i := k) ?_
        rw [hget, if_neg h1, if_neg h2]; exact hk
theorem k518 (es : List Edit) (hl : es.length < 4611686018427387904) (H : List O) (r : Nat) (hr : r < H.length) :
    ACalls Tryz.prog G0 18 [.c (.os r 18 0 es.length)] (H.set r (.row 18 (es.map Edit.row))) fun t H' => t = .tup [] ∧ ∃ es' : List Edit, es'.length = es.length ∧ (∀ e, e ∈ es' ↔ e ∈ es) ∧ H' = H.set r (.row 18 (es'.map Edit.row)) := by
  refine acallsX (X := []) trivial tab hmix Tryz.func18 c518 (by rfl) fun hw => ?_
  simp (implicitDefEqProofs := false) (disch := omega) [List.getElem?_cons_zero, ir518, b518, wrap64]
  refine loopE (fun k s => ∃ (i : Nat) (es' : List Edit), i ≤ es.length ∧ k = es.length - i ∧ es'.length = es.length ∧ (∀ e, e ∈ es' ↔ e ∈ es) ∧
      s = ⟨ofL [(0, .v (.c (.os r 18 0 es.length))), (2, .int .i64 i), (3, .int .i64 ((es.length : Int) - 1 - i))], H.set r (.row 18 (es'.map Edit.row))⟩)
    (fun s => ∃ es' : List Edit, es'.length = es.length ∧ (∀ e, e ∈ es' ↔ e ∈ es) ∧ AtS [] (H.set r (.row 18 (es'.map Edit.row))) s) ?_ ?_ ?_
  · refine wk_keep [0, 2, 3] ⟨_, 0, es, by omega, rfl, rfl, fun _ => Iff.rfl, ?_⟩
    simp
  · rintro J L hJ hL k s ⟨i, es', hi, rfl, hle, hmm, rfl⟩
    by_cases hlt : (i : Int) < (es.length : Int) - 1 - i
    · obtain ⟨j, hj⟩ : ∃ j : Nat, (es.length : Int) - 1 - i = j := ⟨es.length - 1 - i, by omega⟩
      have hij : i < j := by omega
      have hi2 : i < es'.length := by omega
      have hj2 : j < es'.length := by omega
      have hjl : j < es.length := by omega
      have hil : i < es.length := by omega
      have hsw := fun e => swap_mem hi2 hj2 (by omega) e
      obtain ⟨x, hx⟩ : ∃ x, nth es' i = x := ⟨_, rfl⟩
      obtain ⟨y, hy⟩ : ∃ y, nth es' j = y := ⟨_, rfl⟩
      have hxr : x.row = [.v (.string x.id.a), .v (.int .i64 x.id.n), .v (.int .i64 x.clock), .v (.int .i64 x.floor), .sl (x.deps.map Id.row), .v (.int .i64 x.kind), .v (.string x.node.a), .v (.int .i64 x.node.n), .v (.string x.parent.a), .v (.int .i64 x.parent.n), .v (.bool x.neg), .v (.string x.num), .v (.string x.den), .v (.string x.field), .v (.string x.value), .v (.string x.target.a), .v (.int .i64 x.target.n), .v (.string x.who)] := rfl
      have hyr : y.row = [.v (.string y.id.a), .v (.int .i64 y.id.n), .v (.int .i64 y.clock), .v (.int .i64 y.floor), .sl (y.deps.map Id.row), .v (.int .i64 y.kind), .v (.string y.node.a), .v (.int .i64 y.node.n), .v (.string y.parent.a), .v (.int .i64 y.parent.n), .v (.bool y.neg), .v (.string y.num), .v (.string y.den), .v (.string y.field), .v (.string y.value), .v (.string y.target.a), .v (.int .i64 y.target.n), .v (.string y.who)] := rfl
      rw [hx, hy] at hsw
      rw [hj]
      simp (implicitDefEqProofs := false) (disch := omega) [List.getElem?_cons_zero, hij, hi2, hj2, hil, hjl, hle, wrap64, hr, nth_map, hx, hy, hxr, hyr, splice]
      have hrow : ((es'.map Edit.row).set i [.v (.string y.id.a), .v (.int .i64 y.id.n), .v (.int .i64 y.clock), .v (.int .i64 y.floor), .sl (y.deps.map Id.row), .v (.int .i64 y.kind), .v (.string y.node.a), .v (.int .i64 y.node.n), .v (.string y.parent.a), .v (.int .i64 y.parent.n), .v (.bool y.neg), .v (.string y.num), .v (.string y.den), .v (.string y.field), .v (.string y.value), .v (.string y.target.a), .v (.int .i64 y.target.n), .v (.string y.who)]).set j [.v (.string x.id.a), .v (.int .i64 x.id.n), .v (.int .i64 x.clock), .v (.int .i64 x.floor), .sl (x.deps.map Id.row), .v (.int .i64 x.kind), .v (.string x.node.a), .v (.int .i64 x.node.n), .v (.string x.parent.a), .v (.int .i64 x.parent.n), .v (.bool x.neg), .v (.string x.num), .v (.string x.den), .v (.string x.field), .v (.string x.value), .v (.string x.target.a), .v (.int .i64 x.target.n), .v (.string x.who)] = ((es'.set i y).set j x).map Edit.row := by rw [List.map_set, List.map_set, hyr, hxr]
      have hdr : ∀ Z, List.drop 18 (nth ((es'.map Edit.row).set i Z) j) = [] := fun Z => by rw [nth_set_ne (by omega), nth_map _ hj2]; rfl
      have h3 : (j : Int) - 1 = (es.length : Int) - 1 - (i + 1 : Nat) := by omega
      repeat' (with_reducible apply And.intro)
      all_goals first | omega | kernel_rfl | exact fun _ _ => rfl | skip
      subst hJ
      refine wk_keep [0, 2, 3] ⟨es.length - (i + 1), by omega, i + 1, (es'.set i y).set j x, by omega, rfl, by simp [hle], fun e => (hsw e).trans (hmm e), ?_⟩
      rw [← hrow, ← h3]; simp [hdr]
    · simp (implicitDefEqProofs := false) (disch := omega) [List.getElem?_cons_zero, hlt, wrap64]
      subst hL
      exact ⟨es', hle, hmm, at_mk (by simp) rfl⟩
  · rintro _ ⟨es', hle, hmm, sl, rfl⟩
    simp (implicitDefEqProofs := false) (disch := omega) [List.getElem?_cons_zero, wrap64]
    exact fin_here (by simp) ⟨rfl, es', hle, hmm, rfl⟩
theorem k519 (es : List Member) (hl : es.length < 4611686018427387904) (H : List O) (r : Nat) (hr : r < H.length) :
    ACalls Tryz.prog G0 19 [.c (.os r 2 0 es.length)] (H.set r (.row 2 (es.map Member.row))) fun t H' => t = .tup [] ∧ ∃ es' : List Member, es'.length = es.length ∧ (∀ e, e ∈ es' ↔ e ∈ es) ∧ H' = H.set r (.row 2 (es'.map Member.row)) := by
  refine acallsX (X := []) trivial tab hmix Tryz.func19 c519 (by rfl) fun hw => ?_
  simp (implicitDefEqProofs := false) (disch := omega) [List.getElem?_cons_zero, ir519, b519, wrap64]
  refine loopE (fun k s => ∃ (i : Nat) (es' : List Member), i ≤ es.length ∧ k = es.length - i ∧ es'.length = es.length ∧ (∀ e, e ∈ es' ↔ e ∈ es) ∧
      s = ⟨ofL [(0, .v (.c (.os r 2 0 es.length))), (2, .int .i64 i), (3, .int .i64 ((es.length : Int) - 1 - i))], H.set r (.row 2 (es'.map Member.row))⟩)
    (fun s => ∃ es' : List Member, es'.length = es.length ∧ (∀ e, e ∈ es' ↔ e ∈ es) ∧ AtS [] (H.set r (.row 2 (es'.map Member.row))) s) ?_ ?_ ?_
  · refine wk_keep [0, 2, 3] ⟨_, 0, es, by omega, rfl, rfl, fun _ => Iff.rfl, ?_⟩
    simp
  · rintro J L hJ hL k s ⟨i, es', hi, rfl, hle, hmm, rfl⟩
    by_cases hlt : (i : Int) < (es.length : Int) - 1 - i
    · obtain ⟨j, hj⟩ : ∃ j : Nat, (es.length : Int) - 1 - i = j := ⟨es.length - 1 - i, by omega⟩
      have hij : i < j := by omega
      have hi2 : i < es'.length := by omega
      have hj2 : j < es'.length := by omega
      have hjl : j < es.length := by omega
      have hil : i < es.length := by omega
      have hsw := fun e => swap_mem hi2 hj2 (by omega) e
      obtain ⟨x, hx⟩ : ∃ x, nth es' i = x := ⟨_, rfl⟩
      obtain ⟨y, hy⟩ : ∃ y, nth es' j = y := ⟨_, rfl⟩
      have hxr : x.row = [.v (.string x.name), .v (.string x.key)] := rfl
      have hyr : y.row = [.v (.string y.name), .v (.string y.key)] := rfl
      rw [hx, hy] at hsw
      rw [hj]
      simp (implicitDefEqProofs := false) (disch := omega) [List.getElem?_cons_zero, hij, hi2, hj2, hil, hjl, hle, wrap64, hr, nth_map, hx, hy, hxr, hyr, splice]
      have hrow : ((es'.map Member.row).set i [.v (.string y.name), .v (.string y.key)]).set j [.v (.string x.name), .v (.string x.key)] = ((es'.set i y).set j x).map Member.row := by rw [List.map_set, List.map_set, hyr, hxr]
      have hdr : ∀ Z, List.drop 2 (nth ((es'.map Member.row).set i Z) j) = [] := fun Z => by rw [nth_set_ne (by omega), nth_map _ hj2]; rfl
      have h3 : (j : Int) - 1 = (es.length : Int) - 1 - (i + 1 : Nat) := by omega
      repeat' (with_reducible apply And.intro)
      all_goals first | omega | kernel_rfl | exact fun _ _ => rfl | skip
      subst hJ
      refine wk_keep [0, 2, 3] ⟨es.length - (i + 1), by omega, i + 1, (es'.set i y).set j x, by omega, rfl, by simp [hle], fun e => (hsw e).trans (hmm e), ?_⟩
      rw [← hrow, ← h3]; simp [hdr]
    · simp (implicitDefEqProofs := false) (disch := omega) [List.getElem?_cons_zero, hlt, wrap64]
      subst hL
      exact ⟨es', hle, hmm, at_mk (by simp) rfl⟩
  · rintro _ ⟨es', hle, hmm, sl, rfl⟩
    simp (implicitDefEqProofs := false) (disch := omega) [List.getElem?_cons_zero, wrap64]
    exact fin_here (by simp) ⟨rfl, es', hle, hmm, rfl⟩
/-! ### EvictOrder: the walk -/
theorem k507 (m : Int) (l : List Edit) (all : List Member) (hz : Sz l all) (b1 : l.length ≤ 1048576) (b2 : all.length ≤ 1048576)
    (hlaw : OkR l all → ∀ (l' : List Edit) (all' : List Member), l'.length ≤ 2 * l.length → (∀ e, e ∈ l' ↔ e ∈ l) → all'.length = all.length → (∀ x, x ∈ all' ↔ x ∈ all) → okC l' all' ∧ cutsE l' all' = cutsE l all) :
    ACalls Tryz.prog (GM m) 7 [.c (.d (.sl (l.map Edit.row))), .c (.d (.sl (all.map Member.row)))] [] fun t H => t = .bool true ∧ H = [] := by
  have s1 : x511.sc = true := rfl
  have s2 : x512.sc = true := rfl
  have s3 : (x514 m).sc = false := rfl
  have s4 : x513.sc = true := rfl
  have g0 : x511.g [] = some (True, .bool true) := rfl
  have g1 := xg512 l all hz.sl hz.sa hz.sn hz.se
  refine acallsX (X := [(11, x511), (12, x512), (14, x514 m), (13, x513)]) ⟨kx511 m, kx512.gm, kx514 m, kx513.gm, trivial⟩ tab hmix Tryz.func7 c507 (by rfl) fun hw => ?_
  by_cases ok : OkR l all
  · rw [right_yes ok] at g1
    have hlaw := hlaw ok
    simp (implicitDefEqProofs := false) (disch := omega) [List.getElem?_cons_zero, ir507, b507, b507_0, b507_1, b507_2, b507_3, b507_4, s1, s2, g0, g1, wrap64, splice, fillC, toDs, toD, Nat.add_assoc]
    repeat' (with_reducible apply And.intro)
    all_goals first | omega | kernel_rfl | exact fun _ _ => rfl | skip
    have hk1 : ACalls Tryz.prog (GM m) 18 [.c (.os 1 18 0 l.length)] [O.dead, O.row 18 (l.map Edit.row)] _ := (k518 l (by omega) [.dead, .row 18 (l.map Edit.row)] 1 (by simp)).gm (G := GM m)
    refine hk1.mono ?_
    rintro t H' ⟨rfl, back, hbl, hbm, rfl⟩
    simp (implicitDefEqProofs := false) (disch := omega) [List.getElem?_cons_zero, callK, b507_5, b507_6, wrap64, splice, fillC, toDs, toD, Nat.add_assoc]
    repeat' (with_reducible apply And.intro)
    all_goals first | omega | kernel_rfl | exact fun _ _ => rfl | skip
    have hk2 : ACalls Tryz.prog (GM m) 19 [.c (.os 3 2 0 all.length)] [O.dead, O.row 18 (back.map Edit.row), O.dead, O.row 2 (all.map Member.row)] _ := (k519 all (by omega) [O.dead, O.row 18 (back.map Edit.row), O.dead, O.row 2 (all.map Member.row)] 3 (by simp)).gm (G := GM m)
    refine hk2.mono ?_
    rintro t H' ⟨rfl, others, hol, hom, rfl⟩
    obtain ⟨o1, e1⟩ := hlaw back all (by omega) hbm rfl (fun _ => Iff.rfl)
    obtain ⟨o2, e2⟩ := hlaw (l ++ back) all (by rw [List.length_append]; omega) (fun e => by rw [List.mem_append, hbm]; exact or_self_iff) rfl (fun _ => Iff.rfl)
    obtain ⟨o3, e3⟩ := hlaw l others (by omega) (fun _ => Iff.rfl) hol hom
    have gA := xg514 m l all ok.okC
    have gB := xg514 m back all o1
    have gC := xg514 m (l ++ back) all o2
    have gD := xg514 m l others o3
    have hxl := (minority_ok ok).len
    rw [e1] at gB
    rw [e2, List.map_append] at gC
    rw [e3] at gD
    obtain ⟨x, hx⟩ : ∃ x, x = cutsE l all := ⟨_, rfl⟩
    rw [← hx] at gA gB gC gD hxl
    have gE := xg513 x x (by omega)
    rw [decide_eq_true rfl] at gE
    have tB : List.take l.length (back.map Edit.row) = back.map Edit.row := List.take_of_length_le (by simp [hbl])
    have tC : List.take (l.length + l.length) (l.map Edit.row ++ back.map Edit.row) = l.map Edit.row ++ back.map Edit.row := List.take_of_length_le (by simp [hbl])
    have tO : List.take all.length (others.map Member.row) = others.map Member.row := List.take_of_length_le (by simp [hol])
    simp (implicitDefEqProofs := false) (disch := omega) [List.getElem?_cons_zero, callK, b507_7, b507_8, b507_9, wrap64, splice, fillC, toDs, toD, Nat.add_assoc, toPVs, frzVs, osVs, toPV, s3, s4, gA, gB, gC, gD, gE, tB, tO, tC, hbl, hol]
    repeat' (with_reducible apply And.intro)
    all_goals first | omega | kernel_rfl | exact fun _ _ => rfl | skip
    exact fin_nil ⟨rfl, rfl⟩
  · rw [right_no ok] at g1
    simp (implicitDefEqProofs := false) (disch := omega) [List.getElem?_cons_zero, ir507, b507, b507_0, b507_1, b507_2, s1, s2, g0, g1, wrap64]
    exact fin_nil ⟨rfl, rfl⟩
end Go.Aw.Try

namespace Go.Aw.Try
open Go Go.Proofs Go.Aw
set_option maxRecDepth 100000
set_option maxHeartbeats 4000000
/-! ### EvictOrder: the law -/
theorem bool_ext {a b : Bool} (h : a = true ↔ b = true) : a = b := by
  cases a <;> cases b <;> simp at h ⊢
theorem hasS_congr {M M' : List ByteArray} (h : ∀ x, x ∈ M' ↔ x ∈ M) (s : ByteArray) : hasS M' s = hasS M s :=
  bool_ext (by rw [hasS_iff, hasS_iff]; exact h s)
theorem namesO_congr {M M' : List ByteArray} (h : ∀ x, x ∈ M' ↔ x ∈ M) (hl : M'.length = M.length) (e : Edit) : namesO e M' = namesO e M := by
  have hb : ∀ a l j, badN a M' l j = badN a M l j := fun a l j => by unfold badN; rw [hasS_congr h]
  unfold namesO
  simp only [hasS_congr h, hl, hb]
theorem gatF_congr {M M' : List ByteArray} (h : ∀ x, x ∈ M' ↔ x ∈ M) (hl : M'.length = M.length) (l : List Edit) : gatF M' l = gatF M l := by
  have : gatS M' = gatS M := by funext g e; unfold gatS; rw [namesO_congr h hl]
  unfold gatF; rw [this]
theorem decB_congr {M M' : List ByteArray} (h : ∀ x, x ∈ M' ↔ x ∈ M) (vs : List Vote) (S : List ByteArray) : decB M' vs S = decB M vs S :=
  bool_ext (by
    rw [decB_iff, decB_iff]
    exact ⟨fun q s hs => q s ((h s).2 hs), fun q s hs => q s ((h s).1 hs)⟩)
theorem outU_congr {M M' : List ByteArray} (h : ∀ x, x ∈ M' ↔ x ∈ M) (vs l : List Vote) : outU M' vs l = outU M vs l := by
  have : outStep M' vs = outStep M vs := by funext a v; unfold outStep; rw [decB_congr h]
  unfold outU; rw [this]
theorem knewB_congr {l l' : List Edit} (h : ∀ e, e ∈ l' ↔ e ∈ l) (vs : List Vote) (s : ByteArray) : knewB l' vs s = knewB l vs s :=
  bool_ext ⟨fun k => knewB_mono (fun e he => (h e).1 he) k, fun k => knewB_mono (fun e he => (h e).2 he) k⟩
theorem finalB_congr {M M' : List ByteArray} {l l' : List Edit} (h : ∀ x, x ∈ M' ↔ x ∈ M) (hl : ∀ e, e ∈ l' ↔ e ∈ l) (vs : List Vote) (S : List ByteArray) : finalB ⟨M', l', vs⟩ S = finalB ⟨M, l, vs⟩ S :=
  bool_ext (by
    rw [finalB_iff, finalB_iff]
    constructor
    · intro q s hs hn
      have := q s ((h s).2 hs) hn
      rw [show (Cn.mk M' l' vs).l = l' from rfl, knewB_congr hl] at this; exact this
    · intro q s hs hn
      have := q s ((h s).1 hs) hn
      show knewB l' _ s = true
      rw [knewB_congr hl]; exact this)
theorem NoFork.of_set {l m : List Edit} (h : NoFork l) (hm : ∀ e, e ∈ m ↔ e ∈ l) : NoFork m := fun y hy z hz e => h y ((hm y).1 hy) z ((hm z).1 hz) e
theorem order_law {l : List Edit} {all : List Member} (hok : OkR l all) (l' : List Edit) (all' : List Member) (h1 : l'.length ≤ 2 * l.length) (h2 : ∀ e, e ∈ l' ↔ e ∈ l) (h3 : all'.length = all.length) (h4 : ∀ x, x ∈ all' ↔ x ∈ all) :
    okC l' all' ∧ cutsE l' all' = cutsE l all := by
  have hM : ∀ x, x ∈ all'.map Member.name ↔ x ∈ all.map Member.name := fun x => by
    rw [List.mem_map, List.mem_map]
    exact ⟨fun ⟨m, a, b⟩ => ⟨m, (h4 m).1 a, b⟩, fun ⟨m, a, b⟩ => ⟨m, (h4 m).2 a, b⟩⟩
  have hMl : (all'.map Member.name).length = (all.map Member.name).length := by rw [List.length_map, List.length_map, h3]
  have hg : gatF (all'.map Member.name) (sortE l') = gatF (all.map Member.name) (sortE l) := by
    rw [gatF_congr hM hMl]
    exact gat_congr (hok.noFork.of_set h2) hok.noFork fun e _ => h2 e
  have hc : gatC l' all' = ⟨all'.map Member.name, l', (gatC l all).vs⟩ := by unfold gatC; rw [hg]
  have hc0 : gatC l all = ⟨all.map Member.name, l, (gatC l all).vs⟩ := rfl
  have ho := hok.okC
  have hout : ∀ vs, outU (gatC l' all').mem vs vs = outU (gatC l all).mem vs vs := fun vs => by rw [hc]; exact outU_congr hM vs vs
  refine ⟨⟨by have := ho.len; have := hok.1; omega, by have := ho.mlen; omega, fun e he => ho.who e ((h2 e).1 he), fun e he => ho.good e ((h2 e).1 he), ?_⟩, ?_⟩
  · have hv : (gatC l' all').vs = (gatC l all).vs := by rw [hc]
    rw [hv, hout]; exact ho.out
  · unfold cutsE
    have hv : (gatC l' all').vs = (gatC l all).vs := by rw [hc]
    have hL : outL (gatC l' all').mem (gatC l' all').vs = outL (gatC l all).mem (gatC l all).vs := by unfold outL; rw [hv, hout]
    rw [hL]
    obtain ⟨sets, hsets⟩ : ∃ s, s = outL (gatC l all).mem (gatC l all).vs := ⟨_, rfl⟩
    rw [← hsets, hc]
    conv => rhs; rw [hc0]
    unfold cutsC
    obtain ⟨S, hS⟩ : ∃ S, S = nth sets (sets.length - 1) := ⟨_, rfl⟩
    rw [← hS, finalB_congr hM h2]
    rfl
theorem order_walk (m : Int) (l : List Edit) (all : List Member) (hz : Sz l all) (b1 : l.length ≤ 1048576) (b2 : all.length ≤ 1048576) :
    ACalls Tryz.prog (GM m) 7 [.c (.d (.sl (l.map Edit.row))), .c (.d (.sl (all.map Member.row)))] [] fun t H => t = .bool true ∧ H = [] :=
  k507 m l all hz b1 b2 fun h l' all' q1 q2 q3 q4 => order_law h l' all' q1 q2 q3 q4
end Go.Aw.Try
