/- An abstract machine over the model, and contracts of functions of this program on it (part 14): words and lemmas for the proof in the last text. -/
import Derived.Test.YtlboedhconemnaaHM
set_option linter.unusedSimpArgs false
set_option linter.unusedVariables false
set_option linter.unusedSectionVars false

namespace Go.Aw.Try
open Go Go.Proofs Go.Aw
set_option maxRecDepth 100000
set_option maxHeartbeats 4000000
def b14_0 : AC := (.region 0 [
    ⟨(some 6), (.mov (.const (.bool false))), none⟩])
def b14_1 : AC := (.seq (.region 0 [
    ⟨(some 17), (.mov (.tmp 0)), none⟩,
    ⟨(some 18), (.mov (.tmp 1)), none⟩,
    ⟨(some 19), (.mov (.tmp 2)), none⟩,
    ⟨(some 20), (.call 24 [(.tmp 17), (.tmp 18), (.tmp 19)]), none⟩,
    ⟨(some 21), (.mov (.tmp 20)), none⟩,
    ⟨(some 22), (.mov (.tmp 0)), (some (21, false))⟩,
    ⟨(some 23), (.call 33 [(.tmp 22)]), (some (21, false))⟩,
    ⟨(some 24), (.lenL (.tmp 23)), (some (21, false))⟩,
    ⟨(some 25), (.binI .gtr .i64 (.tmp 24) (.const (.int .i64 0))), (some (21, false))⟩,
    ⟨(some 26), (.pick (.tmp 21) (.const (.bool true)) (.tmp 25)), none⟩])
  (.cond (.tmp 26) (.seq (.region 0 [
    ⟨(some 27), (.call 25 []), none⟩,
    ⟨(some 6), (.mov (.tmp 27)), none⟩])
  .ret) .skip))
def b14_2 : AC := (.region 0 [
    ⟨(some 7), (.mov (.const (.slice none 0 0))), none⟩])
def b14_3 : AC := (.seq (.region 0 [
    ⟨(some 28), (.mov (.tmp 0)), none⟩,
    ⟨(some 29), (.lenL (.tmp 28)), none⟩,
    ⟨(some 30), (.mov (.const (.int .i64 0))), none⟩])
  (.block 0 (.loop (.seq (.region 0 [
    ⟨(some 31), (.binI .lss .i64 (.tmp 30) (.tmp 29)), none⟩])
  (.seq (.cond (.tmp 31) .skip (.exit 0))
  (.seq (.block 1 (.seq (.region 0 [
    ⟨(some 32), (.mov (.tmp 30)), none⟩,
    ⟨(some 8), (.mov (.tmp 32)), none⟩])
  (.dregion 2 [
    ⟨(some 33), (.mov (.tmp 7)), none⟩,
    ⟨(some 34), (.mov (.tmp 0)), none⟩,
    ⟨(some 35), (.mov (.tmp 0)), none⟩,
    ⟨(some 36), (.lenL (.tmp 35)), none⟩,
    ⟨(some 37), (.binI .sub .i64 (.tmp 36) (.const (.int .i64 1))), none⟩,
    ⟨(some 38), (.mov (.tmp 8)), none⟩,
    ⟨(some 39), (.binI .sub .i64 (.tmp 37) (.tmp 38)), none⟩,
    ⟨(some 40), (.iaddr 18 (.tmp 34) (.tmp 39)), none⟩,
    ⟨(some 41), (.load true 18 (.tmp 40)), none⟩,
    ⟨(some 42), (.mov (.tmp 0)), none⟩,
    ⟨(some 43), (.mov (.tmp 8)), none⟩,
    ⟨(some 44), (.iaddr 18 (.tmp 42) (.tmp 43)), none⟩,
    ⟨(some 45), (.load true 18 (.tmp 44)), none⟩,
    ⟨(some 46), (.bsl 0 18 [(.v (.string ⟨#[]⟩)), (.v (.int .i64 0)), (.v (.int .i64 0)), (.v (.int .i64 0)), (.v (.slice none 0 0)), (.v (.int .i64 0)), (.v (.string ⟨#[]⟩)), (.v (.int .i64 0)), (.v (.string ⟨#[]⟩)), (.v (.int .i64 0)), (.v (.bool false)), (.v (.string ⟨#[]⟩)), (.v (.string ⟨#[]⟩)), (.v (.string ⟨#[]⟩)), (.v (.string ⟨#[]⟩)), (.v (.string ⟨#[]⟩)), (.v (.int .i64 0)), (.v (.string ⟨#[]⟩))] 2 [(0, (.tmp 41)), (1, (.tmp 45))]), none⟩,
    ⟨(some 47), (.app 1 18 232 (.tmp 33) (.tmp 46)), none⟩,
    ⟨(some 7), (.mov (.tmp 47)), none⟩] [[], [], [], [2], [3], [], [4, 5], [1, 6], [7], [], [], [9, 10], [11], [8, 12], [0, 13], [14, 14, 0, 1, 2, 3, 4, 5, 6, 7, 8, 9, 10, 11, 12, 13, 14]])))
  (.region 0 [
    ⟨(some 48), (.binI .add .i64 (.tmp 30) (.const (.int .i64 1))), none⟩,
    ⟨(some 30), (.mov (.tmp 48)), none⟩])))))))
def b14_4 : AC := (.region 0 [
    ⟨(some 9), (.mov (.const (.slice none 0 0))), none⟩])
def b14_5 : AC := (.seq (.region 0 [
    ⟨(some 49), (.mov (.tmp 1)), none⟩,
    ⟨(some 50), (.lenL (.tmp 49)), none⟩,
    ⟨(some 51), (.mov (.const (.int .i64 0))), none⟩])
  (.block 2 (.loop (.seq (.region 0 [
    ⟨(some 52), (.binI .lss .i64 (.tmp 51) (.tmp 50)), none⟩])
  (.seq (.cond (.tmp 52) .skip (.exit 2))
  (.seq (.block 3 (.seq (.region 0 [
    ⟨(some 53), (.mov (.tmp 51)), none⟩,
    ⟨(some 10), (.mov (.tmp 53)), none⟩])
  (.region 2 [
    ⟨(some 54), (.mov (.tmp 9)), none⟩,
    ⟨(some 55), (.mov (.tmp 1)), none⟩,
    ⟨(some 56), (.mov (.tmp 1)), none⟩,
    ⟨(some 57), (.lenL (.tmp 56)), none⟩,
    ⟨(some 58), (.binI .sub .i64 (.tmp 57) (.const (.int .i64 1))), none⟩,
    ⟨(some 59), (.mov (.tmp 10)), none⟩,
    ⟨(some 60), (.binI .sub .i64 (.tmp 58) (.tmp 59)), none⟩,
    ⟨(some 61), (.iaddr 2 (.tmp 55) (.tmp 60)), none⟩,
    ⟨(some 62), (.load true 2 (.tmp 61)), none⟩,
    ⟨(some 63), (.bsl 0 2 [(.v (.string ⟨#[]⟩)), (.v (.string ⟨#[]⟩))] 1 [(0, (.tmp 62))]), none⟩,
    ⟨(some 64), (.app 1 2 32 (.tmp 54) (.tmp 63)), none⟩,
    ⟨(some 9), (.mov (.tmp 64)), none⟩])))
  (.region 0 [
    ⟨(some 65), (.binI .add .i64 (.tmp 51) (.const (.int .i64 1))), none⟩,
    ⟨(some 51), (.mov (.tmp 65)), none⟩])))))))
def b14_6 : AC := (.region 0 [
    ⟨(some 67), (.mov (.tmp 0)), none⟩,
    ⟨(some 68), (.mov (.tmp 1)), none⟩,
    ⟨(some 69), (.mov (.tmp 2)), none⟩,
    ⟨(some 70), (.call 26 [(.tmp 67), (.tmp 68), (.tmp 69)]), none⟩,
    ⟨(some 66), (.mov (.tmp 70)), none⟩,
    ⟨(some 71), (.ext (.tmp 66) 0), none⟩,
    ⟨(some 72), (.ext (.tmp 66) 1), none⟩,
    ⟨(some 11), (.mov (.tmp 71)), none⟩,
    ⟨(some 12), (.mov (.tmp 72)), none⟩])
def b14_7 : AC := (.region 0 [
    ⟨(some 74), (.mov (.tmp 7)), none⟩,
    ⟨(some 75), (.mov (.tmp 9)), none⟩,
    ⟨(some 76), (.mov (.tmp 2)), none⟩,
    ⟨(some 77), (.call 26 [(.tmp 74), (.tmp 75), (.tmp 76)]), none⟩,
    ⟨(some 73), (.mov (.tmp 77)), none⟩,
    ⟨(some 78), (.ext (.tmp 73) 0), none⟩,
    ⟨(some 79), (.ext (.tmp 73) 1), none⟩,
    ⟨(some 13), (.mov (.tmp 78)), none⟩,
    ⟨(some 14), (.mov (.tmp 79)), none⟩])
def b14_8 : AC := (.seq (.region 0 [
    ⟨(some 80), (.mov (.tmp 11)), none⟩,
    ⟨(some 81), (.lenL (.tmp 80)), none⟩,
    ⟨(some 82), (.mov (.tmp 1)), none⟩,
    ⟨(some 83), (.lenL (.tmp 82)), none⟩,
    ⟨(some 84), (.binI .neq .i64 (.tmp 81) (.tmp 83)), none⟩,
    ⟨(some 85), (.mov (.tmp 84)), none⟩,
    ⟨(some 86), (.mov (.tmp 12)), (some (85, false))⟩,
    ⟨(some 87), (.lenL (.tmp 86)), (some (85, false))⟩,
    ⟨(some 88), (.mov (.tmp 1)), (some (85, false))⟩,
    ⟨(some 89), (.lenL (.tmp 88)), (some (85, false))⟩,
    ⟨(some 90), (.binI .neq .i64 (.tmp 87) (.tmp 89)), (some (85, false))⟩,
    ⟨(some 91), (.pick (.tmp 85) (.const (.bool true)) (.tmp 90)), none⟩,
    ⟨(some 92), (.mov (.tmp 91)), none⟩,
    ⟨(some 93), (.mov (.tmp 13)), (some (92, false))⟩,
    ⟨(some 94), (.lenL (.tmp 93)), (some (92, false))⟩,
    ⟨(some 95), (.mov (.tmp 1)), (some (92, false))⟩,
    ⟨(some 96), (.lenL (.tmp 95)), (some (92, false))⟩,
    ⟨(some 97), (.binI .neq .i64 (.tmp 94) (.tmp 96)), (some (92, false))⟩,
    ⟨(some 98), (.pick (.tmp 92) (.const (.bool true)) (.tmp 97)), none⟩,
    ⟨(some 99), (.mov (.tmp 98)), none⟩,
    ⟨(some 100), (.mov (.tmp 14)), (some (99, false))⟩,
    ⟨(some 101), (.lenL (.tmp 100)), (some (99, false))⟩,
    ⟨(some 102), (.mov (.tmp 1)), (some (99, false))⟩,
    ⟨(some 103), (.lenL (.tmp 102)), (some (99, false))⟩,
    ⟨(some 104), (.binI .neq .i64 (.tmp 101) (.tmp 103)), (some (99, false))⟩,
    ⟨(some 105), (.pick (.tmp 99) (.const (.bool true)) (.tmp 104)), none⟩])
  (.cond (.tmp 105) (.seq (.region 0 [
    ⟨(some 6), (.mov (.const (.bool false))), none⟩])
  .ret) .skip))
def b14_9 : AC := (.seq (.region 0 [
    ⟨(some 106), (.mov (.tmp 11)), none⟩,
    ⟨(some 107), (.lenL (.tmp 106)), none⟩,
    ⟨(some 108), (.mov (.const (.int .i64 0))), none⟩])
  (.block 4 (.loop (.seq (.region 0 [
    ⟨(some 109), (.binI .lss .i64 (.tmp 108) (.tmp 107)), none⟩])
  (.seq (.cond (.tmp 109) .skip (.exit 4))
  (.seq (.block 5 (.seq (.region 0 [
    ⟨(some 110), (.mov (.tmp 108)), none⟩,
    ⟨(some 15), (.mov (.tmp 110)), none⟩])
  (.seq (.region 0 [
    ⟨(some 111), (.mov (.tmp 1)), none⟩,
    ⟨(some 112), (.lenL (.tmp 111)), none⟩,
    ⟨(some 113), (.binI .sub .i64 (.tmp 112) (.const (.int .i64 1))), none⟩,
    ⟨(some 114), (.mov (.tmp 15)), none⟩,
    ⟨(some 115), (.binI .sub .i64 (.tmp 113) (.tmp 114)), none⟩,
    ⟨(some 16), (.mov (.tmp 115)), none⟩])
  (.seq (.dregion 0 [
    ⟨(some 116), (.mov (.tmp 11)), none⟩,
    ⟨(some 117), (.mov (.tmp 15)), none⟩,
    ⟨(some 118), (.iaddr 1 (.tmp 116) (.tmp 117)), none⟩,
    ⟨(some 119), (.load false 1 (.tmp 118)), none⟩,
    ⟨(some 120), (.mov (.tmp 13)), none⟩,
    ⟨(some 121), (.mov (.tmp 16)), none⟩,
    ⟨(some 122), (.iaddr 1 (.tmp 120) (.tmp 121)), none⟩,
    ⟨(some 123), (.load false 1 (.tmp 122)), none⟩,
    ⟨(some 124), (.binI .neq .i64 (.tmp 119) (.tmp 123)), none⟩,
    ⟨(some 125), (.mov (.tmp 124)), none⟩,
    ⟨(some 126), (.mov (.tmp 12)), (some (125, false))⟩,
    ⟨(some 127), (.mov (.tmp 15)), (some (125, false))⟩,
    ⟨(some 128), (.iaddr 1 (.tmp 126) (.tmp 127)), (some (125, false))⟩,
    ⟨(some 129), (.load false 1 (.tmp 128)), (some (125, false))⟩,
    ⟨(some 130), (.mov (.tmp 14)), (some (125, false))⟩,
    ⟨(some 131), (.mov (.tmp 16)), (some (125, false))⟩,
    ⟨(some 132), (.iaddr 1 (.tmp 130) (.tmp 131)), (some (125, false))⟩,
    ⟨(some 133), (.load false 1 (.tmp 132)), (some (125, false))⟩,
    ⟨(some 134), (.binI .neq .i64 (.tmp 129) (.tmp 133)), (some (125, false))⟩,
    ⟨(some 135), (.pick (.tmp 125) (.const (.bool true)) (.tmp 134)), none⟩] [[], [], [0, 1], [2], [], [], [4, 5], [6], [3, 7], [8], [9], [9], [10, 11, 9], [12, 9], [9], [9], [14, 15, 9], [16, 9], [13, 17, 9], [9, 18]])
  (.cond (.tmp 135) (.seq (.region 0 [
    ⟨(some 6), (.mov (.const (.bool false))), none⟩])
  .ret) .skip)))))
  (.region 0 [
    ⟨(some 136), (.binI .add .i64 (.tmp 108) (.const (.int .i64 1))), none⟩,
    ⟨(some 108), (.mov (.tmp 136)), none⟩])))))))
def b14_10 : AC := (.region 0 [
    ⟨(some 137), (.call 25 []), none⟩,
    ⟨(some 138), (.mov (.tmp 137)), none⟩,
    ⟨(some 139), (.mov (.tmp 7)), (some (138, true))⟩,
    ⟨(some 140), (.mov (.tmp 9)), (some (138, true))⟩,
    ⟨(some 141), (.mov (.tmp 2)), (some (138, true))⟩,
    ⟨(some 142), (.call 28 [(.tmp 139), (.tmp 140), (.tmp 141)]), (some (138, true))⟩,
    ⟨(some 143), (.mov (.tmp 0)), (some (138, true))⟩,
    ⟨(some 144), (.mov (.tmp 1)), (some (138, true))⟩,
    ⟨(some 145), (.mov (.tmp 2)), (some (138, true))⟩,
    ⟨(some 146), (.call 28 [(.tmp 143), (.tmp 144), (.tmp 145)]), (some (138, true))⟩,
    ⟨(some 147), (.binI .eql .i64 (.tmp 142) (.tmp 146)), (some (138, true))⟩,
    ⟨(some 148), (.pick (.tmp 138) (.tmp 147) (.const (.bool false))), none⟩,
    ⟨(some 149), (.mov (.tmp 148)), none⟩,
    ⟨(some 150), (.mov (.tmp 7)), (some (149, true))⟩,
    ⟨(some 151), (.mov (.tmp 9)), (some (149, true))⟩,
    ⟨(some 152), (.mov (.tmp 2)), (some (149, true))⟩,
    ⟨(some 153), (.call 30 [(.tmp 150), (.tmp 151), (.tmp 152)]), (some (149, true))⟩,
    ⟨(some 154), (.mov (.tmp 0)), (some (149, true))⟩,
    ⟨(some 155), (.mov (.tmp 1)), (some (149, true))⟩,
    ⟨(some 156), (.mov (.tmp 2)), (some (149, true))⟩,
    ⟨(some 157), (.call 30 [(.tmp 154), (.tmp 155), (.tmp 156)]), (some (149, true))⟩,
    ⟨(some 158), (.binI .eql .i64 (.tmp 153) (.tmp 157)), (some (149, true))⟩,
    ⟨(some 159), (.pick (.tmp 149) (.tmp 158) (.const (.bool false))), none⟩,
    ⟨(some 6), (.mov (.tmp 159)), none⟩])
def b14_11 : AC := .ret
def b14 : AC := (.seq b14_0 (.seq b14_1 (.seq b14_2 (.seq b14_3 (.seq b14_4 (.seq b14_5 (.seq b14_6 (.seq b14_7 (.seq b14_8 (.seq b14_9 (.seq b14_10 b14_11)))))))))))
def ir14 : AF := ⟨160, [(.tmp 6)], b14⟩
theorem c14 : compF tt Try.f14 = some ir14 := by kernel_rfl
end Go.Aw.Try

namespace Go.Aw.Try
open Go Go.Proofs Go.Aw
set_option maxRecDepth 100000
set_option maxHeartbeats 4000000
/-! ### the stable clock, and the order of edits and members -/
theorem minL_le1 {l : List Int} {x : Int} (h : x ∈ l) : minL l ≤ x := by
  have m1 : ∀ (r : List Int) (a : Int), r.foldl minI a ≤ a ∧ ∀ x ∈ r, r.foldl minI a ≤ x := by
    intro r
    induction r with
    | nil => intro a; exact ⟨Int.le_refl _, fun x hx => by cases hx⟩
    | cons y r ih =>
      intro a
      obtain ⟨h1, h2⟩ := ih (minI a y)
      rw [List.foldl_cons]
      have hm : minI a y ≤ a ∧ minI a y ≤ y := by unfold minI; split <;> omega
      refine ⟨by omega, fun x hx => ?_⟩
      rcases List.mem_cons.1 hx with e | hx
      · subst e; omega
      · exact h2 x hx
  cases l with
  | nil => cases h
  | cons a r =>
    obtain ⟨h1, h2⟩ := m1 r a
    rcases List.mem_cons.1 h with e | h
    · subst e; exact h1
    · exact h2 x h
theorem minL_ge1 {l : List Int} {v : Int} (h0 : l ≠ []) (h : ∀ x ∈ l, v ≤ x) : v ≤ minL l := by
  cases l with
  | nil => exact absurd rfl h0
  | cons a r =>
    have key : ∀ (r : List Int) (a : Int), v ≤ a → (∀ x ∈ r, v ≤ x) → v ≤ r.foldl minI a := by
      intro r
      induction r with
      | nil => intro a ha _; exact ha
      | cons y r ih =>
        intro a ha hr
        rw [List.foldl_cons]
        refine ih _ ?_ fun x hx => hr x (List.mem_cons_of_mem _ hx)
        have := hr y List.mem_cons_self
        unfold minI; split <;> omega
    exact key r a (h a List.mem_cons_self) fun x hx => h x (List.mem_cons_of_mem _ hx)
theorem minL_set {A B : List Int} (h0 : A ≠ []) (h : ∀ x, x ∈ A ↔ x ∈ B) : minL A = minL B := by
  have h1 : B ≠ [] := by
    intro q; subst q
    cases A with
    | nil => exact h0 rfl
    | cons a r => have := (h a).1 List.mem_cons_self; cases this
  have a1 := minL_ge1 h1 fun x hx => minL_le1 ((h x).2 hx)
  have a2 := minL_ge1 h0 fun x hx => minL_le1 ((h x).1 hx)
  omega
/-- The last n elements, backwards. -/
def rev {α : Type} (l : List α) (n : Nat) : List α := (l.drop (l.length - n)).reverse
theorem rev_zero {α : Type} (l : List α) : rev l 0 = [] := by simp [rev]
theorem rev_all {α : Type} (l : List α) : rev l l.length = l.reverse := by simp [rev]
theorem rev_succ {α : Type} [Inhabited α] {l : List α} {n : Nat} (h : n < l.length) : rev l (n + 1) = rev l n ++ [nth l (l.length - 1 - n)] := by
  unfold rev
  rw [drop_nth (k := l.length - (n + 1)) (by omega), List.reverse_cons]
  congr 2
  · congr 2; omega
  · congr 1; omega
theorem rev_len {α : Type} {l : List α} {n : Nat} (h : n ≤ l.length) : (rev l n).length = n := by simp [rev]; omega
theorem nth_rev {α : Type} [Inhabited α] {l : List α} {i : Nat} (h : i < l.length) : nth l.reverse (l.length - 1 - i) = nth l i := by
  rw [nth_eq (by simp; omega), nth_eq h, List.getElem_reverse]
  congr 1; omega
/-- The edits forwards and backwards. -/
def zig (l : List Edit) (n : Nat) : List Edit := (List.range n).foldl (fun m i => m ++ [nth l (l.length - 1 - i), nth l i]) []
theorem zig_succ (l : List Edit) (n : Nat) : zig l (n + 1) = zig l n ++ [nth l (l.length - 1 - n), nth l n] := by unfold zig; rw [List.range_succ, List.foldl_append]; rfl
theorem zig_len (l : List Edit) (n : Nat) : (zig l n).length = 2 * n := by
  induction n with
  | zero => rfl
  | succ n ih => rw [zig_succ, List.length_append, ih]; rfl
theorem zig_in {l : List Edit} {n : Nat} (h : n ≤ l.length) {e : Edit} (he : e ∈ zig l n) : e ∈ l := by
  induction n with
  | zero => cases he
  | succ n ih =>
    rw [zig_succ] at he
    rcases List.mem_append.1 he with he | he
    · exact ih (by omega) he
    · simp only [List.mem_cons, List.not_mem_nil, or_false] at he
      rcases he with rfl | rfl
      · exact nth_mem (by omega)
      · exact nth_mem (by omega)
theorem zig_has (l : List Edit) {n i : Nat} (h : i < n) : nth l i ∈ zig l n := by
  induction n with
  | zero => omega
  | succ n ih =>
    rw [zig_succ]
    by_cases q : i = n
    · subst q; simp
    · exact List.mem_append_left _ (ih (by omega))
theorem zig_set (l : List Edit) (e : Edit) : e ∈ zig l l.length ↔ e ∈ l := by
  refine ⟨zig_in (Nat.le_refl _), fun he => ?_⟩
  obtain ⟨j, hj, rfl⟩ := mem_nth he
  exact zig_has l hj
theorem NoFork.clk_eq {l m : List Edit} (h : NoFork l) (hm : ∀ e, e ∈ m ↔ e ∈ l) (cuts : List Cutoff) : clk m cuts = clk l cuts ∧ flr m cuts = flr l cuts := by
  have := h.eff_eq hm cuts
  refine ⟨?_, ?_⟩ <;> funext x
  · unfold clk; rw [this]
  · unfold flr; rw [this]
theorem wholeR_set {l m : List Edit} (hm : ∀ e, e ∈ m ↔ e ∈ l) (c : Cutoff) : wholeR m c = wholeR l c := by
  unfold wholeR
  rw [Bool.eq_iff_iff, List.any_eq_true, List.any_eq_true]
  constructor
  · rintro ⟨e, he, h⟩; exact ⟨e, (hm e).1 he, h⟩
  · rintro ⟨e, he, h⟩; exact ⟨e, (hm e).2 he, h⟩
theorem NoFork.back_eq {l m : List Edit} (h : NoFork l) (hm : ∀ e, e ∈ m ↔ e ∈ l) (c : Cutoff) : backE m c = backE l c := by
  have one : ∀ (q : List Edit), (∀ e, e ∈ q ↔ e ∈ l) → ∀ e ∈ l, e.id = ⟨c.who, c.n⟩ → (q.find? fun e => decide (e.id.a = c.who ∧ e.id.n = c.n)) = some e := by
    intro q hq e he hid
    cases hf : q.find? fun e => decide (e.id.a = c.who ∧ e.id.n = c.n) with
    | none =>
      have := List.find?_eq_none.1 hf e ((hq e).2 he)
      rw [hid] at this
      simp at this
    | some y =>
      have h1 := List.find?_some hf
      have h2 := of_decide_eq_true h1
      have h3 := (hq y).1 (List.mem_of_find?_eq_some hf)
      rw [h y h3 e he (by rw [hid]; exact (Id.eq_iff _ _).2 h2)]
  have none' : ∀ (q : List Edit), (∀ e, e ∈ q ↔ e ∈ l) → (¬ ∃ e ∈ l, e.id = ⟨c.who, c.n⟩) → (q.find? fun e => decide (e.id.a = c.who ∧ e.id.n = c.n)) = none := by
    intro q hq hn
    rw [List.find?_eq_none]
    intro e he
    simp only [decide_eq_true_eq]
    intro h2
    exact hn ⟨e, (hq e).1 he, (Id.eq_iff _ _).2 h2⟩
  unfold backE
  by_cases hx : ∃ e ∈ l, e.id = ⟨c.who, c.n⟩
  · obtain ⟨e, he, hid⟩ := hx
    rw [one m hm e he hid, one l (fun _ => Iff.rfl) e he hid]
  · rw [none' m hm hx, none' l (fun _ => Iff.rfl) hx]
theorem NoFork.least_eq {l m : List Edit} (h : NoFork l) (hm : ∀ e, e ∈ m ↔ e ∈ l) (f : Member → Int) (all : List Member) (cuts : List Cutoff) : leastE f m all.reverse cuts = leastE f l all cuts := by
  have e1 : stay f all.reverse cuts = (stay f all cuts).reverse := by unfold stay; rw [List.filter_reverse, List.map_reverse]
  have e2 : badC m = badC l := by funext c; unfold badC; rw [wholeR_set hm]
  have e3 : backs m cuts = backs l cuts := by
    unfold backs
    exact List.map_congr_left fun c _ => h.back_eq hm c
  unfold leastE
  rw [e1, e2, e3]
  by_cases h0 : stay f all cuts = []
  · rw [if_pos (by rw [h0]; rfl), if_pos h0]
  · rw [if_neg (by simpa using h0), if_neg h0]
    split
    · rfl
    · refine minL_set (by simp [h0]) fun x => ?_
      simp
theorem NoFork.stable_eq {l m : List Edit} (h : NoFork l) (hm : ∀ e, e ∈ m ↔ e ∈ l) (all : List Member) (cuts : List Cutoff) : stableC m all.reverse cuts = stableC l all cuts ∧ stableF m all.reverse cuts = stableF l all cuts := by
  unfold stableC stableF
  rw [(h.clk_eq hm cuts).1, (h.clk_eq hm cuts).2]
  exact ⟨h.least_eq hm _ all cuts, h.least_eq hm _ all cuts⟩
end Go.Aw.Try

namespace Go.Aw.Try
open Go Go.Proofs Go.Aw
set_option maxRecDepth 100000
set_option maxHeartbeats 4000000
theorem k14 (l : List Edit) (all : List Member) (cuts : List Cutoff) (hl : gtot l < 34359738368) (ha : all.length < 34359738368) (hc : cuts.length < 34359738368) :
    ACalls Try.prog G0 14 [.c (.d (.sl (l.map Edit.row))), .c (.d (.sl (all.map Member.row))), .c (.d (.sl (cuts.map Cutoff.row)))] [] fun t H => t = .bool true ∧ H = [] := by
  have hlen := gtot_len l
  have h24 : x24.sc = true := rfl
  have h33 : x33.sc = false := rfl
  have h26 : x26.sc = false := rfl
  have h28 : x28.sc = true := rfl
  have h30 : x30.sc = true := rfl
  have g24 := xg24 l all cuts (by omega)
  refine acallsX (X := [(24, x24), (25, x25), (33, x33), (26, x26), (28, x28), (30, x30)]) ⟨kx24, kx25, kx33, kx26, kx28, kx30, trivial⟩ tab hmix Try.func14 c14 (by rfl) fun hw => ?_
  cases hg : greatB l all cuts
  · rw [hg] at g24
    have hgr : ¬ (1500 < gtot l ∨ 10 < all.length ∨ 20 < cuts.length) := of_decide_eq_false hg
    have hsm := gtot_small (l := l) (n := 1500) (by omega) (by omega) (by omega)
    have g33 := xg33 l hsm
    by_cases hf : forksE l = []
    · rw [hf] at g33
      have hnf := (noFork_iff l).1 hf
      simp (implicitDefEqProofs := false) (disch := omega) [List.getElem?_cons_zero, ir14, b14, b14_0, b14_1, b14_2, b14_3, h24, g24, x25, h33, g33, toPVs, frzVs, osVs, toPV, wrap64]
      refine loopE (fun k st => ∃ i, i ≤ l.length ∧ k = l.length - i ∧
          st = ⟨ofL [(0, .v (.c (.d (.sl (l.map Edit.row))))), (1, .v (.c (.d (.sl (all.map Member.row))))), (2, .v (.c (.d (.sl (cuts.map Cutoff.row))))), (7, .v (.c (.os 0 18 0 (zig l i).length))), (28, .v (.c (.d (.sl (l.map Edit.row))))), (29, .int .i64 l.length), (30, .int .i64 i)], [.row 18 ((zig l i).map Edit.row)]⟩)
        (fun st => AtS [(0, .v (.c (.d (.sl (l.map Edit.row))))), (1, .v (.c (.d (.sl (all.map Member.row))))), (2, .v (.c (.d (.sl (cuts.map Cutoff.row))))), (7, .v (.c (.os 0 18 0 (zig l l.length).length)))] [.row 18 ((zig l l.length).map Edit.row)] st) ?_ ?_ ?_
      · refine wk_nil_os 7 18 (by omega) (by simp) ?_
        refine wk_keep [0, 1, 2, 7, 28, 29, 30] ⟨_, 0, by omega, rfl, ?_⟩
        simp [zig]
      · rintro J L hJ hL k st ⟨i, hi, rfl, rfl⟩
        by_cases hlt : i < l.length
        · obtain ⟨m, hm⟩ : ∃ m, m = zig l i := ⟨_, rfl⟩
          have hml : m.length ≤ 2 * i := by rw [hm, zig_len]; omega
          have hst := zig_succ l i
          rw [← hm] at hst ⊢
          obtain ⟨r, hr⟩ : ∃ r, r = l.length - 1 - i := ⟨_, rfl⟩
          have hrl : r < l.length := by omega
          have hrt : (l.length : Int) - 1 - (i : Int) = (r : Int) := by omega
          rw [← hr] at hst
          obtain ⟨e, he⟩ : ∃ e, nth l i = e := ⟨_, rfl⟩
          obtain ⟨f, hf'⟩ : ∃ f, nth l r = f := ⟨_, rfl⟩
          rw [he, hf'] at hst
          have tA : (m.map Edit.row).take m.length = m.map Edit.row := List.take_of_length_le (by simp)
          simp (implicitDefEqProofs := false) (disch := omega) [List.getElem?_cons_zero, hlt, wrap64, hrt, hrl, he, hf', tA, nth_map, (erow _).len, take_of_len, (erow _).mapO, (erow _).tk, (erow _).nrm, borRow, (erow _).cl, borV_map, osR_map, frz_map, nth_set_ne, (erow _).spl (erow _)]
          repeat' (with_reducible apply And.intro)
          all_goals first | omega | kernel_rfl | exact fun _ _ => rfl | skip
          subst hJ
          refine wk_nil [2] [0, 1, 2, 7, 28, 29, 30] rfl ⟨l.length - (i + 1), by omega, i + 1, by omega, rfl, ?_⟩
          rw [hst]; simp [phi, O.ren]
        · have : i = l.length := by omega
          subst this
          simp (implicitDefEqProofs := false) (disch := omega) [List.getElem?_cons_zero, hlt]
          subst hL
          exact at_mk (by simp) rfl
      · rintro _ ⟨sl, rfl⟩
        obtain ⟨m, hm⟩ : ∃ m, m = zig l l.length := ⟨_, rfl⟩
        have hset : ∀ e, e ∈ m ↔ e ∈ l := by rw [hm]; exact zig_set l
        have hml : m.length ≤ 2 * l.length := by rw [hm, zig_len]; omega
        rw [← hm]
        obtain ⟨V, hV⟩ : ∃ V, V = all.reverse.map Member.row := ⟨_, rfl⟩
        have lV : V.length = all.length := by rw [hV]; simp
        simp (implicitDefEqProofs := false) (disch := omega) [List.getElem?_cons_zero, b14_4, b14_5]
        refine loopE (fun k st => ∃ i, i ≤ all.length ∧ k = all.length - i ∧
            st = ⟨ofL [(0, .v (.c (.d (.sl (l.map Edit.row))))), (1, .v (.c (.d (.sl (all.map Member.row))))), (2, .v (.c (.d (.sl (cuts.map Cutoff.row))))), (7, .v (.c (.os 0 18 0 m.length))), (9, .v (.c (.os 1 2 0 i))), (49, .v (.c (.d (.sl (all.map Member.row))))), (50, .int .i64 all.length), (51, .int .i64 i)], [.row 18 (m.map Edit.row), .row 2 ((rev all i).map Member.row)]⟩)
          (fun st => AtS [(0, .v (.c (.d (.sl (l.map Edit.row))))), (1, .v (.c (.d (.sl (all.map Member.row))))), (2, .v (.c (.d (.sl (cuts.map Cutoff.row))))), (7, .v (.c (.os 0 18 0 m.length))), (9, .v (.c (.os 1 2 0 all.length)))] [.row 18 (m.map Edit.row), .row 2 V] st) ?_ ?_ ?_
        · refine wk_nil_os 9 2 (by omega) (by simp) ?_
          refine wk_keep [0, 1, 2, 7, 9, 49, 50, 51] ⟨_, 0, by omega, rfl, ?_⟩
          simp [rev_zero]
        · rintro J L hJ hL k st ⟨i, hi, rfl, rfl⟩
          by_cases hlt : i < all.length
          · obtain ⟨A, hA⟩ : ∃ A, A = (rev all i).map Member.row := ⟨_, rfl⟩
            have lA : A.length = i := by rw [hA, List.length_map, rev_len hi]
            have hst := rev_succ hlt
            obtain ⟨r, hr⟩ : ∃ r, r = all.length - 1 - i := ⟨_, rfl⟩
            have hrl : r < all.length := by omega
            have hrt : (all.length : Int) - 1 - (i : Int) = (r : Int) := by omega
            rw [← hr] at hst
            obtain ⟨x, hx⟩ : ∃ x, nth all r = x := ⟨_, rfl⟩
            rw [hx] at hst
            have hxe : x.row = [.v (.string x.name), .v (.string x.key)] := rfl
            rw [← hA]
            have hst' : (rev all (i + 1)).map Member.row = A ++ [[.v (.string x.name), .v (.string x.key)]] := by rw [hst, List.map_append, ← hA]; rfl
            have tA : A.take i = A := List.take_of_length_le (by omega)
            have rA : ∀ y ∈ A, y.length = 2 := by
              intro y hy; rw [hA] at hy; obtain ⟨x, _, rfl⟩ := List.mem_map.1 hy; rfl
            simp (implicitDefEqProofs := false) (disch := omega) [List.getElem?_cons_zero, hlt, wrap64, hrt, hrl, hx, hxe, nth_map, lA, tA, fillC, splice]
            repeat' (with_reducible apply And.intro)
            all_goals first | omega | kernel_rfl | exact fun _ _ => rfl | exact rA | skip
            subst hJ
            refine wk_nil [0, 3] [0, 1, 2, 7, 9, 49, 50, 51] rfl ⟨all.length - (i + 1), by omega, i + 1, by omega, rfl, ?_⟩
            rw [hst']; simp [phi, O.ren]
          · have : i = all.length := by omega
            subst this
            rw [rev_all, ← hV]
            simp (implicitDefEqProofs := false) (disch := omega) [List.getElem?_cons_zero, hlt]
            subst hL
            exact at_mk (by simp) rfl
        · rintro _ ⟨sl, rfl⟩
          have hmL : m.length < 68719476736 := by omega
          have g26 := xg26 l all cuts (by omega) (by omega) (by omega)
          have g26m := xg26 m all.reverse cuts hmL (by simp; omega) (by omega)
          have g28 := xg28 l all cuts (by omega) (by omega) (by omega)
          have g28m := xg28 m all.reverse cuts hmL (by simp; omega) (by omega)
          have g30 := xg30 l all cuts (by omega) (by omega) (by omega)
          have g30m := xg30 m all.reverse cuts hmL (by simp; omega) (by omega)
          rw [(hnf.clk_eq hset cuts).1, (hnf.clk_eq hset cuts).2] at g26m
          rw [(hnf.stable_eq hset all cuts).1] at g28m
          rw [(hnf.stable_eq hset all cuts).2] at g30m
          rw [← hV] at g26m g28m g30m
          unfold lists at g26 g26m
          obtain ⟨A, hA⟩ : ∃ A, A = (all.map (clk l cuts)).map irow := ⟨_, rfl⟩
          obtain ⟨B, hB⟩ : ∃ B, B = (all.map (flr l cuts)).map irow := ⟨_, rfl⟩
          obtain ⟨C, hC⟩ : ∃ C, C = (all.reverse.map (clk l cuts)).map irow := ⟨_, rfl⟩
          obtain ⟨D', hD⟩ : ∃ D, D = (all.reverse.map (flr l cuts)).map irow := ⟨_, rfl⟩
          rw [← hA, ← hB] at g26
          rw [← hC, ← hD] at g26m
          have lA : A.length = all.length := by rw [hA]; simp
          have lB : B.length = all.length := by rw [hB]; simp
          have lC : C.length = all.length := by rw [hC]; simp
          have lD : D'.length = all.length := by rw [hD]; simp
          have tm : (m.map Edit.row).take m.length = m.map Edit.row := List.take_of_length_le (by simp)
          have tV : V.take all.length = V := List.take_of_length_le (by omega)
          simp (implicitDefEqProofs := false) (disch := omega) [List.getElem?_cons_zero, b14_6, b14_7, b14_8, b14_9, h26, g26, g26m, lA, lB, lC, lD, lV, tm, tV, toPVs, frzVs, osVs, toPV]
          refine loopE (fun k st => ∃ i, i ≤ all.length ∧ k = all.length - i ∧
              st = ⟨ofL [(0, .v (.c (.d (.sl (l.map Edit.row))))), (1, .v (.c (.d (.sl (all.map Member.row))))), (2, .v (.c (.d (.sl (cuts.map Cutoff.row))))), (7, .v (.c (.os 0 18 0 m.length))), (9, .v (.c (.os 1 2 0 all.length))), (11, .v (.c (.d (.sl A)))), (12, .v (.c (.d (.sl B)))), (13, .v (.c (.d (.sl C)))), (14, .v (.c (.d (.sl D')))), (107, .int .i64 all.length), (108, .int .i64 i)], [.frow 18 (m.map Edit.row), .frow 2 V]⟩)
            (fun st => AtS [(0, .v (.c (.d (.sl (l.map Edit.row))))), (1, .v (.c (.d (.sl (all.map Member.row))))), (2, .v (.c (.d (.sl (cuts.map Cutoff.row))))), (7, .v (.c (.os 0 18 0 m.length))), (9, .v (.c (.os 1 2 0 all.length)))] [.frow 18 (m.map Edit.row), .frow 2 V] st) ?_ ?_ ?_
          · refine wk_keep [0, 1, 2, 7, 9, 11, 12, 13, 14, 107, 108] ⟨_, 0, by omega, rfl, ?_⟩
            simp
          · rintro J L hJ hL k st ⟨i, hi, rfl, rfl⟩
            by_cases hlt : i < all.length
            · obtain ⟨r, hr⟩ : ∃ r, r = all.length - 1 - i := ⟨_, rfl⟩
              have hrl : r < all.length := by omega
              have hrt : (all.length : Int) - 1 - (i : Int) = (r : Int) := by omega
              obtain ⟨u, hu⟩ : ∃ u, u = clk l cuts (nth all i) := ⟨_, rfl⟩
              obtain ⟨v, hv⟩ : ∃ v, v = flr l cuts (nth all i) := ⟨_, rfl⟩
              have nA : nth A i = [.v (.int .i64 u)] := by rw [hA, nth_map irow (by simpa using hlt), nth_map _ hlt, hu]; rfl
              have nB : nth B i = [.v (.int .i64 v)] := by rw [hB, nth_map irow (by simpa using hlt), nth_map _ hlt, hv]; rfl
              have hrr : r < all.reverse.length := by simpa using hrl
              have nC : nth C r = [.v (.int .i64 u)] := by rw [hC, nth_map irow (by simpa using hrr), nth_map _ hrr, hr, nth_rev hlt, hu]; rfl
              have nD : nth D' r = [.v (.int .i64 v)] := by rw [hD, nth_map irow (by simpa using hrr), nth_map _ hrr, hr, nth_rev hlt, hv]; rfl
              simp (implicitDefEqProofs := false) (disch := omega) [List.getElem?_cons_zero, hlt, hrl, hrt, wrap64, nA, nB, nC, nD, lA, lB, lC, lD]
              repeat' (with_reducible apply And.intro)
              all_goals first | omega | kernel_rfl | skip
              subst hJ
              refine wk_keep [0, 1, 2, 7, 9, 11, 12, 13, 14, 107, 108] ⟨all.length - (i + 1), by omega, i + 1, by omega, rfl, ?_⟩
              simp
            · have : i = all.length := by omega
              subst this
              simp (implicitDefEqProofs := false) (disch := omega) [List.getElem?_cons_zero, hlt]
              subst hL
              exact at_mk (by simp) rfl
          · rintro _ ⟨sl, rfl⟩
            simp (implicitDefEqProofs := false) (disch := omega) [List.getElem?_cons_zero, b14_10, b14_11, x25, h28, g28, g28m, h30, g30, g30m, tm, tV, lV]
            exact fin_nil ⟨rfl, rfl⟩
    · have hp : 0 < (forksE l).length := List.length_pos_iff.2 hf
      have hp' : (0 : Int) < (forksE l).length := by omega
      simp (implicitDefEqProofs := false) (disch := omega) [List.getElem?_cons_zero, ir14, b14, b14_0, b14_1, h24, g24, x25, h33, g33, hp, hp', toPVs, frzVs, osVs, toPV, wrap64]
      exact fin_nil ⟨rfl, rfl⟩
  · rw [hg] at g24
    simp (implicitDefEqProofs := false) (disch := omega) [List.getElem?_cons_zero, ir14, b14, b14_0, b14_1, h24, g24, x25]
    exact fin_nil ⟨rfl, rfl⟩
end Go.Aw.Try


