/- An abstract machine over the model, and contracts of functions of this program on it (part 7): words and lemmas for the proof in the last text. -/
import Derived.Test.YtlboedhconemnaaHF
set_option linter.unusedSimpArgs false
set_option linter.unusedVariables false
set_option linter.unusedSectionVars false

namespace Go.Aw.Try
open Go Go.Proofs Go.Aw
set_option maxRecDepth 100000
set_option maxHeartbeats 4000000
def b5_0 : AC := (.region 0 [
    ⟨(some 2), (.mov (.const (.bool false))), none⟩])
def b5_1 : AC := (.seq (.region 0 [
    ⟨(some 13), (.mov (.tmp 0)), none⟩,
    ⟨(some 14), (.call 15 [(.tmp 13)]), none⟩,
    ⟨(some 15), (.binI .gtr .i64 (.tmp 14) (.const (.int .i64 0))), none⟩])
  (.cond (.tmp 15) (.seq (.region 0 [
    ⟨(some 16), (.call 16 []), none⟩,
    ⟨(some 2), (.mov (.tmp 16)), none⟩])
  .ret) .skip))
def b5_2 : AC := (.region 0 [
    ⟨(some 17), (.mov (.tmp 0)), none⟩,
    ⟨(some 18), (.call 20 [(.tmp 17)]), none⟩,
    ⟨(some 3), (.mov (.tmp 18)), none⟩])
def b5_3 : AC := (.seq (.region 0 [
    ⟨(some 19), (.mov (.tmp 3)), none⟩,
    ⟨(some 20), (.lenL (.tmp 19)), none⟩,
    ⟨(some 21), (.mov (.const (.int .i64 0))), none⟩])
  (.block 0 (.loop (.seq (.region 0 [
    ⟨(some 22), (.binI .lss .i64 (.tmp 21) (.tmp 20)), none⟩])
  (.seq (.cond (.tmp 22) .skip (.exit 0))
  (.seq (.block 1 (.seq (.region 0 [
    ⟨(some 23), (.mov (.tmp 21)), none⟩,
    ⟨(some 4), (.mov (.tmp 23)), none⟩])
  (.seq (.seq (.dregion 0 [
    ⟨(some 24), (.mov (.tmp 4)), none⟩,
    ⟨(some 25), (.binI .gtr .i64 (.tmp 24) (.const (.int .i64 0))), none⟩,
    ⟨(some 26), (.mov (.tmp 25)), none⟩,
    ⟨(some 27), (.mov (.tmp 3)), (some (26, true))⟩,
    ⟨(some 28), (.mov (.tmp 4)), (some (26, true))⟩,
    ⟨(some 29), (.binI .sub .i64 (.tmp 28) (.const (.int .i64 1))), (some (26, true))⟩,
    ⟨(some 30), (.iaddr 18 (.tmp 27) (.tmp 29)), (some (26, true))⟩,
    ⟨(some 31), (.load true 18 (.tmp 30)), (some (26, true))⟩,
    ⟨(some 32), (.mov (.tmp 3)), (some (26, true))⟩,
    ⟨(some 33), (.mov (.tmp 4)), (some (26, true))⟩,
    ⟨(some 34), (.iaddr 18 (.tmp 32) (.tmp 33)), (some (26, true))⟩,
    ⟨(some 35), (.load true 18 (.tmp 34)), (some (26, true))⟩,
    ⟨(some 36), (.call 21 [(.tmp 31), (.tmp 35)]), (some (26, true))⟩,
    ⟨(some 37), (.binI .geq .i64 (.tmp 36) (.const (.int .i64 0))), (some (26, true))⟩,
    ⟨(some 38), (.pick (.tmp 26) (.tmp 37) (.const (.bool false))), none⟩] [[], [0], [1], [2], [2], [4, 2], [3, 5, 2], [6, 2], [2], [2], [8, 9, 2], [10, 2], [7, 11, 2, 2], [12, 2], [2, 13]])
  (.cond (.tmp 38) (.seq (.region 0 [
    ⟨(some 2), (.mov (.const (.bool false))), none⟩])
  .ret) .skip))
  (.seq (.region 0 [
    ⟨(some 5), (.mov (.const (.bool false))), none⟩])
  (.seq (.seq (.region 0 [
    ⟨(some 39), (.mov (.tmp 0)), none⟩,
    ⟨(some 40), (.lenL (.tmp 39)), none⟩,
    ⟨(some 41), (.mov (.const (.int .i64 0))), none⟩])
  (.block 2 (.loop (.seq (.region 0 [
    ⟨(some 42), (.binI .lss .i64 (.tmp 41) (.tmp 40)), none⟩])
  (.seq (.cond (.tmp 42) .skip (.exit 2))
  (.seq (.block 3 (.seq (.region 1 [
    ⟨(some 43), (.iaddr 18 (.tmp 39) (.tmp 41)), none⟩,
    ⟨(some 44), (.load true 18 (.tmp 43)), none⟩,
    ⟨(some 7), (.zero 0 [(.v (.string ⟨#[]⟩)), (.v (.int .i64 0)), (.v (.int .i64 0)), (.v (.int .i64 0)), (.v (.slice none 0 0)), (.v (.int .i64 0)), (.v (.string ⟨#[]⟩)), (.v (.int .i64 0)), (.v (.string ⟨#[]⟩)), (.v (.int .i64 0)), (.v (.bool false)), (.v (.string ⟨#[]⟩)), (.v (.string ⟨#[]⟩)), (.v (.string ⟨#[]⟩)), (.v (.string ⟨#[]⟩)), (.v (.string ⟨#[]⟩)), (.v (.int .i64 0)), (.v (.string ⟨#[]⟩))]), none⟩,
    ⟨none, (.store 18 (.tmp 7) (.tmp 44)), none⟩])
  (.dregion 0 [
    ⟨(some 45), (.mov (.tmp 5)), none⟩,
    ⟨(some 46), (.mov (.tmp 45)), none⟩,
    ⟨(some 47), (.load true 18 (.tmp 7)), (some (46, false))⟩,
    ⟨(some 48), (.mov (.tmp 3)), (some (46, false))⟩,
    ⟨(some 49), (.mov (.tmp 4)), (some (46, false))⟩,
    ⟨(some 50), (.iaddr 18 (.tmp 48) (.tmp 49)), (some (46, false))⟩,
    ⟨(some 51), (.load true 18 (.tmp 50)), (some (46, false))⟩,
    ⟨(some 52), (.call 22 [(.tmp 47), (.tmp 51)]), (some (46, false))⟩,
    ⟨(some 53), (.pick (.tmp 46) (.const (.bool true)) (.tmp 52)), none⟩,
    ⟨(some 5), (.mov (.tmp 53)), none⟩] [[], [0], [1], [1], [1], [3, 4, 1], [5, 1], [2, 6, 1, 1], [1, 7], [8, 7, 0, 1, 2, 3, 4, 5, 6, 7, 8]])))
  (.region 0 [
    ⟨(some 54), (.binI .add .i64 (.tmp 41) (.const (.int .i64 1))), none⟩,
    ⟨(some 41), (.mov (.tmp 54)), none⟩])))))))
  (.seq (.region 0 [
    ⟨(some 55), (.mov (.tmp 5)), none⟩,
    ⟨(some 56), (.not (.tmp 55)), none⟩])
  (.cond (.tmp 56) (.seq (.region 0 [
    ⟨(some 2), (.mov (.const (.bool false))), none⟩])
  .ret) .skip)))))))
  (.region 0 [
    ⟨(some 57), (.binI .add .i64 (.tmp 21) (.const (.int .i64 1))), none⟩,
    ⟨(some 21), (.mov (.tmp 57)), none⟩])))))))
def b5_4 : AC := (.seq (.region 0 [
    ⟨(some 58), (.mov (.tmp 0)), none⟩,
    ⟨(some 59), (.lenL (.tmp 58)), none⟩,
    ⟨(some 60), (.mov (.const (.int .i64 0))), none⟩])
  (.block 4 (.loop (.seq (.region 0 [
    ⟨(some 61), (.binI .lss .i64 (.tmp 60) (.tmp 59)), none⟩])
  (.seq (.cond (.tmp 61) .skip (.exit 4))
  (.seq (.block 5 (.seq (.region 1 [
    ⟨(some 62), (.iaddr 18 (.tmp 58) (.tmp 60)), none⟩,
    ⟨(some 63), (.load true 18 (.tmp 62)), none⟩,
    ⟨(some 9), (.zero 0 [(.v (.string ⟨#[]⟩)), (.v (.int .i64 0)), (.v (.int .i64 0)), (.v (.int .i64 0)), (.v (.slice none 0 0)), (.v (.int .i64 0)), (.v (.string ⟨#[]⟩)), (.v (.int .i64 0)), (.v (.string ⟨#[]⟩)), (.v (.int .i64 0)), (.v (.bool false)), (.v (.string ⟨#[]⟩)), (.v (.string ⟨#[]⟩)), (.v (.string ⟨#[]⟩)), (.v (.string ⟨#[]⟩)), (.v (.string ⟨#[]⟩)), (.v (.int .i64 0)), (.v (.string ⟨#[]⟩))]), none⟩,
    ⟨none, (.store 18 (.tmp 9) (.tmp 63)), none⟩])
  (.seq (.region 0 [
    ⟨(some 10), (.mov (.const (.bool false))), none⟩])
  (.seq (.seq (.region 0 [
    ⟨(some 64), (.mov (.tmp 3)), none⟩,
    ⟨(some 65), (.lenL (.tmp 64)), none⟩,
    ⟨(some 66), (.mov (.const (.int .i64 0))), none⟩])
  (.block 6 (.loop (.seq (.region 0 [
    ⟨(some 67), (.binI .lss .i64 (.tmp 66) (.tmp 65)), none⟩])
  (.seq (.cond (.tmp 67) .skip (.exit 6))
  (.seq (.block 7 (.seq (.region 1 [
    ⟨(some 68), (.iaddr 18 (.tmp 64) (.tmp 66)), none⟩,
    ⟨(some 69), (.load true 18 (.tmp 68)), none⟩,
    ⟨(some 12), (.zero 0 [(.v (.string ⟨#[]⟩)), (.v (.int .i64 0)), (.v (.int .i64 0)), (.v (.int .i64 0)), (.v (.slice none 0 0)), (.v (.int .i64 0)), (.v (.string ⟨#[]⟩)), (.v (.int .i64 0)), (.v (.string ⟨#[]⟩)), (.v (.int .i64 0)), (.v (.bool false)), (.v (.string ⟨#[]⟩)), (.v (.string ⟨#[]⟩)), (.v (.string ⟨#[]⟩)), (.v (.string ⟨#[]⟩)), (.v (.string ⟨#[]⟩)), (.v (.int .i64 0)), (.v (.string ⟨#[]⟩))]), none⟩,
    ⟨none, (.store 18 (.tmp 12) (.tmp 69)), none⟩])
  (.region 0 [
    ⟨(some 70), (.mov (.tmp 10)), none⟩,
    ⟨(some 71), (.mov (.tmp 70)), none⟩,
    ⟨(some 72), (.load true 18 (.tmp 9)), (some (71, false))⟩,
    ⟨(some 73), (.load true 18 (.tmp 12)), (some (71, false))⟩,
    ⟨(some 74), (.call 21 [(.tmp 72), (.tmp 73)]), (some (71, false))⟩,
    ⟨(some 75), (.binI .eql .i64 (.tmp 74) (.const (.int .i64 0))), (some (71, false))⟩,
    ⟨(some 76), (.pick (.tmp 71) (.const (.bool true)) (.tmp 75)), none⟩,
    ⟨(some 10), (.mov (.tmp 76)), none⟩])))
  (.region 0 [
    ⟨(some 77), (.binI .add .i64 (.tmp 66) (.const (.int .i64 1))), none⟩,
    ⟨(some 66), (.mov (.tmp 77)), none⟩])))))))
  (.seq (.region 0 [
    ⟨(some 78), (.mov (.tmp 10)), none⟩,
    ⟨(some 79), (.not (.tmp 78)), none⟩])
  (.cond (.tmp 79) (.seq (.region 0 [
    ⟨(some 2), (.mov (.const (.bool false))), none⟩])
  .ret) .skip))))))
  (.region 0 [
    ⟨(some 80), (.binI .add .i64 (.tmp 60) (.const (.int .i64 1))), none⟩,
    ⟨(some 60), (.mov (.tmp 80)), none⟩])))))))
def b5_5 : AC := (.region 0 [
    ⟨(some 81), (.call 16 []), none⟩,
    ⟨(some 82), (.mov (.tmp 81)), none⟩,
    ⟨(some 83), (.mov (.tmp 3)), (some (82, true))⟩,
    ⟨(some 84), (.call 20 [(.tmp 83)]), (some (82, true))⟩,
    ⟨(some 85), (.mov (.tmp 3)), (some (82, true))⟩,
    ⟨(some 86), (.call 17 [(.tmp 84), (.tmp 85)]), (some (82, true))⟩,
    ⟨(some 87), (.pick (.tmp 82) (.tmp 86) (.const (.bool false))), none⟩,
    ⟨(some 2), (.mov (.tmp 87)), none⟩])
def b5_6 : AC := .ret
def b5 : AC := (.seq b5_0 (.seq b5_1 (.seq b5_2 (.seq b5_3 (.seq b5_4 (.seq b5_5 b5_6))))))
def ir5 : AF := ⟨88, [(.tmp 2)], b5⟩
theorem c5 : compF tt Try.f5 = some ir5 := by kernel_rfl
def b22 : AC := (.seq (.region 2 [
    ⟨(some 2), (.box 0 (.tmp 0)), none⟩,
    ⟨(some 3), (.box 1 (.tmp 1)), none⟩,
    ⟨(some 4), (.mov (.const (.bool false))), none⟩])
  (.seq (.dregion 0 [
    ⟨(some 5), (.load true 18 (.tmp 2)), none⟩,
    ⟨(some 6), (.call 50 [(.tmp 5)]), none⟩,
    ⟨(some 7), (.load true 18 (.tmp 3)), none⟩,
    ⟨(some 8), (.call 50 [(.tmp 7)]), none⟩,
    ⟨(some 9), (.eqA false [.s, (.i .i64), .s, (.i .i64), .s, (.i .i64), .s, (.i .i64), (.i .i64), (.i .i64), (.i .i64), .b, .s, .s, .s, .s, .s] (.tmp 6) (.tmp 8)), none⟩,
    ⟨(some 10), (.mov (.tmp 9)), none⟩,
    ⟨(some 11), (.faddr 4 (.tmp 2)), (some (10, true))⟩,
    ⟨(some 12), (.load false 1 (.tmp 11)), (some (10, true))⟩,
    ⟨(some 13), (.faddr 4 (.tmp 3)), (some (10, true))⟩,
    ⟨(some 14), (.load false 1 (.tmp 13)), (some (10, true))⟩,
    ⟨(some 15), (.call 51 [(.tmp 12), (.tmp 14)]), (some (10, true))⟩,
    ⟨(some 16), (.pick (.tmp 10) (.tmp 15) (.const (.bool false))), none⟩,
    ⟨(some 4), (.mov (.tmp 16)), none⟩] [[], [0], [], [2, 1], [1, 3], [4, 3], [5], [6, 5], [5], [8, 5], [7, 9, 5, 5], [5, 10], [11, 10, 0, 1, 2, 3, 4, 5, 6, 7, 8, 9, 10, 11]])
  .ret))
def ir22 : AF := ⟨17, [(.tmp 4)], b22⟩
theorem c22 : compF tt Try.f22 = some ir22 := by kernel_rfl
def b50 : AC := (.seq (.region 2 [
    ⟨(some 1), (.box 0 (.tmp 0)), none⟩,
    ⟨(some 2), (.zero 1 [(.v (.string ⟨#[]⟩)), (.v (.int .i64 0)), (.v (.string ⟨#[]⟩)), (.v (.int .i64 0)), (.v (.string ⟨#[]⟩)), (.v (.int .i64 0)), (.v (.string ⟨#[]⟩)), (.v (.int .i64 0)), (.v (.int .i64 0)), (.v (.int .i64 0)), (.v (.int .i64 0)), (.v (.bool false)), (.v (.string ⟨#[]⟩)), (.v (.string ⟨#[]⟩)), (.v (.string ⟨#[]⟩)), (.v (.string ⟨#[]⟩)), (.v (.string ⟨#[]⟩))]), none⟩])
  (.seq (.region 0 [
    ⟨(some 3), (.faddr 0 (.tmp 1)), none⟩,
    ⟨(some 4), (.load true 2 (.tmp 3)), none⟩,
    ⟨(some 5), (.faddr 6 (.tmp 1)), none⟩,
    ⟨(some 6), (.load true 2 (.tmp 5)), none⟩,
    ⟨(some 7), (.faddr 8 (.tmp 1)), none⟩,
    ⟨(some 8), (.load true 2 (.tmp 7)), none⟩,
    ⟨(some 9), (.faddr 15 (.tmp 1)), none⟩,
    ⟨(some 10), (.load true 2 (.tmp 9)), none⟩,
    ⟨(some 11), (.faddr 2 (.tmp 1)), none⟩,
    ⟨(some 12), (.load false 1 (.tmp 11)), none⟩,
    ⟨(some 13), (.faddr 3 (.tmp 1)), none⟩,
    ⟨(some 14), (.load false 1 (.tmp 13)), none⟩,
    ⟨(some 15), (.faddr 5 (.tmp 1)), none⟩,
    ⟨(some 16), (.load false 1 (.tmp 15)), none⟩,
    ⟨(some 17), (.faddr 10 (.tmp 1)), none⟩,
    ⟨(some 18), (.load true 3 (.tmp 17)), none⟩,
    ⟨(some 19), (.faddr 13 (.tmp 1)), none⟩,
    ⟨(some 20), (.load false 1 (.tmp 19)), none⟩,
    ⟨(some 21), (.faddr 14 (.tmp 1)), none⟩,
    ⟨(some 22), (.load false 1 (.tmp 21)), none⟩,
    ⟨(some 23), (.faddr 17 (.tmp 1)), none⟩,
    ⟨(some 24), (.load false 1 (.tmp 23)), none⟩,
    ⟨(some 25), (.build [(.v (.string ⟨#[]⟩)), (.v (.int .i64 0)), (.v (.string ⟨#[]⟩)), (.v (.int .i64 0)), (.v (.string ⟨#[]⟩)), (.v (.int .i64 0)), (.v (.string ⟨#[]⟩)), (.v (.int .i64 0)), (.v (.int .i64 0)), (.v (.int .i64 0)), (.v (.int .i64 0)), (.v (.bool false)), (.v (.string ⟨#[]⟩)), (.v (.string ⟨#[]⟩)), (.v (.string ⟨#[]⟩)), (.v (.string ⟨#[]⟩)), (.v (.string ⟨#[]⟩))] [(0, (2, (.tmp 4))), (2, (2, (.tmp 6))), (4, (2, (.tmp 8))), (6, (2, (.tmp 10))), (8, (1, (.tmp 12))), (9, (1, (.tmp 14))), (10, (1, (.tmp 16))), (11, (3, (.tmp 18))), (14, (1, (.tmp 20))), (15, (1, (.tmp 22))), (16, (1, (.tmp 24)))]), none⟩,
    ⟨none, (.store 17 (.tmp 2) (.tmp 25)), none⟩])
  .ret))
def ir50 : AF := ⟨26, [(.cell 2 true 17)], b50⟩
theorem c50 : compF tt Try.f50 = some ir50 := by kernel_rfl
def b51 : AC := (.seq (.region 0 [
    ⟨(some 4), (.mov (.const (.bool false))), none⟩])
  (.seq (.seq (.region 0 [
    ⟨(some 6), (.mov (.tmp 0)), none⟩,
    ⟨(some 7), (.lenL (.tmp 6)), none⟩,
    ⟨(some 8), (.mov (.tmp 1)), none⟩,
    ⟨(some 9), (.lenL (.tmp 8)), none⟩,
    ⟨(some 10), (.binI .neq .i64 (.tmp 7) (.tmp 9)), none⟩])
  (.cond (.tmp 10) (.seq (.region 0 [
    ⟨(some 4), (.mov (.const (.bool false))), none⟩])
  .ret) .skip))
  (.seq (.seq (.region 0 [
    ⟨(some 11), (.mov (.tmp 0)), none⟩,
    ⟨(some 12), (.lenL (.tmp 11)), none⟩,
    ⟨(some 13), (.mov (.const (.int .i64 0))), none⟩])
  (.block 0 (.loop (.seq (.region 0 [
    ⟨(some 14), (.binI .lss .i64 (.tmp 13) (.tmp 12)), none⟩])
  (.seq (.cond (.tmp 14) .skip (.exit 0))
  (.seq (.block 1 (.seq (.region 0 [
    ⟨(some 15), (.mov (.tmp 13)), none⟩,
    ⟨(some 5), (.mov (.tmp 15)), none⟩])
  (.seq (.dregion 0 [
    ⟨(some 16), (.mov (.tmp 0)), none⟩,
    ⟨(some 17), (.mov (.tmp 5)), none⟩,
    ⟨(some 18), (.iaddr 2 (.tmp 16) (.tmp 17)), none⟩,
    ⟨(some 19), (.load true 2 (.tmp 18)), none⟩,
    ⟨(some 20), (.mov (.tmp 1)), none⟩,
    ⟨(some 21), (.mov (.tmp 5)), none⟩,
    ⟨(some 22), (.iaddr 2 (.tmp 20) (.tmp 21)), none⟩,
    ⟨(some 23), (.load true 2 (.tmp 22)), none⟩,
    ⟨(some 24), (.eqA true [.s, (.i .i64)] (.tmp 19) (.tmp 23)), none⟩] [[], [], [0, 1], [2], [], [], [4, 5], [6], [3, 7]])
  (.cond (.tmp 24) (.seq (.region 0 [
    ⟨(some 4), (.mov (.const (.bool false))), none⟩])
  .ret) .skip))))
  (.region 0 [
    ⟨(some 25), (.binI .add .i64 (.tmp 13) (.const (.int .i64 1))), none⟩,
    ⟨(some 13), (.mov (.tmp 25)), none⟩])))))))
  (.seq (.region 0 [
    ⟨(some 4), (.mov (.const (.bool true))), none⟩])
  .ret))))
def ir51 : AF := ⟨26, [(.tmp 4)], b51⟩
theorem c51 : compF tt Try.f51 = some ir51 := by kernel_rfl
end Go.Aw.Try

namespace Go.Aw.Try
open Go Go.Proofs Go.Aw
set_option maxRecDepth 100000
set_option maxHeartbeats 4000000
theorem k51 (a b : List Id) (ha : a.length < 4611686018427387904) : ACalls Try.prog G0 51 [.c (.d (.sl (a.map Id.row))), .c (.d (.sl (b.map Id.row)))] [] fun t H => t = .bool (decide (a = b)) ∧ H = [] := by
  refine acallsX (X := []) trivial tab hmix Try.func51 c51 (by rfl) fun hw => ?_
  by_cases hlen : a.length = b.length
  · simp (implicitDefEqProofs := false) (disch := omega) [List.getElem?_cons_zero, ir51, b51, wrap64, hlen]
    refine loopG (fun k s => ∃ i, i ≤ b.length ∧ k = b.length - i ∧ (∀ c, c < i → nth a c = nth b c) ∧
        s = ⟨ofL [(0, .v (.c (.d (.sl (a.map Id.row))))), (1, .v (.c (.d (.sl (b.map Id.row))))), (12, .int .i64 b.length), (13, .int .i64 i)], []⟩) ?_ ?_
    · refine wk_keep [0, 1, 12, 13] ⟨_, 0, by omega, rfl, fun c h => by omega, ?_⟩
      simp
    · rintro J hJ k s ⟨i, hi, rfl, hall, rfl⟩
      by_cases hlt : i < b.length
      · have hlt' : i < a.length := by omega
        obtain ⟨x, hx⟩ : ∃ x, nth a i = x := ⟨_, rfl⟩
        obtain ⟨y, hy⟩ : ∃ y, nth b i = y := ⟨_, rfl⟩
        by_cases hxy : x = y
        · subst hxy
          simp (implicitDefEqProofs := false) (disch := omega) [List.getElem?_cons_zero, hlt, hlt', hlen, wrap64, nth_map, hx, hy, Id.row, cellsEq, skEq]
          repeat' apply And.intro
          all_goals first | omega | kernel_rfl | skip
          subst hJ
          refine wk_keep [0, 1, 12, 13] ⟨b.length - (i + 1), by omega, i + 1, by omega, rfl, fun c hc => ?_, ?_⟩
          · by_cases hci : c = i
            · subst hci; rw [hx, hy]
            · exact hall c (by omega)
          · simp
        · have hne : ¬ (a = b) := fun h => hxy (by rw [← hx, ← hy, h])
          simp (implicitDefEqProofs := false) (disch := omega) [List.getElem?_cons_zero, hlt, hlt', hlen, wrap64, nth_map, hx, hy, Id.row, cellsEq, skEq]
          refine ⟨by kernel_rfl, ?_, fun q1 q2 => absurd ((Id.eq_iff x y).2 ⟨q1, q2⟩) hxy⟩
          intro _
          exact fin_nil ⟨by simp [hne], rfl⟩
      · simp (implicitDefEqProofs := false) (disch := omega) [List.getElem?_cons_zero, hlt, hlen]
        have : a = b := list_eq_nth hlen fun c hc => hall c (by omega)
        exact fin_nil ⟨by simp [this], rfl⟩
  · have hlen' : ¬ (a.length : Int) = b.length := by omega
    simp (implicitDefEqProofs := false) (disch := omega) [List.getElem?_cons_zero, ir51, b51, wrap64, hlen, hlen']
    exact fin_nil ⟨by simp; intro h; exact hlen (by rw [h]), rfl⟩
theorem irows_inj {l l' : List Id} (h : l.map Id.row = l'.map Id.row) : l = l' := map_inj (fun _ _ => Id.row_inj) h
noncomputable def x51 : XE := mkX true (fun (p : List Id × List Id) => [.c (.sl (p.1.map Id.row)), .c (.sl (p.2.map Id.row))]) (fun p => p.1.length < 4611686018427387904) (fun p => .bool (decide (p.1 = p.2)))
theorem kx51 : Contract Try.prog G0 51 x51 := mkX_scal (fun _ => rfl) fun p h => k51 p.1 p.2 h
theorem xg51 (a b : List Id) (h : a.length < 4611686018427387904) : x51.g [.c (.sl (a.map Id.row)), .c (.sl (b.map Id.row))] = some (True, .bool (decide (a = b))) :=
  mkX_g (fun a b h => by simp at h; exact Prod.ext (irows_inj h.1) (irows_inj h.2)) (a, b) h
def plainRow (e : Edit) : List D := [.v (.string e.id.a), .v (.int .i64 e.id.n), .v (.string e.node.a), .v (.int .i64 e.node.n), .v (.string e.parent.a), .v (.int .i64 e.parent.n), .v (.string e.target.a), .v (.int .i64 e.target.n), .v (.int .i64 e.clock), .v (.int .i64 e.floor), .v (.int .i64 e.kind), .v (.bool e.neg), .v (.string e.num), .v (.string e.den), .v (.string e.field), .v (.string e.value), .v (.string e.who)]
theorem k50 (e : Edit) (H : List O) : ACalls Try.prog G0 50 [.agg (e.row.map .d)] H fun t H' => t = .v (.agg ((plainRow e).map .d)) ∧ H' = H := by
  refine acallsX (X := []) trivial tab hmix Try.func50 c50 (by rfl) fun hw => ?_
  simp (implicitDefEqProofs := false) (disch := omega) [List.getElem?_cons_zero, ir50, b50, Edit.row, fillC, splice]
  exact fin_pre_pv (p := .agg (plainRow e)) (L' := [_, _]) hw (by simp [toPV, toDs, plainRow]) (by simp [frz, frz1]; exact ⟨rfl, rfl⟩) ⟨rfl, rfl⟩
noncomputable def x50 : XE := mkX false (fun (e : Edit) => [.agg e.row]) (fun _ => True) (fun e => .v (.agg ((plainRow e).map .d)))
theorem kx50 : Contract Try.prog G0 50 x50 := mkX_data fun p h H => k50 p H
theorem xg50 (e : Edit) : x50.g [.agg e.row] = some (True, .v (.agg ((plainRow e).map .d))) := mkX_g (fun a b h => by simp at h; exact Edit.row_inj h) e trivial
theorem k22 (a b : Edit) (ha : a.deps.length < 4611686018427387904) : ACalls Try.prog G0 22 [.agg (a.row.map .d), .agg (b.row.map .d)] [] fun t H => t = .bool (decide (a = b)) ∧ H = [] := by
  have h1 : x50.sc = false := rfl
  have h2 : x51.sc = true := rfl
  have g1 := xg50 a
  have g2 := xg50 b
  have g3 := xg51 a.deps b.deps ha
  simp only [Edit.row, plainRow, List.map_cons, List.map_nil] at g1 g2
  refine acallsX (X := [(50, x50), (51, x51)]) ⟨kx50, kx51, trivial⟩ tab hmix Try.func22 c22 (by rfl) fun hw => ?_
  simp (implicitDefEqProofs := false) (disch := omega) [List.getElem?_cons_zero, ir22, b22, Edit.row, h1, h2, g1, g2, g3, toPVs, frzVs, osVs, toPV, cellsEq, skEq]
  repeat' first | apply And.intro | intro _
  all_goals first | kernel_rfl | skip
  all_goals refine fin_nil ⟨?_, rfl⟩
  · simp [Edit.eq_iff, Id.eq_iff, *]
  · rename_i hq
    have hne : ¬ a = b := by
      intro h
      subst h
      simp at hq
    simp [hne]
noncomputable def x22 : XE := mkX true (fun (p : Edit × Edit) => [.agg p.1.row, .agg p.2.row]) (fun p => p.1.deps.length < 4611686018427387904) (fun p => .bool (decide (p.1 = p.2)))
theorem kx22 : Contract Try.prog G0 22 x22 := mkX_scal (fun _ => rfl) fun p h => k22 p.1 p.2 h
theorem xg22 (a b : Edit) (h : a.deps.length < 4611686018427387904) : x22.g [.agg a.row, .agg b.row] = some (True, .bool (decide (a = b))) := mkX_g inj2 (a, b) h
theorem sortE_idem (l : List Edit) : sortE (sortE l) = sortE l := by
  refine sortE_of (sortE_srt _) fun x => ?_
  rw [sortE_cls, sortE_cls, List.take_take]; rfl
theorem sortE_has {l : List Edit} {e : Edit} (h : e ∈ l) : ∃ x, x ∈ sortE l ∧ cmpE e x = 0 := by
  have h1 : cls cmpE e l ≠ [] := fun q => by
    have : e ∈ cls cmpE e l := mem_cls.2 ⟨h, cmpE_pre.rf e⟩
    rw [q] at this; cases this
  have h2 := sortE_cls l e
  cases hc : cls cmpE e l with
  | nil => exact absurd hc h1
  | cons y r =>
    rw [hc] at h2
    have : y ∈ cls cmpE e (sortE l) := by rw [h2]; simp
    exact ⟨y, (mem_cls.1 this).1, (mem_cls.1 this).2⟩
theorem sortE_lt {l : List Edit} {i : Nat} (h0 : 0 < i) (hi : i < (sortE l).length) : cmpE (nth (sortE l) (i - 1)) (nth (sortE l) i) < 0 := by
  have := List.pairwise_iff_getElem.1 (sortE_sst l) (i - 1) i (by omega) hi (by omega)
  rw [nth_eq (by omega), nth_eq hi]; exact this
theorem any_take {α : Type} [Inhabited α] (q : α → Bool) {l : List α} {i : Nat} (h : i < l.length) : (l.take (i + 1)).any q = ((l.take i).any q || q (nth l i)) := by
  rw [take_nth h, List.any_append]; simp
theorem k5 (l : List Edit) (hl : gtot l < 34359738368) : ACalls Try.prog G0 5 [.c (.d (.sl (l.map Edit.row)))] [] fun t H => t = .bool true ∧ H = [] := by
  have hlen := gtot_len l
  have h15 : x15.sc = true := rfl
  have h20 : x20.sc = false := rfl
  have h17 : x17.sc = true := rfl
  have h21 : x21.sc = true := rfl
  have h22 : x22.sc = true := rfl
  have g15 := xg15 l (by omega)
  have g20 := xg20 l (by omega)
  refine acallsX (X := [(15, x15), (16, x16), (20, x20), (17, x17), (21, x21), (22, x22)]) ⟨kx15, kx16, kx20, kx17, kx21, kx22, trivial⟩ tab hmix Try.func5 c5 (by rfl) fun hw => ?_
  obtain ⟨s, hs⟩ : ∃ s, s = sortE l := ⟨_, rfl⟩
  have hsl : s.length ≤ l.length := by rw [hs]; exact sortE_len l
  have hlt : ∀ i, 0 < i → i < s.length → cmpE (nth s (i - 1)) (nth s i) < 0 := fun i h0 hi => by rw [hs] at hi ⊢; exact sortE_lt h0 hi
  have hmem : ∀ i, i < s.length → nth s i ∈ l := fun i hi => sortE_mem (by rw [← hs]; exact nth_mem hi)
  have hhas : ∀ e ∈ l, ∃ x, x ∈ s ∧ cmpE e x = 0 := fun e he => by rw [hs]; exact sortE_has he
  rw [← hs] at g20
  by_cases hg : 1500 < gtot l
  · rw [if_pos hg] at g15
    simp (implicitDefEqProofs := false) (disch := omega) [List.getElem?_cons_zero, ir5, b5, b5_0, b5_1, h15, g15, x16]
    exact fin_nil ⟨rfl, rfl⟩
  · rw [if_neg hg] at g15
    have hsm := gtot_small (l := l) (n := 1500) (by omega) (by omega) (by omega)
    have hss : Small s := by rw [hs]; exact hsm.sort
    have g17 := xg17 s s hss hss.1
    have g20' := xg20 s hss.1
    rw [show sortE s = s by rw [hs]; exact sortE_idem l] at g20'
    simp (implicitDefEqProofs := false) (disch := omega) [List.getElem?_cons_zero, ir5, b5, b5_0, b5_1, b5_2, b5_3, h15, g15, x16, h20, g20, toPVs, frzVs, osVs, toPV, wrap64]
    refine loopE (fun k st => ∃ i, i ≤ s.length ∧ k = s.length - i ∧ st = ⟨ofL [(0, .v (.c (.d (.sl (l.map Edit.row))))), (3, .v (.c (.d (.sl (s.map Edit.row))))), (20, .int .i64 s.length), (21, .int .i64 i)], []⟩)
      (fun st => AtS [(0, .v (.c (.d (.sl (l.map Edit.row))))), (3, .v (.c (.d (.sl (s.map Edit.row)))))] [] st) ?_ ?_ ?_
    · refine wk_keep [0, 3, 20, 21] ⟨_, 0, by omega, rfl, ?_⟩
      simp
    · rintro J L hJ hL k st ⟨i, hi, rfl, rfl⟩
      by_cases hlt2 : i < s.length
      · have hcond : 0 < i → ¬ (0 : Int) ≤ cmpE (nth s (i - 1)) (nth s i) := fun h0 => by have := hlt i h0 hlt2; omega
        have n1 : ((i : Int) - 1).toNat = i - 1 := by omega
        have hsp : ∀ (e : Edit) {z : List C} (hz : z.length = 18), splice z 0 (e.row.map .d) = e.row.map .d := fun e z hz => (erow e).splz hz
        by_cases h0 : 0 < i
        · have hc := hcond h0
          have h0' : (0 : Int) < i := by omega
          simp (implicitDefEqProofs := false) (disch := omega) [List.getElem?_cons_zero, hlt2, h0, h0', hc, n1, wrap64, h21, xg21, nth_map, (erow _).len, take_of_len, (erow _).mapO, (erow _).tk, (erow _).nrm, borRow, (erow _).cl, borV_map, osR_map, frz_map, nth_set_ne, (erow _).spl (erow _)]
          refine ⟨by kernel_rfl, ⟨by omega, by omega⟩, ?_⟩
          refine loopE (fun c st => ∃ j, j ≤ l.length ∧ c = l.length - j ∧ st = ⟨ofL [(0, .v (.c (.d (.sl (l.map Edit.row))))), (3, .v (.c (.d (.sl (s.map Edit.row))))), (4, .int .i64 i), (5, .bool ((l.take j).any fun e => decide (e = nth s i))), (20, .int .i64 s.length), (21, .int .i64 i), (39, .v (.c (.d (.sl (l.map Edit.row))))), (40, .int .i64 l.length), (41, .int .i64 j)], []⟩)
            (fun st => AtS [(0, .v (.c (.d (.sl (l.map Edit.row))))), (3, .v (.c (.d (.sl (s.map Edit.row))))), (5, .bool true), (20, .int .i64 s.length), (21, .int .i64 i)] [] st) ?_ ?_ ?_
          · refine wk_keep [0, 3, 4, 5, 20, 21, 39, 40, 41] ⟨_, 0, by omega, rfl, ?_⟩
            simp
          · rintro J2 L2 hJ2 hL2 c st ⟨j, hj, rfl, rfl⟩
            by_cases hlt3 : j < l.length
            · have g22 := xg22 (nth l j) (nth s i) (hsm.2 _ (nth_mem hlt3))
              have hst := any_take (fun e => decide (e = nth s i)) hlt3
              have hfin : ∀ sl : Nat → T, sl 0 = .v (.c (.d (.sl (l.map Edit.row)))) → sl 3 = .v (.c (.d (.sl (s.map Edit.row)))) → sl 4 = .int .i64 i → sl 5 = .bool ((l.take (j + 1)).any fun e => decide (e = nth s i)) → sl 20 = .int .i64 s.length → sl 21 = .int .i64 i → sl 39 = .v (.c (.d (.sl (l.map Edit.row)))) → sl 40 = .int .i64 l.length → sl 41 = .int .i64 (j + 1 : Nat) → ∀ o,
                  wk Try.prog G0 0 ⟨sl, [o]⟩ fun s'' => ∃ k', k' < l.length - j ∧ J2 k' s'' := fun sl q0 q3 q4 q5 q20 q21 q39 q40 q41 o => by
                subst hJ2
                exact wk_junk (A := []) (L := [o]) [(0, .v (.c (.d (.sl (l.map Edit.row))))), (3, .v (.c (.d (.sl (s.map Edit.row))))), (4, .int .i64 i), (5, .bool ((l.take (j + 1)).any fun e => decide (e = nth s i))), (20, .int .i64 s.length), (21, .int .i64 i), (39, .v (.c (.d (.sl (l.map Edit.row))))), (40, .int .i64 l.length), (41, .int .i64 (j + 1 : Nat))] (by intro o ho; simp at ho) rfl (by simp [q0, q3, q4, q5, q20, q21, q39, q40, q41, T.lt, V.lt, C.lt]) ⟨l.length - (j + 1), by omega, j + 1, by omega, rfl, rfl⟩
              obtain ⟨fb, hfb⟩ : ∃ fb, (l.take j).any (fun e => decide (e = nth s i)) = fb := ⟨_, rfl⟩
              rw [hfb] at hst ⊢
              cases fb with
              | true =>
                simp (implicitDefEqProofs := false) (disch := first | omega | (simp only [List.length_cons, List.length_nil] <;> omega) | fail) [List.getElem?_cons_zero, hlt3, wrap64, h22, g22, hsp, nth_map, (erow _).len, take_of_len, (erow _).mapO, (erow _).tk, (erow _).nrm, borRow, (erow _).cl, borV_map, osR_map, frz_map, nth_set_ne, (erow _).spl (erow _)]
                refine ⟨by kernel_rfl, hfin _ (by simp) (by simp) (by simp) (by rw [hst]; simp) (by simp) (by simp) (by simp) (by simp) (by simp) _⟩
              | false =>
                simp (implicitDefEqProofs := false) (disch := first | omega | (simp only [List.length_cons, List.length_nil] <;> omega) | fail) [List.getElem?_cons_zero, hlt3, hlt2, wrap64, h22, g22, hsp, nth_map, (erow _).len, take_of_len, (erow _).mapO, (erow _).tk, (erow _).nrm, borRow, (erow _).cl, borV_map, osR_map, frz_map, nth_set_ne, (erow _).spl (erow _)]
                refine ⟨by kernel_rfl, ?_⟩
                repeat' apply And.intro
                all_goals first | kernel_rfl | omega | skip
                exact hfin _ (by simp) (by simp) (by simp) (by rw [hst]; simp) (by simp) (by simp) (by simp) (by simp) (by simp) _
            · simp (implicitDefEqProofs := false) (disch := omega) [List.getElem?_cons_zero, hlt3]
              subst hL2
              have : j = l.length := by omega
              subst this
              have : (l.any fun e => decide (e = nth s i)) = true := List.any_eq_true.2 ⟨nth s i, hmem i hlt2, by simp⟩
              exact at_mk (by simp [this]) rfl
          · rintro _ ⟨sl, rfl⟩
            simp (implicitDefEqProofs := false) (disch := omega) [List.getElem?_cons_zero, wrap64]
            subst hJ
            refine wk_keep [0, 3, 20, 21] ⟨s.length - (i + 1), by omega, i + 1, by omega, rfl, ?_⟩
            simp
        · have h0' : ¬ (0 : Int) < i := by omega
          simp (implicitDefEqProofs := false) (disch := omega) [List.getElem?_cons_zero, hlt2, h0, h0', wrap64, h21, xg21, nth_map, (erow _).len, take_of_len, (erow _).mapO, (erow _).tk, (erow _).nrm, borRow, (erow _).cl, borV_map, osR_map, frz_map, nth_set_ne, (erow _).spl (erow _)]
          refine ⟨by kernel_rfl, ?_⟩
          refine loopE (fun c st => ∃ j, j ≤ l.length ∧ c = l.length - j ∧ st = ⟨ofL [(0, .v (.c (.d (.sl (l.map Edit.row))))), (3, .v (.c (.d (.sl (s.map Edit.row))))), (4, .int .i64 i), (5, .bool ((l.take j).any fun e => decide (e = nth s i))), (20, .int .i64 s.length), (21, .int .i64 i), (39, .v (.c (.d (.sl (l.map Edit.row))))), (40, .int .i64 l.length), (41, .int .i64 j)], []⟩)
            (fun st => AtS [(0, .v (.c (.d (.sl (l.map Edit.row))))), (3, .v (.c (.d (.sl (s.map Edit.row))))), (5, .bool true), (20, .int .i64 s.length), (21, .int .i64 i)] [] st) ?_ ?_ ?_
          · refine wk_keep [0, 3, 4, 5, 20, 21, 39, 40, 41] ⟨_, 0, by omega, rfl, ?_⟩
            simp
          · rintro J2 L2 hJ2 hL2 c st ⟨j, hj, rfl, rfl⟩
            by_cases hlt3 : j < l.length
            · have g22 := xg22 (nth l j) (nth s i) (hsm.2 _ (nth_mem hlt3))
              have hst := any_take (fun e => decide (e = nth s i)) hlt3
              have hfin : ∀ sl : Nat → T, sl 0 = .v (.c (.d (.sl (l.map Edit.row)))) → sl 3 = .v (.c (.d (.sl (s.map Edit.row)))) → sl 4 = .int .i64 i → sl 5 = .bool ((l.take (j + 1)).any fun e => decide (e = nth s i)) → sl 20 = .int .i64 s.length → sl 21 = .int .i64 i → sl 39 = .v (.c (.d (.sl (l.map Edit.row)))) → sl 40 = .int .i64 l.length → sl 41 = .int .i64 (j + 1 : Nat) → ∀ o,
                  wk Try.prog G0 0 ⟨sl, [o]⟩ fun s'' => ∃ k', k' < l.length - j ∧ J2 k' s'' := fun sl q0 q3 q4 q5 q20 q21 q39 q40 q41 o => by
                subst hJ2
                exact wk_junk (A := []) (L := [o]) [(0, .v (.c (.d (.sl (l.map Edit.row))))), (3, .v (.c (.d (.sl (s.map Edit.row))))), (4, .int .i64 i), (5, .bool ((l.take (j + 1)).any fun e => decide (e = nth s i))), (20, .int .i64 s.length), (21, .int .i64 i), (39, .v (.c (.d (.sl (l.map Edit.row))))), (40, .int .i64 l.length), (41, .int .i64 (j + 1 : Nat))] (by intro o ho; simp at ho) rfl (by simp [q0, q3, q4, q5, q20, q21, q39, q40, q41, T.lt, V.lt, C.lt]) ⟨l.length - (j + 1), by omega, j + 1, by omega, rfl, rfl⟩
              obtain ⟨fb, hfb⟩ : ∃ fb, (l.take j).any (fun e => decide (e = nth s i)) = fb := ⟨_, rfl⟩
              rw [hfb] at hst ⊢
              cases fb with
              | true =>
                simp (implicitDefEqProofs := false) (disch := first | omega | (simp only [List.length_cons, List.length_nil] <;> omega) | fail) [List.getElem?_cons_zero, hlt3, wrap64, h22, g22, hsp, nth_map, (erow _).len, take_of_len, (erow _).mapO, (erow _).tk, (erow _).nrm, borRow, (erow _).cl, borV_map, osR_map, frz_map, nth_set_ne, (erow _).spl (erow _)]
                refine ⟨by kernel_rfl, hfin _ (by simp) (by simp) (by simp) (by rw [hst]; simp) (by simp) (by simp) (by simp) (by simp) (by simp) _⟩
              | false =>
                simp (implicitDefEqProofs := false) (disch := first | omega | (simp only [List.length_cons, List.length_nil] <;> omega) | fail) [List.getElem?_cons_zero, hlt3, hlt2, wrap64, h22, g22, hsp, nth_map, (erow _).len, take_of_len, (erow _).mapO, (erow _).tk, (erow _).nrm, borRow, (erow _).cl, borV_map, osR_map, frz_map, nth_set_ne, (erow _).spl (erow _)]
                refine ⟨by kernel_rfl, ?_⟩
                repeat' apply And.intro
                all_goals first | kernel_rfl | omega | skip
                exact hfin _ (by simp) (by simp) (by simp) (by rw [hst]; simp) (by simp) (by simp) (by simp) (by simp) (by simp) _
            · simp (implicitDefEqProofs := false) (disch := omega) [List.getElem?_cons_zero, hlt3]
              subst hL2
              have : j = l.length := by omega
              subst this
              have : (l.any fun e => decide (e = nth s i)) = true := List.any_eq_true.2 ⟨nth s i, hmem i hlt2, by simp⟩
              exact at_mk (by simp [this]) rfl
          · rintro _ ⟨sl, rfl⟩
            simp (implicitDefEqProofs := false) (disch := omega) [List.getElem?_cons_zero, wrap64]
            subst hJ
            refine wk_keep [0, 3, 20, 21] ⟨s.length - (i + 1), by omega, i + 1, by omega, rfl, ?_⟩
            simp
      · simp (implicitDefEqProofs := false) (disch := omega) [List.getElem?_cons_zero, hlt2]
        subst hL
        exact at_mk (by simp) (by simp)
    · rintro _ ⟨sl, rfl⟩
      simp (implicitDefEqProofs := false) (disch := omega) [List.getElem?_cons_zero, b5_4, b5_5, b5_6, wrap64]
      refine loopE (fun c st => ∃ i, i ≤ l.length ∧ c = l.length - i ∧ st = ⟨ofL [(3, .v (.c (.d (.sl (s.map Edit.row))))), (58, .v (.c (.d (.sl (l.map Edit.row))))), (59, .int .i64 l.length), (60, .int .i64 i)], []⟩)
        (fun st => AtS [(3, .v (.c (.d (.sl (s.map Edit.row)))))] [] st) ?_ ?_ ?_
      · refine wk_keep [3, 58, 59, 60] ⟨_, 0, by omega, rfl, ?_⟩
        simp
      · rintro J L hJ hL c st ⟨i, hi, rfl, rfl⟩
        by_cases hlt2 : i < l.length
        · have hsp : ∀ (e : Edit) {z : List C} (hz : z.length = 18), splice z 0 (e.row.map .d) = e.row.map .d := fun e z hz => (erow e).splz hz
          obtain ⟨e, he⟩ : ∃ e, nth l i = e := ⟨_, rfl⟩
          obtain ⟨x0, hx0, hx1⟩ := hhas e (by rw [← he]; exact nth_mem hlt2)
          simp (implicitDefEqProofs := false) (disch := first | omega | (simp only [List.length_cons, List.length_nil] <;> omega) | fail) [List.getElem?_cons_zero, hlt2, wrap64, he, hsp, nth_map, (erow _).len, take_of_len, (erow _).mapO, (erow _).tk, (erow _).nrm, borRow, (erow _).cl, borV_map, osR_map, frz_map, nth_set_ne, (erow _).spl (erow _)]
          refine loopE (fun c st => ∃ j, j ≤ s.length ∧ c = s.length - j ∧ st = ⟨ofL [(3, .v (.c (.d (.sl (s.map Edit.row))))), (9, .v (.c (.ptr 0 0))), (10, .bool ((s.take j).any fun x => decide (cmpE e x = 0))), (58, .v (.c (.d (.sl (l.map Edit.row))))), (59, .int .i64 l.length), (60, .int .i64 i), (64, .v (.c (.d (.sl (s.map Edit.row))))), (65, .int .i64 s.length), (66, .int .i64 j)], [.cells (e.row.map .d)]⟩)
            (fun st => AtS [(3, .v (.c (.d (.sl (s.map Edit.row))))), (10, .bool true), (58, .v (.c (.d (.sl (l.map Edit.row))))), (59, .int .i64 l.length), (60, .int .i64 i)] [.cells (e.row.map .d)] st) ?_ ?_ ?_
          · refine wk_keep [3, 9, 10, 58, 59, 60, 64, 65, 66] ⟨_, 0, by omega, rfl, ?_⟩
            simp
          · rintro J2 L2 hJ2 hL2 c st ⟨j, hj, rfl, rfl⟩
            by_cases hlt3 : j < s.length
            · have hst := any_take (fun x => decide (cmpE e x = 0)) hlt3
              have hfin : ∀ sl : Nat → T, sl 3 = .v (.c (.d (.sl (s.map Edit.row)))) → sl 9 = .v (.c (.ptr 0 0)) → sl 10 = .bool ((s.take (j + 1)).any fun x => decide (cmpE e x = 0)) → sl 58 = .v (.c (.d (.sl (l.map Edit.row)))) → sl 59 = .int .i64 l.length → sl 60 = .int .i64 i → sl 64 = .v (.c (.d (.sl (s.map Edit.row)))) → sl 65 = .int .i64 s.length → sl 66 = .int .i64 (j + 1 : Nat) → ∀ o,
                  wk Try.prog G0 0 ⟨sl, [.cells (e.row.map .d), o]⟩ fun s'' => ∃ k', k' < s.length - j ∧ J2 k' s'' := fun sl q3 q9 q10 q58 q59 q60 q64 q65 q66 o => by
                subst hJ2
                exact wk_junk2 (H := []) (M := [.cells (e.row.map .d)]) (L := [o]) [(3, .v (.c (.d (.sl (s.map Edit.row))))), (9, .v (.c (.ptr 0 0))), (10, .bool ((s.take (j + 1)).any fun x => decide (cmpE e x = 0))), (58, .v (.c (.d (.sl (l.map Edit.row))))), (59, .int .i64 l.length), (60, .int .i64 i), (64, .v (.c (.d (.sl (s.map Edit.row))))), (65, .int .i64 s.length), (66, .int .i64 (j + 1 : Nat))]
                  (by intro o ho; simp at ho) (by intro o ho; simp at ho; subst ho; intro c hc; simp at hc; obtain ⟨d, _, rfl⟩ := hc; trivial) rfl (by simp [q3, q9, q10, q58, q59, q60, q64, q65, q66, T.lt, V.lt, C.lt]) ⟨s.length - (j + 1), by omega, j + 1, by omega, rfl, rfl⟩
              obtain ⟨fb, hfb⟩ : ∃ fb, (s.take j).any (fun x => decide (cmpE e x = 0)) = fb := ⟨_, rfl⟩
              rw [hfb] at hst ⊢
              cases fb with
              | true =>
                simp (implicitDefEqProofs := false) (disch := first | omega | (simp only [List.length_cons, List.length_nil] <;> omega) | fail) [List.getElem?_cons_zero, hlt3, wrap64, hsp, h21, xg21, nth_map, (erow _).len, take_of_len, (erow _).mapO, (erow _).tk, (erow _).nrm, borRow, (erow _).cl, borV_map, osR_map, frz_map, nth_set_ne, (erow _).spl (erow _)]
                exact hfin _ (by simp) (by simp) (by rw [hst]; simp) (by simp) (by simp) (by simp) (by simp) (by simp) (by simp) _
              | false =>
                simp (implicitDefEqProofs := false) (disch := first | omega | (simp only [List.length_cons, List.length_nil] <;> omega) | fail) [List.getElem?_cons_zero, hlt3, wrap64, hsp, h21, xg21, nth_map, (erow _).len, take_of_len, (erow _).mapO, (erow _).tk, (erow _).nrm, borRow, (erow _).cl, borV_map, osR_map, frz_map, nth_set_ne, (erow _).spl (erow _)]
                exact hfin _ (by simp) (by simp) (by rw [hst]; simp) (by simp) (by simp) (by simp) (by simp) (by simp) (by simp) _
            · simp (implicitDefEqProofs := false) (disch := omega) [List.getElem?_cons_zero, hlt3]
              subst hL2
              have : j = s.length := by omega
              subst this
              have : (s.any fun x => decide (cmpE e x = 0)) = true := List.any_eq_true.2 ⟨x0, hx0, by simp [hx1]⟩
              exact at_mk (by simp [this]) rfl
          · rintro _ ⟨sl, rfl⟩
            simp (implicitDefEqProofs := false) (disch := omega) [List.getElem?_cons_zero, wrap64]
            subst hJ
            refine wk_junk (A := []) (L := [_]) [(3, .v (.c (.d (.sl (s.map Edit.row))))), (58, .v (.c (.d (.sl (l.map Edit.row))))), (59, .int .i64 l.length), (60, .int .i64 (i + 1 : Nat))] (by intro o ho; simp at ho) rfl (by simp [T.lt, V.lt, C.lt]) ⟨l.length - (i + 1), by omega, i + 1, by omega, rfl, rfl⟩
        · simp (implicitDefEqProofs := false) (disch := omega) [List.getElem?_cons_zero, hlt2]
          subst hL
          exact at_mk (by simp) rfl
      · rintro _ ⟨sl, rfl⟩
        simp (implicitDefEqProofs := false) (disch := omega) [List.getElem?_cons_zero, b5_5, b5_6, x16, h20, g20', h17, g17, toPVs, frzVs, osVs, toPV]
        exact fin_nil ⟨rfl, rfl⟩
end Go.Aw.Try
