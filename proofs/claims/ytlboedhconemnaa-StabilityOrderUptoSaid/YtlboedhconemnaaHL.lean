/- An abstract machine over the model, and contracts of functions of this program on it (part 12): words and lemmas for the proof in the last text. -/
import Derived.Shelf.Lays
import Derived.Sort.Grow
import Derived.Sort.EncStr
import Derived.Lib.SlicesCompact
import Derived.Shelf.Sort.Plain
import Derived.Shelf.Slices.CompactS
import Derived.Test.YtlboedhconemnaaHI
set_option linter.unusedSimpArgs false
set_option linter.unusedVariables false
set_option linter.unusedSectionVars false

namespace Go.Aw.Try
open Go Go.Proofs Go.Aw
set_option maxRecDepth 100000
set_option maxHeartbeats 4000000
def b13_0 : AC := (.region 1 [
    ⟨(some 3), (.box 0 (.tmp 1)), none⟩,
    ⟨(some 4), (.mov (.const (.bool false))), none⟩])
def b13_1 : AC := (.seq (.region 0 [
    ⟨(some 13), (.mov (.tmp 0)), none⟩,
    ⟨(some 14), (.call 15 [(.tmp 13)]), none⟩,
    ⟨(some 15), (.binI .gtr .i64 (.tmp 14) (.const (.int .i64 0))), none⟩,
    ⟨(some 16), (.mov (.tmp 15)), none⟩,
    ⟨(some 17), (.faddr 0 (.tmp 3)), (some (16, false))⟩,
    ⟨(some 18), (.load false 1 (.tmp 17)), (some (16, false))⟩,
    ⟨(some 19), (.lenS (.tmp 18)), (some (16, false))⟩,
    ⟨(some 20), (.binI .gtr .i64 (.tmp 19) (.const (.int .i64 100))), (some (16, false))⟩,
    ⟨(some 21), (.pick (.tmp 16) (.const (.bool true)) (.tmp 20)), none⟩])
  (.cond (.tmp 21) (.seq (.region 0 [
    ⟨(some 22), (.call 16 []), none⟩,
    ⟨(some 4), (.mov (.tmp 22)), none⟩])
  .ret) .skip))
def b13_2 : AC := (.region 0 [
    ⟨(some 23), (.mov (.tmp 0)), none⟩,
    ⟨(some 24), (.call 33 [(.tmp 23)]), none⟩,
    ⟨(some 25), (.mov (.tmp 0)), none⟩,
    ⟨(some 26), (.call 34 [(.tmp 25)]), none⟩,
    ⟨(some 5), (.mov (.tmp 24)), none⟩,
    ⟨(some 6), (.mov (.tmp 26)), none⟩])
def b13_3 : AC := (.seq (.region 0 [
    ⟨(some 27), (.mov (.tmp 5)), none⟩,
    ⟨(some 28), (.lenL (.tmp 27)), none⟩,
    ⟨(some 29), (.mov (.tmp 6)), none⟩,
    ⟨(some 30), (.lenL (.tmp 29)), none⟩,
    ⟨(some 31), (.binI .neq .i64 (.tmp 28) (.tmp 30)), none⟩])
  (.cond (.tmp 31) (.seq (.region 0 [
    ⟨(some 4), (.mov (.const (.bool false))), none⟩])
  .ret) .skip))
def b13_4 : AC := (.seq (.region 0 [
    ⟨(some 32), (.mov (.tmp 5)), none⟩,
    ⟨(some 33), (.lenL (.tmp 32)), none⟩,
    ⟨(some 34), (.mov (.const (.int .i64 0))), none⟩])
  (.block 0 (.loop (.seq (.region 0 [
    ⟨(some 35), (.binI .lss .i64 (.tmp 34) (.tmp 33)), none⟩])
  (.seq (.cond (.tmp 35) .skip (.exit 0))
  (.seq (.block 1 (.seq (.region 0 [
    ⟨(some 36), (.mov (.tmp 34)), none⟩,
    ⟨(some 7), (.mov (.tmp 36)), none⟩])
  (.seq (.dregion 0 [
    ⟨(some 37), (.mov (.tmp 5)), none⟩,
    ⟨(some 38), (.mov (.tmp 7)), none⟩,
    ⟨(some 39), (.iaddr 1 (.tmp 37) (.tmp 38)), none⟩,
    ⟨(some 40), (.load false 1 (.tmp 39)), none⟩,
    ⟨(some 41), (.mov (.tmp 6)), none⟩,
    ⟨(some 42), (.mov (.tmp 7)), none⟩,
    ⟨(some 43), (.iaddr 1 (.tmp 41) (.tmp 42)), none⟩,
    ⟨(some 44), (.load false 1 (.tmp 43)), none⟩,
    ⟨(some 45), (.binS .neq (.tmp 40) (.tmp 44)), none⟩] [[], [], [0, 1], [2], [], [], [4, 5], [6], [3, 7]])
  (.cond (.tmp 45) (.seq (.region 0 [
    ⟨(some 4), (.mov (.const (.bool false))), none⟩])
  .ret) .skip))))
  (.region 0 [
    ⟨(some 46), (.binI .add .i64 (.tmp 34) (.const (.int .i64 1))), none⟩,
    ⟨(some 34), (.mov (.tmp 46)), none⟩])))))))
def b13_5 : AC := (.region 0 [
    ⟨(some 48), (.mov (.tmp 0)), none⟩,
    ⟨(some 49), (.load true 2 (.tmp 3)), none⟩,
    ⟨(some 50), (.call 35 [(.tmp 48), (.tmp 49)]), none⟩,
    ⟨(some 47), (.mov (.tmp 50)), none⟩,
    ⟨(some 51), (.ext (.tmp 47) 0), none⟩,
    ⟨(some 52), (.ext (.tmp 47) 1), none⟩,
    ⟨(some 8), (.mov (.tmp 51)), none⟩,
    ⟨(some 9), (.mov (.tmp 52)), none⟩])
def b13_6 : AC := (.region 0 [
    ⟨(some 54), (.mov (.tmp 0)), none⟩,
    ⟨(some 55), (.load true 2 (.tmp 3)), none⟩,
    ⟨(some 56), (.call 36 [(.tmp 54), (.tmp 55)]), none⟩,
    ⟨(some 53), (.mov (.tmp 56)), none⟩,
    ⟨(some 57), (.ext (.tmp 53) 0), none⟩,
    ⟨(some 58), (.ext (.tmp 53) 1), none⟩,
    ⟨(some 10), (.mov (.tmp 57)), none⟩,
    ⟨(some 11), (.mov (.tmp 58)), none⟩])
def b13_7 : AC := (.seq (.region 0 [
    ⟨(some 59), (.mov (.tmp 0)), none⟩,
    ⟨(some 60), (.lenL (.tmp 59)), none⟩,
    ⟨(some 61), (.mov (.const (.int .i64 0))), none⟩])
  (.block 2 (.loop (.seq (.region 0 [
    ⟨(some 62), (.binI .lss .i64 (.tmp 61) (.tmp 60)), none⟩])
  (.seq (.cond (.tmp 62) .skip (.exit 2))
  (.seq (.block 3 (.seq (.region 0 [
    ⟨(some 63), (.mov (.tmp 61)), none⟩,
    ⟨(some 12), (.mov (.tmp 63)), none⟩])
  (.seq (.dregion 0 [
    ⟨(some 64), (.mov (.tmp 0)), none⟩,
    ⟨(some 65), (.iaddr 18 (.tmp 64) (.const (.int .i64 0))), none⟩,
    ⟨(some 66), (.load true 18 (.tmp 65)), none⟩,
    ⟨(some 67), (.mov (.tmp 0)), none⟩,
    ⟨(some 68), (.mov (.tmp 12)), none⟩,
    ⟨(some 69), (.iaddr 18 (.tmp 67) (.tmp 68)), none⟩,
    ⟨(some 70), (.load true 18 (.tmp 69)), none⟩,
    ⟨(some 71), (.call 22 [(.tmp 66), (.tmp 70)]), none⟩,
    ⟨(some 72), (.mov (.tmp 0)), none⟩,
    ⟨(some 73), (.iaddr 18 (.tmp 72) (.const (.int .i64 0))), none⟩,
    ⟨(some 74), (.load true 18 (.tmp 73)), none⟩,
    ⟨(some 75), (.mov (.tmp 0)), none⟩,
    ⟨(some 76), (.mov (.tmp 12)), none⟩,
    ⟨(some 77), (.iaddr 18 (.tmp 75) (.tmp 76)), none⟩,
    ⟨(some 78), (.load true 18 (.tmp 77)), none⟩,
    ⟨(some 79), (.call 37 [(.tmp 74), (.tmp 78)]), none⟩,
    ⟨(some 80), (.eqB true (.tmp 71) (.tmp 79)), none⟩] [[], [0], [1], [], [], [3, 4], [5], [2, 6], [], [8], [9], [], [], [11, 12], [13], [10, 14, 7], [7, 15]])
  (.cond (.tmp 80) (.seq (.region 0 [
    ⟨(some 4), (.mov (.const (.bool false))), none⟩])
  .ret) .skip))))
  (.region 0 [
    ⟨(some 81), (.binI .add .i64 (.tmp 61) (.const (.int .i64 1))), none⟩,
    ⟨(some 61), (.mov (.tmp 81)), none⟩])))))))
def b13_8 : AC := (.region 0 [
    ⟨(some 82), (.call 16 []), none⟩,
    ⟨(some 83), (.mov (.tmp 82)), none⟩,
    ⟨(some 84), (.mov (.tmp 0)), (some (83, true))⟩,
    ⟨(some 85), (.call 20 [(.tmp 84)]), (some (83, true))⟩,
    ⟨(some 86), (.mov (.tmp 0)), (some (83, true))⟩,
    ⟨(some 87), (.call 38 [(.tmp 86)]), (some (83, true))⟩,
    ⟨(some 88), (.call 17 [(.tmp 85), (.tmp 87)]), (some (83, true))⟩,
    ⟨(some 89), (.pick (.tmp 83) (.tmp 88) (.const (.bool false))), none⟩,
    ⟨(some 90), (.mov (.tmp 89)), none⟩,
    ⟨(some 91), (.mov (.tmp 8)), (some (90, true))⟩,
    ⟨(some 92), (.mov (.tmp 10)), (some (90, true))⟩,
    ⟨(some 93), (.binI .eql .i64 (.tmp 91) (.tmp 92)), (some (90, true))⟩,
    ⟨(some 94), (.pick (.tmp 90) (.tmp 93) (.const (.bool false))), none⟩,
    ⟨(some 95), (.mov (.tmp 94)), none⟩,
    ⟨(some 96), (.mov (.tmp 9)), (some (95, true))⟩,
    ⟨(some 97), (.mov (.tmp 11)), (some (95, true))⟩,
    ⟨(some 98), (.eqB false (.tmp 96) (.tmp 97)), (some (95, true))⟩,
    ⟨(some 99), (.pick (.tmp 95) (.tmp 98) (.const (.bool false))), none⟩,
    ⟨(some 4), (.mov (.tmp 99)), none⟩])
def b13_9 : AC := .ret
def b13 : AC := (.seq b13_0 (.seq b13_1 (.seq b13_2 (.seq b13_3 (.seq b13_4 (.seq b13_5 (.seq b13_6 (.seq b13_7 (.seq b13_8 b13_9)))))))))
def ir13 : AF := ⟨100, [(.tmp 4)], b13⟩
theorem c13 : compF tt Try.f13 = some ir13 := by kernel_rfl
def b33_0 : AC := (.region 0 [
    ⟨(some 2), (.mov (.const (.slice none 0 0))), none⟩])
def b33_1 : AC := (.region 1 [
    ⟨(some 9), (.mkmap 0 ⟨true, [.s, (.i .i64)]⟩), none⟩,
    ⟨(some 3), (.mov (.tmp 9)), none⟩])
def b33_2 : AC := (.region 0 [
    ⟨(some 4), (.mov (.const (.slice none 0 0))), none⟩])
def b33_3 : AC := (.seq (.region 0 [
    ⟨(some 10), (.mov (.tmp 0)), none⟩,
    ⟨(some 11), (.lenL (.tmp 10)), none⟩,
    ⟨(some 12), (.mov (.const (.int .i64 0))), none⟩])
  (.block 0 (.loop (.seq (.region 0 [
    ⟨(some 13), (.binI .lss .i64 (.tmp 12) (.tmp 11)), none⟩])
  (.seq (.cond (.tmp 13) .skip (.exit 0))
  (.seq (.block 1 (.seq (.region 1 [
    ⟨(some 14), (.iaddr 18 (.tmp 10) (.tmp 12)), none⟩,
    ⟨(some 15), (.load true 18 (.tmp 14)), none⟩,
    ⟨(some 6), (.zero 0 [(.v (.string ⟨#[]⟩)), (.v (.int .i64 0)), (.v (.int .i64 0)), (.v (.int .i64 0)), (.v (.slice none 0 0)), (.v (.int .i64 0)), (.v (.string ⟨#[]⟩)), (.v (.int .i64 0)), (.v (.string ⟨#[]⟩)), (.v (.int .i64 0)), (.v (.bool false)), (.v (.string ⟨#[]⟩)), (.v (.string ⟨#[]⟩)), (.v (.string ⟨#[]⟩)), (.v (.string ⟨#[]⟩)), (.v (.string ⟨#[]⟩)), (.v (.int .i64 0)), (.v (.string ⟨#[]⟩))]), none⟩,
    ⟨none, (.store 18 (.tmp 6) (.tmp 15)), none⟩])
  (.seq (.region 1 [
    ⟨(some 17), (.mov (.tmp 3)), none⟩,
    ⟨(some 18), (.faddr 0 (.tmp 6)), none⟩,
    ⟨(some 19), (.load true 2 (.tmp 18)), none⟩,
    ⟨(some 20), (.look ⟨true, [.s, (.i .i64)]⟩ (.agg [(.v (.string ⟨#[]⟩)), (.v (.int .i64 0)), (.v (.int .i64 0)), (.v (.int .i64 0)), (.v (.slice none 0 0)), (.v (.int .i64 0)), (.v (.string ⟨#[]⟩)), (.v (.int .i64 0)), (.v (.string ⟨#[]⟩)), (.v (.int .i64 0)), (.v (.bool false)), (.v (.string ⟨#[]⟩)), (.v (.string ⟨#[]⟩)), (.v (.string ⟨#[]⟩)), (.v (.string ⟨#[]⟩)), (.v (.string ⟨#[]⟩)), (.v (.int .i64 0)), (.v (.string ⟨#[]⟩))]) (.tmp 17) (.tmp 19) true), none⟩,
    ⟨(some 16), (.mov (.tmp 20)), none⟩,
    ⟨(some 21), (.ext (.tmp 16) 0), none⟩,
    ⟨(some 22), (.ext (.tmp 16) 1), none⟩,
    ⟨(some 7), (.zero 0 [(.v (.string ⟨#[]⟩)), (.v (.int .i64 0)), (.v (.int .i64 0)), (.v (.int .i64 0)), (.v (.slice none 0 0)), (.v (.int .i64 0)), (.v (.string ⟨#[]⟩)), (.v (.int .i64 0)), (.v (.string ⟨#[]⟩)), (.v (.int .i64 0)), (.v (.bool false)), (.v (.string ⟨#[]⟩)), (.v (.string ⟨#[]⟩)), (.v (.string ⟨#[]⟩)), (.v (.string ⟨#[]⟩)), (.v (.string ⟨#[]⟩)), (.v (.int .i64 0)), (.v (.string ⟨#[]⟩))]), none⟩,
    ⟨none, (.store 18 (.tmp 7) (.tmp 21)), none⟩,
    ⟨(some 8), (.mov (.tmp 22)), none⟩])
  (.block 2 (.seq (.region 0 [
    ⟨(some 24), (.mov (.tmp 8)), none⟩,
    ⟨(some 25), (.not (.tmp 24)), none⟩,
    ⟨(some 23), (.mov (.tmp 25)), none⟩])
  (.cond (.tmp 23) (.region 0 [
    ⟨(some 26), (.mov (.tmp 3)), none⟩,
    ⟨(some 27), (.faddr 0 (.tmp 6)), none⟩,
    ⟨(some 28), (.load true 2 (.tmp 27)), none⟩,
    ⟨(some 29), (.load true 18 (.tmp 6)), none⟩,
    ⟨none, (.mapup ⟨true, [.s, (.i .i64)]⟩ (.tmp 26) (.tmp 28) (.tmp 29)), none⟩]) (.seq (.region 0 [
    ⟨(some 31), (.load true 18 (.tmp 7)), none⟩,
    ⟨(some 32), (.load true 18 (.tmp 6)), none⟩,
    ⟨(some 33), (.call 22 [(.tmp 31), (.tmp 32)]), none⟩,
    ⟨(some 34), (.not (.tmp 33)), none⟩,
    ⟨(some 30), (.mov (.tmp 34)), none⟩])
  (.cond (.tmp 30) (.region 2 [
    ⟨(some 35), (.mov (.tmp 4)), none⟩,
    ⟨(some 36), (.faddr 0 (.tmp 6)), none⟩,
    ⟨(some 37), (.faddr 0 (.tmp 36)), none⟩,
    ⟨(some 38), (.load false 1 (.tmp 37)), none⟩,
    ⟨(some 39), (.bsl 0 1 [(.v (.string ⟨#[]⟩))] 1 [(0, (.tmp 38))]), none⟩,
    ⟨(some 40), (.app 1 1 16 (.tmp 35) (.tmp 39)), none⟩,
    ⟨(some 4), (.mov (.tmp 40)), none⟩]) .skip))))))))
  (.region 0 [
    ⟨(some 41), (.binI .add .i64 (.tmp 12) (.const (.int .i64 1))), none⟩,
    ⟨(some 12), (.mov (.tmp 41)), none⟩])))))))
def b33_4 : AC := (.region 0 [
    ⟨(some 42), (.mov (.tmp 4)), none⟩,
    ⟨(some 43), (.call 57 [(.tmp 42)]), none⟩])
def b33_5 : AC := (.region 0 [
    ⟨(some 44), (.mov (.tmp 4)), none⟩,
    ⟨(some 45), (.call 58 [(.tmp 44)]), none⟩,
    ⟨(some 2), (.mov (.tmp 45)), none⟩])
def b33_6 : AC := .ret
def b33 : AC := (.seq b33_0 (.seq b33_1 (.seq b33_2 (.seq b33_3 (.seq b33_4 (.seq b33_5 b33_6))))))
def ir33 : AF := ⟨46, [(.tmp 2)], b33⟩
theorem c33 : compF tt Try.f33 = some ir33 := by kernel_rfl
def b34 : AC := (.seq (.region 0 [
    ⟨(some 2), (.mov (.const (.slice none 0 0))), none⟩])
  (.seq (.region 1 [
    ⟨(some 6), (.bsl 0 1 [(.v (.string ⟨#[]⟩))] 0 []), none⟩,
    ⟨(some 3), (.mov (.tmp 6)), none⟩])
  (.seq (.seq (.region 0 [
    ⟨(some 4), (.mov (.const (.int .i64 0))), none⟩])
  (.block 0 (.loop (.seq (.seq (.region 0 [
    ⟨(some 7), (.mov (.tmp 4)), none⟩,
    ⟨(some 8), (.mov (.tmp 0)), none⟩,
    ⟨(some 9), (.lenL (.tmp 8)), none⟩,
    ⟨(some 10), (.binI .lss .i64 (.tmp 7) (.tmp 9)), none⟩])
  (.cond (.tmp 10) .skip (.exit 0)))
  (.seq (.block 1 (.seq (.region 0 [
    ⟨(some 5), (.mov (.const (.int .i64 0))), none⟩])
  (.block 2 (.loop (.seq (.seq (.region 0 [
    ⟨(some 13), (.mov (.tmp 5)), none⟩,
    ⟨(some 14), (.mov (.tmp 4)), none⟩,
    ⟨(some 15), (.binI .lss .i64 (.tmp 13) (.tmp 14)), none⟩])
  (.cond (.tmp 15) .skip (.exit 2)))
  (.seq (.block 3 (.seq (.dregion 0 [
    ⟨(some 18), (.mov (.tmp 0)), none⟩,
    ⟨(some 19), (.mov (.tmp 4)), none⟩,
    ⟨(some 20), (.iaddr 18 (.tmp 18) (.tmp 19)), none⟩,
    ⟨(some 21), (.faddr 0 (.tmp 20)), none⟩,
    ⟨(some 22), (.load true 2 (.tmp 21)), none⟩,
    ⟨(some 23), (.mov (.tmp 0)), none⟩,
    ⟨(some 24), (.mov (.tmp 5)), none⟩,
    ⟨(some 25), (.iaddr 18 (.tmp 23) (.tmp 24)), none⟩,
    ⟨(some 26), (.faddr 0 (.tmp 25)), none⟩,
    ⟨(some 27), (.load true 2 (.tmp 26)), none⟩,
    ⟨(some 28), (.eqA false [.s, (.i .i64)] (.tmp 22) (.tmp 27)), none⟩,
    ⟨(some 29), (.mov (.tmp 28)), none⟩,
    ⟨(some 30), (.mov (.tmp 0)), (some (29, true))⟩,
    ⟨(some 31), (.mov (.tmp 4)), (some (29, true))⟩,
    ⟨(some 32), (.iaddr 18 (.tmp 30) (.tmp 31)), (some (29, true))⟩,
    ⟨(some 33), (.load true 18 (.tmp 32)), (some (29, true))⟩,
    ⟨(some 34), (.mov (.tmp 0)), (some (29, true))⟩,
    ⟨(some 35), (.mov (.tmp 5)), (some (29, true))⟩,
    ⟨(some 36), (.iaddr 18 (.tmp 34) (.tmp 35)), (some (29, true))⟩,
    ⟨(some 37), (.load true 18 (.tmp 36)), (some (29, true))⟩,
    ⟨(some 38), (.call 37 [(.tmp 33), (.tmp 37)]), (some (29, true))⟩,
    ⟨(some 39), (.not (.tmp 38)), (some (29, true))⟩,
    ⟨(some 40), (.pick (.tmp 29) (.tmp 39) (.const (.bool false))), none⟩] [[], [], [0, 1], [2], [3], [], [], [5, 6], [7], [8], [4, 9], [10], [11], [11], [12, 13, 11], [14, 11], [11], [11], [16, 17, 11], [18, 11], [15, 19, 11, 11], [20, 11], [11, 21]])
  (.cond (.tmp 40) (.region 0 [
    ⟨(some 41), (.mov (.tmp 3)), none⟩,
    ⟨(some 42), (.mov (.tmp 0)), none⟩,
    ⟨(some 43), (.mov (.tmp 4)), none⟩,
    ⟨(some 44), (.iaddr 18 (.tmp 42) (.tmp 43)), none⟩,
    ⟨(some 45), (.faddr 0 (.tmp 44)), none⟩,
    ⟨(some 46), (.faddr 0 (.tmp 45)), none⟩,
    ⟨(some 47), (.load false 1 (.tmp 46)), none⟩,
    ⟨(some 48), (.call 59 [(.tmp 41), (.tmp 47)]), none⟩,
    ⟨(some 3), (.mov (.tmp 48)), none⟩]) .skip)))
  (.region 0 [
    ⟨(some 16), (.mov (.tmp 5)), none⟩,
    ⟨(some 17), (.binI .add .i64 (.tmp 16) (.const (.int .i64 1))), none⟩,
    ⟨(some 5), (.mov (.tmp 17)), none⟩])))))))
  (.region 0 [
    ⟨(some 11), (.mov (.tmp 4)), none⟩,
    ⟨(some 12), (.binI .add .i64 (.tmp 11) (.const (.int .i64 1))), none⟩,
    ⟨(some 4), (.mov (.tmp 12)), none⟩]))))))
  (.seq (.region 0 [
    ⟨(some 49), (.mov (.tmp 3)), none⟩,
    ⟨(some 2), (.mov (.tmp 49)), none⟩])
  .ret))))
def ir34 : AF := ⟨50, [(.tmp 2)], b34⟩
theorem c34 : compF tt Try.f34 = some ir34 := by kernel_rfl
def b36 : AC := (.seq (.region 1 [
    ⟨(some 3), (.box 0 (.tmp 1)), none⟩,
    ⟨(some 4), (.mov (.const (.int .i64 0))), none⟩,
    ⟨(some 5), (.mov (.const (.bool false))), none⟩])
  (.seq (.seq (.region 0 [
    ⟨(some 6), (.mov (.const (.int .i64 0))), none⟩])
  (.block 0 (.loop (.seq (.seq (.region 0 [
    ⟨(some 7), (.mov (.tmp 6)), none⟩,
    ⟨(some 8), (.mov (.tmp 0)), none⟩,
    ⟨(some 9), (.lenL (.tmp 8)), none⟩,
    ⟨(some 10), (.binI .lss .i64 (.tmp 7) (.tmp 9)), none⟩])
  (.cond (.tmp 10) .skip (.exit 0)))
  (.seq (.block 1 (.seq (.dregion 0 [
    ⟨(some 13), (.mov (.tmp 0)), none⟩,
    ⟨(some 14), (.mov (.tmp 6)), none⟩,
    ⟨(some 15), (.iaddr 18 (.tmp 13) (.tmp 14)), none⟩,
    ⟨(some 16), (.faddr 0 (.tmp 15)), none⟩,
    ⟨(some 17), (.load true 2 (.tmp 16)), none⟩,
    ⟨(some 18), (.load true 2 (.tmp 3)), none⟩,
    ⟨(some 19), (.eqA false [.s, (.i .i64)] (.tmp 17) (.tmp 18)), none⟩] [[], [], [0, 1], [2], [3], [], [4, 5]])
  (.cond (.tmp 19) (.seq (.region 0 [
    ⟨(some 20), (.mov (.tmp 6)), none⟩,
    ⟨(some 4), (.mov (.tmp 20)), none⟩,
    ⟨(some 5), (.mov (.const (.bool true))), none⟩])
  .ret) .skip)))
  (.region 0 [
    ⟨(some 11), (.mov (.tmp 6)), none⟩,
    ⟨(some 12), (.binI .add .i64 (.tmp 11) (.const (.int .i64 1))), none⟩,
    ⟨(some 6), (.mov (.tmp 12)), none⟩]))))))
  (.seq (.region 0 [
    ⟨(some 4), (.mov (.const (.int .i64 0))), none⟩,
    ⟨(some 5), (.mov (.const (.bool false))), none⟩])
  .ret)))
def ir36 : AF := ⟨21, [(.tmp 4), (.tmp 5)], b36⟩
theorem c36 : compF tt Try.f36 = some ir36 := by kernel_rfl
def b57 : AC := (.seq (.region 0 [
    ⟨(some 3), (.mov (.tmp 0)), none⟩,
    ⟨(some 4), (.lenL (.tmp 3)), none⟩,
    ⟨(some 2), (.mov (.tmp 4)), none⟩])
  (.region 0 [
    ⟨(some 5), (.mov (.tmp 0)), none⟩,
    ⟨(some 6), (.mov (.tmp 2)), none⟩,
    ⟨(some 7), (.mov (.tmp 2)), none⟩,
    ⟨(some 8), (.conv .u64 (.tmp 7)), none⟩,
    ⟨(some 9), (.call 75 [(.tmp 8)]), none⟩,
    ⟨(some 10), (.call 74 [(.tmp 5), (.const (.int .i64 0)), (.tmp 6), (.tmp 9)]), none⟩]))
def ir57 : AF := ⟨11, [], b57⟩
theorem c57 : compF tt Try.f57 = some ir57 := by kernel_rfl
def b59 : AC := (.seq (.region 0 [
    ⟨(some 4), (.mov (.const (.slice none 0 0))), none⟩])
  (.seq (.seq (.region 0 [
    ⟨(some 5), (.mov (.const (.int .i64 0))), none⟩])
  (.block 0 (.loop (.seq (.seq (.region 0 [
    ⟨(some 7), (.mov (.tmp 5)), none⟩,
    ⟨(some 8), (.mov (.tmp 0)), none⟩,
    ⟨(some 9), (.lenL (.tmp 8)), none⟩,
    ⟨(some 10), (.binI .lss .i64 (.tmp 7) (.tmp 9)), none⟩])
  (.cond (.tmp 10) .skip (.exit 0)))
  (.seq (.block 1 (.seq (.seq (.region 0 [
    ⟨(some 13), (.mov (.tmp 0)), none⟩,
    ⟨(some 14), (.mov (.tmp 5)), none⟩,
    ⟨(some 15), (.iaddr 1 (.tmp 13) (.tmp 14)), none⟩,
    ⟨(some 16), (.load false 1 (.tmp 15)), none⟩,
    ⟨(some 17), (.mov (.tmp 1)), none⟩,
    ⟨(some 18), (.binS .eql (.tmp 16) (.tmp 17)), none⟩])
  (.cond (.tmp 18) (.seq (.region 0 [
    ⟨(some 19), (.mov (.tmp 0)), none⟩,
    ⟨(some 4), (.mov (.tmp 19)), none⟩])
  .ret) .skip))
  (.seq (.region 0 [
    ⟨(some 20), (.mov (.tmp 0)), none⟩,
    ⟨(some 21), (.mov (.tmp 5)), none⟩,
    ⟨(some 22), (.iaddr 1 (.tmp 20) (.tmp 21)), none⟩,
    ⟨(some 23), (.load false 1 (.tmp 22)), none⟩,
    ⟨(some 24), (.mov (.tmp 1)), none⟩,
    ⟨(some 25), (.binS .gtr (.tmp 23) (.tmp 24)), none⟩])
  (.cond (.tmp 25) (.seq (.region 2 [
    ⟨(some 26), (.bsl 0 1 [(.v (.string ⟨#[]⟩))] 0 []), none⟩,
    ⟨(some 27), (.mov (.tmp 0)), none⟩,
    ⟨(some 28), (.mov (.tmp 5)), none⟩,
    ⟨(some 29), (.slice 1 (.tmp 27) none (some (.tmp 28))), none⟩,
    ⟨(some 30), (.app 1 1 16 (.tmp 26) (.tmp 29)), none⟩,
    ⟨(some 6), (.mov (.tmp 30)), none⟩])
  (.seq (.region 2 [
    ⟨(some 31), (.mov (.tmp 6)), none⟩,
    ⟨(some 32), (.mov (.tmp 1)), none⟩,
    ⟨(some 33), (.bsl 0 1 [(.v (.string ⟨#[]⟩))] 1 [(0, (.tmp 32))]), none⟩,
    ⟨(some 34), (.app 1 1 16 (.tmp 31) (.tmp 33)), none⟩,
    ⟨(some 6), (.mov (.tmp 34)), none⟩])
  (.seq (.region 1 [
    ⟨(some 35), (.mov (.tmp 6)), none⟩,
    ⟨(some 36), (.mov (.tmp 0)), none⟩,
    ⟨(some 37), (.mov (.tmp 5)), none⟩,
    ⟨(some 38), (.slice 1 (.tmp 36) (some (.tmp 37)) none), none⟩,
    ⟨(some 39), (.app 0 1 16 (.tmp 35) (.tmp 38)), none⟩,
    ⟨(some 4), (.mov (.tmp 39)), none⟩])
  .ret))) .skip))))
  (.region 0 [
    ⟨(some 11), (.mov (.tmp 5)), none⟩,
    ⟨(some 12), (.binI .add .i64 (.tmp 11) (.const (.int .i64 1))), none⟩,
    ⟨(some 5), (.mov (.tmp 12)), none⟩]))))))
  (.seq (.region 4 [
    ⟨(some 40), (.bsl 0 1 [(.v (.string ⟨#[]⟩))] 0 []), none⟩,
    ⟨(some 41), (.mov (.tmp 0)), none⟩,
    ⟨(some 42), (.app 1 1 16 (.tmp 40) (.tmp 41)), none⟩,
    ⟨(some 43), (.mov (.tmp 1)), none⟩,
    ⟨(some 44), (.bsl 2 1 [(.v (.string ⟨#[]⟩))] 1 [(0, (.tmp 43))]), none⟩,
    ⟨(some 45), (.app 3 1 16 (.tmp 42) (.tmp 44)), none⟩,
    ⟨(some 4), (.mov (.tmp 45)), none⟩])
  .ret)))
def ir59 : AF := ⟨46, [(.tmp 4)], b59⟩
theorem c59 : compF tt Try.f59 = some ir59 := by kernel_rfl
def b74_0 : AC := (.region 0 [
    ⟨(some 8), (.mov (.const (.bool true))), none⟩])
def b74_1 : AC := (.region 0 [
    ⟨(some 9), (.mov (.const (.bool true))), none⟩])
def b74_2 : AC := (.block 0 (.loop (.block 1 (.seq (.region 0 [
    ⟨(some 19), (.mov (.tmp 2)), none⟩,
    ⟨(some 20), (.mov (.tmp 1)), none⟩,
    ⟨(some 21), (.binI .sub .i64 (.tmp 19) (.tmp 20)), none⟩,
    ⟨(some 10), (.mov (.tmp 21)), none⟩])
  (.seq (.seq (.region 0 [
    ⟨(some 22), (.mov (.tmp 10)), none⟩,
    ⟨(some 23), (.binI .leq .i64 (.tmp 22) (.const (.int .i64 12))), none⟩])
  (.cond (.tmp 23) (.seq (.region 0 [
    ⟨(some 24), (.mov (.tmp 0)), none⟩,
    ⟨(some 25), (.mov (.tmp 1)), none⟩,
    ⟨(some 26), (.mov (.tmp 2)), none⟩,
    ⟨(some 27), (.call 84 [(.tmp 24), (.tmp 25), (.tmp 26)]), none⟩])
  .ret) .skip))
  (.seq (.seq (.region 0 [
    ⟨(some 28), (.mov (.tmp 3)), none⟩,
    ⟨(some 29), (.binI .eql .i64 (.tmp 28) (.const (.int .i64 0))), none⟩])
  (.cond (.tmp 29) (.seq (.region 0 [
    ⟨(some 30), (.mov (.tmp 0)), none⟩,
    ⟨(some 31), (.mov (.tmp 1)), none⟩,
    ⟨(some 32), (.mov (.tmp 2)), none⟩,
    ⟨(some 33), (.call 85 [(.tmp 30), (.tmp 31), (.tmp 32)]), none⟩])
  .ret) .skip))
  (.seq (.seq (.region 0 [
    ⟨(some 34), (.mov (.tmp 8)), none⟩,
    ⟨(some 35), (.not (.tmp 34)), none⟩])
  (.cond (.tmp 35) (.seq (.region 0 [
    ⟨(some 36), (.mov (.tmp 0)), none⟩,
    ⟨(some 37), (.mov (.tmp 1)), none⟩,
    ⟨(some 38), (.mov (.tmp 2)), none⟩,
    ⟨(some 39), (.call 86 [(.tmp 36), (.tmp 37), (.tmp 38)]), none⟩])
  (.region 0 [
    ⟨(some 40), (.mov (.tmp 3)), none⟩,
    ⟨(some 41), (.binI .sub .i64 (.tmp 40) (.const (.int .i64 1))), none⟩,
    ⟨(some 3), (.mov (.tmp 41)), none⟩])) .skip))
  (.seq (.region 0 [
    ⟨(some 43), (.mov (.tmp 0)), none⟩,
    ⟨(some 44), (.mov (.tmp 1)), none⟩,
    ⟨(some 45), (.mov (.tmp 2)), none⟩,
    ⟨(some 46), (.call 87 [(.tmp 43), (.tmp 44), (.tmp 45)]), none⟩,
    ⟨(some 42), (.mov (.tmp 46)), none⟩,
    ⟨(some 47), (.ext (.tmp 42) 0), none⟩,
    ⟨(some 48), (.ext (.tmp 42) 1), none⟩,
    ⟨(some 11), (.mov (.tmp 47)), none⟩,
    ⟨(some 12), (.mov (.tmp 48)), none⟩])
  (.seq (.seq (.region 0 [
    ⟨(some 49), (.mov (.tmp 12)), none⟩,
    ⟨(some 50), (.binI .eql .i64 (.tmp 49) (.const (.int .i64 2))), none⟩])
  (.cond (.tmp 50) (.seq (.region 0 [
    ⟨(some 51), (.mov (.tmp 0)), none⟩,
    ⟨(some 52), (.mov (.tmp 1)), none⟩,
    ⟨(some 53), (.mov (.tmp 2)), none⟩,
    ⟨(some 54), (.call 88 [(.tmp 51), (.tmp 52), (.tmp 53)]), none⟩])
  (.seq (.region 0 [
    ⟨(some 55), (.mov (.tmp 2)), none⟩,
    ⟨(some 56), (.binI .sub .i64 (.tmp 55) (.const (.int .i64 1))), none⟩,
    ⟨(some 57), (.mov (.tmp 11)), none⟩,
    ⟨(some 58), (.mov (.tmp 1)), none⟩,
    ⟨(some 59), (.binI .sub .i64 (.tmp 57) (.tmp 58)), none⟩,
    ⟨(some 60), (.binI .sub .i64 (.tmp 56) (.tmp 59)), none⟩,
    ⟨(some 11), (.mov (.tmp 60)), none⟩])
  (.region 0 [
    ⟨(some 12), (.mov (.const (.int .i64 1))), none⟩]))) .skip))
  (.seq (.seq (.region 0 [
    ⟨(some 61), (.mov (.tmp 8)), none⟩,
    ⟨(some 62), (.mov (.tmp 61)), none⟩,
    ⟨(some 63), (.mov (.tmp 9)), (some (62, true))⟩,
    ⟨(some 64), (.pick (.tmp 62) (.tmp 63) (.const (.bool false))), none⟩,
    ⟨(some 65), (.mov (.tmp 64)), none⟩,
    ⟨(some 66), (.mov (.tmp 12)), (some (65, true))⟩,
    ⟨(some 67), (.binI .eql .i64 (.tmp 66) (.const (.int .i64 1))), (some (65, true))⟩,
    ⟨(some 68), (.pick (.tmp 65) (.tmp 67) (.const (.bool false))), none⟩])
  (.cond (.tmp 68) (.seq (.region 0 [
    ⟨(some 69), (.mov (.tmp 0)), none⟩,
    ⟨(some 70), (.mov (.tmp 1)), none⟩,
    ⟨(some 71), (.mov (.tmp 2)), none⟩,
    ⟨(some 72), (.call 89 [(.tmp 69), (.tmp 70), (.tmp 71)]), none⟩])
  (.cond (.tmp 72) .ret .skip)) .skip))
  (.seq (.seq (.dregion 0 [
    ⟨(some 73), (.mov (.tmp 1)), none⟩,
    ⟨(some 74), (.binI .gtr .i64 (.tmp 73) (.const (.int .i64 0))), none⟩,
    ⟨(some 75), (.mov (.tmp 74)), none⟩,
    ⟨(some 76), (.mov (.tmp 0)), (some (75, true))⟩,
    ⟨(some 77), (.mov (.tmp 1)), (some (75, true))⟩,
    ⟨(some 78), (.binI .sub .i64 (.tmp 77) (.const (.int .i64 1))), (some (75, true))⟩,
    ⟨(some 79), (.iaddr 1 (.tmp 76) (.tmp 78)), (some (75, true))⟩,
    ⟨(some 80), (.load false 1 (.tmp 79)), (some (75, true))⟩,
    ⟨(some 81), (.mov (.tmp 0)), (some (75, true))⟩,
    ⟨(some 82), (.mov (.tmp 11)), (some (75, true))⟩,
    ⟨(some 83), (.iaddr 1 (.tmp 81) (.tmp 82)), (some (75, true))⟩,
    ⟨(some 84), (.load false 1 (.tmp 83)), (some (75, true))⟩,
    ⟨(some 85), (.call 90 [(.tmp 80), (.tmp 84)]), (some (75, true))⟩,
    ⟨(some 86), (.not (.tmp 85)), (some (75, true))⟩,
    ⟨(some 87), (.pick (.tmp 75) (.tmp 86) (.const (.bool false))), none⟩] [[], [0], [1], [2], [2], [4, 2], [3, 5, 2], [6, 2], [2], [2], [8, 9, 2], [10, 2], [7, 11, 2, 2], [12, 2], [2, 13]])
  (.cond (.tmp 87) (.seq (.region 0 [
    ⟨(some 88), (.mov (.tmp 0)), none⟩,
    ⟨(some 89), (.mov (.tmp 1)), none⟩,
    ⟨(some 90), (.mov (.tmp 2)), none⟩,
    ⟨(some 91), (.mov (.tmp 11)), none⟩,
    ⟨(some 92), (.call 91 [(.tmp 88), (.tmp 89), (.tmp 90), (.tmp 91)]), none⟩,
    ⟨(some 13), (.mov (.tmp 92)), none⟩])
  (.seq (.region 0 [
    ⟨(some 93), (.mov (.tmp 13)), none⟩,
    ⟨(some 1), (.mov (.tmp 93)), none⟩])
  (.exit 1))) .skip))
  (.seq (.region 0 [
    ⟨(some 95), (.mov (.tmp 0)), none⟩,
    ⟨(some 96), (.mov (.tmp 1)), none⟩,
    ⟨(some 97), (.mov (.tmp 2)), none⟩,
    ⟨(some 98), (.mov (.tmp 11)), none⟩,
    ⟨(some 99), (.call 92 [(.tmp 95), (.tmp 96), (.tmp 97), (.tmp 98)]), none⟩,
    ⟨(some 94), (.mov (.tmp 99)), none⟩,
    ⟨(some 100), (.ext (.tmp 94) 0), none⟩,
    ⟨(some 101), (.ext (.tmp 94) 1), none⟩,
    ⟨(some 14), (.mov (.tmp 100)), none⟩,
    ⟨(some 15), (.mov (.tmp 101)), none⟩])
  (.seq (.region 0 [
    ⟨(some 102), (.mov (.tmp 15)), none⟩,
    ⟨(some 9), (.mov (.tmp 102)), none⟩])
  (.seq (.region 0 [
    ⟨(some 103), (.mov (.tmp 14)), none⟩,
    ⟨(some 104), (.mov (.tmp 1)), none⟩,
    ⟨(some 105), (.binI .sub .i64 (.tmp 103) (.tmp 104)), none⟩,
    ⟨(some 106), (.mov (.tmp 2)), none⟩,
    ⟨(some 107), (.mov (.tmp 14)), none⟩,
    ⟨(some 108), (.binI .sub .i64 (.tmp 106) (.tmp 107)), none⟩,
    ⟨(some 16), (.mov (.tmp 105)), none⟩,
    ⟨(some 17), (.mov (.tmp 108)), none⟩])
  (.seq (.region 0 [
    ⟨(some 109), (.mov (.tmp 10)), none⟩,
    ⟨(some 110), (.binI .quo .i64 (.tmp 109) (.const (.int .i64 8))), none⟩,
    ⟨(some 18), (.mov (.tmp 110)), none⟩])
  (.seq (.region 0 [
    ⟨(some 111), (.mov (.tmp 16)), none⟩,
    ⟨(some 112), (.mov (.tmp 17)), none⟩,
    ⟨(some 113), (.binI .lss .i64 (.tmp 111) (.tmp 112)), none⟩])
  (.cond (.tmp 113) (.seq (.region 0 [
    ⟨(some 114), (.mov (.tmp 16)), none⟩,
    ⟨(some 115), (.mov (.tmp 18)), none⟩,
    ⟨(some 116), (.binI .geq .i64 (.tmp 114) (.tmp 115)), none⟩,
    ⟨(some 8), (.mov (.tmp 116)), none⟩])
  (.seq (.region 0 [
    ⟨(some 117), (.mov (.tmp 0)), none⟩,
    ⟨(some 118), (.mov (.tmp 1)), none⟩,
    ⟨(some 119), (.mov (.tmp 14)), none⟩,
    ⟨(some 120), (.mov (.tmp 3)), none⟩,
    ⟨(some 121), (.call 74 [(.tmp 117), (.tmp 118), (.tmp 119), (.tmp 120)]), none⟩])
  (.region 0 [
    ⟨(some 122), (.mov (.tmp 14)), none⟩,
    ⟨(some 123), (.binI .add .i64 (.tmp 122) (.const (.int .i64 1))), none⟩,
    ⟨(some 1), (.mov (.tmp 123)), none⟩]))) (.seq (.region 0 [
    ⟨(some 124), (.mov (.tmp 17)), none⟩,
    ⟨(some 125), (.mov (.tmp 18)), none⟩,
    ⟨(some 126), (.binI .geq .i64 (.tmp 124) (.tmp 125)), none⟩,
    ⟨(some 8), (.mov (.tmp 126)), none⟩])
  (.seq (.region 0 [
    ⟨(some 127), (.mov (.tmp 0)), none⟩,
    ⟨(some 128), (.mov (.tmp 14)), none⟩,
    ⟨(some 129), (.binI .add .i64 (.tmp 128) (.const (.int .i64 1))), none⟩,
    ⟨(some 130), (.mov (.tmp 2)), none⟩,
    ⟨(some 131), (.mov (.tmp 3)), none⟩,
    ⟨(some 132), (.call 74 [(.tmp 127), (.tmp 129), (.tmp 130), (.tmp 131)]), none⟩])
  (.region 0 [
    ⟨(some 133), (.mov (.tmp 14)), none⟩,
    ⟨(some 2), (.mov (.tmp 133)), none⟩]))))))))))))))))))))
def b74 : AC := (.seq b74_0 (.seq b74_1 b74_2))
def ir74 : AF := ⟨134, [], b74⟩
theorem c74 : compF tt Try.f74 = some ir74 := by kernel_rfl
def b75 : AC := (.seq (.region 0 [
    ⟨(some 2), (.mov (.const (.int .i64 0))), none⟩])
  (.seq (.cond (.const (.bool false)) (.seq (.region 0 [
    ⟨(some 3), (.mov (.tmp 0)), none⟩,
    ⟨(some 4), (.conv .u32 (.tmp 3)), none⟩,
    ⟨(some 5), (.call 93 [(.tmp 4)]), none⟩,
    ⟨(some 2), (.mov (.tmp 5)), none⟩])
  .ret) .skip)
  (.seq (.region 0 [
    ⟨(some 6), (.mov (.tmp 0)), none⟩,
    ⟨(some 7), (.call 94 [(.tmp 6)]), none⟩,
    ⟨(some 2), (.mov (.tmp 7)), none⟩])
  .ret)))
def ir75 : AF := ⟨8, [(.tmp 2)], b75⟩
theorem c75 : compF tt Try.f75 = some ir75 := by kernel_rfl
def b84 : AC := (.seq (.region 0 [
    ⟨(some 8), (.mov (.tmp 1)), none⟩,
    ⟨(some 9), (.binI .add .i64 (.tmp 8) (.const (.int .i64 1))), none⟩,
    ⟨(some 6), (.mov (.tmp 9)), none⟩])
  (.block 0 (.loop (.seq (.seq (.region 0 [
    ⟨(some 10), (.mov (.tmp 6)), none⟩,
    ⟨(some 11), (.mov (.tmp 2)), none⟩,
    ⟨(some 12), (.binI .lss .i64 (.tmp 10) (.tmp 11)), none⟩])
  (.cond (.tmp 12) .skip (.exit 0)))
  (.seq (.block 1 (.seq (.region 0 [
    ⟨(some 15), (.mov (.tmp 6)), none⟩,
    ⟨(some 7), (.mov (.tmp 15)), none⟩])
  (.block 2 (.loop (.seq (.seq (.dregion 0 [
    ⟨(some 16), (.mov (.tmp 7)), none⟩,
    ⟨(some 17), (.mov (.tmp 1)), none⟩,
    ⟨(some 18), (.binI .gtr .i64 (.tmp 16) (.tmp 17)), none⟩,
    ⟨(some 19), (.mov (.tmp 18)), none⟩,
    ⟨(some 20), (.mov (.tmp 0)), (some (19, true))⟩,
    ⟨(some 21), (.mov (.tmp 7)), (some (19, true))⟩,
    ⟨(some 22), (.iaddr 1 (.tmp 20) (.tmp 21)), (some (19, true))⟩,
    ⟨(some 23), (.load false 1 (.tmp 22)), (some (19, true))⟩,
    ⟨(some 24), (.mov (.tmp 0)), (some (19, true))⟩,
    ⟨(some 25), (.mov (.tmp 7)), (some (19, true))⟩,
    ⟨(some 26), (.binI .sub .i64 (.tmp 25) (.const (.int .i64 1))), (some (19, true))⟩,
    ⟨(some 27), (.iaddr 1 (.tmp 24) (.tmp 26)), (some (19, true))⟩,
    ⟨(some 28), (.load false 1 (.tmp 27)), (some (19, true))⟩,
    ⟨(some 29), (.call 90 [(.tmp 23), (.tmp 28)]), (some (19, true))⟩,
    ⟨(some 30), (.pick (.tmp 19) (.tmp 29) (.const (.bool false))), none⟩] [[], [], [0, 1], [2], [3], [3], [4, 5, 3], [6, 3], [3], [3], [9, 3], [8, 10, 3], [11, 3], [7, 12, 3, 3], [3, 13]])
  (.cond (.tmp 30) .skip (.exit 2)))
  (.seq (.block 3 (.dregion 0 [
    ⟨(some 33), (.mov (.tmp 0)), none⟩,
    ⟨(some 34), (.mov (.tmp 7)), none⟩,
    ⟨(some 35), (.mov (.tmp 0)), none⟩,
    ⟨(some 36), (.mov (.tmp 7)), none⟩,
    ⟨(some 37), (.binI .sub .i64 (.tmp 36) (.const (.int .i64 1))), none⟩,
    ⟨(some 38), (.mov (.tmp 0)), none⟩,
    ⟨(some 39), (.mov (.tmp 7)), none⟩,
    ⟨(some 40), (.binI .sub .i64 (.tmp 39) (.const (.int .i64 1))), none⟩,
    ⟨(some 41), (.iaddr 1 (.tmp 38) (.tmp 40)), none⟩,
    ⟨(some 42), (.load false 1 (.tmp 41)), none⟩,
    ⟨(some 43), (.mov (.tmp 0)), none⟩,
    ⟨(some 44), (.mov (.tmp 7)), none⟩,
    ⟨(some 45), (.iaddr 1 (.tmp 43) (.tmp 44)), none⟩,
    ⟨(some 46), (.load false 1 (.tmp 45)), none⟩,
    ⟨(some 47), (.iaddr 1 (.tmp 33) (.tmp 34)), none⟩,
    ⟨none, (.store 1 (.tmp 47) (.tmp 42)), none⟩,
    ⟨(some 48), (.iaddr 1 (.tmp 35) (.tmp 37)), none⟩,
    ⟨none, (.store 1 (.tmp 48) (.tmp 46)), none⟩] [[], [], [], [], [3], [], [], [6], [5, 7], [8], [], [], [10, 11], [12], [0, 1, 0, 1, 5, 6, 7, 8, 9, 13], [14, 9, 0, 1, 5, 6, 7, 8, 9, 13], [2, 4, 0, 1, 2, 3, 4, 5, 6, 7, 8, 9, 10, 11, 12, 13, 14, 15], [16, 13, 15, 0, 1, 2, 3, 4, 5, 6, 7, 8, 9, 10, 11, 12, 13, 14, 15]]))
  (.region 0 [
    ⟨(some 31), (.mov (.tmp 7)), none⟩,
    ⟨(some 32), (.binI .sub .i64 (.tmp 31) (.const (.int .i64 1))), none⟩,
    ⟨(some 7), (.mov (.tmp 32)), none⟩])))))))
  (.region 0 [
    ⟨(some 13), (.mov (.tmp 6)), none⟩,
    ⟨(some 14), (.binI .add .i64 (.tmp 13) (.const (.int .i64 1))), none⟩,
    ⟨(some 6), (.mov (.tmp 14)), none⟩]))))))
def ir84 : AF := ⟨49, [], b84⟩
theorem c84 : compF tt Try.f84 = some ir84 := by kernel_rfl
def b94 : AC := (.seq (.region 0 [
    ⟨(some 2), (.mov (.const (.int .i64 0))), none⟩])
  (.seq (.seq (.region 0 [
    ⟨(some 3), (.mov (.tmp 0)), none⟩,
    ⟨(some 4), (.binI .geq .u64 (.tmp 3) (.const (.int .u64 4294967296))), none⟩])
  (.cond (.tmp 4) (.seq (.region 0 [
    ⟨(some 5), (.mov (.tmp 0)), none⟩,
    ⟨(some 6), (.shf .shr .u64 (.tmp 5) (.const (.int .u64 32))), none⟩,
    ⟨(some 0), (.mov (.tmp 6)), none⟩])
  (.region 0 [
    ⟨(some 2), (.mov (.const (.int .i64 32))), none⟩])) .skip))
  (.seq (.seq (.region 0 [
    ⟨(some 7), (.mov (.tmp 0)), none⟩,
    ⟨(some 8), (.binI .geq .u64 (.tmp 7) (.const (.int .u64 65536))), none⟩])
  (.cond (.tmp 8) (.seq (.region 0 [
    ⟨(some 9), (.mov (.tmp 0)), none⟩,
    ⟨(some 10), (.shf .shr .u64 (.tmp 9) (.const (.int .u64 16))), none⟩,
    ⟨(some 0), (.mov (.tmp 10)), none⟩])
  (.region 0 [
    ⟨(some 11), (.mov (.tmp 2)), none⟩,
    ⟨(some 12), (.binI .add .i64 (.tmp 11) (.const (.int .i64 16))), none⟩,
    ⟨(some 2), (.mov (.tmp 12)), none⟩])) .skip))
  (.seq (.seq (.region 0 [
    ⟨(some 13), (.mov (.tmp 0)), none⟩,
    ⟨(some 14), (.binI .geq .u64 (.tmp 13) (.const (.int .u64 256))), none⟩])
  (.cond (.tmp 14) (.seq (.region 0 [
    ⟨(some 15), (.mov (.tmp 0)), none⟩,
    ⟨(some 16), (.shf .shr .u64 (.tmp 15) (.const (.int .u64 8))), none⟩,
    ⟨(some 0), (.mov (.tmp 16)), none⟩])
  (.region 0 [
    ⟨(some 17), (.mov (.tmp 2)), none⟩,
    ⟨(some 18), (.binI .add .i64 (.tmp 17) (.const (.int .i64 8))), none⟩,
    ⟨(some 2), (.mov (.tmp 18)), none⟩])) .skip))
  (.seq (.region 0 [
    ⟨(some 19), (.mov (.tmp 2)), none⟩,
    ⟨(some 20), (.mov (.tmp 0)), none⟩,
    ⟨(some 21), (.conv .u8 (.tmp 20)), none⟩,
    ⟨(some 22), (.index (.const (.string ⟨#[0, 1, 2, 2, 3, 3, 3, 3, 4, 4, 4, 4, 4, 4, 4, 4, 5, 5, 5, 5, 5, 5, 5, 5, 5, 5, 5, 5, 5, 5, 5, 5, 6, 6, 6, 6, 6, 6, 6, 6, 6, 6, 6, 6, 6, 6, 6, 6, 6, 6, 6, 6, 6, 6, 6, 6, 6, 6, 6, 6, 6, 6, 6, 6, 7, 7, 7, 7, 7, 7, 7, 7, 7, 7, 7, 7, 7, 7, 7, 7, 7, 7, 7, 7, 7, 7, 7, 7, 7, 7, 7, 7, 7, 7, 7, 7, 7, 7, 7, 7, 7, 7, 7, 7, 7, 7, 7, 7, 7, 7, 7, 7, 7, 7, 7, 7, 7, 7, 7, 7, 7, 7, 7, 7, 7, 7, 7, 7, 8, 8, 8, 8, 8, 8, 8, 8, 8, 8, 8, 8, 8, 8, 8, 8, 8, 8, 8, 8, 8, 8, 8, 8, 8, 8, 8, 8, 8, 8, 8, 8, 8, 8, 8, 8, 8, 8, 8, 8, 8, 8, 8, 8, 8, 8, 8, 8, 8, 8, 8, 8, 8, 8, 8, 8, 8, 8, 8, 8, 8, 8, 8, 8, 8, 8, 8, 8, 8, 8, 8, 8, 8, 8, 8, 8, 8, 8, 8, 8, 8, 8, 8, 8, 8, 8, 8, 8, 8, 8, 8, 8, 8, 8, 8, 8, 8, 8, 8, 8, 8, 8, 8, 8, 8, 8, 8, 8, 8, 8, 8, 8, 8, 8, 8, 8, 8, 8, 8, 8, 8, 8, 8, 8, 8, 8, 8, 8]⟩)) (.tmp 21)), none⟩,
    ⟨(some 23), (.conv .i64 (.tmp 22)), none⟩,
    ⟨(some 24), (.binI .add .i64 (.tmp 19) (.tmp 23)), none⟩,
    ⟨(some 2), (.mov (.tmp 24)), none⟩])
  .ret)))))
def ir94 : AF := ⟨25, [(.tmp 2)], b94⟩
theorem c94 : compF tt Try.f94 = some ir94 := by kernel_rfl
end Go.Aw.Try

namespace Go.Aw.Try
open Go Go.Proofs Go.Aw
set_option maxRecDepth 100000
set_option maxHeartbeats 4000000
/-! ### the sort of nothing -/
theorem k94z (H : List O) : ACalls Try.prog G0 94 [.c (.d (.v (.int .u64 0)))] H fun t H' => t = .int .i64 0 ∧ H' = H := by
  refine acallsX (X := []) trivial tab hmix Try.func94 c94 (by rfl) fun hw => ?_
  simp (implicitDefEqProofs := false) (disch := omega) [List.getElem?_cons_zero, ir94, b94, wrap64]
  exact ⟨⟨by decide, by decide⟩, fin_here (by simp) ⟨by kernel_rfl, rfl⟩⟩
theorem k75z (H : List O) : ACalls Try.prog G0 75 [.c (.d (.v (.int .u64 0)))] H fun t H' => t = .int .i64 0 ∧ H' = H := by
  refine acallsX (X := []) trivial tab hmix Try.func75 c75 (by rfl) fun hw => ?_
  simp (implicitDefEqProofs := false) (disch := omega) [List.getElem?_cons_zero, ir75, b75, wrap64]
  refine (k94z H).mono ?_
  rintro t H' ⟨rfl, rfl⟩
  simp (implicitDefEqProofs := false) (disch := omega) [List.getElem?_cons_zero, callK]
  exact fin_here (by simp) ⟨rfl, rfl⟩
theorem k84z (r : Nat) (H : List O) : ACalls Try.prog G0 84 [.c (.os r 1 0 0), I 0, I 0] H fun t H' => t = .tup [] ∧ H' = H := by
  refine acallsX (X := []) trivial tab hmix Try.func84 c84 (by rfl) fun hw => ?_
  simp (implicitDefEqProofs := false) (disch := omega) [List.getElem?_cons_zero, ir84, b84, wrap64]
  refine loopE (fun k s => s = ⟨ofL [(0, .v (.c (.os r 1 0 0))), (1, .int .i64 0), (2, .int .i64 0), (6, .int .i64 1)], H⟩) (fun s => AtS [] H s) ?_ ?_ ?_
  · refine wk_keep [0, 1, 2, 6] ⟨0, ?_⟩
    simp
  · rintro J L hJ hL k s rfl
    simp (implicitDefEqProofs := false) (disch := omega) [List.getElem?_cons_zero, wrap64]
    subst hL
    exact at_mk (by simp) rfl
  · rintro _ ⟨sl, rfl⟩
    simp (implicitDefEqProofs := false) (disch := omega) [List.getElem?_cons_zero, wrap64]
    exact fin_here (by simp) ⟨rfl, rfl⟩
theorem k74z (r : Nat) (H : List O) : ACalls Try.prog G0 74 [.c (.os r 1 0 0), I 0, I 0, I 0] H fun t H' => t = .tup [] ∧ H' = H := by
  refine acallsX (X := []) trivial tab hmix Try.func74 c74 (by rfl) fun hw => ?_
  simp (implicitDefEqProofs := false) (disch := omega) [List.getElem?_cons_zero, ir74, b74, b74_0, b74_1, b74_2, wrap64]
  refine loopE (fun k s => s = ⟨ofL [(0, .v (.c (.os r 1 0 0))), (1, .int .i64 0), (2, .int .i64 0), (3, .int .i64 0)], H⟩) (fun s => AtS [] H s) ?_ ?_ ?_
  · refine wk_keep [0, 1, 2, 3] ⟨0, ?_⟩
    simp
  · rintro J L hJ hL k s rfl
    simp (implicitDefEqProofs := false) (disch := omega) [List.getElem?_cons_zero, wrap64]
    refine (k84z r H).mono ?_
    rintro t H' ⟨rfl, rfl⟩
    simp (implicitDefEqProofs := false) (disch := omega) [List.getElem?_cons_zero, callK]
    exact fin_here (by simp) ⟨rfl, rfl⟩
  · rintro _ ⟨sl, rfl⟩
    simp (implicitDefEqProofs := false) (disch := omega) [List.getElem?_cons_zero, wrap64]
    exact fin_here (by simp) ⟨rfl, rfl⟩
theorem k57z (r : Nat) (H : List O) : ACalls Try.prog G0 57 [.c (.os r 1 0 0)] H fun t H' => t = .tup [] ∧ H' = H := by
  refine acallsX (X := []) trivial tab hmix Try.func57 c57 (by rfl) fun hw => ?_
  simp (implicitDefEqProofs := false) (disch := omega) [List.getElem?_cons_zero, ir57, b57, wrap64]
  have e0 : IntKind.u64.wrap 0 = 0 := by decide
  rw [e0]
  refine (k75z H).mono ?_
  rintro t H' ⟨rfl, rfl⟩
  simp (implicitDefEqProofs := false) (disch := omega) [List.getElem?_cons_zero, callK]
  refine (k74z r H').mono ?_
  rintro t H'' ⟨rfl, rfl⟩
  simp (implicitDefEqProofs := false) (disch := omega) [List.getElem?_cons_zero, callK]
  exact fin_here (by simp) ⟨rfl, rfl⟩
end Go.Aw.Try

namespace Go.Aw.Try
open Go Go.Proofs Go.Aw
set_option maxRecDepth 100000
set_option maxHeartbeats 4000000
/-! ### the library's functions, laid -/
/-- The numbers of the library's functions and types here. -/
def renS : Go.Shelf.Ren := ⟨fun n => match n with | 125 => 75 | 128 => 93 | 129 => 94 | 190 => 57 | 194 => 58 | 258 => 74 | 302 => 84 | 303 => 85 | 304 => 86 | 305 => 87 | 306 => 88 | 307 => 89 | 308 => 90 | 309 => 91 | 310 => 92 | 329 => 98 | 330 => 99 | 333 => 97 | 334 => 100 | 335 => 101 | 336 => 102 | 344 => 104 | _ => 0, fun n => match n with | 0 => 0 | 3 => 3 | 4 => 4 | 5 => 5 | 9 => 9 | 31 => 59 | 46 => 102 | 51 => 117 | 53 => 119 | 131 => 61 | 182 => 109 | 183 => 110 | 218 => 121 | 222 => 125 | 228 => 128 | 229 => 83 | _ => 0, fun n => n⟩
theorem ly190 : Lays.n190 Try.prog renS :=
  { mixed := hmix
    f125 := Try.func75.trans (by kernel_rfl)
    f128 := Try.func93.trans (by kernel_rfl)
    f129 := Try.func94.trans (by kernel_rfl)
    f190 := Try.func57.trans (by kernel_rfl)
    f258 := Try.func74.trans (by kernel_rfl)
    f302 := Try.func84.trans (by kernel_rfl)
    f303 := Try.func85.trans (by kernel_rfl)
    f304 := Try.func86.trans (by kernel_rfl)
    f305 := Try.func87.trans (by kernel_rfl)
    f306 := Try.func88.trans (by kernel_rfl)
    f307 := Try.func89.trans (by kernel_rfl)
    f308 := Try.func90.trans (by kernel_rfl)
    f309 := Try.func91.trans (by kernel_rfl)
    f310 := Try.func92.trans (by kernel_rfl)
    f329 := Try.func98.trans (by kernel_rfl)
    f330 := Try.func99.trans (by kernel_rfl)
    f333 := Try.func97.trans (by kernel_rfl)
    f334 := Try.func100.trans (by kernel_rfl)
    f335 := Try.func101.trans (by kernel_rfl)
    f336 := Try.func102.trans (by kernel_rfl)
    f344 := Try.func104.trans (by kernel_rfl)
    t0 := Try.underlying0
    a0 := Try.isAgg0
    z0 := Try.sizeOf0
    v0 := Try.zeroValue0
    t3 := Try.underlying3
    a3 := Try.isAgg3
    z3 := Try.sizeOf3
    v3 := Try.zeroValue3
    t4 := Try.underlying4
    a4 := Try.isAgg4
    z4 := Try.sizeOf4
    v4 := Try.zeroValue4
    t5 := Try.underlying5
    a5 := Try.isAgg5
    z5 := Try.sizeOf5
    v5 := Try.zeroValue5
    t9 := Try.underlying9
    a9 := Try.isAgg9
    z9 := Try.sizeOf9
    v9 := Try.zeroValue9
    t31 := Try.underlying59
    a31 := Try.isAgg59
    z31 := Try.sizeOf59
    v31 := Try.zeroValue59
    t46 := Try.underlying102
    a46 := Try.isAgg102
    z46 := Try.sizeOf102
    v46 := Try.zeroValue102
    t51 := Try.underlying117
    a51 := Try.isAgg117
    z51 := Try.sizeOf117
    v51 := Try.zeroValue117
    t53 := Try.underlying119
    a53 := Try.isAgg119
    z53 := Try.sizeOf119
    v53 := Try.zeroValue119
    t131 := Try.underlying61
    a131 := Try.isAgg61
    z131 := Try.sizeOf61
    v131 := Try.zeroValue61
    t182 := Try.underlying109
    a182 := Try.isAgg109
    z182 := Try.sizeOf109
    v182 := Try.zeroValue109
    t183 := Try.underlying110
    a183 := Try.isAgg110
    z183 := Try.sizeOf110
    v183 := Try.zeroValue110
    t218 := Try.underlying121
    a218 := Try.isAgg121
    z218 := Try.sizeOf121
    v218 := Try.zeroValue121
    t222 := Try.underlying125
    a222 := Try.isAgg125
    z222 := Try.sizeOf125
    v222 := Try.zeroValue125
    t228 := Try.underlying128
    a228 := Try.isAgg128
    z228 := Try.sizeOf128
    v228 := Try.zeroValue128
    t229 := Try.underlying83
    a229 := Try.isAgg83
    z229 := Try.sizeOf83
    v229 := Try.zeroValue83 }
theorem ly194 : Lays.n194 Try.prog renS :=
  { mixed := hmix
    f194 := Try.func58.trans (by kernel_rfl)
    t0 := Try.underlying0
    a0 := Try.isAgg0
    z0 := Try.sizeOf0
    v0 := Try.zeroValue0
    t3 := Try.underlying3
    a3 := Try.isAgg3
    z3 := Try.sizeOf3
    v3 := Try.zeroValue3
    t4 := Try.underlying4
    a4 := Try.isAgg4
    z4 := Try.sizeOf4
    v4 := Try.zeroValue4
    t9 := Try.underlying9
    a9 := Try.isAgg9
    z9 := Try.sizeOf9
    v9 := Try.zeroValue9
    t31 := Try.underlying59
    a31 := Try.isAgg59
    z31 := Try.sizeOf59
    v31 := Try.zeroValue59 }


end Go.Aw.Try

/- Rows of strings in the words of the library's sort: what its contracts say, as contracts of the abstract machine. -/
namespace Go.Aw
open Go Go.Proofs Go.Sort
/-- A string's bytes. -/
def bl (s : ByteArray) : List UInt8 := s.data.toList
def lb (l : List UInt8) : ByteArray := ⟨l.toArray⟩
theorem lb_bl (s : ByteArray) : lb (bl s) = s := by cases s; simp [lb, bl]
theorem bl_lb (l : List UInt8) : bl (lb l) = l := rfl
def srow (s : ByteArray) : List D := [.v (.string s)]
theorem enc_bl (s : ByteArray) : encStr (bl s) = .string s := by
  show Value.string (lb (bl s)) = _
  rw [lb_bl]
section
variable {P : Program} {G : Gl}
theorem putCells_size (d : Array (List UInt8)) (c : Array Value) : (putCells encStr 0 d c).size = c.size := by simp [putCells]
theorem putCells_get (ts : List ByteArray) (c : Array Value) {i : Nat} {s : ByteArray} (h : ts[i]? = some s) (hc : ts.length ≤ c.size) : (putCells encStr 0 (ts.map bl).toArray c)[i]? = some (.string s) := by
  have hi : i < ts.length := lt_of_get h
  simp only [putCells, Array.getElem?_mapIdx]
  rw [Array.getElem?_eq_getElem (by omega), Option.map_some]
  rw [if_pos ⟨by omega, by simp; omega⟩]
  have : (ts.map bl).toArray[i - 0]! = bl s := by
    rw [getElem!_pos (ts.map bl).toArray (i - 0) (by simp; omega)]
    simp
    rw [List.getElem?_eq_getElem hi] at h
    injection h with h
    rw [h]
  rw [this, enc_bl]
/-- The row's cells written anew; draws; blocks behind. -/
theorem row_put {ρ : Nat → Option Nat} {H : List O} {w : World} {r b : Nat} {c : Array Value} {e : TypeId} {ss ts : List ByteArray} (hH : HRel P ρ H w) (hr : H[r]? = some (.row 1 (ss.map srow))) (hρ : ρ r = some b)
    (hb : w.heap[b]? = some (.cells c e (0, 0))) (hc : ts.length ≤ c.size) (n : Nat) (os : Array Obj) :
    HRel P ρ (H.set r (.row 1 (ts.map srow))) (grow (putRow encStr (Sort.ahead w n) b 0 (ts.map bl).toArray) os) ∧
      (ctx ρ H w).le (ctx ρ (H.set r (.row 1 (ts.map srow))) (grow (putRow encStr (Sort.ahead w n) b 0 (ts.map bl).toArray) os)) := by
  have hlt : b < w.heap.size := (hH.small r b hρ).2
  have hsh : Obj.shape (.cells (putCells encStr 0 (ts.map bl).toArray c) e (0, 0)) = Obj.shape (.cells c e (0, 0)) := by simp [Obj.shape, putCells_size]
  have le1 := HRel.le_setB (ρ := ρ) (H := H) hr rfl hρ hb hsh (.row 1 (ts.map srow)) rfl
  have h1 : HRel P ρ (H.set r (.row 1 (ts.map srow))) (setB w b (.cells (putCells encStr 0 (ts.map bl).toArray c) e (0, 0))) := by
    refine hH.setB hr rfl hρ hb hsh (.row 1 (ts.map srow)) rfl ⟨by omega, .inr ⟨b, _, e, rfl, setB_same _ _ _ hlt, ?_, ?_, ?_⟩⟩
    · rw [putCells_size, List.length_map]; omega
    · intro x hx; obtain ⟨s, _, rfl⟩ := List.mem_map.1 hx; rfl
    · intro i x j d hi hj
      rw [List.getElem?_map] at hi
      cases hs : ts[i]? with
      | none => rw [hs] at hi; cases hi
      | some s =>
        rw [hs] at hi
        injection hi with hi
        subst hi
        cases j with
        | zero =>
          injection hj with hj
          subst hj
          exact ⟨.string s, by rw [Nat.mul_one]; exact putCells_get ts c hs hc, DRel.v _ rfl⟩
        | succ j => simp [srow] at hj
  have hheap : (putRow encStr (Sort.ahead w n) b 0 (ts.map bl).toArray).heap = (setB w b (.cells (putCells encStr 0 (ts.map bl).toArray c) e (0, 0))).heap := by
    show w.heap.modify b (onCells _) = w.heap.setIfInBounds b _
    apply Array.ext_getElem?
    intro i
    rw [Array.getElem?_modify]
    by_cases q : b = i
    · subst q
      rw [if_pos rfl, hb, Array.getElem?_setIfInBounds_self_of_lt hlt]
      rfl
    · rw [if_neg q, Array.getElem?_setIfInBounds_ne q]
  have hs : Step (allB (setB w b (.cells (putCells encStr 0 (ts.map bl).toArray c) e (0, 0)))) (setB w b (.cells (putCells encStr 0 (ts.map bl).toArray c) e (0, 0))) (allB (grow (putRow encStr (Sort.ahead w n) b 0 (ts.map bl).toArray) os)) (grow (putRow encStr (Sort.ahead w n) b 0 (ts.map bl).toArray) os) := by
    have key : ∀ k, k < (setB w b (.cells (putCells encStr 0 (ts.map bl).toArray c) e (0, 0))).heap.size → (grow (putRow encStr (Sort.ahead w n) b 0 (ts.map bl).toArray) os).heap[k]? = (setB w b (.cells (putCells encStr 0 (ts.map bl).toArray c) e (0, 0))).heap[k]? := fun k hk => by
      rw [heap_grow_old _ _ (by rw [hheap]; exact hk), hheap]
    have hsz : (setB w b (.cells (putCells encStr 0 (ts.map bl).toArray c) e (0, 0))).heap.size ≤ (grow (putRow encStr (Sort.ahead w n) b 0 (ts.map bl).toArray) os).heap.size := by
      rw [size_grow, hheap]; omega
    refine ⟨fun k hk => Nat.lt_of_lt_of_le hk hsz, fun k hk => key k hk, hsz, fun k e' m hk => ?_, rfl, rfl, rfl⟩
    have hk' : k < (setB w b (.cells (putCells encStr 0 (ts.map bl).toArray c) e (0, 0))).heap.size := by
      by_cases q : k < (setB w b (.cells (putCells encStr 0 (ts.map bl).toArray c) e (0, 0))).heap.size
      · exact q
      · simp only [World.shape?] at hk
        rw [Array.getElem?_eq_none (by omega)] at hk
        cases hk
    rw [shape_of_block (key k hk')]; exact hk
  obtain ⟨h2, le2⟩ := h1.grow hs
  exact ⟨h2, le1.trans le2⟩
/-- An own row of strings, as the sort's contracts see it. -/
theorem row_holds {ρ : Nat → Option Nat} {H : List O} {w : World} {r : Nat} {ss : List ByteArray} (hH : HRel P ρ H w) (hr : H[r]? = some (.row 1 (ss.map srow))) {v : Value} (hv : VRel P (ctx ρ H w) (.c (.os r 1 0 ss.length)) v) (h0 : ss ≠ []) :
    ∃ b c e cap, ρ r = some b ∧ w.heap[b]? = some (.cells c e (0, 0)) ∧ ss.length ≤ c.size ∧ ss.length ≤ cap ∧ v = .slice (some ⟨b, 0, none⟩) ss.length cap ∧ b < w.heap.size ∧ (∃ e' n', w.shape? b = some (e', n') ∧ cap ≤ n') ∧ Holds encStr w b 0 (ss.map bl).toArray := by
  have hp : 0 < ss.length := List.length_pos_iff.2 h0
  obtain ⟨_, h | ⟨b, cap, e, n, h1, h2, h3, h4, h5⟩⟩ := hv
  · omega
  have ho := (hH.objs r _ hr).2
  rcases ho with ⟨_, q⟩ | ⟨a, c, e', q1, q2, q3⟩
  · exact absurd (List.map_eq_nil_iff.1 q) h0
  have q1 : ρ r = some a := q1
  have h1 : ρ r = some b := h1
  rw [h1] at q1
  injection q1 with q1
  subst q1
  have hlen : ss.length ≤ c.size := by have := q3.1; rw [List.length_map] at this; omega
  refine ⟨b, c, e', cap, h1, q2, hlen, h3, by simpa using h2, (hH.small r b h1).2, ⟨e, n, h4, by simpa using h5⟩, fun j hj => ?_⟩
  have hj' : j < ss.length := by simpa using hj
  have hw : w.heap[b]? = some (.cells c e' (0, 0)) := q2
  obtain ⟨u, hu, hd⟩ := q3.2.2 j (srow (ss[j]'hj')) 0 (.v (.string (ss[j]'hj'))) (by simp [hj']) rfl
  have hu2 : u = .string (ss[j]'hj') := drel_v hd
  subst hu2
  rw [Nat.mul_one] at hu
  refine ⟨?_, by simp [World.frozen?, hw]⟩
  have e1 : w.cell? ⟨b, 0 + j, none⟩ = c[j]? := by simp [World.cell?, hw]
  rw [e1]
  have e2 : (ss.map bl).toArray[j]! = bl (ss[j]'hj') := by rw [getElem!_pos (ss.map bl).toArray j hj]; simp
  rw [e2, enc_bl]
  simpa using hu
end
end Go.Aw

/- Strings in order: the library's sort and compact, and the insertion into an ascending list. -/
namespace Go.Aw
open Go
/-- Strings, sorted. -/
def sortS (ss : List ByteArray) : List ByteArray := ((ss.map bl).mergeSort fun x y => decide (x ≤ y)).map lb
/-- Of neighbours that are equal, the first. -/
def compS (ss : List ByteArray) : List ByteArray := (Lib.compact (ss.map bl)).map lb
theorem map_bl_lb (l : List (List UInt8)) : (l.map lb).map bl = l := by
  rw [List.map_map]
  have : (bl ∘ lb) = id := by funext x; rfl
  rw [this, List.map_id]
theorem map_lb_bl (l : List ByteArray) : (l.map bl).map lb = l := by
  rw [List.map_map]
  have : (lb ∘ bl) = id := by funext x; exact lb_bl x
  rw [this, List.map_id]
theorem sortS_len (ss : List ByteArray) : (sortS ss).length = ss.length := by
  unfold sortS; rw [List.length_map, List.length_mergeSort, List.length_map]
theorem sortS_mem (ss : List ByteArray) (x : ByteArray) : x ∈ sortS ss ↔ x ∈ ss := by
  unfold sortS
  constructor
  · intro h
    obtain ⟨y, hy, rfl⟩ := List.mem_map.1 h
    obtain ⟨z, hz, rfl⟩ := List.mem_map.1 (List.mem_mergeSort.1 hy)
    rw [lb_bl]; exact hz
  · intro h
    exact List.mem_map.2 ⟨bl x, List.mem_mergeSort.2 (List.mem_map_of_mem h), lb_bl x⟩
theorem lt_cb : ∀ a b : List UInt8, a < b ↔ Lib.compareBytes a b < 0
  | [], [] => by simp [Lib.compareBytes]
  | [], _ :: _ => by simp [Lib.compareBytes]
  | _ :: _, [] => by simp [Lib.compareBytes]
  | x :: a, y :: b => by
    simp only [Lib.compareBytes]
    have h1 : ∀ p q : UInt8, p < q ↔ p.toNat < q.toNat := fun p q => UInt8.lt_iff_toNat_lt
    rw [List.cons_lt_cons_iff]
    by_cases c1 : x < y
    · simp [c1]
    · by_cases c2 : y < x
      · have : ¬ x = y := fun e => by subst e; rw [h1] at c2; omega
        simp [c1, c2, this]
      · have : x = y := by apply UInt8.toNat.inj; rw [h1] at c1 c2; omega
        subst this
        simp [c1, lt_cb a b]
theorem le_cb (a b : List UInt8) : a ≤ b ↔ Lib.compareBytes a b ≤ 0 := by
  have h1 := lt_cb b a
  have h2 := cb_sgn a b
  rw [← List.not_lt, h1]; omega
theorem sortS_pw (ss : List ByteArray) : (sortS ss).Pairwise fun a b => cmpS a b ≤ 0 := by
  unfold sortS
  rw [List.pairwise_map]
  have h := List.pairwise_mergeSort (le := fun x y : List UInt8 => decide (x ≤ y)) (fun a b c h k => by
    simp only [decide_eq_true_eq, le_cb] at *
    exact cb_tr a b c h k) (fun a b => by
    have := cb_sgn a b
    simp only [Bool.or_eq_true, decide_eq_true_eq, le_cb]; omega) (ss.map bl)
  refine h.imp fun {a b} hab => ?_
  simp only [decide_eq_true_eq, le_cb] at hab
  exact hab
/-- Strictly ascending. -/
def AscS (l : List ByteArray) : Prop := l.Pairwise fun a b => cmpS a b < 0
theorem compact_len {α : Type} [Inhabited α] [DecidableEq α] (zs : List α) : (Lib.compact zs).length ≤ zs.length := by
  unfold Lib.compact Lib.compactUpTo
  rw [List.length_map]
  exact Nat.le_trans (List.length_filter_le _ _) (by simp)
theorem arr_bang (l : List ByteArray) {i : Nat} (h : i < l.length) : (l.map bl).toArray[i]! = bl (l[i]'h) := by
  rw [getElem!_pos (l.map bl).toArray i (by simpa using h)]; simp
theorem compS_mem (l : List ByteArray) (x : ByteArray) : x ∈ compS l ↔ x ∈ l := by
  unfold compS Lib.compact Lib.compactUpTo
  rw [List.length_map]
  constructor
  · intro h
    obtain ⟨y, hy, rfl⟩ := List.mem_map.1 h
    obtain ⟨i, hi, rfl⟩ := List.mem_map.1 hy
    have hi' : i < l.length := List.mem_range.1 (List.mem_filter.1 hi).1
    show lb ((l.map bl).toArray[i]!) ∈ l
    rw [arr_bang l hi', lb_bl]
    exact List.getElem_mem hi'
  · intro h
    have key : ∀ i, ∀ hi : i < l.length, l[i]'hi = x → ∃ k, k < l.length ∧ Lib.keeps (l.map bl).toArray k = true ∧ (l.map bl).toArray[k]! = bl x := by
      intro i
      induction i with
      | zero => intro hi e; exact ⟨0, hi, by simp [Lib.keeps], by rw [arr_bang l hi, e]⟩
      | succ i ih =>
        intro hi e
        by_cases q : l[i]'(by omega) = x
        · exact ih (by omega) q
        · refine ⟨i + 1, hi, ?_, by rw [arr_bang l hi, e]⟩
          unfold Lib.keeps
          rw [decide_eq_true_eq]
          right
          rw [arr_bang l hi, show i + 1 - 1 = i by omega, arr_bang l (by omega), e]
          intro q'
          exact q (by rw [← lb_bl (l[i]'(by omega)), ← q', lb_bl])
    obtain ⟨i, hi, e⟩ := List.getElem_of_mem h
    obtain ⟨k, k1, k2, k3⟩ := key i hi e
    exact List.mem_map.2 ⟨bl x, List.mem_map.2 ⟨k, List.mem_filter.2 ⟨List.mem_range.2 k1, k2⟩, k3⟩, lb_bl x⟩
theorem compS_asc {l : List ByteArray} (h : l.Pairwise fun a b => cmpS a b ≤ 0) : AscS (compS l) := by
  unfold AscS compS Lib.compact Lib.compactUpTo
  rw [List.length_map, List.pairwise_map, List.pairwise_map, List.pairwise_filter]
  have hr : (List.range l.length).Pairwise fun i j => i < j ∧ j < l.length := by
    refine List.Pairwise.and List.pairwise_lt_range ?_
    rw [List.pairwise_iff_forall_sublist]
    intro a b hab
    exact List.mem_range.1 (hab.subset (by simp))
  refine hr.imp fun {i j} hij _ kj => ?_
  obtain ⟨h1, h2⟩ := hij
  rw [arr_bang l (by omega), arr_bang l h2, lb_bl, lb_bl]
  have le : ∀ p q, ∀ hp : p < l.length, ∀ hq : q < l.length, p ≤ q → cmpS (l[p]'hp) (l[q]'hq) ≤ 0 := by
    intro p q hp hq hpq
    by_cases e : p = q
    · subst e; rw [(cmpS_eq _ _).2 rfl]; omega
    · exact List.pairwise_iff_getElem.1 h p q hp hq (by omega)
  have hle := le i j (by omega) h2 (by omega)
  by_cases hz : cmpS (l[i]'(by omega)) (l[j]'h2) = 0
  · exfalso
    have e1 := (cmpS_eq _ _).1 hz
    have a1 := le i (j - 1) (by omega) (by omega) (by omega)
    have a2 := le (j - 1) j (by omega) h2 (by omega)
    unfold Lib.keeps at kj
    rw [decide_eq_true_eq, arr_bang l h2, arr_bang l (i := j - 1) (by omega)] at kj
    rcases kj with kj | kj
    · omega
    · apply kj
      rw [e1] at a1
      have s := cmpS_sgn (l[j]'h2) (l[j - 1]'(by omega))
      rw [(cmpS_eq (l[j]'h2) (l[j - 1]'(by omega))).1 (by omega)]
  · omega
theorem sorted_names (ss : List ByteArray) : AscS (compS (sortS ss)) ∧ ∀ x, x ∈ compS (sortS ss) ↔ x ∈ ss :=
  ⟨compS_asc (sortS_pw ss), fun x => by rw [compS_mem, sortS_mem]⟩
theorem ascS_ext : ∀ {l l' : List ByteArray}, AscS l → AscS l' → (∀ x, x ∈ l ↔ x ∈ l') → l = l'
  | [], [], _, _, _ => rfl
  | [], y :: l', _, _, h => by have := (h y).2 List.mem_cons_self; cases this
  | x :: l, [], _, _, h => by have := (h x).1 List.mem_cons_self; cases this
  | x :: l, y :: l', h1, h2, h => by
    obtain ⟨a1, a2⟩ := List.pairwise_cons.1 h1
    obtain ⟨b1, b2⟩ := List.pairwise_cons.1 h2
    have irr : ∀ z, ¬ cmpS z z < 0 := fun z => by rw [(cmpS_eq z z).2 rfl]; omega
    have exy : x = y := by
      rcases List.mem_cons.1 ((h x).1 List.mem_cons_self) with e | hx
      · exact e
      · rcases List.mem_cons.1 ((h y).2 List.mem_cons_self) with e | hy
        · exact e.symm
        · have c1 := a1 y hy
          have c2 := b1 x hx
          have := cmpS_sgn x y
          omega
    subst exy
    rw [ascS_ext a2 b2 fun z => ?_]
    constructor
    · intro hz
      rcases List.mem_cons.1 ((h z).1 (List.mem_cons_of_mem _ hz)) with e | hz'
      · subst e; exact absurd (a1 z hz) (irr z)
      · exact hz'
    · intro hz
      rcases List.mem_cons.1 ((h z).2 (List.mem_cons_of_mem _ hz)) with e | hz'
      · subst e; exact absurd (b1 z hz) (irr z)
      · exact hz'
/-- A name put into an ascending list. -/
def insS : List ByteArray → ByteArray → List ByteArray
  | [], s => [s]
  | x :: l, s => if x = s then x :: l else if 0 < cmpS x s then s :: x :: l else x :: insS l s
theorem insS_mem (l : List ByteArray) (s x : ByteArray) : x ∈ insS l s ↔ x ∈ l ∨ x = s := by
  induction l with
  | nil => simp [insS]
  | cons y l ih =>
    simp only [insS]
    split
    · rename_i e; subst e; simp; intro e; exact .inl e
    · split
      · simp; constructor
        · rintro (h | h | h) <;> simp [h]
        · rintro ((h | h) | h) <;> simp [h]
      · simp [ih]; constructor
        · rintro (h | h | h) <;> simp [h]
        · rintro ((h | h) | h) <;> simp [h]
theorem insS_asc {l : List ByteArray} (h : AscS l) (s : ByteArray) : AscS (insS l s) := by
  induction l with
  | nil => exact List.pairwise_singleton _ _
  | cons y l ih =>
    obtain ⟨a1, a2⟩ := List.pairwise_cons.1 h
    simp only [insS]
    split
    · exact h
    · rename_i hne
      split
      · rename_i hgt
        refine List.pairwise_cons.2 ⟨fun z hz => ?_, h⟩
        have hsy : cmpS s y < 0 := by have := cmpS_sgn y s; omega
        rcases List.mem_cons.1 hz with e | hz
        · subst e; exact hsy
        · have c := a1 z hz
          have t1 := cmpS_pre.tr s y z (by omega) (by omega)
          by_cases q : cmpS s z = 0
          · exfalso
            have e := (cmpS_eq _ _).1 q
            subst e
            have := cmpS_sgn y s
            omega
          · omega
      · rename_i hle
        have hys : cmpS y s < 0 := by
          have : cmpS y s ≠ 0 := fun q => hne ((cmpS_eq _ _).1 q)
          omega
        refine List.pairwise_cons.2 ⟨fun z hz => ?_, ih a2⟩
        rcases (insS_mem l s z).1 hz with hz | e
        · exact a1 z hz
        · subst e; exact hys
end Go.Aw

namespace Go.Aw.Try
open Go Go.Proofs Go.Aw
set_option maxRecDepth 100000
set_option maxHeartbeats 4000000
/-! ### the library's sort and compact, by the shelf's contracts -/
theorem one_arg {vs : Array Value} (h : vs.size = 1) : ∃ v, vs = #[v] := by
  obtain ⟨l⟩ := vs
  match l, h with
  | [v], _ => exact ⟨v, rfl⟩
theorem os_zero {k : K} {r : Nat} {v : Value} (h : VRel Try.prog k (.c (.os r 1 0 0)) v) : ∃ a cap, v = .slice a 0 cap := by
  obtain ⟨_, ⟨_, p, h⟩ | ⟨b, cap, e, n, _, h, _⟩⟩ := h
  · exact ⟨_, _, h⟩
  · exact ⟨_, _, h⟩
theorem k57 (ss : List ByteArray) (hl : ss.length < 4611686018427387904) (r : Nat) (H : List O) (hr : H[r]? = some (.row 1 (ss.map srow))) :
    ACalls Try.prog G0 57 [.c (.os r 1 0 ss.length)] H fun t H' => t = .tup [] ∧ H' = H.set r (.row 1 ((sortS ss).map srow)) := by
  by_cases h0 : ss = []
  · subst h0
    refine (k57z r H).mono ?_
    rintro t H' ⟨rfl, rfl⟩
    refine ⟨rfl, ?_⟩
    have e : sortS [] = [] := List.eq_nil_of_length_eq_zero (by rw [sortS_len]; rfl)
    rw [e]
    exact (set_self hr).symm
  · refine ⟨callable_of Try.func57 (by kernel_rfl) (by decide +kernel), fun ρ w vs hH hG hv => ?_⟩
    obtain ⟨v, rfl⟩ : ∃ v, vs = #[v] := one_arg hv.1
    obtain ⟨b, c, e, cap, q1, q2, q3, q4, q5, q6, q7, q8⟩ := row_holds hH hr (hv.2 0 _ v rfl rfl) h0
    subst q5
    have h := Any.slices_Sort_string (ρ := renS) ly190 b 0 cap (ss.map bl) w q8 q6 (by simpa using hl)
    rw [List.length_map] at h
    refine Calls.mono h ?_
    rintro e1 w' ⟨rfl, n, os, rfl⟩
    have e2 : (ss.map bl).mergeSort (fun x y => decide (x ≤ y)) = (sortS ss).map bl := (map_bl_lb _).symm
    rw [e2]
    obtain ⟨g1, g2⟩ := row_put hH hr q1 q2 (by rw [sortS_len]; exact q3) n os
    exact ⟨_, _, ρ, _, rfl, ⟨rfl, rfl⟩, g1, ⟨#[], rfl, rfl, fun i c v h => by simp at h⟩, g2⟩
theorem k58 (ss : List ByteArray) (hl : ss.length ≤ 9223372036854775807) (r : Nat) (H : List O) (hr : H[r]? = some (.row 1 (ss.map srow))) :
    ACalls Try.prog G0 58 [.c (.os r 1 0 ss.length)] H fun t H' => t = .v (.c (.os r 1 0 (compS ss).length)) ∧ ∃ Z, H' = H.set r (.row 1 ((compS ss ++ Z).map srow)) := by
  refine ⟨callable_of Try.func58 (by kernel_rfl) (by decide +kernel), fun ρ w vs hH hG hv => ?_⟩
  obtain ⟨v, rfl⟩ : ∃ v, vs = #[v] := one_arg hv.1
  have hv0 := hv.2 0 _ v rfl rfl
  by_cases h0 : ss = []
  · subst h0
    obtain ⟨a, cap, rfl⟩ := os_zero hv0
    have h := Any.slices_Compact_string_empty (ρ := renS) ly194 a cap w
    refine Calls.mono h ?_
    rintro e1 w' ⟨rfl, rfl⟩
    have e : compS [] = [] := by decide
    refine ⟨_, _, ρ, H, rfl, ⟨rfl, [], ?_⟩, hH, ?_, .refl _⟩
    · rw [e]; exact (set_self hr).symm
    · rw [e]; exact hv0
  · obtain ⟨b, c, e, cap, q1, q2, q3, q4, q5, q6, ⟨e', n', q7, q7'⟩, q8⟩ := row_holds hH hr hv0 h0
    subst q5
    have h := Any.slices_Compact_string (ρ := renS) ly194 b 0 cap (ss.map bl) w q8 (by simpa using hl) (by simpa using q4)
    rw [List.length_map] at h
    refine Calls.mono h ?_
    rintro e1 w' ⟨rfl, n, rfl⟩
    have hle : (Lib.compact (ss.map bl)).length ≤ ss.length := by have := compact_len (ss.map bl); rwa [List.length_map] at this
    have e2 : Lib.compact (ss.map bl) ++ List.replicate (ss.length - (Lib.compact (ss.map bl)).length) [] = (compS ss ++ List.replicate (ss.length - (Lib.compact (ss.map bl)).length) (⟨#[]⟩ : ByteArray)).map bl := by
      unfold compS
      rw [List.map_append, map_bl_lb, List.map_replicate]
      rfl
    rw [e2]
    have e3 : (compS ss).length = (Lib.compact (ss.map bl)).length := by unfold compS; rw [List.length_map]
    obtain ⟨g1, g2⟩ := row_put (ts := compS ss ++ List.replicate (ss.length - (Lib.compact (ss.map bl)).length) (⟨#[]⟩ : ByteArray)) hH hr q1 q2 (by rw [List.length_append, e3, List.length_replicate]; omega) n #[]
    rw [Sort.grow_empty] at g1 g2
    refine ⟨_, _, ρ, _, rfl, ⟨rfl, _, rfl⟩, g1, ?_, g2⟩
    refine ⟨by show r < (H.set r _).length; simpa using lt_of_get hr, .inr ⟨b, cap, e', n', q1, by rw [e3], by rw [e3]; omega, g2.step.shape _ _ _ q7, by simpa using q7'⟩⟩
end Go.Aw.Try

namespace Go.Aw.Try
open Go Go.Proofs Go.Aw
set_option maxRecDepth 100000
set_option maxHeartbeats 4000000
/-! ### forks -/
abbrev ktI : KT := ⟨true, [.s, .i .i64]⟩
abbrev encIE (m : List (Id × Edit)) : List (Value × PV) := encM (fun x => .agg #[.string x.a, .int .i64 x.n]) (fun e => .agg e.row) m
theorem keyI (a b : Id) : keyB (.agg #[.string a.a, .int .i64 a.n]) (.agg #[.string b.a, .int .i64 b.n]) = decide (a = b) := by
  cases a; cases b
  simp [keyB, valsB, valB]
  rfl
theorem mfind_IE (x : Id) (m : List (Id × Edit)) : mfind (encIE m) (.agg #[.string x.a, .int .i64 x.n]) = (alook m x).map fun e => .agg e.row := mfind_enc (ke := fun x : Id => .agg #[.string x.a, .int .i64 x.n]) keyI x m
theorem mput_IE (x : Id) (e : Edit) (m : List (Id × Edit)) : mput (encIE m) (.agg #[.string x.a, .int .i64 x.n]) (.agg e.row) = encIE (aput m x e) := mput_enc (ke := fun x : Id => .agg #[.string x.a, .int .i64 x.n]) (ve := fun e : Edit => .agg e.row) keyI x e m
theorem snoc_ind {α : Type} {p : List α → Prop} (nil : p []) (snoc : ∀ l e, p l → p (l ++ [e])) (l : List α) : p l := by
  have : ∀ l : List α, p l.reverse := by
    intro l
    induction l with
    | nil => exact nil
    | cons x r ih => rw [List.reverse_cons]; exact snoc _ _ ih
  have h := this l.reverse
  rwa [List.reverse_reverse] at h
def forkStep (s : List (Id × Edit) × List ByteArray) (e : Edit) : List (Id × Edit) × List ByteArray :=
  match alook s.1 e.id with
  | none => (aput s.1 e.id e, s.2)
  | some w => if w = e then s else (s.1, s.2 ++ [e.id.a])
def forkF (l : List Edit) : List (Id × Edit) × List ByteArray := l.foldl forkStep ([], [])
/-- The authors of different edits with one name. -/
def forksE (l : List Edit) : List ByteArray := compS (sortS (forkF l).2)
theorem forkF_snoc (l : List Edit) (e : Edit) : forkF (l ++ [e]) = forkStep (forkF l) e := by unfold forkF; rw [List.foldl_append]; rfl
theorem fork_look (l : List Edit) : ∀ a, alook (forkF l).1 a = l.find? fun e => decide (e.id = a) := by
  induction l using snoc_ind with
  | nil => intro a; rfl
  | snoc l e ih =>
    intro a
    rw [forkF_snoc, List.find?_append]
    unfold forkStep
    have h := ih e.id
    cases hq : alook (forkF l).1 e.id with
    | none =>
      rw [hq] at h
      show alook (aput (forkF l).1 e.id e) a = _
      rw [alook_aput]
      by_cases q : e.id = a
      · subst q
        rw [if_pos rfl, ← h]
        simp
      · rw [if_neg q, ih a]
        simp [q]
    | some w =>
      rw [hq] at h
      have hs : (if w = e then forkF l else ((forkF l).1, (forkF l).2 ++ [e.id.a])).1 = (forkF l).1 := by split <;> rfl
      show alook (if w = e then forkF l else ((forkF l).1, (forkF l).2 ++ [e.id.a])).1 a = _
      rw [hs, ih a]
      by_cases q : e.id = a
      · subst q; rw [← h]; rfl
      · simp [q]
theorem fork_out (l : List Edit) : ∀ x, x ∈ (forkF l).2 ↔ ∃ e ∈ l, e.id.a = x ∧ ∃ w, (l.find? fun y => decide (y.id = e.id)) = some w ∧ w ≠ e := by
  induction l using snoc_ind with
  | nil => intro x; simp [forkF]
  | snoc l e ih =>
    intro x
    have hl := fork_look l e.id
    have old : ∀ y ∈ l, ((l ++ [e]).find? fun z => decide (z.id = y.id)) = l.find? fun z => decide (z.id = y.id) := fun y hy => by
      rw [List.find?_append]
      cases hq : l.find? fun z => decide (z.id = y.id) with
      | some w => rfl
      | none => have := List.find?_eq_none.1 hq y hy; simp at this
    have new : (∃ w, ((l ++ [e]).find? fun z => decide (z.id = e.id)) = some w ∧ w ≠ e) ↔ ∃ w, alook (forkF l).1 e.id = some w ∧ w ≠ e := by
      rw [hl, List.find?_append]
      cases hq : l.find? fun z => decide (z.id = e.id) with
      | some w => simp
      | none => simp
    have step : x ∈ (forkF (l ++ [e])).2 ↔ x ∈ (forkF l).2 ∨ (e.id.a = x ∧ ∃ w, alook (forkF l).1 e.id = some w ∧ w ≠ e) := by
      rw [forkF_snoc]
      unfold forkStep
      cases hq : alook (forkF l).1 e.id with
      | none => simp
      | some w =>
        by_cases q : w = e
        · simp [q]
        · have q' : w ≠ e := q
          simp [q, eq_comm (a := x)]
    rw [step, ih x]
    constructor
    · rintro (⟨y, hy, h1, w, h2, h3⟩ | ⟨h1, h2⟩)
      · exact ⟨y, List.mem_append_left _ hy, h1, w, by rw [old y hy]; exact h2, h3⟩
      · exact ⟨e, by simp, h1, new.2 h2⟩
    · rintro ⟨y, hy, h1, h2⟩
      rcases List.mem_append.1 hy with hy | hy
      · obtain ⟨w, h2, h3⟩ := h2
        exact .inl ⟨y, hy, h1, w, by rw [← old y hy]; exact h2, h3⟩
      · rw [List.mem_singleton] at hy
        subst hy
        exact .inr ⟨h1, new.1 h2⟩
theorem fork_out_len (l : List Edit) : (forkF l).2.length ≤ l.length := by
  induction l using snoc_ind with
  | nil => simp [forkF]
  | snoc l e ih =>
    rw [forkF_snoc]
    unfold forkStep
    cases hq : alook (forkF l).1 e.id with
    | none => simp; omega
    | some w => by_cases q : w = e <;> simp [q] <;> omega
theorem compS_len (l : List ByteArray) : (compS l).length ≤ l.length := by
  unfold compS; rw [List.length_map]; have := compact_len (l.map bl); rwa [List.length_map] at this
theorem forksE_len (l : List Edit) : (forksE l).length ≤ l.length := by
  have h1 := compS_len (sortS (forkF l).2)
  have h2 := sortS_len (forkF l).2
  have h3 := fork_out_len l
  unfold forksE; omega
theorem k58' (ss : List ByteArray) (hl : ss.length ≤ 9223372036854775807) (r : Nat) (H : List O) (hr : H[r]? = some (.row 1 (ss.map srow))) :
    ACalls Try.prog G0 58 [.c (.os r 1 0 ss.length)] H fun t H' => t = .v (.c (.os r 1 0 (compS ss).length)) ∧ H' = H.set r (.row 1 ((compS ss).map srow)) := by
  refine acalls_fin (k58 ss hl r H hr) fun hw t H' h => ?_
  obtain ⟨rfl, Z, rfl⟩ := h
  have hlt : r < H.length := lt_of_get hr
  refine ⟨_, _, fweak_take (xs := (compS ss).map srow) (ys := Z.map srow) (by rw [List.getElem?_set_self hlt, List.map_append]) (by simp), rfl, ?_⟩
  rw [List.set_set]
theorem k33 (l : List Edit) (hl : Small l) (H : List O) : ACalls Try.prog G0 33 [.c (.d (.sl (l.map Edit.row)))] H (Own H 1 ((forksE l).map srow)) := by
  have hlen := hl.1
  have h22 : x22.sc = true := rfl
  refine acallsX (X := [(22, x22)]) ⟨kx22, trivial⟩ tab hmix Try.func33 c33 (by rfl) fun hw => ?_
  simp (implicitDefEqProofs := false) (disch := omega) [List.getElem?_cons_zero, ir33, b33, b33_0, b33_1, b33_2, b33_3, wrap64]
  refine loopE (fun k st => ∃ i, i ≤ l.length ∧ k = l.length - i ∧
      st = ⟨ofL [(3, .v (.c (.mp H.length))), (4, .v (.c (.os (H.length + 1) 1 0 (forkF (l.take i)).2.length))), (10, .v (.c (.d (.sl (l.map Edit.row))))), (11, .int .i64 l.length), (12, .int .i64 i)],
        H ++ [.map ktI (encIE (forkF (l.take i)).1), .row 1 ((forkF (l.take i)).2.map srow)]⟩)
    (fun st => AtS [(4, .v (.c (.os (H.length + 1) 1 0 (forkF l).2.length)))] (H ++ [.map ktI (encIE (forkF l).1), .row 1 ((forkF l).2.map srow)]) st) ?_ ?_ ?_
  · refine wk_nil_os 4 1 (by omega) (by simp) ?_
    refine wk_keep [3, 4, 10, 11, 12] ⟨_, 0, by omega, rfl, ?_⟩
    simp [forkF, encM]
  · rintro J L hJ hL k st ⟨i, hi, rfl, rfl⟩
    by_cases hlt : i < l.length
    · obtain ⟨e, he⟩ : ∃ e, nth l i = e := ⟨_, rfl⟩
      have hee : e.row = [.v (.string e.id.a), .v (.int .i64 e.id.n), .v (.int .i64 e.clock), .v (.int .i64 e.floor), .sl (e.deps.map Id.row), .v (.int .i64 e.kind), .v (.string e.node.a), .v (.int .i64 e.node.n), .v (.string e.parent.a), .v (.int .i64 e.parent.n), .v (.bool e.neg), .v (.string e.num), .v (.string e.den), .v (.string e.field), .v (.string e.value), .v (.string e.target.a), .v (.int .i64 e.target.n), .v (.string e.who)] := rfl
      obtain ⟨m, hm⟩ : ∃ m, m = (forkF (l.take i)).1 := ⟨_, rfl⟩
      obtain ⟨out, ho⟩ : ∃ out, out = (forkF (l.take i)).2 := ⟨_, rfl⟩
      have hol : out.length ≤ l.length := by have := fork_out_len (l.take i); rw [ho]; simp at this; omega
      have hstep : forkF (l.take (i + 1)) = forkStep (m, out) e := by rw [take_nth hlt, he, forkF_snoc, hm, ho]
      have hf := mfind_IE e.id m
      rw [← hm, ← ho]
      cases ha : alook m e.id with
      | none =>
        have h1 : forkStep (m, out) e = (aput m e.id e, out) := by unfold forkStep; simp only [ha]
        rw [ha] at hf
        have hp := mput_IE e.id e m
        rw [hee] at hp
        simp (implicitDefEqProofs := false) (disch := omega) [List.getElem?_cons_zero, hlt, wrap64, nth_map, he, hee, hf, hp, splice, conf, sksOk, skOk, PV.toV, toPV, toDs]
        repeat' (with_reducible apply And.intro)
        all_goals first | omega | kernel_rfl | skip
        subst hJ
        refine wk_pre [0, 1] [3, 4, 10, 11, 12] hw rfl ⟨l.length - (i + 1), by omega, i + 1, by omega, rfl, ?_⟩
        rw [hstep, h1]; simp [phi, O.ren]
      | some w =>
        have hwl : w ∈ l := by
          have := fork_look (l.take i) e.id
          rw [← hm, ha] at this
          exact List.mem_of_mem_take (List.mem_of_find?_eq_some this.symm)
        have hwe : w.row = [.v (.string w.id.a), .v (.int .i64 w.id.n), .v (.int .i64 w.clock), .v (.int .i64 w.floor), .sl (w.deps.map Id.row), .v (.int .i64 w.kind), .v (.string w.node.a), .v (.int .i64 w.node.n), .v (.string w.parent.a), .v (.int .i64 w.parent.n), .v (.bool w.neg), .v (.string w.num), .v (.string w.den), .v (.string w.field), .v (.string w.value), .v (.string w.target.a), .v (.int .i64 w.target.n), .v (.string w.who)] := rfl
        have g22 := xg22 w e (hl.2 w hwl)
        have hf' : mfind (encIE m) (.agg #[.string e.id.a, .int .i64 e.id.n]) = some (.agg w.row) := by rw [hf, ha]; rfl
        rw [hwe] at hf'
        rw [hwe, hee] at g22
        by_cases q : w = e
        · have h1 : forkStep (m, out) e = (m, out) := by unfold forkStep; simp only [ha]; rw [if_pos q]
          rw [decide_eq_true q] at g22
          simp (implicitDefEqProofs := false) (disch := omega) [List.getElem?_cons_zero, hlt, wrap64, nth_map, he, hee, hf', splice, conf, sksOk, skOk, PV.toV, toPV, toDs, h22, g22]
          repeat' (with_reducible apply And.intro)
          all_goals first | omega | kernel_rfl | skip
          subst hJ
          refine wk_pre [0, 1] [3, 4, 10, 11, 12] hw rfl ⟨l.length - (i + 1), by omega, i + 1, by omega, rfl, ?_⟩
          rw [hstep, h1]; simp [phi, O.ren]
        · have h1 : forkStep (m, out) e = (m, out ++ [e.id.a]) := by unfold forkStep; simp only [ha]; rw [if_neg q]
          rw [decide_eq_false q] at g22
          have tA : (out.map srow).take out.length = out.map srow := List.take_of_length_le (by simp)
          simp (implicitDefEqProofs := false) (disch := omega) [List.getElem?_cons_zero, hlt, wrap64, nth_map, he, hee, hf', splice, conf, sksOk, skOk, PV.toV, toPV, toDs, h22, g22, fillC, tA, Nat.add_assoc]
          repeat' (with_reducible apply And.intro)
          all_goals first | omega | kernel_rfl | skip
          subst hJ
          refine wk_pre [0, 5] [3, 4, 10, 11, 12] hw rfl ⟨l.length - (i + 1), by omega, i + 1, by omega, rfl, ?_⟩
          rw [hstep, h1]; simp [phi, O.ren, srow]
    · have : i = l.length := by omega
      subst this
      simp (implicitDefEqProofs := false) (disch := omega) [List.getElem?_cons_zero, hlt]
      subst hL
      exact at_mk (by simp) (by simp)
  · rintro _ ⟨sl, rfl⟩
    obtain ⟨out, ho⟩ : ∃ out, out = (forkF l).2 := ⟨_, rfl⟩
    have hol : out.length ≤ l.length := by rw [ho]; exact fork_out_len l
    have hfk : forksE l = compS (sortS out) := by rw [ho]; rfl
    rw [← ho, hfk]
    simp (implicitDefEqProofs := false) (disch := omega) [List.getElem?_cons_zero, b33_4]
    refine (k57 out (by omega) (H.length + 1) _ (by simp)).mono ?_
    rintro t H' ⟨rfl, rfl⟩
    simp (implicitDefEqProofs := false) (disch := omega) [List.getElem?_cons_zero, callK, b33_5]
    have h58 := fun H' hr => k58' (sortS out) (by rw [sortS_len]; omega) (H.length + 1) H' hr
    rw [sortS_len] at h58
    refine (h58 _ (by simp)).mono ?_
    rintro t H' ⟨rfl, rfl⟩
    simp (implicitDefEqProofs := false) (disch := omega) [List.getElem?_cons_zero, callK, b33_6]
    exact fin_own (k := 1) hw rfl (by simp)
end Go.Aw.Try

namespace Go.Aw
open Go
section
variable {P : Program} {G : Gl} {N0 : Nat}
/-- A slot told as data, its rows frozen. -/
theorem wk_tell {sl : Nat → T} {H : List O} {K : St → Prop} (t : Nat) {u : V} {p : PV} (ht : sl t = .v u) (hp : toPV H u = some p) (h : wk P G N0 ⟨putS sl t (.v p.toV), frz H u.cells⟩ K) : wk P G N0 ⟨sl, H⟩ K := by
  refine wk_weak ?_ h
  intro n b ρ a w hb1 hb2 hs
  obtain ⟨h1, l1⟩ := frz_rel u.cells hs.heap
  refine ⟨ρ, h1, hs.size, hs.defers, fun i => ?_, hs.glob.mono l1.step, hs.le.trans l1⟩
  show TRel P _ (putS sl t _ i) _
  unfold putS
  split
  · rename_i e
    subst e
    have h3 : TRel P (ctx ρ H w) (sl i) (a.tmps.getD i undef) := hs.slots i
    rw [ht] at h3
    exact pv_rel (P := P) (k := ctx ρ (frz H u.cells) w) (topv_rel hs.heap hp h3)
  · exact (hs.slots i).mono l1
end
end Go.Aw
namespace Go.Aw.Try
open Go Go.Proofs Go.Aw
set_option maxRecDepth 100000
set_option maxHeartbeats 4000000
theorem srow_inj {l l' : List ByteArray} (h : l.map srow = l'.map srow) : l = l' := map_inj (fun a b h => by simpa [srow] using h) h
noncomputable def x33 : XE := mkX false (fun (p : List Edit) => [.c (.sl (p.map Edit.row))]) Small (fun p => .v (.c (.d (.sl ((forksE p).map srow)))))
theorem kx33 : Contract Try.prog G0 33 x33 := mkX_data fun p h H => own_data (k33 p h H)
theorem xg33 (l : List Edit) (h : Small l) : x33.g [.c (.sl (l.map Edit.row))] = some (True, .v (.c (.d (.sl ((forksE l).map srow))))) := mkX_g (fun a b h => by simp at h; exact rows_inj h) l h
theorem insS_taken {l : List ByteArray} {s : ByteArray} {i : Nat} (hi : i < l.length) (hlo : ∀ c, c < i → nth l c ≠ s ∧ ¬ 0 < cmpS (nth l c) s) (h : nth l i = s) : insS l s = l := by
  induction l generalizing i with
  | nil => simp at hi
  | cons x l ih =>
    cases i with
    | zero => have h : x = s := h; simp [insS, h]
    | succ i =>
      obtain ⟨h1, h2⟩ := hlo 0 (by omega)
      have h1 : x ≠ s := h1
      have h2 : ¬ 0 < cmpS x s := h2
      simp only [insS, if_neg h1, if_neg h2]
      rw [ih (i := i) (by simpa using hi) (fun c hc => hlo (c + 1) (by omega)) h]
theorem insS_split {l : List ByteArray} {s : ByteArray} {i : Nat} (hi : i < l.length) (hlo : ∀ c, c < i → nth l c ≠ s ∧ ¬ 0 < cmpS (nth l c) s) (h0 : nth l i ≠ s) (h : 0 < cmpS (nth l i) s) : insS l s = l.take i ++ [s] ++ l.drop i := by
  induction l generalizing i with
  | nil => simp at hi
  | cons x l ih =>
    cases i with
    | zero => have h0 : x ≠ s := h0; have h : 0 < cmpS x s := h; simp [insS, h0, h]
    | succ i =>
      obtain ⟨h1, h2⟩ := hlo 0 (by omega)
      have h1 : x ≠ s := h1
      have h2 : ¬ 0 < cmpS x s := h2
      simp only [insS, if_neg h1, if_neg h2]
      rw [ih (i := i) (by simpa using hi) (fun c hc => hlo (c + 1) (by omega)) h0 h]
      simp
theorem insS_last {l : List ByteArray} {s : ByteArray} (hlo : ∀ c, c < l.length → nth l c ≠ s ∧ ¬ 0 < cmpS (nth l c) s) : insS l s = l ++ [s] := by
  induction l with
  | nil => rfl
  | cons x l ih =>
    obtain ⟨h1, h2⟩ := hlo 0 (by simp)
    have h1 : x ≠ s := h1
    have h2 : ¬ 0 < cmpS x s := h2
    simp only [insS, if_neg h1, if_neg h2]
    rw [ih fun c hc => hlo (c + 1) (by simpa using hc)]
    rfl
theorem insS_len (l : List ByteArray) (s : ByteArray) : (insS l s).length ≤ l.length + 1 := by
  induction l with
  | nil => simp [insS]
  | cons x l ih =>
    simp only [insS]
    split
    · simp
    · split <;> simp; omega
theorem strGt (a b : ByteArray) : (!(strLt a b || decide (a = b))) = decide (0 < cmpS a b) := by
  rw [strLt_eq]
  have h1 := cmpS_eq a b
  by_cases h : a = b
  · have := h1.2 h; simp [h, (cmpS_eq b b).2 rfl]
  · have : cmpS a b ≠ 0 := fun q => h (h1.1 q)
    by_cases h2 : cmpS a b < 0
    · simp [h, h2]; omega
    · simp [h, h2]; omega
theorem k59 (l : List ByteArray) (s : ByteArray) (hl : l.length < 68719476736) (H : List O) :
    ACalls Try.prog G0 59 [.c (.d (.sl (l.map srow))), Sx s] H fun t H' => t = .v (.c (.d (.sl ((insS l s).map srow)))) ∧ H' = H := by
  refine acallsX (X := []) trivial tab hmix Try.func59 c59 (by rfl) fun hw => ?_
  simp (implicitDefEqProofs := false) (disch := omega) [List.getElem?_cons_zero, ir59, b59, wrap64]
  refine loopE (fun k st => ∃ i, i ≤ l.length ∧ k = l.length - i ∧ (∀ c, c < i → nth l c ≠ s ∧ ¬ 0 < cmpS (nth l c) s) ∧
      st = ⟨ofL [(0, .v (.c (.d (.sl (l.map srow))))), (1, .str s), (5, .int .i64 i)], H⟩)
    (fun st => (∀ c, c < l.length → nth l c ≠ s ∧ ¬ 0 < cmpS (nth l c) s) ∧ AtS [(0, .v (.c (.d (.sl (l.map srow))))), (1, .str s)] H st) ?_ ?_ ?_
  · refine wk_keep [0, 1, 5] ⟨_, 0, by omega, rfl, fun c h => by omega, ?_⟩
    simp
  · rintro J L hJ hL k st ⟨i, hi, rfl, hlo, rfl⟩
    by_cases hlt : i < l.length
    · obtain ⟨x, hx⟩ : ∃ x, nth l i = x := ⟨_, rfl⟩
      have hxe : srow x = [.v (.string x)] := rfl
      by_cases h0 : x = s
      · have hxs : srow s = [.v (.string s)] := rfl
        simp (implicitDefEqProofs := false) (disch := omega) [List.getElem?_cons_zero, hlt, wrap64, nth_map, hx, hxe, h0, hxs, binSF]
        have := fin_data (P := Try.prog) (H := H) (L := []) (R := fun t H' => t = .v (.c (.d (.sl ((insS l s).map srow)))) ∧ H' = H) (x := .sl (l.map srow)) hw (by simp) ⟨by rw [insS_taken hlt hlo (by rw [hx]; exact h0)], rfl⟩
        simpa using this
      · by_cases h1 : 0 < cmpS x s
        · have c1 : ((l.length : Nat) : Int) - i = ((l.length - i : Nat) : Int) := by omega
          have e0 : (l.map srow).take l.length = l.map srow := List.take_of_length_le (by simp)
          have hs : strLt x s = false := by rw [strLt_eq]; exact decide_eq_false (by omega)
          simp (implicitDefEqProofs := false) (disch := omega) [List.getElem?_cons_zero, hlt, wrap64, nth_map, hx, hxe, h0, binSF, hs, Nat.add_assoc, e0, fillC, splice]
          repeat' (with_reducible apply And.intro)
          all_goals first | omega | kernel_rfl | exact fun _ _ => rfl | exact .inr fun _ _ => rfl | skip
          · intro y hy
            obtain ⟨x, _, rfl⟩ := List.mem_map.1 (List.mem_of_mem_take hy); rfl
          · intro y hy
            obtain ⟨x, _, rfl⟩ := List.mem_map.1 (List.mem_of_mem_drop hy); rfl
          · refine fin_tell hw (by omega) (by rw [app_get]; rfl) (by simp; omega) ⟨?_, rfl⟩
            rw [insS_split hlt hlo (by rw [hx]; exact h0) (by rw [hx]; exact h1)]; simp [List.map_take, List.map_drop, srow]
        · have hs : strLt x s = true := by
            rw [strLt_eq]
            have : cmpS x s ≠ 0 := fun q => h0 ((cmpS_eq _ _).1 q)
            exact decide_eq_true (by omega)
          simp (implicitDefEqProofs := false) (disch := omega) [List.getElem?_cons_zero, hlt, wrap64, nth_map, hx, hxe, h0, binSF, hs]
          subst hJ
          refine wk_keep [0, 1, 5] ⟨l.length - (i + 1), by omega, i + 1, by omega, rfl, fun c hc => ?_, ?_⟩
          · by_cases hci : c = i
            · subst hci; rw [hx]; exact ⟨h0, h1⟩
            · exact hlo c (by omega)
          · simp
    · simp (implicitDefEqProofs := false) (disch := omega) [List.getElem?_cons_zero, hlt]
      subst hL
      exact ⟨fun c h => hlo c (by omega), at_mk (by simp) (by simp)⟩
  · rintro _ ⟨hall, sl, rfl⟩
    simp (implicitDefEqProofs := false) (disch := omega) [List.getElem?_cons_zero, wrap64, Nat.add_assoc, fillC, splice]
    repeat' (with_reducible apply And.intro)
    all_goals first | omega | kernel_rfl | exact fun _ _ => rfl | exact .inr fun _ _ => rfl | skip
    exact fin_tell hw (by omega) (by rw [app_get]; rfl) (by simp) ⟨by rw [insS_last hall]; simp [srow], rfl⟩
noncomputable def x59 : XE := mkX false (fun (p : List ByteArray × ByteArray) => [.c (.sl (p.1.map srow)), .c (.v (.string p.2))]) (fun p => p.1.length < 68719476736) (fun p => .v (.c (.d (.sl ((insS p.1 p.2).map srow)))))
theorem kx59 : Contract Try.prog G0 59 x59 := mkX_data fun p h H => k59 p.1 p.2 h H
theorem xg59 (l : List ByteArray) (s : ByteArray) (h : l.length < 68719476736) : x59.g [.c (.sl (l.map srow)), .c (.v (.string s))] = some (True, .v (.c (.d (.sl ((insS l s).map srow))))) := mkX_g (fun a b h => by
  simp only [List.cons.injEq, PVo.c.injEq, D.sl.injEq, D.v.injEq, Value.string.injEq] at h
  exact Prod.ext (srow_inj h.1) h.2.1) (l, s) h
end Go.Aw.Try

namespace Go.Aw.Try
open Go Go.Proofs Go.Aw
set_option maxRecDepth 100000
set_option maxHeartbeats 4000000
/-! ### the reference's forks -/
def forkIn (e : Edit) (p : List Edit) (out : List ByteArray) : List ByteArray := p.foldl (fun o y => if e.id = y.id ∧ e ≠ y then insS o e.id.a else o) out
def forkRn (l : List Edit) (n : Nat) : List ByteArray := (List.range n).foldl (fun o i => forkIn (nth l i) (l.take i) o) []
theorem forkRn_succ (l : List Edit) (n : Nat) : forkRn l (n + 1) = forkIn (nth l n) (l.take n) (forkRn l n) := by
  unfold forkRn; rw [List.range_succ, List.foldl_append]; rfl
theorem forkIn_take (e : Edit) {l : List Edit} {k : Nat} (h : k < l.length) (out : List ByteArray) : forkIn e (l.take (k + 1)) out = if e.id = (nth l k).id ∧ e ≠ nth l k then insS (forkIn e (l.take k) out) e.id.a else forkIn e (l.take k) out := by
  unfold forkIn; rw [take_nth h, List.foldl_append]; rfl
theorem insS_idem (l : List ByteArray) (s : ByteArray) : insS (insS l s) s = insS l s := by
  induction l with
  | nil => simp [insS]
  | cons x l ih =>
    simp only [insS]
    split
    · rename_i h; simp [insS, h]
    · rename_i h
      split
      · simp [insS]
      · rename_i h2; simp only [insS, if_neg h, if_neg h2, ih]
theorem forkIn_len (e : Edit) (p : List Edit) (out : List ByteArray) : (forkIn e p out).length ≤ out.length + 1 := by
  have key : ∀ (p : List Edit) (o : List ByteArray), AscS o → AscS (forkIn e p o) := by
    intro p
    induction p with
    | nil => intro o h; exact h
    | cons y p ih =>
      intro o h
      show AscS (forkIn e p (if e.id = y.id ∧ e ≠ y then insS o e.id.a else o))
      split
      · exact ih _ (insS_asc h _)
      · exact ih _ h
  have stay : ∀ (p : List Edit) (o : List ByteArray) (m : Nat), o.length ≤ m + 1 → (o.length ≤ m ∨ insS o e.id.a = o) → (forkIn e p o).length ≤ m + 1 := by
    intro p
    induction p with
    | nil => intro o m h _; exact h
    | cons y p ih =>
      intro o m h h2
      show (forkIn e p (if e.id = y.id ∧ e ≠ y then insS o e.id.a else o)).length ≤ m + 1
      split
      · rcases h2 with h2 | h2
        · refine ih _ m (by have := insS_len o e.id.a; omega) (.inr (insS_idem _ _))
        · rw [h2]; exact ih _ m h (.inr h2)
      · exact ih _ m h h2
  exact stay p out out.length (by omega) (.inl (Nat.le_refl _))
theorem forkRn_len (l : List Edit) (n : Nat) : (forkRn l n).length ≤ n := by
  induction n with
  | zero => simp [forkRn]
  | succ n ih => rw [forkRn_succ]; have := forkIn_len (nth l n) (l.take n) (forkRn l n); omega
theorem forkIn_mem (e : Edit) (p : List Edit) (out : List ByteArray) (x : ByteArray) : x ∈ forkIn e p out ↔ x ∈ out ∨ (x = e.id.a ∧ ∃ y ∈ p, e.id = y.id ∧ e ≠ y) := by
  induction p generalizing out with
  | nil => simp [forkIn]
  | cons y p ih =>
    show x ∈ forkIn e p (if e.id = y.id ∧ e ≠ y then insS out e.id.a else out) ↔ _
    rw [ih]
    by_cases h : e.id = y.id ∧ e ≠ y
    · rw [if_pos h, insS_mem]
      constructor
      · rintro ((h1 | h1) | ⟨h1, z, hz, h2⟩)
        · exact .inl h1
        · exact .inr ⟨h1, y, List.mem_cons_self, h⟩
        · exact .inr ⟨h1, z, List.mem_cons_of_mem _ hz, h2⟩
      · rintro (h1 | ⟨h1, _⟩)
        · exact .inl (.inl h1)
        · exact .inl (.inr h1)
    · rw [if_neg h]
      constructor
      · rintro (h1 | ⟨h1, z, hz, h2⟩)
        · exact .inl h1
        · exact .inr ⟨h1, z, List.mem_cons_of_mem _ hz, h2⟩
      · rintro (h1 | ⟨h1, z, hz, h2⟩)
        · exact .inl h1
        · rcases List.mem_cons.1 hz with rfl | hz
          · exact absurd h2 h
          · exact .inr ⟨h1, z, hz, h2⟩
theorem forkIn_asc (e : Edit) (p : List Edit) {out : List ByteArray} (h : AscS out) : AscS (forkIn e p out) := by
  induction p generalizing out with
  | nil => exact h
  | cons y p ih =>
    show AscS (forkIn e p (if e.id = y.id ∧ e ≠ y then insS out e.id.a else out))
    split
    · exact ih (insS_asc h _)
    · exact ih h
theorem forkRn_asc (l : List Edit) (n : Nat) : AscS (forkRn l n) := by
  induction n with
  | zero => exact List.Pairwise.nil
  | succ n ih => rw [forkRn_succ]; exact forkIn_asc _ _ ih
theorem forkRn_mem (l : List Edit) (n : Nat) (x : ByteArray) : x ∈ forkRn l n ↔ ∃ i, i < n ∧ x = (nth l i).id.a ∧ ∃ y ∈ l.take i, (nth l i).id = y.id ∧ nth l i ≠ y := by
  induction n with
  | zero => simp [forkRn]
  | succ n ih =>
    rw [forkRn_succ, forkIn_mem, ih]
    constructor
    · rintro (⟨i, hi, h⟩ | h)
      · exact ⟨i, by omega, h⟩
      · exact ⟨n, by omega, h⟩
    · rintro ⟨i, hi, h⟩
      by_cases q : i = n
      · subst q; exact .inr h
      · exact .inl ⟨i, by omega, h⟩
/-- There are different edits with one name, of this author. -/
def Forky (l : List Edit) (x : ByteArray) : Prop := ∃ y ∈ l, ∃ z ∈ l, y.id = z.id ∧ y ≠ z ∧ y.id.a = x
theorem forkRn_forky (l : List Edit) (x : ByteArray) : x ∈ forkRn l l.length ↔ Forky l x := by
  rw [forkRn_mem]
  constructor
  · rintro ⟨i, hi, rfl, y, hy, h1, h2⟩
    exact ⟨_, nth_mem hi, y, List.mem_of_mem_take hy, h1, h2, rfl⟩
  · rintro ⟨y, hy, z, hz, h1, h2, rfl⟩
    obtain ⟨i, hi, rfl⟩ := mem_nth hy
    obtain ⟨k, hk, rfl⟩ := mem_nth hz
    have mt : ∀ a b, a < b → b < l.length → nth l a ∈ l.take b := fun a b hab hb => by
      have : nth (l.take b) a = nth l a := nth_take hab
      rw [← this]; exact nth_mem (by simp; omega)
    rcases Nat.lt_trichotomy i k with h | h | h
    · exact ⟨k, hk, by rw [h1], _, mt i k h hk, h1.symm, h2.symm⟩
    · subst h; exact absurd rfl h2
    · exact ⟨i, hi, rfl, _, mt k i h hi, h1, h2⟩
theorem forksE_forky (l : List Edit) (x : ByteArray) : x ∈ forksE l ↔ Forky l x := by
  unfold forksE
  rw [(sorted_names _).2, fork_out]
  constructor
  · rintro ⟨e, he, rfl, w, hw, h⟩
    have := List.find?_some hw
    exact ⟨e, he, w, List.mem_of_find?_eq_some hw, (of_decide_eq_true this).symm, h.symm, rfl⟩
  · rintro ⟨y, hy, z, hz, h1, h2, rfl⟩
    cases hf : l.find? fun u => decide (u.id = y.id) with
    | none => have := List.find?_eq_none.1 hf y hy; simp at this
    | some w =>
      by_cases q : w = y
      · refine ⟨z, hz, by rw [h1], w, by rw [← h1]; exact hf, by rw [q]; exact h2⟩
      · exact ⟨y, hy, rfl, w, hf, q⟩
/-- The forks are the reference's. -/
theorem forks_ref (l : List Edit) : forksE l = forkRn l l.length :=
  ascS_ext (sorted_names _).1 (forkRn_asc _ _) fun x => by rw [forksE_forky, forkRn_forky]
theorem k34 (l : List Edit) (hl : Small l) (H : List O) : ACalls Try.prog G0 34 [.c (.d (.sl (l.map Edit.row)))] H fun t H' => t = .v (.c (.d (.sl ((forkRn l l.length).map srow)))) ∧ H' = H := by
  have hlen := hl.1
  have h37 : x37.sc = true := rfl
  have h59 : x59.sc = false := rfl
  refine acallsX (X := [(37, x37), (59, x59)]) ⟨kx37, kx59, trivial⟩ tab hmix Try.func34 c34 (by rfl) fun hw => ?_
  simp (implicitDefEqProofs := false) (disch := omega) [List.getElem?_cons_zero, ir34, b34, wrap64]
  refine loopE (fun k st => ∃ i, i ≤ l.length ∧ k = l.length - i ∧
      st = ⟨ofL [(0, .v (.c (.d (.sl (l.map Edit.row))))), (3, .v (.c (.d (.sl ((forkRn l i).map srow))))), (4, .int .i64 i)], H⟩)
    (fun st => AtS [(3, .v (.c (.d (.sl ((forkRn l l.length).map srow)))))] H st) ?_ ?_ ?_
  · refine wk_tell 3 (u := .c (.os H.length 1 0 0)) (p := .c (.sl [])) (by simp) (by simp [toPV]) ?_
    have e1 : frz (H ++ [O.row 1 []]) (V.cells (.c (.os H.length 1 0 0))) = H ++ [.frow 1 []] := by simp [frz, frz1, V.cells]
    rw [e1]
    refine wk_pre [] [0, 3, 4] hw rfl ⟨_, 0, by omega, rfl, ?_⟩
    simp [forkRn, PV.toV]
  · rintro J L hJ hL k st ⟨i, hi, rfl, rfl⟩
    by_cases hlt : i < l.length
    · obtain ⟨e, he⟩ : ∃ e, nth l i = e := ⟨_, rfl⟩
      have hee : e.row = [.v (.string e.id.a), .v (.int .i64 e.id.n), .v (.int .i64 e.clock), .v (.int .i64 e.floor), .sl (e.deps.map Id.row), .v (.int .i64 e.kind), .v (.string e.node.a), .v (.int .i64 e.node.n), .v (.string e.parent.a), .v (.int .i64 e.parent.n), .v (.bool e.neg), .v (.string e.num), .v (.string e.den), .v (.string e.field), .v (.string e.value), .v (.string e.target.a), .v (.int .i64 e.target.n), .v (.string e.who)] := rfl
      have hes := hl.2 e (by rw [← he]; exact nth_mem hlt)
      have hst := forkRn_succ l i
      rw [he] at hst
      obtain ⟨out, ho⟩ : ∃ out, out = forkRn l i := ⟨_, rfl⟩
      have hol : out.length ≤ i := by rw [ho]; exact forkRn_len l i
      rw [← ho] at hst ⊢
      simp (implicitDefEqProofs := false) (disch := omega) [List.getElem?_cons_zero, hlt, wrap64]
      refine loopE (fun k st => ∃ j, j ≤ i ∧ k = i - j ∧
          st = ⟨ofL [(0, .v (.c (.d (.sl (l.map Edit.row))))), (3, .v (.c (.d (.sl ((forkIn e (l.take j) out).map srow))))), (4, .int .i64 i), (5, .int .i64 j)], H⟩)
        (fun st => AtS [(0, .v (.c (.d (.sl (l.map Edit.row))))), (3, .v (.c (.d (.sl ((forkIn e (l.take i) out).map srow))))), (4, .int .i64 i)] H st) ?_ ?_ ?_
      · refine wk_keep [0, 3, 4, 5] ⟨_, 0, by omega, rfl, ?_⟩
        simp [forkIn]
      · rintro J2 L2 hJ2 hL2 k st ⟨j, hj, rfl, rfl⟩
        by_cases hlt2 : j < i
        · have hjl : j < l.length := by omega
          obtain ⟨y, hy⟩ : ∃ y, nth l j = y := ⟨_, rfl⟩
          have hye : y.row = [.v (.string y.id.a), .v (.int .i64 y.id.n), .v (.int .i64 y.clock), .v (.int .i64 y.floor), .sl (y.deps.map Id.row), .v (.int .i64 y.kind), .v (.string y.node.a), .v (.int .i64 y.node.n), .v (.string y.parent.a), .v (.int .i64 y.parent.n), .v (.bool y.neg), .v (.string y.num), .v (.string y.den), .v (.string y.field), .v (.string y.value), .v (.string y.target.a), .v (.int .i64 y.target.n), .v (.string y.who)] := rfl
          have hst2 := forkIn_take e hjl out
          rw [hy] at hst2
          obtain ⟨o, hoo⟩ : ∃ o, o = forkIn e (l.take j) out := ⟨_, rfl⟩
          have hool : o.length < 68719476736 := by rw [hoo]; have := forkIn_len e (l.take j) out; omega
          have g37 := xg37 e y hes
          have g59 := xg59 o e.id.a hool
          rw [hee, hye] at g37
          rw [← hoo] at hst2 ⊢
          have hnext : ∀ (sl : Nat → T) (o' : List ByteArray), forkIn e (l.take (j + 1)) out = o' → sl 0 = .v (.c (.d (.sl (l.map Edit.row)))) → sl 3 = .v (.c (.d (.sl (o'.map srow)))) → sl 4 = .int .i64 i → sl 5 = .int .i64 (j + 1 : Nat) →
              wk Try.prog G0 H.length ⟨sl, H⟩ fun s'' => ∃ k', k' < i - j ∧ J2 k' s'' := fun sl o' q h0 h3 h4 h5 => by
            subst hJ2
            refine wk_keep [0, 3, 4, 5] ⟨i - (j + 1), by omega, j + 1, by omega, rfl, ?_⟩
            simp [q, h0, h3, h4, h5]
          by_cases q1 : e.id.a = y.id.a
          · by_cases q2 : e.id.n = y.id.n
            · have q : e.id = y.id := by
                cases hx : e.id; cases hz : y.id
                rw [hx, hz] at q1 q2
                simp only at q1 q2
                rw [q1, q2]
              rw [q1] at hst2 g59
              rw [q1, q2] at g37
              by_cases q3 : e = y
              · rw [if_neg (fun c => c.2 q3)] at hst2
                rw [decide_eq_true q3] at g37
                simp (implicitDefEqProofs := false) (disch := omega) [List.getElem?_cons_zero, hlt, hlt2, hjl, wrap64, nth_map, he, hy, hee, hye, q1, q2, cellsEq, skEq, h37, g37, h59, g59, splice]
                repeat' (with_reducible apply And.intro)
                all_goals first | omega | kernel_rfl | skip
                exact hnext _ _ hst2 (by simp) (by simp) (by simp) (by simp)
              · rw [if_pos ⟨q, q3⟩] at hst2
                rw [decide_eq_false q3] at g37
                simp (implicitDefEqProofs := false) (disch := omega) [List.getElem?_cons_zero, hlt, hlt2, hjl, wrap64, nth_map, he, hy, hee, hye, q1, q2, cellsEq, skEq, h37, g37, h59, g59, splice, toPVs, frzVs, osVs, toPV]
                repeat' (with_reducible apply And.intro)
                all_goals first | omega | kernel_rfl | skip
                exact hnext _ _ hst2 (by simp) (by simp) (by simp) (by simp)
            · have q : ¬ e.id = y.id := fun c => q2 (by rw [c])
              rw [if_neg (fun c => q c.1)] at hst2
              simp (implicitDefEqProofs := false) (disch := omega) [List.getElem?_cons_zero, hlt, hlt2, hjl, wrap64, nth_map, he, hy, hee, hye, q1, q2, cellsEq, skEq, splice]
              repeat' (with_reducible apply And.intro)
              all_goals first | omega | kernel_rfl | skip
              exact hnext _ _ hst2 (by simp) (by simp) (by simp) (by simp)
          · have q : ¬ e.id = y.id := fun c => q1 (by rw [c])
            rw [if_neg (fun c => q c.1)] at hst2
            simp (implicitDefEqProofs := false) (disch := omega) [List.getElem?_cons_zero, hlt, hlt2, hjl, wrap64, nth_map, he, hy, hee, hye, q1, cellsEq, skEq, splice]
            repeat' (with_reducible apply And.intro)
            all_goals first | omega | kernel_rfl | skip
            exact hnext _ _ hst2 (by simp) (by simp) (by simp) (by simp)
        · have : j = i := by omega
          subst this
          simp (implicitDefEqProofs := false) (disch := omega) [List.getElem?_cons_zero, hlt2]
          subst hL2
          exact at_mk (by simp) (by simp)
      · rintro _ ⟨sl, rfl⟩
        simp (implicitDefEqProofs := false) (disch := omega) [List.getElem?_cons_zero, wrap64]
        subst hJ
        refine wk_keep [0, 3, 4] ⟨l.length - (i + 1), by omega, i + 1, by omega, rfl, ?_⟩
        simp [hst]
    · have : i = l.length := by omega
      subst this
      simp (implicitDefEqProofs := false) (disch := omega) [List.getElem?_cons_zero, hlt]
      subst hL
      exact at_mk (by simp) (by simp)
  · rintro _ ⟨sl, rfl⟩
    simp (implicitDefEqProofs := false) (disch := omega) [List.getElem?_cons_zero, wrap64]
    have := fin_data (P := Try.prog) (H := H) (L := []) (R := fun t H' => t = .v (.c (.d (.sl ((forkRn l l.length).map srow)))) ∧ H' = H) (x := .sl ((forkRn l l.length).map srow)) hw (by simp) ⟨rfl, rfl⟩
    simpa using this
end Go.Aw.Try

namespace Go.Aw.Try
open Go Go.Proofs Go.Aw
set_option maxRecDepth 100000
set_option maxHeartbeats 4000000
noncomputable def x34 : XE := mkX false (fun (p : List Edit) => [.c (.sl (p.map Edit.row))]) Small (fun p => .v (.c (.d (.sl ((forksE p).map srow)))))
theorem kx34 : Contract Try.prog G0 34 x34 := mkX_data fun p h H => by rw [forks_ref]; exact k34 p h H
theorem xg34 (l : List Edit) (h : Small l) : x34.g [.c (.sl (l.map Edit.row))] = some (True, .v (.c (.d (.sl ((forksE l).map srow))))) := mkX_g (fun a b h => by simp at h; exact rows_inj h) l h
theorem k36 (l : List Edit) (x : Id) (hl : l.length < 68719476736) : ACalls Try.prog G0 36 [.c (.d (.sl (l.map Edit.row))), .agg (x.row.map .d)] [] fun t H => t = findT l x ∧ H = [] := by
  refine acallsX (X := []) trivial tab hmix Try.func36 c36 (by rfl) fun hw => ?_
  have hxe : x.row = [.v (.string x.a), .v (.int .i64 x.n)] := rfl
  rw [hxe]
  simp (implicitDefEqProofs := false) (disch := omega) [List.getElem?_cons_zero, ir36, b36, wrap64]
  refine loopE (fun k st => ∃ i, i ≤ l.length ∧ k = l.length - i ∧ idxF (pr61 x) 0 l = idxF (pr61 x) i (l.drop i) ∧
      st = ⟨ofL [(0, .v (.c (.d (.sl (l.map Edit.row))))), (3, .v (.c (.ptr 0 0))), (6, .int .i64 i)], [.cells [.d (.v (.string x.a)), .d (.v (.int .i64 x.n))]]⟩)
    (fun st => idxF (pr61 x) 0 l = -1 ∧ AtS [] [.cells [.d (.v (.string x.a)), .d (.v (.int .i64 x.n))]] st) ?_ ?_ ?_
  · refine wk_keep [0, 3, 6] ⟨_, 0, by omega, rfl, rfl, ?_⟩
    simp
  · rintro J L hJ hL k st ⟨i, hi, rfl, hq, rfl⟩
    by_cases hlt : i < l.length
    · obtain ⟨e, he⟩ : ∃ e, nth l i = e := ⟨_, rfl⟩
      have hee : e.row = [.v (.string e.id.a), .v (.int .i64 e.id.n), .v (.int .i64 e.clock), .v (.int .i64 e.floor), .sl (e.deps.map Id.row), .v (.int .i64 e.kind), .v (.string e.node.a), .v (.int .i64 e.node.n), .v (.string e.parent.a), .v (.int .i64 e.parent.n), .v (.bool e.neg), .v (.string e.num), .v (.string e.den), .v (.string e.field), .v (.string e.value), .v (.string e.target.a), .v (.int .i64 e.target.n), .v (.string e.who)] := rfl
      have hst := idxF_step (pr61 x) hlt
      rw [he] at hst
      have hnext : pr61 x e = false → ∀ (sl : Nat → T), sl 0 = .v (.c (.d (.sl (l.map Edit.row)))) → sl 3 = .v (.c (.ptr 0 0)) → sl 6 = .int .i64 (i + 1 : Nat) →
          wk Try.prog G0 0 ⟨sl, [.cells [.d (.v (.string x.a)), .d (.v (.int .i64 x.n))]]⟩ fun s'' => ∃ k', k' < l.length - i ∧ J k' s'' := fun q sl h0 h3 h6 => by
        subst hJ
        refine wk_keep [0, 3, 6] ⟨l.length - (i + 1), by omega, i + 1, by omega, rfl, by rw [hq, hst, q]; simp, ?_⟩
        simp [h0, h3, h6]
      by_cases q1 : e.id.a = x.a
      · by_cases q2 : e.id.n = x.n
        · have hf : idxF (pr61 x) 0 l = i := by rw [hq, hst, if_pos (by simp [pr61, q1, q2])]
          simp (implicitDefEqProofs := false) (disch := omega) [List.getElem?_cons_zero, hlt, wrap64, nth_map, he, hee, q1, q2, cellsEq, skEq, splice]
          repeat' (with_reducible apply And.intro)
          all_goals first | omega | kernel_rfl | skip
          exact fin_nil ⟨by simp [findT, findI, hf, show ¬ (i : Int) < 0 by omega], rfl⟩
        · simp (implicitDefEqProofs := false) (disch := omega) [List.getElem?_cons_zero, hlt, wrap64, nth_map, he, hee, q1, q2, cellsEq, skEq, splice]
          repeat' (with_reducible apply And.intro)
          all_goals first | omega | kernel_rfl | skip
          exact hnext (by simp [pr61, q2]) _ (by simp) (by simp) (by simp)
      · simp (implicitDefEqProofs := false) (disch := omega) [List.getElem?_cons_zero, hlt, wrap64, nth_map, he, hee, q1, cellsEq, skEq, splice]
        repeat' (with_reducible apply And.intro)
        all_goals first | omega | kernel_rfl | skip
        exact hnext (by simp [pr61, q1]) _ (by simp) (by simp) (by simp)
    · have : i = l.length := by omega
      subst this
      simp (implicitDefEqProofs := false) (disch := omega) [List.getElem?_cons_zero, hlt]
      subst hL
      exact ⟨by rw [hq]; simp [idxF], at_mk (by simp) rfl⟩
  · rintro _ ⟨hq, sl, rfl⟩
    simp (implicitDefEqProofs := false) (disch := omega) [List.getElem?_cons_zero, wrap64]
    exact fin_nil ⟨by simp [findT, findI, hq], rfl⟩
end Go.Aw.Try

namespace Go.Aw.Try
open Go Go.Proofs Go.Aw
set_option maxRecDepth 100000
set_option maxHeartbeats 4000000
noncomputable def x36 : XE := mkX true (fun (p : List Edit × Id) => [.c (.sl (p.1.map Edit.row)), .agg p.2.row]) (fun p => p.1.length < 68719476736) (fun p => findT p.1 p.2)
theorem kx36 : Contract Try.prog G0 36 x36 := mkX_scal (fun _ => rfl) fun p h => k36 p.1 p.2 h
theorem xg36 (l : List Edit) (x : Id) (h : l.length < 68719476736) : x36.g [.c (.sl (l.map Edit.row)), .agg x.row] = some (True, findT l x) := mkX_g injLI (l, x) h
theorem k13 (l : List Edit) (x : Id) (hl : gtot l < 34359738368) : ACalls Try.prog G0 13 [.c (.d (.sl (l.map Edit.row))), .agg (x.row.map .d)] [] fun t H => t = .bool true ∧ H = [] := by
  have hlen := gtot_len l
  have h15 : x15.sc = true := rfl
  have h20 : x20.sc = false := rfl
  have h38 : x38.sc = false := rfl
  have h17 : x17.sc = true := rfl
  have h22 : x22.sc = true := rfl
  have h37 : x37.sc = true := rfl
  have h33 : x33.sc = false := rfl
  have h34 : x34.sc = false := rfl
  have h35 : x35.sc = true := rfl
  have h36 : x36.sc = true := rfl
  have g15 := xg15 l (by omega)
  have g20 := xg20 l (by omega)
  have g38 := xg38 l (by omega)
  have g35 := xg35 l x (by omega)
  have g36 := xg36 l x (by omega)
  have hxe : x.row = [.v (.string x.a), .v (.int .i64 x.n)] := rfl
  unfold findT at g35 g36
  rw [hxe] at g35 g36 ⊢
  refine acallsX (X := [(15, x15), (16, x16), (20, x20), (38, x38), (17, x17), (22, x22), (37, x37), (33, x33), (34, x34), (35, x35), (36, x36)]) ⟨kx15, kx16, kx20, kx38, kx17, kx22, kx37, kx33, kx34, kx35, kx36, trivial⟩ tab hmix Try.func13 c13 (by rfl) fun hw => ?_
  by_cases hg : 1500 < gtot l
  · rw [if_pos hg] at g15
    simp (implicitDefEqProofs := false) (disch := omega) [List.getElem?_cons_zero, ir13, b13, b13_0, b13_1, h15, g15, x16]
    exact fin_nil ⟨rfl, rfl⟩
  · rw [if_neg hg] at g15
    by_cases c2 : 100 < x.a.size
    · have c2' : (100 : Int) < x.a.size := by omega
      simp (implicitDefEqProofs := false) (disch := omega) [List.getElem?_cons_zero, ir13, b13, b13_0, b13_1, h15, g15, x16, c2, c2']
      exact fin_nil ⟨rfl, rfl⟩
    · have c2' : ¬ (100 : Int) < x.a.size := by omega
      have hsm := gtot_small (l := l) (n := 1500) (by omega) (by omega) (by omega)
      have g33 := xg33 l hsm
      have g34 := xg34 l hsm
      obtain ⟨F, hF⟩ : ∃ F, F = forksE l := ⟨_, rfl⟩
      have hFl : F.length ≤ l.length := by rw [hF]; exact forksE_len l
      rw [← hF] at g33 g34
      simp (implicitDefEqProofs := false) (disch := omega) [List.getElem?_cons_zero, ir13, b13, b13_0, b13_1, b13_2, b13_3, b13_4, h15, g15, x16, c2, c2', h33, g33, h34, g34, toPVs, frzVs, osVs, toPV, wrap64]
      refine loopE (fun k st => ∃ i, i ≤ F.length ∧ k = F.length - i ∧
          st = ⟨ofL [(0, .v (.c (.d (.sl (l.map Edit.row))))), (3, .v (.c (.ptr 0 0))), (5, .v (.c (.d (.sl (F.map srow))))), (6, .v (.c (.d (.sl (F.map srow))))), (33, .int .i64 F.length), (34, .int .i64 i)], [.cells [.d (.v (.string x.a)), .d (.v (.int .i64 x.n))]]⟩)
        (fun st => AtS [(0, .v (.c (.d (.sl (l.map Edit.row))))), (3, .v (.c (.ptr 0 0)))] [.cells [.d (.v (.string x.a)), .d (.v (.int .i64 x.n))]] st) ?_ ?_ ?_
      · refine wk_keep [0, 3, 5, 6, 33, 34] ⟨_, 0, by omega, rfl, ?_⟩
        simp
      · rintro J L hJ hL k st ⟨i, hi, rfl, rfl⟩
        by_cases hlt : i < F.length
        · obtain ⟨y, hy⟩ : ∃ y, nth F i = y := ⟨_, rfl⟩
          have hye : srow y = [.v (.string y)] := rfl
          simp (implicitDefEqProofs := false) (disch := omega) [List.getElem?_cons_zero, hlt, wrap64, nth_map, hy, hye, binSF]
          repeat' (with_reducible apply And.intro)
          all_goals first | omega | kernel_rfl | skip
          subst hJ
          refine wk_keep [0, 3, 5, 6, 33, 34] ⟨F.length - (i + 1), by omega, i + 1, by omega, rfl, ?_⟩
          simp
        · have : i = F.length := by omega
          subst this
          simp (implicitDefEqProofs := false) (disch := omega) [List.getElem?_cons_zero, hlt]
          subst hL
          exact at_mk (by simp) rfl
      · rintro _ ⟨sl, rfl⟩
        obtain ⟨fi, hfi⟩ : ∃ fi, fi = findI l x := ⟨_, rfl⟩
        obtain ⟨fb, hfb⟩ : ∃ fb, fb = decide (0 ≤ idxF (pr61 x) 0 l) := ⟨_, rfl⟩
        rw [← hfi, ← hfb] at g35 g36
        simp (implicitDefEqProofs := false) (disch := omega) [List.getElem?_cons_zero, b13_5, b13_6, b13_7, h35, h36, g35, g36, wrap64]
        refine loopE (fun k st => ∃ i, i ≤ l.length ∧ k = l.length - i ∧
            st = ⟨ofL [(0, .v (.c (.d (.sl (l.map Edit.row))))), (8, .int .i64 fi), (9, .bool fb), (10, .int .i64 fi), (11, .bool fb), (60, .int .i64 l.length), (61, .int .i64 i)], []⟩)
          (fun st => AtS [(0, .v (.c (.d (.sl (l.map Edit.row))))), (8, .int .i64 fi), (9, .bool fb), (10, .int .i64 fi), (11, .bool fb)] [] st) ?_ ?_ ?_
        · refine wk_nil [] [0, 8, 9, 10, 11, 60, 61] rfl ⟨_, 0, by omega, rfl, ?_⟩
          simp
        · rintro J L hJ hL k st ⟨i, hi, rfl, rfl⟩
          by_cases hlt : i < l.length
          · obtain ⟨e, he⟩ : ∃ e, nth l i = e := ⟨_, rfl⟩
            obtain ⟨z, hz⟩ : ∃ z, nth l 0 = z := ⟨_, rfl⟩
            have hl0 : 0 < l.length := by omega
            have hzl : z ∈ l := by rw [← hz]; exact nth_mem hl0
            have hee : e.row = [.v (.string e.id.a), .v (.int .i64 e.id.n), .v (.int .i64 e.clock), .v (.int .i64 e.floor), .sl (e.deps.map Id.row), .v (.int .i64 e.kind), .v (.string e.node.a), .v (.int .i64 e.node.n), .v (.string e.parent.a), .v (.int .i64 e.parent.n), .v (.bool e.neg), .v (.string e.num), .v (.string e.den), .v (.string e.field), .v (.string e.value), .v (.string e.target.a), .v (.int .i64 e.target.n), .v (.string e.who)] := rfl
            have hze : z.row = [.v (.string z.id.a), .v (.int .i64 z.id.n), .v (.int .i64 z.clock), .v (.int .i64 z.floor), .sl (z.deps.map Id.row), .v (.int .i64 z.kind), .v (.string z.node.a), .v (.int .i64 z.node.n), .v (.string z.parent.a), .v (.int .i64 z.parent.n), .v (.bool z.neg), .v (.string z.num), .v (.string z.den), .v (.string z.field), .v (.string z.value), .v (.string z.target.a), .v (.int .i64 z.target.n), .v (.string z.who)] := rfl
            have g22 := xg22 z e (hsm.2 z hzl)
            have g37 := xg37 z e (hsm.2 z hzl)
            obtain ⟨q, hq⟩ : ∃ q, q = decide (z = e) := ⟨_, rfl⟩
            rw [← hq, hee, hze] at g22 g37
            simp (implicitDefEqProofs := false) (disch := omega) [List.getElem?_cons_zero, hlt, hl0, wrap64, nth_map, he, hz, hee, hze, h22, h37, g22, g37, splice]
            repeat' (with_reducible apply And.intro)
            all_goals first | omega | kernel_rfl | skip
            subst hJ
            refine wk_keep [0, 8, 9, 10, 11, 60, 61] ⟨l.length - (i + 1), by omega, i + 1, by omega, rfl, ?_⟩
            simp
          · have : i = l.length := by omega
            subst this
            simp (implicitDefEqProofs := false) (disch := omega) [List.getElem?_cons_zero, hlt]
            subst hL
            exact at_mk (by simp) rfl
        · rintro _ ⟨sl, rfl⟩
          have hss : Small (sortE l) := hsm.sort
          have g17 := xg17 (sortE l) (sortE l) hss hss.1
          rw [decide_eq_true rfl] at g17
          simp (implicitDefEqProofs := false) (disch := omega) [List.getElem?_cons_zero, b13_8, b13_9, x16, h20, g20, h38, g38, h17, g17, toPVs, frzVs, osVs, toPV]
          exact fin_nil ⟨rfl, rfl⟩
end Go.Aw.Try

namespace Go.Aw.Try
open Go Go.Proofs Go.Proofs.Ytlboedhconemnaa Go.Aw
set_option maxRecDepth 100000
theorem dec_id1 {l : List D} (h : okShs idSh l) : ∃ x : Id, l = x.row := dec_id h
end Go.Aw.Try
