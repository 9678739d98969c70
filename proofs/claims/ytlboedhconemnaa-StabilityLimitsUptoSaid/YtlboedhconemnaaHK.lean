/- An abstract machine over the model, and contracts of functions of this program on it (part 11): words and lemmas for the proof in the last text. -/
import Derived.Test.YtlboedhconemnaaHJ
set_option linter.unusedSimpArgs false
set_option linter.unusedVariables false
set_option linter.unusedSectionVars false

namespace Go.Aw.Try
open Go Go.Proofs Go.Aw
set_option maxRecDepth 100000
set_option maxHeartbeats 4000000
def b10_0 : AC := (.region 0 [
    ⟨(some 6), (.mov (.const (.bool false))), none⟩])
def b10_1 : AC := (.seq (.region 0 [
    ⟨(some 16), (.mov (.tmp 0)), none⟩,
    ⟨(some 17), (.mov (.tmp 1)), none⟩,
    ⟨(some 18), (.call 24 [(.tmp 16), (.tmp 17), (.const (.slice none 0 0))]), none⟩,
    ⟨(some 19), (.mov (.tmp 18)), none⟩,
    ⟨(some 20), (.mov (.tmp 1)), (some (19, false))⟩,
    ⟨(some 21), (.lenL (.tmp 20)), (some (19, false))⟩,
    ⟨(some 22), (.binI .gtr .i64 (.tmp 21) (.const (.int .i64 9))), (some (19, false))⟩,
    ⟨(some 23), (.pick (.tmp 19) (.const (.bool true)) (.tmp 22)), none⟩,
    ⟨(some 24), (.mov (.tmp 23)), none⟩,
    ⟨(some 25), (.mov (.tmp 2)), (some (24, false))⟩,
    ⟨(some 26), (.lenS (.tmp 25)), (some (24, false))⟩,
    ⟨(some 27), (.binI .gtr .i64 (.tmp 26) (.const (.int .i64 100))), (some (24, false))⟩,
    ⟨(some 28), (.pick (.tmp 24) (.const (.bool true)) (.tmp 27)), none⟩])
  (.cond (.tmp 28) (.seq (.region 0 [
    ⟨(some 29), (.call 25 []), none⟩,
    ⟨(some 6), (.mov (.tmp 29)), none⟩])
  .ret) .skip))
def b10_2 : AC := (.seq (.region 0 [
    ⟨(some 30), (.mov (.tmp 0)), none⟩,
    ⟨(some 31), (.lenL (.tmp 30)), none⟩,
    ⟨(some 32), (.mov (.const (.int .i64 0))), none⟩])
  (.block 0 (.loop (.seq (.region 0 [
    ⟨(some 33), (.binI .lss .i64 (.tmp 32) (.tmp 31)), none⟩])
  (.seq (.cond (.tmp 33) .skip (.exit 0))
  (.seq (.block 1 (.seq (.region 1 [
    ⟨(some 34), (.iaddr 18 (.tmp 30) (.tmp 32)), none⟩,
    ⟨(some 35), (.load true 18 (.tmp 34)), none⟩,
    ⟨(some 8), (.zero 0 [(.v (.string ⟨#[]⟩)), (.v (.int .i64 0)), (.v (.int .i64 0)), (.v (.int .i64 0)), (.v (.slice none 0 0)), (.v (.int .i64 0)), (.v (.string ⟨#[]⟩)), (.v (.int .i64 0)), (.v (.string ⟨#[]⟩)), (.v (.int .i64 0)), (.v (.bool false)), (.v (.string ⟨#[]⟩)), (.v (.string ⟨#[]⟩)), (.v (.string ⟨#[]⟩)), (.v (.string ⟨#[]⟩)), (.v (.string ⟨#[]⟩)), (.v (.int .i64 0)), (.v (.string ⟨#[]⟩))]), none⟩,
    ⟨none, (.store 18 (.tmp 8) (.tmp 35)), none⟩])
  (.seq (.region 0 [
    ⟨(some 36), (.faddr 0 (.tmp 8)), none⟩,
    ⟨(some 37), (.faddr 0 (.tmp 36)), none⟩,
    ⟨(some 38), (.load false 1 (.tmp 37)), none⟩,
    ⟨(some 39), (.mov (.tmp 2)), none⟩,
    ⟨(some 40), (.binS .eql (.tmp 38) (.tmp 39)), none⟩,
    ⟨(some 41), (.mov (.tmp 40)), none⟩,
    ⟨(some 42), (.faddr 2 (.tmp 8)), (some (41, false))⟩,
    ⟨(some 43), (.load false 1 (.tmp 42)), (some (41, false))⟩,
    ⟨(some 44), (.binI .lss .i64 (.tmp 43) (.const (.int .i64 0))), (some (41, false))⟩,
    ⟨(some 45), (.pick (.tmp 41) (.const (.bool true)) (.tmp 44)), none⟩,
    ⟨(some 46), (.mov (.tmp 45)), none⟩,
    ⟨(some 47), (.faddr 3 (.tmp 8)), (some (46, false))⟩,
    ⟨(some 48), (.load false 1 (.tmp 47)), (some (46, false))⟩,
    ⟨(some 49), (.binI .lss .i64 (.tmp 48) (.const (.int .i64 0))), (some (46, false))⟩,
    ⟨(some 50), (.pick (.tmp 46) (.const (.bool true)) (.tmp 49)), none⟩])
  (.cond (.tmp 50) (.seq (.region 0 [
    ⟨(some 51), (.call 25 []), none⟩,
    ⟨(some 6), (.mov (.tmp 51)), none⟩])
  .ret) .skip))))
  (.region 0 [
    ⟨(some 52), (.binI .add .i64 (.tmp 32) (.const (.int .i64 1))), none⟩,
    ⟨(some 32), (.mov (.tmp 52)), none⟩])))))))
def b10_3 : AC := (.seq (.region 0 [
    ⟨(some 53), (.mov (.tmp 1)), none⟩,
    ⟨(some 54), (.lenL (.tmp 53)), none⟩,
    ⟨(some 55), (.mov (.const (.int .i64 0))), none⟩])
  (.block 2 (.loop (.seq (.region 0 [
    ⟨(some 56), (.binI .lss .i64 (.tmp 55) (.tmp 54)), none⟩])
  (.seq (.cond (.tmp 56) .skip (.exit 2))
  (.seq (.block 3 (.seq (.region 1 [
    ⟨(some 57), (.iaddr 2 (.tmp 53) (.tmp 55)), none⟩,
    ⟨(some 58), (.load true 2 (.tmp 57)), none⟩,
    ⟨(some 10), (.zero 0 [(.v (.string ⟨#[]⟩)), (.v (.string ⟨#[]⟩))]), none⟩,
    ⟨none, (.store 2 (.tmp 10) (.tmp 58)), none⟩])
  (.seq (.region 0 [
    ⟨(some 59), (.faddr 0 (.tmp 10)), none⟩,
    ⟨(some 60), (.load false 1 (.tmp 59)), none⟩,
    ⟨(some 61), (.mov (.tmp 2)), none⟩,
    ⟨(some 62), (.binS .eql (.tmp 60) (.tmp 61)), none⟩])
  (.cond (.tmp 62) (.seq (.region 0 [
    ⟨(some 63), (.call 25 []), none⟩,
    ⟨(some 6), (.mov (.tmp 63)), none⟩])
  .ret) .skip))))
  (.region 0 [
    ⟨(some 64), (.binI .add .i64 (.tmp 55) (.const (.int .i64 1))), none⟩,
    ⟨(some 55), (.mov (.tmp 64)), none⟩])))))))
def b10_4 : AC := (.region 4 [
    ⟨(some 65), (.bsl 0 2 [(.v (.string ⟨#[]⟩)), (.v (.string ⟨#[]⟩))] 0 []), none⟩,
    ⟨(some 66), (.mov (.tmp 1)), none⟩,
    ⟨(some 67), (.app 1 2 32 (.tmp 65) (.tmp 66)), none⟩,
    ⟨(some 68), (.mov (.tmp 2)), none⟩,
    ⟨(some 69), (.build [(.v (.string ⟨#[]⟩)), (.v (.string ⟨#[]⟩))] [(0, (1, (.tmp 68)))]), none⟩,
    ⟨(some 70), (.bsl 2 2 [(.v (.string ⟨#[]⟩)), (.v (.string ⟨#[]⟩))] 1 [(0, (.tmp 69))]), none⟩,
    ⟨(some 71), (.app 3 2 32 (.tmp 67) (.tmp 70)), none⟩,
    ⟨(some 11), (.mov (.tmp 71)), none⟩])
def b10_5 : AC := (.region 1 [
    ⟨(some 72), (.mov (.tmp 2)), none⟩,
    ⟨(some 73), (.build [(.v (.string ⟨#[]⟩)), (.v (.int .i64 0)), (.v (.int .i64 0))] [(0, (1, (.tmp 72))), (2, (1, (.const (.int .i64 22))))]), none⟩,
    ⟨(some 74), (.bsl 0 3 [(.v (.string ⟨#[]⟩)), (.v (.int .i64 0)), (.v (.int .i64 0))] 1 [(0, (.tmp 73))]), none⟩,
    ⟨(some 12), (.mov (.tmp 74)), none⟩])
def b10_6 : AC := (.region 0 [
    ⟨(some 13), (.mov (.const (.slice none 0 0))), none⟩])
def b10_7 : AC := (.seq (.region 0 [
    ⟨(some 75), (.mov (.tmp 1)), none⟩,
    ⟨(some 76), (.lenL (.tmp 75)), none⟩,
    ⟨(some 77), (.mov (.const (.int .i64 0))), none⟩])
  (.block 4 (.loop (.seq (.region 0 [
    ⟨(some 78), (.binI .lss .i64 (.tmp 77) (.tmp 76)), none⟩])
  (.seq (.cond (.tmp 78) .skip (.exit 4))
  (.seq (.block 5 (.seq (.region 1 [
    ⟨(some 79), (.iaddr 2 (.tmp 75) (.tmp 77)), none⟩,
    ⟨(some 80), (.load true 2 (.tmp 79)), none⟩,
    ⟨(some 15), (.zero 0 [(.v (.string ⟨#[]⟩)), (.v (.string ⟨#[]⟩))]), none⟩,
    ⟨none, (.store 2 (.tmp 15) (.tmp 80)), none⟩])
  (.region 2 [
    ⟨(some 81), (.mov (.tmp 13)), none⟩,
    ⟨(some 82), (.faddr 0 (.tmp 15)), none⟩,
    ⟨(some 83), (.load false 1 (.tmp 82)), none⟩,
    ⟨(some 84), (.build [(.v (.string ⟨#[]⟩)), (.v (.int .i64 0)), (.v (.int .i64 0))] [(0, (1, (.tmp 83))), (2, (1, (.const (.int .i64 22))))]), none⟩,
    ⟨(some 85), (.bsl 0 3 [(.v (.string ⟨#[]⟩)), (.v (.int .i64 0)), (.v (.int .i64 0))] 1 [(0, (.tmp 84))]), none⟩,
    ⟨(some 86), (.app 1 3 32 (.tmp 81) (.tmp 85)), none⟩,
    ⟨(some 13), (.mov (.tmp 86)), none⟩])))
  (.region 0 [
    ⟨(some 87), (.binI .add .i64 (.tmp 77) (.const (.int .i64 1))), none⟩,
    ⟨(some 77), (.mov (.tmp 87)), none⟩])))))))
def b10_8 : AC := (.region 0 [
    ⟨(some 88), (.call 25 []), none⟩,
    ⟨(some 89), (.mov (.tmp 88)), none⟩,
    ⟨(some 90), (.mov (.tmp 0)), (some (89, true))⟩,
    ⟨(some 91), (.mov (.tmp 11)), (some (89, true))⟩,
    ⟨(some 92), (.call 28 [(.tmp 90), (.tmp 91), (.const (.slice none 0 0))]), (some (89, true))⟩,
    ⟨(some 93), (.binI .eql .i64 (.tmp 92) (.const (.int .i64 0))), (some (89, true))⟩,
    ⟨(some 94), (.pick (.tmp 89) (.tmp 93) (.const (.bool false))), none⟩,
    ⟨(some 95), (.mov (.tmp 94)), none⟩,
    ⟨(some 96), (.mov (.tmp 0)), (some (95, true))⟩,
    ⟨(some 97), (.mov (.tmp 11)), (some (95, true))⟩,
    ⟨(some 98), (.call 30 [(.tmp 96), (.tmp 97), (.const (.slice none 0 0))]), (some (95, true))⟩,
    ⟨(some 99), (.binI .eql .i64 (.tmp 98) (.const (.int .i64 0))), (some (95, true))⟩,
    ⟨(some 100), (.pick (.tmp 95) (.tmp 99) (.const (.bool false))), none⟩,
    ⟨(some 101), (.mov (.tmp 100)), none⟩,
    ⟨(some 102), (.mov (.tmp 0)), (some (101, true))⟩,
    ⟨(some 103), (.mov (.tmp 11)), (some (101, true))⟩,
    ⟨(some 104), (.mov (.tmp 12)), (some (101, true))⟩,
    ⟨(some 105), (.call 28 [(.tmp 102), (.tmp 103), (.tmp 104)]), (some (101, true))⟩,
    ⟨(some 106), (.mov (.tmp 0)), (some (101, true))⟩,
    ⟨(some 107), (.mov (.tmp 1)), (some (101, true))⟩,
    ⟨(some 108), (.call 28 [(.tmp 106), (.tmp 107), (.const (.slice none 0 0))]), (some (101, true))⟩,
    ⟨(some 109), (.binI .eql .i64 (.tmp 105) (.tmp 108)), (some (101, true))⟩,
    ⟨(some 110), (.pick (.tmp 101) (.tmp 109) (.const (.bool false))), none⟩,
    ⟨(some 111), (.mov (.tmp 110)), none⟩,
    ⟨(some 112), (.mov (.tmp 0)), (some (111, true))⟩,
    ⟨(some 113), (.mov (.tmp 11)), (some (111, true))⟩,
    ⟨(some 114), (.mov (.tmp 12)), (some (111, true))⟩,
    ⟨(some 115), (.call 30 [(.tmp 112), (.tmp 113), (.tmp 114)]), (some (111, true))⟩,
    ⟨(some 116), (.mov (.tmp 0)), (some (111, true))⟩,
    ⟨(some 117), (.mov (.tmp 1)), (some (111, true))⟩,
    ⟨(some 118), (.call 30 [(.tmp 116), (.tmp 117), (.const (.slice none 0 0))]), (some (111, true))⟩,
    ⟨(some 119), (.binI .eql .i64 (.tmp 115) (.tmp 118)), (some (111, true))⟩,
    ⟨(some 120), (.pick (.tmp 111) (.tmp 119) (.const (.bool false))), none⟩,
    ⟨(some 121), (.mov (.tmp 120)), none⟩,
    ⟨(some 122), (.mov (.tmp 0)), (some (121, true))⟩,
    ⟨(some 123), (.mov (.tmp 1)), (some (121, true))⟩,
    ⟨(some 124), (.mov (.tmp 13)), (some (121, true))⟩,
    ⟨(some 125), (.call 28 [(.tmp 122), (.tmp 123), (.tmp 124)]), (some (121, true))⟩,
    ⟨(some 126), (.binI .eql .i64 (.tmp 125) (.const (.int .i64 0))), (some (121, true))⟩,
    ⟨(some 127), (.pick (.tmp 121) (.tmp 126) (.const (.bool false))), none⟩,
    ⟨(some 6), (.mov (.tmp 127)), none⟩])
def b10_9 : AC := .ret
def b10 : AC := (.seq b10_0 (.seq b10_1 (.seq b10_2 (.seq b10_3 (.seq b10_4 (.seq b10_5 (.seq b10_6 (.seq b10_7 (.seq b10_8 b10_9)))))))))
def ir10 : AF := ⟨128, [(.tmp 6)], b10⟩
theorem c10 : compF tt Try.f10 = some ir10 := by kernel_rfl
def b11_0 : AC := (.region 1 [
    ⟨(some 5), (.box 0 (.tmp 2)), none⟩,
    ⟨(some 6), (.mov (.const (.bool false))), none⟩])
def b11_1 : AC := (.seq (.region 0 [
    ⟨(some 14), (.mov (.tmp 0)), none⟩,
    ⟨(some 15), (.mov (.tmp 1)), none⟩,
    ⟨(some 16), (.call 24 [(.tmp 14), (.tmp 15), (.const (.slice none 0 0))]), none⟩,
    ⟨(some 17), (.mov (.tmp 16)), none⟩,
    ⟨(some 18), (.faddr 0 (.tmp 5)), (some (17, false))⟩,
    ⟨(some 19), (.load false 1 (.tmp 18)), (some (17, false))⟩,
    ⟨(some 20), (.lenS (.tmp 19)), (some (17, false))⟩,
    ⟨(some 21), (.binI .gtr .i64 (.tmp 20) (.const (.int .i64 100))), (some (17, false))⟩,
    ⟨(some 22), (.pick (.tmp 17) (.const (.bool true)) (.tmp 21)), none⟩])
  (.cond (.tmp 22) (.seq (.region 0 [
    ⟨(some 23), (.call 25 []), none⟩,
    ⟨(some 6), (.mov (.tmp 23)), none⟩])
  .ret) .skip))
def b11_2 : AC := (.region 0 [
    ⟨(some 7), (.mov (.const (.bool false))), none⟩,
    ⟨(some 8), (.mov (.const (.int .i64 (-1)))), none⟩])
def b11_3 : AC := (.seq (.region 0 [
    ⟨(some 24), (.mov (.tmp 0)), none⟩,
    ⟨(some 25), (.lenL (.tmp 24)), none⟩,
    ⟨(some 26), (.mov (.const (.int .i64 0))), none⟩])
  (.block 0 (.loop (.seq (.region 0 [
    ⟨(some 27), (.binI .lss .i64 (.tmp 26) (.tmp 25)), none⟩])
  (.seq (.cond (.tmp 27) .skip (.exit 0))
  (.seq (.block 1 (.seq (.region 1 [
    ⟨(some 28), (.iaddr 18 (.tmp 24) (.tmp 26)), none⟩,
    ⟨(some 29), (.load true 18 (.tmp 28)), none⟩,
    ⟨(some 10), (.zero 0 [(.v (.string ⟨#[]⟩)), (.v (.int .i64 0)), (.v (.int .i64 0)), (.v (.int .i64 0)), (.v (.slice none 0 0)), (.v (.int .i64 0)), (.v (.string ⟨#[]⟩)), (.v (.int .i64 0)), (.v (.string ⟨#[]⟩)), (.v (.int .i64 0)), (.v (.bool false)), (.v (.string ⟨#[]⟩)), (.v (.string ⟨#[]⟩)), (.v (.string ⟨#[]⟩)), (.v (.string ⟨#[]⟩)), (.v (.string ⟨#[]⟩)), (.v (.int .i64 0)), (.v (.string ⟨#[]⟩))]), none⟩,
    ⟨none, (.store 18 (.tmp 10) (.tmp 29)), none⟩])
  (.seq (.seq (.region 0 [
    ⟨(some 30), (.faddr 2 (.tmp 10)), none⟩,
    ⟨(some 31), (.load false 1 (.tmp 30)), none⟩,
    ⟨(some 32), (.binI .lss .i64 (.tmp 31) (.const (.int .i64 0))), none⟩,
    ⟨(some 33), (.mov (.tmp 32)), none⟩,
    ⟨(some 34), (.faddr 3 (.tmp 10)), (some (33, false))⟩,
    ⟨(some 35), (.load false 1 (.tmp 34)), (some (33, false))⟩,
    ⟨(some 36), (.binI .lss .i64 (.tmp 35) (.const (.int .i64 0))), (some (33, false))⟩,
    ⟨(some 37), (.pick (.tmp 33) (.const (.bool true)) (.tmp 36)), none⟩])
  (.cond (.tmp 37) (.seq (.region 0 [
    ⟨(some 38), (.call 25 []), none⟩,
    ⟨(some 6), (.mov (.tmp 38)), none⟩])
  .ret) .skip))
  (.seq (.region 0 [
    ⟨(some 39), (.faddr 0 (.tmp 10)), none⟩,
    ⟨(some 40), (.faddr 0 (.tmp 39)), none⟩,
    ⟨(some 41), (.load false 1 (.tmp 40)), none⟩,
    ⟨(some 42), (.faddr 0 (.tmp 5)), none⟩,
    ⟨(some 43), (.load false 1 (.tmp 42)), none⟩,
    ⟨(some 44), (.binS .eql (.tmp 41) (.tmp 43)), none⟩])
  (.cond (.tmp 44) (.seq (.region 0 [
    ⟨(some 45), (.mov (.tmp 7)), none⟩,
    ⟨(some 46), (.mov (.tmp 45)), none⟩,
    ⟨(some 47), (.faddr 0 (.tmp 10)), (some (46, false))⟩,
    ⟨(some 48), (.faddr 1 (.tmp 47)), (some (46, false))⟩,
    ⟨(some 49), (.load false 1 (.tmp 48)), (some (46, false))⟩,
    ⟨(some 50), (.faddr 1 (.tmp 5)), (some (46, false))⟩,
    ⟨(some 51), (.load false 1 (.tmp 50)), (some (46, false))⟩,
    ⟨(some 52), (.binI .geq .i64 (.tmp 49) (.tmp 51)), (some (46, false))⟩,
    ⟨(some 53), (.pick (.tmp 46) (.const (.bool true)) (.tmp 52)), none⟩,
    ⟨(some 7), (.mov (.tmp 53)), none⟩])
  (.seq (.region 0 [
    ⟨(some 54), (.mov (.tmp 8)), none⟩,
    ⟨(some 55), (.binI .lss .i64 (.tmp 54) (.const (.int .i64 0))), none⟩,
    ⟨(some 56), (.mov (.tmp 55)), none⟩,
    ⟨(some 57), (.faddr 0 (.tmp 10)), (some (56, true))⟩,
    ⟨(some 58), (.faddr 1 (.tmp 57)), (some (56, true))⟩,
    ⟨(some 59), (.load false 1 (.tmp 58)), (some (56, true))⟩,
    ⟨(some 60), (.faddr 1 (.tmp 5)), (some (56, true))⟩,
    ⟨(some 61), (.load false 1 (.tmp 60)), (some (56, true))⟩,
    ⟨(some 62), (.binI .eql .i64 (.tmp 59) (.tmp 61)), (some (56, true))⟩,
    ⟨(some 63), (.pick (.tmp 56) (.tmp 62) (.const (.bool false))), none⟩])
  (.cond (.tmp 63) (.region 0 [
    ⟨(some 64), (.faddr 2 (.tmp 10)), none⟩,
    ⟨(some 65), (.load false 1 (.tmp 64)), none⟩,
    ⟨(some 8), (.mov (.tmp 65)), none⟩]) .skip))) .skip)))))
  (.region 0 [
    ⟨(some 66), (.binI .add .i64 (.tmp 26) (.const (.int .i64 1))), none⟩,
    ⟨(some 26), (.mov (.tmp 66)), none⟩])))))))
def b11_4 : AC := (.region 0 [
    ⟨(some 67), (.mov (.tmp 0)), none⟩,
    ⟨(some 68), (.mov (.tmp 1)), none⟩,
    ⟨(some 69), (.call 28 [(.tmp 67), (.tmp 68), (.const (.slice none 0 0))]), none⟩,
    ⟨(some 11), (.mov (.tmp 69)), none⟩])
def b11_5 : AC := (.region 1 [
    ⟨(some 70), (.mov (.tmp 0)), none⟩,
    ⟨(some 71), (.mov (.tmp 1)), none⟩,
    ⟨(some 72), (.faddr 0 (.tmp 5)), none⟩,
    ⟨(some 73), (.load false 1 (.tmp 72)), none⟩,
    ⟨(some 74), (.faddr 1 (.tmp 5)), none⟩,
    ⟨(some 75), (.load false 1 (.tmp 74)), none⟩,
    ⟨(some 76), (.build [(.v (.string ⟨#[]⟩)), (.v (.int .i64 0)), (.v (.int .i64 0))] [(0, (1, (.tmp 73))), (1, (1, (.tmp 75))), (2, (1, (.const (.int .i64 19))))]), none⟩,
    ⟨(some 77), (.bsl 0 3 [(.v (.string ⟨#[]⟩)), (.v (.int .i64 0)), (.v (.int .i64 0))] 1 [(0, (.tmp 76))]), none⟩,
    ⟨(some 78), (.call 28 [(.tmp 70), (.tmp 71), (.tmp 77)]), none⟩,
    ⟨(some 12), (.mov (.tmp 78)), none⟩])
def b11_6 : AC := (.region 1 [
    ⟨(some 79), (.mov (.tmp 0)), none⟩,
    ⟨(some 80), (.mov (.tmp 1)), none⟩,
    ⟨(some 81), (.faddr 0 (.tmp 5)), none⟩,
    ⟨(some 82), (.load false 1 (.tmp 81)), none⟩,
    ⟨(some 83), (.faddr 1 (.tmp 5)), none⟩,
    ⟨(some 84), (.load false 1 (.tmp 83)), none⟩,
    ⟨(some 85), (.build [(.v (.string ⟨#[]⟩)), (.v (.int .i64 0)), (.v (.int .i64 0))] [(0, (1, (.tmp 82))), (1, (1, (.tmp 84))), (2, (1, (.const (.int .i64 22))))]), none⟩,
    ⟨(some 86), (.bsl 0 3 [(.v (.string ⟨#[]⟩)), (.v (.int .i64 0)), (.v (.int .i64 0))] 1 [(0, (.tmp 85))]), none⟩,
    ⟨(some 87), (.call 28 [(.tmp 79), (.tmp 80), (.tmp 86)]), none⟩,
    ⟨(some 13), (.mov (.tmp 87)), none⟩])
def b11_7 : AC := (.seq (.region 0 [
    ⟨(some 88), (.mov (.tmp 12)), none⟩,
    ⟨(some 89), (.mov (.tmp 11)), none⟩,
    ⟨(some 90), (.mov (.tmp 8)), none⟩,
    ⟨(some 91), (.maxmin true .i64 (.tmp 90) (.const (.int .i64 0))), none⟩,
    ⟨(some 92), (.maxmin false .i64 (.tmp 89) (.tmp 91)), none⟩,
    ⟨(some 93), (.binI .neq .i64 (.tmp 88) (.tmp 92)), none⟩])
  (.cond (.tmp 93) (.seq (.region 0 [
    ⟨(some 6), (.mov (.const (.bool false))), none⟩])
  .ret) .skip))
def b11_8 : AC := (.region 0 [
    ⟨(some 94), (.call 25 []), none⟩,
    ⟨(some 95), (.mov (.tmp 94)), none⟩,
    ⟨(some 96), (.mov (.tmp 7)), (some (95, true))⟩,
    ⟨(some 97), (.mov (.tmp 96)), (some (95, true))⟩,
    ⟨(some 98), (.faddr 1 (.tmp 5)), (some (97, false))⟩,
    ⟨(some 99), (.load false 1 (.tmp 98)), (some (97, false))⟩,
    ⟨(some 100), (.binI .eql .i64 (.tmp 99) (.const (.int .i64 0))), (some (97, false))⟩,
    ⟨(some 101), (.pick (.tmp 97) (.const (.bool true)) (.tmp 100)), (some (95, true))⟩,
    ⟨(some 102), (.mov (.tmp 101)), (some (95, true))⟩,
    ⟨(some 103), (.mov (.tmp 13)), (some (102, false))⟩,
    ⟨(some 104), (.binI .eql .i64 (.tmp 103) (.const (.int .i64 0))), (some (102, false))⟩,
    ⟨(some 105), (.pick (.tmp 102) (.const (.bool true)) (.tmp 104)), (some (95, true))⟩,
    ⟨(some 106), (.pick (.tmp 95) (.tmp 105) (.const (.bool false))), none⟩,
    ⟨(some 6), (.mov (.tmp 106)), none⟩])
def b11_9 : AC := .ret
def b11 : AC := (.seq b11_0 (.seq b11_1 (.seq b11_2 (.seq b11_3 (.seq b11_4 (.seq b11_5 (.seq b11_6 (.seq b11_7 (.seq b11_8 b11_9)))))))))
def ir11 : AF := ⟨107, [(.tmp 6)], b11⟩
theorem c11 : compF tt Try.f11 = some ir11 := by kernel_rfl
end Go.Aw.Try

namespace Go.Aw.Try
open Go Go.Proofs Go.Aw
set_option maxRecDepth 100000
set_option maxHeartbeats 4000000
/-! ### the slowest member -/
/-- Clocks and floors are not negative. -/
def NonNeg (l : List Edit) : Prop := ∀ e ∈ l, 0 ≤ e.clock ∧ 0 ≤ e.floor
theorem knE_nonneg {l : List Edit} (h : NonNeg l) (nm : ByteArray) : 0 ≤ (knO (knE l nm)).c ∧ 0 ≤ (knO (knE l nm)).f := by
  have key : ∀ (l : List Edit), NonNeg l → ∀ s : Option Kn, (0 ≤ (knO s).c ∧ 0 ≤ (knO s).f) → 0 ≤ (knO (l.foldl (knStep nm) s)).c ∧ 0 ≤ (knO (l.foldl (knStep nm) s)).f := by
    intro l
    induction l with
    | nil => intro _ s hs; exact hs
    | cons e r ih =>
      intro hl s hs
      rw [List.foldl_cons]
      refine ih (fun x hx => hl x (List.mem_cons_of_mem _ hx)) _ ?_
      have he := hl e List.mem_cons_self
      unfold knStep
      by_cases ha : e.id.a = nm
      · rw [if_pos ha]
        cases s with
        | none => exact he
        | some k =>
          have hs1 : 0 ≤ k.c := hs.1
          have hs2 : 0 ≤ k.f := hs.2
          show 0 ≤ (kstep (some k) e).c ∧ 0 ≤ (kstep (some k) e).f
          simp only [kstep]
          constructor
          · split <;> omega
          · split <;> omega
      · rw [if_neg ha]; exact hs
  exact key l h none ⟨Int.le_refl _, Int.le_refl _⟩
theorem NonNeg.eff {l : List Edit} (h : NonNeg l) (cuts : List Cutoff) : NonNeg (effE l cuts) := fun e he => h e (eff_in he)
theorem clk_nonneg {l : List Edit} (h : NonNeg l) (cuts : List Cutoff) (m : Member) : 0 ≤ clk l cuts m := (knE_nonneg (h.eff cuts) m.name).1
theorem flr_nonneg {l : List Edit} (h : NonNeg l) (cuts : List Cutoff) (m : Member) : 0 ≤ flr l cuts m := (knE_nonneg (h.eff cuts) m.name).2
theorem knE_none {l : List Edit} {nm : ByteArray} (h : ∀ e ∈ l, e.id.a ≠ nm) : knE l nm = none := by
  unfold knE
  induction l with
  | nil => rfl
  | cons e r ih =>
    rw [List.foldl_cons]
    have : knStep nm none e = none := by unfold knStep; rw [if_neg (h e List.mem_cons_self)]
    rw [this]
    exact ih fun x hx => h x (List.mem_cons_of_mem _ hx)
theorem minL_ge {l : List Int} {v : Int} (h0 : l ≠ []) (h : ∀ x ∈ l, v ≤ x) : v ≤ minL l := by
  cases l with
  | nil => exact absurd rfl h0
  | cons a r =>
    have key : ∀ (r : List Int) (a : Int), v ≤ a → (∀ x ∈ r, v ≤ x) → v ≤ r.foldl minI a := by
      intro r
      induction r with
      | nil => intro a ha _; exact ha
      | cons y r ih =>
        intro a ha hr
        rw [List.foldl_cons]
        refine ih _ ?_ fun x hx => hr x (List.mem_cons_of_mem _ hx)
        have := hr y List.mem_cons_self
        unfold minI; split <;> omega
    exact key r a (h a List.mem_cons_self) fun x hx => h x (List.mem_cons_of_mem _ hx)
theorem stay_nil (f : Member → Int) (all : List Member) : stay f all [] = all.map f := by
  unfold stay; rw [List.filter_eq_self.2 fun m _ => by simp [goneBy]]
theorem least_nil (f : Member → Int) (l : List Edit) (all : List Member) : leastE f l all [] = if all = [] then 0 else minL (all.map f) := by
  unfold leastE
  rw [stay_nil]
  by_cases h : all = []
  · rw [if_pos h, if_pos (by rw [h]; rfl)]
  · rw [if_neg h, if_neg (by simpa using h)]
    simp [backs]
theorem least_zero {f : Member → Int} {l : List Edit} {all : List Member} {x : Member} (h : ∀ m, 0 ≤ f m) (hx : f x = 0) : leastE f l (all ++ [x]) [] = 0 := by
  rw [least_nil, if_neg (by simp)]
  have h1 : minL ((all ++ [x]).map f) ≤ 0 := by
    rw [← hx]; exact minL_mem (List.mem_map_of_mem (by simp))
  have h2 : 0 ≤ minL ((all ++ [x]).map f) := minL_ge (by simp) fun y hy => by
    obtain ⟨m, _, rfl⟩ := List.mem_map.1 hy; exact h m
  omega
theorem eff_gone {l : List Edit} {nm : ByteArray} (h : ∀ e ∈ l, e.id.a ≠ nm) (n : Int) : effE l [⟨nm, n, 22⟩] = effE l [] := by
  unfold effE
  refine List.filter_congr fun e he => ?_
  have := h e (sortE_in he)
  have h' : ¬ nm = e.id.a := fun q => this q.symm
  simp [cutBy, h']
theorem stay_gone {f : Member → Int} {all : List Member} {nm k : ByteArray} (h : ∀ m ∈ all, m.name ≠ nm) (n : Int) : stay f (all ++ [⟨nm, k⟩]) [⟨nm, n, 22⟩] = all.map f := by
  unfold stay
  rw [List.filter_append]
  have e1 : all.filter (fun m => !goneBy [⟨nm, n, 22⟩] m.name) = all := List.filter_eq_self.2 fun m hm => by
    have := h m hm
    have h' : ¬ nm = m.name := fun q => this q.symm
    simp [goneBy, h']
  rw [e1]
  simp [goneBy]
theorem least_gone {f : Member → Int} {l : List Edit} {all : List Member} {nm k : ByteArray} (h : ∀ m ∈ all, m.name ≠ nm) : leastE f l (all ++ [⟨nm, k⟩]) [⟨nm, 0, 22⟩] = leastE f l all [] := by
  rw [least_nil]
  unfold leastE
  rw [stay_gone h]
  by_cases h0 : all = []
  · rw [if_pos h0, if_pos (by rw [h0]; rfl)]
  · rw [if_neg h0, if_neg (by simpa using h0)]
    simp [badC, backs]
def allGone (all : List Member) : List Cutoff := all.map fun m => ⟨m.name, 0, 22⟩
theorem least_all (f : Member → Int) (l : List Edit) (all : List Member) : leastE f l all (allGone all) = 0 := by
  unfold leastE
  rw [if_pos]
  unfold stay
  rw [List.map_eq_nil_iff, List.filter_eq_nil_iff]
  intro m hm
  have : goneBy (allGone all) m.name = true := List.any_eq_true.2 ⟨⟨m.name, 0, 22⟩, List.mem_map.2 ⟨m, hm, rfl⟩, by simp⟩
  simp [this]
/-- The law of the slowest. -/
theorem slowest {l : List Edit} {all : List Member} {nm : ByteArray} (hl : ∀ e ∈ l, e.id.a ≠ nm) (hn : NonNeg l) (ha : ∀ m ∈ all, m.name ≠ nm) :
    stableC l (all ++ [⟨nm, ⟨#[]⟩⟩]) [] = 0 ∧ stableF l (all ++ [⟨nm, ⟨#[]⟩⟩]) [] = 0 ∧ stableC l (all ++ [⟨nm, ⟨#[]⟩⟩]) [⟨nm, 0, 22⟩] = stableC l all [] ∧
    stableF l (all ++ [⟨nm, ⟨#[]⟩⟩]) [⟨nm, 0, 22⟩] = stableF l all [] ∧ stableC l all (allGone all) = 0 := by
  have hk : knE (effE l []) nm = none := knE_none fun e he => hl e (eff_in he)
  refine ⟨least_zero (clk_nonneg hn []) ?_, least_zero (flr_nonneg hn []) ?_, ?_, ?_, least_all _ _ _⟩
  · unfold clk; simp only [hk]; rfl
  · unfold flr; simp only [hk]; rfl
  · unfold stableC
    rw [least_gone ha]
    congr 1
    funext m; unfold clk; rw [eff_gone hl]
  · unfold stableF
    rw [least_gone ha]
    congr 1
    funext m; unfold flr; rw [eff_gone hl]
end Go.Aw.Try

namespace Go.Aw.Try
open Go Go.Proofs Go.Aw
set_option maxRecDepth 100000
set_option maxHeartbeats 4000000
theorem k10 (l : List Edit) (all : List Member) (nm : ByteArray) (hl : gtot l < 34359738368) (ha : all.length < 17179869184) :
    ACalls Try.prog G0 10 [.c (.d (.sl (l.map Edit.row))), .c (.d (.sl (all.map Member.row))), Sx nm] [] fun t H => t = .bool true ∧ H = [] := by
  have hlen := gtot_len l
  have h24 : x24.sc = true := rfl
  have h28 : x28.sc = true := rfl
  have h30 : x30.sc = true := rfl
  have g24 := xg24 l all [] (by omega)
  have g1 := xg28 l (all ++ [⟨nm, ⟨#[]⟩⟩]) [] (by omega) (by simp; omega) (by simp)
  have g2 := xg30 l (all ++ [⟨nm, ⟨#[]⟩⟩]) [] (by omega) (by simp; omega) (by simp)
  have g3 := xg28 l (all ++ [⟨nm, ⟨#[]⟩⟩]) [⟨nm, 0, 22⟩] (by omega) (by simp; omega) (by simp)
  have g4 := xg30 l (all ++ [⟨nm, ⟨#[]⟩⟩]) [⟨nm, 0, 22⟩] (by omega) (by simp; omega) (by simp)
  have g5 := xg28 l all [] (by omega) (by omega) (by simp)
  have g6 := xg30 l all [] (by omega) (by omega) (by simp)
  have g7 := xg28 l all (allGone all) (by omega) (by omega) (by simp [allGone]; omega)
  simp only [List.map_append, List.map_cons, List.map_nil, Member.row, Cutoff.row] at g24 g1 g2 g3 g4 g5 g6
  refine acallsX (X := [(24, x24), (25, x25), (28, x28), (30, x30)]) ⟨kx24, kx25, kx28, kx30, trivial⟩ tab hmix Try.func10 c10 (by rfl) fun hw => ?_
  have hfix : ∀ b, greatB l all [] = b → x24.g [.c (.sl (l.map Edit.row)), .c (.sl (all.map Member.row)), .c (.sl [])] = some (True, .bool b) := fun b hb => by rw [← hb]; exact g24
  cases hg : greatB l all []
  · have g24 := hfix _ hg
    by_cases c1 : 9 < all.length
    · have c1' : (9 : Int) < all.length := by omega
      simp (implicitDefEqProofs := false) (disch := omega) [List.getElem?_cons_zero, ir10, b10, b10_0, b10_1, h24, g24, x25, c1, c1']
      exact fin_nil ⟨rfl, rfl⟩
    · have c1' : ¬ (9 : Int) < all.length := by omega
      by_cases c2 : 100 < nm.size
      · have c2' : (100 : Int) < nm.size := by omega
        simp (implicitDefEqProofs := false) (disch := omega) [List.getElem?_cons_zero, ir10, b10, b10_0, b10_1, h24, g24, x25, c1, c1', c2, c2']
        exact fin_nil ⟨rfl, rfl⟩
      · have c2' : ¬ (100 : Int) < nm.size := by omega
        simp (implicitDefEqProofs := false) (disch := omega) [List.getElem?_cons_zero, ir10, b10, b10_0, b10_1, b10_2, h24, g24, x25, c1, c1', c2, c2', wrap64]
        refine loopE (fun k s => ∃ (i : Nat), i ≤ l.length ∧ k = l.length - i ∧ (∀ o ∈ l.take i, o.id.a ≠ nm ∧ 0 ≤ o.clock ∧ 0 ≤ o.floor) ∧
            s = ⟨ofL [(0, .v (.c (.d (.sl (l.map Edit.row))))), (1, .v (.c (.d (.sl (all.map Member.row))))), (2, .str nm), (30, .v (.c (.d (.sl (l.map Edit.row))))), (31, .int .i64 l.length), (32, .int .i64 i)], []⟩)
          (fun s => (∀ o ∈ l, o.id.a ≠ nm ∧ 0 ≤ o.clock ∧ 0 ≤ o.floor) ∧ AtS [(0, .v (.c (.d (.sl (l.map Edit.row))))), (1, .v (.c (.d (.sl (all.map Member.row))))), (2, .str nm)] [] s) ?_ ?_ ?_
        · refine wk_keep [0, 1, 2, 30, 31, 32] ⟨_, 0, by omega, rfl, by simp, ?_⟩
          simp
        · rintro J L hJ hL k s ⟨i, hi, rfl, hgood, rfl⟩
          by_cases hlt : i < l.length
          · obtain ⟨o, ho⟩ : ∃ o, nth l i = o := ⟨_, rfl⟩
            have hoe : o.row = [.v (.string o.id.a), .v (.int .i64 o.id.n), .v (.int .i64 o.clock), .v (.int .i64 o.floor), .sl (o.deps.map Id.row), .v (.int .i64 o.kind), .v (.string o.node.a), .v (.int .i64 o.node.n), .v (.string o.parent.a), .v (.int .i64 o.parent.n), .v (.bool o.neg), .v (.string o.num), .v (.string o.den), .v (.string o.field), .v (.string o.value), .v (.string o.target.a), .v (.int .i64 o.target.n), .v (.string o.who)] := rfl
            by_cases q1 : o.id.a = nm
            · simp (implicitDefEqProofs := false) (disch := omega) [List.getElem?_cons_zero, hlt, nth_map, ho, hoe, q1, binSF, splice, x25, wrap64]
              exact fin_nil ⟨rfl, rfl⟩
            · by_cases q2 : o.clock < 0
              · simp (implicitDefEqProofs := false) (disch := omega) [List.getElem?_cons_zero, hlt, nth_map, ho, hoe, q1, q2, binSF, splice, x25, wrap64]
                exact fin_nil ⟨rfl, rfl⟩
              · by_cases q3 : o.floor < 0
                · simp (implicitDefEqProofs := false) (disch := omega) [List.getElem?_cons_zero, hlt, nth_map, ho, hoe, q1, q2, q3, binSF, splice, x25, wrap64]
                  exact fin_nil ⟨rfl, rfl⟩
                · simp (implicitDefEqProofs := false) (disch := omega) [List.getElem?_cons_zero, hlt, nth_map, ho, hoe, q1, q2, q3, binSF, splice, wrap64]
                  subst hJ
                  refine wk_nil [] [0, 1, 2, 30, 31, 32] rfl ⟨l.length - (i + 1), by omega, i + 1, by omega, rfl, fun x hx => ?_, ?_⟩
                  · rw [take_nth hlt, ho] at hx
                    rcases List.mem_append.1 hx with hx | hx
                    · exact hgood x hx
                    · rw [List.mem_singleton] at hx; rw [hx]; exact ⟨q1, by omega, by omega⟩
                  · simp
          · have : i = l.length := by omega
            subst this
            rw [List.take_length] at hgood
            simp (implicitDefEqProofs := false) (disch := omega) [List.getElem?_cons_zero, hlt]
            subst hL
            exact ⟨hgood, at_mk (by simp) rfl⟩
        · rintro _ ⟨hL0, sl, rfl⟩
          simp (implicitDefEqProofs := false) (disch := omega) [List.getElem?_cons_zero, b10_3, wrap64]
          refine loopE (fun k s => ∃ (i : Nat), i ≤ all.length ∧ k = all.length - i ∧ (∀ m ∈ all.take i, m.name ≠ nm) ∧
              s = ⟨ofL [(0, .v (.c (.d (.sl (l.map Edit.row))))), (1, .v (.c (.d (.sl (all.map Member.row))))), (2, .str nm), (53, .v (.c (.d (.sl (all.map Member.row))))), (54, .int .i64 all.length), (55, .int .i64 i)], []⟩)
            (fun s => (∀ m ∈ all, m.name ≠ nm) ∧ AtS [(0, .v (.c (.d (.sl (l.map Edit.row))))), (1, .v (.c (.d (.sl (all.map Member.row))))), (2, .str nm)] [] s) ?_ ?_ ?_
          · refine wk_keep [0, 1, 2, 53, 54, 55] ⟨_, 0, by omega, rfl, by simp, ?_⟩
            simp
          · rintro J L hJ hL k s ⟨i, hi, rfl, hgood, rfl⟩
            by_cases hlt : i < all.length
            · obtain ⟨m, hm⟩ : ∃ m, nth all i = m := ⟨_, rfl⟩
              have hme : m.row = [.v (.string m.name), .v (.string m.key)] := rfl
              by_cases q1 : m.name = nm
              · simp (implicitDefEqProofs := false) (disch := omega) [List.getElem?_cons_zero, hlt, nth_map, hm, hme, q1, binSF, splice, x25, wrap64]
                exact fin_nil ⟨rfl, rfl⟩
              · simp (implicitDefEqProofs := false) (disch := omega) [List.getElem?_cons_zero, hlt, nth_map, hm, hme, q1, binSF, splice, wrap64]
                subst hJ
                refine wk_nil [] [0, 1, 2, 53, 54, 55] rfl ⟨all.length - (i + 1), by omega, i + 1, by omega, rfl, fun x hx => ?_, ?_⟩
                · rw [take_nth hlt, hm] at hx
                  rcases List.mem_append.1 hx with hx | hx
                  · exact hgood x hx
                  · rw [List.mem_singleton] at hx; rw [hx]; exact q1
                · simp
            · have : i = all.length := by omega
              subst this
              rw [List.take_length] at hgood
              simp (implicitDefEqProofs := false) (disch := omega) [List.getElem?_cons_zero, hlt]
              subst hL
              exact ⟨hgood, at_mk (by simp) rfl⟩
          · rintro _ ⟨hA0, sl, rfl⟩
            obtain ⟨s1, s2, s3, s4, s5⟩ := slowest (l := l) (all := all) (nm := nm) (fun e he => (hL0 e he).1) (fun e he => (hL0 e he).2) hA0
            obtain ⟨R, hR⟩ : ∃ R, R = all.map Member.row ++ [[.v (.string nm), .v (.string ⟨#[]⟩)]] := ⟨_, rfl⟩
            have lR : R.length = all.length + 1 := by rw [hR]; simp
            have tR : R.take (all.length + 1) = R := List.take_of_length_le (by omega)
            have e0 : (all.map Member.row ++ [[D.v (.string nm), D.v (.string ⟨#[]⟩)]]).take (all.length + 1) = all.map Member.row ++ [[D.v (.string nm), D.v (.string ⟨#[]⟩)]] := by rw [← hR]; exact tR
            simp (implicitDefEqProofs := false) (disch := omega) [List.getElem?_cons_zero, b10_4, b10_5, b10_6, b10_7, e0, splice, fillC, wrap64]
            repeat' apply And.intro
            all_goals first | omega | kernel_rfl | exact fun _ _ => rfl | skip
            refine loopE (fun k s => ∃ (i : Nat), i ≤ all.length ∧ k = all.length - i ∧
                s = ⟨ofL [(0, .v (.c (.d (.sl (l.map Edit.row))))), (1, .v (.c (.d (.sl (all.map Member.row))))), (11, .v (.c (.os 0 2 0 (all.length + 1)))), (12, .v (.c (.os 1 3 0 1))), (13, .v (.c (.os 2 3 0 i))), (75, .v (.c (.d (.sl (all.map Member.row))))), (76, .int .i64 all.length), (77, .int .i64 i)],
                  [.row 2 R, .row 3 [[.v (.string nm), .v (.int .i64 0), .v (.int .i64 22)]], .row 3 ((allGone (all.take i)).map Cutoff.row)]⟩)
              (fun s => AtS [(0, .v (.c (.d (.sl (l.map Edit.row))))), (1, .v (.c (.d (.sl (all.map Member.row))))), (11, .v (.c (.os 0 2 0 (all.length + 1)))), (12, .v (.c (.os 1 3 0 1))), (13, .v (.c (.os 2 3 0 all.length)))]
                  [.row 2 R, .row 3 [[.v (.string nm), .v (.int .i64 0), .v (.int .i64 22)]], .row 3 ((allGone all).map Cutoff.row)] s) ?_ ?_ ?_
            · refine wk_nil_os 13 3 (by omega) (by simp) ?_
              refine wk_nil [3, 4, 5] [0, 1, 11, 12, 13, 75, 76, 77] rfl ⟨_, 0, by omega, rfl, ?_⟩
              simp [phi, O.ren, hR, allGone]
            · rintro J L hJ hL k s ⟨i, hi, rfl, rfl⟩
              by_cases hlt : i < all.length
              · obtain ⟨m, hm⟩ : ∃ m, nth all i = m := ⟨_, rfl⟩
                have hme : m.row = [.v (.string m.name), .v (.string m.key)] := rfl
                have hst : (allGone (all.take (i + 1))).map Cutoff.row = (allGone (all.take i)).map Cutoff.row ++ [[.v (.string m.name), .v (.int .i64 0), .v (.int .i64 22)]] := by
                  rw [take_nth hlt, hm]; simp [allGone, Cutoff.row]
                obtain ⟨A, hA⟩ : ∃ A, A = (allGone (all.take i)).map Cutoff.row := ⟨_, rfl⟩
                have lA : A.length = i := by rw [hA]; simp [allGone]; omega
                have tA : A.take i = A := List.take_of_length_le (by omega)
                rw [← hA] at hst ⊢
                have rA : ∀ y ∈ A, y.length = 3 := by
                  intro y hy; rw [hA] at hy; obtain ⟨x, _, rfl⟩ := List.mem_map.1 hy; rfl
                simp (implicitDefEqProofs := false) (disch := omega) [List.getElem?_cons_zero, hlt, nth_map, hm, hme, splice, fillC, lA, tA, wrap64]
                repeat' apply And.intro
                all_goals first | omega | kernel_rfl | exact rA | skip
                subst hJ
                refine wk_nil [0, 1, 5] [0, 1, 11, 12, 13, 75, 76, 77] rfl ⟨all.length - (i + 1), by omega, i + 1, by omega, rfl, ?_⟩
                rw [hst]; simp [phi, O.ren]
              · have : i = all.length := by omega
                subst this
                simp (implicitDefEqProofs := false) (disch := omega) [List.getElem?_cons_zero, hlt]
                subst hL
                exact at_mk (by simp) (by simp)
            · rintro _ ⟨sl, rfl⟩
              rw [← hR] at g1 g2 g3 g4
              obtain ⟨A, hA⟩ : ∃ A, A = (allGone all).map Cutoff.row := ⟨_, rfl⟩
              have lA : A.length = all.length := by rw [hA]; simp [allGone]
              have tA : A.take all.length = A := List.take_of_length_le (by omega)
              rw [← hA] at g7 ⊢
              simp (implicitDefEqProofs := false) (disch := omega) [List.getElem?_cons_zero, b10_8, b10_9, h28, h30, g1, g2, g3, g4, g5, g6, g7, lR, tR, lA, tA, s1, s2, s3, s4, s5, x25]
              exact fin_nil ⟨rfl, rfl⟩
  · have g24 := hfix _ hg
    simp (implicitDefEqProofs := false) (disch := omega) [List.getElem?_cons_zero, ir10, b10, b10_0, b10_1, h24, g24, x25]
    exact fin_nil ⟨rfl, rfl⟩
end Go.Aw.Try

namespace Go.Aw.Try
open Go Go.Proofs Go.Proofs.Ytlboedhconemnaa Go.Aw
set_option maxRecDepth 100000
theorem dec_str {l : List D} (h : okShs [.s] l) : ∃ n : ByteArray, l = [.v (.string n)] := by
  simp only [okShs, okSh] at h
  obtain ⟨_, _, rfl, ⟨n, rfl⟩, rfl⟩ := h
  exact ⟨n, rfl⟩
end Go.Aw.Try

namespace Go.Aw.Try
open Go Go.Proofs Go.Aw
set_option maxRecDepth 100000
set_option maxHeartbeats 4000000
/-! ### what limits the stable clock -/
theorem backE_nonneg {l : List Edit} (h : NonNeg l) (c : Cutoff) : 0 ≤ backE l c := by
  unfold backE
  split
  · rename_i e he
    exact (h e (List.mem_of_find?_eq_some he)).1
  · exact Int.le_refl _
theorem eff_wait (l : List Edit) (nm : ByteArray) (n : Int) : effE l [⟨nm, n, 19⟩] = effE l [] := by
  unfold effE
  refine List.filter_congr fun e he => ?_
  simp [cutBy]
theorem stay_wait (f : Member → Int) (all : List Member) (nm : ByteArray) (n : Int) : stay f all [⟨nm, n, 19⟩] = all.map f := by
  unfold stay; rw [List.filter_eq_self.2 fun m _ => by simp [goneBy]]
theorem least_wait (f : Member → Int) {l : List Edit} (h : NonNeg l) (all : List Member) (nm : ByteArray) (n : Int) : leastE f l all [⟨nm, n, 19⟩] = minI (leastE f l all []) (backE l ⟨nm, n, 19⟩) := by
  rw [least_nil]
  unfold leastE
  rw [stay_wait]
  have hb := backE_nonneg h ⟨nm, n, 19⟩
  by_cases h0 : all = []
  · rw [if_pos h0, if_pos (by rw [h0]; rfl)]
    unfold minI; split <;> omega
  · rw [if_neg h0, if_neg (by simpa using h0)]
    have e1 : backs l [⟨nm, n, 19⟩] = [backE l ⟨nm, n, 19⟩] := rfl
    rw [e1, minL_snoc (by simpa using h0)]
    rfl
/-- The law of the waiting cutoff. -/
theorem limit_wait {l : List Edit} (h : NonNeg l) (all : List Member) (nm : ByteArray) (n : Int) : stableC l all [⟨nm, n, 19⟩] = minI (stableC l all []) (backE l ⟨nm, n, 19⟩) := by
  have : clk l [⟨nm, n, 19⟩] = clk l [] := by funext m; unfold clk; rw [eff_wait]
  unfold stableC
  rw [this, least_wait _ h]
/-- The law of the exclusion whose edit is missing. -/
theorem limit_gone {l : List Edit} (all : List Member) {nm : ByteArray} {n : Int} (h : wholeR l ⟨nm, n, 22⟩ = false) (h0 : n ≠ 0) : stableC l all [⟨nm, n, 22⟩] = 0 := by
  unfold stableC leastE
  have : badC l ⟨nm, n, 22⟩ = true := by unfold badC; rw [h]; simp [h0]
  by_cases h1 : stay (clk l [⟨nm, n, 22⟩]) all [⟨nm, n, 22⟩] = []
  · rw [if_pos h1]
  · rw [if_neg h1, if_pos (by simp [this])]
/-- What the loop over the edits finds: whether one reaches the number, and the clock of the first one with it. -/
def thereAt (nm : ByteArray) (n : Int) (s : Bool × Int) (e : Edit) : Bool × Int := if e.id.a = nm then (s.1 || decide (n ≤ e.id.n), if s.2 < 0 ∧ e.id.n = n then e.clock else s.2) else s
def seek (nm : ByteArray) (n : Int) (l : List Edit) : Bool × Int := l.foldl (thereAt nm n) (false, -1)
theorem seek_take (nm : ByteArray) (n : Int) {l : List Edit} {i : Nat} (h : i < l.length) : seek nm n (l.take (i + 1)) = thereAt nm n (seek nm n (l.take i)) (nth l i) := by
  unfold seek; rw [take_nth h, List.foldl_append]; rfl
theorem seek_spec (nm : ByteArray) (n : Int) {l : List Edit} (h : NonNeg l) : (seek nm n l).1 = wholeR l ⟨nm, n, 22⟩ ∧ (if 0 < (seek nm n l).2 then (seek nm n l).2 else 0) = backE l ⟨nm, n, 19⟩ := by
  have key : ∀ (l : List Edit), NonNeg l → ∀ (s : Bool × Int), (l.foldl (thereAt nm n) s).1 = (s.1 || wholeR l ⟨nm, n, 22⟩) ∧
      (0 ≤ s.2 → (l.foldl (thereAt nm n) s).2 = s.2) ∧ (s.2 = -1 → (if 0 < (l.foldl (thereAt nm n) s).2 then (l.foldl (thereAt nm n) s).2 else 0) = backE l ⟨nm, n, 19⟩) := by
    intro l
    induction l with
    | nil =>
      intro _ s
      refine ⟨by simp [wholeR], fun _ => rfl, fun hs => ?_⟩
      simp only [List.foldl_nil, hs]
      rfl
    | cons e r ih =>
      intro hl s
      have he := (hl e List.mem_cons_self).1
      obtain ⟨i1, i2, i3⟩ := ih (fun x hx => hl x (List.mem_cons_of_mem _ hx)) (thereAt nm n s e)
      rw [List.foldl_cons]
      have hb : backE (e :: r) ⟨nm, n, 19⟩ = if e.id.a = nm ∧ e.id.n = n then e.clock else backE r ⟨nm, n, 19⟩ := by
        unfold backE
        rw [List.find?_cons]
        by_cases hc : e.id.a = nm ∧ e.id.n = n
        · rw [if_pos hc]; simp [hc]
        · rw [if_neg hc, decide_eq_false hc]
      have hw : wholeR (e :: r) ⟨nm, n, 22⟩ = ((decide (e.id.a = nm) && decide (n ≤ e.id.n)) || wholeR r ⟨nm, n, 22⟩) := rfl
      refine ⟨?_, fun hs => ?_, fun hs => ?_⟩
      · rw [i1, hw]
        unfold thereAt
        by_cases ha : e.id.a = nm
        · simp [ha, Bool.or_assoc]
        · simp [ha]
      · have : (thereAt nm n s e).2 = s.2 := by
          unfold thereAt
          by_cases ha : e.id.a = nm
          · rw [if_pos ha]
            show (if s.2 < 0 ∧ e.id.n = n then e.clock else s.2) = s.2
            rw [if_neg (by omega)]
          · rw [if_neg ha]
        rw [i2 (by omega), this]
      · rw [hb]
        by_cases hc : e.id.a = nm ∧ e.id.n = n
        · have : (thereAt nm n s e).2 = e.clock := by
            unfold thereAt
            rw [if_pos hc.1]
            show (if s.2 < 0 ∧ e.id.n = n then e.clock else s.2) = e.clock
            rw [if_pos ⟨by omega, hc.2⟩]
          rw [i2 (by omega), this, if_pos hc]
          split <;> omega
        · have : (thereAt nm n s e).2 = -1 := by
            unfold thereAt
            by_cases ha : e.id.a = nm
            · rw [if_pos ha]
              show (if s.2 < 0 ∧ e.id.n = n then e.clock else s.2) = -1
              rw [if_neg fun q => hc ⟨ha, q.2⟩, hs]
            · rw [if_neg ha, hs]
          rw [i3 this, if_neg hc]
  obtain ⟨a, _, b⟩ := key l h (false, -1)
  exact ⟨by rw [seek, a]; simp, b rfl⟩
end Go.Aw.Try

namespace Go.Aw.Try
open Go Go.Proofs Go.Aw
set_option maxRecDepth 100000
set_option maxHeartbeats 4000000
theorem k11 (l : List Edit) (all : List Member) (x : Cutoff) (hl : gtot l < 34359738368) (ha : all.length < 17179869184) :
    ACalls Try.prog G0 11 [.c (.d (.sl (l.map Edit.row))), .c (.d (.sl (all.map Member.row))), .agg (x.row.map .d)] [] fun t H => t = .bool true ∧ H = [] := by
  have hlen := gtot_len l
  have hxe : x.row = [.v (.string x.who), .v (.int .i64 x.n), .v (.int .i64 x.err)] := rfl
  have h24 : x24.sc = true := rfl
  have h28 : x28.sc = true := rfl
  have g24 := xg24 l all [] (by omega)
  have g1 := xg28 l all [] (by omega) (by omega) (by simp)
  have g2 := xg28 l all [⟨x.who, x.n, 19⟩] (by omega) (by omega) (by simp)
  have g3 := xg28 l all [⟨x.who, x.n, 22⟩] (by omega) (by omega) (by simp)
  simp only [List.map_cons, List.map_nil, Cutoff.row] at g24 g1 g2 g3
  rw [hxe]
  refine acallsX (X := [(24, x24), (25, x25), (28, x28)]) ⟨kx24, kx25, kx28, trivial⟩ tab hmix Try.func11 c11 (by rfl) fun hw => ?_
  have hfix : ∀ b, greatB l all [] = b → x24.g [.c (.sl (l.map Edit.row)), .c (.sl (all.map Member.row)), .c (.sl [])] = some (True, .bool b) := fun b hb => by rw [← hb]; exact g24
  cases hg : greatB l all []
  · have g24 := hfix _ hg
    by_cases c2 : 100 < x.who.size
    · have c2' : (100 : Int) < x.who.size := by omega
      simp (implicitDefEqProofs := false) (disch := omega) [List.getElem?_cons_zero, ir11, b11, b11_0, b11_1, h24, g24, x25, c2, c2']
      exact fin_nil ⟨rfl, rfl⟩
    · have c2' : ¬ (100 : Int) < x.who.size := by omega
      simp (implicitDefEqProofs := false) (disch := omega) [List.getElem?_cons_zero, ir11, b11, b11_0, b11_1, b11_2, b11_3, h24, g24, x25, c2, c2', wrap64]
      refine loopE (fun k s => ∃ (i : Nat) (b : Bool) (a : Int), i ≤ l.length ∧ k = l.length - i ∧ NonNeg (l.take i) ∧ seek x.who x.n (l.take i) = (b, a) ∧
          s = ⟨ofL [(0, .v (.c (.d (.sl (l.map Edit.row))))), (1, .v (.c (.d (.sl (all.map Member.row))))), (5, .v (.c (.ptr 0 0))), (7, .bool b), (8, .int .i64 a), (24, .v (.c (.d (.sl (l.map Edit.row))))), (25, .int .i64 l.length), (26, .int .i64 i)],
            [.cells [.d (.v (.string x.who)), .d (.v (.int .i64 x.n)), .d (.v (.int .i64 x.err))]]⟩)
        (fun s => NonNeg l ∧ AtS [(0, .v (.c (.d (.sl (l.map Edit.row))))), (1, .v (.c (.d (.sl (all.map Member.row))))), (5, .v (.c (.ptr 0 0))), (7, .bool (seek x.who x.n l).1), (8, .int .i64 (seek x.who x.n l).2)]
            [.cells [.d (.v (.string x.who)), .d (.v (.int .i64 x.n)), .d (.v (.int .i64 x.err))]] s) ?_ ?_ ?_
      · refine wk_nil [0] [0, 1, 5, 7, 8, 24, 25, 26] rfl ⟨_, 0, false, -1, by omega, rfl, by simp [NonNeg], rfl, ?_⟩
        simp [phi, O.ren]
      · rintro J L hJ hL k s ⟨i, b, a, hi, rfl, hgood, hsk, rfl⟩
        by_cases hlt : i < l.length
        · obtain ⟨o, ho⟩ : ∃ o, nth l i = o := ⟨_, rfl⟩
          have hoe : o.row = [.v (.string o.id.a), .v (.int .i64 o.id.n), .v (.int .i64 o.clock), .v (.int .i64 o.floor), .sl (o.deps.map Id.row), .v (.int .i64 o.kind), .v (.string o.node.a), .v (.int .i64 o.node.n), .v (.string o.parent.a), .v (.int .i64 o.parent.n), .v (.bool o.neg), .v (.string o.num), .v (.string o.den), .v (.string o.field), .v (.string o.value), .v (.string o.target.a), .v (.int .i64 o.target.n), .v (.string o.who)] := rfl
          have hst := seek_take x.who x.n hlt
          rw [hsk, ho] at hst
          have hfin : 0 ≤ o.clock → 0 ≤ o.floor → ∀ (sl : Nat → T) (O1 : O) (b' : Bool) (a' : Int), thereAt x.who x.n (b, a) o = (b', a') → sl 0 = .v (.c (.d (.sl (l.map Edit.row)))) → sl 1 = .v (.c (.d (.sl (all.map Member.row)))) → sl 5 = .v (.c (.ptr 0 0)) → sl 7 = .bool b' → sl 8 = .int .i64 a' → sl 24 = .v (.c (.d (.sl (l.map Edit.row)))) → sl 25 = .int .i64 l.length → sl 26 = .int .i64 (i + 1 : Nat) →
              wk Try.prog G0 0 ⟨sl, [.cells [.d (.v (.string x.who)), .d (.v (.int .i64 x.n)), .d (.v (.int .i64 x.err))], O1]⟩ fun s'' => ∃ k', k' < l.length - i ∧ J k' s'' := fun p1 p2 sl O1 b' a' hb' h0 h1 h5 h7 h8 h24 h25 h26 => by
            subst hJ
            refine wk_nil [0] [0, 1, 5, 7, 8, 24, 25, 26] rfl ⟨l.length - (i + 1), by omega, i + 1, b', a', by omega, rfl, fun y hy => ?_, by rw [hst, hb'], ?_⟩
            · rw [take_nth hlt, ho] at hy
              rcases List.mem_append.1 hy with hy | hy
              · exact hgood y hy
              · rw [List.mem_singleton] at hy; rw [hy]; exact ⟨p1, p2⟩
            · simp [phi, O.ren, h0, h1, h5, h7, h8, h24, h25, h26]
          by_cases q2 : o.clock < 0
          · simp (implicitDefEqProofs := false) (disch := omega) [List.getElem?_cons_zero, hlt, nth_map, ho, hoe, q2, binSF, splice, x25, wrap64]
            exact fin_nil ⟨rfl, rfl⟩
          · by_cases q3 : o.floor < 0
            · simp (implicitDefEqProofs := false) (disch := omega) [List.getElem?_cons_zero, hlt, nth_map, ho, hoe, q2, q3, binSF, splice, x25, wrap64]
              exact fin_nil ⟨rfl, rfl⟩
            · have hfin := hfin (by omega) (by omega)
              by_cases q1 : o.id.a = x.who
              · by_cases q4 : a < 0
                · by_cases q5 : o.id.n = x.n
                  · have q6 : x.n ≤ o.id.n := by omega
                    have ht : thereAt x.who x.n (b, a) o = (true, o.clock) := by unfold thereAt; simp [q1, q4, q5]
                    cases b
                    · simp (implicitDefEqProofs := false) (disch := omega) [List.getElem?_cons_zero, hlt, nth_map, ho, hoe, q1, q2, q3, q4, q5, q6, binSF, splice, wrap64]
                      exact hfin _ _ true o.clock ht (by simp) (by simp) (by simp) (by simp) (by simp) (by simp) (by simp) (by simp)
                    · simp (implicitDefEqProofs := false) (disch := omega) [List.getElem?_cons_zero, hlt, nth_map, ho, hoe, q1, q2, q3, q4, q5, q6, binSF, splice, wrap64]
                      exact hfin _ _ true o.clock ht (by simp) (by simp) (by simp) (by simp) (by simp) (by simp) (by simp) (by simp)
                  · have ht : thereAt x.who x.n (b, a) o = (b || decide (x.n ≤ o.id.n), a) := by unfold thereAt; simp [q1, q5]
                    by_cases q6 : x.n ≤ o.id.n
                    · cases b
                      · simp (implicitDefEqProofs := false) (disch := omega) [List.getElem?_cons_zero, hlt, nth_map, ho, hoe, q1, q2, q3, q4, q5, q6, binSF, splice, wrap64]
                        exact hfin _ _ true a (by rw [ht]; simp [q6]) (by simp) (by simp) (by simp) (by simp) (by simp) (by simp) (by simp) (by simp)
                      · simp (implicitDefEqProofs := false) (disch := omega) [List.getElem?_cons_zero, hlt, nth_map, ho, hoe, q1, q2, q3, q4, q5, q6, binSF, splice, wrap64]
                        exact hfin _ _ true a (by rw [ht]; simp [q6]) (by simp) (by simp) (by simp) (by simp) (by simp) (by simp) (by simp) (by simp)
                    · cases b
                      · simp (implicitDefEqProofs := false) (disch := omega) [List.getElem?_cons_zero, hlt, nth_map, ho, hoe, q1, q2, q3, q4, q5, q6, binSF, splice, wrap64]
                        exact hfin _ _ false a (by rw [ht]; simp [q6]) (by simp) (by simp) (by simp) (by simp) (by simp) (by simp) (by simp) (by simp)
                      · simp (implicitDefEqProofs := false) (disch := omega) [List.getElem?_cons_zero, hlt, nth_map, ho, hoe, q1, q2, q3, q4, q5, q6, binSF, splice, wrap64]
                        exact hfin _ _ true a (by rw [ht]; simp [q6]) (by simp) (by simp) (by simp) (by simp) (by simp) (by simp) (by simp) (by simp)
                · have ht : thereAt x.who x.n (b, a) o = (b || decide (x.n ≤ o.id.n), a) := by unfold thereAt; simp [q1, q4]
                  by_cases q6 : x.n ≤ o.id.n
                  · cases b
                    · simp (implicitDefEqProofs := false) (disch := omega) [List.getElem?_cons_zero, hlt, nth_map, ho, hoe, q1, q2, q3, q4, q6, binSF, splice, wrap64]
                      exact hfin _ _ true a (by rw [ht]; simp [q6]) (by simp) (by simp) (by simp) (by simp) (by simp) (by simp) (by simp) (by simp)
                    · simp (implicitDefEqProofs := false) (disch := omega) [List.getElem?_cons_zero, hlt, nth_map, ho, hoe, q1, q2, q3, q4, q6, binSF, splice, wrap64]
                      exact hfin _ _ true a (by rw [ht]; simp [q6]) (by simp) (by simp) (by simp) (by simp) (by simp) (by simp) (by simp) (by simp)
                  · cases b
                    · simp (implicitDefEqProofs := false) (disch := omega) [List.getElem?_cons_zero, hlt, nth_map, ho, hoe, q1, q2, q3, q4, q6, binSF, splice, wrap64]
                      exact hfin _ _ false a (by rw [ht]; simp [q6]) (by simp) (by simp) (by simp) (by simp) (by simp) (by simp) (by simp) (by simp)
                    · simp (implicitDefEqProofs := false) (disch := omega) [List.getElem?_cons_zero, hlt, nth_map, ho, hoe, q1, q2, q3, q4, q6, binSF, splice, wrap64]
                      exact hfin _ _ true a (by rw [ht]; simp [q6]) (by simp) (by simp) (by simp) (by simp) (by simp) (by simp) (by simp) (by simp)
              · have ht : thereAt x.who x.n (b, a) o = (b, a) := by unfold thereAt; simp [q1]
                simp (implicitDefEqProofs := false) (disch := omega) [List.getElem?_cons_zero, hlt, nth_map, ho, hoe, q1, q2, q3, binSF, splice, wrap64]
                exact hfin _ _ b a ht (by simp) (by simp) (by simp) (by simp) (by simp) (by simp) (by simp) (by simp)
        · have : i = l.length := by omega
          subst this
          rw [List.take_length] at hgood hsk
          simp (implicitDefEqProofs := false) (disch := omega) [List.getElem?_cons_zero, hlt]
          subst hL
          rw [hsk]
          exact ⟨hgood, at_mk (by simp) rfl⟩
      · rintro _ ⟨hL0, sl, rfl⟩
        obtain ⟨s1, s2⟩ := seek_spec x.who x.n hL0
        obtain ⟨b, hb⟩ : ∃ b, b = (seek x.who x.n l).1 := ⟨_, rfl⟩
        obtain ⟨a, ha'⟩ : ∃ a, a = (seek x.who x.n l).2 := ⟨_, rfl⟩
        rw [← hb] at s1 ⊢
        rw [← ha'] at s2 ⊢
        have hwt := limit_wait hL0 all x.who x.n
        obtain ⟨W, hW⟩ : ∃ W, W = stableC l all [] := ⟨_, rfl⟩
        obtain ⟨V, hV⟩ : ∃ V, V = stableC l all [⟨x.who, x.n, 19⟩] := ⟨_, rfl⟩
        obtain ⟨U, hU⟩ : ∃ U, U = stableC l all [⟨x.who, x.n, 22⟩] := ⟨_, rfl⟩
        have hgn : b = true ∨ x.n = 0 ∨ U = 0 := by
          cases hb2 : b
          · by_cases h0 : x.n = 0
            · exact .inr (.inl h0)
            · right; right; rw [hU]; exact limit_gone all (by rw [← s1, hb2]) h0
          · exact .inl rfl
        obtain ⟨M, hM⟩ : ∃ M, M = if a < 0 then 0 else a := ⟨_, rfl⟩
        have hM2 : M = backE l ⟨x.who, x.n, 19⟩ := by rw [hM, ← s2]; split <;> split <;> omega
        have hv : V = if M < W then M else W := by
          rw [hV, hwt, ← hW, ← hM2]; rfl
        rw [← hW] at g1
        rw [← hV, hv] at g2
        rw [← hU] at g3
        simp (implicitDefEqProofs := false) (disch := omega) [List.getElem?_cons_zero, b11_4, b11_5, b11_6, h28, g1, g2, g3, splice, fillC]
        repeat' (with_reducible apply And.intro)
        all_goals first | omega | kernel_rfl | exact fun _ _ => rfl | skip
        simp (implicitDefEqProofs := false) (disch := omega) [List.getElem?_cons_zero, b11_7, ← hM]
        rcases hgn with h | h | h
        · simp (implicitDefEqProofs := false) (disch := omega) [List.getElem?_cons_zero, b11_8, b11_9, x25, h]
          exact fin_nil ⟨rfl, rfl⟩
        · cases b
          · simp (implicitDefEqProofs := false) (disch := omega) [List.getElem?_cons_zero, b11_8, b11_9, x25, h]
            exact fin_nil ⟨rfl, rfl⟩
          · simp (implicitDefEqProofs := false) (disch := omega) [List.getElem?_cons_zero, b11_8, b11_9, x25]
            exact fin_nil ⟨rfl, rfl⟩
        · cases b
          · by_cases h0 : x.n = 0
            · simp (implicitDefEqProofs := false) (disch := omega) [List.getElem?_cons_zero, b11_8, b11_9, x25, h, h0]
              exact fin_nil ⟨rfl, rfl⟩
            · simp (implicitDefEqProofs := false) (disch := omega) [List.getElem?_cons_zero, b11_8, b11_9, x25, h, h0]
              exact fin_nil ⟨rfl, rfl⟩
          · simp (implicitDefEqProofs := false) (disch := omega) [List.getElem?_cons_zero, b11_8, b11_9, x25]
            exact fin_nil ⟨rfl, rfl⟩
  · have g24 := hfix _ hg
    simp (implicitDefEqProofs := false) (disch := omega) [List.getElem?_cons_zero, ir11, b11, b11_0, b11_1, h24, g24, x25]
    exact fin_nil ⟨rfl, rfl⟩
end Go.Aw.Try

namespace Go.Aw.Try
open Go Go.Proofs Go.Proofs.Ytlboedhconemnaa Go.Aw
set_option maxRecDepth 100000
theorem dec_cut1 {l : List D} (h : okShs cutSh l) : ∃ x : Cutoff, l = x.row := dec_cut h
end Go.Aw.Try
