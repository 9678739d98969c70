/- An abstract machine over the model, and contracts of functions of this program on it (part 9): words and lemmas for the proof in the last text. -/
import Derived.Test.YtlboedhconemnaaHH
set_option linter.unusedSimpArgs false
set_option linter.unusedVariables false
set_option linter.unusedSectionVars false

namespace Go.Aw.Try
open Go Go.Proofs Go.Aw
set_option maxRecDepth 100000
set_option maxHeartbeats 4000000
def b7_0 : AC := (.region 0 [
    ⟨(some 6), (.mov (.const (.bool false))), none⟩])
def b7_1 : AC := (.seq (.region 0 [
    ⟨(some 12), (.mov (.tmp 0)), none⟩,
    ⟨(some 13), (.mov (.tmp 1)), none⟩,
    ⟨(some 14), (.mov (.tmp 2)), none⟩,
    ⟨(some 15), (.call 24 [(.tmp 12), (.tmp 13), (.tmp 14)]), none⟩])
  (.cond (.tmp 15) (.seq (.region 0 [
    ⟨(some 16), (.call 25 []), none⟩,
    ⟨(some 6), (.mov (.tmp 16)), none⟩])
  .ret) .skip))
def b7_2 : AC := (.region 0 [
    ⟨(some 18), (.mov (.tmp 0)), none⟩,
    ⟨(some 19), (.mov (.tmp 1)), none⟩,
    ⟨(some 20), (.mov (.tmp 2)), none⟩,
    ⟨(some 21), (.call 26 [(.tmp 18), (.tmp 19), (.tmp 20)]), none⟩,
    ⟨(some 17), (.mov (.tmp 21)), none⟩,
    ⟨(some 22), (.ext (.tmp 17) 0), none⟩,
    ⟨(some 23), (.ext (.tmp 17) 1), none⟩,
    ⟨(some 7), (.mov (.tmp 22)), none⟩,
    ⟨(some 8), (.mov (.tmp 23)), none⟩])
def b7_3 : AC := (.region 0 [
    ⟨(some 25), (.mov (.tmp 0)), none⟩,
    ⟨(some 26), (.mov (.tmp 1)), none⟩,
    ⟨(some 27), (.mov (.tmp 2)), none⟩,
    ⟨(some 28), (.call 27 [(.tmp 25), (.tmp 26), (.tmp 27)]), none⟩,
    ⟨(some 24), (.mov (.tmp 28)), none⟩,
    ⟨(some 29), (.ext (.tmp 24) 0), none⟩,
    ⟨(some 30), (.ext (.tmp 24) 1), none⟩,
    ⟨(some 9), (.mov (.tmp 29)), none⟩,
    ⟨(some 10), (.mov (.tmp 30)), none⟩])
def b7_4 : AC := (.seq (.region 0 [
    ⟨(some 31), (.mov (.tmp 7)), none⟩,
    ⟨(some 32), (.lenL (.tmp 31)), none⟩,
    ⟨(some 33), (.mov (.tmp 9)), none⟩,
    ⟨(some 34), (.lenL (.tmp 33)), none⟩,
    ⟨(some 35), (.binI .neq .i64 (.tmp 32) (.tmp 34)), none⟩,
    ⟨(some 36), (.mov (.tmp 35)), none⟩,
    ⟨(some 37), (.mov (.tmp 8)), (some (36, false))⟩,
    ⟨(some 38), (.lenL (.tmp 37)), (some (36, false))⟩,
    ⟨(some 39), (.mov (.tmp 10)), (some (36, false))⟩,
    ⟨(some 40), (.lenL (.tmp 39)), (some (36, false))⟩,
    ⟨(some 41), (.binI .neq .i64 (.tmp 38) (.tmp 40)), (some (36, false))⟩,
    ⟨(some 42), (.pick (.tmp 36) (.const (.bool true)) (.tmp 41)), none⟩])
  (.cond (.tmp 42) (.seq (.region 0 [
    ⟨(some 6), (.mov (.const (.bool false))), none⟩])
  .ret) .skip))
def b7_5 : AC := (.seq (.region 0 [
    ⟨(some 43), (.mov (.tmp 7)), none⟩,
    ⟨(some 44), (.lenL (.tmp 43)), none⟩,
    ⟨(some 45), (.mov (.const (.int .i64 0))), none⟩])
  (.block 0 (.loop (.seq (.region 0 [
    ⟨(some 46), (.binI .lss .i64 (.tmp 45) (.tmp 44)), none⟩])
  (.seq (.cond (.tmp 46) .skip (.exit 0))
  (.seq (.block 1 (.seq (.region 0 [
    ⟨(some 47), (.mov (.tmp 45)), none⟩,
    ⟨(some 11), (.mov (.tmp 47)), none⟩])
  (.seq (.dregion 0 [
    ⟨(some 48), (.mov (.tmp 7)), none⟩,
    ⟨(some 49), (.mov (.tmp 11)), none⟩,
    ⟨(some 50), (.iaddr 1 (.tmp 48) (.tmp 49)), none⟩,
    ⟨(some 51), (.load false 1 (.tmp 50)), none⟩,
    ⟨(some 52), (.mov (.tmp 9)), none⟩,
    ⟨(some 53), (.mov (.tmp 11)), none⟩,
    ⟨(some 54), (.iaddr 1 (.tmp 52) (.tmp 53)), none⟩,
    ⟨(some 55), (.load false 1 (.tmp 54)), none⟩,
    ⟨(some 56), (.binI .neq .i64 (.tmp 51) (.tmp 55)), none⟩,
    ⟨(some 57), (.mov (.tmp 56)), none⟩,
    ⟨(some 58), (.mov (.tmp 8)), (some (57, false))⟩,
    ⟨(some 59), (.mov (.tmp 11)), (some (57, false))⟩,
    ⟨(some 60), (.iaddr 1 (.tmp 58) (.tmp 59)), (some (57, false))⟩,
    ⟨(some 61), (.load false 1 (.tmp 60)), (some (57, false))⟩,
    ⟨(some 62), (.mov (.tmp 10)), (some (57, false))⟩,
    ⟨(some 63), (.mov (.tmp 11)), (some (57, false))⟩,
    ⟨(some 64), (.iaddr 1 (.tmp 62) (.tmp 63)), (some (57, false))⟩,
    ⟨(some 65), (.load false 1 (.tmp 64)), (some (57, false))⟩,
    ⟨(some 66), (.binI .neq .i64 (.tmp 61) (.tmp 65)), (some (57, false))⟩,
    ⟨(some 67), (.pick (.tmp 57) (.const (.bool true)) (.tmp 66)), none⟩] [[], [], [0, 1], [2], [], [], [4, 5], [6], [3, 7], [8], [9], [9], [10, 11, 9], [12, 9], [9], [9], [14, 15, 9], [16, 9], [13, 17, 9], [9, 18]])
  (.cond (.tmp 67) (.seq (.region 0 [
    ⟨(some 6), (.mov (.const (.bool false))), none⟩])
  .ret) .skip))))
  (.region 0 [
    ⟨(some 68), (.binI .add .i64 (.tmp 45) (.const (.int .i64 1))), none⟩,
    ⟨(some 45), (.mov (.tmp 68)), none⟩])))))))
def b7_6 : AC := (.region 0 [
    ⟨(some 69), (.call 25 []), none⟩,
    ⟨(some 6), (.mov (.tmp 69)), none⟩])
def b7_7 : AC := .ret
def b7 : AC := (.seq b7_0 (.seq b7_1 (.seq b7_2 (.seq b7_3 (.seq b7_4 (.seq b7_5 (.seq b7_6 b7_7)))))))
def ir7 : AF := ⟨70, [(.tmp 6)], b7⟩
theorem c7 : compF tt Try.f7 = some ir7 := by kernel_rfl
def b8 : AC := (.seq (.region 0 [
    ⟨(some 6), (.mov (.const (.bool false))), none⟩])
  (.seq (.seq (.region 0 [
    ⟨(some 7), (.mov (.tmp 0)), none⟩,
    ⟨(some 8), (.mov (.tmp 1)), none⟩,
    ⟨(some 9), (.mov (.tmp 2)), none⟩,
    ⟨(some 10), (.call 24 [(.tmp 7), (.tmp 8), (.tmp 9)]), none⟩])
  (.cond (.tmp 10) (.seq (.region 0 [
    ⟨(some 11), (.call 25 []), none⟩,
    ⟨(some 6), (.mov (.tmp 11)), none⟩])
  .ret) .skip))
  (.seq (.region 0 [
    ⟨(some 12), (.call 25 []), none⟩,
    ⟨(some 13), (.mov (.tmp 12)), none⟩,
    ⟨(some 14), (.mov (.tmp 0)), (some (13, true))⟩,
    ⟨(some 15), (.mov (.tmp 1)), (some (13, true))⟩,
    ⟨(some 16), (.mov (.tmp 2)), (some (13, true))⟩,
    ⟨(some 17), (.call 28 [(.tmp 14), (.tmp 15), (.tmp 16)]), (some (13, true))⟩,
    ⟨(some 18), (.mov (.tmp 0)), (some (13, true))⟩,
    ⟨(some 19), (.mov (.tmp 1)), (some (13, true))⟩,
    ⟨(some 20), (.mov (.tmp 2)), (some (13, true))⟩,
    ⟨(some 21), (.call 29 [(.tmp 18), (.tmp 19), (.tmp 20)]), (some (13, true))⟩,
    ⟨(some 22), (.binI .eql .i64 (.tmp 17) (.tmp 21)), (some (13, true))⟩,
    ⟨(some 23), (.pick (.tmp 13) (.tmp 22) (.const (.bool false))), none⟩,
    ⟨(some 24), (.mov (.tmp 23)), none⟩,
    ⟨(some 25), (.mov (.tmp 0)), (some (24, true))⟩,
    ⟨(some 26), (.mov (.tmp 1)), (some (24, true))⟩,
    ⟨(some 27), (.mov (.tmp 2)), (some (24, true))⟩,
    ⟨(some 28), (.call 30 [(.tmp 25), (.tmp 26), (.tmp 27)]), (some (24, true))⟩,
    ⟨(some 29), (.mov (.tmp 0)), (some (24, true))⟩,
    ⟨(some 30), (.mov (.tmp 1)), (some (24, true))⟩,
    ⟨(some 31), (.mov (.tmp 2)), (some (24, true))⟩,
    ⟨(some 32), (.call 31 [(.tmp 29), (.tmp 30), (.tmp 31)]), (some (24, true))⟩,
    ⟨(some 33), (.binI .eql .i64 (.tmp 28) (.tmp 32)), (some (24, true))⟩,
    ⟨(some 34), (.pick (.tmp 24) (.tmp 33) (.const (.bool false))), none⟩,
    ⟨(some 6), (.mov (.tmp 34)), none⟩])
  .ret)))
def ir8 : AF := ⟨35, [(.tmp 6)], b8⟩
theorem c8 : compF tt Try.f8 = some ir8 := by kernel_rfl
def b24 : AC := (.seq (.region 0 [
    ⟨(some 6), (.mov (.const (.bool false))), none⟩])
  (.seq (.region 0 [
    ⟨(some 7), (.mov (.tmp 0)), none⟩,
    ⟨(some 8), (.call 15 [(.tmp 7)]), none⟩,
    ⟨(some 9), (.binI .gtr .i64 (.tmp 8) (.const (.int .i64 0))), none⟩,
    ⟨(some 10), (.mov (.tmp 9)), none⟩,
    ⟨(some 11), (.mov (.tmp 1)), (some (10, false))⟩,
    ⟨(some 12), (.lenL (.tmp 11)), (some (10, false))⟩,
    ⟨(some 13), (.binI .gtr .i64 (.tmp 12) (.const (.int .i64 10))), (some (10, false))⟩,
    ⟨(some 14), (.pick (.tmp 10) (.const (.bool true)) (.tmp 13)), none⟩,
    ⟨(some 15), (.mov (.tmp 14)), none⟩,
    ⟨(some 16), (.mov (.tmp 2)), (some (15, false))⟩,
    ⟨(some 17), (.lenL (.tmp 16)), (some (15, false))⟩,
    ⟨(some 18), (.binI .gtr .i64 (.tmp 17) (.const (.int .i64 20))), (some (15, false))⟩,
    ⟨(some 19), (.pick (.tmp 15) (.const (.bool true)) (.tmp 18)), none⟩,
    ⟨(some 6), (.mov (.tmp 19)), none⟩])
  .ret))
def ir24 : AF := ⟨20, [(.tmp 6)], b24⟩
theorem c24 : compF tt Try.f24 = some ir24 := by kernel_rfl
def b25_0 : AC := (.region 0 [
    ⟨(some 0), (.mov (.const (.bool false))), none⟩])
def b25_1 : AC := (.region 1 [
    ⟨(some 4), (.call 52 [(.const (.string ⟨#[97, 110, 110]⟩)), (.const (.int .i64 1)), (.const (.int .i64 7)), (.const (.int .i64 3))]), none⟩,
    ⟨(some 5), (.call 52 [(.const (.string ⟨#[98, 111, 98]⟩)), (.const (.int .i64 1)), (.const (.int .i64 4)), (.const (.int .i64 2))]), none⟩,
    ⟨(some 6), (.bsl 0 18 [(.v (.string ⟨#[]⟩)), (.v (.int .i64 0)), (.v (.int .i64 0)), (.v (.int .i64 0)), (.v (.slice none 0 0)), (.v (.int .i64 0)), (.v (.string ⟨#[]⟩)), (.v (.int .i64 0)), (.v (.string ⟨#[]⟩)), (.v (.int .i64 0)), (.v (.bool false)), (.v (.string ⟨#[]⟩)), (.v (.string ⟨#[]⟩)), (.v (.string ⟨#[]⟩)), (.v (.string ⟨#[]⟩)), (.v (.string ⟨#[]⟩)), (.v (.int .i64 0)), (.v (.string ⟨#[]⟩))] 2 [(0, (.tmp 4)), (1, (.tmp 5))]), none⟩,
    ⟨(some 1), (.mov (.tmp 6)), none⟩])
def b25_2 : AC := (.region 1 [
    ⟨(some 7), (.build [(.v (.string ⟨#[]⟩)), (.v (.string ⟨#[]⟩))] [(0, (1, (.const (.string ⟨#[97, 110, 110]⟩))))]), none⟩,
    ⟨(some 8), (.build [(.v (.string ⟨#[]⟩)), (.v (.string ⟨#[]⟩))] [(0, (1, (.const (.string ⟨#[98, 111, 98]⟩))))]), none⟩,
    ⟨(some 9), (.bsl 0 2 [(.v (.string ⟨#[]⟩)), (.v (.string ⟨#[]⟩))] 2 [(0, (.tmp 7)), (1, (.tmp 8))]), none⟩,
    ⟨(some 2), (.mov (.tmp 9)), none⟩])
def b25_3 : AC := (.dregion 3 [
    ⟨(some 10), (.bsl 0 2 [(.v (.string ⟨#[]⟩)), (.v (.string ⟨#[]⟩))] 0 []), none⟩,
    ⟨(some 11), (.mov (.tmp 2)), none⟩,
    ⟨(some 12), (.iaddr 2 (.tmp 11) (.const (.int .i64 0))), none⟩,
    ⟨(some 13), (.load true 2 (.tmp 12)), none⟩,
    ⟨(some 14), (.mov (.tmp 2)), none⟩,
    ⟨(some 15), (.iaddr 2 (.tmp 14) (.const (.int .i64 1))), none⟩,
    ⟨(some 16), (.load true 2 (.tmp 15)), none⟩,
    ⟨(some 17), (.build [(.v (.string ⟨#[]⟩)), (.v (.string ⟨#[]⟩))] [(0, (1, (.const (.string ⟨#[99, 105, 100]⟩))))]), none⟩,
    ⟨(some 18), (.bsl 1 2 [(.v (.string ⟨#[]⟩)), (.v (.string ⟨#[]⟩))] 3 [(0, (.tmp 13)), (1, (.tmp 16)), (2, (.tmp 17))]), none⟩,
    ⟨(some 19), (.app 2 2 32 (.tmp 10) (.tmp 18)), none⟩,
    ⟨(some 3), (.mov (.tmp 19)), none⟩] [[], [], [1], [2], [], [4], [5], [], [3, 6, 7], [0, 8], [9, 9, 0, 1, 2, 3, 4, 5, 6, 7, 8, 9]])
def b25_4 : AC := (.region 1 [
    ⟨(some 20), (.mov (.tmp 1)), none⟩,
    ⟨(some 21), (.mov (.tmp 2)), none⟩,
    ⟨(some 22), (.call 28 [(.tmp 20), (.tmp 21), (.const (.slice none 0 0))]), none⟩,
    ⟨(some 23), (.binI .eql .i64 (.tmp 22) (.const (.int .i64 4))), none⟩,
    ⟨(some 24), (.mov (.tmp 23)), none⟩,
    ⟨(some 25), (.mov (.tmp 1)), (some (24, true))⟩,
    ⟨(some 26), (.mov (.tmp 2)), (some (24, true))⟩,
    ⟨(some 27), (.call 30 [(.tmp 25), (.tmp 26), (.const (.slice none 0 0))]), (some (24, true))⟩,
    ⟨(some 28), (.binI .eql .i64 (.tmp 27) (.const (.int .i64 2))), (some (24, true))⟩,
    ⟨(some 29), (.pick (.tmp 24) (.tmp 28) (.const (.bool false))), none⟩,
    ⟨(some 30), (.mov (.tmp 29)), none⟩,
    ⟨(some 31), (.mov (.tmp 1)), (some (30, true))⟩,
    ⟨(some 32), (.mov (.tmp 3)), (some (30, true))⟩,
    ⟨(some 33), (.call 28 [(.tmp 31), (.tmp 32), (.const (.slice none 0 0))]), (some (30, true))⟩,
    ⟨(some 34), (.binI .eql .i64 (.tmp 33) (.const (.int .i64 0))), (some (30, true))⟩,
    ⟨(some 35), (.pick (.tmp 30) (.tmp 34) (.const (.bool false))), none⟩,
    ⟨(some 36), (.mov (.tmp 35)), none⟩,
    ⟨(some 37), (.mov (.tmp 1)), (some (36, true))⟩,
    ⟨(some 38), (.mov (.tmp 3)), (some (36, true))⟩,
    ⟨(some 39), (.build [(.v (.string ⟨#[]⟩)), (.v (.int .i64 0)), (.v (.int .i64 0))] [(0, (1, (.const (.string ⟨#[99, 105, 100]⟩)))), (2, (1, (.const (.int .i64 22))))]), (some (36, true))⟩,
    ⟨(some 40), (.bsl 0 3 [(.v (.string ⟨#[]⟩)), (.v (.int .i64 0)), (.v (.int .i64 0))] 1 [(0, (.tmp 39))]), (some (36, true))⟩,
    ⟨(some 41), (.call 28 [(.tmp 37), (.tmp 38), (.tmp 40)]), (some (36, true))⟩,
    ⟨(some 42), (.binI .eql .i64 (.tmp 41) (.const (.int .i64 4))), (some (36, true))⟩,
    ⟨(some 43), (.pick (.tmp 36) (.tmp 42) (.const (.bool false))), none⟩,
    ⟨(some 0), (.mov (.tmp 43)), none⟩])
def b25_5 : AC := .ret
def b25 : AC := (.seq b25_0 (.seq b25_1 (.seq b25_2 (.seq b25_3 (.seq b25_4 b25_5)))))
def ir25 : AF := ⟨44, [(.tmp 0)], b25⟩
theorem c25 : compF tt Try.f25 = some ir25 := by kernel_rfl
def b26 : AC := (.seq (.region 0 [
    ⟨(some 6), (.mov (.const (.slice none 0 0))), none⟩,
    ⟨(some 7), (.mov (.const (.slice none 0 0))), none⟩])
  (.seq (.region 0 [
    ⟨(some 13), (.mov (.tmp 0)), none⟩,
    ⟨(some 14), (.mov (.tmp 2)), none⟩,
    ⟨(some 15), (.call 53 [(.tmp 13), (.tmp 14)]), none⟩,
    ⟨(some 8), (.mov (.tmp 15)), none⟩])
  (.seq (.region 0 [
    ⟨(some 9), (.mov (.const (.slice none 0 0))), none⟩,
    ⟨(some 10), (.mov (.const (.slice none 0 0))), none⟩])
  (.seq (.seq (.region 0 [
    ⟨(some 16), (.mov (.tmp 1)), none⟩,
    ⟨(some 17), (.lenL (.tmp 16)), none⟩,
    ⟨(some 18), (.mov (.const (.int .i64 0))), none⟩])
  (.block 0 (.loop (.seq (.region 0 [
    ⟨(some 19), (.binI .lss .i64 (.tmp 18) (.tmp 17)), none⟩])
  (.seq (.cond (.tmp 19) .skip (.exit 0))
  (.seq (.block 1 (.seq (.region 1 [
    ⟨(some 20), (.iaddr 2 (.tmp 16) (.tmp 18)), none⟩,
    ⟨(some 21), (.load true 2 (.tmp 20)), none⟩,
    ⟨(some 12), (.zero 0 [(.v (.string ⟨#[]⟩)), (.v (.string ⟨#[]⟩))]), none⟩,
    ⟨none, (.store 2 (.tmp 12) (.tmp 21)), none⟩])
  (.dregion 4 [
    ⟨(some 22), (.mov (.tmp 9)), none⟩,
    ⟨(some 23), (.mov (.tmp 8)), none⟩,
    ⟨(some 24), (.faddr 0 (.tmp 12)), none⟩,
    ⟨(some 25), (.load false 1 (.tmp 24)), none⟩,
    ⟨(some 26), (.look ⟨false, [.s]⟩ (.agg [(.v (.int .i64 0)), (.v (.int .i64 0)), (.v (.int .i64 0))]) (.tmp 23) (.tmp 25) false), none⟩,
    ⟨(some 27), (.field false 1 0 (.tmp 26)), none⟩,
    ⟨(some 28), (.bsl 0 1 [(.v (.int .i64 0))] 1 [(0, (.tmp 27))]), none⟩,
    ⟨(some 29), (.app 1 1 8 (.tmp 22) (.tmp 28)), none⟩,
    ⟨(some 30), (.mov (.tmp 10)), none⟩,
    ⟨(some 31), (.mov (.tmp 8)), none⟩,
    ⟨(some 32), (.faddr 0 (.tmp 12)), none⟩,
    ⟨(some 33), (.load false 1 (.tmp 32)), none⟩,
    ⟨(some 34), (.look ⟨false, [.s]⟩ (.agg [(.v (.int .i64 0)), (.v (.int .i64 0)), (.v (.int .i64 0))]) (.tmp 31) (.tmp 33) false), none⟩,
    ⟨(some 35), (.field false 1 1 (.tmp 34)), none⟩,
    ⟨(some 36), (.bsl 2 1 [(.v (.int .i64 0))] 1 [(0, (.tmp 35))]), none⟩,
    ⟨(some 37), (.app 3 1 8 (.tmp 30) (.tmp 36)), none⟩,
    ⟨(some 9), (.mov (.tmp 29)), none⟩,
    ⟨(some 10), (.mov (.tmp 37)), none⟩] [[], [], [], [2], [1, 3], [4], [5], [0, 6], [], [], [], [10], [9, 11], [12], [13], [8, 14, 7], [7, 15, 0, 1, 2, 3, 4, 5, 6, 7], [15, 16, 0, 1, 2, 3, 4, 5, 6, 7, 8, 9, 10, 11, 12, 13, 14, 15, 16]])))
  (.region 0 [
    ⟨(some 38), (.binI .add .i64 (.tmp 18) (.const (.int .i64 1))), none⟩,
    ⟨(some 18), (.mov (.tmp 38)), none⟩])))))))
  (.seq (.region 0 [
    ⟨(some 39), (.mov (.tmp 9)), none⟩,
    ⟨(some 40), (.mov (.tmp 10)), none⟩,
    ⟨(some 6), (.mov (.tmp 39)), none⟩,
    ⟨(some 7), (.mov (.tmp 40)), none⟩])
  .ret)))))
def ir26 : AF := ⟨41, [(.tmp 6), (.tmp 7)], b26⟩
theorem c26 : compF tt Try.f26 = some ir26 := by kernel_rfl
def b27 : AC := (.seq (.region 0 [
    ⟨(some 6), (.mov (.const (.slice none 0 0))), none⟩,
    ⟨(some 7), (.mov (.const (.slice none 0 0))), none⟩])
  (.seq (.region 2 [
    ⟨(some 14), (.bsl 0 1 [(.v (.int .i64 0))] 0 []), none⟩,
    ⟨(some 15), (.bsl 1 1 [(.v (.int .i64 0))] 0 []), none⟩,
    ⟨(some 8), (.mov (.tmp 14)), none⟩,
    ⟨(some 9), (.mov (.tmp 15)), none⟩])
  (.seq (.region 0 [
    ⟨(some 16), (.mov (.tmp 0)), none⟩,
    ⟨(some 17), (.mov (.tmp 2)), none⟩,
    ⟨(some 18), (.call 19 [(.tmp 16), (.tmp 17)]), none⟩,
    ⟨(some 10), (.mov (.tmp 18)), none⟩])
  (.seq (.seq (.region 0 [
    ⟨(some 11), (.mov (.const (.int .i64 0))), none⟩])
  (.block 0 (.loop (.seq (.seq (.region 0 [
    ⟨(some 19), (.mov (.tmp 11)), none⟩,
    ⟨(some 20), (.mov (.tmp 1)), none⟩,
    ⟨(some 21), (.lenL (.tmp 20)), none⟩,
    ⟨(some 22), (.binI .lss .i64 (.tmp 19) (.tmp 21)), none⟩])
  (.cond (.tmp 22) .skip (.exit 0)))
  (.seq (.block 1 (.seq (.region 0 [
    ⟨(some 26), (.mov (.tmp 10)), none⟩,
    ⟨(some 27), (.mov (.tmp 1)), none⟩,
    ⟨(some 28), (.mov (.tmp 11)), none⟩,
    ⟨(some 29), (.iaddr 2 (.tmp 27) (.tmp 28)), none⟩,
    ⟨(some 30), (.faddr 0 (.tmp 29)), none⟩,
    ⟨(some 31), (.load false 1 (.tmp 30)), none⟩,
    ⟨(some 32), (.call 54 [(.tmp 26), (.tmp 31)]), none⟩,
    ⟨(some 25), (.mov (.tmp 32)), none⟩,
    ⟨(some 33), (.ext (.tmp 25) 0), none⟩,
    ⟨(some 34), (.ext (.tmp 25) 1), none⟩,
    ⟨(some 12), (.mov (.tmp 33)), none⟩,
    ⟨(some 13), (.mov (.tmp 34)), none⟩])
  (.seq (.region 2 [
    ⟨(some 35), (.mov (.tmp 8)), none⟩,
    ⟨(some 36), (.mov (.tmp 12)), none⟩,
    ⟨(some 37), (.bsl 0 1 [(.v (.int .i64 0))] 1 [(0, (.tmp 36))]), none⟩,
    ⟨(some 38), (.app 1 1 8 (.tmp 35) (.tmp 37)), none⟩,
    ⟨(some 8), (.mov (.tmp 38)), none⟩])
  (.region 2 [
    ⟨(some 39), (.mov (.tmp 9)), none⟩,
    ⟨(some 40), (.mov (.tmp 13)), none⟩,
    ⟨(some 41), (.bsl 0 1 [(.v (.int .i64 0))] 1 [(0, (.tmp 40))]), none⟩,
    ⟨(some 42), (.app 1 1 8 (.tmp 39) (.tmp 41)), none⟩,
    ⟨(some 9), (.mov (.tmp 42)), none⟩]))))
  (.region 0 [
    ⟨(some 23), (.mov (.tmp 11)), none⟩,
    ⟨(some 24), (.binI .add .i64 (.tmp 23) (.const (.int .i64 1))), none⟩,
    ⟨(some 11), (.mov (.tmp 24)), none⟩]))))))
  (.seq (.region 0 [
    ⟨(some 43), (.mov (.tmp 8)), none⟩,
    ⟨(some 44), (.mov (.tmp 9)), none⟩,
    ⟨(some 6), (.mov (.tmp 43)), none⟩,
    ⟨(some 7), (.mov (.tmp 44)), none⟩])
  .ret)))))
def ir27 : AF := ⟨45, [(.tmp 6), (.tmp 7)], b27⟩
theorem c27 : compF tt Try.f27 = some ir27 := by kernel_rfl
def b28 : AC := (.seq (.region 0 [
    ⟨(some 6), (.mov (.const (.int .i64 0))), none⟩])
  (.seq (.region 0 [
    ⟨(some 10), (.mov (.tmp 0)), none⟩,
    ⟨(some 11), (.mov (.tmp 1)), none⟩,
    ⟨(some 12), (.mov (.tmp 2)), none⟩,
    ⟨(some 13), (.call 26 [(.tmp 10), (.tmp 11), (.tmp 12)]), none⟩,
    ⟨(some 9), (.mov (.tmp 13)), none⟩,
    ⟨(some 14), (.ext (.tmp 9) 0), none⟩,
    ⟨(some 15), (.ext (.tmp 9) 1), none⟩,
    ⟨(some 7), (.mov (.tmp 14)), none⟩,
    ⟨(some 8), (.mov (.tmp 15)), none⟩])
  (.seq (.region 0 [
    ⟨(some 16), (.mov (.tmp 0)), none⟩,
    ⟨(some 17), (.mov (.tmp 1)), none⟩,
    ⟨(some 18), (.mov (.tmp 2)), none⟩,
    ⟨(some 19), (.mov (.tmp 7)), none⟩,
    ⟨(some 20), (.call 55 [(.tmp 16), (.tmp 17), (.tmp 18), (.tmp 19)]), none⟩,
    ⟨(some 6), (.mov (.tmp 20)), none⟩])
  .ret)))
def ir28 : AF := ⟨21, [(.tmp 6)], b28⟩
theorem c28 : compF tt Try.f28 = some ir28 := by kernel_rfl
def b29 : AC := (.seq (.region 0 [
    ⟨(some 6), (.mov (.const (.int .i64 0))), none⟩])
  (.seq (.region 0 [
    ⟨(some 10), (.mov (.tmp 0)), none⟩,
    ⟨(some 11), (.mov (.tmp 1)), none⟩,
    ⟨(some 12), (.mov (.tmp 2)), none⟩,
    ⟨(some 13), (.call 27 [(.tmp 10), (.tmp 11), (.tmp 12)]), none⟩,
    ⟨(some 9), (.mov (.tmp 13)), none⟩,
    ⟨(some 14), (.ext (.tmp 9) 0), none⟩,
    ⟨(some 15), (.ext (.tmp 9) 1), none⟩,
    ⟨(some 7), (.mov (.tmp 14)), none⟩,
    ⟨(some 8), (.mov (.tmp 15)), none⟩])
  (.seq (.region 0 [
    ⟨(some 16), (.mov (.tmp 0)), none⟩,
    ⟨(some 17), (.mov (.tmp 1)), none⟩,
    ⟨(some 18), (.mov (.tmp 2)), none⟩,
    ⟨(some 19), (.mov (.tmp 7)), none⟩,
    ⟨(some 20), (.call 56 [(.tmp 16), (.tmp 17), (.tmp 18), (.tmp 19)]), none⟩,
    ⟨(some 6), (.mov (.tmp 20)), none⟩])
  .ret)))
def ir29 : AF := ⟨21, [(.tmp 6)], b29⟩
theorem c29 : compF tt Try.f29 = some ir29 := by kernel_rfl
def b30 : AC := (.seq (.region 0 [
    ⟨(some 6), (.mov (.const (.int .i64 0))), none⟩])
  (.seq (.region 0 [
    ⟨(some 10), (.mov (.tmp 0)), none⟩,
    ⟨(some 11), (.mov (.tmp 1)), none⟩,
    ⟨(some 12), (.mov (.tmp 2)), none⟩,
    ⟨(some 13), (.call 26 [(.tmp 10), (.tmp 11), (.tmp 12)]), none⟩,
    ⟨(some 9), (.mov (.tmp 13)), none⟩,
    ⟨(some 14), (.ext (.tmp 9) 0), none⟩,
    ⟨(some 15), (.ext (.tmp 9) 1), none⟩,
    ⟨(some 7), (.mov (.tmp 14)), none⟩,
    ⟨(some 8), (.mov (.tmp 15)), none⟩])
  (.seq (.region 0 [
    ⟨(some 16), (.mov (.tmp 0)), none⟩,
    ⟨(some 17), (.mov (.tmp 1)), none⟩,
    ⟨(some 18), (.mov (.tmp 2)), none⟩,
    ⟨(some 19), (.mov (.tmp 8)), none⟩,
    ⟨(some 20), (.call 55 [(.tmp 16), (.tmp 17), (.tmp 18), (.tmp 19)]), none⟩,
    ⟨(some 6), (.mov (.tmp 20)), none⟩])
  .ret)))
def ir30 : AF := ⟨21, [(.tmp 6)], b30⟩
theorem c30 : compF tt Try.f30 = some ir30 := by kernel_rfl
def b31 : AC := (.seq (.region 0 [
    ⟨(some 6), (.mov (.const (.int .i64 0))), none⟩])
  (.seq (.region 0 [
    ⟨(some 10), (.mov (.tmp 0)), none⟩,
    ⟨(some 11), (.mov (.tmp 1)), none⟩,
    ⟨(some 12), (.mov (.tmp 2)), none⟩,
    ⟨(some 13), (.call 27 [(.tmp 10), (.tmp 11), (.tmp 12)]), none⟩,
    ⟨(some 9), (.mov (.tmp 13)), none⟩,
    ⟨(some 14), (.ext (.tmp 9) 0), none⟩,
    ⟨(some 15), (.ext (.tmp 9) 1), none⟩,
    ⟨(some 7), (.mov (.tmp 14)), none⟩,
    ⟨(some 8), (.mov (.tmp 15)), none⟩])
  (.seq (.region 0 [
    ⟨(some 16), (.mov (.tmp 0)), none⟩,
    ⟨(some 17), (.mov (.tmp 1)), none⟩,
    ⟨(some 18), (.mov (.tmp 2)), none⟩,
    ⟨(some 19), (.mov (.tmp 8)), none⟩,
    ⟨(some 20), (.call 56 [(.tmp 16), (.tmp 17), (.tmp 18), (.tmp 19)]), none⟩,
    ⟨(some 6), (.mov (.tmp 20)), none⟩])
  .ret)))
def ir31 : AF := ⟨21, [(.tmp 6)], b31⟩
theorem c31 : compF tt Try.f31 = some ir31 := by kernel_rfl
def b32 : AC := (.seq (.region 0 [
    ⟨(some 4), (.mov (.const (.bool false))), none⟩])
  (.seq (.seq (.region 0 [
    ⟨(some 7), (.mov (.tmp 1)), none⟩,
    ⟨(some 8), (.lenL (.tmp 7)), none⟩,
    ⟨(some 9), (.mov (.const (.int .i64 0))), none⟩])
  (.block 0 (.loop (.seq (.region 0 [
    ⟨(some 10), (.binI .lss .i64 (.tmp 9) (.tmp 8)), none⟩])
  (.seq (.cond (.tmp 10) .skip (.exit 0))
  (.seq (.block 1 (.seq (.region 1 [
    ⟨(some 11), (.iaddr 3 (.tmp 7) (.tmp 9)), none⟩,
    ⟨(some 12), (.load true 3 (.tmp 11)), none⟩,
    ⟨(some 6), (.zero 0 [(.v (.string ⟨#[]⟩)), (.v (.int .i64 0)), (.v (.int .i64 0))]), none⟩,
    ⟨none, (.store 3 (.tmp 6) (.tmp 12)), none⟩])
  (.seq (.region 0 [
    ⟨(some 13), (.faddr 2 (.tmp 6)), none⟩,
    ⟨(some 14), (.load false 1 (.tmp 13)), none⟩,
    ⟨(some 15), (.binI .eql .i64 (.tmp 14) (.const (.int .i64 22))), none⟩,
    ⟨(some 16), (.mov (.tmp 15)), none⟩,
    ⟨(some 17), (.faddr 0 (.tmp 6)), (some (16, true))⟩,
    ⟨(some 18), (.load false 1 (.tmp 17)), (some (16, true))⟩,
    ⟨(some 19), (.mov (.tmp 0)), (some (16, true))⟩,
    ⟨(some 20), (.binS .eql (.tmp 18) (.tmp 19)), (some (16, true))⟩,
    ⟨(some 21), (.pick (.tmp 16) (.tmp 20) (.const (.bool false))), none⟩])
  (.cond (.tmp 21) (.seq (.region 0 [
    ⟨(some 4), (.mov (.const (.bool true))), none⟩])
  .ret) .skip))))
  (.region 0 [
    ⟨(some 22), (.binI .add .i64 (.tmp 9) (.const (.int .i64 1))), none⟩,
    ⟨(some 9), (.mov (.tmp 22)), none⟩])))))))
  (.seq (.region 0 [
    ⟨(some 4), (.mov (.const (.bool false))), none⟩])
  .ret)))
def ir32 : AF := ⟨23, [(.tmp 4)], b32⟩
theorem c32 : compF tt Try.f32 = some ir32 := by kernel_rfl
def b35 : AC := (.seq (.region 1 [
    ⟨(some 3), (.box 0 (.tmp 1)), none⟩,
    ⟨(some 4), (.mov (.const (.int .i64 0))), none⟩,
    ⟨(some 5), (.mov (.const (.bool false))), none⟩])
  (.seq (.region 0 [
    ⟨(some 7), (.mov (.tmp 0)), none⟩,
    ⟨(some 8), (.mkfn 61 [(.tmp 3)]), none⟩,
    ⟨(some 9), (.call 60 [(.tmp 7), (.tmp 8)]), none⟩,
    ⟨(some 6), (.mov (.tmp 9)), none⟩])
  (.seq (.region 0 [
    ⟨(some 10), (.mov (.tmp 6)), none⟩,
    ⟨(some 11), (.maxmin true .i64 (.tmp 10) (.const (.int .i64 0))), none⟩,
    ⟨(some 12), (.mov (.tmp 6)), none⟩,
    ⟨(some 13), (.binI .geq .i64 (.tmp 12) (.const (.int .i64 0))), none⟩,
    ⟨(some 4), (.mov (.tmp 11)), none⟩,
    ⟨(some 5), (.mov (.tmp 13)), none⟩])
  .ret)))
def ir35 : AF := ⟨14, [(.tmp 4), (.tmp 5)], b35⟩
theorem c35 : compF tt Try.f35 = some ir35 := by kernel_rfl
def b52 : AC := (.seq (.region 1 [
    ⟨(some 8), (.zero 0 [(.v (.string ⟨#[]⟩)), (.v (.int .i64 0)), (.v (.int .i64 0)), (.v (.int .i64 0)), (.v (.slice none 0 0)), (.v (.int .i64 0)), (.v (.string ⟨#[]⟩)), (.v (.int .i64 0)), (.v (.string ⟨#[]⟩)), (.v (.int .i64 0)), (.v (.bool false)), (.v (.string ⟨#[]⟩)), (.v (.string ⟨#[]⟩)), (.v (.string ⟨#[]⟩)), (.v (.string ⟨#[]⟩)), (.v (.string ⟨#[]⟩)), (.v (.int .i64 0)), (.v (.string ⟨#[]⟩))]), none⟩])
  (.seq (.region 0 [
    ⟨(some 9), (.mov (.tmp 0)), none⟩,
    ⟨(some 10), (.mov (.tmp 1)), none⟩,
    ⟨(some 11), (.build [(.v (.string ⟨#[]⟩)), (.v (.int .i64 0))] [(0, (1, (.tmp 9))), (1, (1, (.tmp 10)))]), none⟩,
    ⟨(some 12), (.mov (.tmp 2)), none⟩,
    ⟨(some 13), (.mov (.tmp 3)), none⟩,
    ⟨(some 14), (.build [(.v (.string ⟨#[]⟩)), (.v (.int .i64 0)), (.v (.int .i64 0)), (.v (.int .i64 0)), (.v (.slice none 0 0)), (.v (.int .i64 0)), (.v (.string ⟨#[]⟩)), (.v (.int .i64 0)), (.v (.string ⟨#[]⟩)), (.v (.int .i64 0)), (.v (.bool false)), (.v (.string ⟨#[]⟩)), (.v (.string ⟨#[]⟩)), (.v (.string ⟨#[]⟩)), (.v (.string ⟨#[]⟩)), (.v (.string ⟨#[]⟩)), (.v (.int .i64 0)), (.v (.string ⟨#[]⟩))] [(0, (2, (.tmp 11))), (2, (1, (.tmp 12))), (3, (1, (.tmp 13))), (5, (1, (.const (.int .i64 6))))]), none⟩,
    ⟨none, (.store 18 (.tmp 8) (.tmp 14)), none⟩])
  .ret))
def ir52 : AF := ⟨15, [(.cell 8 true 18)], b52⟩
theorem c52 : compF tt Try.f52 = some ir52 := by kernel_rfl
def b53_0 : AC := (.region 0 [
    ⟨(some 4), (.mov (.const (.map none))), none⟩])
def b53_1 : AC := (.region 1 [
    ⟨(some 10), (.mkmap 0 ⟨false, [.s]⟩), none⟩,
    ⟨(some 5), (.mov (.tmp 10)), none⟩])
def b53_2 : AC := (.seq (.region 0 [
    ⟨(some 11), (.mov (.tmp 0)), none⟩,
    ⟨(some 12), (.mov (.tmp 1)), none⟩,
    ⟨(some 13), (.call 18 [(.tmp 11), (.tmp 12)]), none⟩,
    ⟨(some 14), (.lenL (.tmp 13)), none⟩,
    ⟨(some 15), (.mov (.const (.int .i64 0))), none⟩])
  (.block 0 (.loop (.seq (.region 0 [
    ⟨(some 16), (.binI .lss .i64 (.tmp 15) (.tmp 14)), none⟩])
  (.seq (.cond (.tmp 16) .skip (.exit 0))
  (.seq (.block 1 (.seq (.region 1 [
    ⟨(some 17), (.iaddr 18 (.tmp 13) (.tmp 15)), none⟩,
    ⟨(some 18), (.load true 18 (.tmp 17)), none⟩,
    ⟨(some 7), (.zero 0 [(.v (.string ⟨#[]⟩)), (.v (.int .i64 0)), (.v (.int .i64 0)), (.v (.int .i64 0)), (.v (.slice none 0 0)), (.v (.int .i64 0)), (.v (.string ⟨#[]⟩)), (.v (.int .i64 0)), (.v (.string ⟨#[]⟩)), (.v (.int .i64 0)), (.v (.bool false)), (.v (.string ⟨#[]⟩)), (.v (.string ⟨#[]⟩)), (.v (.string ⟨#[]⟩)), (.v (.string ⟨#[]⟩)), (.v (.string ⟨#[]⟩)), (.v (.int .i64 0)), (.v (.string ⟨#[]⟩))]), none⟩,
    ⟨none, (.store 18 (.tmp 7) (.tmp 18)), none⟩])
  (.seq (.region 1 [
    ⟨(some 20), (.mov (.tmp 5)), none⟩,
    ⟨(some 21), (.faddr 0 (.tmp 7)), none⟩,
    ⟨(some 22), (.faddr 0 (.tmp 21)), none⟩,
    ⟨(some 23), (.load false 1 (.tmp 22)), none⟩,
    ⟨(some 24), (.look ⟨false, [.s]⟩ (.agg [(.v (.int .i64 0)), (.v (.int .i64 0)), (.v (.int .i64 0))]) (.tmp 20) (.tmp 23) true), none⟩,
    ⟨(some 19), (.mov (.tmp 24)), none⟩,
    ⟨(some 25), (.ext (.tmp 19) 0), none⟩,
    ⟨(some 26), (.ext (.tmp 19) 1), none⟩,
    ⟨(some 8), (.zero 0 [(.v (.int .i64 0)), (.v (.int .i64 0)), (.v (.int .i64 0))]), none⟩,
    ⟨none, (.store 3 (.tmp 8) (.tmp 25)), none⟩,
    ⟨(some 9), (.mov (.tmp 26)), none⟩])
  (.seq (.seq (.region 0 [
    ⟨(some 27), (.mov (.tmp 9)), none⟩,
    ⟨(some 28), (.not (.tmp 27)), none⟩,
    ⟨(some 29), (.mov (.tmp 28)), none⟩,
    ⟨(some 30), (.faddr 2 (.tmp 7)), (some (29, false))⟩,
    ⟨(some 31), (.load false 1 (.tmp 30)), (some (29, false))⟩,
    ⟨(some 32), (.faddr 0 (.tmp 8)), (some (29, false))⟩,
    ⟨(some 33), (.load false 1 (.tmp 32)), (some (29, false))⟩,
    ⟨(some 34), (.binI .gtr .i64 (.tmp 31) (.tmp 33)), (some (29, false))⟩,
    ⟨(some 35), (.pick (.tmp 29) (.const (.bool true)) (.tmp 34)), none⟩])
  (.cond (.tmp 35) (.region 0 [
    ⟨(some 36), (.faddr 2 (.tmp 7)), none⟩,
    ⟨(some 37), (.load false 1 (.tmp 36)), none⟩,
    ⟨(some 38), (.faddr 0 (.tmp 8)), none⟩,
    ⟨none, (.store 1 (.tmp 38) (.tmp 37)), none⟩]) .skip))
  (.seq (.seq (.region 0 [
    ⟨(some 39), (.mov (.tmp 9)), none⟩,
    ⟨(some 40), (.not (.tmp 39)), none⟩,
    ⟨(some 41), (.mov (.tmp 40)), none⟩,
    ⟨(some 42), (.faddr 0 (.tmp 7)), (some (41, false))⟩,
    ⟨(some 43), (.faddr 1 (.tmp 42)), (some (41, false))⟩,
    ⟨(some 44), (.load false 1 (.tmp 43)), (some (41, false))⟩,
    ⟨(some 45), (.faddr 2 (.tmp 8)), (some (41, false))⟩,
    ⟨(some 46), (.load false 1 (.tmp 45)), (some (41, false))⟩,
    ⟨(some 47), (.binI .gtr .i64 (.tmp 44) (.tmp 46)), (some (41, false))⟩,
    ⟨(some 48), (.pick (.tmp 41) (.const (.bool true)) (.tmp 47)), none⟩])
  (.cond (.tmp 48) (.dregion 0 [
    ⟨(some 49), (.faddr 0 (.tmp 7)), none⟩,
    ⟨(some 50), (.faddr 1 (.tmp 49)), none⟩,
    ⟨(some 51), (.load false 1 (.tmp 50)), none⟩,
    ⟨(some 52), (.faddr 3 (.tmp 7)), none⟩,
    ⟨(some 53), (.load false 1 (.tmp 52)), none⟩,
    ⟨(some 54), (.faddr 2 (.tmp 8)), none⟩,
    ⟨none, (.store 1 (.tmp 54) (.tmp 51)), none⟩,
    ⟨(some 55), (.faddr 1 (.tmp 8)), none⟩,
    ⟨none, (.store 1 (.tmp 55) (.tmp 53)), none⟩] [[], [0], [1], [], [3], [0, 1, 2], [5, 2, 0, 1, 2], [0, 1, 2, 3, 4, 5, 6], [7, 4, 6, 0, 1, 2, 3, 4, 5, 6]]) .skip))
  (.region 0 [
    ⟨(some 56), (.mov (.tmp 5)), none⟩,
    ⟨(some 57), (.faddr 0 (.tmp 7)), none⟩,
    ⟨(some 58), (.faddr 0 (.tmp 57)), none⟩,
    ⟨(some 59), (.load false 1 (.tmp 58)), none⟩,
    ⟨(some 60), (.load true 3 (.tmp 8)), none⟩,
    ⟨none, (.mapup ⟨false, [.s]⟩ (.tmp 56) (.tmp 59) (.tmp 60)), none⟩]))))))
  (.region 0 [
    ⟨(some 61), (.binI .add .i64 (.tmp 15) (.const (.int .i64 1))), none⟩,
    ⟨(some 15), (.mov (.tmp 61)), none⟩])))))))
def b53_3 : AC := (.region 0 [
    ⟨(some 62), (.mov (.tmp 5)), none⟩,
    ⟨(some 4), (.mov (.tmp 62)), none⟩])
def b53_4 : AC := .ret
def b53 : AC := (.seq b53_0 (.seq b53_1 (.seq b53_2 (.seq b53_3 b53_4))))
def ir53 : AF := ⟨63, [(.tmp 4)], b53⟩
theorem c53 : compF tt Try.f53 = some ir53 := by kernel_rfl
def b54_0 : AC := (.region 0 [
    ⟨(some 4), (.mov (.const (.int .i64 0))), none⟩,
    ⟨(some 5), (.mov (.const (.int .i64 0))), none⟩])
def b54_1 : AC := (.region 0 [
    ⟨(some 6), (.mov (.const (.int .i64 0))), none⟩,
    ⟨(some 7), (.mov (.const (.int .i64 0))), none⟩])
def b54_2 : AC := (.region 0 [
    ⟨(some 8), (.mov (.const (.bool false))), none⟩])
def b54_3 : AC := (.region 0 [
    ⟨(some 9), (.mov (.const (.int .i64 0))), none⟩])
def b54_4 : AC := (.seq (.region 0 [
    ⟨(some 10), (.mov (.const (.int .i64 0))), none⟩])
  (.block 0 (.loop (.seq (.seq (.region 0 [
    ⟨(some 11), (.mov (.tmp 10)), none⟩,
    ⟨(some 12), (.mov (.tmp 0)), none⟩,
    ⟨(some 13), (.lenL (.tmp 12)), none⟩,
    ⟨(some 14), (.binI .lss .i64 (.tmp 11) (.tmp 13)), none⟩])
  (.cond (.tmp 14) .skip (.exit 0)))
  (.seq (.block 1 (.seq (.seq (.region 0 [
    ⟨(some 17), (.mov (.tmp 0)), none⟩,
    ⟨(some 18), (.mov (.tmp 10)), none⟩,
    ⟨(some 19), (.iaddr 18 (.tmp 17) (.tmp 18)), none⟩,
    ⟨(some 20), (.faddr 0 (.tmp 19)), none⟩,
    ⟨(some 21), (.faddr 0 (.tmp 20)), none⟩,
    ⟨(some 22), (.load false 1 (.tmp 21)), none⟩,
    ⟨(some 23), (.mov (.tmp 1)), none⟩,
    ⟨(some 24), (.binS .neq (.tmp 22) (.tmp 23)), none⟩])
  (.cond (.tmp 24) (.exit 1) .skip))
  (.seq (.seq (.region 0 [
    ⟨(some 25), (.mov (.tmp 8)), none⟩,
    ⟨(some 26), (.not (.tmp 25)), none⟩,
    ⟨(some 27), (.mov (.tmp 26)), none⟩,
    ⟨(some 28), (.mov (.tmp 0)), (some (27, false))⟩,
    ⟨(some 29), (.mov (.tmp 10)), (some (27, false))⟩,
    ⟨(some 30), (.iaddr 18 (.tmp 28) (.tmp 29)), (some (27, false))⟩,
    ⟨(some 31), (.faddr 2 (.tmp 30)), (some (27, false))⟩,
    ⟨(some 32), (.load false 1 (.tmp 31)), (some (27, false))⟩,
    ⟨(some 33), (.mov (.tmp 6)), (some (27, false))⟩,
    ⟨(some 34), (.binI .gtr .i64 (.tmp 32) (.tmp 33)), (some (27, false))⟩,
    ⟨(some 35), (.pick (.tmp 27) (.const (.bool true)) (.tmp 34)), none⟩])
  (.cond (.tmp 35) (.region 0 [
    ⟨(some 36), (.mov (.tmp 0)), none⟩,
    ⟨(some 37), (.mov (.tmp 10)), none⟩,
    ⟨(some 38), (.iaddr 18 (.tmp 36) (.tmp 37)), none⟩,
    ⟨(some 39), (.faddr 2 (.tmp 38)), none⟩,
    ⟨(some 40), (.load false 1 (.tmp 39)), none⟩,
    ⟨(some 6), (.mov (.tmp 40)), none⟩]) .skip))
  (.seq (.seq (.region 0 [
    ⟨(some 41), (.mov (.tmp 8)), none⟩,
    ⟨(some 42), (.not (.tmp 41)), none⟩,
    ⟨(some 43), (.mov (.tmp 42)), none⟩,
    ⟨(some 44), (.mov (.tmp 0)), (some (43, false))⟩,
    ⟨(some 45), (.mov (.tmp 10)), (some (43, false))⟩,
    ⟨(some 46), (.iaddr 18 (.tmp 44) (.tmp 45)), (some (43, false))⟩,
    ⟨(some 47), (.faddr 0 (.tmp 46)), (some (43, false))⟩,
    ⟨(some 48), (.faddr 1 (.tmp 47)), (some (43, false))⟩,
    ⟨(some 49), (.load false 1 (.tmp 48)), (some (43, false))⟩,
    ⟨(some 50), (.mov (.tmp 9)), (some (43, false))⟩,
    ⟨(some 51), (.binI .gtr .i64 (.tmp 49) (.tmp 50)), (some (43, false))⟩,
    ⟨(some 52), (.pick (.tmp 43) (.const (.bool true)) (.tmp 51)), none⟩])
  (.cond (.tmp 52) (.seq (.region 0 [
    ⟨(some 53), (.mov (.tmp 0)), none⟩,
    ⟨(some 54), (.mov (.tmp 10)), none⟩,
    ⟨(some 55), (.iaddr 18 (.tmp 53) (.tmp 54)), none⟩,
    ⟨(some 56), (.faddr 0 (.tmp 55)), none⟩,
    ⟨(some 57), (.faddr 1 (.tmp 56)), none⟩,
    ⟨(some 58), (.load false 1 (.tmp 57)), none⟩,
    ⟨(some 9), (.mov (.tmp 58)), none⟩])
  (.region 0 [
    ⟨(some 59), (.mov (.tmp 0)), none⟩,
    ⟨(some 60), (.mov (.tmp 10)), none⟩,
    ⟨(some 61), (.iaddr 18 (.tmp 59) (.tmp 60)), none⟩,
    ⟨(some 62), (.faddr 3 (.tmp 61)), none⟩,
    ⟨(some 63), (.load false 1 (.tmp 62)), none⟩,
    ⟨(some 7), (.mov (.tmp 63)), none⟩])) .skip))
  (.region 0 [
    ⟨(some 8), (.mov (.const (.bool true))), none⟩])))))
  (.region 0 [
    ⟨(some 15), (.mov (.tmp 10)), none⟩,
    ⟨(some 16), (.binI .add .i64 (.tmp 15) (.const (.int .i64 1))), none⟩,
    ⟨(some 10), (.mov (.tmp 16)), none⟩]))))))
def b54_5 : AC := (.region 0 [
    ⟨(some 64), (.mov (.tmp 6)), none⟩,
    ⟨(some 65), (.mov (.tmp 7)), none⟩,
    ⟨(some 4), (.mov (.tmp 64)), none⟩,
    ⟨(some 5), (.mov (.tmp 65)), none⟩])
def b54_6 : AC := .ret
def b54 : AC := (.seq b54_0 (.seq b54_1 (.seq b54_2 (.seq b54_3 (.seq b54_4 (.seq b54_5 b54_6))))))
def ir54 : AF := ⟨66, [(.tmp 4), (.tmp 5)], b54⟩
theorem c54 : compF tt Try.f54 = some ir54 := by kernel_rfl
def b55_0 : AC := (.region 0 [
    ⟨(some 8), (.mov (.const (.int .i64 0))), none⟩])
def b55_1 : AC := (.region 0 [
    ⟨(some 9), (.mov (.const (.slice none 0 0))), none⟩])
def b55_2 : AC := (.seq (.region 0 [
    ⟨(some 14), (.mov (.tmp 1)), none⟩,
    ⟨(some 15), (.lenL (.tmp 14)), none⟩,
    ⟨(some 16), (.mov (.const (.int .i64 0))), none⟩])
  (.block 0 (.loop (.seq (.region 0 [
    ⟨(some 17), (.binI .lss .i64 (.tmp 16) (.tmp 15)), none⟩])
  (.seq (.cond (.tmp 17) .skip (.exit 0))
  (.seq (.block 1 (.seq (.region 1 [
    ⟨(some 18), (.mov (.tmp 16)), none⟩,
    ⟨(some 19), (.iaddr 2 (.tmp 14) (.tmp 16)), none⟩,
    ⟨(some 20), (.load true 2 (.tmp 19)), none⟩,
    ⟨(some 11), (.zero 0 [(.v (.string ⟨#[]⟩)), (.v (.string ⟨#[]⟩))]), none⟩,
    ⟨(some 10), (.mov (.tmp 18)), none⟩,
    ⟨none, (.store 2 (.tmp 11) (.tmp 20)), none⟩])
  (.seq (.region 0 [
    ⟨(some 21), (.load true 2 (.tmp 11)), none⟩,
    ⟨(some 22), (.mov (.tmp 2)), none⟩,
    ⟨(some 23), (.call 67 [(.tmp 21), (.tmp 22)]), none⟩,
    ⟨(some 24), (.not (.tmp 23)), none⟩])
  (.cond (.tmp 24) (.region 2 [
    ⟨(some 25), (.mov (.tmp 9)), none⟩,
    ⟨(some 26), (.mov (.tmp 3)), none⟩,
    ⟨(some 27), (.mov (.tmp 10)), none⟩,
    ⟨(some 28), (.iaddr 1 (.tmp 26) (.tmp 27)), none⟩,
    ⟨(some 29), (.load false 1 (.tmp 28)), none⟩,
    ⟨(some 30), (.bsl 0 1 [(.v (.int .i64 0))] 1 [(0, (.tmp 29))]), none⟩,
    ⟨(some 31), (.app 1 1 8 (.tmp 25) (.tmp 30)), none⟩,
    ⟨(some 9), (.mov (.tmp 31)), none⟩]) .skip))))
  (.region 0 [
    ⟨(some 32), (.binI .add .i64 (.tmp 16) (.const (.int .i64 1))), none⟩,
    ⟨(some 16), (.mov (.tmp 32)), none⟩])))))))
def b55_3 : AC := (.seq (.region 0 [
    ⟨(some 33), (.mov (.tmp 9)), none⟩,
    ⟨(some 34), (.lenL (.tmp 33)), none⟩,
    ⟨(some 35), (.binI .eql .i64 (.tmp 34) (.const (.int .i64 0))), none⟩])
  (.cond (.tmp 35) (.seq (.region 0 [
    ⟨(some 8), (.mov (.const (.int .i64 0))), none⟩])
  .ret) .skip))
def b55_4 : AC := (.seq (.region 0 [
    ⟨(some 36), (.mov (.tmp 2)), none⟩,
    ⟨(some 37), (.lenL (.tmp 36)), none⟩,
    ⟨(some 38), (.mov (.const (.int .i64 0))), none⟩])
  (.block 2 (.loop (.seq (.region 0 [
    ⟨(some 39), (.binI .lss .i64 (.tmp 38) (.tmp 37)), none⟩])
  (.seq (.cond (.tmp 39) .skip (.exit 2))
  (.seq (.block 3 (.seq (.region 1 [
    ⟨(some 40), (.iaddr 3 (.tmp 36) (.tmp 38)), none⟩,
    ⟨(some 41), (.load true 3 (.tmp 40)), none⟩,
    ⟨(some 13), (.zero 0 [(.v (.string ⟨#[]⟩)), (.v (.int .i64 0)), (.v (.int .i64 0))]), none⟩,
    ⟨none, (.store 3 (.tmp 13) (.tmp 41)), none⟩])
  (.block 4 (.seq (.region 0 [
    ⟨(some 43), (.faddr 2 (.tmp 13)), none⟩,
    ⟨(some 44), (.load false 1 (.tmp 43)), none⟩,
    ⟨(some 45), (.binI .eql .i64 (.tmp 44) (.const (.int .i64 22))), none⟩,
    ⟨(some 46), (.mov (.tmp 45)), none⟩,
    ⟨(some 47), (.mov (.tmp 0)), (some (46, true))⟩,
    ⟨(some 48), (.load true 3 (.tmp 13)), (some (46, true))⟩,
    ⟨(some 49), (.call 68 [(.tmp 47), (.tmp 48)]), (some (46, true))⟩,
    ⟨(some 50), (.not (.tmp 49)), (some (46, true))⟩,
    ⟨(some 51), (.pick (.tmp 46) (.tmp 50) (.const (.bool false))), none⟩,
    ⟨(some 42), (.mov (.tmp 51)), none⟩])
  (.cond (.tmp 42) (.seq (.region 0 [
    ⟨(some 8), (.mov (.const (.int .i64 0))), none⟩])
  .ret) (.seq (.region 0 [
    ⟨(some 53), (.faddr 2 (.tmp 13)), none⟩,
    ⟨(some 54), (.load false 1 (.tmp 53)), none⟩,
    ⟨(some 55), (.binI .eql .i64 (.tmp 54) (.const (.int .i64 19))), none⟩,
    ⟨(some 52), (.mov (.tmp 55)), none⟩])
  (.cond (.tmp 52) (.region 2 [
    ⟨(some 56), (.mov (.tmp 9)), none⟩,
    ⟨(some 57), (.mov (.tmp 0)), none⟩,
    ⟨(some 58), (.load true 3 (.tmp 13)), none⟩,
    ⟨(some 59), (.call 69 [(.tmp 57), (.tmp 58)]), none⟩,
    ⟨(some 60), (.bsl 0 1 [(.v (.int .i64 0))] 1 [(0, (.tmp 59))]), none⟩,
    ⟨(some 61), (.app 1 1 8 (.tmp 56) (.tmp 60)), none⟩,
    ⟨(some 9), (.mov (.tmp 61)), none⟩]) .skip)))))))
  (.region 0 [
    ⟨(some 62), (.binI .add .i64 (.tmp 38) (.const (.int .i64 1))), none⟩,
    ⟨(some 38), (.mov (.tmp 62)), none⟩])))))))
def b55_5 : AC := (.region 0 [
    ⟨(some 63), (.mov (.tmp 9)), none⟩,
    ⟨(some 64), (.call 70 [(.tmp 63)]), none⟩,
    ⟨(some 8), (.mov (.tmp 64)), none⟩])
def b55_6 : AC := .ret
def b55 : AC := (.seq b55_0 (.seq b55_1 (.seq b55_2 (.seq b55_3 (.seq b55_4 (.seq b55_5 b55_6))))))
def ir55 : AF := ⟨65, [(.tmp 8)], b55⟩
theorem c55 : compF tt Try.f55 = some ir55 := by kernel_rfl
def b56_0 : AC := (.region 0 [
    ⟨(some 8), (.mov (.const (.int .i64 0))), none⟩])
def b56_1 : AC := (.region 0 [
    ⟨(some 9), (.mov (.const (.int .i64 0))), none⟩,
    ⟨(some 10), (.mov (.const (.bool false))), none⟩])
def b56_2 : AC := (.seq (.region 0 [
    ⟨(some 11), (.mov (.const (.int .i64 0))), none⟩])
  (.block 0 (.loop (.seq (.seq (.region 0 [
    ⟨(some 14), (.mov (.tmp 11)), none⟩,
    ⟨(some 15), (.mov (.tmp 1)), none⟩,
    ⟨(some 16), (.lenL (.tmp 15)), none⟩,
    ⟨(some 17), (.binI .lss .i64 (.tmp 14) (.tmp 16)), none⟩])
  (.cond (.tmp 17) .skip (.exit 0)))
  (.seq (.block 1 (.seq (.seq (.region 0 [
    ⟨(some 20), (.mov (.tmp 1)), none⟩,
    ⟨(some 21), (.mov (.tmp 11)), none⟩,
    ⟨(some 22), (.iaddr 2 (.tmp 20) (.tmp 21)), none⟩,
    ⟨(some 23), (.faddr 0 (.tmp 22)), none⟩,
    ⟨(some 24), (.load false 1 (.tmp 23)), none⟩,
    ⟨(some 25), (.mov (.tmp 2)), none⟩,
    ⟨(some 26), (.call 71 [(.tmp 24), (.tmp 25)]), none⟩])
  (.cond (.tmp 26) (.exit 1) .skip))
  (.seq (.seq (.region 0 [
    ⟨(some 27), (.mov (.tmp 10)), none⟩,
    ⟨(some 28), (.not (.tmp 27)), none⟩,
    ⟨(some 29), (.mov (.tmp 28)), none⟩,
    ⟨(some 30), (.mov (.tmp 3)), (some (29, false))⟩,
    ⟨(some 31), (.mov (.tmp 11)), (some (29, false))⟩,
    ⟨(some 32), (.iaddr 1 (.tmp 30) (.tmp 31)), (some (29, false))⟩,
    ⟨(some 33), (.load false 1 (.tmp 32)), (some (29, false))⟩,
    ⟨(some 34), (.mov (.tmp 9)), (some (29, false))⟩,
    ⟨(some 35), (.binI .lss .i64 (.tmp 33) (.tmp 34)), (some (29, false))⟩,
    ⟨(some 36), (.pick (.tmp 29) (.const (.bool true)) (.tmp 35)), none⟩])
  (.cond (.tmp 36) (.region 0 [
    ⟨(some 37), (.mov (.tmp 3)), none⟩,
    ⟨(some 38), (.mov (.tmp 11)), none⟩,
    ⟨(some 39), (.iaddr 1 (.tmp 37) (.tmp 38)), none⟩,
    ⟨(some 40), (.load false 1 (.tmp 39)), none⟩,
    ⟨(some 9), (.mov (.tmp 40)), none⟩]) .skip))
  (.region 0 [
    ⟨(some 10), (.mov (.const (.bool true))), none⟩]))))
  (.region 0 [
    ⟨(some 18), (.mov (.tmp 11)), none⟩,
    ⟨(some 19), (.binI .add .i64 (.tmp 18) (.const (.int .i64 1))), none⟩,
    ⟨(some 11), (.mov (.tmp 19)), none⟩]))))))
def b56_3 : AC := (.seq (.region 0 [
    ⟨(some 41), (.mov (.tmp 10)), none⟩,
    ⟨(some 42), (.not (.tmp 41)), none⟩])
  (.cond (.tmp 42) (.seq (.region 0 [
    ⟨(some 8), (.mov (.const (.int .i64 0))), none⟩])
  .ret) .skip))
def b56_4 : AC := (.seq (.region 0 [
    ⟨(some 12), (.mov (.const (.int .i64 0))), none⟩])
  (.block 2 (.loop (.seq (.seq (.region 0 [
    ⟨(some 43), (.mov (.tmp 12)), none⟩,
    ⟨(some 44), (.mov (.tmp 2)), none⟩,
    ⟨(some 45), (.lenL (.tmp 44)), none⟩,
    ⟨(some 46), (.binI .lss .i64 (.tmp 43) (.tmp 45)), none⟩])
  (.cond (.tmp 46) .skip (.exit 2)))
  (.seq (.block 3 (.seq (.region 0 [
    ⟨(some 49), (.mov (.tmp 2)), none⟩,
    ⟨(some 50), (.mov (.tmp 12)), none⟩,
    ⟨(some 51), (.iaddr 3 (.tmp 49) (.tmp 50)), none⟩,
    ⟨(some 52), (.faddr 2 (.tmp 51)), none⟩,
    ⟨(some 53), (.load false 1 (.tmp 52)), none⟩,
    ⟨(some 54), (.binI .eql .i64 (.tmp 53) (.const (.int .i64 22))), none⟩,
    ⟨(some 55), (.mov (.tmp 54)), none⟩,
    ⟨(some 56), (.mov (.tmp 0)), (some (55, true))⟩,
    ⟨(some 57), (.mov (.tmp 2)), (some (55, true))⟩,
    ⟨(some 58), (.mov (.tmp 12)), (some (55, true))⟩,
    ⟨(some 59), (.iaddr 3 (.tmp 57) (.tmp 58)), (some (55, true))⟩,
    ⟨(some 60), (.load true 3 (.tmp 59)), (some (55, true))⟩,
    ⟨(some 61), (.call 72 [(.tmp 56), (.tmp 60)]), (some (55, true))⟩,
    ⟨(some 62), (.not (.tmp 61)), (some (55, true))⟩,
    ⟨(some 63), (.pick (.tmp 55) (.tmp 62) (.const (.bool false))), none⟩])
  (.cond (.tmp 63) (.seq (.region 0 [
    ⟨(some 8), (.mov (.const (.int .i64 0))), none⟩])
  .ret) .skip)))
  (.region 0 [
    ⟨(some 47), (.mov (.tmp 12)), none⟩,
    ⟨(some 48), (.binI .add .i64 (.tmp 47) (.const (.int .i64 1))), none⟩,
    ⟨(some 12), (.mov (.tmp 48)), none⟩]))))))
def b56_5 : AC := (.seq (.region 0 [
    ⟨(some 13), (.mov (.const (.int .i64 0))), none⟩])
  (.block 4 (.loop (.seq (.seq (.region 0 [
    ⟨(some 64), (.mov (.tmp 13)), none⟩,
    ⟨(some 65), (.mov (.tmp 2)), none⟩,
    ⟨(some 66), (.lenL (.tmp 65)), none⟩,
    ⟨(some 67), (.binI .lss .i64 (.tmp 64) (.tmp 66)), none⟩])
  (.cond (.tmp 67) .skip (.exit 4)))
  (.seq (.block 5 (.seq (.region 0 [
    ⟨(some 70), (.mov (.tmp 2)), none⟩,
    ⟨(some 71), (.mov (.tmp 13)), none⟩,
    ⟨(some 72), (.iaddr 3 (.tmp 70) (.tmp 71)), none⟩,
    ⟨(some 73), (.faddr 2 (.tmp 72)), none⟩,
    ⟨(some 74), (.load false 1 (.tmp 73)), none⟩,
    ⟨(some 75), (.binI .eql .i64 (.tmp 74) (.const (.int .i64 19))), none⟩,
    ⟨(some 76), (.mov (.tmp 75)), none⟩,
    ⟨(some 77), (.mov (.tmp 0)), (some (76, true))⟩,
    ⟨(some 78), (.mov (.tmp 2)), (some (76, true))⟩,
    ⟨(some 79), (.mov (.tmp 13)), (some (76, true))⟩,
    ⟨(some 80), (.iaddr 3 (.tmp 78) (.tmp 79)), (some (76, true))⟩,
    ⟨(some 81), (.load true 3 (.tmp 80)), (some (76, true))⟩,
    ⟨(some 82), (.call 73 [(.tmp 77), (.tmp 81)]), (some (76, true))⟩,
    ⟨(some 83), (.mov (.tmp 9)), (some (76, true))⟩,
    ⟨(some 84), (.binI .lss .i64 (.tmp 82) (.tmp 83)), (some (76, true))⟩,
    ⟨(some 85), (.pick (.tmp 76) (.tmp 84) (.const (.bool false))), none⟩])
  (.cond (.tmp 85) (.region 0 [
    ⟨(some 86), (.mov (.tmp 0)), none⟩,
    ⟨(some 87), (.mov (.tmp 2)), none⟩,
    ⟨(some 88), (.mov (.tmp 13)), none⟩,
    ⟨(some 89), (.iaddr 3 (.tmp 87) (.tmp 88)), none⟩,
    ⟨(some 90), (.load true 3 (.tmp 89)), none⟩,
    ⟨(some 91), (.call 73 [(.tmp 86), (.tmp 90)]), none⟩,
    ⟨(some 9), (.mov (.tmp 91)), none⟩]) .skip)))
  (.region 0 [
    ⟨(some 68), (.mov (.tmp 13)), none⟩,
    ⟨(some 69), (.binI .add .i64 (.tmp 68) (.const (.int .i64 1))), none⟩,
    ⟨(some 13), (.mov (.tmp 69)), none⟩]))))))
def b56_6 : AC := (.region 0 [
    ⟨(some 92), (.mov (.tmp 9)), none⟩,
    ⟨(some 8), (.mov (.tmp 92)), none⟩])
def b56_7 : AC := .ret
def b56 : AC := (.seq b56_0 (.seq b56_1 (.seq b56_2 (.seq b56_3 (.seq b56_4 (.seq b56_5 (.seq b56_6 b56_7)))))))
def ir56 : AF := ⟨93, [(.tmp 8)], b56⟩
theorem c56 : compF tt Try.f56 = some ir56 := by kernel_rfl
def b61 : AC := (.seq (.region 1 [
    ⟨(some 2), (.box 0 (.tmp 0)), none⟩,
    ⟨(some 3), (.mov (.const (.bool false))), none⟩])
  (.seq (.region 0 [
    ⟨(some 4), (.faddr 0 (.tmp 2)), none⟩,
    ⟨(some 5), (.load true 2 (.tmp 4)), none⟩,
    ⟨(some 6), (.load true 2 (.tmp 1)), none⟩,
    ⟨(some 7), (.eqA false [.s, (.i .i64)] (.tmp 5) (.tmp 6)), none⟩,
    ⟨(some 3), (.mov (.tmp 7)), none⟩])
  .ret))
def ir61 : AF := ⟨8, [(.tmp 3)], b61⟩
theorem c61 : compF tt Try.f61 = some ir61 := by kernel_rfl
def b67 : AC := (.seq (.region 1 [
    ⟨(some 2), (.box 0 (.tmp 0)), none⟩,
    ⟨(some 4), (.mov (.const (.bool false))), none⟩])
  (.seq (.region 0 [
    ⟨(some 5), (.mov (.tmp 1)), none⟩,
    ⟨(some 6), (.mkfn 81 [(.tmp 2)]), none⟩,
    ⟨(some 7), (.call 80 [(.tmp 5), (.tmp 6)]), none⟩,
    ⟨(some 4), (.mov (.tmp 7)), none⟩])
  .ret))
def ir67 : AF := ⟨8, [(.tmp 4)], b67⟩
theorem c67 : compF tt Try.f67 = some ir67 := by kernel_rfl
def b68 : AC := (.seq (.region 1 [
    ⟨(some 3), (.box 0 (.tmp 1)), none⟩,
    ⟨(some 4), (.mov (.const (.bool false))), none⟩])
  (.seq (.region 0 [
    ⟨(some 5), (.faddr 1 (.tmp 3)), none⟩,
    ⟨(some 6), (.load false 1 (.tmp 5)), none⟩,
    ⟨(some 7), (.binI .eql .i64 (.tmp 6) (.const (.int .i64 0))), none⟩,
    ⟨(some 8), (.mov (.tmp 7)), none⟩,
    ⟨(some 9), (.mov (.tmp 0)), (some (8, false))⟩,
    ⟨(some 10), (.mkfn 83 [(.tmp 3)]), (some (8, false))⟩,
    ⟨(some 11), (.call 82 [(.tmp 9), (.tmp 10)]), (some (8, false))⟩,
    ⟨(some 12), (.pick (.tmp 8) (.const (.bool true)) (.tmp 11)), none⟩,
    ⟨(some 4), (.mov (.tmp 12)), none⟩])
  .ret))
def ir68 : AF := ⟨13, [(.tmp 4)], b68⟩
theorem c68 : compF tt Try.f68 = some ir68 := by kernel_rfl
def b69 : AC := (.seq (.region 1 [
    ⟨(some 3), (.box 0 (.tmp 1)), none⟩,
    ⟨(some 4), (.mov (.const (.int .i64 0))), none⟩])
  (.seq (.region 0 [
    ⟨(some 8), (.mov (.tmp 0)), none⟩,
    ⟨(some 9), (.faddr 0 (.tmp 3)), none⟩,
    ⟨(some 10), (.load false 1 (.tmp 9)), none⟩,
    ⟨(some 11), (.faddr 1 (.tmp 3)), none⟩,
    ⟨(some 12), (.load false 1 (.tmp 11)), none⟩,
    ⟨(some 13), (.build [(.v (.string ⟨#[]⟩)), (.v (.int .i64 0))] [(0, (1, (.tmp 10))), (1, (1, (.tmp 12)))]), none⟩,
    ⟨(some 14), (.call 35 [(.tmp 8), (.tmp 13)]), none⟩,
    ⟨(some 7), (.mov (.tmp 14)), none⟩,
    ⟨(some 15), (.ext (.tmp 7) 0), none⟩,
    ⟨(some 16), (.ext (.tmp 7) 1), none⟩,
    ⟨(some 5), (.mov (.tmp 15)), none⟩,
    ⟨(some 6), (.mov (.tmp 16)), none⟩])
  (.seq (.seq (.region 0 [
    ⟨(some 17), (.mov (.tmp 6)), none⟩,
    ⟨(some 18), (.not (.tmp 17)), none⟩])
  (.cond (.tmp 18) (.seq (.region 0 [
    ⟨(some 4), (.mov (.const (.int .i64 0))), none⟩])
  .ret) .skip))
  (.seq (.region 0 [
    ⟨(some 19), (.mov (.tmp 0)), none⟩,
    ⟨(some 20), (.mov (.tmp 5)), none⟩,
    ⟨(some 21), (.iaddr 18 (.tmp 19) (.tmp 20)), none⟩,
    ⟨(some 22), (.faddr 2 (.tmp 21)), none⟩,
    ⟨(some 23), (.load false 1 (.tmp 22)), none⟩,
    ⟨(some 4), (.mov (.tmp 23)), none⟩])
  .ret))))
def ir69 : AF := ⟨24, [(.tmp 4)], b69⟩
theorem c69 : compF tt Try.f69 = some ir69 := by kernel_rfl
def b71 : AC := (.seq (.region 0 [
    ⟨(some 4), (.mov (.const (.bool false))), none⟩])
  (.seq (.seq (.region 0 [
    ⟨(some 5), (.mov (.const (.int .i64 0))), none⟩])
  (.block 0 (.loop (.seq (.seq (.region 0 [
    ⟨(some 6), (.mov (.tmp 5)), none⟩,
    ⟨(some 7), (.mov (.tmp 1)), none⟩,
    ⟨(some 8), (.lenL (.tmp 7)), none⟩,
    ⟨(some 9), (.binI .lss .i64 (.tmp 6) (.tmp 8)), none⟩])
  (.cond (.tmp 9) .skip (.exit 0)))
  (.seq (.block 1 (.seq (.region 0 [
    ⟨(some 12), (.mov (.tmp 1)), none⟩,
    ⟨(some 13), (.mov (.tmp 5)), none⟩,
    ⟨(some 14), (.iaddr 3 (.tmp 12) (.tmp 13)), none⟩,
    ⟨(some 15), (.faddr 2 (.tmp 14)), none⟩,
    ⟨(some 16), (.load false 1 (.tmp 15)), none⟩,
    ⟨(some 17), (.binI .eql .i64 (.tmp 16) (.const (.int .i64 22))), none⟩,
    ⟨(some 18), (.mov (.tmp 17)), none⟩,
    ⟨(some 19), (.mov (.tmp 1)), (some (18, true))⟩,
    ⟨(some 20), (.mov (.tmp 5)), (some (18, true))⟩,
    ⟨(some 21), (.iaddr 3 (.tmp 19) (.tmp 20)), (some (18, true))⟩,
    ⟨(some 22), (.faddr 0 (.tmp 21)), (some (18, true))⟩,
    ⟨(some 23), (.load false 1 (.tmp 22)), (some (18, true))⟩,
    ⟨(some 24), (.mov (.tmp 0)), (some (18, true))⟩,
    ⟨(some 25), (.binS .eql (.tmp 23) (.tmp 24)), (some (18, true))⟩,
    ⟨(some 26), (.pick (.tmp 18) (.tmp 25) (.const (.bool false))), none⟩])
  (.cond (.tmp 26) (.seq (.region 0 [
    ⟨(some 4), (.mov (.const (.bool true))), none⟩])
  .ret) .skip)))
  (.region 0 [
    ⟨(some 10), (.mov (.tmp 5)), none⟩,
    ⟨(some 11), (.binI .add .i64 (.tmp 10) (.const (.int .i64 1))), none⟩,
    ⟨(some 5), (.mov (.tmp 11)), none⟩]))))))
  (.seq (.region 0 [
    ⟨(some 4), (.mov (.const (.bool false))), none⟩])
  .ret)))
def ir71 : AF := ⟨27, [(.tmp 4)], b71⟩
theorem c71 : compF tt Try.f71 = some ir71 := by kernel_rfl
def b72 : AC := (.seq (.region 1 [
    ⟨(some 3), (.box 0 (.tmp 1)), none⟩,
    ⟨(some 4), (.mov (.const (.bool false))), none⟩])
  (.seq (.seq (.region 0 [
    ⟨(some 5), (.mov (.const (.int .i64 0))), none⟩])
  (.block 0 (.loop (.seq (.seq (.region 0 [
    ⟨(some 6), (.mov (.tmp 5)), none⟩,
    ⟨(some 7), (.mov (.tmp 0)), none⟩,
    ⟨(some 8), (.lenL (.tmp 7)), none⟩,
    ⟨(some 9), (.binI .lss .i64 (.tmp 6) (.tmp 8)), none⟩])
  (.cond (.tmp 9) .skip (.exit 0)))
  (.seq (.block 1 (.seq (.dregion 0 [
    ⟨(some 12), (.mov (.tmp 0)), none⟩,
    ⟨(some 13), (.mov (.tmp 5)), none⟩,
    ⟨(some 14), (.iaddr 18 (.tmp 12) (.tmp 13)), none⟩,
    ⟨(some 15), (.faddr 0 (.tmp 14)), none⟩,
    ⟨(some 16), (.faddr 0 (.tmp 15)), none⟩,
    ⟨(some 17), (.load false 1 (.tmp 16)), none⟩,
    ⟨(some 18), (.faddr 0 (.tmp 3)), none⟩,
    ⟨(some 19), (.load false 1 (.tmp 18)), none⟩,
    ⟨(some 20), (.binS .eql (.tmp 17) (.tmp 19)), none⟩,
    ⟨(some 21), (.mov (.tmp 20)), none⟩,
    ⟨(some 22), (.mov (.tmp 0)), (some (21, true))⟩,
    ⟨(some 23), (.mov (.tmp 5)), (some (21, true))⟩,
    ⟨(some 24), (.iaddr 18 (.tmp 22) (.tmp 23)), (some (21, true))⟩,
    ⟨(some 25), (.faddr 0 (.tmp 24)), (some (21, true))⟩,
    ⟨(some 26), (.faddr 1 (.tmp 25)), (some (21, true))⟩,
    ⟨(some 27), (.load false 1 (.tmp 26)), (some (21, true))⟩,
    ⟨(some 28), (.faddr 1 (.tmp 3)), (some (21, true))⟩,
    ⟨(some 29), (.load false 1 (.tmp 28)), (some (21, true))⟩,
    ⟨(some 30), (.binI .geq .i64 (.tmp 27) (.tmp 29)), (some (21, true))⟩,
    ⟨(some 31), (.pick (.tmp 21) (.tmp 30) (.const (.bool false))), none⟩] [[], [], [0, 1], [2], [3], [4], [], [6], [5, 7], [8], [9], [9], [10, 11, 9], [12, 9], [13, 9], [14, 9], [9], [16, 9], [15, 17, 9], [9, 18]])
  (.cond (.tmp 31) (.seq (.region 0 [
    ⟨(some 4), (.mov (.const (.bool true))), none⟩])
  .ret) .skip)))
  (.region 0 [
    ⟨(some 10), (.mov (.tmp 5)), none⟩,
    ⟨(some 11), (.binI .add .i64 (.tmp 10) (.const (.int .i64 1))), none⟩,
    ⟨(some 5), (.mov (.tmp 11)), none⟩]))))))
  (.seq (.region 0 [
    ⟨(some 32), (.faddr 1 (.tmp 3)), none⟩,
    ⟨(some 33), (.load false 1 (.tmp 32)), none⟩,
    ⟨(some 34), (.binI .eql .i64 (.tmp 33) (.const (.int .i64 0))), none⟩,
    ⟨(some 4), (.mov (.tmp 34)), none⟩])
  .ret)))
def ir72 : AF := ⟨35, [(.tmp 4)], b72⟩
theorem c72 : compF tt Try.f72 = some ir72 := by kernel_rfl
def b73 : AC := (.seq (.region 1 [
    ⟨(some 3), (.box 0 (.tmp 1)), none⟩,
    ⟨(some 4), (.mov (.const (.int .i64 0))), none⟩])
  (.seq (.seq (.region 0 [
    ⟨(some 5), (.mov (.const (.int .i64 0))), none⟩])
  (.block 0 (.loop (.seq (.seq (.region 0 [
    ⟨(some 6), (.mov (.tmp 5)), none⟩,
    ⟨(some 7), (.mov (.tmp 0)), none⟩,
    ⟨(some 8), (.lenL (.tmp 7)), none⟩,
    ⟨(some 9), (.binI .lss .i64 (.tmp 6) (.tmp 8)), none⟩])
  (.cond (.tmp 9) .skip (.exit 0)))
  (.seq (.block 1 (.seq (.dregion 0 [
    ⟨(some 12), (.mov (.tmp 0)), none⟩,
    ⟨(some 13), (.mov (.tmp 5)), none⟩,
    ⟨(some 14), (.iaddr 18 (.tmp 12) (.tmp 13)), none⟩,
    ⟨(some 15), (.faddr 0 (.tmp 14)), none⟩,
    ⟨(some 16), (.load true 2 (.tmp 15)), none⟩,
    ⟨(some 17), (.faddr 0 (.tmp 3)), none⟩,
    ⟨(some 18), (.load false 1 (.tmp 17)), none⟩,
    ⟨(some 19), (.faddr 1 (.tmp 3)), none⟩,
    ⟨(some 20), (.load false 1 (.tmp 19)), none⟩,
    ⟨(some 21), (.build [(.v (.string ⟨#[]⟩)), (.v (.int .i64 0))] [(0, (1, (.tmp 18))), (1, (1, (.tmp 20)))]), none⟩,
    ⟨(some 22), (.eqA false [.s, (.i .i64)] (.tmp 16) (.tmp 21)), none⟩] [[], [], [0, 1], [2], [3], [], [5], [], [7], [6, 8], [4, 9]])
  (.cond (.tmp 22) (.seq (.region 0 [
    ⟨(some 23), (.mov (.tmp 0)), none⟩,
    ⟨(some 24), (.mov (.tmp 5)), none⟩,
    ⟨(some 25), (.iaddr 18 (.tmp 23) (.tmp 24)), none⟩,
    ⟨(some 26), (.faddr 2 (.tmp 25)), none⟩,
    ⟨(some 27), (.load false 1 (.tmp 26)), none⟩,
    ⟨(some 4), (.mov (.tmp 27)), none⟩])
  .ret) .skip)))
  (.region 0 [
    ⟨(some 10), (.mov (.tmp 5)), none⟩,
    ⟨(some 11), (.binI .add .i64 (.tmp 10) (.const (.int .i64 1))), none⟩,
    ⟨(some 5), (.mov (.tmp 11)), none⟩]))))))
  (.seq (.region 0 [
    ⟨(some 4), (.mov (.const (.int .i64 0))), none⟩])
  .ret)))
def ir73 : AF := ⟨28, [(.tmp 4)], b73⟩
theorem c73 : compF tt Try.f73 = some ir73 := by kernel_rfl
def b80 : AC := (.seq (.region 0 [
    ⟨(some 4), (.mov (.const (.bool false))), none⟩])
  (.seq (.region 0 [
    ⟨(some 5), (.mov (.tmp 0)), none⟩,
    ⟨(some 6), (.mov (.tmp 1)), none⟩,
    ⟨(some 7), (.call 96 [(.tmp 5), (.tmp 6)]), none⟩,
    ⟨(some 8), (.binI .geq .i64 (.tmp 7) (.const (.int .i64 0))), none⟩,
    ⟨(some 4), (.mov (.tmp 8)), none⟩])
  .ret))
def ir80 : AF := ⟨9, [(.tmp 4)], b80⟩
theorem c80 : compF tt Try.f80 = some ir80 := by kernel_rfl
def b81 : AC := (.seq (.region 1 [
    ⟨(some 2), (.box 0 (.tmp 0)), none⟩,
    ⟨(some 3), (.mov (.const (.bool false))), none⟩])
  (.seq (.region 0 [
    ⟨(some 4), (.faddr 2 (.tmp 2)), none⟩,
    ⟨(some 5), (.load false 1 (.tmp 4)), none⟩,
    ⟨(some 6), (.binI .eql .i64 (.tmp 5) (.const (.int .i64 22))), none⟩,
    ⟨(some 7), (.mov (.tmp 6)), none⟩,
    ⟨(some 8), (.faddr 0 (.tmp 2)), (some (7, true))⟩,
    ⟨(some 9), (.load false 1 (.tmp 8)), (some (7, true))⟩,
    ⟨(some 10), (.faddr 0 (.tmp 1)), (some (7, true))⟩,
    ⟨(some 11), (.load false 1 (.tmp 10)), (some (7, true))⟩,
    ⟨(some 12), (.binS .eql (.tmp 9) (.tmp 11)), (some (7, true))⟩,
    ⟨(some 13), (.pick (.tmp 7) (.tmp 12) (.const (.bool false))), none⟩,
    ⟨(some 3), (.mov (.tmp 13)), none⟩])
  .ret))
def ir81 : AF := ⟨14, [(.tmp 3)], b81⟩
theorem c81 : compF tt Try.f81 = some ir81 := by kernel_rfl
def b82 : AC := (.seq (.region 0 [
    ⟨(some 4), (.mov (.const (.bool false))), none⟩])
  (.seq (.region 0 [
    ⟨(some 5), (.mov (.tmp 0)), none⟩,
    ⟨(some 6), (.mov (.tmp 1)), none⟩,
    ⟨(some 7), (.call 60 [(.tmp 5), (.tmp 6)]), none⟩,
    ⟨(some 8), (.binI .geq .i64 (.tmp 7) (.const (.int .i64 0))), none⟩,
    ⟨(some 4), (.mov (.tmp 8)), none⟩])
  .ret))
def ir82 : AF := ⟨9, [(.tmp 4)], b82⟩
theorem c82 : compF tt Try.f82 = some ir82 := by kernel_rfl
def b83 : AC := (.seq (.region 1 [
    ⟨(some 2), (.box 0 (.tmp 0)), none⟩,
    ⟨(some 3), (.mov (.const (.bool false))), none⟩])
  (.seq (.region 0 [
    ⟨(some 4), (.faddr 0 (.tmp 2)), none⟩,
    ⟨(some 5), (.faddr 0 (.tmp 4)), none⟩,
    ⟨(some 6), (.load false 1 (.tmp 5)), none⟩,
    ⟨(some 7), (.faddr 0 (.tmp 1)), none⟩,
    ⟨(some 8), (.load false 1 (.tmp 7)), none⟩,
    ⟨(some 9), (.binS .eql (.tmp 6) (.tmp 8)), none⟩,
    ⟨(some 10), (.mov (.tmp 9)), none⟩,
    ⟨(some 11), (.faddr 0 (.tmp 2)), (some (10, true))⟩,
    ⟨(some 12), (.faddr 1 (.tmp 11)), (some (10, true))⟩,
    ⟨(some 13), (.load false 1 (.tmp 12)), (some (10, true))⟩,
    ⟨(some 14), (.faddr 1 (.tmp 1)), (some (10, true))⟩,
    ⟨(some 15), (.load false 1 (.tmp 14)), (some (10, true))⟩,
    ⟨(some 16), (.binI .geq .i64 (.tmp 13) (.tmp 15)), (some (10, true))⟩,
    ⟨(some 17), (.pick (.tmp 10) (.tmp 16) (.const (.bool false))), none⟩,
    ⟨(some 3), (.mov (.tmp 17)), none⟩])
  .ret))
def ir83 : AF := ⟨18, [(.tmp 3)], b83⟩
theorem c83 : compF tt Try.f83 = some ir83 := by kernel_rfl
def b96 : AC := (.seq (.region 0 [
    ⟨(some 4), (.mov (.const (.int .i64 0))), none⟩])
  (.seq (.seq (.region 0 [
    ⟨(some 6), (.mov (.tmp 0)), none⟩,
    ⟨(some 7), (.lenL (.tmp 6)), none⟩,
    ⟨(some 8), (.mov (.const (.int .i64 0))), none⟩])
  (.block 0 (.loop (.seq (.region 0 [
    ⟨(some 9), (.binI .lss .i64 (.tmp 8) (.tmp 7)), none⟩])
  (.seq (.cond (.tmp 9) .skip (.exit 0))
  (.seq (.block 1 (.seq (.region 0 [
    ⟨(some 10), (.mov (.tmp 8)), none⟩,
    ⟨(some 5), (.mov (.tmp 10)), none⟩])
  (.seq (.region 0 [
    ⟨(some 11), (.mov (.tmp 1)), none⟩,
    ⟨(some 12), (.mov (.tmp 0)), none⟩,
    ⟨(some 13), (.mov (.tmp 5)), none⟩,
    ⟨(some 14), (.iaddr 3 (.tmp 12) (.tmp 13)), none⟩,
    ⟨(some 15), (.load true 3 (.tmp 14)), none⟩,
    ⟨(some 16), (.callv (.tmp 11) [(.tmp 15)]), none⟩])
  (.cond (.tmp 16) (.seq (.region 0 [
    ⟨(some 17), (.mov (.tmp 5)), none⟩,
    ⟨(some 4), (.mov (.tmp 17)), none⟩])
  .ret) .skip))))
  (.region 0 [
    ⟨(some 18), (.binI .add .i64 (.tmp 8) (.const (.int .i64 1))), none⟩,
    ⟨(some 8), (.mov (.tmp 18)), none⟩])))))))
  (.seq (.region 0 [
    ⟨(some 4), (.mov (.const (.int .i64 (-1)))), none⟩])
  .ret)))
def ir96 : AF := ⟨19, [(.tmp 4)], b96⟩
theorem c96 : compF tt Try.f96 = some ir96 := by kernel_rfl
end Go.Aw.Try

namespace Go.Aw.Try
open Go Go.Proofs Go.Aw
set_option maxRecDepth 100000
set_option maxHeartbeats 4000000
/-! ### what is known of the members -/
structure Member where
  name : ByteArray
  key : ByteArray
def Member.row (c : Member) : List D := [.v (.string c.name), .v (.string c.key)]
instance : Inhabited Member := ⟨⟨⟨#[]⟩, ⟨#[]⟩⟩⟩
theorem mrow (e : Member) : RowOk 2 e.row := ⟨rfl, fun d hd c h => by subst h; simp [Member.row] at hd⟩
structure Kn where
  c : Int
  f : Int
  n : Int
def kstep : Option Kn → Edit → Kn
  | none, e => ⟨e.clock, e.floor, e.id.n⟩
  | some k, e => ⟨if k.c < e.clock then e.clock else k.c, if k.n < e.id.n then e.floor else k.f, if k.n < e.id.n then e.id.n else k.n⟩
def knStep (name : ByteArray) (s : Option Kn) (e : Edit) : Option Kn := if e.id.a = name then some (kstep s e) else s
def knE (l : List Edit) (name : ByteArray) : Option Kn := l.foldl (knStep name) none
def mapStep (m : List (ByteArray × Kn)) (e : Edit) : List (ByteArray × Kn) := aput m e.id.a (kstep (alook m e.id.a) e)
def mapK (l : List Edit) : List (ByteArray × Kn) := l.foldl mapStep []
theorem look_mapK (l : List Edit) (name : ByteArray) : alook (mapK l) name = knE l name := by
  have : ∀ (l : List Edit) (m : List (ByteArray × Kn)), alook (l.foldl mapStep m) name = l.foldl (knStep name) (alook m name) := by
    intro l
    induction l with
    | nil => intro m; rfl
    | cons e r ih =>
      intro m
      rw [List.foldl_cons, List.foldl_cons, ih]
      congr 1
      unfold mapStep knStep
      rw [alook_aput]
      by_cases h : e.id.a = name
      · rw [if_pos h, if_pos h, h]
      · rw [if_neg h, if_neg h]
  exact this l []
def kn0 : Kn := ⟨0, 0, 0⟩
def knO (s : Option Kn) : Kn := match s with | some k => k | none => kn0
theorem take_foldl {α β : Type} [Inhabited α] (f : β → α → β) (b : β) {l : List α} {i : Nat} (h : i < l.length) : (l.take (i + 1)).foldl f b = f ((l.take i).foldl f b) (nth l i) := by
  rw [take_nth h, List.foldl_append]; rfl
theorem k54 (l : List Edit) (nm : ByteArray) (hl : l.length < 68719476736) :
    ACalls Try.prog G0 54 [.c (.d (.sl (l.map Edit.row))), Sx nm] [] fun t H => t = .tup [I (knO (knE l nm)).c, I (knO (knE l nm)).f] ∧ H = [] := by
  refine acallsX (X := []) trivial tab hmix Try.func54 c54 (by rfl) fun hw => ?_
  simp (implicitDefEqProofs := false) (disch := omega) [List.getElem?_cons_zero, ir54, b54, b54_0, b54_1, b54_2, b54_3, b54_4, wrap64]
  refine loopE (fun k st => ∃ (i : Nat) (q : Option Kn), i ≤ l.length ∧ k = l.length - i ∧ q = knE (l.take i) nm ∧
      st = ⟨ofL [(0, .v (.c (.d (.sl (l.map Edit.row))))), (1, .str nm), (6, .int .i64 (knO q).c), (7, .int .i64 (knO q).f), (8, .bool q.isSome), (9, .int .i64 (knO q).n), (10, .int .i64 i)], []⟩)
    (fun st => AtS [(6, .int .i64 (knO (knE l nm)).c), (7, .int .i64 (knO (knE l nm)).f)] [] st) ?_ ?_ ?_
  · refine wk_keep [0, 1, 6, 7, 8, 9, 10] ⟨_, 0, none, by omega, rfl, rfl, ?_⟩
    simp [knO, kn0]
  · rintro J L hJ hL k st ⟨i, q, hi, rfl, hq, rfl⟩
    by_cases hlt : i < l.length
    · obtain ⟨e, he⟩ : ∃ e, nth l i = e := ⟨_, rfl⟩
      have hee : e.row = [.v (.string e.id.a), .v (.int .i64 e.id.n), .v (.int .i64 e.clock), .v (.int .i64 e.floor), .sl (e.deps.map Id.row), .v (.int .i64 e.kind), .v (.string e.node.a), .v (.int .i64 e.node.n), .v (.string e.parent.a), .v (.int .i64 e.parent.n), .v (.bool e.neg), .v (.string e.num), .v (.string e.den), .v (.string e.field), .v (.string e.value), .v (.string e.target.a), .v (.int .i64 e.target.n), .v (.string e.who)] := rfl
      have hst : knE (l.take (i + 1)) nm = knStep nm q e := by rw [knE, take_foldl _ _ hlt, he, hq]; rfl
      have hfin : ∀ (sl : Nat → T) (q' : Option Kn), knStep nm q e = q' → sl 0 = .v (.c (.d (.sl (l.map Edit.row)))) → sl 1 = .str nm → sl 6 = .int .i64 (knO q').c → sl 7 = .int .i64 (knO q').f → sl 8 = .bool q'.isSome → sl 9 = .int .i64 (knO q').n → sl 10 = .int .i64 (i + 1 : Nat) →
          wk Try.prog G0 0 ⟨sl, []⟩ fun s'' => ∃ k', k' < l.length - i ∧ J k' s'' := fun sl q' hq' h0 h1 h6 h7 h8 h9 h10 => by
        subst hJ
        refine wk_keep [0, 1, 6, 7, 8, 9, 10] ⟨l.length - (i + 1), by omega, i + 1, q', by omega, rfl, by rw [hst, hq'], ?_⟩
        simp [h0, h1, h6, h7, h8, h9, h10]
      unfold knStep at hfin
      by_cases ha : e.id.a = nm
      · rw [if_pos ha] at hfin
        cases q with
        | none =>
          simp (implicitDefEqProofs := false) (disch := omega) [List.getElem?_cons_zero, hlt, nth_map, he, hee, ha, binSF, wrap64, knO, kn0]
          exact hfin _ _ rfl (by simp) (by simp) (by simp [knO, kstep]) (by simp [knO, kstep]) (by simp) (by simp [knO, kstep]) (by simp)
        | some q =>
          by_cases h1 : q.c < e.clock
          · by_cases h2 : q.n < e.id.n
            · simp (implicitDefEqProofs := false) (disch := omega) [List.getElem?_cons_zero, hlt, nth_map, he, hee, ha, binSF, wrap64, knO, h1, h2]
              exact hfin _ _ rfl (by simp) (by simp) (by simp [knO, kstep, h1]) (by simp [knO, kstep, h2]) (by simp) (by simp [knO, kstep, h2]) (by simp)
            · simp (implicitDefEqProofs := false) (disch := omega) [List.getElem?_cons_zero, hlt, nth_map, he, hee, ha, binSF, wrap64, knO, h1, h2]
              exact hfin _ _ rfl (by simp) (by simp) (by simp [knO, kstep, h1]) (by simp [knO, kstep, h2]) (by simp) (by simp [knO, kstep, h2]) (by simp)
          · by_cases h2 : q.n < e.id.n
            · simp (implicitDefEqProofs := false) (disch := omega) [List.getElem?_cons_zero, hlt, nth_map, he, hee, ha, binSF, wrap64, knO, h1, h2]
              exact hfin _ _ rfl (by simp) (by simp) (by simp [knO, kstep, h1]) (by simp [knO, kstep, h2]) (by simp) (by simp [knO, kstep, h2]) (by simp)
            · simp (implicitDefEqProofs := false) (disch := omega) [List.getElem?_cons_zero, hlt, nth_map, he, hee, ha, binSF, wrap64, knO, h1, h2]
              exact hfin _ _ rfl (by simp) (by simp) (by simp [knO, kstep, h1]) (by simp [knO, kstep, h2]) (by simp) (by simp [knO, kstep, h2]) (by simp)
      · rw [if_neg ha] at hfin
        simp (implicitDefEqProofs := false) (disch := omega) [List.getElem?_cons_zero, hlt, nth_map, he, hee, ha, binSF, wrap64]
        exact hfin _ _ rfl (by simp) (by simp) (by simp) (by simp) (by simp) (by simp) (by simp)
    · have : i = l.length := by omega
      subst this
      rw [List.take_length] at hq
      simp (implicitDefEqProofs := false) (disch := omega) [List.getElem?_cons_zero, hlt]
      subst hL
      subst hq
      exact at_mk (by simp) (by simp)
  · rintro _ ⟨sl, rfl⟩
    simp (implicitDefEqProofs := false) (disch := omega) [List.getElem?_cons_zero, b54_5, b54_6]
    exact fin_nil ⟨rfl, rfl⟩
noncomputable def x54 : XE := mkX true (fun (p : List Edit × ByteArray) => [.c (.sl (p.1.map Edit.row)), .c (.v (.string p.2))]) (fun p => p.1.length < 68719476736) (fun p => .tup [I (knO (knE p.1 p.2)).c, I (knO (knE p.1 p.2)).f])
theorem kx54 : Contract Try.prog G0 54 x54 := mkX_scal (fun p => rfl) fun p h => k54 p.1 p.2 h
theorem injLS (a b : List Edit × ByteArray) (h : [PVo.c (D.sl (a.1.map Edit.row)), PVo.c (.v (.string a.2))] = [PVo.c (.sl (b.1.map Edit.row)), .c (.v (.string b.2))]) : a = b := by
  simp at h; exact Prod.ext (rows_inj h.1) h.2
theorem xg54 (l : List Edit) (nm : ByteArray) (h : l.length < 68719476736) : x54.g [.c (.sl (l.map Edit.row)), .c (.v (.string nm))] = some (True, .tup [I (knO (knE l nm)).c, I (knO (knE l nm)).f]) := mkX_g injLS (l, nm) h
end Go.Aw.Try

namespace Go.Aw.Try
open Go Go.Proofs Go.Aw
set_option maxRecDepth 100000
set_option maxHeartbeats 4000000
/-! ### the small functions around the stable clock -/
/-- Is the member excluded? -/
def goneBy (cuts : List Cutoff) (nm : ByteArray) : Bool := cuts.any fun c => decide (c.err = 22) && decide (c.who = nm)
theorem any_drop {α : Type} [Inhabited α] (p : α → Bool) {l : List α} {i : Nat} (h : i < l.length) : (l.drop i).any p = (p (nth l i) || (l.drop (i + 1)).any p) := by
  rw [drop_nth h, List.any_cons]
theorem k71 (cuts : List Cutoff) (nm : ByteArray) (hl : cuts.length < 68719476736) :
    ACalls Try.prog G0 71 [Sx nm, .c (.d (.sl (cuts.map Cutoff.row)))] [] fun t H => t = .bool (goneBy cuts nm) ∧ H = [] := by
  refine acallsX (X := []) trivial tab hmix Try.func71 c71 (by rfl) fun hw => ?_
  simp (implicitDefEqProofs := false) (disch := omega) [List.getElem?_cons_zero, ir71, b71, wrap64]
  refine loopE (fun k st => ∃ (i : Nat), i ≤ cuts.length ∧ k = cuts.length - i ∧ goneBy cuts nm = goneBy (cuts.drop i) nm ∧
      st = ⟨ofL [(0, .str nm), (1, .v (.c (.d (.sl (cuts.map Cutoff.row))))), (5, .int .i64 i)], []⟩)
    (fun st => goneBy cuts nm = false ∧ AtS [] [] st) ?_ ?_ ?_
  · refine wk_keep [0, 1, 5] ⟨_, 0, by omega, rfl, rfl, ?_⟩
    simp
  · rintro J L hJ hL k st ⟨i, hi, rfl, hq, rfl⟩
    by_cases hlt : i < cuts.length
    · obtain ⟨c, hcc⟩ : ∃ c, nth cuts i = c := ⟨_, rfl⟩
      have hce : c.row = [.v (.string c.who), .v (.int .i64 c.n), .v (.int .i64 c.err)] := rfl
      have hst : goneBy (cuts.drop i) nm = ((decide (c.err = 22) && decide (c.who = nm)) || goneBy (cuts.drop (i + 1)) nm) := by rw [← hcc]; exact any_drop _ hlt
      by_cases h1 : c.err = 22
      · by_cases h2 : c.who = nm
        · simp (implicitDefEqProofs := false) (disch := omega) [List.getElem?_cons_zero, hlt, nth_map, hcc, hce, h1, h2, binSF, wrap64]
          exact fin_nil ⟨by rw [hq, hst]; simp [h1, h2], rfl⟩
        · simp (implicitDefEqProofs := false) (disch := omega) [List.getElem?_cons_zero, hlt, nth_map, hcc, hce, h1, h2, binSF, wrap64]
          subst hJ
          refine wk_keep [0, 1, 5] ⟨cuts.length - (i + 1), by omega, i + 1, by omega, rfl, by rw [hq, hst]; simp [h1, h2], ?_⟩
          simp
      · simp (implicitDefEqProofs := false) (disch := omega) [List.getElem?_cons_zero, hlt, nth_map, hcc, hce, h1, binSF, wrap64]
        subst hJ
        refine wk_keep [0, 1, 5] ⟨cuts.length - (i + 1), by omega, i + 1, by omega, rfl, by rw [hq, hst]; simp [h1], ?_⟩
        simp
    · have : i = cuts.length := by omega
      subst this
      simp (implicitDefEqProofs := false) (disch := omega) [List.getElem?_cons_zero, hlt]
      subst hL
      exact ⟨by rw [hq]; simp [goneBy], at_mk (by simp) rfl⟩
  · rintro _ ⟨hq, sl, rfl⟩
    simp (implicitDefEqProofs := false) (disch := omega) [List.getElem?_cons_zero, wrap64]
    exact fin_nil ⟨by rw [hq]; rfl, rfl⟩
theorem k32 (cuts : List Cutoff) (nm : ByteArray) (hl : cuts.length < 68719476736) :
    ACalls Try.prog G0 32 [Sx nm, .c (.d (.sl (cuts.map Cutoff.row)))] [] fun t H => t = .bool (goneBy cuts nm) ∧ H = [] := by
  refine acallsX (X := []) trivial tab hmix Try.func32 c32 (by rfl) fun hw => ?_
  simp (implicitDefEqProofs := false) (disch := omega) [List.getElem?_cons_zero, ir32, b32, wrap64]
  refine loopE (fun k st => ∃ (i : Nat), i ≤ cuts.length ∧ k = cuts.length - i ∧ goneBy cuts nm = goneBy (cuts.drop i) nm ∧
      st = ⟨ofL [(0, .str nm), (7, .v (.c (.d (.sl (cuts.map Cutoff.row))))), (8, .int .i64 cuts.length), (9, .int .i64 i)], []⟩)
    (fun st => goneBy cuts nm = false ∧ AtS [] [] st) ?_ ?_ ?_
  · refine wk_keep [0, 7, 8, 9] ⟨_, 0, by omega, rfl, rfl, ?_⟩
    simp
  · rintro J L hJ hL k st ⟨i, hi, rfl, hq, rfl⟩
    by_cases hlt : i < cuts.length
    · obtain ⟨c, hcc⟩ : ∃ c, nth cuts i = c := ⟨_, rfl⟩
      have hce : c.row = [.v (.string c.who), .v (.int .i64 c.n), .v (.int .i64 c.err)] := rfl
      have hst : goneBy (cuts.drop i) nm = ((decide (c.err = 22) && decide (c.who = nm)) || goneBy (cuts.drop (i + 1)) nm) := by rw [← hcc]; exact any_drop _ hlt
      by_cases h1 : c.err = 22
      · by_cases h2 : c.who = nm
        · simp (implicitDefEqProofs := false) (disch := omega) [List.getElem?_cons_zero, hlt, nth_map, hcc, hce, h1, h2, binSF, splice, wrap64]
          exact fin_nil ⟨by rw [hq, hst]; simp [h1, h2], rfl⟩
        · simp (implicitDefEqProofs := false) (disch := omega) [List.getElem?_cons_zero, hlt, nth_map, hcc, hce, h1, h2, binSF, splice, wrap64]
          subst hJ
          refine wk_nil [] [0, 7, 8, 9] rfl ⟨cuts.length - (i + 1), by omega, i + 1, by omega, rfl, by rw [hq, hst]; simp [h1, h2], ?_⟩
          simp
      · simp (implicitDefEqProofs := false) (disch := omega) [List.getElem?_cons_zero, hlt, nth_map, hcc, hce, h1, binSF, splice, wrap64]
        subst hJ
        refine wk_nil [] [0, 7, 8, 9] rfl ⟨cuts.length - (i + 1), by omega, i + 1, by omega, rfl, by rw [hq, hst]; simp [h1], ?_⟩
        simp
    · have : i = cuts.length := by omega
      subst this
      simp (implicitDefEqProofs := false) (disch := omega) [List.getElem?_cons_zero, hlt]
      subst hL
      exact ⟨by rw [hq]; simp [goneBy], at_mk (by simp) rfl⟩
  · rintro _ ⟨hq, sl, rfl⟩
    simp (implicitDefEqProofs := false) (disch := omega) [List.getElem?_cons_zero, wrap64]
    exact fin_nil ⟨by rw [hq]; rfl, rfl⟩
def Id.ofC (c : Cutoff) : Id := ⟨c.who, c.n⟩
/-- Are all edits of an excluded member here? -/
def wholeR (l : List Edit) (c : Cutoff) : Bool := l.any fun e => decide (e.id.a = c.who) && decide (c.n ≤ e.id.n)
theorem k72 (l : List Edit) (c : Cutoff) (hl : l.length < 68719476736) :
    ACalls Try.prog G0 72 [.c (.d (.sl (l.map Edit.row))), .agg (c.row.map .d)] [] fun t H => t = .bool (wholeR l c || decide (c.n = 0)) ∧ H = [] := by
  refine acallsX (X := []) trivial tab hmix Try.func72 c72 (by rfl) fun hw => ?_
  have hce : c.row = [.v (.string c.who), .v (.int .i64 c.n), .v (.int .i64 c.err)] := rfl
  rw [hce]
  simp (implicitDefEqProofs := false) (disch := omega) [List.getElem?_cons_zero, ir72, b72, wrap64]
  refine loopE (fun k st => ∃ (i : Nat), i ≤ l.length ∧ k = l.length - i ∧ wholeR l c = wholeR (l.drop i) c ∧
      st = ⟨ofL [(0, .v (.c (.d (.sl (l.map Edit.row))))), (3, .v (.c (.ptr 0 0))), (5, .int .i64 i)], [.cells [.d (.v (.string c.who)), .d (.v (.int .i64 c.n)), .d (.v (.int .i64 c.err))]]⟩)
    (fun st => wholeR l c = false ∧ AtS [(3, .v (.c (.ptr 0 0)))] [.cells [.d (.v (.string c.who)), .d (.v (.int .i64 c.n)), .d (.v (.int .i64 c.err))]] st) ?_ ?_ ?_
  · refine wk_keep [0, 3, 5] ⟨_, 0, by omega, rfl, rfl, ?_⟩
    simp
  · rintro J L hJ hL k st ⟨i, hi, rfl, hq, rfl⟩
    by_cases hlt : i < l.length
    · obtain ⟨e, he⟩ : ∃ e, nth l i = e := ⟨_, rfl⟩
      have hee : e.row = [.v (.string e.id.a), .v (.int .i64 e.id.n), .v (.int .i64 e.clock), .v (.int .i64 e.floor), .sl (e.deps.map Id.row), .v (.int .i64 e.kind), .v (.string e.node.a), .v (.int .i64 e.node.n), .v (.string e.parent.a), .v (.int .i64 e.parent.n), .v (.bool e.neg), .v (.string e.num), .v (.string e.den), .v (.string e.field), .v (.string e.value), .v (.string e.target.a), .v (.int .i64 e.target.n), .v (.string e.who)] := rfl
      have hst : wholeR (l.drop i) c = ((decide (e.id.a = c.who) && decide (c.n ≤ e.id.n)) || wholeR (l.drop (i + 1)) c) := by rw [← he]; exact any_drop _ hlt
      by_cases h1 : e.id.a = c.who
      · by_cases h2 : c.n ≤ e.id.n
        · simp (implicitDefEqProofs := false) (disch := omega) [List.getElem?_cons_zero, hlt, nth_map, he, hee, h1, h2, binSF, wrap64]
          repeat' apply And.intro
          all_goals first | omega | kernel_rfl | skip
          exact fin_nil ⟨by rw [hq, hst]; simp [h1, h2], rfl⟩
        · simp (implicitDefEqProofs := false) (disch := omega) [List.getElem?_cons_zero, hlt, nth_map, he, hee, h1, h2, binSF, wrap64]
          repeat' apply And.intro
          all_goals first | omega | kernel_rfl | skip
          subst hJ
          refine wk_keep [0, 3, 5] ⟨l.length - (i + 1), by omega, i + 1, by omega, rfl, by rw [hq, hst]; simp [h1, h2], ?_⟩
          simp
      · simp (implicitDefEqProofs := false) (disch := omega) [List.getElem?_cons_zero, hlt, nth_map, he, hee, h1, binSF, wrap64]
        repeat' apply And.intro
        all_goals first | omega | kernel_rfl | skip
        subst hJ
        refine wk_keep [0, 3, 5] ⟨l.length - (i + 1), by omega, i + 1, by omega, rfl, by rw [hq, hst]; simp [h1], ?_⟩
        simp
    · have : i = l.length := by omega
      subst this
      simp (implicitDefEqProofs := false) (disch := omega) [List.getElem?_cons_zero, hlt]
      subst hL
      exact ⟨by rw [hq]; simp [wholeR], at_mk (by simp) rfl⟩
  · rintro _ ⟨hq, sl, rfl⟩
    simp (implicitDefEqProofs := false) (disch := omega) [List.getElem?_cons_zero, wrap64]
    exact fin_nil ⟨by rw [hq]; simp, rfl⟩
/-- The clock of the edit with that id. -/
def backE (l : List Edit) (c : Cutoff) : Int := match l.find? fun e => decide (e.id.a = c.who ∧ e.id.n = c.n) with | some e => e.clock | none => 0
theorem k73 (l : List Edit) (c : Cutoff) (hl : l.length < 68719476736) :
    ACalls Try.prog G0 73 [.c (.d (.sl (l.map Edit.row))), .agg (c.row.map .d)] [] fun t H => t = .int .i64 (backE l c) ∧ H = [] := by
  refine acallsX (X := []) trivial tab hmix Try.func73 c73 (by rfl) fun hw => ?_
  have hce : c.row = [.v (.string c.who), .v (.int .i64 c.n), .v (.int .i64 c.err)] := rfl
  rw [hce]
  simp (implicitDefEqProofs := false) (disch := omega) [List.getElem?_cons_zero, ir73, b73, wrap64]
  refine loopE (fun k st => ∃ (i : Nat), i ≤ l.length ∧ k = l.length - i ∧ backE l c = backE (l.drop i) c ∧
      st = ⟨ofL [(0, .v (.c (.d (.sl (l.map Edit.row))))), (3, .v (.c (.ptr 0 0))), (5, .int .i64 i)], [.cells [.d (.v (.string c.who)), .d (.v (.int .i64 c.n)), .d (.v (.int .i64 c.err))]]⟩)
    (fun st => backE l c = 0 ∧ AtS [] [.cells [.d (.v (.string c.who)), .d (.v (.int .i64 c.n)), .d (.v (.int .i64 c.err))]] st) ?_ ?_ ?_
  · refine wk_keep [0, 3, 5] ⟨_, 0, by omega, rfl, rfl, ?_⟩
    simp
  · rintro J L hJ hL k st ⟨i, hi, rfl, hq, rfl⟩
    by_cases hlt : i < l.length
    · obtain ⟨e, he⟩ : ∃ e, nth l i = e := ⟨_, rfl⟩
      have hee : e.row = [.v (.string e.id.a), .v (.int .i64 e.id.n), .v (.int .i64 e.clock), .v (.int .i64 e.floor), .sl (e.deps.map Id.row), .v (.int .i64 e.kind), .v (.string e.node.a), .v (.int .i64 e.node.n), .v (.string e.parent.a), .v (.int .i64 e.parent.n), .v (.bool e.neg), .v (.string e.num), .v (.string e.den), .v (.string e.field), .v (.string e.value), .v (.string e.target.a), .v (.int .i64 e.target.n), .v (.string e.who)] := rfl
      have hst : backE (l.drop i) c = if e.id.a = c.who ∧ e.id.n = c.n then e.clock else backE (l.drop (i + 1)) c := by
        unfold backE; rw [drop_nth hlt, he, List.find?_cons]
        by_cases h : e.id.a = c.who ∧ e.id.n = c.n <;> simp [h]
      by_cases h1 : e.id.a = c.who
      · by_cases h2 : e.id.n = c.n
        · simp (implicitDefEqProofs := false) (disch := omega) [List.getElem?_cons_zero, hlt, nth_map, he, hee, h1, h2, fillC, splice, cellsEq, skEq, wrap64]
          repeat' apply And.intro
          all_goals first | omega | kernel_rfl | skip
          exact fin_nil ⟨by rw [hq, hst, if_pos ⟨h1, h2⟩]; rfl, rfl⟩
        · simp (implicitDefEqProofs := false) (disch := omega) [List.getElem?_cons_zero, hlt, nth_map, he, hee, h1, h2, fillC, splice, cellsEq, skEq, wrap64]
          repeat' apply And.intro
          all_goals first | omega | kernel_rfl | skip
          subst hJ
          refine wk_keep [0, 3, 5] ⟨l.length - (i + 1), by omega, i + 1, by omega, rfl, by rw [hq, hst, if_neg (by simp [h2])], ?_⟩
          simp
      · simp (implicitDefEqProofs := false) (disch := omega) [List.getElem?_cons_zero, hlt, nth_map, he, hee, h1, fillC, splice, cellsEq, skEq, wrap64]
        repeat' apply And.intro
        all_goals first | omega | kernel_rfl | skip
        subst hJ
        refine wk_keep [0, 3, 5] ⟨l.length - (i + 1), by omega, i + 1, by omega, rfl, by rw [hq, hst, if_neg (by simp [h1])], ?_⟩
        simp
    · have : i = l.length := by omega
      subst this
      simp (implicitDefEqProofs := false) (disch := omega) [List.getElem?_cons_zero, hlt]
      subst hL
      exact ⟨by rw [hq]; simp [backE], at_mk (by simp) rfl⟩
  · rintro _ ⟨hq, sl, rfl⟩
    simp (implicitDefEqProofs := false) (disch := omega) [List.getElem?_cons_zero, wrap64]
    exact fin_nil ⟨by rw [hq]; rfl, rfl⟩
theorem injNC (a b : ByteArray × List Cutoff) (h : [PVo.c (D.v (.string a.1)), PVo.c (.sl (a.2.map Cutoff.row))] = [PVo.c (.v (.string b.1)), .c (.sl (b.2.map Cutoff.row))]) : a = b := by
  simp at h; exact Prod.ext h.1 (crows_inj h.2)
noncomputable def x71 : XE := mkX true (fun (p : ByteArray × List Cutoff) => [.c (.v (.string p.1)), .c (.sl (p.2.map Cutoff.row))]) (fun p => p.2.length < 68719476736) (fun p => .bool (goneBy p.2 p.1))
theorem kx71 : Contract Try.prog G0 71 x71 := mkX_scal (fun _ => rfl) fun p h => k71 p.2 p.1 h
theorem kx32 : Contract Try.prog G0 32 x71 := mkX_scal (fun _ => rfl) fun p h => k32 p.2 p.1 h
theorem xg71 (nm : ByteArray) (cuts : List Cutoff) (h : cuts.length < 68719476736) : x71.g [.c (.v (.string nm)), .c (.sl (cuts.map Cutoff.row))] = some (True, .bool (goneBy cuts nm)) := mkX_g injNC (nm, cuts) h
theorem injLK (a b : List Edit × Cutoff) (h : [PVo.c (D.sl (a.1.map Edit.row)), PVo.agg a.2.row] = [PVo.c (.sl (b.1.map Edit.row)), .agg b.2.row]) : a = b := by
  simp at h; exact Prod.ext (rows_inj h.1) (Cutoff.row_inj h.2)
noncomputable def x72 : XE := mkX true (fun (p : List Edit × Cutoff) => [.c (.sl (p.1.map Edit.row)), .agg p.2.row]) (fun p => p.1.length < 68719476736) (fun p => .bool (wholeR p.1 p.2 || decide (p.2.n = 0)))
theorem kx72 : Contract Try.prog G0 72 x72 := mkX_scal (fun _ => rfl) fun p h => k72 p.1 p.2 h
theorem xg72 (l : List Edit) (c : Cutoff) (h : l.length < 68719476736) : x72.g [.c (.sl (l.map Edit.row)), .agg c.row] = some (True, .bool (wholeR l c || decide (c.n = 0))) := mkX_g injLK (l, c) h
noncomputable def x73 : XE := mkX true (fun (p : List Edit × Cutoff) => [.c (.sl (p.1.map Edit.row)), .agg p.2.row]) (fun p => p.1.length < 68719476736) (fun p => .int .i64 (backE p.1 p.2))
theorem kx73 : Contract Try.prog G0 73 x73 := mkX_scal (fun _ => rfl) fun p h => k73 p.1 p.2 h
theorem xg73 (l : List Edit) (c : Cutoff) (h : l.length < 68719476736) : x73.g [.c (.sl (l.map Edit.row)), .agg c.row] = some (True, .int .i64 (backE l c)) := mkX_g injLK (l, c) h
end Go.Aw.Try

namespace Go.Aw
open Go
section
variable {P : Program} {G : Gl} {N0 : Nat}
/-- A map was laid behind the regions. -/
def OwnM (H : List O) (kt : KT) (es : List (Value × PV)) : T → List O → Prop := fun t H' => t = .v (.c (.mp H.length)) ∧ H' = H ++ [.map kt es]
theorem fin_ownM {H L : List O} {k : Nat} {kt : KT} {es : List (Value × PV)} (hw : Wf H) (hk : L[k]? = some (.map kt es)) :
    Fin P H.length (OwnM H kt es) (.v (.c (.mp (H.length + k)))) (H ++ L) := by
  have hlt : k < L.length := (List.getElem?_eq_some_iff.1 hk).1
  refine fin_pre [k] hw (by simp [selB, phi, hlt]) ?_
  have e1 : phiP H.length [k] (H.length + k) = some H.length := by simp [phiP, phi]; omega
  have e2 : L.getD k .dead = .map kt es := by rw [List.getD_eq_getElem?_getD, hk]; rfl
  refine ⟨?_, ?_⟩
  · show T.v (V.c (C.ren _ _)) = _
    simp only [C.ren, e1]
  · simp only [List.map_cons, List.map_nil, e2]; rfl
end
end Go.Aw
namespace Go.Aw.Try
open Go Go.Proofs Go.Aw
set_option maxRecDepth 100000
set_option maxHeartbeats 4000000
def Kn.pv (k : Kn) : PV := .agg [.v (.int .i64 k.c), .v (.int .i64 k.f), .v (.int .i64 k.n)]
abbrev encSK (m : List (ByteArray × Kn)) : List (Value × PV) := encM (fun s => .string s) Kn.pv m
theorem mfind_SK (a : ByteArray) (m : List (ByteArray × Kn)) : mfind (encSK m) (.string a) = (alook m a).map Kn.pv := mfind_enc (ke := fun s => Value.string s) (fun a b => rfl) a m
theorem mput_SK (a : ByteArray) (n : Kn) (m : List (ByteArray × Kn)) : mput (encSK m) (.string a) (.agg [.v (.int .i64 n.c), .v (.int .i64 n.f), .v (.int .i64 n.n)]) = encSK (aput m a n) := mput_enc (ke := fun s => Value.string s) (ve := Kn.pv) (fun a b => rfl) a n m
theorem k53 (es : List Edit) (hl : es.length < 68719476736) (cuts : List Cutoff) (hc : cuts.length < 68719476736) (H : List O) :
    ACalls Try.prog G0 53 [.c (.d (.sl (es.map Edit.row))), .c (.d (.sl (cuts.map Cutoff.row)))] H (OwnM H ktS (encSK (mapK (effE es cuts)))) := by
  have h18 : x18.sc = false := rfl
  have g18 := xg18 es cuts hl hc
  refine acallsX (X := [(18, x18)]) ⟨kx18, trivial⟩ tab hmix Try.func53 c53 (by rfl) fun hw => ?_
  obtain ⟨s, hs⟩ : ∃ s, s = effE es cuts := ⟨_, rfl⟩
  have hsl : s.length < 68719476736 := by
    have h1 := sortE_len es
    have h2 : (effE es cuts).length ≤ (sortE es).length := List.length_filter_le _ _
    rw [hs]; omega
  rw [← hs] at g18
  rw [← hs]
  simp (implicitDefEqProofs := false) (disch := omega) [List.getElem?_cons_zero, ir53, b53, b53_0, b53_1, b53_2, h18, g18, wrap64, toPVs, frzVs, osVs, toPV]
  refine loopE (fun k st => ∃ i, i ≤ s.length ∧ k = s.length - i ∧
      st = ⟨ofL [(5, .v (.c (.mp H.length))), (13, .v (.c (.d (.sl (s.map Edit.row))))), (14, .int .i64 s.length), (15, .int .i64 i)],
        H ++ [.map ktS (encSK (mapK (s.take i)))]⟩)
    (fun st => AtS [(5, .v (.c (.mp H.length)))] (H ++ [.map ktS (encSK (mapK s))]) st) ?_ ?_ ?_
  · refine wk_keep [5, 13, 14, 15] ⟨_, 0, by omega, rfl, ?_⟩
    simp [mapK, encM]
  · rintro J L hJ hL k st ⟨i, hi, rfl, rfl⟩
    by_cases hlt : i < s.length
    · obtain ⟨e, he⟩ : ∃ e, nth s i = e := ⟨_, rfl⟩
      have hee : e.row = [.v (.string e.id.a), .v (.int .i64 e.id.n), .v (.int .i64 e.clock), .v (.int .i64 e.floor), .sl (e.deps.map Id.row), .v (.int .i64 e.kind), .v (.string e.node.a), .v (.int .i64 e.node.n), .v (.string e.parent.a), .v (.int .i64 e.parent.n), .v (.bool e.neg), .v (.string e.num), .v (.string e.den), .v (.string e.field), .v (.string e.value), .v (.string e.target.a), .v (.int .i64 e.target.n), .v (.string e.who)] := rfl
      obtain ⟨m, hm⟩ : ∃ m, m = mapK (s.take i) := ⟨_, rfl⟩
      have hstep : mapK (s.take (i + 1)) = mapStep m e := by rw [mapK, take_foldl _ _ hlt, he, hm]; rfl
      have hfin : ∀ (sl : Nat → T) (L : List O) (q : Kn), kstep (alook m e.id.a) e = q → sl 5 = .v (.c (.mp H.length)) → sl 13 = .v (.c (.d (.sl (s.map Edit.row)))) → sl 14 = .int .i64 s.length → sl 15 = .int .i64 (i + 1 : Nat) →
          wk Try.prog G0 H.length ⟨sl, H ++ (.map ktS (mput (encSK m) (.string e.id.a) (.agg [.v (.int .i64 q.c), .v (.int .i64 q.f), .v (.int .i64 q.n)])) :: L)⟩ fun s'' => ∃ k', k' < s.length - i ∧ J k' s'' := fun sl L q hq h5 h13 h14 h15 => by
        subst hJ
        rw [mput_SK]
        refine wk_junk2 (M := [.map ktS (encSK (aput m e.id.a q))]) [(5, .v (.c (.mp H.length))), (13, .v (.c (.d (.sl (s.map Edit.row))))), (14, .int .i64 s.length), (15, .int .i64 (i + 1 : Nat))] hw (by simp [O.lt, C.lt]) rfl (by simp [h5, h13, h14, h15, T.lt, V.lt, C.lt]) ⟨s.length - (i + 1), by omega, i + 1, by omega, rfl, ?_⟩
        rw [hstep]; unfold mapStep; rw [hq]
      rw [← hm]
      have hf := mfind_SK e.id.a m
      cases ha : alook m e.id.a with
      | none =>
        rw [ha] at hf hfin
        simp (implicitDefEqProofs := false) (disch := omega) [List.getElem?_cons_zero, hlt, wrap64, nth_map, he, hee, hf, splice, conf, sksOk, skOk, PV.toV, toPV, toDs]
        repeat' apply And.intro
        all_goals first | omega | kernel_rfl | skip
        exact hfin _ _ ⟨e.clock, e.floor, e.id.n⟩ rfl (by simp) (by simp) (by simp) (by simp)
      | some q =>
        rw [ha] at hf hfin
        have hqp : Option.map Kn.pv (some q) = some (.agg [.v (.int .i64 q.c), .v (.int .i64 q.f), .v (.int .i64 q.n)]) := rfl
        rw [hqp] at hf
        by_cases h1 : q.c < e.clock
        · by_cases h2 : q.n < e.id.n
          · simp (implicitDefEqProofs := false) (disch := omega) [List.getElem?_cons_zero, hlt, wrap64, nth_map, he, hee, hf, h1, h2, splice, conf, sksOk, skOk, PV.toV, toPV, toDs]
            repeat' apply And.intro
            all_goals first | omega | kernel_rfl | skip
            exact hfin _ _ ⟨e.clock, e.floor, e.id.n⟩ (by simp [kstep, h1, h2]) (by simp) (by simp) (by simp) (by simp)
          · simp (implicitDefEqProofs := false) (disch := omega) [List.getElem?_cons_zero, hlt, wrap64, nth_map, he, hee, hf, h1, h2, splice, conf, sksOk, skOk, PV.toV, toPV, toDs]
            repeat' apply And.intro
            all_goals first | omega | kernel_rfl | skip
            exact hfin _ _ ⟨e.clock, q.f, q.n⟩ (by simp [kstep, h1, h2]) (by simp) (by simp) (by simp) (by simp)
        · by_cases h2 : q.n < e.id.n
          · simp (implicitDefEqProofs := false) (disch := omega) [List.getElem?_cons_zero, hlt, wrap64, nth_map, he, hee, hf, h1, h2, splice, conf, sksOk, skOk, PV.toV, toPV, toDs]
            repeat' apply And.intro
            all_goals first | omega | kernel_rfl | skip
            exact hfin _ _ ⟨q.c, e.floor, e.id.n⟩ (by simp [kstep, h1, h2]) (by simp) (by simp) (by simp) (by simp)
          · simp (implicitDefEqProofs := false) (disch := omega) [List.getElem?_cons_zero, hlt, wrap64, nth_map, he, hee, hf, h1, h2, splice, conf, sksOk, skOk, PV.toV, toPV, toDs]
            repeat' apply And.intro
            all_goals first | omega | kernel_rfl | skip
            exact hfin _ _ ⟨q.c, q.f, q.n⟩ (by simp [kstep, h1, h2]) (by simp) (by simp) (by simp) (by simp)
    · have : i = s.length := by omega
      subst this
      simp (implicitDefEqProofs := false) (disch := omega) [List.getElem?_cons_zero, hlt]
      subst hL
      exact at_mk (by simp) (by simp)
  · rintro _ ⟨sl, rfl⟩
    simp (implicitDefEqProofs := false) (disch := omega) [List.getElem?_cons_zero, b53_3, b53_4]
    exact fin_ownM (k := 0) hw rfl
end Go.Aw.Try

namespace Go.Aw.Try
open Go Go.Proofs Go.Aw
set_option maxRecDepth 100000
set_option maxHeartbeats 4000000
def irow (x : Int) : List D := [.v (.int .i64 x)]
theorem irowOk (e : Int) : RowOk 1 (irow e) := ⟨rfl, fun d hd c h => by subst h; simp [irow] at hd⟩
def clk (l : List Edit) (cuts : List Cutoff) (m : Member) : Int := (knO (knE (effE l cuts) m.name)).c
def flr (l : List Edit) (cuts : List Cutoff) (m : Member) : Int := (knO (knE (effE l cuts) m.name)).f
def lists (f g : Member → Int) (all : List Member) : T := .tup [.c (.d (.sl ((all.map f).map irow))), .c (.d (.sl ((all.map g).map irow)))]
theorem look_kn (s : List Edit) (nm : ByteArray) : (match mfind (encSK (mapK s)) (.string nm) with | some v => v | none => PVo.agg [D.v (.int .i64 0), D.v (.int .i64 0), D.v (.int .i64 0)]) = (knO (knE s nm)).pv := by
  rw [mfind_SK, look_mapK]; cases knE s nm <;> rfl
theorem k26 (l : List Edit) (all : List Member) (cuts : List Cutoff) (hl : l.length < 68719476736) (ha : all.length < 68719476736) (hc : cuts.length < 68719476736) (H : List O) :
    ACalls Try.prog G0 26 [.c (.d (.sl (l.map Edit.row))), .c (.d (.sl (all.map Member.row))), .c (.d (.sl (cuts.map Cutoff.row)))] H fun t H' => t = lists (clk l cuts) (flr l cuts) all ∧ H' = H := by
  refine acallsX (X := []) trivial tab hmix Try.func26 c26 (by rfl) fun hw => ?_
  simp (implicitDefEqProofs := false) (disch := omega) [List.getElem?_cons_zero, ir26, b26, wrap64]
  refine (k53 l hl cuts hc H).mono ?_
  rintro t H' ⟨rfl, rfl⟩
  obtain ⟨m, hm⟩ : ∃ m, m = encSK (mapK (effE l cuts)) := ⟨_, rfl⟩
  have hlk : ∀ nm, (∃ v, mfind m (.string nm) = some v ∧ v = (knO (knE (effE l cuts) nm)).pv) ∨ (mfind m (.string nm) = none ∧ PVo.agg [D.v (.int .i64 0), D.v (.int .i64 0), D.v (.int .i64 0)] = (knO (knE (effE l cuts) nm)).pv) := fun nm => by
    rw [hm, mfind_SK, look_mapK]; cases knE (effE l cuts) nm
    · exact .inr ⟨rfl, rfl⟩
    · exact .inl ⟨_, rfl, rfl⟩
  rw [← hm]
  simp only [callK]
  simp (implicitDefEqProofs := false) (disch := omega) [List.getElem?_cons_zero, wrap64]
  refine loopE (fun k s => ∃ (i : Nat), i ≤ all.length ∧ k = all.length - i ∧
      s = ⟨ofL [(8, .v (.c (.mp H.length))), (9, .v (.c (.os (H.length + 1) 1 0 i))), (10, .v (.c (.os (H.length + 2) 1 0 i))), (16, .v (.c (.d (.sl (all.map Member.row))))), (17, .int .i64 all.length), (18, .int .i64 i)],
        H ++ [.map ktS m, .row 1 (((all.take i).map (clk l cuts)).map irow), .row 1 (((all.take i).map (flr l cuts)).map irow)]⟩)
    (fun s => AtS [(9, .v (.c (.os (H.length + 1) 1 0 all.length))), (10, .v (.c (.os (H.length + 2) 1 0 all.length)))] (H ++ [.map ktS m, .row 1 ((all.map (clk l cuts)).map irow), .row 1 ((all.map (flr l cuts)).map irow)]) s) ?_ ?_ ?_
  · refine wk_nil_os 9 1 (by omega) (by simp) (wk_nil_os 10 1 (by omega) (by simp) ?_)
    refine wk_keep [8, 9, 10, 16, 17, 18] ⟨_, 0, by omega, rfl, ?_⟩
    simp
  · rintro J L hJ hL k s ⟨i, hi, rfl, rfl⟩
    by_cases hlt : i < all.length
    · obtain ⟨e, he⟩ : ∃ e, nth all i = e := ⟨_, rfl⟩
      have hee : e.row = [.v (.string e.name), .v (.string e.key)] := rfl
      obtain ⟨q, hq⟩ : ∃ q, q = knO (knE (effE l cuts) e.name) := ⟨_, rfl⟩
      have hlk := hlk e.name
      rw [← hq] at hlk
      have ec : ((all.take (i + 1)).map (clk l cuts)).map irow = ((all.take i).map (clk l cuts)).map irow ++ [[.v (.int .i64 q.c)]] := by
        rw [take_nth hlt, he]; simp [clk, hq, irow]
      have ef : ((all.take (i + 1)).map (flr l cuts)).map irow = ((all.take i).map (flr l cuts)).map irow ++ [[.v (.int .i64 q.f)]] := by
        rw [take_nth hlt, he]; simp [flr, hq, irow]
      have lc : (((all.take i).map (clk l cuts)).map irow).length = i := by simp; omega
      have lf : (((all.take i).map (flr l cuts)).map irow).length = i := by simp; omega
      obtain ⟨A, hA⟩ : ∃ A, A = ((all.take i).map (clk l cuts)).map irow := ⟨_, rfl⟩
      obtain ⟨B, hB⟩ : ∃ B, B = ((all.take i).map (flr l cuts)).map irow := ⟨_, rfl⟩
      rw [← hA] at ec lc
      rw [← hB] at ef lf
      rw [← hA, ← hB]
      have tA : A.take i = A := List.take_of_length_le (by omega)
      have tB : B.take i = B := List.take_of_length_le (by omega)
      rcases hlk with ⟨v, h1, rfl⟩ | ⟨h1, h2⟩
      · simp (implicitDefEqProofs := false) (disch := omega) [List.getElem?_cons_zero, hlt, wrap64, nth_map, he, hee, h1, Kn.pv, splice, fillC, conf, sksOk, skOk, PV.toV, toPV, toDs, lc, lf, tA, tB, Nat.add_assoc]
        repeat' apply And.intro
        all_goals first | omega | kernel_rfl | skip
        subst hJ
        refine wk_pre [0, 5, 7] [8, 9, 10, 16, 17, 18] hw rfl ⟨all.length - (i + 1), by omega, i + 1, by omega, rfl, ?_⟩
        have n5 : ¬ H.length + 5 < H.length := by omega
        have n7 : ¬ H.length + 7 < H.length := by omega
        rw [ec, ef]; simp [phiP, phi, O.ren, n5, n7]
      · unfold Kn.pv at h2
        injection h2 with h2
        simp at h2
        simp (implicitDefEqProofs := false) (disch := omega) [List.getElem?_cons_zero, hlt, wrap64, nth_map, he, hee, h1, splice, fillC, conf, sksOk, skOk, PV.toV, toPV, toDs, lc, lf, tA, tB, Nat.add_assoc]
        repeat' apply And.intro
        all_goals first | omega | kernel_rfl | skip
        subst hJ
        refine wk_pre [0, 5, 7] [8, 9, 10, 16, 17, 18] hw rfl ⟨all.length - (i + 1), by omega, i + 1, by omega, rfl, ?_⟩
        have n5 : ¬ H.length + 5 < H.length := by omega
        have n7 : ¬ H.length + 7 < H.length := by omega
        have qc : q.c = 0 := h2.1.symm
        have qf : q.f = 0 := h2.2.1.symm
        rw [ec, ef]; simp [phiP, phi, O.ren, n5, n7, qc, qf]
    · have : i = all.length := by omega
      subst this
      simp (implicitDefEqProofs := false) (disch := omega) [List.getElem?_cons_zero, hlt]
      subst hL
      exact at_mk (by simp) (by simp)
  · rintro _ ⟨sl, rfl⟩
    simp (implicitDefEqProofs := false) (disch := omega) [List.getElem?_cons_zero, wrap64]
    refine fin_pre_pvs (ps := [.c (.sl ((all.map (clk l cuts)).map irow)), .c (.sl ((all.map (flr l cuts)).map irow))]) (L' := [.map ktS m, .frow 1 ((all.map (clk l cuts)).map irow), .frow 1 ((all.map (flr l cuts)).map irow)]) hw ?_ ?_ ⟨rfl, rfl⟩
    · simp [toPVs, toPV, frz, frz1]
      exact ⟨List.take_of_length_le (by simp), List.take_of_length_le (by simp)⟩
    · simp [frzVs, frz, frz1]
noncomputable def x26 : XE := mkX false (fun (p : List Edit × List Member × List Cutoff) => [.c (.sl (p.1.map Edit.row)), .c (.sl (p.2.1.map Member.row)), .c (.sl (p.2.2.map Cutoff.row))]) (fun p => p.1.length < 68719476736 ∧ p.2.1.length < 68719476736 ∧ p.2.2.length < 68719476736) (fun p => lists (clk p.1 p.2.2) (flr p.1 p.2.2) p.2.1)
theorem mrow_inj {a b : Member} (h : a.row = b.row) : a = b := by
  cases a; cases b; simp [Member.row] at h; obtain ⟨rfl, rfl⟩ := h; rfl
theorem map_inj' {α β : Type} {f : α → β} (hf : ∀ a b, f a = f b → a = b) : ∀ {l m : List α}, l.map f = m.map f → l = m
  | [], [], _ => rfl
  | [], _ :: _, h => by simp at h
  | _ :: _, [], h => by simp at h
  | a :: l, b :: m, h => by
    simp only [List.map_cons, List.cons.injEq] at h
    rw [hf _ _ h.1, map_inj' hf h.2]
theorem injLMC (a b : List Edit × List Member × List Cutoff) (h : [PVo.c (D.sl (a.1.map Edit.row)), PVo.c (.sl (a.2.1.map Member.row)), PVo.c (.sl (a.2.2.map Cutoff.row))] = [PVo.c (.sl (b.1.map Edit.row)), .c (.sl (b.2.1.map Member.row)), .c (.sl (b.2.2.map Cutoff.row))]) : a = b := by
  simp at h; exact Prod.ext (rows_inj h.1) (Prod.ext (map_inj' (fun a b => mrow_inj) h.2.1) (crows_inj h.2.2))
theorem kx26 : Contract Try.prog G0 26 x26 := mkX_data fun p h H => k26 p.1 p.2.1 p.2.2 h.1 h.2.1 h.2.2 H
theorem xg26 (l : List Edit) (all : List Member) (cuts : List Cutoff) (hl : l.length < 68719476736) (ha : all.length < 68719476736) (hc : cuts.length < 68719476736) : x26.g [.c (.sl (l.map Edit.row)), .c (.sl (all.map Member.row)), .c (.sl (cuts.map Cutoff.row))] = some (True, lists (clk l cuts) (flr l cuts) all) := mkX_g injLMC (l, all, cuts) ⟨hl, ha, hc⟩
theorem k27 (l : List Edit) (all : List Member) (cuts : List Cutoff) (hl : l.length < 68719476736) (ha : all.length < 68719476736) (hc : cuts.length < 68719476736) (H : List O) :
    ACalls Try.prog G0 27 [.c (.d (.sl (l.map Edit.row))), .c (.d (.sl (all.map Member.row))), .c (.d (.sl (cuts.map Cutoff.row)))] H fun t H' => t = lists (clk l cuts) (flr l cuts) all ∧ H' = H := by
  have h19 : x19.sc = false := rfl
  have h54 : x54.sc = true := rfl
  have g19 := xg19 l cuts hl hc
  refine acallsX (X := [(19, x19), (54, x54)]) ⟨kx19, kx54, trivial⟩ tab hmix Try.func27 c27 (by rfl) fun hw => ?_
  have g54 := fun nm => xg54 (effE l cuts) nm (by
    have h1 := sortE_len l
    have h2 : (effE l cuts).length ≤ (sortE l).length := List.length_filter_le _ _
    omega)
  simp (implicitDefEqProofs := false) (disch := omega) [List.getElem?_cons_zero, ir27, b27, h19, g19, wrap64, toPVs, frzVs, osVs, toPV]
  refine loopE (fun k s => ∃ (i : Nat), i ≤ all.length ∧ k = all.length - i ∧
      s = ⟨ofL [(1, .v (.c (.d (.sl (all.map Member.row))))), (8, .v (.c (.os H.length 1 0 i))), (9, .v (.c (.os (H.length + 1) 1 0 i))), (10, .v (.c (.d (.sl ((effE l cuts).map Edit.row))))), (11, .int .i64 i)],
        H ++ [.row 1 (((all.take i).map (clk l cuts)).map irow), .row 1 (((all.take i).map (flr l cuts)).map irow)]⟩)
    (fun s => AtS [(8, .v (.c (.os H.length 1 0 all.length))), (9, .v (.c (.os (H.length + 1) 1 0 all.length)))] (H ++ [.row 1 ((all.map (clk l cuts)).map irow), .row 1 ((all.map (flr l cuts)).map irow)]) s) ?_ ?_ ?_
  · refine wk_keep [1, 8, 9, 10, 11] ⟨_, 0, by omega, rfl, ?_⟩
    simp
  · rintro J L hJ hL k s ⟨i, hi, rfl, rfl⟩
    by_cases hlt : i < all.length
    · obtain ⟨e, he⟩ : ∃ e, nth all i = e := ⟨_, rfl⟩
      have hee : e.row = [.v (.string e.name), .v (.string e.key)] := rfl
      have ec : ((all.take (i + 1)).map (clk l cuts)).map irow = ((all.take i).map (clk l cuts)).map irow ++ [[.v (.int .i64 (knO (knE (effE l cuts) e.name)).c)]] := by
        rw [take_nth hlt, he]; simp [clk, irow]
      have ef : ((all.take (i + 1)).map (flr l cuts)).map irow = ((all.take i).map (flr l cuts)).map irow ++ [[.v (.int .i64 (knO (knE (effE l cuts) e.name)).f)]] := by
        rw [take_nth hlt, he]; simp [flr, irow]
      have lc : (((all.take i).map (clk l cuts)).map irow).length = i := by simp; omega
      have lf : (((all.take i).map (flr l cuts)).map irow).length = i := by simp; omega
      obtain ⟨A, hA⟩ : ∃ A, A = ((all.take i).map (clk l cuts)).map irow := ⟨_, rfl⟩
      obtain ⟨B, hB⟩ : ∃ B, B = ((all.take i).map (flr l cuts)).map irow := ⟨_, rfl⟩
      rw [← hA] at ec lc
      rw [← hB] at ef lf
      rw [← hA, ← hB]
      have tA : A.take i = A := List.take_of_length_le (by omega)
      have tB : B.take i = B := List.take_of_length_le (by omega)
      simp (implicitDefEqProofs := false) (disch := omega) [List.getElem?_cons_zero, hlt, wrap64, nth_map, he, hee, h54, g54, splice, fillC, lc, lf, tA, tB, Nat.add_assoc]
      repeat' apply And.intro
      all_goals first | omega | kernel_rfl | skip
      subst hJ
      refine wk_pre [3, 5] [1, 8, 9, 10, 11] hw rfl ⟨all.length - (i + 1), by omega, i + 1, by omega, rfl, ?_⟩
      have n5 : ¬ H.length + 5 < H.length := by omega
      have n7 : ¬ H.length + 3 < H.length := by omega
      rw [ec, ef]; simp [phiP, phi, O.ren, n5, n7]
    · have : i = all.length := by omega
      subst this
      simp (implicitDefEqProofs := false) (disch := omega) [List.getElem?_cons_zero, hlt]
      subst hL
      exact at_mk (by simp) (by simp)
  · rintro _ ⟨sl, rfl⟩
    simp (implicitDefEqProofs := false) (disch := omega) [List.getElem?_cons_zero, wrap64]
    refine fin_pre_pvs (ps := [.c (.sl ((all.map (clk l cuts)).map irow)), .c (.sl ((all.map (flr l cuts)).map irow))]) (L' := [.frow 1 ((all.map (clk l cuts)).map irow), .frow 1 ((all.map (flr l cuts)).map irow)]) hw ?_ ?_ ⟨rfl, rfl⟩
    · simp [toPVs, toPV, frz, frz1]
      exact ⟨List.take_of_length_le (by simp), List.take_of_length_le (by simp)⟩
    · simp [frzVs, frz, frz1]
theorem kx27 : Contract Try.prog G0 27 x26 := mkX_data fun p h H => k27 p.1 p.2.1 p.2.2 h.1 h.2.1 h.2.2 H
end Go.Aw.Try

/- Code that is never reached: what has no abstract form stands for what must not run. -/
namespace Go.Aw
open Go
/-- Code that must not be reached. -/
def bad : AC := .cond (.const (.int .i64 0)) .skip .skip
def compC2 (tt : TT) (n : Nat) : Code → Option AC
  | .region r ops draw => match compC tt n (.region r ops draw) with
    | some x => some x
    | none => some bad
  | .seq a b => match compC2 tt n a, compC2 tt n b with
    | some x, some y => some (.seq x y)
    | _, _ => none
  | .cond c a b => match compC2 tt n a, compC2 tt n b with
    | some x, some y => some (.cond c x y)
    | _, _ => none
  | .block id a => match compC2 tt n a with
    | some x => some (.block id x)
    | none => none
  | .loop a => match compC2 tt n a with
    | some x => some (.loop x)
    | none => none
  | c => compC tt n c
def compF2 (tt : TT) (fn : Func) : Option AF :=
  match fn.body with
  | some c => if fn.name == "runtime.NumGoroutine" then none else match compC2 tt fn.ntmps c, compR tt fn.results.toList with
    | some b, some r => some ⟨fn.ntmps, r, b⟩
    | _, _ => none
  | none => none
section
variable {P : Program} {G : Gl} {n : Nat} {b : Base} {ρ : Nat → Option Nat} {st : St} {a : Act} {w : World} {B : Nat} {tt : TT}
theorem bad_no {N0 : Nat} {Q : Qt} (h : wcode P G N0 bad st Q) : False := h
theorem code_sound2 (htab : tabB P tt = true) (hmix : P.follows .mixedOrders = true) {N0 : Nat} (hb : b.good N0) : ∀ (c : Code) (ac : AC), compC2 tt n c = some ac → ∀ (Q : Qt) (ρ : Nat → Option Nat) (st : St) (a : Act) (w : World), wcode P G N0 ac st Q → Sim P G n b ρ st a w → c.wp P (post P G n b Q) a w := by
  intro c
  induction c with
  | skip =>
    intro ac hc Q ρ st a w h hs
    simp only [compC2, compC, Option.some.injEq] at hc; subst hc
    exact wp_skip ⟨ρ, st, hs, h⟩
  | exit id =>
    intro ac hc Q ρ st a w h hs
    simp only [compC2, compC, Option.some.injEq] at hc; subst hc
    exact wp_exit ⟨ρ, st, hs, h⟩
  | ret =>
    intro ac hc Q ρ st a w h hs
    simp only [compC2, compC, Option.some.injEq] at hc; subst hc
    exact wp_ret ⟨ρ, st, hs, h⟩
  | region id ops draw =>
    intro ac hc Q ρ st a w h hs
    simp only [compC2] at hc
    split at hc
    · rename_i x hx
      injection hc with hc; subst hc
      exact code_sound htab hmix hb _ _ hx Q ρ st a w h hs
    · injection hc with hc; subst hc
      exact (bad_no h).elim
  | seq x y ihx ihy =>
    intro ac hc Q ρ st a w h hs
    simp only [compC2] at hc
    split at hc
    · rename_i x' y' hx hy
      injection hc with hc; subst hc
      refine wp_seq (wp_mono (ihx x' hx _ ρ st a w h hs) ?_)
      intro e a' w' hp
      cases e with
      | normal =>
        obtain ⟨ρ', st', hs', h'⟩ := hp
        exact ihy y' hy Q ρ' st' a' w' h' hs'
      | exit id => exact hp
      | ret => exact hp
      | goto l => exact hp
      | panic ch => exact hp
      | outgrown => exact hp
    · cases hc
  | cond c x y ihx ihy =>
    intro ac hc Q ρ st a w h hs
    simp only [compC2] at hc
    split at hc
    · rename_i x' y' hx hy
      injection hc with hc; subst hc
      simp only [wcode] at h
      unfold condP at h
      split at h
      · rename_i t he
        exact wp_cond_split (ev_val hs he) (fun ht => ihx x' hx Q ρ st a w (h.1 ht) hs) (fun ht => ihy y' hy Q ρ st a w (h.2 ht) hs)
      · exact h.elim
    · cases hc
  | block id x ih =>
    intro ac hc Q ρ st a w h hs
    simp only [compC2] at hc
    split at hc
    · rename_i x' hx
      injection hc with hc; subst hc
      refine wp_block (wp_mono (ih x' hx _ ρ st a w h hs) ?_)
      intro e a' w' hp
      cases e with
      | exit id' =>
        obtain ⟨ρ', st', hs', h'⟩ := hp
        simp only [blockQ] at h'
        simp only [Exit.inBlock]
        split
        · rename_i e; rw [if_pos e] at h'; exact ⟨ρ', st', hs', h'⟩
        · rename_i e; rw [if_neg e] at h'; exact ⟨ρ', st', hs', h'⟩
      | normal => exact hp
      | ret => exact hp
      | goto l => exact hp
      | panic ch => exact hp
      | outgrown => exact hp
    · cases hc
  | loop x ih =>
    intro ac hc Q ρ st a w h hs
    simp only [compC2] at hc
    split at hc
    · rename_i x' hx
      injection hc with hc; subst hc
      obtain ⟨I, μ, ⟨st1, hw1, hI⟩, hround⟩ := h
      obtain ⟨ρ1, hs1⟩ := hw1 n b ρ a w hb.1 hb.2 hs
      refine wp_loop_rel (fun s a w => I s ∧ ∃ ρ, Sim P G n b ρ s a w) μ (s₀ := st1) ⟨hI, ρ1, hs1⟩ ?_
      intro s a w ⟨hIs, ρs, hss⟩
      refine wp_mono (ih x' hx _ ρs s a w (hround s hIs) hss) ?_
      intro e a' w' hp
      cases e with
      | normal =>
        obtain ⟨ρ', st', hs', st2, hw2, h2, h3⟩ := hp
        obtain ⟨ρ2, hs2⟩ := hw2 n b ρ' a' w' hb.1 hb.2 hs'
        exact ⟨st2, ⟨h2, ρ2, hs2⟩, h3⟩
      | exit id => exact hp
      | ret => exact hp
      | goto l => exact hp
      | panic ch => exact hp
      | outgrown => exact hp
    · cases hc
  | _ => intro ac hc; simp [compC2, compC] at hc

/-- A function's contract, from its code's precondition. -/
theorem acalls_intro2 (htab : tabB P tt = true) (hmix : P.follows .mixedOrders = true) {f : Nat} {fn : Func} {af : AF} (hf : P.funcs[f]? = some fn) (hc : compF2 tt fn = some af) {args : List V} {H : List O} {R : T → List O → Prop} (hn : Nat.ble args.length af.n = true)
    (h : wcode P G H.length af.body ⟨argSl args, H⟩ (retQ P H.length af.res R)) : ACalls P G f args H R := by
  unfold compF2 at hc
  split at hc
  · rename_i c hb
    split at hc
    · cases hc
    · rename_i hname
      split at hc
      · rename_i bd rs hbd hrs
        injection hc with hc; subst hc
        refine ⟨⟨fn, hf, by rw [hb]; rfl, by simpa using hname⟩, fun ρ w vs hH hG hv => ?_⟩
        refine calls_of_wp hf hb ?_
        let bs : Base := ⟨stab ρ H w, w, ρ, H.length⟩
        have hle : vs.size ≤ fn.ntmps := by rw [hv.1]; exact Nat.le_of_ble_eq_true hn
        · have hsim : Sim P G fn.ntmps bs ρ ⟨argSl args, H⟩ { tmps := vs ++ Array.replicate (fn.ntmps - vs.size) undef, defers := [] } w := by
            refine ⟨hH, by simp; omega, rfl, fun t => ?_, hG, .refl _⟩
            show TRel P _ (argSl args t) _
            unfold argSl
            split
            · rename_i x hx
              have hlt : t < vs.size := by rw [hv.1]; exact lt_of_get hx
              refine hv.2 t x _ hx ?_
              rw [Array.getD_eq_getD_getElem?, Array.getElem?_append, if_pos hlt]
              simp [hlt]
            · trivial
          have hgood : bs.good H.length := ⟨rfl, fun r x hr => (hH.small r x hr).1⟩
          refine wp_mono (code_sound2 htab hmix hgood c bd hbd _ ρ _ _ w h hsim) ?_
          have fin : ∀ ρ' st' a' w', Sim P G fn.ntmps bs ρ' st' a' w' → (match resL st' rs with | some l => Fin P H.length R (resT l) st'.hp | none => False) →
              a'.defers = [] ∧ ∃ v, (results fn a'.tmps).run P w' = .ok v w' ∧ ∃ v' t ρ'' H', Ending.returned v = .returned v' ∧ R t H' ∧ HRel P ρ'' H' w' ∧ TRel P (ctx ρ'' H' w') t v' ∧ (ctx ρ H w).le (ctx ρ'' H' w') := by
            intro ρ' st' a' w' hs' hfin
            refine ⟨hs'.defers, ?_⟩
            split at hfin
            · rename_i l hl
              obtain ⟨vs', q1, q2, q3⟩ := res_run htab hs' fn.results.toList rs l hrs hl
              have hrel : TRel P (ctx ρ' st'.hp w') (resT l) (if h : vs'.toArray.size = 1 then vs'.toArray[0] else .tuple vs'.toArray) := by
                unfold resT
                split
                · rename_i v0
                  match vs', q2, q3 with
                  | [u], _, q3 => exact q3 0 _ _ rfl rfl
                · rename_i hne
                  have : ¬ vs'.toArray.size = 1 := by
                    intro e
                    rw [List.size_toArray, q2] at e
                    obtain ⟨x, hx⟩ := List.length_eq_one_iff.1 e
                    exact hne x hx
                  rw [dif_neg this]
                  exact ⟨_, rfl, by simpa using q2, fun i c v hi hv => q3 i c v hi (by simpa using hv)⟩
              obtain ⟨t', H', ⟨hN, hw⟩, hR⟩ := hfin
              obtain ⟨ρ'', g1, g2, g3, g4⟩ := hw ρ' w' _ hs'.heap hrel
              refine ⟨_, ?_, _, t', ρ'', H', rfl, hR, g1, g2, fun r x hr => ?_, by simpa [ctx] using hN, hs'.le.step.more g4⟩
              · unfold results
                rw [Sem.run_bind, Array.mapM_eq_mapM_toList, Sem.run_map]
                erw [q1]
                rfl
              · show ρ'' r = some x
                rw [g3 r (hH.small r x hr).1]
                exact hs'.le.ρ r x hr
            · exact hfin.elim
          intro e a' w' hp
          cases e with
          | normal => obtain ⟨ρ', st', hs', h'⟩ := hp; exact fin ρ' st' a' w' hs' h'
          | ret => obtain ⟨ρ', st', hs', h'⟩ := hp; exact fin ρ' st' a' w' hs' h'
          | exit id => obtain ⟨ρ', st', hs', h'⟩ := hp; exact h'.elim
          | goto l => exact hp.elim
          | panic ch => exact hp.elim
          | outgrown => exact hp.elim
      · cases hc
  · cases hc


/-- The function's code, the regions that it was given well formed. -/
theorem acalls_pre2 {tt : TT} (htab : tabB P tt = true) (hmix : P.follows .mixedOrders = true) {f : Nat} {fn : Func} {af : AF} (hf : P.funcs[f]? = some fn) (hc : compF2 tt fn = some af) {args : List V} {H : List O} {R : T → List O → Prop} (hn : Nat.ble args.length af.n = true)
    (h : Wf H → wcode P G H.length af.body ⟨argSl args, H⟩ (retQ P H.length af.res R)) : ACalls P G f args H R := by
  have hcal : Callable P f := by
    have hc' := hc
    unfold compF2 at hc'
    split at hc'
    · rename_i c hb
      split at hc'
      · cases hc'
      · rename_i hname
        exact ⟨fn, hf, by rw [hb]; rfl, by simpa using hname⟩
    · cases hc'
  exact ⟨hcal, fun ρ w vs hH => (acalls_intro2 htab hmix hf hc hn (h (wf_of hH))).2 ρ w vs hH⟩
theorem wcodeX_bad {X : XT} {N0 : Nat} {Q : Qt} : wcodeX P G X N0 bad st Q = False := rfl
theorem acallsX2 {X : XT} (hX : GoodX P G X) (htab : tabB P tt = true) (hmix : P.follows .mixedOrders = true) {f : Nat} {fn : Func} {af : AF} (hf : P.funcs[f]? = some fn) (hc : compF2 tt fn = some af) {args : List V} {H : List O} {R : T → List O → Prop} (hn : Nat.ble args.length af.n = true)
    (h : Wf H → wcodeX P G X H.length af.body ⟨argSl args, H⟩ (retQ P H.length af.res R)) : ACalls P G f args H R :=
  acalls_pre2 htab hmix hf hc hn fun hw => wcodeX_sound hX (h hw)

end
end Go.Aw

namespace Go.Aw.Try
open Go Go.Proofs Go.Aw
set_option maxRecDepth 100000
set_option maxHeartbeats 4000000
/-- slices.Min[[]int,int] -/
def b70 : AC := (.seq (.region 0 [
    ⟨(some 2), (.mov (.const (.int .i64 0))), none⟩])
  (.seq (.seq (.region 0 [
    ⟨(some 5), (.mov (.tmp 0)), none⟩,
    ⟨(some 6), (.lenL (.tmp 5)), none⟩,
    ⟨(some 7), (.binI .lss .i64 (.tmp 6) (.const (.int .i64 1))), none⟩])
  (.cond (.tmp 7) (.cond (.const (.int .i64 0)) .skip .skip) .skip))
  (.seq (.region 0 [
    ⟨(some 9), (.mov (.tmp 0)), none⟩,
    ⟨(some 10), (.iaddr 1 (.tmp 9) (.const (.int .i64 0))), none⟩,
    ⟨(some 11), (.load false 1 (.tmp 10)), none⟩,
    ⟨(some 3), (.mov (.tmp 11)), none⟩])
  (.seq (.seq (.region 0 [
    ⟨(some 4), (.mov (.const (.int .i64 1))), none⟩])
  (.block 0 (.loop (.seq (.seq (.region 0 [
    ⟨(some 12), (.mov (.tmp 4)), none⟩,
    ⟨(some 13), (.mov (.tmp 0)), none⟩,
    ⟨(some 14), (.lenL (.tmp 13)), none⟩,
    ⟨(some 15), (.binI .lss .i64 (.tmp 12) (.tmp 14)), none⟩])
  (.cond (.tmp 15) .skip (.exit 0)))
  (.seq (.block 1 (.region 0 [
    ⟨(some 18), (.mov (.tmp 3)), none⟩,
    ⟨(some 19), (.mov (.tmp 0)), none⟩,
    ⟨(some 20), (.mov (.tmp 4)), none⟩,
    ⟨(some 21), (.iaddr 1 (.tmp 19) (.tmp 20)), none⟩,
    ⟨(some 22), (.load false 1 (.tmp 21)), none⟩,
    ⟨(some 23), (.maxmin false .i64 (.tmp 18) (.tmp 22)), none⟩,
    ⟨(some 3), (.mov (.tmp 23)), none⟩]))
  (.region 0 [
    ⟨(some 16), (.mov (.tmp 4)), none⟩,
    ⟨(some 17), (.binI .add .i64 (.tmp 16) (.const (.int .i64 1))), none⟩,
    ⟨(some 4), (.mov (.tmp 17)), none⟩]))))))
  (.seq (.region 0 [
    ⟨(some 24), (.mov (.tmp 3)), none⟩,
    ⟨(some 2), (.mov (.tmp 24)), none⟩])
  .ret)))))
def ir70 : AF := ⟨25, [(.tmp 2)], b70⟩
theorem c70 : compF2 tt Try.f70 = some ir70 := by kernel_rfl
def minI (a b : Int) : Int := if b < a then b else a
def minL : List Int → Int
  | [] => 0
  | x :: l => l.foldl minI x
theorem k70 (l : List Int) (hl : l.length < 68719476736) (h0 : l ≠ []) :
    ACalls Try.prog G0 70 [.c (.d (.sl (l.map irow)))] [] fun t H => t = .int .i64 (minL l) ∧ H = [] := by
  refine acallsX2 (X := []) trivial tab hmix Try.func70 c70 (by rfl) fun hw => ?_
  have hpos : 0 < l.length := List.length_pos_iff.2 h0
  have hn' : ¬ ((l.length : Int) < 1) := by omega
  have hz : nth (l.map irow) 0 = [.v (.int .i64 (nth l 0))] := nth_map irow hpos
  have ht1 : minL (l.take 1) = nth l 0 := by
    cases l with
    | nil => exact absurd rfl h0
    | cons x r => rfl
  simp (implicitDefEqProofs := false) (disch := omega) [List.getElem?_cons_zero, ir70, b70, hn', hz, hpos, wrap64]
  refine loopE (fun k st => ∃ (i : Nat), 1 ≤ i ∧ i ≤ l.length ∧ k = l.length - i ∧
      st = ⟨ofL [(0, .v (.c (.d (.sl (l.map irow))))), (3, .int .i64 (minL (l.take i))), (4, .int .i64 i)], []⟩)
    (fun st => AtS [(3, .int .i64 (minL l))] [] st) ?_ ?_ ?_
  · refine wk_keep [0, 3, 4] ⟨_, 1, by omega, hpos, rfl, ?_⟩
    simp [ht1]
  · rintro J L hJ hL k st ⟨i, h1, hi, rfl, rfl⟩
    by_cases hlt : i < l.length
    · have hst : minL (l.take (i + 1)) = minI (minL (l.take i)) (nth l i) := by
        obtain ⟨j, rfl⟩ : ∃ j, i = j + 1 := ⟨i - 1, by omega⟩
        rw [take_nth hlt]
        cases l with
        | nil => exact absurd rfl h0
        | cons x r => rw [List.take_succ_cons]; simp [minL]
      obtain ⟨y, hy⟩ : ∃ y, nth l i = y := ⟨_, rfl⟩
      rw [hy] at hst
      by_cases h2 : y < minL (l.take i)
      · have hm : minI (minL (l.take i)) y = y := by simp [minI, h2]
        simp (implicitDefEqProofs := false) (disch := omega) [List.getElem?_cons_zero, hlt, nth_map, hy, irow, h2, wrap64]
        subst hJ
        refine wk_keep [0, 3, 4] ⟨l.length - (i + 1), by omega, i + 1, by omega, by omega, rfl, ?_⟩
        rw [hst, hm]; simp [irow]
      · have hm : minI (minL (l.take i)) y = minL (l.take i) := by simp [minI, h2]
        simp (implicitDefEqProofs := false) (disch := omega) [List.getElem?_cons_zero, hlt, nth_map, hy, irow, h2, wrap64]
        subst hJ
        refine wk_keep [0, 3, 4] ⟨l.length - (i + 1), by omega, i + 1, by omega, by omega, rfl, ?_⟩
        rw [hst, hm]; simp [irow]
    · have : i = l.length := by omega
      subst this
      simp (implicitDefEqProofs := false) (disch := omega) [List.getElem?_cons_zero, hlt]
      subst hL
      exact at_mk (by simp) rfl
  · rintro _ ⟨sl, rfl⟩
    simp (implicitDefEqProofs := false) (disch := omega) [List.getElem?_cons_zero, wrap64]
    exact fin_nil ⟨rfl, rfl⟩
noncomputable def x70 : XE := mkX true (fun (p : List Int) => [.c (.sl (p.map irow))]) (fun p => p.length < 68719476736 ∧ p ≠ []) (fun p => .int .i64 (minL p))
theorem irow_inj {a b : Int} (h : irow a = irow b) : a = b := by simpa [irow] using h
theorem kx70 : Contract Try.prog G0 70 x70 := mkX_scal (fun _ => rfl) fun p h => k70 p h.1 h.2
theorem xg70 (l : List Int) (h : l.length < 68719476736) (h0 : l ≠ []) : x70.g [.c (.sl (l.map irow))] = some (True, .int .i64 (minL l)) := mkX_g (fun a b h => by simp at h; exact map_inj' (fun a b => irow_inj) h) l ⟨h, h0⟩
end Go.Aw.Try

namespace Go.Aw.Try
open Go Go.Proofs Go.Aw
set_option maxRecDepth 100000
set_option maxHeartbeats 4000000
theorem idxF_any {E : Type} (pr : E → Bool) (l : List E) (k : Nat) : (0 ≤ idxF pr k l) ↔ l.any pr = true := by
  induction l generalizing k with
  | nil => simp [idxF]
  | cons x r ih =>
    simp only [idxF, List.any_cons]
    by_cases h : pr x = true
    · simp [h]
    · simp [h, ih]
theorem k96 (pr : Cutoff → Bool) (g : Nat) (cps : List (List D)) (xg : XE) (hx : Contract Try.prog G0 g xg) (hsc : xg.sc = true)
    (hxg : ∀ e, xg.g (.agg (Cutoff.row e) :: cps.map fun cs => .c (.ip cs)) = some (True, .bool (pr e))) (es : List Cutoff) (hl : es.length < 4611686018427387904) :
    ACalls Try.prog G0 96 [.c (.d (.sl (es.map Cutoff.row))), .c (.d (.fn g (cps.map .ip)))] [] fun t H => t = .int .i64 (idxF pr 0 es) ∧ H = [] := by
  refine acallsX (X := [(g, xg)]) ⟨hx, trivial⟩ tab hmix Try.func96 c96 (by rfl) fun hw => ?_
  simp (implicitDefEqProofs := false) (disch := omega) [List.getElem?_cons_zero, ir96, b96, wrap64]
  refine loopG (fun k s => ∃ i, i ≤ es.length ∧ k = es.length - i ∧ idxF pr 0 es = idxF pr i (es.drop i) ∧
    s = ⟨ofL [(0, .v (.c (.d (.sl (es.map Cutoff.row))))), (1, .v (.c (.d (.fn g (cps.map .ip))))), (7, .int .i64 es.length), (8, .int .i64 i)], []⟩) ?_ ?_
  · refine wk_keep [0, 1, 7, 8] ⟨_, 0, by omega, rfl, rfl, ?_⟩
    simp
  · rintro J hJ k s ⟨i, hi, rfl, hid, rfl⟩
    by_cases hlt : i < es.length
    · have hst := idxF_step pr hlt
      simp (implicitDefEqProofs := false) (disch := omega) [List.getElem?_cons_zero, hlt, wrap64, nth_map, (crow _).len, take_of_len, (crow _).mapO, (crow _).tk, (crow _).nrm, borRow, (crow _).cl, borV_map, osR_map, frz_map, mapO_ipc, hsc, hxg]
      refine ⟨fun h => ?_, fun h => ?_⟩
      · rw [if_pos h] at hst
        exact fin_nil ⟨by rw [hid, hst]; rfl, rfl⟩
      · rw [if_neg (by simp [h])] at hst
        subst hJ
        refine wk_keep [0, 1, 7, 8] ⟨es.length - (i + 1), by omega, i + 1, by omega, rfl, by rw [hid, hst], ?_⟩
        simp
    · simp (implicitDefEqProofs := false) (disch := omega) [List.getElem?_cons_zero, hlt]
      rw [hid, List.drop_eq_nil_of_le (by omega)]
      exact fin_nil ⟨rfl, rfl⟩
def pr81 (m : Member) (c : Cutoff) : Bool := decide (c.err = 22) && decide (c.who = m.name)
theorem k81 (c : Cutoff) (m : Member) : ACalls Try.prog G0 81 [.agg (c.row.map .d), .c (.d (.ip m.row))] [] fun t H => t = .bool (pr81 m c) ∧ H = [] := by
  refine acallsX (X := []) trivial tab hmix Try.func81 c81 (by rfl) fun hw => ?_
  have hce : c.row = [.v (.string c.who), .v (.int .i64 c.n), .v (.int .i64 c.err)] := rfl
  have hme : m.row = [.v (.string m.name), .v (.string m.key)] := rfl
  unfold pr81
  by_cases h1 : c.err = 22
  · by_cases h2 : c.who = m.name
    · simp (implicitDefEqProofs := false) (disch := omega) [List.getElem?_cons_zero, ir81, b81, hce, hme, h1, h2, binSF]
      exact fin_nil ⟨rfl, rfl⟩
    · simp (implicitDefEqProofs := false) (disch := omega) [List.getElem?_cons_zero, ir81, b81, hce, hme, h1, h2, binSF]
      exact fin_nil ⟨rfl, rfl⟩
  · simp (implicitDefEqProofs := false) (disch := omega) [List.getElem?_cons_zero, ir81, b81, hce, hme, h1, binSF]
    exact fin_nil ⟨rfl, rfl⟩
noncomputable def x81 (m : Member) : XE := mkX true (fun (c : Cutoff) => [.agg c.row, .c (.ip m.row)]) (fun _ => True) (fun c => .bool (pr81 m c))
theorem kx81 (m : Member) : Contract Try.prog G0 81 (x81 m) := mkX_scal (fun _ => rfl) fun c _ => k81 c m
theorem xg81 (m : Member) (c : Cutoff) : (x81 m).g (.agg c.row :: [m.row].map fun cs => .c (.ip cs)) = some (True, .bool (pr81 m c)) := mkX_g (fun a b h => by simp at h; exact Cutoff.row_inj h) c trivial
noncomputable def x96 : XE := mkX true (fun (p : List Cutoff × Member) => [.c (.sl (p.1.map Cutoff.row)), .c (.fn 81 [.ip p.2.row])]) (fun p => p.1.length < 68719476736) (fun p => .int .i64 (idxF (pr81 p.2) 0 p.1))
theorem injCM (a b : List Cutoff × Member) (h : [PVo.c (D.sl (a.1.map Cutoff.row)), PVo.c (.fn 81 [.ip a.2.row])] = [PVo.c (.sl (b.1.map Cutoff.row)), .c (.fn 81 [.ip b.2.row])]) : a = b := by
  simp at h; exact Prod.ext (crows_inj h.1) (mrow_inj h.2)
theorem kx96 : Contract Try.prog G0 96 x96 := mkX_scal (fun _ => rfl) fun p h => k96 (pr81 p.2) 81 [p.2.row] (x81 p.2) (kx81 _) rfl (xg81 _) p.1 (by omega)
theorem xg96 (cuts : List Cutoff) (m : Member) (h : cuts.length < 68719476736) : x96.g [.c (.sl (cuts.map Cutoff.row)), .c (.fn 81 [.ip m.row])] = some (True, .int .i64 (idxF (pr81 m) 0 cuts)) := mkX_g injCM (cuts, m) h
theorem k80 (cuts : List Cutoff) (m : Member) (hc : cuts.length < 68719476736) : ACalls Try.prog G0 80 [.c (.d (.sl (cuts.map Cutoff.row))), .c (.d (.fn 81 [.ip m.row]))] [] fun t H => t = .bool (goneBy cuts m.name) ∧ H = [] := by
  have h96 : x96.sc = true := rfl
  have g96 := xg96 cuts m hc
  refine acallsX (X := [(96, x96)]) ⟨kx96, trivial⟩ tab hmix Try.func80 c80 (by rfl) fun hw => ?_
  have ha := idxF_any (pr81 m) cuts 0
  have hg : cuts.any (pr81 m) = goneBy cuts m.name := rfl
  rw [hg] at ha
  by_cases h : 0 ≤ idxF (pr81 m) 0 cuts
  · rw [ha.1 h]
    simp (implicitDefEqProofs := false) (disch := omega) [List.getElem?_cons_zero, ir80, b80, h96, g96, h]
    exact fin_nil ⟨rfl, rfl⟩
  · have : goneBy cuts m.name = false := by
      cases hb : goneBy cuts m.name
      · rfl
      · exact absurd (ha.2 hb) h
    rw [this]
    simp (implicitDefEqProofs := false) (disch := omega) [List.getElem?_cons_zero, ir80, b80, h96, g96, h]
    exact fin_nil ⟨rfl, rfl⟩
noncomputable def x80 : XE := mkX true (fun (p : List Cutoff × Member) => [.c (.sl (p.1.map Cutoff.row)), .c (.fn 81 [.ip p.2.row])]) (fun p => p.1.length < 68719476736) (fun p => .bool (goneBy p.1 p.2.name))
theorem kx80 : Contract Try.prog G0 80 x80 := mkX_scal (fun _ => rfl) fun p h => k80 p.1 p.2 h
theorem xg80 (cuts : List Cutoff) (m : Member) (h : cuts.length < 68719476736) : x80.g [.c (.sl (cuts.map Cutoff.row)), .c (.fn 81 [.ip m.row])] = some (True, .bool (goneBy cuts m.name)) := mkX_g injCM (cuts, m) h
theorem k67 (m : Member) (cuts : List Cutoff) (hc : cuts.length < 68719476736) : ACalls Try.prog G0 67 [.agg (m.row.map .d), .c (.d (.sl (cuts.map Cutoff.row)))] [] fun t H => t = .bool (goneBy cuts m.name) ∧ H = [] := by
  have h80 : x80.sc = true := rfl
  have g80 := xg80 cuts m hc
  refine acallsX (X := [(80, x80)]) ⟨kx80, trivial⟩ tab hmix Try.func67 c67 (by rfl) fun hw => ?_
  have hme : m.row = [.v (.string m.name), .v (.string m.key)] := rfl
  rw [hme] at g80 ⊢
  simp (implicitDefEqProofs := false) (disch := omega) [List.getElem?_cons_zero, ir67, b67, h80, g80]
  exact fin_nil ⟨rfl, rfl⟩
noncomputable def x67 : XE := mkX true (fun (p : Member × List Cutoff) => [.agg p.1.row, .c (.sl (p.2.map Cutoff.row))]) (fun p => p.2.length < 68719476736) (fun p => .bool (goneBy p.2 p.1.name))
theorem kx67 : Contract Try.prog G0 67 x67 := mkX_scal (fun _ => rfl) fun p h => k67 p.1 p.2 h
theorem xg67 (m : Member) (cuts : List Cutoff) (h : cuts.length < 68719476736) : x67.g [.agg m.row, .c (.sl (cuts.map Cutoff.row))] = some (True, .bool (goneBy cuts m.name)) := mkX_g (fun a b h => by simp at h; exact Prod.ext (mrow_inj h.1) (crows_inj h.2)) (m, cuts) h
end Go.Aw.Try

namespace Go.Aw.Try
open Go Go.Proofs Go.Aw
set_option maxRecDepth 100000
set_option maxHeartbeats 4000000
def pr83 (c : Cutoff) (e : Edit) : Bool := decide (e.id.a = c.who) && decide (c.n ≤ e.id.n)
theorem k83 (e : Edit) (c : Cutoff) : ACalls Try.prog G0 83 [.agg (e.row.map .d), .c (.d (.ip c.row))] [] fun t H => t = .bool (pr83 c e) ∧ H = [] := by
  refine acallsX (X := []) trivial tab hmix Try.func83 c83 (by rfl) fun hw => ?_
  have hce : c.row = [.v (.string c.who), .v (.int .i64 c.n), .v (.int .i64 c.err)] := rfl
  have hee : e.row = [.v (.string e.id.a), .v (.int .i64 e.id.n), .v (.int .i64 e.clock), .v (.int .i64 e.floor), .sl (e.deps.map Id.row), .v (.int .i64 e.kind), .v (.string e.node.a), .v (.int .i64 e.node.n), .v (.string e.parent.a), .v (.int .i64 e.parent.n), .v (.bool e.neg), .v (.string e.num), .v (.string e.den), .v (.string e.field), .v (.string e.value), .v (.string e.target.a), .v (.int .i64 e.target.n), .v (.string e.who)] := rfl
  unfold pr83
  by_cases h1 : e.id.a = c.who
  · by_cases h2 : c.n ≤ e.id.n
    · simp (implicitDefEqProofs := false) (disch := omega) [List.getElem?_cons_zero, ir83, b83, hce, hee, h1, h2, binSF]
      exact fin_nil ⟨rfl, rfl⟩
    · simp (implicitDefEqProofs := false) (disch := omega) [List.getElem?_cons_zero, ir83, b83, hce, hee, h1, h2, binSF]
      exact fin_nil ⟨rfl, rfl⟩
  · simp (implicitDefEqProofs := false) (disch := omega) [List.getElem?_cons_zero, ir83, b83, hce, hee, h1, binSF]
    exact fin_nil ⟨rfl, rfl⟩
noncomputable def x83 (c : Cutoff) : XE := mkX true (fun (e : Edit) => [.agg e.row, .c (.ip c.row)]) (fun _ => True) (fun e => .bool (pr83 c e))
theorem kx83 (c : Cutoff) : Contract Try.prog G0 83 (x83 c) := mkX_scal (fun _ => rfl) fun e _ => k83 e c
theorem xg83 (c : Cutoff) (e : Edit) : (x83 c).g (.agg e.row :: [c.row].map fun cs => .c (.ip cs)) = some (True, .bool (pr83 c e)) := mkX_g (fun a b h => by simp at h; exact Edit.row_inj h) e trivial
theorem injFK (k : Nat) (a b : List Edit × Cutoff) (h : [PVo.c (D.sl (a.1.map Edit.row)), PVo.c (.fn k [.ip a.2.row])] = [PVo.c (.sl (b.1.map Edit.row)), .c (.fn k [.ip b.2.row])]) : a = b := by
  simp at h; exact Prod.ext (rows_inj h.1) (Cutoff.row_inj h.2)
noncomputable def x60w : XE := mkX true (fun (p : List Edit × Cutoff) => [.c (.sl (p.1.map Edit.row)), .c (.fn 83 [.ip p.2.row])]) (fun p => p.1.length < 68719476736) (fun p => .int .i64 (idxF (pr83 p.2) 0 p.1))
theorem kx60w : Contract Try.prog G0 60 x60w := mkX_scal (fun _ => rfl) fun p h => k60 Edit.row erow (pr83 p.2) 83 [p.2.row] (x83 p.2) (kx83 _) rfl (xg83 _) p.1 (by omega)
theorem xg60w (l : List Edit) (c : Cutoff) (h : l.length < 68719476736) : x60w.g [.c (.sl (l.map Edit.row)), .c (.fn 83 [.ip c.row])] = some (True, .int .i64 (idxF (pr83 c) 0 l)) := mkX_g (injFK 83) (l, c) h
theorem k82 (l : List Edit) (c : Cutoff) (hl : l.length < 68719476736) : ACalls Try.prog G0 82 [.c (.d (.sl (l.map Edit.row))), .c (.d (.fn 83 [.ip c.row]))] [] fun t H => t = .bool (wholeR l c) ∧ H = [] := by
  have h60 : x60w.sc = true := rfl
  have g60 := xg60w l c hl
  refine acallsX (X := [(60, x60w)]) ⟨kx60w, trivial⟩ tab hmix Try.func82 c82 (by rfl) fun hw => ?_
  have ha := idxF_any (pr83 c) l 0
  have hg : l.any (pr83 c) = wholeR l c := rfl
  rw [hg] at ha
  by_cases h : 0 ≤ idxF (pr83 c) 0 l
  · rw [ha.1 h]
    simp (implicitDefEqProofs := false) (disch := omega) [List.getElem?_cons_zero, ir82, b82, h60, g60, h]
    exact fin_nil ⟨rfl, rfl⟩
  · have : wholeR l c = false := by
      cases hb : wholeR l c
      · rfl
      · exact absurd (ha.2 hb) h
    rw [this]
    simp (implicitDefEqProofs := false) (disch := omega) [List.getElem?_cons_zero, ir82, b82, h60, g60, h]
    exact fin_nil ⟨rfl, rfl⟩
noncomputable def x82 : XE := mkX true (fun (p : List Edit × Cutoff) => [.c (.sl (p.1.map Edit.row)), .c (.fn 83 [.ip p.2.row])]) (fun p => p.1.length < 68719476736) (fun p => .bool (wholeR p.1 p.2))
theorem kx82 : Contract Try.prog G0 82 x82 := mkX_scal (fun _ => rfl) fun p h => k82 p.1 p.2 h
theorem xg82 (l : List Edit) (c : Cutoff) (h : l.length < 68719476736) : x82.g [.c (.sl (l.map Edit.row)), .c (.fn 83 [.ip c.row])] = some (True, .bool (wholeR l c)) := mkX_g (injFK 83) (l, c) h
theorem k68 (l : List Edit) (c : Cutoff) (hl : l.length < 68719476736) : ACalls Try.prog G0 68 [.c (.d (.sl (l.map Edit.row))), .agg (c.row.map .d)] [] fun t H => t = .bool (wholeR l c || decide (c.n = 0)) ∧ H = [] := by
  have h82 : x82.sc = true := rfl
  have g82 := xg82 l c hl
  refine acallsX (X := [(82, x82)]) ⟨kx82, trivial⟩ tab hmix Try.func68 c68 (by rfl) fun hw => ?_
  have hce : c.row = [.v (.string c.who), .v (.int .i64 c.n), .v (.int .i64 c.err)] := rfl
  rw [hce] at g82 ⊢
  by_cases h1 : c.n = 0
  · simp (implicitDefEqProofs := false) (disch := omega) [List.getElem?_cons_zero, ir68, b68, h82, h1]
    exact fin_nil ⟨by simp, rfl⟩
  · simp (implicitDefEqProofs := false) (disch := omega) [List.getElem?_cons_zero, ir68, b68, h82, g82, h1]
    exact fin_nil ⟨by simp, rfl⟩
theorem kx68 : Contract Try.prog G0 68 x72 := mkX_scal (fun _ => rfl) fun p h => k68 p.1 p.2 h
def pr61 (x : Id) (e : Edit) : Bool := decide (e.id.a = x.a ∧ e.id.n = x.n)
theorem k61 (e : Edit) (x : Id) : ACalls Try.prog G0 61 [.agg (e.row.map .d), .c (.d (.ip x.row))] [] fun t H => t = .bool (pr61 x e) ∧ H = [] := by
  refine acallsX (X := []) trivial tab hmix Try.func61 c61 (by rfl) fun hw => ?_
  have hxe : x.row = [.v (.string x.a), .v (.int .i64 x.n)] := rfl
  have hee : e.row = [.v (.string e.id.a), .v (.int .i64 e.id.n), .v (.int .i64 e.clock), .v (.int .i64 e.floor), .sl (e.deps.map Id.row), .v (.int .i64 e.kind), .v (.string e.node.a), .v (.int .i64 e.node.n), .v (.string e.parent.a), .v (.int .i64 e.parent.n), .v (.bool e.neg), .v (.string e.num), .v (.string e.den), .v (.string e.field), .v (.string e.value), .v (.string e.target.a), .v (.int .i64 e.target.n), .v (.string e.who)] := rfl
  unfold pr61
  by_cases h1 : e.id.a = x.a
  · by_cases h2 : e.id.n = x.n
    · simp (implicitDefEqProofs := false) (disch := omega) [List.getElem?_cons_zero, ir61, b61, hxe, hee, h1, h2, cellsEq, skEq]
      exact fin_nil ⟨rfl, rfl⟩
    · simp (implicitDefEqProofs := false) (disch := omega) [List.getElem?_cons_zero, ir61, b61, hxe, hee, h1, h2, cellsEq, skEq]
      exact fin_nil ⟨rfl, rfl⟩
  · simp (implicitDefEqProofs := false) (disch := omega) [List.getElem?_cons_zero, ir61, b61, hxe, hee, h1, cellsEq, skEq]
    exact fin_nil ⟨rfl, rfl⟩
theorem idr_inj {a b : Id} (h : a.row = b.row) : a = b := by
  cases a; cases b; simp [Id.row] at h; obtain ⟨rfl, rfl⟩ := h; rfl
noncomputable def x61 (x : Id) : XE := mkX true (fun (e : Edit) => [.agg e.row, .c (.ip x.row)]) (fun _ => True) (fun e => .bool (pr61 x e))
theorem kx61 (x : Id) : Contract Try.prog G0 61 (x61 x) := mkX_scal (fun _ => rfl) fun e _ => k61 e x
theorem xg61 (x : Id) (e : Edit) : (x61 x).g (.agg e.row :: [x.row].map fun cs => .c (.ip cs)) = some (True, .bool (pr61 x e)) := mkX_g (fun a b h => by simp at h; exact Edit.row_inj h) e trivial
theorem injFI (k : Nat) (a b : List Edit × Id) (h : [PVo.c (D.sl (a.1.map Edit.row)), PVo.c (.fn k [.ip a.2.row])] = [PVo.c (.sl (b.1.map Edit.row)), .c (.fn k [.ip b.2.row])]) : a = b := by
  simp at h; exact Prod.ext (rows_inj h.1) (idr_inj h.2)
noncomputable def x60f : XE := mkX true (fun (p : List Edit × Id) => [.c (.sl (p.1.map Edit.row)), .c (.fn 61 [.ip p.2.row])]) (fun p => p.1.length < 68719476736) (fun p => .int .i64 (idxF (pr61 p.2) 0 p.1))
theorem kx60f : Contract Try.prog G0 60 x60f := mkX_scal (fun _ => rfl) fun p h => k60 Edit.row erow (pr61 p.2) 61 [p.2.row] (x61 p.2) (kx61 _) rfl (xg61 _) p.1 (by omega)
theorem xg60f (l : List Edit) (c : Id) (h : l.length < 68719476736) : x60f.g [.c (.sl (l.map Edit.row)), .c (.fn 61 [.ip c.row])] = some (True, .int .i64 (idxF (pr61 c) 0 l)) := mkX_g (injFI 61) (l, c) h
/-- The index of the edit with that id, 0 if there is none. -/
def findI (l : List Edit) (x : Id) : Int := if idxF (pr61 x) 0 l < 0 then 0 else idxF (pr61 x) 0 l
def findT (l : List Edit) (x : Id) : T := .tup [I (findI l x), .c (.d (.v (.bool (decide (0 ≤ idxF (pr61 x) 0 l)))))]
theorem k35 (l : List Edit) (x : Id) (hl : l.length < 68719476736) : ACalls Try.prog G0 35 [.c (.d (.sl (l.map Edit.row))), .agg (x.row.map .d)] [] fun t H => t = findT l x ∧ H = [] := by
  have h60 : x60f.sc = true := rfl
  have g60 := xg60f l x hl
  refine acallsX (X := [(60, x60f)]) ⟨kx60f, trivial⟩ tab hmix Try.func35 c35 (by rfl) fun hw => ?_
  have hxe : x.row = [.v (.string x.a), .v (.int .i64 x.n)] := rfl
  rw [hxe] at g60 ⊢
  by_cases h1 : idxF (pr61 x) 0 l < 0
  · have h2 : ¬ 0 ≤ idxF (pr61 x) 0 l := by omega
    simp (implicitDefEqProofs := false) (disch := omega) [List.getElem?_cons_zero, ir35, b35, h60, g60, h1, h2]
    exact fin_nil ⟨by simp [findT, findI, h1, h2], rfl⟩
  · have h2 : 0 ≤ idxF (pr61 x) 0 l := by omega
    simp (implicitDefEqProofs := false) (disch := omega) [List.getElem?_cons_zero, ir35, b35, h60, g60, h1, h2]
    exact fin_nil ⟨by simp [findT, findI, h1, h2], rfl⟩
theorem injLI (a b : List Edit × Id) (h : [PVo.c (D.sl (a.1.map Edit.row)), PVo.agg a.2.row] = [PVo.c (.sl (b.1.map Edit.row)), .agg b.2.row]) : a = b := by
  simp at h; exact Prod.ext (rows_inj h.1) (idr_inj h.2)
noncomputable def x35 : XE := mkX true (fun (p : List Edit × Id) => [.c (.sl (p.1.map Edit.row)), .agg p.2.row]) (fun p => p.1.length < 68719476736) (fun p => findT p.1 p.2)
theorem kx35 : Contract Try.prog G0 35 x35 := mkX_scal (fun _ => rfl) fun p h => k35 p.1 p.2 h
theorem xg35 (l : List Edit) (x : Id) (h : l.length < 68719476736) : x35.g [.c (.sl (l.map Edit.row)), .agg x.row] = some (True, findT l x) := mkX_g injLI (l, x) h
theorem idxF_find {E : Type} [Inhabited E] (pr : E → Bool) : ∀ (l : List E) (k : Nat), (idxF pr k l < 0 ∧ l.find? pr = none) ∨ ∃ i : Nat, idxF pr k l = ((k + i : Nat) : Int) ∧ i < l.length ∧ l.find? pr = some (nth l i)
  | [], k => .inl ⟨by simp [idxF], rfl⟩
  | x :: r, k => by
    simp only [idxF, List.find?_cons]
    by_cases h : pr x = true
    · rw [if_pos h, h]; exact .inr ⟨0, by simp, by simp, rfl⟩
    · rw [if_neg h]
      have h' : pr x = false := by simpa using h
      rw [h']
      rcases idxF_find pr r (k + 1) with ⟨h1, h2⟩ | ⟨i, h1, h2, h3⟩
      · exact .inl ⟨h1, h2⟩
      · exact .inr ⟨i + 1, by rw [h1]; congr 1; omega, by simp; omega, by rw [h3]; rfl⟩
theorem k69 (l : List Edit) (c : Cutoff) (hl : l.length < 68719476736) : ACalls Try.prog G0 69 [.c (.d (.sl (l.map Edit.row))), .agg (c.row.map .d)] [] fun t H => t = .int .i64 (backE l c) ∧ H = [] := by
  have h35 : x35.sc = true := rfl
  have g35 : x35.g [.c (.sl (l.map Edit.row)), .agg [.v (.string c.who), .v (.int .i64 c.n)]] = some (True, findT l (Id.ofC c)) := xg35 l (Id.ofC c) hl
  refine acallsX (X := [(35, x35)]) ⟨kx35, trivial⟩ tab hmix Try.func69 c69 (by rfl) fun hw => ?_
  have hce : c.row = [.v (.string c.who), .v (.int .i64 c.n), .v (.int .i64 c.err)] := rfl
  rw [hce]
  have hb : backE l c = match l.find? (pr61 (Id.ofC c)) with | some e => e.clock | none => 0 := rfl
  unfold findT findI at g35
  rcases idxF_find (pr61 (Id.ofC c)) l 0 with ⟨h1, h2⟩ | ⟨i, h1, h2, h3⟩
  · rw [h2] at hb
    have h4 : ¬ 0 ≤ idxF (pr61 (Id.ofC c)) 0 l := by omega
    simp only [h1, h4, if_true, decide_false] at g35
    simp (implicitDefEqProofs := false) (disch := omega) [List.getElem?_cons_zero, ir69, b69, h35, g35, fillC, splice]
    repeat' apply And.intro
    all_goals first | omega | kernel_rfl | skip
    exact fin_nil ⟨by rw [hb]; rfl, rfl⟩
  · rw [h3] at hb
    rw [Nat.zero_add] at h1
    rw [h1] at g35
    have h4 : ¬ ((i : Int) < 0) := by omega
    have h5 : (0 : Int) ≤ i := by omega
    simp only [h4, h5, if_false, decide_true] at g35
    obtain ⟨e, he⟩ : ∃ e, nth l i = e := ⟨_, rfl⟩
    rw [he] at hb
    have hee : e.row = [.v (.string e.id.a), .v (.int .i64 e.id.n), .v (.int .i64 e.clock), .v (.int .i64 e.floor), .sl (e.deps.map Id.row), .v (.int .i64 e.kind), .v (.string e.node.a), .v (.int .i64 e.node.n), .v (.string e.parent.a), .v (.int .i64 e.parent.n), .v (.bool e.neg), .v (.string e.num), .v (.string e.den), .v (.string e.field), .v (.string e.value), .v (.string e.target.a), .v (.int .i64 e.target.n), .v (.string e.who)] := rfl
    simp (implicitDefEqProofs := false) (disch := omega) [List.getElem?_cons_zero, ir69, b69, h35, g35, fillC, splice, nth_map, he, hee, h2]
    repeat' apply And.intro
    all_goals first | omega | kernel_rfl | skip
    exact fin_nil ⟨by rw [hb]; rfl, rfl⟩
theorem kx69 : Contract Try.prog G0 69 x73 := mkX_scal (fun _ => rfl) fun p h => k69 p.1 p.2 h
end Go.Aw.Try

namespace Go.Aw.Try
open Go Go.Proofs Go.Aw
set_option maxRecDepth 100000
set_option maxHeartbeats 4000000
/-- What is known of the members that stay. -/
def stay (f : Member → Int) (all : List Member) (cuts : List Cutoff) : List Int := (all.filter fun m => !goneBy cuts m.name).map f
def badC (l : List Edit) (c : Cutoff) : Bool := decide (c.err = 22) && !(wholeR l c || decide (c.n = 0))
def backs (l : List Edit) (cuts : List Cutoff) : List Int := (cuts.filter fun c => decide (c.err = 19)).map (backE l)
def leastE (f : Member → Int) (l : List Edit) (all : List Member) (cuts : List Cutoff) : Int :=
  if stay f all cuts = [] then 0 else if cuts.any (badC l) = true then 0 else minL (stay f all cuts ++ backs l cuts)
theorem stay_len (f : Member → Int) (all : List Member) (cuts : List Cutoff) : (stay f all cuts).length ≤ all.length := by
  unfold stay; rw [List.length_map]; exact List.length_filter_le _ _
theorem backs_len (l : List Edit) (cuts : List Cutoff) : (backs l cuts).length ≤ cuts.length := by
  unfold backs; rw [List.length_map]; exact List.length_filter_le _ _
theorem take_any {α : Type} [Inhabited α] (p : α → Bool) {l : List α} {i : Nat} (h : i < l.length) : (l.take (i + 1)).any p = ((l.take i).any p || p (nth l i)) := by
  rw [take_nth h, List.any_append]; simp
theorem any_of_nth {α : Type} [Inhabited α] {p : α → Bool} {l : List α} {i : Nat} (h : i < l.length) (hp : p (nth l i) = true) : l.any p = true :=
  List.any_eq_true.2 ⟨_, nth_mem h, hp⟩
theorem k55 (f : Member → Int) (l : List Edit) (all : List Member) (cuts : List Cutoff) (of : List Int) (hof : of = all.map f) (hl : l.length < 68719476736) (ha : all.length < 34359738368) (hc : cuts.length < 34359738368) :
    ACalls Try.prog G0 55 [.c (.d (.sl (l.map Edit.row))), .c (.d (.sl (all.map Member.row))), .c (.d (.sl (cuts.map Cutoff.row))), .c (.d (.sl (of.map irow)))] [] fun t H => t = .int .i64 (leastE f l all cuts) ∧ H = [] := by
  have h67 : x67.sc = true := rfl
  have h68 : x72.sc = true := rfl
  have h69 : x73.sc = true := rfl
  have h70 : x70.sc = true := rfl
  have ofl : of.length = all.length := by rw [hof]; simp
  refine acallsX (X := [(67, x67), (68, x72), (69, x73), (70, x70)]) ⟨kx67, kx68, kx69, kx70, trivial⟩ tab hmix Try.func55 c55 (by rfl) fun hw => ?_
  simp (implicitDefEqProofs := false) (disch := omega) [List.getElem?_cons_zero, ir55, b55, b55_0, b55_1, b55_2, wrap64]
  refine loopE (fun k s => ∃ (i : Nat) (A : List Int), i ≤ all.length ∧ k = all.length - i ∧ A = stay f (all.take i) cuts ∧ A.length ≤ i ∧
      s = ⟨ofL [(0, .v (.c (.d (.sl (l.map Edit.row))))), (2, .v (.c (.d (.sl (cuts.map Cutoff.row))))), (3, .v (.c (.d (.sl (of.map irow))))), (9, .v (.c (.os 0 1 0 A.length))), (14, .v (.c (.d (.sl (all.map Member.row))))), (15, .int .i64 all.length), (16, .int .i64 i)],
        [.row 1 (A.map irow)]⟩)
    (fun s => AtS [(0, .v (.c (.d (.sl (l.map Edit.row))))), (2, .v (.c (.d (.sl (cuts.map Cutoff.row))))), (9, .v (.c (.os 0 1 0 (stay f all cuts).length)))] [.row 1 ((stay f all cuts).map irow)] s) ?_ ?_ ?_
  · refine wk_nil_os 9 1 (by omega) (by simp) ?_
    refine wk_keep [0, 2, 3, 9, 14, 15, 16] ⟨_, 0, [], by omega, rfl, rfl, by simp, ?_⟩
    simp
  · rintro J L hJ hL k s ⟨i, A, hi, rfl, hA, hAl, rfl⟩
    by_cases hlt : i < all.length
    · obtain ⟨m, hm⟩ : ∃ m, nth all i = m := ⟨_, rfl⟩
      have hme : m.row = [.v (.string m.name), .v (.string m.key)] := rfl
      have hst : stay f (all.take (i + 1)) cuts = if goneBy cuts m.name = true then A else A ++ [f m] := by
        rw [hA]; unfold stay
        rw [take_nth hlt, List.filter_append, hm]
        cases h : goneBy cuts m.name <;> simp [h]
      have hoi : nth (of.map irow) i = [.v (.int .i64 (f m))] := by
        rw [hof]
        rw [nth_map irow (by simpa using hlt), nth_map f hlt, hm]; rfl
      have g67 := xg67 m cuts (by omega)
      rw [hme] at g67
      have hiof : i < of.length := by omega
      have tA : (A.map irow).take A.length = A.map irow := List.take_of_length_le (by simp)
      by_cases hg : goneBy cuts m.name = true
      · rw [if_pos hg] at hst
        rw [hg] at g67
        simp (implicitDefEqProofs := false) (disch := omega) [List.getElem?_cons_zero, hlt, nth_map, hm, hme, h67, g67, splice, wrap64]
        subst hJ
        refine wk_nil [0] [0, 2, 3, 9, 14, 15, 16] rfl ⟨all.length - (i + 1), by omega, i + 1, A, by omega, rfl, by rw [hst], by omega, ?_⟩
        simp [phi, O.ren]
      · rw [if_neg hg] at hst
        have hg' : goneBy cuts m.name = false := by simpa using hg
        rw [hg'] at g67
        simp (implicitDefEqProofs := false) (disch := omega) [List.getElem?_cons_zero, hlt, nth_map, hm, hme, h67, g67, hoi, hiof, splice, fillC, tA, wrap64]
        repeat' apply And.intro
        all_goals first | omega | kernel_rfl | skip
        subst hJ
        refine wk_nil [3] [0, 2, 3, 9, 14, 15, 16] rfl ⟨all.length - (i + 1), by omega, i + 1, A ++ [f m], by omega, rfl, by rw [hst], by simp; omega, ?_⟩
        simp [phi, O.ren, irow]
    · have : i = all.length := by omega
      subst this
      rw [List.take_length] at hA
      subst hA
      simp (implicitDefEqProofs := false) (disch := omega) [List.getElem?_cons_zero, hlt]
      subst hL
      exact at_mk (by simp) rfl
  · rintro _ ⟨sl, rfl⟩
    obtain ⟨S, hS⟩ : ∃ S, S = stay f all cuts := ⟨_, rfl⟩
    have hSl : S.length ≤ all.length := by rw [hS]; exact stay_len _ _ _
    have hle : leastE f l all cuts = if S = [] then 0 else if cuts.any (badC l) = true then 0 else minL (S ++ backs l cuts) := by rw [hS]; rfl
    rw [← hS]
    by_cases hS0 : S = []
    · rw [if_pos hS0] at hle
      simp (implicitDefEqProofs := false) (disch := omega) [List.getElem?_cons_zero, b55_3, hS0]
      exact fin_nil ⟨by rw [hle]; rfl, rfl⟩
    · rw [if_neg hS0] at hle
      have hSp : ¬ S.length = 0 := by simpa using hS0
      simp (implicitDefEqProofs := false) (disch := omega) [List.getElem?_cons_zero, b55_3, b55_4, hS0, hSp]
      refine loopE (fun k s => ∃ (i : Nat) (A : List Int), i ≤ cuts.length ∧ k = cuts.length - i ∧ A = S ++ backs l (cuts.take i) ∧ A.length ≤ S.length + i ∧ (cuts.take i).any (badC l) = false ∧
          s = ⟨ofL [(0, .v (.c (.d (.sl (l.map Edit.row))))), (9, .v (.c (.os 0 1 0 A.length))), (36, .v (.c (.d (.sl (cuts.map Cutoff.row))))), (37, .int .i64 cuts.length), (38, .int .i64 i)],
            [.row 1 (A.map irow)]⟩)
        (fun s => cuts.any (badC l) = false ∧ AtS [(9, .v (.c (.os 0 1 0 (S ++ backs l cuts).length)))] [.row 1 ((S ++ backs l cuts).map irow)] s) ?_ ?_ ?_
      · refine wk_keep [0, 9, 36, 37, 38] ⟨_, 0, S, by omega, rfl, by simp [backs], by omega, rfl, ?_⟩
        simp
      · rintro J L hJ hL k s ⟨i, A, hi, rfl, hA, hAl, hb, rfl⟩
        by_cases hlt : i < cuts.length
        · obtain ⟨c, hcc⟩ : ∃ c, nth cuts i = c := ⟨_, rfl⟩
          have hce : c.row = [.v (.string c.who), .v (.int .i64 c.n), .v (.int .i64 c.err)] := rfl
          have hst : S ++ backs l (cuts.take (i + 1)) = if c.err = 19 then A ++ [backE l c] else A := by
            rw [hA]; unfold backs
            rw [take_nth hlt, List.filter_append, hcc]
            by_cases h : c.err = 19 <;> simp [h]
          have hbs : (cuts.take (i + 1)).any (badC l) = badC l c := by rw [take_any _ hlt, hb, hcc]; rfl
          have g68 := xg72 l c hl
          have g69 := xg73 l c hl
          rw [hce] at g68 g69
          have tA : (A.map irow).take A.length = A.map irow := List.take_of_length_le (by simp)
          by_cases h1 : c.err = 22
          · have h19 : ¬ c.err = 19 := by omega
            rw [if_neg h19] at hst
            rw [h1] at g68
            cases hwh : (wholeR l c || decide (c.n = 0))
            · rw [hwh] at g68
              have hbad : badC l c = true := by unfold badC; rw [hwh]; simp [h1]
              have := any_of_nth hlt (p := badC l) (by rw [hcc]; exact hbad)
              rw [if_pos this] at hle
              simp (implicitDefEqProofs := false) (disch := omega) [List.getElem?_cons_zero, hlt, nth_map, hcc, hce, h68, g68, h1, splice, wrap64]
              repeat' apply And.intro
              all_goals first | omega | kernel_rfl | skip
              exact fin_nil ⟨by rw [hle]; rfl, rfl⟩
            · rw [hwh] at g68
              have hbad : badC l c = false := by unfold badC; rw [hwh]; simp
              simp (implicitDefEqProofs := false) (disch := omega) [List.getElem?_cons_zero, hlt, nth_map, hcc, hce, h68, g68, h1, splice, wrap64]
              repeat' apply And.intro
              all_goals first | omega | kernel_rfl | skip
              subst hJ
              refine wk_nil [0] [0, 9, 36, 37, 38] rfl ⟨cuts.length - (i + 1), by omega, i + 1, A, by omega, rfl, by rw [hst], by omega, by rw [hbs, hbad], ?_⟩
              simp [phi, O.ren]
          · have hbad : badC l c = false := by unfold badC; simp [h1]
            by_cases h19 : c.err = 19
            · rw [if_pos h19] at hst
              rw [h19] at g69
              simp (implicitDefEqProofs := false) (disch := omega) [List.getElem?_cons_zero, hlt, nth_map, hcc, hce, h69, g69, h1, h19, splice, fillC, tA, wrap64]
              repeat' apply And.intro
              all_goals first | omega | kernel_rfl | skip
              subst hJ
              refine wk_nil [3] [0, 9, 36, 37, 38] rfl ⟨cuts.length - (i + 1), by omega, i + 1, A ++ [backE l c], by omega, rfl, by rw [hst], by simp; omega, by rw [hbs, hbad], ?_⟩
              simp [phi, O.ren, irow]
            · rw [if_neg h19] at hst
              simp (implicitDefEqProofs := false) (disch := omega) [List.getElem?_cons_zero, hlt, nth_map, hcc, hce, h1, h19, splice, wrap64]
              subst hJ
              refine wk_nil [0] [0, 9, 36, 37, 38] rfl ⟨cuts.length - (i + 1), by omega, i + 1, A, by omega, rfl, by rw [hst], by omega, by rw [hbs, hbad], ?_⟩
              simp [phi, O.ren]
        · have : i = cuts.length := by omega
          subst this
          rw [List.take_length] at hA hb
          subst hA
          simp (implicitDefEqProofs := false) (disch := omega) [List.getElem?_cons_zero, hlt]
          subst hL
          exact ⟨hb, at_mk (by simp) (by simp)⟩
      · rintro _ ⟨hb, sl, rfl⟩
        obtain ⟨A, hA⟩ : ∃ A, A = S ++ backs l cuts := ⟨_, rfl⟩
        rw [← hA] at hle ⊢
        have hA0 : A ≠ [] := by rw [hA]; simp [hS0]
        have hAl : A.length < 68719476736 := by
          have := backs_len l cuts
          rw [hA, List.length_append]; omega
        rw [if_neg (by simp [hb])] at hle
        have g70 := xg70 A hAl hA0
        have tA : (A.map irow).take A.length = A.map irow := List.take_of_length_le (by simp)
        simp (implicitDefEqProofs := false) (disch := omega) [List.getElem?_cons_zero, b55_5, b55_6, h70, g70, tA]
        exact fin_nil ⟨by rw [hle]; rfl, rfl⟩
noncomputable def x55 (f : Member → Int) : XE := mkX true (fun (p : List Edit × List Member × List Cutoff) => [.c (.sl (p.1.map Edit.row)), .c (.sl (p.2.1.map Member.row)), .c (.sl (p.2.2.map Cutoff.row)), .c (.sl ((p.2.1.map f).map irow))]) (fun p => p.1.length < 68719476736 ∧ p.2.1.length < 34359738368 ∧ p.2.2.length < 34359738368) (fun p => .int .i64 (leastE f p.1 p.2.1 p.2.2))
theorem injLMCF (f : Member → Int) (a b : List Edit × List Member × List Cutoff) (h : [PVo.c (D.sl (a.1.map Edit.row)), PVo.c (.sl (a.2.1.map Member.row)), PVo.c (.sl (a.2.2.map Cutoff.row)), .c (.sl ((a.2.1.map f).map irow))] = [PVo.c (.sl (b.1.map Edit.row)), .c (.sl (b.2.1.map Member.row)), .c (.sl (b.2.2.map Cutoff.row)), .c (.sl ((b.2.1.map f).map irow))]) : a = b := by
  refine injLMC a b ?_
  injection h with h1 h; injection h with h2 h; injection h with h3 h
  rw [h1, h2, h3]
theorem kx55 (f : Member → Int) : Contract Try.prog G0 55 (x55 f) := mkX_scal (fun _ => rfl) fun p h => k55 f p.1 p.2.1 p.2.2 _ rfl h.1 h.2.1 h.2.2
theorem xg55 (f : Member → Int) (l : List Edit) (all : List Member) (cuts : List Cutoff) (hl : l.length < 68719476736) (ha : all.length < 34359738368) (hc : cuts.length < 34359738368) : (x55 f).g [.c (.sl (l.map Edit.row)), .c (.sl (all.map Member.row)), .c (.sl (cuts.map Cutoff.row)), .c (.sl ((all.map f).map irow))] = some (True, .int .i64 (leastE f l all cuts)) := mkX_g (injLMCF f) (l, all, cuts) ⟨hl, ha, hc⟩
/-- The stable clock; the stable floor. -/
def stableC (l : List Edit) (all : List Member) (cuts : List Cutoff) : Int := leastE (clk l cuts) l all cuts
def stableF (l : List Edit) (all : List Member) (cuts : List Cutoff) : Int := leastE (flr l cuts) l all cuts
theorem k28 (l : List Edit) (all : List Member) (cuts : List Cutoff) (hl : l.length < 68719476736) (ha : all.length < 34359738368) (hc : cuts.length < 34359738368) :
    ACalls Try.prog G0 28 [.c (.d (.sl (l.map Edit.row))), .c (.d (.sl (all.map Member.row))), .c (.d (.sl (cuts.map Cutoff.row)))] [] fun t H => t = .int .i64 (stableC l all cuts) ∧ H = [] := by
  have h26 : x26.sc = false := rfl
  have h55 : (x55 (clk l cuts)).sc = true := rfl
  have g26 := xg26 l all cuts hl (by omega) (by omega)
  have g55 := xg55 (clk l cuts) l all cuts hl ha hc
  unfold lists at g26
  obtain ⟨A, hA⟩ : ∃ A, A = (all.map (clk l cuts)).map irow := ⟨_, rfl⟩
  obtain ⟨B, hB⟩ : ∃ B, B = (all.map (flr l cuts)).map irow := ⟨_, rfl⟩
  rw [← hA, ← hB] at g26
  rw [← hA] at g55
  refine acallsX (X := [(26, x26), (55, x55 (clk l cuts))]) ⟨kx26, kx55 _, trivial⟩ tab hmix Try.func28 c28 (by rfl) fun hw => ?_
  simp (implicitDefEqProofs := false) (disch := omega) [List.getElem?_cons_zero, ir28, b28, h26, g26, h55, g55, toPVs, frzVs, osVs, toPV, wrap64]
  exact fin_nil ⟨rfl, rfl⟩
theorem k30 (l : List Edit) (all : List Member) (cuts : List Cutoff) (hl : l.length < 68719476736) (ha : all.length < 34359738368) (hc : cuts.length < 34359738368) :
    ACalls Try.prog G0 30 [.c (.d (.sl (l.map Edit.row))), .c (.d (.sl (all.map Member.row))), .c (.d (.sl (cuts.map Cutoff.row)))] [] fun t H => t = .int .i64 (stableF l all cuts) ∧ H = [] := by
  have h26 : x26.sc = false := rfl
  have h55 : (x55 (flr l cuts)).sc = true := rfl
  have g26 := xg26 l all cuts hl (by omega) (by omega)
  have g55 := xg55 (flr l cuts) l all cuts hl ha hc
  unfold lists at g26
  obtain ⟨A, hA⟩ : ∃ A, A = (all.map (clk l cuts)).map irow := ⟨_, rfl⟩
  obtain ⟨B, hB⟩ : ∃ B, B = (all.map (flr l cuts)).map irow := ⟨_, rfl⟩
  rw [← hA, ← hB] at g26
  rw [← hB] at g55
  refine acallsX (X := [(26, x26), (55, x55 (flr l cuts))]) ⟨kx26, kx55 _, trivial⟩ tab hmix Try.func30 c30 (by rfl) fun hw => ?_
  simp (implicitDefEqProofs := false) (disch := omega) [List.getElem?_cons_zero, ir30, b30, h26, g26, h55, g55, toPVs, frzVs, osVs, toPV, wrap64]
  exact fin_nil ⟨rfl, rfl⟩
noncomputable def x28 : XE := mkX true (fun (p : List Edit × List Member × List Cutoff) => [.c (.sl (p.1.map Edit.row)), .c (.sl (p.2.1.map Member.row)), .c (.sl (p.2.2.map Cutoff.row))]) (fun p => p.1.length < 68719476736 ∧ p.2.1.length < 34359738368 ∧ p.2.2.length < 34359738368) (fun p => .int .i64 (stableC p.1 p.2.1 p.2.2))
theorem kx28 : Contract Try.prog G0 28 x28 := mkX_scal (fun _ => rfl) fun p h => k28 p.1 p.2.1 p.2.2 h.1 h.2.1 h.2.2
theorem xg28 (l : List Edit) (all : List Member) (cuts : List Cutoff) (hl : l.length < 68719476736) (ha : all.length < 34359738368) (hc : cuts.length < 34359738368) : x28.g [.c (.sl (l.map Edit.row)), .c (.sl (all.map Member.row)), .c (.sl (cuts.map Cutoff.row))] = some (True, .int .i64 (stableC l all cuts)) := mkX_g injLMC (l, all, cuts) ⟨hl, ha, hc⟩
noncomputable def x30 : XE := mkX true (fun (p : List Edit × List Member × List Cutoff) => [.c (.sl (p.1.map Edit.row)), .c (.sl (p.2.1.map Member.row)), .c (.sl (p.2.2.map Cutoff.row))]) (fun p => p.1.length < 68719476736 ∧ p.2.1.length < 34359738368 ∧ p.2.2.length < 34359738368) (fun p => .int .i64 (stableF p.1 p.2.1 p.2.2))
theorem kx30 : Contract Try.prog G0 30 x30 := mkX_scal (fun _ => rfl) fun p h => k30 p.1 p.2.1 p.2.2 h.1 h.2.1 h.2.2
theorem xg30 (l : List Edit) (all : List Member) (cuts : List Cutoff) (hl : l.length < 68719476736) (ha : all.length < 34359738368) (hc : cuts.length < 34359738368) : x30.g [.c (.sl (l.map Edit.row)), .c (.sl (all.map Member.row)), .c (.sl (cuts.map Cutoff.row))] = some (True, .int .i64 (stableF l all cuts)) := mkX_g injLMC (l, all, cuts) ⟨hl, ha, hc⟩
end Go.Aw.Try

namespace Go.Aw.Try
open Go Go.Proofs Go.Aw
set_option maxRecDepth 100000
set_option maxHeartbeats 4000000
theorem minL_snoc {A : List Int} (h : A ≠ []) (x : Int) : minL (A ++ [x]) = minI (minL A) x := by
  cases A with
  | nil => exact absurd rfl h
  | cons y r => simp [minL]
theorem k56 (f : Member → Int) (l : List Edit) (all : List Member) (cuts : List Cutoff) (of : List Int) (hof : of = all.map f) (hl : l.length < 68719476736) (ha : all.length < 34359738368) (hc : cuts.length < 34359738368) :
    ACalls Try.prog G0 56 [.c (.d (.sl (l.map Edit.row))), .c (.d (.sl (all.map Member.row))), .c (.d (.sl (cuts.map Cutoff.row))), .c (.d (.sl (of.map irow)))] [] fun t H => t = .int .i64 (leastE f l all cuts) ∧ H = [] := by
  have h71 : x71.sc = true := rfl
  have h72 : x72.sc = true := rfl
  have h73 : x73.sc = true := rfl
  have ofl : of.length = all.length := by rw [hof]; simp
  refine acallsX (X := [(71, x71), (72, x72), (73, x73)]) ⟨kx71, kx72, kx73, trivial⟩ tab hmix Try.func56 c56 (by rfl) fun hw => ?_
  simp (implicitDefEqProofs := false) (disch := omega) [List.getElem?_cons_zero, ir56, b56, b56_0, b56_1, b56_2, wrap64]
  refine loopE (fun k s => ∃ (i : Nat) (A : List Int), i ≤ all.length ∧ k = all.length - i ∧ A = stay f (all.take i) cuts ∧
      s = ⟨ofL [(0, .v (.c (.d (.sl (l.map Edit.row))))), (1, .v (.c (.d (.sl (all.map Member.row))))), (2, .v (.c (.d (.sl (cuts.map Cutoff.row))))), (3, .v (.c (.d (.sl (of.map irow))))), (9, .int .i64 (minL A)), (10, .bool (decide (A ≠ []))), (11, .int .i64 i)], []⟩)
    (fun s => AtS [(0, .v (.c (.d (.sl (l.map Edit.row))))), (2, .v (.c (.d (.sl (cuts.map Cutoff.row))))), (9, .int .i64 (minL (stay f all cuts))), (10, .bool (decide (stay f all cuts ≠ [])))] [] s) ?_ ?_ ?_
  · refine wk_keep [0, 1, 2, 3, 9, 10, 11] ⟨_, 0, [], by omega, rfl, rfl, ?_⟩
    simp [minL]
  · rintro J L hJ hL k s ⟨i, A, hi, rfl, hA, rfl⟩
    by_cases hlt : i < all.length
    · obtain ⟨m, hm⟩ : ∃ m, nth all i = m := ⟨_, rfl⟩
      have hme : m.row = [.v (.string m.name), .v (.string m.key)] := rfl
      have hst : stay f (all.take (i + 1)) cuts = if goneBy cuts m.name = true then A else A ++ [f m] := by
        rw [hA]; unfold stay
        rw [take_nth hlt, List.filter_append, hm]
        cases h : goneBy cuts m.name <;> simp [h]
      have hoi : nth (of.map irow) i = [.v (.int .i64 (f m))] := by
        rw [hof]
        rw [nth_map irow (by simpa using hlt), nth_map f hlt, hm]; rfl
      have g71 := xg71 m.name cuts (by omega)
      have hiof : i < of.length := by omega
      have hfin : ∀ (sl : Nat → T) (A' : List Int), stay f (all.take (i + 1)) cuts = A' → sl 0 = .v (.c (.d (.sl (l.map Edit.row)))) → sl 1 = .v (.c (.d (.sl (all.map Member.row)))) → sl 2 = .v (.c (.d (.sl (cuts.map Cutoff.row)))) → sl 3 = .v (.c (.d (.sl (of.map irow)))) → sl 9 = .int .i64 (minL A') → sl 10 = .bool (decide (A' ≠ [])) → sl 11 = .int .i64 (i + 1 : Nat) →
          wk Try.prog G0 0 ⟨sl, []⟩ fun s'' => ∃ k', k' < all.length - i ∧ J k' s'' := fun sl A' h h0 h1 h2 h3 h9 h10 h11 => by
        subst hJ
        refine wk_keep [0, 1, 2, 3, 9, 10, 11] ⟨all.length - (i + 1), by omega, i + 1, A', by omega, rfl, by rw [h], ?_⟩
        simp [h0, h1, h2, h3, h9, h10, h11]
      by_cases hg : goneBy cuts m.name = true
      · rw [if_pos hg] at hst
        rw [hg] at g71
        simp (implicitDefEqProofs := false) (disch := omega) [List.getElem?_cons_zero, hlt, nth_map, hm, hme, h71, g71, wrap64]
        exact hfin _ A hst (by simp) (by simp) (by simp) (by simp) (by simp) (by simp) (by simp)
      · rw [if_neg hg] at hst
        have hg' : goneBy cuts m.name = false := by simpa using hg
        rw [hg'] at g71
        by_cases hA0 : A = []
        · have hm2 : minL (A ++ [f m]) = f m := by rw [hA0]; rfl
          simp (implicitDefEqProofs := false) (disch := omega) [List.getElem?_cons_zero, hlt, nth_map, hm, hme, h71, g71, hoi, hiof, hA0, wrap64]
          exact hfin _ (A ++ [f m]) hst (by simp) (by simp) (by simp) (by simp) (by simp [hm2]) (by simp) (by simp)
        · have hm2 := minL_snoc hA0 (f m)
          by_cases h2 : f m < minL A
          · have hm3 : minI (minL A) (f m) = f m := by simp [minI, h2]
            simp (implicitDefEqProofs := false) (disch := omega) [List.getElem?_cons_zero, hlt, nth_map, hm, hme, h71, g71, hoi, hiof, hA0, h2, wrap64]
            exact hfin _ (A ++ [f m]) hst (by simp) (by simp) (by simp) (by simp) (by simp [hm2, hm3]) (by simp) (by simp)
          · have hm3 : minI (minL A) (f m) = minL A := by simp [minI, h2]
            simp (implicitDefEqProofs := false) (disch := omega) [List.getElem?_cons_zero, hlt, nth_map, hm, hme, h71, g71, hoi, hiof, hA0, h2, wrap64]
            exact hfin _ (A ++ [f m]) hst (by simp) (by simp) (by simp) (by simp) (by simp [hm2, hm3]) (by simp) (by simp)
    · have : i = all.length := by omega
      subst this
      rw [List.take_length] at hA
      subst hA
      simp (implicitDefEqProofs := false) (disch := omega) [List.getElem?_cons_zero, hlt]
      subst hL
      exact at_mk (by simp) rfl
  · rintro _ ⟨sl, rfl⟩
    obtain ⟨S, hS⟩ : ∃ S, S = stay f all cuts := ⟨_, rfl⟩
    have hle : leastE f l all cuts = if S = [] then 0 else if cuts.any (badC l) = true then 0 else minL (S ++ backs l cuts) := by rw [hS]; rfl
    rw [← hS]
    by_cases hS0 : S = []
    · rw [if_pos hS0] at hle
      simp (implicitDefEqProofs := false) (disch := omega) [List.getElem?_cons_zero, b56_3, hS0]
      exact fin_nil ⟨by rw [hle]; rfl, rfl⟩
    · rw [if_neg hS0] at hle
      simp (implicitDefEqProofs := false) (disch := omega) [List.getElem?_cons_zero, b56_3, b56_4, hS0]
      refine loopE (fun k s => ∃ (i : Nat), i ≤ cuts.length ∧ k = cuts.length - i ∧ (cuts.take i).any (badC l) = false ∧
          s = ⟨ofL [(0, .v (.c (.d (.sl (l.map Edit.row))))), (2, .v (.c (.d (.sl (cuts.map Cutoff.row))))), (9, .int .i64 (minL S)), (12, .int .i64 i)], []⟩)
        (fun s => cuts.any (badC l) = false ∧ AtS [(0, .v (.c (.d (.sl (l.map Edit.row))))), (2, .v (.c (.d (.sl (cuts.map Cutoff.row))))), (9, .int .i64 (minL S))] [] s) ?_ ?_ ?_
      · refine wk_keep [0, 2, 9, 12] ⟨_, 0, by omega, rfl, rfl, ?_⟩
        simp
      · rintro J L hJ hL k s ⟨i, hi, rfl, hb, rfl⟩
        by_cases hlt : i < cuts.length
        · obtain ⟨c, hcc⟩ : ∃ c, nth cuts i = c := ⟨_, rfl⟩
          have hce : c.row = [.v (.string c.who), .v (.int .i64 c.n), .v (.int .i64 c.err)] := rfl
          have hbs : (cuts.take (i + 1)).any (badC l) = badC l c := by rw [take_any _ hlt, hb, hcc]; rfl
          have g72 := xg72 l c hl
          rw [hce] at g72
          by_cases h1 : c.err = 22
          · rw [h1] at g72
            cases hwh : (wholeR l c || decide (c.n = 0))
            · rw [hwh] at g72
              have hbad : badC l c = true := by unfold badC; rw [hwh]; simp [h1]
              have := any_of_nth hlt (p := badC l) (by rw [hcc]; exact hbad)
              rw [if_pos this] at hle
              simp (implicitDefEqProofs := false) (disch := omega) [List.getElem?_cons_zero, hlt, nth_map, hcc, hce, h72, g72, h1, wrap64]
              exact fin_nil ⟨by rw [hle]; rfl, rfl⟩
            · rw [hwh] at g72
              have hbad : badC l c = false := by unfold badC; rw [hwh]; simp
              simp (implicitDefEqProofs := false) (disch := omega) [List.getElem?_cons_zero, hlt, nth_map, hcc, hce, h72, g72, h1, wrap64]
              subst hJ
              refine wk_keep [0, 2, 9, 12] ⟨cuts.length - (i + 1), by omega, i + 1, by omega, rfl, by rw [hbs, hbad], ?_⟩
              simp
          · have hbad : badC l c = false := by unfold badC; simp [h1]
            simp (implicitDefEqProofs := false) (disch := omega) [List.getElem?_cons_zero, hlt, nth_map, hcc, hce, h1, wrap64]
            subst hJ
            refine wk_keep [0, 2, 9, 12] ⟨cuts.length - (i + 1), by omega, i + 1, by omega, rfl, by rw [hbs, hbad], ?_⟩
            simp
        · have : i = cuts.length := by omega
          subst this
          rw [List.take_length] at hb
          simp (implicitDefEqProofs := false) (disch := omega) [List.getElem?_cons_zero, hlt]
          subst hL
          exact ⟨hb, at_mk (by simp) rfl⟩
      · rintro _ ⟨hb, sl, rfl⟩
        rw [if_neg (by simp [hb])] at hle
        simp (implicitDefEqProofs := false) (disch := omega) [List.getElem?_cons_zero, b56_5]
        refine loopE (fun k s => ∃ (i : Nat) (o : Int), i ≤ cuts.length ∧ k = cuts.length - i ∧ o = minL (S ++ backs l (cuts.take i)) ∧
            s = ⟨ofL [(0, .v (.c (.d (.sl (l.map Edit.row))))), (2, .v (.c (.d (.sl (cuts.map Cutoff.row))))), (9, .int .i64 o), (13, .int .i64 i)], []⟩)
          (fun s => AtS [(9, .int .i64 (minL (S ++ backs l cuts)))] [] s) ?_ ?_ ?_
        · refine wk_keep [0, 2, 9, 13] ⟨_, 0, minL S, by omega, rfl, by simp [backs], ?_⟩
          simp
        · rintro J L hJ hL k s ⟨i, o, hi, rfl, ho, rfl⟩
          by_cases hlt : i < cuts.length
          · obtain ⟨c, hcc⟩ : ∃ c, nth cuts i = c := ⟨_, rfl⟩
            have hce : c.row = [.v (.string c.who), .v (.int .i64 c.n), .v (.int .i64 c.err)] := rfl
            have hst : minL (S ++ backs l (cuts.take (i + 1))) = if c.err = 19 then minI o (backE l c) else o := by
              rw [ho]
              have : backs l (cuts.take (i + 1)) = if c.err = 19 then backs l (cuts.take i) ++ [backE l c] else backs l (cuts.take i) := by
                unfold backs
                rw [take_nth hlt, List.filter_append, hcc]
                by_cases h : c.err = 19 <;> simp [h]
              rw [this]
              by_cases h : c.err = 19
              · rw [if_pos h, if_pos h, ← List.append_assoc, minL_snoc (by simp [hS0])]
              · rw [if_neg h, if_neg h]
            have g73 := xg73 l c hl
            rw [hce] at g73
            by_cases h1 : c.err = 19
            · rw [if_pos h1] at hst
              rw [h1] at g73
              by_cases h2 : backE l c < o
              · have hm3 : minI o (backE l c) = backE l c := by simp [minI, h2]
                simp (implicitDefEqProofs := false) (disch := omega) [List.getElem?_cons_zero, hlt, nth_map, hcc, hce, h73, g73, h1, h2, wrap64]
                subst hJ
                refine wk_keep [0, 2, 9, 13] ⟨cuts.length - (i + 1), by omega, i + 1, backE l c, by omega, rfl, by rw [hst, hm3], ?_⟩
                simp
              · have hm3 : minI o (backE l c) = o := by simp [minI, h2]
                simp (implicitDefEqProofs := false) (disch := omega) [List.getElem?_cons_zero, hlt, nth_map, hcc, hce, h73, g73, h1, h2, wrap64]
                subst hJ
                refine wk_keep [0, 2, 9, 13] ⟨cuts.length - (i + 1), by omega, i + 1, o, by omega, rfl, by rw [hst, hm3], ?_⟩
                simp
            · rw [if_neg h1] at hst
              simp (implicitDefEqProofs := false) (disch := omega) [List.getElem?_cons_zero, hlt, nth_map, hcc, hce, h1, wrap64]
              subst hJ
              refine wk_keep [0, 2, 9, 13] ⟨cuts.length - (i + 1), by omega, i + 1, o, by omega, rfl, by rw [hst], ?_⟩
              simp
          · have : i = cuts.length := by omega
            subst this
            rw [List.take_length] at ho
            subst ho
            simp (implicitDefEqProofs := false) (disch := omega) [List.getElem?_cons_zero, hlt]
            subst hL
            exact at_mk (by simp) rfl
        · rintro _ ⟨sl, rfl⟩
          simp (implicitDefEqProofs := false) (disch := omega) [List.getElem?_cons_zero, b56_6, b56_7]
          exact fin_nil ⟨by rw [hle]; rfl, rfl⟩
theorem kx56 (f : Member → Int) : Contract Try.prog G0 56 (x55 f) := mkX_scal (fun _ => rfl) fun p h => k56 f p.1 p.2.1 p.2.2 _ rfl h.1 h.2.1 h.2.2
theorem k29 (l : List Edit) (all : List Member) (cuts : List Cutoff) (hl : l.length < 68719476736) (ha : all.length < 34359738368) (hc : cuts.length < 34359738368) :
    ACalls Try.prog G0 29 [.c (.d (.sl (l.map Edit.row))), .c (.d (.sl (all.map Member.row))), .c (.d (.sl (cuts.map Cutoff.row)))] [] fun t H => t = .int .i64 (stableC l all cuts) ∧ H = [] := by
  have h26 : x26.sc = false := rfl
  have h55 : (x55 (clk l cuts)).sc = true := rfl
  have g26 := xg26 l all cuts hl (by omega) (by omega)
  have g55 := xg55 (clk l cuts) l all cuts hl ha hc
  unfold lists at g26
  obtain ⟨A, hA⟩ : ∃ A, A = (all.map (clk l cuts)).map irow := ⟨_, rfl⟩
  obtain ⟨B, hB⟩ : ∃ B, B = (all.map (flr l cuts)).map irow := ⟨_, rfl⟩
  rw [← hA, ← hB] at g26
  rw [← hA] at g55
  refine acallsX (X := [(27, x26), (56, x55 (clk l cuts))]) ⟨kx27, kx56 _, trivial⟩ tab hmix Try.func29 c29 (by rfl) fun hw => ?_
  simp (implicitDefEqProofs := false) (disch := omega) [List.getElem?_cons_zero, ir29, b29, h26, g26, h55, g55, toPVs, frzVs, osVs, toPV, wrap64]
  exact fin_nil ⟨rfl, rfl⟩
theorem k31 (l : List Edit) (all : List Member) (cuts : List Cutoff) (hl : l.length < 68719476736) (ha : all.length < 34359738368) (hc : cuts.length < 34359738368) :
    ACalls Try.prog G0 31 [.c (.d (.sl (l.map Edit.row))), .c (.d (.sl (all.map Member.row))), .c (.d (.sl (cuts.map Cutoff.row)))] [] fun t H => t = .int .i64 (stableF l all cuts) ∧ H = [] := by
  have h26 : x26.sc = false := rfl
  have h55 : (x55 (flr l cuts)).sc = true := rfl
  have g26 := xg26 l all cuts hl (by omega) (by omega)
  have g55 := xg55 (flr l cuts) l all cuts hl ha hc
  unfold lists at g26
  obtain ⟨A, hA⟩ : ∃ A, A = (all.map (clk l cuts)).map irow := ⟨_, rfl⟩
  obtain ⟨B, hB⟩ : ∃ B, B = (all.map (flr l cuts)).map irow := ⟨_, rfl⟩
  rw [← hA, ← hB] at g26
  rw [← hB] at g55
  refine acallsX (X := [(27, x26), (56, x55 (flr l cuts))]) ⟨kx27, kx56 _, trivial⟩ tab hmix Try.func31 c31 (by rfl) fun hw => ?_
  simp (implicitDefEqProofs := false) (disch := omega) [List.getElem?_cons_zero, ir31, b31, h26, g26, h55, g55, toPVs, frzVs, osVs, toPV, wrap64]
  exact fin_nil ⟨rfl, rfl⟩
theorem kx29 : Contract Try.prog G0 29 x28 := mkX_scal (fun _ => rfl) fun p h => k29 p.1 p.2.1 p.2.2 h.1 h.2.1 h.2.2
theorem kx31 : Contract Try.prog G0 31 x30 := mkX_scal (fun _ => rfl) fun p h => k31 p.1 p.2.1 p.2.2 h.1 h.2.1 h.2.2
end Go.Aw.Try

namespace Go.Aw.Try
open Go Go.Proofs Go.Aw
set_option maxRecDepth 100000
set_option maxHeartbeats 4000000
def noteK (a : ByteArray) (n c f : Int) : Edit := ⟨⟨a, n⟩, c, f, [], 6, ⟨⟨#[]⟩, 0⟩, ⟨⟨#[]⟩, 0⟩, false, ⟨#[]⟩, ⟨#[]⟩, ⟨#[]⟩, ⟨#[]⟩, ⟨⟨#[]⟩, 0⟩, ⟨#[]⟩⟩
theorem k52 (a : ByteArray) (n c f : Int) (H : List O) : ACalls Try.prog G0 52 [Sx a, I n, I c, I f] H fun t H' => t = .v (.agg ((noteK a n c f).row.map .d)) ∧ H' = H := by
  refine acallsX (X := []) trivial tab hmix Try.func52 c52 (by rfl) fun hw => ?_
  simp (implicitDefEqProofs := false) (disch := omega) [List.getElem?_cons_zero, ir52, b52, fillC, splice]
  exact fin_pre_pv (p := .agg (noteK a n c f).row) (L' := [_]) hw (by simp [toPV, toDs, noteK, Edit.row]) (by simp [frz, frz1]; rfl) ⟨rfl, rfl⟩
noncomputable def x52 : XE := mkX false (fun (p : ByteArray × Int × Int × Int) => [.c (.v (.string p.1)), .c (.v (.int .i64 p.2.1)), .c (.v (.int .i64 p.2.2.1)), .c (.v (.int .i64 p.2.2.2))]) (fun _ => True) (fun p => .v (.agg ((noteK p.1 p.2.1 p.2.2.1 p.2.2.2).row.map .d)))
theorem kx52 : Contract Try.prog G0 52 x52 := mkX_data fun p _ H => k52 p.1 p.2.1 p.2.2.1 p.2.2.2 H
theorem xg52 (a : ByteArray) (n c f : Int) : x52.g [.c (.v (.string a)), .c (.v (.int .i64 n)), .c (.v (.int .i64 c)), .c (.v (.int .i64 f))] = some (True, .v (.agg ((noteK a n c f).row.map .d))) :=
  mkX_g (fun a b h => by simp at h; exact Prod.ext h.1 (Prod.ext h.2.1 (Prod.ext h.2.2.1 h.2.2.2))) (a, n, c, f) trivial
def greatB (l : List Edit) (all : List Member) (cuts : List Cutoff) : Bool := decide (1500 < gtot l ∨ 10 < all.length ∨ 20 < cuts.length)
theorem k24 (l : List Edit) (all : List Member) (cuts : List Cutoff) (hl : gtot l < 2305843009213693952) :
    ACalls Try.prog G0 24 [.c (.d (.sl (l.map Edit.row))), .c (.d (.sl (all.map Member.row))), .c (.d (.sl (cuts.map Cutoff.row)))] [] fun t H => t = .bool (greatB l all cuts) ∧ H = [] := by
  have h15 : x15.sc = true := rfl
  have g15 := xg15 l hl
  refine acallsX (X := [(15, x15)]) ⟨kx15, trivial⟩ tab hmix Try.func24 c24 (by rfl) fun hw => ?_
  unfold greatB
  by_cases h1 : 1500 < gtot l
  · rw [if_pos h1] at g15
    simp (implicitDefEqProofs := false) (disch := omega) [List.getElem?_cons_zero, ir24, b24, h15, g15, h1]
    exact fin_nil ⟨by simp, rfl⟩
  · rw [if_neg h1] at g15
    by_cases h2 : 10 < all.length
    · have h2' : (10 : Int) < all.length := by omega
      simp (implicitDefEqProofs := false) (disch := omega) [List.getElem?_cons_zero, ir24, b24, h15, g15, h1, h2, h2']
      exact fin_nil ⟨by simp, rfl⟩
    · have h2' : ¬ (10 : Int) < all.length := by omega
      by_cases h3 : 20 < cuts.length
      · have h3' : (20 : Int) < cuts.length := by omega
        simp (implicitDefEqProofs := false) (disch := omega) [List.getElem?_cons_zero, ir24, b24, h15, g15, h1, h2, h2', h3, h3']
        exact fin_nil ⟨by simp, rfl⟩
      · have h3' : ¬ (20 : Int) < cuts.length := by omega
        simp (implicitDefEqProofs := false) (disch := omega) [List.getElem?_cons_zero, ir24, b24, h15, g15, h1, h2, h2', h3, h3']
        exact fin_nil ⟨by simp, rfl⟩
noncomputable def x24 : XE := mkX true (fun (p : List Edit × List Member × List Cutoff) => [.c (.sl (p.1.map Edit.row)), .c (.sl (p.2.1.map Member.row)), .c (.sl (p.2.2.map Cutoff.row))]) (fun p => gtot p.1 < 2305843009213693952) (fun p => .bool (greatB p.1 p.2.1 p.2.2))
theorem kx24 : Contract Try.prog G0 24 x24 := mkX_scal (fun _ => rfl) fun p h => k24 p.1 p.2.1 p.2.2 h
theorem xg24 (l : List Edit) (all : List Member) (cuts : List Cutoff) (hl : gtot l < 2305843009213693952) : x24.g [.c (.sl (l.map Edit.row)), .c (.sl (all.map Member.row)), .c (.sl (cuts.map Cutoff.row))] = some (True, .bool (greatB l all cuts)) := mkX_g injLMC (l, all, cuts) hl
def sCid : ByteArray := ⟨#[99, 105, 100]⟩
def fixK : List Edit := [noteK sAnn 1 7 3, noteK sBob 1 4 2]
def fix2 : List Member := [⟨sAnn, ⟨#[]⟩⟩, ⟨sBob, ⟨#[]⟩⟩]
def fix3 : List Member := [⟨sAnn, ⟨#[]⟩⟩, ⟨sBob, ⟨#[]⟩⟩, ⟨sCid, ⟨#[]⟩⟩]
theorem fixk1 : stableC fixK fix2 [] = 4 := by decide +kernel
theorem fixk2 : stableF fixK fix2 [] = 2 := by decide +kernel
theorem fixk3 : stableC fixK fix3 [] = 0 := by decide +kernel
theorem fixk4 : stableC fixK fix3 [⟨sCid, 0, 22⟩] = 4 := by decide +kernel
theorem k25 : ACalls Try.prog G0 25 [] [] fun t H => t = .bool true ∧ H = [] := by
  have h1 : x52.sc = false := rfl
  have h2 : x28.sc = true := rfl
  have h3 : x30.sc = true := rfl
  have g1 := xg28 fixK fix2 [] (by decide) (by decide) (by decide)
  have g2 := xg30 fixK fix2 [] (by decide) (by decide) (by decide)
  have g3 := xg28 fixK fix3 [] (by decide) (by decide) (by decide)
  have g4 := xg28 fixK fix3 [⟨sCid, 0, 22⟩] (by decide) (by decide) (by decide)
  rw [fixk1] at g1
  rw [fixk2] at g2
  rw [fixk3] at g3
  rw [fixk4] at g4
  simp only [fixK, fix2, fix3, List.map_cons, List.map_nil, Cutoff.row, Member.row, sAnn, sBob, sCid, noteK, Edit.row] at g1 g2 g3 g4
  refine acallsX (X := [(52, x52), (28, x28), (30, x30)]) ⟨kx52, kx28, kx30, trivial⟩ tab hmix Try.func25 c25 (by rfl) fun hw => ?_
  simp (maxSteps := 1000000) (implicitDefEqProofs := false) (disch := omega) [List.getElem?_cons_zero, ir25, b25, b25_0, b25_1, b25_2, b25_3, b25_4, b25_5, h1, h2, h3, xg52, g1, g2, g3, g4, toPVs, frzVs, osVs, toPV, noteK, Edit.row, splice, fillC, cellsEq, skEq, nth_cons_z, nth_cons_s]
  repeat' apply And.intro
  all_goals first | omega | kernel_rfl | skip
  all_goals exact fin_nil ⟨rfl, rfl⟩
def x25 : XE := ⟨true, fun ps => match ps with | [] => some (True, .bool true) | _ => none⟩
theorem kx25 : Contract Try.prog G0 25 x25 := contract_sc fun ps ob t h _ => by
  split at h
  · injection h with h; injection h with _ h2; subst h2
    exact ⟨rfl, k25⟩
  · cases h
end Go.Aw.Try

namespace Go.Aw.Try
open Go Go.Proofs Go.Aw
set_option maxRecDepth 100000
set_option maxHeartbeats 4000000
theorem k8 (l : List Edit) (all : List Member) (cuts : List Cutoff) (hl : gtot l < 34359738368) (ha : all.length < 34359738368) (hc : cuts.length < 34359738368) :
    ACalls Try.prog G0 8 [.c (.d (.sl (l.map Edit.row))), .c (.d (.sl (all.map Member.row))), .c (.d (.sl (cuts.map Cutoff.row)))] [] fun t H => t = .bool true ∧ H = [] := by
  have hlen := gtot_len l
  have h24 : x24.sc = true := rfl
  have h28 : x28.sc = true := rfl
  have h30 : x30.sc = true := rfl
  have g24 := xg24 l all cuts (by omega)
  have g28 := xg28 l all cuts (by omega) ha hc
  have g30 := xg30 l all cuts (by omega) ha hc
  refine acallsX (X := [(24, x24), (25, x25), (28, x28), (29, x28), (30, x30), (31, x30)]) ⟨kx24, kx25, kx28, kx29, kx30, kx31, trivial⟩ tab hmix Try.func8 c8 (by rfl) fun hw => ?_
  cases hg : greatB l all cuts
  · rw [hg] at g24
    simp (implicitDefEqProofs := false) (disch := omega) [List.getElem?_cons_zero, ir8, b8, h24, g24, x25, h28, g28, h30, g30]
    exact fin_nil ⟨rfl, rfl⟩
  · rw [hg] at g24
    simp (implicitDefEqProofs := false) (disch := omega) [List.getElem?_cons_zero, ir8, b8, h24, g24, x25]
    exact fin_nil ⟨rfl, rfl⟩
theorem k7 (l : List Edit) (all : List Member) (cuts : List Cutoff) (hl : gtot l < 34359738368) (ha : all.length < 34359738368) (hc : cuts.length < 34359738368) :
    ACalls Try.prog G0 7 [.c (.d (.sl (l.map Edit.row))), .c (.d (.sl (all.map Member.row))), .c (.d (.sl (cuts.map Cutoff.row)))] [] fun t H => t = .bool true ∧ H = [] := by
  have hlen := gtot_len l
  have h24 : x24.sc = true := rfl
  have h26 : x26.sc = false := rfl
  have g24 := xg24 l all cuts (by omega)
  have g26 := xg26 l all cuts (by omega) (by omega) (by omega)
  unfold lists at g26
  obtain ⟨A, hA⟩ : ∃ A, A = all.map (clk l cuts) := ⟨_, rfl⟩
  obtain ⟨B, hB⟩ : ∃ B, B = all.map (flr l cuts) := ⟨_, rfl⟩
  have lA : A.length = all.length := by rw [hA]; simp
  have lB : B.length = all.length := by rw [hB]; simp
  rw [← hA, ← hB] at g26
  refine acallsX (X := [(24, x24), (25, x25), (26, x26), (27, x26)]) ⟨kx24, kx25, kx26, kx27, trivial⟩ tab hmix Try.func7 c7 (by rfl) fun hw => ?_
  cases hg : greatB l all cuts
  · rw [hg] at g24
    simp (implicitDefEqProofs := false) (disch := omega) [List.getElem?_cons_zero, ir7, b7, b7_0, b7_1, b7_2, b7_3, b7_4, b7_5, h24, g24, h26, g26, toPVs, frzVs, osVs, toPV]
    refine loopE (fun k s => ∃ (i : Nat), i ≤ A.length ∧ k = A.length - i ∧
        s = ⟨ofL [(7, .v (.c (.d (.sl (A.map irow))))), (8, .v (.c (.d (.sl (B.map irow))))), (9, .v (.c (.d (.sl (A.map irow))))), (10, .v (.c (.d (.sl (B.map irow))))), (44, .int .i64 A.length), (45, .int .i64 i)], []⟩)
      (fun s => AtS [] [] s) ?_ ?_ ?_
    · refine wk_keep [7, 8, 9, 10, 44, 45] ⟨_, 0, by omega, rfl, ?_⟩
      simp
    · rintro J L hJ hL k s ⟨i, hi, rfl, rfl⟩
      by_cases hlt : i < A.length
      · have hltB : i < B.length := by omega
        have nA : nth (A.map irow) i = [.v (.int .i64 (nth A i))] := nth_map irow hlt
        have nB : nth (B.map irow) i = [.v (.int .i64 (nth B i))] := nth_map irow hltB
        simp (implicitDefEqProofs := false) (disch := omega) [List.getElem?_cons_zero, hlt, hltB, nA, nB, wrap64]
        repeat' apply And.intro
        all_goals first | omega | kernel_rfl | skip
        subst hJ
        refine wk_keep [7, 8, 9, 10, 44, 45] ⟨A.length - (i + 1), by omega, i + 1, by omega, rfl, ?_⟩
        simp
      · have : i = A.length := by omega
        subst this
        simp (implicitDefEqProofs := false) (disch := omega) [List.getElem?_cons_zero, hlt]
        subst hL
        exact at_mk (by simp) rfl
    · rintro _ ⟨sl, rfl⟩
      simp (implicitDefEqProofs := false) (disch := omega) [List.getElem?_cons_zero, b7_6, b7_7, x25]
      exact fin_nil ⟨rfl, rfl⟩
  · rw [hg] at g24
    simp (implicitDefEqProofs := false) (disch := omega) [List.getElem?_cons_zero, ir7, b7, b7_0, b7_1, h24, g24, x25]
    exact fin_nil ⟨rfl, rfl⟩
end Go.Aw.Try

namespace Go.Aw.Try
open Go Go.Proofs Go.Proofs.Ytlboedhconemnaa Go.Aw
set_option maxRecDepth 100000
abbrev memSh : List Sh := [.s, .s]
theorem dec_mem {l : List D} (h : okShs memSh l) : ∃ x : Member, l = x.row := by
  simp only [memSh, okShs, okSh] at h
  obtain ⟨_, _, rfl, ⟨a, rfl⟩, _, _, rfl, ⟨n, rfl⟩, rfl⟩ := h
  exact ⟨⟨a, n⟩, rfl⟩
theorem dec_members {l : List D} (h : okShs [.sl memSh] l) : ∃ es : List Member, l = [.sl (es.map Member.row)] := by
  simp only [okShs, okSh] at h
  obtain ⟨_, _, rfl, ⟨xs, rfl, h⟩, rfl⟩ := h
  obtain ⟨es, rfl⟩ := dec_list (row := Member.row) (fun l h => dec_mem h) h
  exact ⟨es, rfl⟩
end Go.Aw.Try
