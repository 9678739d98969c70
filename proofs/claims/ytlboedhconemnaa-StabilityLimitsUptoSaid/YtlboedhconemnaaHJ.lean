/- An abstract machine over the model, and contracts of functions of this program on it (part 10): words and lemmas for the proof in the last text. -/
import Derived.Test.YtlboedhconemnaaHI
set_option linter.unusedSimpArgs false
set_option linter.unusedVariables false
set_option linter.unusedSectionVars false

namespace Go.Aw.Try
open Go Go.Proofs Go.Aw
set_option maxRecDepth 100000
set_option maxHeartbeats 4000000
def b9_0 : AC := (.region 1 [
    ⟨(some 5), (.box 0 (.tmp 2)), none⟩,
    ⟨(some 6), (.mov (.const (.bool false))), none⟩])
def b9_1 : AC := (.dregion 1 [
    ⟨(some 18), (.faddr 0 (.tmp 5)), none⟩,
    ⟨(some 19), (.load false 1 (.tmp 18)), none⟩,
    ⟨(some 20), (.faddr 1 (.tmp 5)), none⟩,
    ⟨(some 21), (.load true 18 (.tmp 20)), none⟩,
    ⟨(some 8), (.zero 0 [(.v (.string ⟨#[]⟩)), (.v (.int .i64 0)), (.v (.int .i64 0)), (.v (.int .i64 0)), (.v (.slice none 0 0)), (.v (.int .i64 0)), (.v (.string ⟨#[]⟩)), (.v (.int .i64 0)), (.v (.string ⟨#[]⟩)), (.v (.int .i64 0)), (.v (.bool false)), (.v (.string ⟨#[]⟩)), (.v (.string ⟨#[]⟩)), (.v (.string ⟨#[]⟩)), (.v (.string ⟨#[]⟩)), (.v (.string ⟨#[]⟩)), (.v (.int .i64 0)), (.v (.string ⟨#[]⟩))]), none⟩,
    ⟨(some 7), (.mov (.tmp 19)), none⟩,
    ⟨none, (.store 18 (.tmp 8) (.tmp 21)), none⟩] [[], [0], [], [2], [], [1, 0, 1, 4], [4, 3, 5, 0, 1, 2, 3, 4, 5]])
def b9_2 : AC := (.seq (.dregion 4 [
    ⟨(some 22), (.bsl 0 18 [(.v (.string ⟨#[]⟩)), (.v (.int .i64 0)), (.v (.int .i64 0)), (.v (.int .i64 0)), (.v (.slice none 0 0)), (.v (.int .i64 0)), (.v (.string ⟨#[]⟩)), (.v (.int .i64 0)), (.v (.string ⟨#[]⟩)), (.v (.int .i64 0)), (.v (.bool false)), (.v (.string ⟨#[]⟩)), (.v (.string ⟨#[]⟩)), (.v (.string ⟨#[]⟩)), (.v (.string ⟨#[]⟩)), (.v (.string ⟨#[]⟩)), (.v (.int .i64 0)), (.v (.string ⟨#[]⟩))] 0 []), none⟩,
    ⟨(some 23), (.mov (.tmp 0)), none⟩,
    ⟨(some 24), (.app 1 18 232 (.tmp 22) (.tmp 23)), none⟩,
    ⟨(some 25), (.load true 18 (.tmp 8)), none⟩,
    ⟨(some 26), (.bsl 2 18 [(.v (.string ⟨#[]⟩)), (.v (.int .i64 0)), (.v (.int .i64 0)), (.v (.int .i64 0)), (.v (.slice none 0 0)), (.v (.int .i64 0)), (.v (.string ⟨#[]⟩)), (.v (.int .i64 0)), (.v (.string ⟨#[]⟩)), (.v (.int .i64 0)), (.v (.bool false)), (.v (.string ⟨#[]⟩)), (.v (.string ⟨#[]⟩)), (.v (.string ⟨#[]⟩)), (.v (.string ⟨#[]⟩)), (.v (.string ⟨#[]⟩)), (.v (.int .i64 0)), (.v (.string ⟨#[]⟩))] 1 [(0, (.tmp 25))]), none⟩,
    ⟨(some 27), (.app 3 18 232 (.tmp 24) (.tmp 26)), none⟩,
    ⟨(some 28), (.mov (.tmp 1)), none⟩,
    ⟨(some 29), (.mov (.tmp 7)), none⟩,
    ⟨(some 30), (.call 24 [(.tmp 27), (.tmp 28), (.tmp 29)]), none⟩] [[], [], [0, 1], [], [3], [2, 4, 2], [], [], [5, 6, 7, 5]])
  (.cond (.tmp 30) (.seq (.region 0 [
    ⟨(some 31), (.call 25 []), none⟩,
    ⟨(some 6), (.mov (.tmp 31)), none⟩])
  .ret) .skip))
def b9_3 : AC := (.region 0 [
    ⟨(some 9), (.mov (.const (.bool false))), none⟩])
def b9_4 : AC := (.seq (.region 0 [
    ⟨(some 32), (.mov (.tmp 1)), none⟩,
    ⟨(some 33), (.lenL (.tmp 32)), none⟩,
    ⟨(some 34), (.mov (.const (.int .i64 0))), none⟩])
  (.block 0 (.loop (.seq (.region 0 [
    ⟨(some 35), (.binI .lss .i64 (.tmp 34) (.tmp 33)), none⟩])
  (.seq (.cond (.tmp 35) .skip (.exit 0))
  (.seq (.block 1 (.seq (.region 1 [
    ⟨(some 36), (.iaddr 2 (.tmp 32) (.tmp 34)), none⟩,
    ⟨(some 37), (.load true 2 (.tmp 36)), none⟩,
    ⟨(some 11), (.zero 0 [(.v (.string ⟨#[]⟩)), (.v (.string ⟨#[]⟩))]), none⟩,
    ⟨none, (.store 2 (.tmp 11) (.tmp 37)), none⟩])
  (.region 0 [
    ⟨(some 38), (.mov (.tmp 9)), none⟩,
    ⟨(some 39), (.mov (.tmp 38)), none⟩,
    ⟨(some 40), (.faddr 0 (.tmp 11)), (some (39, false))⟩,
    ⟨(some 41), (.load false 1 (.tmp 40)), (some (39, false))⟩,
    ⟨(some 42), (.faddr 0 (.tmp 8)), (some (39, false))⟩,
    ⟨(some 43), (.faddr 0 (.tmp 42)), (some (39, false))⟩,
    ⟨(some 44), (.load false 1 (.tmp 43)), (some (39, false))⟩,
    ⟨(some 45), (.binS .eql (.tmp 41) (.tmp 44)), (some (39, false))⟩,
    ⟨(some 46), (.pick (.tmp 39) (.const (.bool true)) (.tmp 45)), none⟩,
    ⟨(some 9), (.mov (.tmp 46)), none⟩])))
  (.region 0 [
    ⟨(some 47), (.binI .add .i64 (.tmp 34) (.const (.int .i64 1))), none⟩,
    ⟨(some 34), (.mov (.tmp 47)), none⟩])))))))
def b9_5 : AC := (.seq (.region 0 [
    ⟨(some 48), (.mov (.tmp 9)), none⟩,
    ⟨(some 49), (.not (.tmp 48)), none⟩,
    ⟨(some 50), (.mov (.tmp 49)), none⟩,
    ⟨(some 51), (.faddr 0 (.tmp 8)), (some (50, false))⟩,
    ⟨(some 52), (.faddr 0 (.tmp 51)), (some (50, false))⟩,
    ⟨(some 53), (.load false 1 (.tmp 52)), (some (50, false))⟩,
    ⟨(some 54), (.mov (.tmp 7)), (some (50, false))⟩,
    ⟨(some 55), (.call 32 [(.tmp 53), (.tmp 54)]), (some (50, false))⟩,
    ⟨(some 56), (.pick (.tmp 50) (.const (.bool true)) (.tmp 55)), none⟩,
    ⟨(some 57), (.mov (.tmp 56)), none⟩,
    ⟨(some 58), (.faddr 2 (.tmp 8)), (some (57, false))⟩,
    ⟨(some 59), (.load false 1 (.tmp 58)), (some (57, false))⟩,
    ⟨(some 60), (.binI .lss .i64 (.tmp 59) (.const (.int .i64 1))), (some (57, false))⟩,
    ⟨(some 61), (.pick (.tmp 57) (.const (.bool true)) (.tmp 60)), none⟩,
    ⟨(some 62), (.mov (.tmp 61)), none⟩,
    ⟨(some 63), (.faddr 3 (.tmp 8)), (some (62, false))⟩,
    ⟨(some 64), (.load false 1 (.tmp 63)), (some (62, false))⟩,
    ⟨(some 65), (.binI .lss .i64 (.tmp 64) (.const (.int .i64 0))), (some (62, false))⟩,
    ⟨(some 66), (.pick (.tmp 62) (.const (.bool true)) (.tmp 65)), none⟩])
  (.cond (.tmp 66) (.seq (.region 0 [
    ⟨(some 67), (.call 25 []), none⟩,
    ⟨(some 6), (.mov (.tmp 67)), none⟩])
  .ret) .skip))
def b9_6 : AC := (.seq (.region 0 [
    ⟨(some 68), (.mov (.tmp 0)), none⟩,
    ⟨(some 69), (.lenL (.tmp 68)), none⟩,
    ⟨(some 70), (.mov (.const (.int .i64 0))), none⟩])
  (.block 2 (.loop (.seq (.region 0 [
    ⟨(some 71), (.binI .lss .i64 (.tmp 70) (.tmp 69)), none⟩])
  (.seq (.cond (.tmp 71) .skip (.exit 2))
  (.seq (.block 3 (.seq (.region 1 [
    ⟨(some 72), (.iaddr 18 (.tmp 68) (.tmp 70)), none⟩,
    ⟨(some 73), (.load true 18 (.tmp 72)), none⟩,
    ⟨(some 13), (.zero 0 [(.v (.string ⟨#[]⟩)), (.v (.int .i64 0)), (.v (.int .i64 0)), (.v (.int .i64 0)), (.v (.slice none 0 0)), (.v (.int .i64 0)), (.v (.string ⟨#[]⟩)), (.v (.int .i64 0)), (.v (.string ⟨#[]⟩)), (.v (.int .i64 0)), (.v (.bool false)), (.v (.string ⟨#[]⟩)), (.v (.string ⟨#[]⟩)), (.v (.string ⟨#[]⟩)), (.v (.string ⟨#[]⟩)), (.v (.string ⟨#[]⟩)), (.v (.int .i64 0)), (.v (.string ⟨#[]⟩))]), none⟩,
    ⟨none, (.store 18 (.tmp 13) (.tmp 73)), none⟩])
  (.seq (.region 0 [
    ⟨(some 74), (.faddr 0 (.tmp 13)), none⟩,
    ⟨(some 75), (.faddr 0 (.tmp 74)), none⟩,
    ⟨(some 76), (.load false 1 (.tmp 75)), none⟩,
    ⟨(some 77), (.faddr 0 (.tmp 8)), none⟩,
    ⟨(some 78), (.faddr 0 (.tmp 77)), none⟩,
    ⟨(some 79), (.load false 1 (.tmp 78)), none⟩,
    ⟨(some 80), (.binS .eql (.tmp 76) (.tmp 79)), none⟩,
    ⟨(some 81), (.mov (.tmp 80)), none⟩,
    ⟨(some 82), (.faddr 0 (.tmp 13)), (some (81, true))⟩,
    ⟨(some 83), (.faddr 1 (.tmp 82)), (some (81, true))⟩,
    ⟨(some 84), (.load false 1 (.tmp 83)), (some (81, true))⟩,
    ⟨(some 85), (.faddr 0 (.tmp 8)), (some (81, true))⟩,
    ⟨(some 86), (.faddr 1 (.tmp 85)), (some (81, true))⟩,
    ⟨(some 87), (.load false 1 (.tmp 86)), (some (81, true))⟩,
    ⟨(some 88), (.binI .geq .i64 (.tmp 84) (.tmp 87)), (some (81, true))⟩,
    ⟨(some 89), (.mov (.tmp 88)), (some (81, true))⟩,
    ⟨(some 90), (.faddr 2 (.tmp 13)), (some (89, false))⟩,
    ⟨(some 91), (.load false 1 (.tmp 90)), (some (89, false))⟩,
    ⟨(some 92), (.faddr 2 (.tmp 8)), (some (89, false))⟩,
    ⟨(some 93), (.load false 1 (.tmp 92)), (some (89, false))⟩,
    ⟨(some 94), (.binI .geq .i64 (.tmp 91) (.tmp 93)), (some (89, false))⟩,
    ⟨(some 95), (.pick (.tmp 89) (.const (.bool true)) (.tmp 94)), (some (81, true))⟩,
    ⟨(some 96), (.mov (.tmp 95)), (some (81, true))⟩,
    ⟨(some 97), (.faddr 3 (.tmp 13)), (some (96, false))⟩,
    ⟨(some 98), (.load false 1 (.tmp 97)), (some (96, false))⟩,
    ⟨(some 99), (.faddr 3 (.tmp 8)), (some (96, false))⟩,
    ⟨(some 100), (.load false 1 (.tmp 99)), (some (96, false))⟩,
    ⟨(some 101), (.binI .gtr .i64 (.tmp 98) (.tmp 100)), (some (96, false))⟩,
    ⟨(some 102), (.pick (.tmp 96) (.const (.bool true)) (.tmp 101)), (some (81, true))⟩,
    ⟨(some 103), (.pick (.tmp 81) (.tmp 102) (.const (.bool false))), none⟩])
  (.cond (.tmp 103) (.seq (.region 0 [
    ⟨(some 104), (.call 25 []), none⟩,
    ⟨(some 6), (.mov (.tmp 104)), none⟩])
  .ret) .skip))))
  (.region 0 [
    ⟨(some 105), (.binI .add .i64 (.tmp 70) (.const (.int .i64 1))), none⟩,
    ⟨(some 70), (.mov (.tmp 105)), none⟩])))))))
def b9_7 : AC := (.dregion 4 [
    ⟨(some 106), (.bsl 0 18 [(.v (.string ⟨#[]⟩)), (.v (.int .i64 0)), (.v (.int .i64 0)), (.v (.int .i64 0)), (.v (.slice none 0 0)), (.v (.int .i64 0)), (.v (.string ⟨#[]⟩)), (.v (.int .i64 0)), (.v (.string ⟨#[]⟩)), (.v (.int .i64 0)), (.v (.bool false)), (.v (.string ⟨#[]⟩)), (.v (.string ⟨#[]⟩)), (.v (.string ⟨#[]⟩)), (.v (.string ⟨#[]⟩)), (.v (.string ⟨#[]⟩)), (.v (.int .i64 0)), (.v (.string ⟨#[]⟩))] 0 []), none⟩,
    ⟨(some 107), (.mov (.tmp 0)), none⟩,
    ⟨(some 108), (.app 1 18 232 (.tmp 106) (.tmp 107)), none⟩,
    ⟨(some 109), (.load true 18 (.tmp 8)), none⟩,
    ⟨(some 110), (.bsl 2 18 [(.v (.string ⟨#[]⟩)), (.v (.int .i64 0)), (.v (.int .i64 0)), (.v (.int .i64 0)), (.v (.slice none 0 0)), (.v (.int .i64 0)), (.v (.string ⟨#[]⟩)), (.v (.int .i64 0)), (.v (.string ⟨#[]⟩)), (.v (.int .i64 0)), (.v (.bool false)), (.v (.string ⟨#[]⟩)), (.v (.string ⟨#[]⟩)), (.v (.string ⟨#[]⟩)), (.v (.string ⟨#[]⟩)), (.v (.string ⟨#[]⟩)), (.v (.int .i64 0)), (.v (.string ⟨#[]⟩))] 1 [(0, (.tmp 109))]), none⟩,
    ⟨(some 111), (.app 3 18 232 (.tmp 108) (.tmp 110)), none⟩,
    ⟨(some 14), (.mov (.tmp 111)), none⟩] [[], [], [0, 1], [], [3], [2, 4, 2], [5, 5, 0, 1, 2, 3, 4, 5]])
def b9_8 : AC := (.seq (.region 0 [
    ⟨(some 112), (.mov (.tmp 7)), none⟩,
    ⟨(some 113), (.lenL (.tmp 112)), none⟩,
    ⟨(some 114), (.mov (.const (.int .i64 0))), none⟩])
  (.block 4 (.loop (.seq (.region 0 [
    ⟨(some 115), (.binI .lss .i64 (.tmp 114) (.tmp 113)), none⟩])
  (.seq (.cond (.tmp 115) .skip (.exit 4))
  (.seq (.block 5 (.seq (.region 1 [
    ⟨(some 116), (.iaddr 3 (.tmp 112) (.tmp 114)), none⟩,
    ⟨(some 117), (.load true 3 (.tmp 116)), none⟩,
    ⟨(some 16), (.zero 0 [(.v (.string ⟨#[]⟩)), (.v (.int .i64 0)), (.v (.int .i64 0))]), none⟩,
    ⟨none, (.store 3 (.tmp 16) (.tmp 117)), none⟩])
  (.seq (.region 0 [
    ⟨(some 118), (.faddr 0 (.tmp 16)), none⟩,
    ⟨(some 119), (.load false 1 (.tmp 118)), none⟩,
    ⟨(some 120), (.faddr 0 (.tmp 8)), none⟩,
    ⟨(some 121), (.faddr 0 (.tmp 120)), none⟩,
    ⟨(some 122), (.load false 1 (.tmp 121)), none⟩,
    ⟨(some 123), (.binS .eql (.tmp 119) (.tmp 122)), none⟩])
  (.cond (.tmp 123) (.seq (.region 0 [
    ⟨(some 124), (.call 25 []), none⟩,
    ⟨(some 6), (.mov (.tmp 124)), none⟩])
  .ret) .skip))))
  (.region 0 [
    ⟨(some 125), (.binI .add .i64 (.tmp 114) (.const (.int .i64 1))), none⟩,
    ⟨(some 114), (.mov (.tmp 125)), none⟩])))))))
def b9_9 : AC := (.region 0 [
    ⟨(some 126), (.mov (.tmp 0)), none⟩,
    ⟨(some 127), (.mov (.tmp 1)), none⟩,
    ⟨(some 128), (.mov (.tmp 7)), none⟩,
    ⟨(some 129), (.call 28 [(.tmp 126), (.tmp 127), (.tmp 128)]), none⟩,
    ⟨(some 17), (.mov (.tmp 129)), none⟩])
def b9_10 : AC := (.region 0 [
    ⟨(some 130), (.call 25 []), none⟩,
    ⟨(some 131), (.mov (.tmp 130)), none⟩,
    ⟨(some 132), (.mov (.tmp 14)), (some (131, true))⟩,
    ⟨(some 133), (.mov (.tmp 1)), (some (131, true))⟩,
    ⟨(some 134), (.mov (.tmp 7)), (some (131, true))⟩,
    ⟨(some 135), (.call 28 [(.tmp 132), (.tmp 133), (.tmp 134)]), (some (131, true))⟩,
    ⟨(some 136), (.mov (.tmp 17)), (some (131, true))⟩,
    ⟨(some 137), (.binI .geq .i64 (.tmp 135) (.tmp 136)), (some (131, true))⟩,
    ⟨(some 138), (.pick (.tmp 131) (.tmp 137) (.const (.bool false))), none⟩,
    ⟨(some 139), (.mov (.tmp 138)), none⟩,
    ⟨(some 140), (.mov (.tmp 14)), (some (139, true))⟩,
    ⟨(some 141), (.mov (.tmp 1)), (some (139, true))⟩,
    ⟨(some 142), (.mov (.tmp 7)), (some (139, true))⟩,
    ⟨(some 143), (.call 30 [(.tmp 140), (.tmp 141), (.tmp 142)]), (some (139, true))⟩,
    ⟨(some 144), (.mov (.tmp 0)), (some (139, true))⟩,
    ⟨(some 145), (.mov (.tmp 1)), (some (139, true))⟩,
    ⟨(some 146), (.mov (.tmp 7)), (some (139, true))⟩,
    ⟨(some 147), (.call 30 [(.tmp 144), (.tmp 145), (.tmp 146)]), (some (139, true))⟩,
    ⟨(some 148), (.binI .geq .i64 (.tmp 143) (.tmp 147)), (some (139, true))⟩,
    ⟨(some 149), (.pick (.tmp 139) (.tmp 148) (.const (.bool false))), none⟩,
    ⟨(some 150), (.mov (.tmp 149)), none⟩,
    ⟨(some 151), (.faddr 2 (.tmp 8)), (some (150, true))⟩,
    ⟨(some 152), (.load false 1 (.tmp 151)), (some (150, true))⟩,
    ⟨(some 153), (.mov (.tmp 17)), (some (150, true))⟩,
    ⟨(some 154), (.binI .gtr .i64 (.tmp 152) (.tmp 153)), (some (150, true))⟩,
    ⟨(some 155), (.pick (.tmp 150) (.tmp 154) (.const (.bool false))), none⟩,
    ⟨(some 6), (.mov (.tmp 155)), none⟩])
def b9_11 : AC := .ret
def b9 : AC := (.seq b9_0 (.seq b9_1 (.seq b9_2 (.seq b9_3 (.seq b9_4 (.seq b9_5 (.seq b9_6 (.seq b9_7 (.seq b9_8 (.seq b9_9 (.seq b9_10 b9_11)))))))))))
def ir9 : AF := ⟨156, [(.tmp 6)], b9⟩
theorem c9 : compF tt Try.f9 = some ir9 := by kernel_rfl
end Go.Aw.Try

namespace Go.Aw.Try
open Go Go.Proofs Go.Aw
set_option maxRecDepth 100000
set_option maxHeartbeats 4000000
/-! ### one edit more -/
theorem sortE_snoc (l : List Edit) (e : Edit) : sortE (l ++ [e]) = insR cmpE (sortE l) e := by
  rw [← sortE_refS, ← sortE_refS, refS, List.foldl_append]; rfl
theorem insR_mid (e : Edit) : ∀ (l : List Edit), (∀ y ∈ l, cmpE y e ≠ 0) → ∃ a b, l = a ++ b ∧ insR cmpE l e = a ++ e :: b
  | [], _ => ⟨[], [], rfl, rfl⟩
  | y :: r, h => by
    simp only [insR]
    rw [if_neg (h y List.mem_cons_self)]
    split
    · exact ⟨[], y :: r, rfl, rfl⟩
    · obtain ⟨a, b, h1, h2⟩ := insR_mid e r fun z hz => h z (List.mem_cons_of_mem _ hz)
      exact ⟨y :: a, b, by rw [h1]; rfl, by rw [h2]; rfl⟩
theorem sortE_in {l : List Edit} {x : Edit} (h : x ∈ sortE l) : x ∈ l := by
  have h1 : x ∈ cls cmpE x (sortE l) := mem_cls.2 ⟨h, cmpE_pre.rf x⟩
  rw [sortE_cls] at h1
  exact (mem_cls.1 (List.mem_of_mem_take h1)).1
/-- A new edit, later than all others of its author. -/
structure Later (l : List Edit) (e : Edit) : Prop where
  h : ∀ o ∈ l, o.id.a = e.id.a → o.id.n < e.id.n ∧ o.clock < e.clock ∧ o.floor ≤ e.floor
theorem Later.eff {l : List Edit} {e : Edit} (h : Later l e) {cuts : List Cutoff} (hc : cutBy cuts e = false) : ∃ a b, effE l cuts = a ++ b ∧ effE (l ++ [e]) cuts = a ++ e :: b := by
  obtain ⟨a, b, h1, h2⟩ := insR_mid e (sortE l) fun y hy q => by
    have q1 := (cmpE_id q).1
    have := (h.h y (sortE_in hy) (by rw [q1])).1
    rw [q1] at this; omega
  refine ⟨a.filter fun e => !cutBy cuts e, b.filter fun e => !cutBy cuts e, ?_, ?_⟩
  · unfold effE; rw [h1, List.filter_append]
  · unfold effE; rw [sortE_snoc, h2, List.filter_append]
    simp [List.filter_cons, hc]
def bnd (e : Edit) (s : Option Kn) : Prop := ∀ k, s = some k → k.c < e.clock ∧ k.f ≤ e.floor ∧ k.n < e.id.n
theorem bnd_fold (e : Edit) : ∀ (l : List Edit), (∀ o ∈ l, o.id.a = e.id.a → o.id.n < e.id.n ∧ o.clock < e.clock ∧ o.floor ≤ e.floor) → ∀ s, bnd e s → bnd e (l.foldl (knStep e.id.a) s)
  | [], _, s, h => h
  | o :: r, hl, s, h => by
    rw [List.foldl_cons]
    refine bnd_fold e r (fun x hx => hl x (List.mem_cons_of_mem _ hx)) _ ?_
    unfold knStep
    by_cases ho : o.id.a = e.id.a
    · rw [if_pos ho]
      obtain ⟨q1, q2, q3⟩ := hl o List.mem_cons_self ho
      intro k hk
      injection hk with hk
      subst hk
      cases s with
      | none => exact ⟨q2, q3, q1⟩
      | some s =>
        obtain ⟨p1, p2, p3⟩ := h s rfl
        simp only [kstep]
        refine ⟨?_, ?_, ?_⟩ <;> split <;> assumption
    · rw [if_neg ho]; exact h
theorem top_fold (e : Edit) : ∀ (l : List Edit), (∀ o ∈ l, o.id.a = e.id.a → o.id.n < e.id.n ∧ o.clock < e.clock ∧ o.floor ≤ e.floor) → l.foldl (knStep e.id.a) (some ⟨e.clock, e.floor, e.id.n⟩) = some ⟨e.clock, e.floor, e.id.n⟩
  | [], _ => rfl
  | o :: r, hl => by
    rw [List.foldl_cons]
    have : knStep e.id.a (some ⟨e.clock, e.floor, e.id.n⟩) o = some ⟨e.clock, e.floor, e.id.n⟩ := by
      unfold knStep
      by_cases ho : o.id.a = e.id.a
      · obtain ⟨q1, q2, q3⟩ := hl o List.mem_cons_self ho
        rw [if_pos ho]
        simp only [kstep]
        rw [if_neg (by omega), if_neg (by omega), if_neg (by omega)]
      · rw [if_neg ho]
    rw [this]
    exact top_fold e r fun x hx => hl x (List.mem_cons_of_mem _ hx)
theorem eff_in {l : List Edit} {cuts : List Cutoff} {x : Edit} (h : x ∈ effE l cuts) : x ∈ l := sortE_in (List.mem_filter.1 h).1
theorem Later.own {l : List Edit} {e : Edit} (h : Later l e) {cuts : List Cutoff} (hc : cutBy cuts e = false) :
    bnd e (knE (effE l cuts) e.id.a) ∧ knE (effE (l ++ [e]) cuts) e.id.a = some ⟨e.clock, e.floor, e.id.n⟩ := by
  obtain ⟨a, b, h1, h2⟩ := h.eff hc
  have hin : ∀ o ∈ a ++ b, o.id.a = e.id.a → o.id.n < e.id.n ∧ o.clock < e.clock ∧ o.floor ≤ e.floor := fun o ho => h.h o (eff_in (cuts := cuts) (by rw [h1]; exact ho))
  refine ⟨?_, ?_⟩
  · rw [h1]; exact bnd_fold e _ hin none (fun k hk => by cases hk)
  · rw [h2]; unfold knE
    rw [List.foldl_append, List.foldl_cons]
    have hb := bnd_fold e a (fun o ho => hin o (by simp [ho])) none (fun k hk => by cases hk)
    have : knStep e.id.a (a.foldl (knStep e.id.a) none) e = some ⟨e.clock, e.floor, e.id.n⟩ := by
      unfold knStep at *
      rw [if_pos rfl]
      cases hs : a.foldl (fun s x => if x.id.a = e.id.a then some (kstep s x) else s) none with
      | none => rfl
      | some k =>
        obtain ⟨p1, p2, p3⟩ := hb k hs
        simp only [kstep]
        rw [if_pos p1, if_pos p3, if_pos p3]
    rw [this]
    exact top_fold e b fun o ho => hin o (by simp [ho])
theorem Later.other {l : List Edit} {e : Edit} (h : Later l e) {cuts : List Cutoff} (hc : cutBy cuts e = false) {nm : ByteArray} (hn : nm ≠ e.id.a) :
    knE (effE (l ++ [e]) cuts) nm = knE (effE l cuts) nm := by
  obtain ⟨a, b, h1, h2⟩ := h.eff hc
  rw [h1, h2]; unfold knE
  rw [List.foldl_append, List.foldl_cons, List.foldl_append]
  congr 1
  unfold knStep; rw [if_neg (fun q => hn q.symm)]
theorem Later.clk {l : List Edit} {e : Edit} (h : Later l e) {cuts : List Cutoff} (hc : cutBy cuts e = false) (h1 : 1 ≤ e.clock) (m : Member) : clk l cuts m ≤ Try.clk (l ++ [e]) cuts m := by
  unfold Try.clk
  by_cases hm : m.name = e.id.a
  · obtain ⟨q1, q2⟩ := h.own hc
    rw [hm, q2]
    cases hk : knE (effE l cuts) e.id.a with
    | none => show (0 : Int) ≤ e.clock; omega
    | some k => have := (q1 k hk).1; show k.c ≤ e.clock; omega
  · rw [h.other hc hm]; exact Int.le_refl _
theorem Later.flr {l : List Edit} {e : Edit} (h : Later l e) {cuts : List Cutoff} (hc : cutBy cuts e = false) (h1 : 0 ≤ e.floor) (m : Member) : flr l cuts m ≤ Try.flr (l ++ [e]) cuts m := by
  unfold Try.flr
  by_cases hm : m.name = e.id.a
  · obtain ⟨q1, q2⟩ := h.own hc
    rw [hm, q2]
    cases hk : knE (effE l cuts) e.id.a with
    | none => exact h1
    | some k => exact (q1 k hk).2.1
  · rw [h.other hc hm]; exact Int.le_refl _
theorem Later.was {l : List Edit} {e : Edit} (h : Later l e) {cuts : List Cutoff} (hc : cutBy cuts e = false) (h1 : 1 ≤ e.clock) {m : Member} (hm : m.name = e.id.a) : Try.clk l cuts m < e.clock := by
  unfold Try.clk
  obtain ⟨q1, q2⟩ := h.own hc
  rw [hm]
  cases hk : knE (effE l cuts) e.id.a with
  | none => show (0 : Int) < e.clock; omega
  | some k => exact (q1 k hk).1
/-! ### the least -/
theorem minI_le_l (a b : Int) : minI a b ≤ a := by unfold minI; split <;> omega
theorem minI_le_r (a b : Int) : minI a b ≤ b := by unfold minI; split <;> omega
theorem minI_mono {a b c d : Int} (h1 : a ≤ c) (h2 : b ≤ d) : minI a b ≤ minI c d := by unfold minI; split <;> split <;> omega
theorem foldl_minI_le (l : List Int) : ∀ a : Int, l.foldl minI a ≤ a := by
  induction l with
  | nil => intro a; exact Int.le_refl _
  | cons x r ih => intro a; exact Int.le_trans (ih _) (minI_le_l _ _)
theorem foldl_minI_mem (l : List Int) : ∀ (a x : Int), x ∈ l → l.foldl minI a ≤ x := by
  induction l with
  | nil => intro a x h; cases h
  | cons y r ih =>
    intro a x h
    rw [List.foldl_cons]
    rcases List.mem_cons.1 h with rfl | h
    · exact Int.le_trans (foldl_minI_le r _) (minI_le_r _ _)
    · exact ih _ x h
theorem minL_mem {l : List Int} {x : Int} (h : x ∈ l) : minL l ≤ x := by
  cases l with
  | nil => cases h
  | cons y r =>
    rcases List.mem_cons.1 h with rfl | h
    · exact foldl_minI_le r _
    · exact foldl_minI_mem r _ x h
theorem foldl_minI_mono {E : Type} {f g : E → Int} (l : List E) (h : ∀ x ∈ l, f x ≤ g x) : ∀ {a b : Int}, a ≤ b → (l.map f).foldl minI a ≤ (l.map g).foldl minI b := by
  induction l with
  | nil => intro a b h; exact h
  | cons x r ih => intro a b hab; exact ih (fun y hy => h y (List.mem_cons_of_mem _ hy)) (minI_mono hab (h x List.mem_cons_self))
theorem minL_mono {E : Type} {f g : E → Int} (l : List E) (X : List Int) (h : ∀ x ∈ l, f x ≤ g x) (h0 : l ≠ []) : minL (l.map f ++ X) ≤ minL (l.map g ++ X) := by
  cases l with
  | nil => exact absurd rfl h0
  | cons x r =>
    simp only [List.map_cons, List.cons_append, minL, List.foldl_append]
    have h1 := foldl_minI_mono (f := f) (g := g) r (fun y hy => h y (List.mem_cons_of_mem _ hy)) (h x List.mem_cons_self)
    have h2 := foldl_minI_mono (f := fun x : Int => x) (g := fun x => x) X (fun _ _ => Int.le_refl _) h1
    simpa using h2
theorem leastE_mono {f g : Member → Int} {l l' : List Edit} {all : List Member} {cuts : List Cutoff} (hf : ∀ m, f m ≤ g m) (hb : ∀ c ∈ cuts, badC l' c = badC l c) (hk : ∀ c ∈ cuts, backE l' c = backE l c) :
    leastE f l all cuts ≤ leastE g l' all cuts := by
  unfold leastE
  have e1 : cuts.any (badC l') = cuts.any (badC l) := by
    rw [Bool.eq_iff_iff, List.any_eq_true, List.any_eq_true]
    constructor
    · rintro ⟨c, h1, h2⟩; exact ⟨c, h1, by rw [← hb c h1]; exact h2⟩
    · rintro ⟨c, h1, h2⟩; exact ⟨c, h1, by rw [hb c h1]; exact h2⟩
  have e2 : backs l' cuts = backs l cuts := List.map_congr_left fun c hc => hk c (List.mem_filter.1 hc).1
  rw [e1, e2]
  have e3 : (stay f all cuts = []) ↔ (stay g all cuts = []) := by unfold stay; simp
  by_cases h0 : stay f all cuts = []
  · rw [if_pos h0, if_pos (e3.1 h0)]; exact Int.le_refl _
  · rw [if_neg h0, if_neg (fun q => h0 (e3.2 q))]
    split
    · exact Int.le_refl _
    · exact minL_mono _ _ (fun m _ => hf m) (fun q => h0 (by unfold stay; rw [q]; rfl))
theorem leastE_lt {f : Member → Int} {l : List Edit} {all : List Member} {cuts : List Cutoff} {m : Member} {v : Int} (hm : m ∈ all) (hg : goneBy cuts m.name = false) (h : f m < v) (h0 : 0 < v) : leastE f l all cuts < v := by
  unfold leastE
  have hin : f m ∈ stay f all cuts := List.mem_map.2 ⟨m, List.mem_filter.2 ⟨hm, by simp [hg]⟩, rfl⟩
  rw [if_neg (fun q => by rw [q] at hin; cases hin)]
  split
  · exact h0
  · exact Int.lt_of_le_of_lt (minL_mem (List.mem_append_left _ hin)) h
theorem whole_snoc {l : List Edit} {e : Edit} {c : Cutoff} (h : c.who ≠ e.id.a) : wholeR (l ++ [e]) c = wholeR l c := by
  have h' : ¬ e.id.a = c.who := fun q => h q.symm
  unfold wholeR; rw [List.any_append]; simp [h']
theorem back_snoc {l : List Edit} {e : Edit} {c : Cutoff} (h : c.who ≠ e.id.a) : backE (l ++ [e]) c = backE l c := by
  unfold backE
  have : [e].find? (fun e => decide (e.id.a = c.who ∧ e.id.n = c.n)) = none := by
    have h' : ¬ e.id.a = c.who := fun q => h q.symm
    simp [h']
  rw [List.find?_append, this]
  cases l.find? (fun e => decide (e.id.a = c.who ∧ e.id.n = c.n)) <;> rfl
theorem cut_none {cuts : List Cutoff} {e : Edit} (h : ∀ c ∈ cuts, c.who ≠ e.id.a) : cutBy cuts e = false := by
  cases hb : cutBy cuts e
  · rfl
  · obtain ⟨c, h1, _, h3, _⟩ := (cutBy_iff cuts e).1 hb
    exact absurd h3 (h c h1)
/-- The law: one edit more lowers nothing. -/
theorem stable_more {l : List Edit} {all : List Member} {cuts : List Cutoff} {e : Edit} (h : Later l e) (hc : ∀ c ∈ cuts, c.who ≠ e.id.a) (h1 : 1 ≤ e.clock) (h0 : 0 ≤ e.floor) {m : Member} (hm : m ∈ all) (hn : m.name = e.id.a) :
    stableC l all cuts ≤ stableC (l ++ [e]) all cuts ∧ stableF l all cuts ≤ stableF (l ++ [e]) all cuts ∧ stableC l all cuts < e.clock := by
  have hcut := cut_none hc
  have hb : ∀ c ∈ cuts, badC (l ++ [e]) c = badC l c := fun c h => by unfold badC; rw [whole_snoc (hc c h)]
  have hk : ∀ c ∈ cuts, backE (l ++ [e]) c = backE l c := fun c h => back_snoc (hc c h)
  refine ⟨leastE_mono (h.clk hcut h1) hb hk, leastE_mono (h.flr hcut h0) hb hk, leastE_lt hm ?_ (h.was hcut h1 hn) (by omega)⟩
  cases hg : goneBy cuts m.name
  · rfl
  · obtain ⟨c, q1, q2⟩ := List.any_eq_true.1 hg
    simp at q2
    exact absurd (q2.2.trans hn) (hc c q1)
end Go.Aw.Try

namespace Go.Aw.Try
open Go Go.Proofs Go.Aw
set_option maxRecDepth 100000
set_option maxHeartbeats 4000000
theorem k9 (l : List Edit) (all : List Member) (cuts : List Cutoff) (e : Edit) (hl : gtot l + gsz e < 34359738368) (ha : all.length < 34359738368) (hc : cuts.length < 34359738368) :
    ACalls Try.prog G0 9 [.c (.d (.sl (l.map Edit.row))), .c (.d (.sl (all.map Member.row))), .agg (.d (.sl (cuts.map Cutoff.row)) :: e.row.map .d)] [] fun t H => t = .bool true ∧ H = [] := by
  have hlen := gtot_len l
  have hee : e.row = [.v (.string e.id.a), .v (.int .i64 e.id.n), .v (.int .i64 e.clock), .v (.int .i64 e.floor), .sl (e.deps.map Id.row), .v (.int .i64 e.kind), .v (.string e.node.a), .v (.int .i64 e.node.n), .v (.string e.parent.a), .v (.int .i64 e.parent.n), .v (.bool e.neg), .v (.string e.num), .v (.string e.den), .v (.string e.field), .v (.string e.value), .v (.string e.target.a), .v (.int .i64 e.target.n), .v (.string e.who)] := rfl
  have hge : gtot (l ++ [e]) = gtot l + gsz e := by simp [gtot]
  have h24 : x24.sc = true := rfl
  have h71 : x71.sc = true := rfl
  have h28 : x28.sc = true := rfl
  have h30 : x30.sc = true := rfl
  have g24 := xg24 (l ++ [e]) all cuts (by omega)
  have g71 := xg71 e.id.a cuts (by omega)
  have g28 := xg28 l all cuts (by omega) ha hc
  have g30 := xg30 l all cuts (by omega) ha hc
  have g28' := xg28 (l ++ [e]) all cuts (by simp; omega) ha hc
  have g30' := xg30 (l ++ [e]) all cuts (by simp; omega) ha hc
  have e0 : (l.map Edit.row ++ [e.row]).take (l.length + 1) = l.map Edit.row ++ [e.row] := by rw [List.take_of_length_le (by simp)]
  have e1 : ∀ y, y ∈ l.map Edit.row → y.length = 18 := by
    intro y h; obtain ⟨x, _, rfl⟩ := List.mem_map.1 h; rfl
  simp only [List.map_append, List.map_cons, List.map_nil] at g24 g28' g30'
  rw [hee] at g24 g28' g30' e0
  rw [hee]
  refine acallsX (X := [(24, x24), (25, x25), (32, x71), (28, x28), (30, x30)]) ⟨kx24, kx25, kx32, kx28, kx30, trivial⟩ tab hmix Try.func9 c9 (by rfl) fun hw => ?_
  cases hg : greatB (l ++ [e]) all cuts
  · rw [hg] at g24
    simp (implicitDefEqProofs := false) (disch := omega) [List.getElem?_cons_zero, ir9, b9, b9_0, b9_1, b9_2, b9_3, b9_4, h24, g24, x25, e0, splice, fillC, wrap64]
    repeat' apply And.intro
    all_goals first | omega | kernel_rfl | exact fun _ _ => rfl | skip
    refine loopE (fun k s => ∃ (i : Nat) (b : Bool), i ≤ all.length ∧ k = all.length - i ∧ b = ((all.take i).any fun m => decide (m.name = e.id.a)) ∧
        s = ⟨ofL ([(0, .v (.c (.d (.sl (l.map Edit.row))))), (1, .v (.c (.d (.sl (all.map Member.row))))), (7, .v (.c (.d (.sl (cuts.map Cutoff.row))))), (8, .v (.c (.ptr 0 0))), (9, .bool b), (32, .v (.c (.d (.sl (all.map Member.row))))), (33, .int .i64 all.length), (34, .int .i64 i)]), [.cells [.d (.v (.string e.id.a)), .d (.v (.int .i64 e.id.n)), .d (.v (.int .i64 e.clock)), .d (.v (.int .i64 e.floor)), .d (.sl (e.deps.map Id.row)), .d (.v (.int .i64 e.kind)), .d (.v (.string e.node.a)), .d (.v (.int .i64 e.node.n)), .d (.v (.string e.parent.a)), .d (.v (.int .i64 e.parent.n)), .d (.v (.bool e.neg)), .d (.v (.string e.num)), .d (.v (.string e.den)), .d (.v (.string e.field)), .d (.v (.string e.value)), .d (.v (.string e.target.a)), .d (.v (.int .i64 e.target.n)), .d (.v (.string e.who))]]⟩)
      (fun s => AtS ([(0, .v (.c (.d (.sl (l.map Edit.row))))), (1, .v (.c (.d (.sl (all.map Member.row))))), (7, .v (.c (.d (.sl (cuts.map Cutoff.row))))), (8, .v (.c (.ptr 0 0))), (9, .bool (all.any fun m => decide (m.name = e.id.a)))]) [.cells [.d (.v (.string e.id.a)), .d (.v (.int .i64 e.id.n)), .d (.v (.int .i64 e.clock)), .d (.v (.int .i64 e.floor)), .d (.sl (e.deps.map Id.row)), .d (.v (.int .i64 e.kind)), .d (.v (.string e.node.a)), .d (.v (.int .i64 e.node.n)), .d (.v (.string e.parent.a)), .d (.v (.int .i64 e.parent.n)), .d (.v (.bool e.neg)), .d (.v (.string e.num)), .d (.v (.string e.den)), .d (.v (.string e.field)), .d (.v (.string e.value)), .d (.v (.string e.target.a)), .d (.v (.int .i64 e.target.n)), .d (.v (.string e.who))]] s) ?_ ?_ ?_
    · refine wk_nil [1] [0, 1, 7, 8, 9, 32, 33, 34] rfl ⟨_, 0, false, by omega, rfl, rfl, ?_⟩
      simp [phi, O.ren]
    · rintro J L hJ hL k s ⟨i, b, hi, rfl, hb, rfl⟩
      by_cases hlt : i < all.length
      · obtain ⟨m, hm⟩ : ∃ m, nth all i = m := ⟨_, rfl⟩
        have hme : m.row = [.v (.string m.name), .v (.string m.key)] := rfl
        have hst := take_any (fun m : Member => decide (m.name = e.id.a)) hlt
        rw [← hb, hm] at hst
        have hfin : ∀ (sl : Nat → T) (O1 : O) (b' : Bool), b' = (b || decide (m.name = e.id.a)) → sl 0 = .v (.c (.d (.sl (l.map Edit.row)))) → sl 1 = .v (.c (.d (.sl (all.map Member.row)))) → sl 7 = .v (.c (.d (.sl (cuts.map Cutoff.row)))) → sl 8 = .v (.c (.ptr 0 0)) → sl 9 = .bool b' → sl 32 = .v (.c (.d (.sl (all.map Member.row)))) → sl 33 = .int .i64 all.length → sl 34 = .int .i64 (i + 1 : Nat) →
            wk Try.prog G0 0 ⟨sl, [.cells [.d (.v (.string e.id.a)), .d (.v (.int .i64 e.id.n)), .d (.v (.int .i64 e.clock)), .d (.v (.int .i64 e.floor)), .d (.sl (e.deps.map Id.row)), .d (.v (.int .i64 e.kind)), .d (.v (.string e.node.a)), .d (.v (.int .i64 e.node.n)), .d (.v (.string e.parent.a)), .d (.v (.int .i64 e.parent.n)), .d (.v (.bool e.neg)), .d (.v (.string e.num)), .d (.v (.string e.den)), .d (.v (.string e.field)), .d (.v (.string e.value)), .d (.v (.string e.target.a)), .d (.v (.int .i64 e.target.n)), .d (.v (.string e.who))], O1]⟩ fun s'' => ∃ k', k' < all.length - i ∧ J k' s'' := fun sl O1 b' hb' h0 h1 h7 h8 h9 h32 h33 h34 => by
          subst hJ
          refine wk_nil [0] [0, 1, 7, 8, 9, 32, 33, 34] rfl ⟨all.length - (i + 1), by omega, i + 1, b', by omega, rfl, by rw [hst, hb'], ?_⟩
          simp [phi, O.ren, h0, h1, h7, h8, h9, h32, h33, h34]
        cases b
        · by_cases h1 : m.name = e.id.a
          · simp (implicitDefEqProofs := false) (disch := omega) [List.getElem?_cons_zero, hlt, nth_map, hm, hme, h1, binSF, splice, wrap64]
            exact hfin _ _ true (by simp [h1]) (by simp) (by simp) (by simp) (by simp) (by simp) (by simp) (by simp) (by simp)
          · simp (implicitDefEqProofs := false) (disch := omega) [List.getElem?_cons_zero, hlt, nth_map, hm, hme, h1, binSF, splice, wrap64]
            exact hfin _ _ false (by simp [h1]) (by simp) (by simp) (by simp) (by simp) (by simp) (by simp) (by simp) (by simp)
        · simp (implicitDefEqProofs := false) (disch := omega) [List.getElem?_cons_zero, hlt, nth_map, hm, hme, binSF, splice, wrap64]
          exact hfin _ _ true (by simp) (by simp) (by simp) (by simp) (by simp) (by simp) (by simp) (by simp) (by simp)
      · have : i = all.length := by omega
        subst this
        rw [List.take_length] at hb
        subst hb
        simp (implicitDefEqProofs := false) (disch := omega) [List.getElem?_cons_zero, hlt]
        subst hL
        exact at_mk (by simp) rfl
    · rintro _ ⟨sl, rfl⟩
      cases hmem : (all.any fun m => decide (m.name = e.id.a))
      · simp (implicitDefEqProofs := false) (disch := omega) [List.getElem?_cons_zero, b9_5, x25]
        exact fin_nil ⟨rfl, rfl⟩
      · cases hgo : goneBy cuts e.id.a
        · rw [hgo] at g71
          by_cases hcl : e.clock < 1
          · simp (implicitDefEqProofs := false) (disch := omega) [List.getElem?_cons_zero, b9_5, h71, g71, hcl, x25]
            exact fin_nil ⟨rfl, rfl⟩
          · by_cases hfl : e.floor < 0
            · simp (implicitDefEqProofs := false) (disch := omega) [List.getElem?_cons_zero, b9_5, h71, g71, hcl, hfl, x25]
              exact fin_nil ⟨rfl, rfl⟩
            · simp (implicitDefEqProofs := false) (disch := omega) [List.getElem?_cons_zero, b9_5, b9_6, h71, g71, hcl, hfl, wrap64]
              refine loopE (fun k s => ∃ (i : Nat), i ≤ l.length ∧ k = l.length - i ∧ (∀ o ∈ l.take i, o.id.a = e.id.a → o.id.n < e.id.n ∧ o.clock < e.clock ∧ o.floor ≤ e.floor) ∧
                  s = ⟨ofL ([(0, .v (.c (.d (.sl (l.map Edit.row))))), (1, .v (.c (.d (.sl (all.map Member.row))))), (7, .v (.c (.d (.sl (cuts.map Cutoff.row))))), (8, .v (.c (.ptr 0 0))), (68, .v (.c (.d (.sl (l.map Edit.row))))), (69, .int .i64 l.length), (70, .int .i64 i)]), [.cells [.d (.v (.string e.id.a)), .d (.v (.int .i64 e.id.n)), .d (.v (.int .i64 e.clock)), .d (.v (.int .i64 e.floor)), .d (.sl (e.deps.map Id.row)), .d (.v (.int .i64 e.kind)), .d (.v (.string e.node.a)), .d (.v (.int .i64 e.node.n)), .d (.v (.string e.parent.a)), .d (.v (.int .i64 e.parent.n)), .d (.v (.bool e.neg)), .d (.v (.string e.num)), .d (.v (.string e.den)), .d (.v (.string e.field)), .d (.v (.string e.value)), .d (.v (.string e.target.a)), .d (.v (.int .i64 e.target.n)), .d (.v (.string e.who))]]⟩)
                (fun s => Later l e ∧ AtS [(0, .v (.c (.d (.sl (l.map Edit.row))))), (1, .v (.c (.d (.sl (all.map Member.row))))), (7, .v (.c (.d (.sl (cuts.map Cutoff.row))))), (8, .v (.c (.ptr 0 0)))] [.cells [.d (.v (.string e.id.a)), .d (.v (.int .i64 e.id.n)), .d (.v (.int .i64 e.clock)), .d (.v (.int .i64 e.floor)), .d (.sl (e.deps.map Id.row)), .d (.v (.int .i64 e.kind)), .d (.v (.string e.node.a)), .d (.v (.int .i64 e.node.n)), .d (.v (.string e.parent.a)), .d (.v (.int .i64 e.parent.n)), .d (.v (.bool e.neg)), .d (.v (.string e.num)), .d (.v (.string e.den)), .d (.v (.string e.field)), .d (.v (.string e.value)), .d (.v (.string e.target.a)), .d (.v (.int .i64 e.target.n)), .d (.v (.string e.who))]] s) ?_ ?_ ?_
              · refine wk_nil [0] [0, 1, 7, 8, 68, 69, 70] rfl ⟨_, 0, by omega, rfl, by simp, ?_⟩
                simp [phi, O.ren]
              · rintro J L hJ hL k s ⟨i, hi, rfl, hgood, rfl⟩
                by_cases hlt : i < l.length
                · obtain ⟨o, ho⟩ : ∃ o, nth l i = o := ⟨_, rfl⟩
                  have hoe : o.row = [.v (.string o.id.a), .v (.int .i64 o.id.n), .v (.int .i64 o.clock), .v (.int .i64 o.floor), .sl (o.deps.map Id.row), .v (.int .i64 o.kind), .v (.string o.node.a), .v (.int .i64 o.node.n), .v (.string o.parent.a), .v (.int .i64 o.parent.n), .v (.bool o.neg), .v (.string o.num), .v (.string o.den), .v (.string o.field), .v (.string o.value), .v (.string o.target.a), .v (.int .i64 o.target.n), .v (.string o.who)] := rfl
                  have hfin : (o.id.a = e.id.a → o.id.n < e.id.n ∧ o.clock < e.clock ∧ o.floor ≤ e.floor) → ∀ (sl : Nat → T) (O1 : O), sl 0 = .v (.c (.d (.sl (l.map Edit.row)))) → sl 1 = .v (.c (.d (.sl (all.map Member.row)))) → sl 7 = .v (.c (.d (.sl (cuts.map Cutoff.row)))) → sl 8 = .v (.c (.ptr 0 0)) → sl 68 = .v (.c (.d (.sl (l.map Edit.row)))) → sl 69 = .int .i64 l.length → sl 70 = .int .i64 (i + 1 : Nat) →
                      wk Try.prog G0 0 ⟨sl, [.cells [.d (.v (.string e.id.a)), .d (.v (.int .i64 e.id.n)), .d (.v (.int .i64 e.clock)), .d (.v (.int .i64 e.floor)), .d (.sl (e.deps.map Id.row)), .d (.v (.int .i64 e.kind)), .d (.v (.string e.node.a)), .d (.v (.int .i64 e.node.n)), .d (.v (.string e.parent.a)), .d (.v (.int .i64 e.parent.n)), .d (.v (.bool e.neg)), .d (.v (.string e.num)), .d (.v (.string e.den)), .d (.v (.string e.field)), .d (.v (.string e.value)), .d (.v (.string e.target.a)), .d (.v (.int .i64 e.target.n)), .d (.v (.string e.who))], O1]⟩ fun s'' => ∃ k', k' < l.length - i ∧ J k' s'' := fun hg sl O1 h0 h1 h7 h8 h68 h69 h70 => by
                    subst hJ
                    refine wk_nil [0] [0, 1, 7, 8, 68, 69, 70] rfl ⟨l.length - (i + 1), by omega, i + 1, by omega, rfl, fun x hx => ?_, ?_⟩
                    · rw [take_nth hlt, ho] at hx
                      rcases List.mem_append.1 hx with hx | hx
                      · exact hgood x hx
                      · rw [List.mem_singleton] at hx; rw [hx]; exact hg
                    · simp [phi, O.ren, h0, h1, h7, h8, h68, h69, h70]
                  by_cases q1 : o.id.a = e.id.a
                  · by_cases q2 : e.id.n ≤ o.id.n
                    · simp (implicitDefEqProofs := false) (disch := omega) [List.getElem?_cons_zero, hlt, nth_map, ho, hoe, q1, q2, binSF, splice, x25, wrap64]
                      exact fin_nil ⟨rfl, rfl⟩
                    · by_cases q3 : e.clock ≤ o.clock
                      · simp (implicitDefEqProofs := false) (disch := omega) [List.getElem?_cons_zero, hlt, nth_map, ho, hoe, q1, q2, q3, binSF, splice, x25, wrap64]
                        exact fin_nil ⟨rfl, rfl⟩
                      · by_cases q4 : e.floor < o.floor
                        · simp (implicitDefEqProofs := false) (disch := omega) [List.getElem?_cons_zero, hlt, nth_map, ho, hoe, q1, q2, q3, q4, binSF, splice, x25, wrap64]
                          exact fin_nil ⟨rfl, rfl⟩
                        · simp (implicitDefEqProofs := false) (disch := omega) [List.getElem?_cons_zero, hlt, nth_map, ho, hoe, q1, q2, q3, q4, binSF, splice, wrap64]
                          exact hfin (fun _ => ⟨by omega, by omega, by omega⟩) _ _ (by simp) (by simp) (by simp) (by simp) (by simp) (by simp) (by simp)
                  · simp (implicitDefEqProofs := false) (disch := omega) [List.getElem?_cons_zero, hlt, nth_map, ho, hoe, q1, binSF, splice, wrap64]
                    exact hfin (fun q => absurd q q1) _ _ (by simp) (by simp) (by simp) (by simp) (by simp) (by simp) (by simp)
                · have : i = l.length := by omega
                  subst this
                  rw [List.take_length] at hgood
                  simp (implicitDefEqProofs := false) (disch := omega) [List.getElem?_cons_zero, hlt]
                  subst hL
                  exact ⟨⟨hgood⟩, at_mk (by simp) rfl⟩
              · rintro _ ⟨hlat, sl, rfl⟩
                simp (implicitDefEqProofs := false) (disch := omega) [List.getElem?_cons_zero, b9_7, b9_8, e0, splice, fillC, wrap64]
                repeat' apply And.intro
                all_goals first | omega | kernel_rfl | exact fun _ _ => rfl | skip
                obtain ⟨R, hR⟩ : ∃ R, R = l.map Edit.row ++ [[.v (.string e.id.a) , .v (.int .i64 e.id.n) , .v (.int .i64 e.clock) , .v (.int .i64 e.floor) , .sl (e.deps.map Id.row) , .v (.int .i64 e.kind) , .v (.string e.node.a) , .v (.int .i64 e.node.n) , .v (.string e.parent.a) , .v (.int .i64 e.parent.n) , .v (.bool e.neg) , .v (.string e.num) , .v (.string e.den) , .v (.string e.field) , .v (.string e.value) , .v (.string e.target.a) , .v (.int .i64 e.target.n) , .v (.string e.who)]] := ⟨_, rfl⟩
                have lR : R.length = l.length + 1 := by rw [hR]; simp
                rw [← hR] at g28' g30' e0
                refine loopE (fun k s => ∃ (i : Nat), i ≤ cuts.length ∧ k = cuts.length - i ∧ (∀ c ∈ cuts.take i, c.who ≠ e.id.a) ∧
                    s = ⟨ofL ([(0, .v (.c (.d (.sl (l.map Edit.row))))), (1, .v (.c (.d (.sl (all.map Member.row))))), (7, .v (.c (.d (.sl (cuts.map Cutoff.row))))), (8, .v (.c (.ptr 0 0))), (14, .v (.c (.os 1 18 0 (l.length + 1)))), (112, .v (.c (.d (.sl (cuts.map Cutoff.row))))), (113, .int .i64 cuts.length), (114, .int .i64 i)]), [.cells [.d (.v (.string e.id.a)), .d (.v (.int .i64 e.id.n)), .d (.v (.int .i64 e.clock)), .d (.v (.int .i64 e.floor)), .d (.sl (e.deps.map Id.row)), .d (.v (.int .i64 e.kind)), .d (.v (.string e.node.a)), .d (.v (.int .i64 e.node.n)), .d (.v (.string e.parent.a)), .d (.v (.int .i64 e.parent.n)), .d (.v (.bool e.neg)), .d (.v (.string e.num)), .d (.v (.string e.den)), .d (.v (.string e.field)), .d (.v (.string e.value)), .d (.v (.string e.target.a)), .d (.v (.int .i64 e.target.n)), .d (.v (.string e.who))], .row 18 R]⟩)
                  (fun s => (∀ c ∈ cuts, c.who ≠ e.id.a) ∧ AtS [(0, .v (.c (.d (.sl (l.map Edit.row))))), (1, .v (.c (.d (.sl (all.map Member.row))))), (7, .v (.c (.d (.sl (cuts.map Cutoff.row))))), (8, .v (.c (.ptr 0 0))), (14, .v (.c (.os 1 18 0 (l.length + 1))))] [.cells [.d (.v (.string e.id.a)), .d (.v (.int .i64 e.id.n)), .d (.v (.int .i64 e.clock)), .d (.v (.int .i64 e.floor)), .d (.sl (e.deps.map Id.row)), .d (.v (.int .i64 e.kind)), .d (.v (.string e.node.a)), .d (.v (.int .i64 e.node.n)), .d (.v (.string e.parent.a)), .d (.v (.int .i64 e.parent.n)), .d (.v (.bool e.neg)), .d (.v (.string e.num)), .d (.v (.string e.den)), .d (.v (.string e.field)), .d (.v (.string e.value)), .d (.v (.string e.target.a)), .d (.v (.int .i64 e.target.n)), .d (.v (.string e.who))], .row 18 R] s) ?_ ?_ ?_
                · refine wk_nil [0, 4] [0, 1, 7, 8, 14, 112, 113, 114] rfl ⟨_, 0, by omega, rfl, by simp, ?_⟩
                  simp [phi, O.ren, hR]
                · rintro J L hJ hL k s ⟨i, hi, rfl, hgood, rfl⟩
                  by_cases hlt : i < cuts.length
                  · obtain ⟨c, hcc⟩ : ∃ c, nth cuts i = c := ⟨_, rfl⟩
                    have hce : c.row = [.v (.string c.who), .v (.int .i64 c.n), .v (.int .i64 c.err)] := rfl
                    by_cases q1 : c.who = e.id.a
                    · simp (implicitDefEqProofs := false) (disch := omega) [List.getElem?_cons_zero, hlt, nth_map, hcc, hce, q1, binSF, splice, x25, wrap64]
                      exact fin_nil ⟨rfl, rfl⟩
                    · simp (implicitDefEqProofs := false) (disch := omega) [List.getElem?_cons_zero, hlt, nth_map, hcc, hce, q1, binSF, splice, wrap64]
                      subst hJ
                      refine wk_nil [0, 1] [0, 1, 7, 8, 14, 112, 113, 114] rfl ⟨cuts.length - (i + 1), by omega, i + 1, by omega, rfl, fun x hx => ?_, ?_⟩
                      · rw [take_nth hlt, hcc] at hx
                        rcases List.mem_append.1 hx with hx | hx
                        · exact hgood x hx
                        · rw [List.mem_singleton] at hx; rw [hx]; exact q1
                      · simp [phi, O.ren]
                  · have : i = cuts.length := by omega
                    subst this
                    rw [List.take_length] at hgood
                    simp (implicitDefEqProofs := false) (disch := omega) [List.getElem?_cons_zero, hlt]
                    subst hL
                    exact ⟨hgood, at_mk (by simp) rfl⟩
                · rintro _ ⟨hcw, sl, rfl⟩
                  obtain ⟨m, hm1, hm2⟩ := List.any_eq_true.1 hmem
                  obtain ⟨s1, s2, s3⟩ := stable_more hlat hcw (by omega) (by omega) hm1 (by simpa using hm2)
                  simp (implicitDefEqProofs := false) (disch := omega) [List.getElem?_cons_zero, b9_9, b9_10, b9_11, h28, h30, g28, g30, g28', g30', e0, lR, s1, s2, s3, x25]
                  repeat' apply And.intro
                  all_goals first | omega | kernel_rfl | exact fun _ _ => rfl | skip
                  exact fin_nil ⟨rfl, rfl⟩
        · rw [hgo] at g71
          by_cases hcl : e.clock < 1
          · simp (implicitDefEqProofs := false) (disch := omega) [List.getElem?_cons_zero, b9_5, h71, g71, hcl, x25]
            exact fin_nil ⟨rfl, rfl⟩
          · simp (implicitDefEqProofs := false) (disch := omega) [List.getElem?_cons_zero, b9_5, h71, g71, hcl, x25]
            exact fin_nil ⟨rfl, rfl⟩
  · rw [hg] at g24
    simp (implicitDefEqProofs := false) (disch := omega) [List.getElem?_cons_zero, ir9, b9, b9_0, b9_1, b9_2, h24, g24, x25, e0, splice, fillC, wrap64]
    repeat' apply And.intro
    all_goals first | omega | kernel_rfl | exact fun _ _ => rfl | skip
    exact fin_nil ⟨rfl, rfl⟩
end Go.Aw.Try

namespace Go.Aw.Try
open Go Go.Proofs Go.Proofs.Ytlboedhconemnaa Go.Aw
set_option maxRecDepth 100000
/-- Cutoffs and an edit. -/
structure More where
  cuts : List Cutoff
  e : Edit
def More.row (x : More) : List D := .sl (x.cuts.map Cutoff.row) :: x.e.row
abbrev moreSh : List Sh := .sl cutSh :: editSh
theorem dec_more {l : List D} (h : okShs moreSh l) : ∃ x : More, l = x.row := by
  simp only [moreSh, okShs] at h
  obtain ⟨d, r, rfl, h1, h2⟩ := h
  simp only [okSh] at h1
  obtain ⟨xs, rfl, h1⟩ := h1
  obtain ⟨cs, rfl⟩ := dec_list (row := Cutoff.row) (fun l h => dec_cut h) h1
  obtain ⟨e, rfl⟩ := dec_edit (l := r) (by simpa only [editSh, okShs] using h2)
  exact ⟨⟨cs, e⟩, rfl⟩
theorem wmore (x : More) : gsz x.e ≤ 5 * wDs x.row ∧ x.cuts.length ≤ wDs x.row := by
  have h1 := wedit x.e
  have h2 := wrows (row := Cutoff.row) (fun x => by simp [Cutoff.row]) x.cuts
  simp only [More.row, wDs, wD] at *
  omega
end Go.Aw.Try
