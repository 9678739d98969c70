/- An abstract machine over the model, and contracts of functions of this program on it (part 10): words and lemmas for the proof in the last text. -/
import Derived.Test.YthgnlejjbhijfaaGreatDoorHI
set_option linter.unusedSimpArgs false
set_option linter.unusedVariables false
set_option linter.unusedSectionVars false

namespace Go.Aw.Try
open Go Go.Proofs Go.Aw
set_option maxRecDepth 100000
set_option maxHeartbeats 4000000
def b505_0 : AC := (.region 0 [
    ⟨(some 6), (.mov (.const (.bool false))), none⟩])
def b505_1 : AC := (.seq (.region 0 [
    ⟨(some 20), (.call 11 []), none⟩,
    ⟨(some 21), (.not (.tmp 20)), none⟩])
  (.cond (.tmp 21) (.seq (.region 0 [
    ⟨(some 6), (.mov (.const (.bool false))), none⟩])
  .ret) .skip))
def b505_2 : AC := (.seq (.region 0 [
    ⟨(some 22), (.mov (.tmp 0)), none⟩,
    ⟨(some 23), (.mov (.tmp 2)), none⟩,
    ⟨(some 24), (.call 12 [(.tmp 22), (.tmp 23)]), none⟩,
    ⟨(some 25), (.binI .eql .i64 (.tmp 24) (.const (.int .i64 0))), none⟩])
  (.cond (.tmp 25) (.seq (.region 0 [
    ⟨(some 6), (.mov (.const (.bool true))), none⟩])
  .ret) .skip))
def b505_3 : AC := (.region 2 [
    ⟨(some 26), (.bsl 0 18 [(.v (.string ⟨#[]⟩)), (.v (.int .i64 0)), (.v (.int .i64 0)), (.v (.int .i64 0)), (.v (.slice none 0 0)), (.v (.int .i64 0)), (.v (.string ⟨#[]⟩)), (.v (.int .i64 0)), (.v (.string ⟨#[]⟩)), (.v (.int .i64 0)), (.v (.bool false)), (.v (.string ⟨#[]⟩)), (.v (.string ⟨#[]⟩)), (.v (.string ⟨#[]⟩)), (.v (.string ⟨#[]⟩)), (.v (.string ⟨#[]⟩)), (.v (.int .i64 0)), (.v (.string ⟨#[]⟩))] 0 []), none⟩,
    ⟨(some 27), (.mov (.tmp 0)), none⟩,
    ⟨(some 28), (.app 1 18 232 (.tmp 26) (.tmp 27)), none⟩,
    ⟨(some 7), (.mov (.tmp 28)), none⟩])
def b505_4 : AC := (.region 0 [
    ⟨(some 29), (.mov (.tmp 0)), none⟩,
    ⟨(some 30), (.mov (.tmp 2)), none⟩,
    ⟨(some 31), (.call 14 [(.tmp 29), (.tmp 30)]), none⟩,
    ⟨(some 8), (.mov (.tmp 31)), none⟩])
def b505_5 : AC := (.seq (.region 0 [
    ⟨(some 32), (.mov (.tmp 1)), none⟩,
    ⟨(some 33), (.lenL (.tmp 32)), none⟩,
    ⟨(some 34), (.mov (.const (.int .i64 0))), none⟩])
  (.block 0 (.loop (.seq (.region 0 [
    ⟨(some 35), (.binI .lss .i64 (.tmp 34) (.tmp 33)), none⟩])
  (.seq (.cond (.tmp 35) .skip (.exit 0))
  (.seq (.block 1 (.seq (.region 1 [
    ⟨(some 36), (.iaddr 18 (.tmp 32) (.tmp 34)), none⟩,
    ⟨(some 37), (.load true 18 (.tmp 36)), none⟩,
    ⟨(some 10), (.zero 0 [(.v (.string ⟨#[]⟩)), (.v (.int .i64 0)), (.v (.int .i64 0)), (.v (.int .i64 0)), (.v (.slice none 0 0)), (.v (.int .i64 0)), (.v (.string ⟨#[]⟩)), (.v (.int .i64 0)), (.v (.string ⟨#[]⟩)), (.v (.int .i64 0)), (.v (.bool false)), (.v (.string ⟨#[]⟩)), (.v (.string ⟨#[]⟩)), (.v (.string ⟨#[]⟩)), (.v (.string ⟨#[]⟩)), (.v (.string ⟨#[]⟩)), (.v (.int .i64 0)), (.v (.string ⟨#[]⟩))]), none⟩,
    ⟨none, (.store 18 (.tmp 10) (.tmp 37)), none⟩])
  (.seq (.region 0 [
    ⟨(some 39), (.mov (.tmp 8)), none⟩,
    ⟨(some 40), (.faddr 0 (.tmp 10)), none⟩,
    ⟨(some 41), (.faddr 0 (.tmp 40)), none⟩,
    ⟨(some 42), (.load false 1 (.tmp 41)), none⟩,
    ⟨(some 43), (.call 16 [(.tmp 39), (.tmp 42)]), none⟩,
    ⟨(some 38), (.mov (.tmp 43)), none⟩,
    ⟨(some 44), (.ext (.tmp 38) 0), none⟩,
    ⟨(some 45), (.ext (.tmp 38) 1), none⟩,
    ⟨(some 11), (.mov (.tmp 44)), none⟩,
    ⟨(some 12), (.mov (.tmp 45)), none⟩])
  (.seq (.seq (.region 0 [
    ⟨(some 46), (.mov (.tmp 0)), none⟩,
    ⟨(some 47), (.lenL (.tmp 46)), none⟩,
    ⟨(some 48), (.mov (.const (.int .i64 0))), none⟩])
  (.block 2 (.loop (.seq (.region 0 [
    ⟨(some 49), (.binI .lss .i64 (.tmp 48) (.tmp 47)), none⟩])
  (.seq (.cond (.tmp 49) .skip (.exit 2))
  (.seq (.block 3 (.seq (.region 1 [
    ⟨(some 50), (.iaddr 18 (.tmp 46) (.tmp 48)), none⟩,
    ⟨(some 51), (.load true 18 (.tmp 50)), none⟩,
    ⟨(some 14), (.zero 0 [(.v (.string ⟨#[]⟩)), (.v (.int .i64 0)), (.v (.int .i64 0)), (.v (.int .i64 0)), (.v (.slice none 0 0)), (.v (.int .i64 0)), (.v (.string ⟨#[]⟩)), (.v (.int .i64 0)), (.v (.string ⟨#[]⟩)), (.v (.int .i64 0)), (.v (.bool false)), (.v (.string ⟨#[]⟩)), (.v (.string ⟨#[]⟩)), (.v (.string ⟨#[]⟩)), (.v (.string ⟨#[]⟩)), (.v (.string ⟨#[]⟩)), (.v (.int .i64 0)), (.v (.string ⟨#[]⟩))]), none⟩,
    ⟨none, (.store 18 (.tmp 14) (.tmp 51)), none⟩])
  (.region 0 [
    ⟨(some 52), (.mov (.tmp 12)), none⟩,
    ⟨(some 53), (.mov (.tmp 52)), none⟩,
    ⟨(some 54), (.faddr 4 (.tmp 14)), (some (53, true))⟩,
    ⟨(some 55), (.load false 1 (.tmp 54)), (some (53, true))⟩,
    ⟨(some 56), (.faddr 0 (.tmp 10)), (some (53, true))⟩,
    ⟨(some 57), (.load true 2 (.tmp 56)), (some (53, true))⟩,
    ⟨(some 58), (.call 17 [(.tmp 55), (.tmp 57)]), (some (53, true))⟩,
    ⟨(some 59), (.not (.tmp 58)), (some (53, true))⟩,
    ⟨(some 60), (.pick (.tmp 53) (.tmp 59) (.const (.bool false))), none⟩,
    ⟨(some 61), (.mov (.tmp 60)), none⟩,
    ⟨(some 62), (.faddr 0 (.tmp 14)), (some (61, true))⟩,
    ⟨(some 63), (.faddr 0 (.tmp 62)), (some (61, true))⟩,
    ⟨(some 64), (.load false 1 (.tmp 63)), (some (61, true))⟩,
    ⟨(some 65), (.faddr 0 (.tmp 10)), (some (61, true))⟩,
    ⟨(some 66), (.faddr 0 (.tmp 65)), (some (61, true))⟩,
    ⟨(some 67), (.load false 1 (.tmp 66)), (some (61, true))⟩,
    ⟨(some 68), (.binS .neq (.tmp 64) (.tmp 67)), (some (61, true))⟩,
    ⟨(some 69), (.mov (.tmp 68)), (some (61, true))⟩,
    ⟨(some 70), (.faddr 0 (.tmp 14)), (some (69, false))⟩,
    ⟨(some 71), (.faddr 1 (.tmp 70)), (some (69, false))⟩,
    ⟨(some 72), (.load false 1 (.tmp 71)), (some (69, false))⟩,
    ⟨(some 73), (.faddr 0 (.tmp 10)), (some (69, false))⟩,
    ⟨(some 74), (.faddr 1 (.tmp 73)), (some (69, false))⟩,
    ⟨(some 75), (.load false 1 (.tmp 74)), (some (69, false))⟩,
    ⟨(some 76), (.binI .lss .i64 (.tmp 72) (.tmp 75)), (some (69, false))⟩,
    ⟨(some 77), (.mov (.tmp 76)), (some (69, false))⟩,
    ⟨(some 78), (.faddr 2 (.tmp 14)), (some (77, true))⟩,
    ⟨(some 79), (.load false 1 (.tmp 78)), (some (77, true))⟩,
    ⟨(some 80), (.faddr 2 (.tmp 10)), (some (77, true))⟩,
    ⟨(some 81), (.load false 1 (.tmp 80)), (some (77, true))⟩,
    ⟨(some 82), (.binI .lss .i64 (.tmp 79) (.tmp 81)), (some (77, true))⟩,
    ⟨(some 83), (.pick (.tmp 77) (.tmp 82) (.const (.bool false))), (some (69, false))⟩,
    ⟨(some 84), (.pick (.tmp 69) (.const (.bool true)) (.tmp 83)), (some (61, true))⟩,
    ⟨(some 85), (.pick (.tmp 61) (.tmp 84) (.const (.bool false))), none⟩,
    ⟨(some 12), (.mov (.tmp 85)), none⟩])))
  (.region 0 [
    ⟨(some 86), (.binI .add .i64 (.tmp 48) (.const (.int .i64 1))), none⟩,
    ⟨(some 48), (.mov (.tmp 86)), none⟩])))))))
  (.seq (.region 0 [
    ⟨(some 87), (.mov (.tmp 12)), none⟩])
  (.cond (.tmp 87) (.region 2 [
    ⟨(some 88), (.mov (.tmp 7)), none⟩,
    ⟨(some 89), (.load true 18 (.tmp 10)), none⟩,
    ⟨(some 90), (.bsl 0 18 [(.v (.string ⟨#[]⟩)), (.v (.int .i64 0)), (.v (.int .i64 0)), (.v (.int .i64 0)), (.v (.slice none 0 0)), (.v (.int .i64 0)), (.v (.string ⟨#[]⟩)), (.v (.int .i64 0)), (.v (.string ⟨#[]⟩)), (.v (.int .i64 0)), (.v (.bool false)), (.v (.string ⟨#[]⟩)), (.v (.string ⟨#[]⟩)), (.v (.string ⟨#[]⟩)), (.v (.string ⟨#[]⟩)), (.v (.string ⟨#[]⟩)), (.v (.int .i64 0)), (.v (.string ⟨#[]⟩))] 1 [(0, (.tmp 89))]), none⟩,
    ⟨(some 91), (.app 1 18 232 (.tmp 88) (.tmp 90)), none⟩,
    ⟨(some 7), (.mov (.tmp 91)), none⟩]) .skip))))))
  (.region 0 [
    ⟨(some 92), (.binI .add .i64 (.tmp 34) (.const (.int .i64 1))), none⟩,
    ⟨(some 34), (.mov (.tmp 92)), none⟩])))))))
def b505_6 : AC := (.seq (.region 0 [
    ⟨(some 93), (.mov (.tmp 0)), none⟩,
    ⟨(some 94), (.mov (.tmp 2)), none⟩,
    ⟨(some 95), (.call 12 [(.tmp 93), (.tmp 94)]), none⟩,
    ⟨(some 96), (.binI .eql .i64 (.tmp 95) (.const (.int .i64 0))), none⟩,
    ⟨(some 97), (.mov (.tmp 96)), none⟩,
    ⟨(some 98), (.mov (.tmp 7)), (some (97, false))⟩,
    ⟨(some 99), (.mov (.tmp 2)), (some (97, false))⟩,
    ⟨(some 100), (.call 12 [(.tmp 98), (.tmp 99)]), (some (97, false))⟩,
    ⟨(some 101), (.binI .eql .i64 (.tmp 100) (.const (.int .i64 0))), (some (97, false))⟩,
    ⟨(some 102), (.pick (.tmp 97) (.const (.bool true)) (.tmp 101)), none⟩])
  (.cond (.tmp 102) (.seq (.region 0 [
    ⟨(some 6), (.mov (.const (.bool true))), none⟩])
  .ret) .skip))
def b505_7 : AC := (.region 0 [
    ⟨(some 103), (.mov (.tmp 7)), none⟩,
    ⟨(some 104), (.mov (.tmp 2)), none⟩,
    ⟨(some 105), (.call 14 [(.tmp 103), (.tmp 104)]), none⟩,
    ⟨(some 15), (.mov (.tmp 105)), none⟩])
def b505_8 : AC := (.seq (.region 0 [
    ⟨(some 106), (.mov (.tmp 8)), none⟩,
    ⟨(some 107), (.lenL (.tmp 106)), none⟩,
    ⟨(some 108), (.mov (.const (.int .i64 0))), none⟩])
  (.block 4 (.loop (.seq (.region 0 [
    ⟨(some 109), (.binI .lss .i64 (.tmp 108) (.tmp 107)), none⟩])
  (.seq (.cond (.tmp 109) .skip (.exit 4))
  (.seq (.block 5 (.seq (.region 1 [
    ⟨(some 110), (.iaddr 3 (.tmp 106) (.tmp 108)), none⟩,
    ⟨(some 111), (.load true 3 (.tmp 110)), none⟩,
    ⟨(some 17), (.zero 0 [(.v (.string ⟨#[]⟩)), (.v (.int .i64 0)), (.v (.int .i64 0))]), none⟩,
    ⟨none, (.store 3 (.tmp 17) (.tmp 111)), none⟩])
  (.seq (.region 0 [
    ⟨(some 113), (.mov (.tmp 15)), none⟩,
    ⟨(some 114), (.faddr 0 (.tmp 17)), none⟩,
    ⟨(some 115), (.load false 1 (.tmp 114)), none⟩,
    ⟨(some 116), (.call 16 [(.tmp 113), (.tmp 115)]), none⟩,
    ⟨(some 112), (.mov (.tmp 116)), none⟩,
    ⟨(some 117), (.ext (.tmp 112) 0), none⟩,
    ⟨(some 118), (.ext (.tmp 112) 1), none⟩,
    ⟨(some 18), (.mov (.tmp 117)), none⟩,
    ⟨(some 19), (.mov (.tmp 118)), none⟩])
  (.seq (.region 0 [
    ⟨(some 119), (.faddr 2 (.tmp 17)), none⟩,
    ⟨(some 120), (.load false 1 (.tmp 119)), none⟩,
    ⟨(some 121), (.binI .eql .i64 (.tmp 120) (.const (.int .i64 22))), none⟩,
    ⟨(some 122), (.mov (.tmp 121)), none⟩,
    ⟨(some 123), (.mov (.tmp 19)), (some (122, true))⟩,
    ⟨(some 124), (.not (.tmp 123)), (some (122, true))⟩,
    ⟨(some 125), (.mov (.tmp 124)), (some (122, true))⟩,
    ⟨(some 126), (.mov (.tmp 18)), (some (125, false))⟩,
    ⟨(some 127), (.faddr 1 (.tmp 17)), (some (125, false))⟩,
    ⟨(some 128), (.load false 1 (.tmp 127)), (some (125, false))⟩,
    ⟨(some 129), (.binI .neq .i64 (.tmp 126) (.tmp 128)), (some (125, false))⟩,
    ⟨(some 130), (.pick (.tmp 125) (.const (.bool true)) (.tmp 129)), (some (122, true))⟩,
    ⟨(some 131), (.pick (.tmp 122) (.tmp 130) (.const (.bool false))), none⟩])
  (.cond (.tmp 131) (.seq (.region 0 [
    ⟨(some 6), (.mov (.const (.bool false))), none⟩])
  .ret) .skip)))))
  (.region 0 [
    ⟨(some 132), (.binI .add .i64 (.tmp 108) (.const (.int .i64 1))), none⟩,
    ⟨(some 108), (.mov (.tmp 132)), none⟩])))))))
def b505_9 : AC := (.region 0 [
    ⟨(some 133), (.mov (.tmp 15)), none⟩,
    ⟨(some 134), (.lenL (.tmp 133)), none⟩,
    ⟨(some 135), (.mov (.tmp 8)), none⟩,
    ⟨(some 136), (.lenL (.tmp 135)), none⟩,
    ⟨(some 137), (.binI .eql .i64 (.tmp 134) (.tmp 136)), none⟩,
    ⟨(some 6), (.mov (.tmp 137)), none⟩])
def b505_10 : AC := .ret
def b505 : AC := (.seq b505_0 (.seq b505_1 (.seq b505_2 (.seq b505_3 (.seq b505_4 (.seq b505_5 (.seq b505_6 (.seq b505_7 (.seq b505_8 (.seq b505_9 b505_10))))))))))
def ir505 : AF := ⟨138, [(.tmp 6)], b505⟩
theorem c505 : compF tt Tryz.f5 = some ir505 := by kernel_rfl
end Go.Aw.Try

namespace Go.Aw.Try
open Go Go.Proofs Go.Aw
set_option maxRecDepth 100000
set_option maxHeartbeats 4000000
/-! ### EvictLate: the walk -/
def lateF (e f : Edit) : Bool := !conI f.deps e.id && (!decide (f.id.a = e.id.a) || (decide (f.id.n < e.id.n) && decide (f.clock < e.clock)))
def lateB (x : List Cutoff) (l : List Edit) (e : Edit) : Bool := (cutF x e.id.a).2 && l.all (lateF e)
def lateL (x : List Cutoff) (l late : List Edit) : List Edit := l ++ late.filter (lateB x l)
theorem k505 (m : Int) (l late : List Edit) (all : List Member) (hz : Sz l all) (hz2 : ∀ e ∈ late, szE e) (b1 : l.length ≤ 1048576) (b2 : late.length ≤ 1048576)
    (hlaw : OkR l all → OkR (lateL (cutsE l all) l late) all → (∀ c ∈ cutsE l all, c.err = 22 → cutF (cutsE (lateL (cutsE l all) l late) all) c.who = (c.n, true)) ∧ (cutsE (lateL (cutsE l all) l late) all).length = (cutsE l all).length) :
    ACalls Tryz.prog (GM m) 5 [.c (.d (.sl (l.map Edit.row))), .c (.d (.sl (late.map Edit.row))), .c (.d (.sl (all.map Member.row)))] [] fun t H => t = .bool true ∧ H = [] := by
  have s1 : x511.sc = true := rfl
  have s2 : x512.sc = true := rfl
  have s3 : (x514 m).sc = false := rfl
  have s4 : x516.sc = true := rfl
  have s5 : x517.sc = true := rfl
  have g0 : x511.g [] = some (True, .bool true) := rfl
  have g1 := xg512 l all hz.sl hz.sa hz.sn hz.se
  refine acallsX (X := [(11, x511), (12, x512), (14, x514 m), (16, x516), (17, x517)]) ⟨kx511 m, kx512.gm, kx514 m, kx516.gm, kx517.gm, trivial⟩ tab hmix Tryz.func5 c505 (by rfl) fun hw => ?_
  by_cases ok : OkR l all
  · rw [right_yes ok] at g1
    have hlaw := hlaw ok
    have hgood := ok.okC.good
    have hxl := (minority_ok ok).len
    have hl40 := ok.1
    have g2 := xg514 m l all ok.okC
    obtain ⟨x, hx⟩ : ∃ x, x = cutsE l all := ⟨_, rfl⟩
    rw [← hx] at g2 hxl hlaw
    have g3 := xg512 (lateL x l late) all (by
      unfold lateL
      have : (late.filter (lateB x l)).length ≤ late.length := List.length_filter_le _ _
      rw [List.length_append]; omega) hz.sa hz.sn (fun e he => by
      rcases List.mem_append.1 he with he | he
      · exact hz.se e he
      · exact hz2 e (List.mem_filter.1 he).1)
    obtain ⟨T0, hT0⟩ : ∃ T : Nat → List Edit, T = fun i => l ++ (late.take i).filter (lateB x l) := ⟨_, rfl⟩
    have hTl : ∀ i, i ≤ late.length → (T0 i).length ≤ 2097152 := fun i hi => by
      rw [hT0]
      have h1 : ((late.take i).filter (lateB x l)).length ≤ (late.take i).length := List.length_filter_le _ _
      simp at h1 ⊢; omega
    simp (implicitDefEqProofs := false) (disch := omega) [List.getElem?_cons_zero, ir505, b505, b505_0, b505_1, b505_2, b505_3, b505_4, b505_5, s1, s2, s3, g0, g1, g2, wrap64, splice, fillC, toDs, toD, Nat.add_assoc, toPVs, frzVs, osVs, toPV]
    repeat' (with_reducible apply And.intro)
    all_goals first | omega | kernel_rfl | exact fun _ _ => rfl | skip
    refine loopE (fun k st => ∃ i, i ≤ late.length ∧ k = late.length - i ∧ st = ⟨ofL [(0, .v (.c (.d (.sl (l.map Edit.row))))), (2, .v (.c (.d (.sl (all.map Member.row))))), (8, .v (.c (.d (.sl (x.map Cutoff.row))))), (7, .v (.c (.os 0 18 0 (T0 i).length))), (32, .v (.c (.d (.sl (late.map Edit.row))))), (33, .int .i64 late.length), (34, .int .i64 i)], [.row 18 ((T0 i).map Edit.row)]⟩)
      (fun st => AtS [(0, .v (.c (.d (.sl (l.map Edit.row))))), (2, .v (.c (.d (.sl (all.map Member.row))))), (8, .v (.c (.d (.sl (x.map Cutoff.row))))), (7, .v (.c (.os 0 18 0 (lateL x l late).length)))] [.row 18 ((lateL x l late).map Edit.row)] st) ?_ ?_ ?_
    · refine wk_nil [1] [0, 2, 8, 7, 32, 33, 34] rfl ⟨_, 0, by omega, rfl, ?_⟩
      rw [hT0]; simp [phi, O.ren]
    · rintro J L hJ hL k st ⟨i, hi, rfl, rfl⟩
      by_cases hlt : i < late.length
      · obtain ⟨e, he⟩ : ∃ e, nth late i = e := ⟨_, rfl⟩
        have hem : e ∈ late := by rw [← he]; exact nth_mem hlt
        have hee : e.row = [.v (.string e.id.a), .v (.int .i64 e.id.n), .v (.int .i64 e.clock), .v (.int .i64 e.floor), .sl (e.deps.map Id.row), .v (.int .i64 e.kind), .v (.string e.node.a), .v (.int .i64 e.node.n), .v (.string e.parent.a), .v (.int .i64 e.parent.n), .v (.bool e.neg), .v (.string e.num), .v (.string e.den), .v (.string e.field), .v (.string e.value), .v (.string e.target.a), .v (.int .i64 e.target.n), .v (.string e.who)] := rfl
        have hst : T0 (i + 1) = if lateB x l e = true then T0 i ++ [e] else T0 i := by
          rw [hT0]; simp only; rw [filt_take (lateB x l) hlt, he]; split <;> simp
        have hl1 := hTl i hi
        have g4 := xg516 x e.id.a (by omega)
        obtain ⟨q, hq⟩ : ∃ q, q = cutF x e.id.a := ⟨_, rfl⟩
        have hlb : lateB x l e = (q.2 && l.all (lateF e)) := by rw [hq]; rfl
        rw [← hq] at g4
        have hcT : cutT q = .tup [.c (.d (.v (.int .i64 q.1))), .c (.d (.v (.bool q.2)))] := rfl
        rw [hcT] at g4
        simp (implicitDefEqProofs := false) (disch := omega) [List.getElem?_cons_zero, hlt, wrap64, nth_map, he, hee, splice, fillC, s4, g4]
        refine loopE (fun k st => ∃ j, j ≤ l.length ∧ k = l.length - j ∧ st = ⟨ofL [(0, .v (.c (.d (.sl (l.map Edit.row))))), (2, .v (.c (.d (.sl (all.map Member.row))))), (8, .v (.c (.d (.sl (x.map Cutoff.row))))), (7, .v (.c (.os 0 18 0 (T0 i).length))), (32, .v (.c (.d (.sl (late.map Edit.row))))), (33, .int .i64 late.length), (34, .int .i64 i), (10, .v (.c (.ptr 1 0))), (12, .bool (q.2 && (l.take j).all (lateF e))), (46, .v (.c (.d (.sl (l.map Edit.row))))), (47, .int .i64 l.length), (48, .int .i64 j)], [.row 18 ((T0 i).map Edit.row), .cells ([.v (.string e.id.a), .v (.int .i64 e.id.n), .v (.int .i64 e.clock), .v (.int .i64 e.floor), .sl (e.deps.map Id.row), .v (.int .i64 e.kind), .v (.string e.node.a), .v (.int .i64 e.node.n), .v (.string e.parent.a), .v (.int .i64 e.parent.n), .v (.bool e.neg), .v (.string e.num), .v (.string e.den), .v (.string e.field), .v (.string e.value), .v (.string e.target.a), .v (.int .i64 e.target.n), .v (.string e.who)].map .d)]⟩)
          (fun st => AtS [(0, .v (.c (.d (.sl (l.map Edit.row))))), (2, .v (.c (.d (.sl (all.map Member.row))))), (8, .v (.c (.d (.sl (x.map Cutoff.row))))), (7, .v (.c (.os 0 18 0 (T0 i).length))), (32, .v (.c (.d (.sl (late.map Edit.row))))), (33, .int .i64 late.length), (34, .int .i64 i), (10, .v (.c (.ptr 1 0))), (12, .bool (q.2 && l.all (lateF e)))] [.row 18 ((T0 i).map Edit.row), .cells ([.v (.string e.id.a), .v (.int .i64 e.id.n), .v (.int .i64 e.clock), .v (.int .i64 e.floor), .sl (e.deps.map Id.row), .v (.int .i64 e.kind), .v (.string e.node.a), .v (.int .i64 e.node.n), .v (.string e.parent.a), .v (.int .i64 e.parent.n), .v (.bool e.neg), .v (.string e.num), .v (.string e.den), .v (.string e.field), .v (.string e.value), .v (.string e.target.a), .v (.int .i64 e.target.n), .v (.string e.who)].map .d)] st) ?_ ?_ ?_
        · refine wk_nil [0, 1] [0, 2, 8, 7, 32, 33, 34, 10, 12, 46, 47, 48] rfl ⟨_, 0, by omega, rfl, ?_⟩
          simp [phi, O.ren]
        · rintro J2 L2 hJ2 hL2 k2 st ⟨j, hj, rfl, rfl⟩
          by_cases hjl : j < l.length
          · obtain ⟨f, hf⟩ : ∃ f, nth l j = f := ⟨_, rfl⟩
            have hfm : f ∈ l := by rw [← hf]; exact nth_mem hjl
            have hfe : f.row = [.v (.string f.id.a), .v (.int .i64 f.id.n), .v (.int .i64 f.clock), .v (.int .i64 f.floor), .sl (f.deps.map Id.row), .v (.int .i64 f.kind), .v (.string f.node.a), .v (.int .i64 f.node.n), .v (.string f.parent.a), .v (.int .i64 f.parent.n), .v (.bool f.neg), .v (.string f.num), .v (.string f.den), .v (.string f.field), .v (.string f.value), .v (.string f.target.a), .v (.int .i64 f.target.n), .v (.string f.who)] := rfl
            have hst2 : (q.2 && (l.take (j + 1)).all (lateF e)) = ((q.2 && (l.take j).all (lateF e)) && lateF e f) := by
              rw [take_nth hjl, List.all_append, hf]; simp [Bool.and_assoc]
            have g5 := xg517 f.deps e.id (hgood f hfm).1 (hgood f hfm).2
            obtain ⟨u, hu⟩ : ∃ u, u = conI f.deps e.id := ⟨_, rfl⟩
            have hlf : lateF e f = (!u && (!decide (f.id.a = e.id.a) || (decide (f.id.n < e.id.n) && decide (f.clock < e.clock)))) := by rw [hu]; rfl
            rw [← hu] at g5
            have hir : e.id.row = [.v (.string e.id.a), .v (.int .i64 e.id.n)] := rfl
            rw [hir] at g5
            rw [hlf] at hst2
            obtain ⟨v, hv⟩ : ∃ v, v = (q.2 && (l.take j).all (lateF e)) := ⟨_, rfl⟩
            rw [← hv] at hst2 ⊢
            have fin : ∀ (sl : Nat → T) (z : O), (∀ p ∈ [(0, .v (.c (.d (.sl (l.map Edit.row))))), (2, .v (.c (.d (.sl (all.map Member.row))))), (8, .v (.c (.d (.sl (x.map Cutoff.row))))), (7, .v (.c (.os 0 18 0 (T0 i).length))), (32, .v (.c (.d (.sl (late.map Edit.row))))), (33, .int .i64 late.length), (34, .int .i64 i)], sl p.1 = p.2) → sl 10 = .v (.c (.ptr 1 0)) → sl 12 = .bool (q.2 && (l.take (j + 1)).all (lateF e)) → sl 46 = .v (.c (.d (.sl (l.map Edit.row)))) → sl 47 = .int .i64 l.length → sl 48 = .int .i64 (j + 1 : Nat) →
                wk Tryz.prog (GM m) 0 ⟨sl, .row 18 ((T0 i).map Edit.row) :: .cells ([.v (.string e.id.a), .v (.int .i64 e.id.n), .v (.int .i64 e.clock), .v (.int .i64 e.floor), .sl (e.deps.map Id.row), .v (.int .i64 e.kind), .v (.string e.node.a), .v (.int .i64 e.node.n), .v (.string e.parent.a), .v (.int .i64 e.parent.n), .v (.bool e.neg), .v (.string e.num), .v (.string e.den), .v (.string e.field), .v (.string e.value), .v (.string e.target.a), .v (.int .i64 e.target.n), .v (.string e.who)].map .d) :: [z]⟩ (fun s'' => ∃ k', k' < l.length - j ∧ J2 k' s'') := fun sl z q0 q1 q2 q3 q4 q5 => by
              subst hJ2
              refine wk_nil [0, 1] [0, 2, 8, 7, 32, 33, 34, 10, 12, 46, 47, 48] rfl ⟨l.length - (j + 1), by omega, j + 1, by omega, rfl, ?_⟩
              simp at q0
              simp [q0, q1, q2, q3, q4, q5, phi, O.ren]
            cases v
            · simp (implicitDefEqProofs := false) (disch := omega) [List.getElem?_cons_zero, hjl, wrap64, nth_map, hf, hfe, splice, fillC, binSF]
              exact fin _ _ (by simp) (by simp) (by rw [hst2]; simp) (by simp) (by simp) (by simp)
            · cases u
              · by_cases c1 : f.id.a = e.id.a
                · by_cases c2 : f.id.n < e.id.n
                  · simp (implicitDefEqProofs := false) (disch := omega) [List.getElem?_cons_zero, hjl, wrap64, nth_map, hf, hfe, splice, fillC, binSF, s5, g5, c1, c2]
                    exact fin _ _ (by simp) (by simp) (by rw [hst2]; simp [c1, c2]) (by simp) (by simp) (by simp)
                  · simp (implicitDefEqProofs := false) (disch := omega) [List.getElem?_cons_zero, hjl, wrap64, nth_map, hf, hfe, splice, fillC, binSF, s5, g5, c1, c2]
                    exact fin _ _ (by simp) (by simp) (by rw [hst2]; simp [c1, c2]) (by simp) (by simp) (by simp)
                · simp (implicitDefEqProofs := false) (disch := omega) [List.getElem?_cons_zero, hjl, wrap64, nth_map, hf, hfe, splice, fillC, binSF, s5, g5, c1]
                  exact fin _ _ (by simp) (by simp) (by rw [hst2]; simp [c1]) (by simp) (by simp) (by simp)
              · simp (implicitDefEqProofs := false) (disch := omega) [List.getElem?_cons_zero, hjl, wrap64, nth_map, hf, hfe, splice, fillC, binSF, s5, g5]
                exact fin _ _ (by simp) (by simp) (by rw [hst2]; simp) (by simp) (by simp) (by simp)
          · have : j = l.length := by omega
            subst this
            rw [List.take_length]
            simp (implicitDefEqProofs := false) (disch := omega) [List.getElem?_cons_zero, hjl]
            subst hL2
            exact at_mk (by simp) rfl
        · rintro _ ⟨sl, rfl⟩
          rw [← hlb]
          obtain ⟨T, hT⟩ : ∃ T, T = T0 i := ⟨_, rfl⟩
          rw [← hT] at hst hl1 ⊢
          have tS : (T.map Edit.row).take T.length = T.map Edit.row := List.take_of_length_le (by simp)
          obtain ⟨b, hb⟩ : ∃ b, b = lateB x l e := ⟨_, rfl⟩
          rw [← hb] at hst ⊢
          cases b
          · rw [if_neg (by simp)] at hst
            simp (implicitDefEqProofs := false) (disch := omega) [List.getElem?_cons_zero, wrap64]
            subst hJ
            refine wk_nil [0] [0, 2, 8, 7, 32, 33, 34] rfl ⟨late.length - (i + 1), by omega, i + 1, by omega, rfl, ?_⟩
            rw [hst]; simp [phi, O.ren]
          · rw [if_pos rfl] at hst
            simp (implicitDefEqProofs := false) (disch := omega) [List.getElem?_cons_zero, wrap64, splice, fillC, tS, toPVs, frzVs, osVs, toPV, toDs, toD, Nat.add_assoc]
            repeat' (with_reducible apply And.intro)
            all_goals first | omega | kernel_rfl | exact fun _ _ => rfl | skip
            subst hJ
            refine wk_nil [3] [0, 2, 8, 7, 32, 33, 34] rfl ⟨late.length - (i + 1), by omega, i + 1, by omega, rfl, ?_⟩
            rw [hst]; simp [phi, O.ren, Edit.row]
      · have : i = late.length := by omega
        subst this
        simp (implicitDefEqProofs := false) (disch := omega) [List.getElem?_cons_zero, hlt]
        subst hL
        have : T0 late.length = lateL x l late := by rw [hT0]; simp [lateL]
        rw [this]
        exact at_mk (by simp) rfl
    · rintro _ ⟨sl, rfl⟩
      obtain ⟨N, hN⟩ : ∃ N, N = lateL x l late := ⟨_, rfl⟩
      rw [← hN] at g3 hlaw ⊢
      have tS : (N.map Edit.row).take N.length = N.map Edit.row := List.take_of_length_le (by simp)
      by_cases ok2 : OkR N all
      · rw [right_yes ok2] at g3
        obtain ⟨hc1, hc2⟩ := hlaw ok2
        have g4 := xg514 m N all ok2.okC
        have hyl := (minority_ok ok2).len
        obtain ⟨y, hy⟩ : ∃ y, y = cutsE N all := ⟨_, rfl⟩
        rw [← hy] at g4 hyl hc1 hc2
        simp (implicitDefEqProofs := false) (disch := omega) [List.getElem?_cons_zero, b505_6, b505_7, b505_8, tS, s2, s3, g1, g3, g4, wrap64, toPVs, frzVs, osVs, toPV, toDs, toD]
        refine loopE (fun k st => ∃ i, i ≤ x.length ∧ k = x.length - i ∧
            st = ⟨ofL [(8, .v (.c (.d (.sl (x.map Cutoff.row))))), (15, .v (.c (.d (.sl (y.map Cutoff.row))))), (106, .v (.c (.d (.sl (x.map Cutoff.row))))), (107, .int .i64 x.length), (108, .int .i64 i)], []⟩)
          (fun st => AtS [(8, .v (.c (.d (.sl (x.map Cutoff.row))))), (15, .v (.c (.d (.sl (y.map Cutoff.row)))))] [] st) ?_ ?_ ?_
        · refine wk_nil [] [8, 15, 106, 107, 108] rfl ⟨_, 0, by omega, rfl, ?_⟩
          simp
        · rintro J L hJ hL k st ⟨i, hi, rfl, rfl⟩
          by_cases hlt : i < x.length
          · obtain ⟨c, hc⟩ : ∃ c, nth x i = c := ⟨_, rfl⟩
            have hcm : c ∈ x := by rw [← hc]; exact nth_mem hlt
            have hcr : c.row = [.v (.string c.who), .v (.int .i64 c.n), .v (.int .i64 c.err)] := rfl
            have g5 := xg516 y c.who (by omega)
            by_cases c1 : c.err = 22
            · rw [hc1 c hcm c1] at g5
              have hcT : cutT (c.n, true) = .tup [.c (.d (.v (.int .i64 c.n))), .c (.d (.v (.bool true)))] := rfl
              rw [hcT] at g5
              simp (implicitDefEqProofs := false) (disch := omega) [List.getElem?_cons_zero, hlt, wrap64, nth_map, hc, hcr, splice, fillC, s4, g5, c1]
              subst hJ
              refine wk_nil [] [8, 15, 106, 107, 108] rfl ⟨x.length - (i + 1), by omega, i + 1, by omega, rfl, ?_⟩
              simp
            · obtain ⟨q, hq⟩ : ∃ q, q = cutF y c.who := ⟨_, rfl⟩
              rw [← hq] at g5
              have hcT : cutT q = .tup [.c (.d (.v (.int .i64 q.1))), .c (.d (.v (.bool q.2)))] := rfl
              rw [hcT] at g5
              simp (implicitDefEqProofs := false) (disch := omega) [List.getElem?_cons_zero, hlt, wrap64, nth_map, hc, hcr, splice, fillC, s4, g5, c1]
              subst hJ
              refine wk_nil [] [8, 15, 106, 107, 108] rfl ⟨x.length - (i + 1), by omega, i + 1, by omega, rfl, ?_⟩
              simp
          · have : i = x.length := by omega
            subst this
            simp (implicitDefEqProofs := false) (disch := omega) [List.getElem?_cons_zero, hlt]
            subst hL
            exact at_mk (by simp) rfl
        · rintro _ ⟨sl, rfl⟩
          simp (implicitDefEqProofs := false) (disch := omega) [List.getElem?_cons_zero, b505_9, b505_10, hc2]
          exact fin_nil ⟨rfl, rfl⟩
      · rw [right_no ok2] at g3
        simp (implicitDefEqProofs := false) (disch := omega) [List.getElem?_cons_zero, b505_6, tS, s2, g1, g3, wrap64]
        exact fin_nil ⟨rfl, rfl⟩
  · rw [right_no ok] at g1
    simp (implicitDefEqProofs := false) (disch := omega) [List.getElem?_cons_zero, ir505, b505, b505_0, b505_1, b505_2, s1, s2, g0, g1, wrap64]
    exact fin_nil ⟨rfl, rfl⟩
end Go.Aw.Try

namespace Go.Aw.Try
open Go Go.Proofs Go.Aw
set_option maxRecDepth 100000
set_option maxHeartbeats 4000000
/-! ### the decided sets, by size; the set that goes ahead -/
theorem outU_has {M : List ByteArray} {vs : List Vote} {S : List ByteArray} (h : Dcd M vs S) : S ∈ outU M vs vs := by
  have key : ∀ (l : List Vote) (a : List (List ByteArray)), (∀ s ∈ a, s ∈ l.foldl (outStep M vs) a) ∧ ∀ v ∈ l, decB M vs v.set = true → v.set ∈ l.foldl (outStep M vs) a := by
    intro l
    induction l with
    | nil => intro a; exact ⟨fun s hs => hs, fun v hv => by cases hv⟩
    | cons v l ih =>
      intro a
      obtain ⟨h1, h2⟩ := ih (outStep M vs a v)
      have hin : ∀ s ∈ a, s ∈ outStep M vs a v := fun s hs => by
        unfold outStep; split
        · exact List.mem_append_left _ hs
        · exact hs
      refine ⟨fun s hs => h1 s (hin s hs), fun u hu hd => ?_⟩
      rcases List.mem_cons.1 hu with rfl | hu
      · refine h1 _ ?_
        unfold outStep
        split
        · exact List.mem_append_right _ (List.mem_singleton.2 rfl)
        · rename_i hc
          rw [hd, Bool.true_and, Bool.not_eq_true'] at hc
          have hc : (a.any fun x => decide (x = u.set)) = true := by
            cases hq : a.any fun x => decide (x = u.set)
            · exact absurd hq hc
            · rfl
          rw [List.any_eq_true] at hc
          obtain ⟨y, hy, he⟩ := hc
          rw [← of_decide_eq_true he]; exact hy
      · exact h2 u hu hd
  obtain ⟨⟨v, hv, rfl⟩, hd⟩ := h
  exact (key vs []).2 v hv hd
theorem vs_small {M : List ByteArray} {vs : List Vote} (h : VsOk M vs) (h8 : M.length ≤ 8) : ∀ v ∈ vs, SmallS v.set := fun v hv => by
  have := (h.ok v hv).half
  show v.set.length < _; omega
theorem mem_out {M : List ByteArray} {vs : List Vote} (h : VsOk M vs) (h8 : M.length ≤ 8) {S : List ByteArray} : S ∈ outL M vs ↔ Dcd M vs S := by
  rw [outL_mem (vs_small h h8)]
  exact ⟨dcd_of_out, outU_has⟩
theorem out_sorted {M : List ByteArray} {vs : List Vote} (h : VsOk M vs) (h8 : M.length ≤ 8) : (outL M vs).Pairwise fun a b => a.length < b.length := by
  obtain ⟨s1, s2, _⟩ := sortL_spec (outU_small (mem := M) (vs_small h h8))
  rw [List.pairwise_iff_forall_sublist]
  intro a b hab
  have hle := (List.pairwise_iff_forall_sublist.1 s1) hab
  unfold cmpZ at hle
  by_cases hq : a.length = b.length
  · exfalso
    have e1 : decide (cmpZ a a = 0) = true := decide_eq_true (by unfold cmpZ; omega)
    have e2 : decide (cmpZ a b = 0) = true := decide_eq_true (by unfold cmpZ; omega)
    have h1 : [a, b].filter (fun y => decide (cmpZ a y = 0)) = [a, b] := by
      rw [List.filter_cons, if_pos e1, List.filter_cons, if_pos e2]; rfl
    have h2 : [a, b].Sublist (cls cmpZ a (sortL (outU M vs vs))) := by
      rw [← h1]; exact hab.filter _
    rw [s2 a] at h2
    have h3 : [a, b].Sublist (outU M vs vs) := h2.trans List.filter_sublist
    have hne := (List.pairwise_iff_forall_sublist.1 (outU_nodup M vs vs)) h3
    have ha : a ∈ outU M vs vs := h3.subset (by simp)
    have hb : b ∈ outU M vs vs := h3.subset (by simp)
    exact hne (dcd_len h (dcd_of_out ha) (dcd_of_out hb) hq)
  · omega
theorem sorted_lt {sets : List (List ByteArray)} (h : sets.Pairwise fun a b => a.length < b.length) {i j : Nat} (hi : i < sets.length) (hj : j < sets.length) : (nth sets i).length < (nth sets j).length ↔ i < j := by
  have hp := List.pairwise_iff_getElem.1 h
  rw [nth_eq hi, nth_eq hj]
  constructor
  · intro hl
    rcases Nat.lt_trichotomy i j with q | q | q
    · exact q
    · subst q; omega
    · have := hp j i hj hi q; omega
  · intro hl; exact hp i j hi hj hl
/-- The set goes ahead of the other, for that name. -/
def Lead (vs : List Vote) (s : ByteArray) (T U : List ByteArray) : Prop := s ∈ U ∧ (∀ x ∈ U, x ∈ T) ∧ U.length < T.length ∧ anyKnows (ofV vs T) (ofV vs U) = true
theorem leadB_iff {vs : List Vote} {sets : List (List ByteArray)} {i j : Nat} {s : ByteArray} (h : sets.Pairwise fun a b => a.length < b.length) (hi : i < sets.length) (hj : j < i) :
    leadB vs sets i s j = true ↔ Lead vs s (nth sets i) (nth sets j) := by
  unfold leadB Lead
  rw [Bool.and_eq_true, Bool.and_eq_true, hasS_iff, partS_iff]
  have := (sorted_lt h (show j < sets.length by omega) hi).2 hj
  constructor
  · rintro ⟨a, b, c⟩; exact ⟨a, b, this, c⟩
  · rintro ⟨a, b, _, c⟩; exact ⟨a, b, c⟩
theorem pickI_none {vs : List Vote} {sets : List (List ByteArray)} {at' : Nat} {name : ByteArray} : ∀ {m : Nat}, pickI vs sets at' name m = none → ∀ j, j < m → leadB vs sets at' name j = false
  | 0, _, j, hj => by omega
  | m + 1, h, j, hj => by
    simp only [pickI] at h
    split at h
    · cases h
    · rename_i hl
      by_cases e : j = m
      · subst e
        cases hq : leadB vs sets at' name j
        · rfl
        · exact absurd hq hl
      · exact pickI_none h j (by omega)
theorem pickI_max {vs : List Vote} {sets : List (List ByteArray)} {at' : Nat} {name : ByteArray} : ∀ {m i : Nat}, pickI vs sets at' name m = some i → ∀ j, i < j → j < m → leadB vs sets at' name j = false
  | 0, i, h, _, _, _ => by cases h
  | m + 1, i, h, j, h1, h2 => by
    simp only [pickI] at h
    split at h
    · injection h with h; omega
    · rename_i hl
      by_cases e : j = m
      · subst e
        cases hq : leadB vs sets at' name j
        · rfl
        · exact absurd hq hl
      · exact pickI_max h j h1 (by omega)
/-- What is picked: of those that go ahead, the greatest. -/
theorem pick_some {vs : List Vote} {sets : List (List ByteArray)} {i j : Nat} {s : ByteArray} (h : sets.Pairwise fun a b => a.length < b.length) (hi : i < sets.length) (hp : pickI vs sets i s i = some j) :
    j < i ∧ Lead vs s (nth sets i) (nth sets j) ∧ ∀ W ∈ sets, Lead vs s (nth sets i) W → W.length ≤ (nth sets j).length := by
  have hlt := pickI_lt hp
  refine ⟨hlt, (leadB_iff h hi hlt).1 (pickI_lead hp), fun W hW hl => ?_⟩
  obtain ⟨k, hk, rfl⟩ := List.mem_iff_getElem.1 hW
  rw [← nth_eq hk] at hl ⊢
  have hki : k < i := (sorted_lt h hk hi).1 hl.2.2.1
  by_cases hjk : j < k
  · have := pickI_max hp k hjk hki
    rw [(leadB_iff h hi hki).2 hl] at this; cases this
  · by_cases e : k = j
    · subst e; exact Nat.le_refl _
    · exact Nat.le_of_lt ((sorted_lt h hk (by omega)).2 (by omega))
theorem pick_none {vs : List Vote} {sets : List (List ByteArray)} {i : Nat} {s : ByteArray} (h : sets.Pairwise fun a b => a.length < b.length) (hi : i < sets.length) (hp : pickI vs sets i s i = none) :
    ∀ W ∈ sets, ¬ Lead vs s (nth sets i) W := fun W hW hl => by
  obtain ⟨k, hk, rfl⟩ := List.mem_iff_getElem.1 hW
  rw [← nth_eq hk] at hl
  have hki : k < i := (sorted_lt h hk hi).1 hl.2.2.1
  have := pickI_none hp k hki
  rw [(leadB_iff h hi hki).2 hl] at this; cases this
theorem knowsV_ext {d : List Id} {a b : List Vote} (h : ∀ v, v ∈ a ↔ v ∈ b) : knowsV d a = knowsV d b := by
  refine bool_ext ?_
  unfold knowsV
  rw [List.all_eq_true, List.all_eq_true]
  exact ⟨fun q v hv => q v ((h v).2 hv), fun q v hv => q v ((h v).1 hv)⟩
theorem anyKnows_ext {a b c d : List Vote} (h : ∀ v, v ∈ a ↔ v ∈ b) (k : ∀ v, v ∈ c ↔ v ∈ d) : anyKnows a c = anyKnows b d := by
  refine bool_ext ?_
  unfold anyKnows
  rw [List.any_eq_true, List.any_eq_true]
  constructor
  · rintro ⟨v, hv, hk⟩; exact ⟨v, (h v).1 hv, by rw [← knowsV_ext k]; exact hk⟩
  · rintro ⟨v, hv, hk⟩; exact ⟨v, (h v).2 hv, by rw [knowsV_ext k]; exact hk⟩
theorem max_fold_le {s : ByteArray} {b : Int} : ∀ {l : List Vote} {x : Int}, x ≤ b → (∀ v ∈ l, hasN v.e.deps s ≤ b) → l.foldl (maxStep s) x ≤ b
  | [], x, hx, _ => hx
  | v :: l, x, hx, h => by
    rw [List.foldl_cons]
    refine max_fold_le ?_ fun u hu => h u (List.mem_cons_of_mem _ hu)
    have := h v (List.mem_cons_self ..)
    unfold maxStep; split <;> omega
theorem maxN_ext {a b : List Vote} {s : ByteArray} (h : ∀ v, v ∈ a ↔ v ∈ b) : maxN a s = maxN b s := by
  have key : ∀ {a b : List Vote}, (∀ v, v ∈ a → v ∈ b) → maxN a s ≤ maxN b s := fun {a b} h =>
    max_fold_le (max_fold (l := b) (x := 0)).1 fun v hv => maxN_ge (h v hv)
  exact Int.le_antisymm (key fun v hv => (h v).1 hv) (key fun v hv => (h v).2 hv)
end Go.Aw.Try

namespace Go.Aw.Try
open Go Go.Proofs Go.Aw
set_option maxRecDepth 100000
set_option maxHeartbeats 4000000
/-! ### EvictLate: the law -/
def byA (a : ByteArray) (e : Edit) : Bool := decide (e.id.a = a)
theorem gat_author (M : List ByteArray) (a : ByteArray) : ∀ (l : List Edit) (g h : Gs), g.vs.filter (fun v => byA a v.e) = h.vs → alook g.m a = alook h.m a →
    (l.foldl (gatS M) g).vs.filter (fun v => byA a v.e) = ((l.filter (byA a)).foldl (gatS M) h).vs ∧ alook (l.foldl (gatS M) g).m a = alook ((l.filter (byA a)).foldl (gatS M) h).m a
  | [], g, h, h1, h2 => ⟨h1, h2⟩
  | e :: l, g, h, h1, h2 => by
    rw [List.foldl_cons, List.filter_cons]
    cases hb : byA a e with
    | true =>
      have ha : e.id.a = a := of_decide_eq_true hb
      simp only [if_true, List.foldl_cons]
      refine gat_author M a l (gatS M g e) (gatS M h e) ?_ ?_
      · unfold gatS
        rw [ha, h2]
        cases namesO e M with
        | none => exact h1
        | some S =>
          by_cases q : blockB (alook h.m a) S = true
          · simp only [if_pos q]; exact h1
          · simp only [if_neg q]; rw [List.filter_append, h1]; simp [hb]
      · unfold gatS
        rw [ha, h2]
        cases namesO e M with
        | none => exact h2
        | some S =>
          by_cases q : blockB (alook h.m a) S = true
          · simp only [if_pos q]; exact h2
          · simp only [if_neg q]; rw [alook_aput, alook_aput, if_pos rfl, if_pos rfl]
    | false =>
      have ha : e.id.a ≠ a := of_decide_eq_false hb
      simp only [Bool.false_eq_true, if_false]
      refine gat_author M a l (gatS M g e) h ?_ ?_
      · unfold gatS
        cases namesO e M with
        | none => exact h1
        | some S =>
          by_cases q : blockB (alook g.m e.id.a) S = true
          · simp only [if_pos q]; exact h1
          · simp only [if_neg q]; rw [List.filter_append]; simp [hb, h1]
      · unfold gatS
        cases namesO e M with
        | none => exact h2
        | some S =>
          by_cases q : blockB (alook g.m e.id.a) S = true
          · simp only [if_pos q]; exact h2
          · simp only [if_neg q]; rw [alook_aput, if_neg ha]; exact h2
theorem gat_by (M : List ByteArray) (a : ByteArray) (l : List Edit) : (gatF M l).vs.filter (fun v => byA a v.e) = (gatF M (l.filter (byA a))).vs :=
  (gat_author M a l ⟨[], []⟩ ⟨[], []⟩ rfl rfl).1
theorem gat_more (M : List ByteArray) : ∀ (l : List Edit) (g : Gs), ∃ X, (l.foldl (gatS M) g).vs = g.vs ++ X ∧ ∀ v ∈ X, v.e ∈ l
  | [], g => ⟨[], by simp, fun v hv => by cases hv⟩
  | e :: l, g => by
    obtain ⟨X, h1, h2⟩ := gat_more M l (gatS M g e)
    have : ∃ Y, (gatS M g e).vs = g.vs ++ Y ∧ ∀ v ∈ Y, v.e ∈ e :: l := by
      unfold gatS
      cases namesO e M with
      | none => exact ⟨[], by simp, fun v hv => by cases hv⟩
      | some S =>
        by_cases q : blockB (alook g.m e.id.a) S = true
        · simp only [if_pos q]; exact ⟨[], by simp, fun v hv => by cases hv⟩
        · simp only [if_neg q]
          exact ⟨[⟨e, S⟩], rfl, fun v hv => by rw [List.mem_singleton] at hv; subst hv; exact List.mem_cons_self ..⟩
    obtain ⟨Y, h3, h4⟩ := this
    refine ⟨Y ++ X, by rw [List.foldl_cons, h1, h3, List.append_assoc], fun v hv => ?_⟩
    rcases List.mem_append.1 hv with hv | hv
    · exact h4 v hv
    · exact List.mem_cons_of_mem _ (h2 v hv)
theorem cutF_true {x : List Cutoff} {nm : ByteArray} (h : (cutF x nm).2 = true) : ∃ c ∈ x, c.who = nm ∧ c.err = 22 := by
  induction x with
  | nil => cases h
  | cons d x ih =>
    unfold cutF at h
    split at h
    · rename_i hc; exact ⟨d, List.mem_cons_self .., hc⟩
    · obtain ⟨c, hc, q⟩ := ih h
      exact ⟨c, List.mem_cons_of_mem _ hc, q⟩
theorem cutF_blk {N U : ByteArray → Int} {b : Bool} {s : ByteArray} : ∀ {S : List ByteArray}, s ∈ S → cutF (S.flatMap (blk N U b)) s = (N s, true)
  | [], h => by cases h
  | t :: S, h => by
    rw [List.flatMap_cons]
    by_cases q : t = s
    · subst q
      unfold blk
      rw [List.cons_append]
      unfold cutF
      rw [if_pos ⟨rfl, rfl⟩]
    · have hs : s ∈ S := by
        rcases List.mem_cons.1 h with e | e
        · exact absurd e.symm q
        · exact e
      have ih := cutF_blk (N := N) (U := U) (b := b) hs
      unfold blk at ih ⊢
      cases b
      · simp only [Bool.false_eq_true, if_false, List.cons_append, List.nil_append] at ih ⊢
        unfold cutF
        rw [if_neg (fun h => q h.1)]
        unfold cutF
        rw [if_neg (fun h => q h.1)]
        exact ih
      · simp only [if_true, List.cons_append, List.nil_append] at ih ⊢
        unfold cutF
        rw [if_neg (fun h => q h.1)]
        exact ih
/-- The votes with late ones, and those without. -/
structure LateV (M : List ByteArray) (vs vs' : List Vote) (S : List ByteArray) (Lt : Edit → Prop) : Prop where
  ok : VsOk M vs
  ok' : VsOk M vs'
  h8 : M.length ≤ 8
  sub : ∀ v ∈ vs, v ∈ vs'
  back : ∀ v ∈ vs', v ∈ vs ∨ Lt v.e
  who : ∀ e, Lt e → e.id.a ∈ S
  blind : ∀ v ∈ vs, ∀ e, Lt e → conI v.e.deps e.id = false
  not : ∀ v ∈ vs, ¬ Lt v.e
  dcd : Dcd M vs S
  top : ∀ T, Dcd M vs T → T.length ≤ S.length
section
variable {M : List ByteArray} {vs vs' : List Vote} {S : List ByteArray} {Lt : Edit → Prop}
theorem LateV.up (h : LateV M vs vs' S Lt) {T : List ByteArray} (hT : Dcd M vs T) : Dcd M vs' T := by
  obtain ⟨⟨v, hv, e⟩, hd⟩ := hT
  refine ⟨⟨v, h.sub v hv, e⟩, decB_iff.2 fun s hs hn => ?_⟩
  obtain ⟨u, hu, q⟩ := decB_iff.1 hd s hs hn
  exact ⟨u, h.sub u hu, q⟩
theorem LateV.down (h : LateV M vs vs' S Lt) {T : List ByteArray} (hT : Dcd M vs' T) : Dcd M vs T ∨ ∃ v ∈ vs', v.set = T ∧ Lt v.e := by
  by_cases q : ∃ v ∈ vs', v.set = T ∧ Lt v.e
  · exact .inr q
  · left
    have hin : ∀ v ∈ vs', v.set = T → v ∈ vs := fun v hv e => by
      rcases h.back v hv with a | a
      · exact a
      · exact absurd ⟨v, hv, e, a⟩ q
    obtain ⟨⟨v, hv, e⟩, hd⟩ := hT
    refine ⟨⟨v, hin v hv e, e⟩, decB_iff.2 fun s hs hn => ?_⟩
    obtain ⟨u, hu, e1, e2⟩ := decB_iff.1 hd s hs hn
    exact ⟨u, hin u hu e1, e1, e2⟩
theorem LateV.top' (h : LateV M vs vs' S Lt) {T : List ByteArray} (hT : Dcd M vs' T) : T.length ≤ S.length := by
  rcases dcd_cmp h.ok' (h.up h.dcd) hT with q | ⟨q, _⟩ | ⟨_, q⟩
  · subst q; exact Nat.le_refl _
  · rcases h.down hT with a | ⟨v, hv, e, a⟩
    · exact h.top T a
    · have := (h.ok'.ok v hv).self
      rw [e] at this
      exact absurd (q _ (h.who _ a)) this
  · omega
/-- Votes for a set that was decided are not late. -/
theorem LateV.of (h : LateV M vs vs' S Lt) {T : List ByteArray} (hT : Dcd M vs T) (v : Vote) : v ∈ ofV vs' T ↔ v ∈ ofV vs T := by
  rw [mem_ofV, mem_ofV]
  constructor
  · rintro ⟨hv, e⟩
    refine ⟨?_, e⟩
    rcases h.back v hv with a | a
    · exact a
    · have hk := h.ok'.ok v hv
      obtain ⟨u, hu, e1, e2⟩ := decB_iff.1 hT.2 v.e.id.a hk.mem (by rw [← e]; exact hk.self)
      have huv : u ∈ vs' := h.sub u hu
      obtain ⟨i, hi, hiu⟩ := List.mem_iff_getElem.1 huv
      obtain ⟨j, hj, hjv⟩ := List.mem_iff_getElem.1 hv
      have hc := List.pairwise_iff_getElem.1 h.ok'.chain
      rcases Nat.lt_trichotomy i j with q | q | q
      · have := (hc i j hi hj q (by rw [hiu, hjv]; exact e2)).2
        rw [hiu, hjv, e, e1] at this; omega
      · subst q; rw [hiu] at hjv; subst hjv; exact hu
      · have := (hc j i hj hi q (by rw [hiu, hjv]; exact e2.symm)).2
        rw [hiu, hjv, e, e1] at this; omega
  · rintro ⟨hv, e⟩; exact ⟨h.sub v hv, e⟩
theorem LateV.lead (h : LateV M vs vs' S Lt) {T U : List ByteArray} {s : ByteArray} (hT : Dcd M vs T) (hU : Dcd M vs' U) : Lead vs' s T U ↔ Dcd M vs U ∧ Lead vs s T U := by
  constructor
  · rintro ⟨a, b, c, d⟩
    have hUd : Dcd M vs U := by
      rcases h.down hU with q | ⟨u, hu, e, q⟩
      · exact q
      · exfalso
        unfold anyKnows at d
        rw [List.any_eq_true] at d
        obtain ⟨v, hv, hk⟩ := d
        have hv2 := (mem_ofV.1 ((h.of hT v).1 hv)).1
        unfold knowsV at hk
        rw [List.all_eq_true] at hk
        have := hk u (mem_ofV.2 ⟨hu, e⟩)
        rw [h.blind v hv2 u.e q] at this; cases this
    exact ⟨hUd, a, b, c, by rw [← anyKnows_ext (h.of hT) (h.of hUd)]; exact d⟩
  · rintro ⟨hUd, a, b, c, d⟩
    exact ⟨a, b, c, by rw [anyKnows_ext (h.of hT) (h.of hUd)]; exact d⟩
theorem LateV.upto (h : LateV M vs vs' S Lt) (s : ByteArray) : ∀ (n i i' : Nat) (T : List ByteArray), i < (outL M vs).length → i' < (outL M vs').length → nth (outL M vs) i = T → nth (outL M vs') i' = T → T.length = n →
    uptoE vs' (outL M vs') s i' = uptoE vs (outL M vs) s i := by
  have hs := out_sorted h.ok h.h8
  have hs' := out_sorted h.ok' h.h8
  intro n
  induction n using Nat.strongRecOn with
  | _ n ih =>
    intro i i' T hi hi' e1 e2 hn
    have hT : Dcd M vs T := (mem_out h.ok h.h8).1 (by rw [← e1]; exact nth_mem hi)
    have hdc : ∀ k, k < (outL M vs).length → Dcd M vs (nth (outL M vs) k) := fun k hk => (mem_out h.ok h.h8).1 (nth_mem hk)
    have hdc' : ∀ k, k < (outL M vs').length → Dcd M vs' (nth (outL M vs') k) := fun k hk => (mem_out h.ok' h.h8).1 (nth_mem hk)
    rw [uptoE_eq vs, uptoE_eq vs']
    cases hp : pickI vs (outL M vs) i s i with
    | none =>
      have hno := pick_none hs hi hp
      rw [e1] at hno
      cases hp' : pickI vs' (outL M vs') i' s i' with
      | none =>
        show maxN (ofV vs' (nth (outL M vs') i')) s = maxN (ofV vs (nth (outL M vs) i)) s
        rw [e1, e2]; exact maxN_ext (h.of hT)
      | some j' =>
        obtain ⟨q1, q2, _⟩ := pick_some hs' hi' hp'
        rw [e2] at q2
        have hl := (h.lead hT (hdc' j' (by omega))).1 q2
        exact absurd hl.2 (hno _ ((mem_out h.ok h.h8).2 hl.1))
    | some j =>
      obtain ⟨p1, p2, p3⟩ := pick_some hs hi hp
      rw [e1] at p2 p3
      have hUd := hdc j (by omega)
      have hUm' : nth (outL M vs) j ∈ outL M vs' := (mem_out h.ok' h.h8).2 (h.up hUd)
      have hl' := (h.lead hT (h.up hUd)).2 ⟨hUd, p2⟩
      cases hp' : pickI vs' (outL M vs') i' s i' with
      | none =>
        have hno' := pick_none hs' hi' hp'
        rw [e2] at hno'
        exact absurd hl' (hno' _ hUm')
      | some j' =>
        obtain ⟨q1, q2, q3⟩ := pick_some hs' hi' hp'
        rw [e2] at q2 q3
        have hle1 := q3 _ hUm' hl'
        have hd' := hdc' j' (by omega)
        have hl := (h.lead hT hd').1 q2
        have hle2 := p3 _ ((mem_out h.ok h.h8).2 hl.1) hl.2
        have heq : nth (outL M vs') j' = nth (outL M vs) j := dcd_len h.ok hl.1 hUd (by omega)
        exact ih _ (by have := p2.2.2.1; omega) j j' _ (by omega) (by omega) rfl heq rfl
end
theorem last_top {M : List ByteArray} {vs : List Vote} (h : VsOk M vs) (h8 : M.length ≤ 8) {T : List ByteArray} (hT : Dcd M vs T) : T.length ≤ (nth (outL M vs) ((outL M vs).length - 1)).length := by
  obtain ⟨k, hk, rfl⟩ := List.mem_iff_getElem.1 ((mem_out h h8).2 hT)
  rw [← nth_eq hk]
  by_cases e : k = (outL M vs).length - 1
  · rw [← e]; exact Nat.le_refl _
  · exact Nat.le_of_lt ((sorted_lt (out_sorted h h8) hk (by omega)).2 (by omega))
end Go.Aw.Try

namespace Go.Aw.Try
open Go Go.Proofs Go.Aw
set_option maxRecDepth 100000
set_option maxHeartbeats 4000000
/-! ### EvictLate: joined -/
theorem cmpE_clock {a b : Edit} (h : a.clock < b.clock) : cmpE a b < 0 := by
  have h1 : cmpI a.clock b.clock = -1 := by unfold cmpI; rw [if_pos h]
  unfold cmpE orI
  rw [h1]; simp
theorem late_votes {M : List ByteArray} {l Lt : List Edit} (h1 : NoFork l) (h2 : NoFork (l ++ Lt)) (h3 : ∀ e ∈ Lt, ∀ f ∈ l, f.id.a = e.id.a → f.clock < e.clock) :
    (∀ v ∈ (gatF M (sortE l)).vs, v ∈ (gatF M (sortE (l ++ Lt))).vs) ∧ ∀ v ∈ (gatF M (sortE (l ++ Lt))).vs, v ∈ (gatF M (sortE l)).vs ∨ v.e ∈ Lt := by
  have h4 : NoFork Lt := fun y hy z hz e => h2 y (List.mem_append_right _ hy) z (List.mem_append_right _ hz) e
  have hs : ∀ a, (sortE (l ++ Lt)).filter (byA a) = (sortE l).filter (byA a) ++ (sortE Lt).filter (byA a) := fun a => by
    refine sst_ext ((sortE_sst _).filter _) ?_ fun e => ?_
    · unfold Sst
      rw [List.pairwise_append]
      refine ⟨(sortE_sst _).filter _, (sortE_sst _).filter _, fun x hx y hy => ?_⟩
      rw [List.mem_filter, h1.sort_mem] at hx
      rw [List.mem_filter, h4.sort_mem] at hy
      have ex : x.id.a = a := of_decide_eq_true hx.2
      have ey : y.id.a = a := of_decide_eq_true hy.2
      exact cmpE_clock (h3 y hy.1 x hx.1 (by rw [ex, ey]))
    · rw [List.mem_append, List.mem_filter, List.mem_filter, List.mem_filter, h1.sort_mem, h2.sort_mem, h4.sort_mem, List.mem_append]
      constructor
      · rintro ⟨a | a, b⟩
        · exact .inl ⟨a, b⟩
        · exact .inr ⟨a, b⟩
      · rintro (⟨a, b⟩ | ⟨a, b⟩)
        · exact ⟨.inl a, b⟩
        · exact ⟨.inr a, b⟩
  have key : ∀ a, ∃ X, (gatF M ((sortE (l ++ Lt)).filter (byA a))).vs = (gatF M ((sortE l).filter (byA a))).vs ++ X ∧ ∀ v ∈ X, v.e ∈ Lt := fun a => by
    rw [hs a]
    have e : gatF M ((sortE l).filter (byA a) ++ (sortE Lt).filter (byA a)) = ((sortE Lt).filter (byA a)).foldl (gatS M) (gatF M ((sortE l).filter (byA a))) := by
      unfold gatF; rw [List.foldl_append]
    rw [e]
    obtain ⟨X, q1, q2⟩ := gat_more M ((sortE Lt).filter (byA a)) (gatF M ((sortE l).filter (byA a)))
    exact ⟨X, q1, fun v hv => sortE_mem (List.mem_filter.1 (q2 v hv)).1⟩
  have hin : ∀ (L : List Edit) (v : Vote), v ∈ (gatF M L).vs ↔ v ∈ (gatF M (L.filter (byA v.e.id.a))).vs := fun L v => by
    rw [← gat_by, List.mem_filter]
    exact ⟨fun h => ⟨h, decide_eq_true rfl⟩, fun h => h.1⟩
  refine ⟨fun v hv => ?_, fun v hv => ?_⟩
  · obtain ⟨X, q1, q2⟩ := key v.e.id.a
    rw [hin, q1]
    exact List.mem_append_left _ ((hin _ v).1 hv)
  · obtain ⟨X, q1, q2⟩ := key v.e.id.a
    have := (hin _ v).1 hv
    rw [q1] at this
    rcases List.mem_append.1 this with a | a
    · exact .inl ((hin _ v).2 a)
    · exact .inr (q2 v a)
theorem late_law {l late : List Edit} {all : List Member} (h1 : OkR l all) (h2 : OkR (lateL (cutsE l all) l late) all) :
    (∀ c ∈ cutsE l all, c.err = 22 → cutF (cutsE (lateL (cutsE l all) l late) all) c.who = (c.n, true)) ∧ (cutsE (lateL (cutsE l all) l late) all).length = (cutsE l all).length := by
  obtain ⟨M, hM⟩ : ∃ M, M = all.map Member.name := ⟨_, rfl⟩
  have h8 : M.length ≤ 8 := by rw [hM, List.length_map]; exact h1.2.1
  obtain ⟨vs, hvs⟩ : ∃ v, v = (gatF M (sortE l)).vs := ⟨_, rfl⟩
  have hc : gatC l all = ⟨M, l, vs⟩ := by unfold gatC; rw [← hM, ← hvs]
  have hok : VsOk M vs := by have := h1.vs; rw [hc, ← hM] at this; exact this
  have hx0 : cutsE l all = cutsC ⟨M, l, vs⟩ (outL M vs) := by unfold cutsE; rw [hc]
  by_cases hz : (outL M vs).length = 0
  · have hx : cutsE l all = [] := by rw [hx0]; unfold cutsC; rw [if_pos hz]
    have hL : lateL (cutsE l all) l late = l := by
      unfold lateL
      have : late.filter (lateB (cutsE l all) l) = [] := by
        rw [List.filter_eq_nil_iff]
        intro e _ hq
        rw [hx] at hq
        unfold lateB cutF at hq
        simp at hq
      rw [this, List.append_nil]
    rw [hL, hx]
    exact ⟨fun c hc => (by cases hc), rfl⟩
  · obtain ⟨S, hS⟩ : ∃ S, S = nth (outL M vs) ((outL M vs).length - 1) := ⟨_, rfl⟩
    have hlt : (outL M vs).length - 1 < (outL M vs).length := by omega
    have hSd : Dcd M vs S := (mem_out hok h8).1 (by rw [hS]; exact nth_mem hlt)
    obtain ⟨fin, hfin⟩ : ∃ b, b = finalB ⟨M, l, vs⟩ S := ⟨_, rfl⟩
    have hx : cutsE l all = S.flatMap (blk (fun s => uptoE vs (outL M vs) s ((outL M vs).length - 1)) (fun s => sureN vs s) fin) := by
      rw [hx0]; unfold cutsC; rw [if_neg hz, ← hS, ← hfin]; rfl
    have hgone : ∀ a, (cutF (cutsE l all) a).2 = true → a ∈ S := fun a ha => by
      obtain ⟨c, hcm, hcw, _⟩ := cutF_true ha
      rw [hx] at hcm
      obtain ⟨s, hs, hcs⟩ := List.mem_flatMap.1 hcm
      have : c.who = s := by
        unfold blk at hcs
        cases fin
        · simp at hcs; rcases hcs with rfl | rfl <;> rfl
        · simp at hcs; rw [hcs]
      rw [← hcw, this]; exact hs
    obtain ⟨Lt, hLt⟩ : ∃ Lt, Lt = late.filter (lateB (cutsE l all) l) := ⟨_, rfl⟩
    have hL : lateL (cutsE l all) l late = l ++ Lt := by rw [hLt]; rfl
    have hlt2 : ∀ e ∈ Lt, e.id.a ∈ S ∧ ∀ f ∈ l, conI f.deps e.id = false ∧ (f.id.a = e.id.a → f.id.n < e.id.n ∧ f.clock < e.clock) := fun e he => by
      rw [hLt, List.mem_filter] at he
      have hb := he.2
      unfold lateB at hb
      rw [Bool.and_eq_true, List.all_eq_true] at hb
      refine ⟨hgone _ hb.1, fun f hf => ?_⟩
      have := hb.2 f hf
      unfold lateF at this
      simp only [Bool.and_eq_true, Bool.or_eq_true, Bool.not_eq_true', decide_eq_true_eq, decide_eq_false_iff_not] at this
      refine ⟨this.1, fun ha => ?_⟩
      rcases this.2 with q | q
      · exact absurd ha q
      · exact q
    rw [hL] at h2 ⊢
    obtain ⟨vs', hvs'⟩ : ∃ v, v = (gatF M (sortE (l ++ Lt))).vs := ⟨_, rfl⟩
    have hc' : gatC (l ++ Lt) all = ⟨M, l ++ Lt, vs'⟩ := by unfold gatC; rw [← hM, ← hvs']
    have hok' : VsOk M vs' := by have := h2.vs; rw [hc', ← hM] at this; exact this
    obtain ⟨v1, v2⟩ := late_votes (M := M) h1.noFork h2.noFork fun e he f hf ha => ((hlt2 e he).2 f hf).2 ha |>.2
    rw [← hvs, ← hvs'] at v1 v2
    have hvl : ∀ v ∈ vs, v.e ∈ l := fun v hv => by
      have : v ∈ (gatC l all).vs := by rw [hc]; exact hv
      exact (gatC_mem this).1
    have H : LateV M vs vs' S (fun e => e ∈ Lt) := ⟨hok, hok', h8, v1, v2, fun e he => (hlt2 e he).1, fun v hv e he => ((hlt2 e he).2 v.e (hvl v hv)).1,
      fun v hv hq => by
        have := ((hlt2 v.e hq).2 v.e (hvl v hv)).2 rfl
        omega, hSd, fun T hT => by rw [hS]; exact last_top hok h8 hT⟩
    have hS' : Dcd M vs' S := H.up hSd
    have hSm' : S ∈ outL M vs' := (mem_out hok' h8).2 hS'
    have hpos : 0 < (outL M vs').length := List.length_pos_of_mem hSm'
    have hlt' : (outL M vs').length - 1 < (outL M vs').length := by omega
    have hlast : nth (outL M vs') ((outL M vs').length - 1) = S := by
      have d1 : Dcd M vs' (nth (outL M vs') ((outL M vs').length - 1)) := (mem_out hok' h8).1 (nth_mem hlt')
      have l1 := last_top hok' h8 hS'
      have l2 := H.top' d1
      exact dcd_len hok' d1 hS' (by omega)
    have hf' : finalB ⟨M, l ++ Lt, vs'⟩ S = fin := by
      rw [hfin]
      refine bool_ext ?_
      rw [finalB_iff, finalB_iff]
      have hk : ∀ s, s ∉ S → (knewB (l ++ Lt) (ofV vs' S) s = true ↔ knewB l (ofV vs S) s = true) := fun s hs => by
        unfold knewB
        rw [List.any_eq_true, List.any_eq_true]
        constructor
        · rintro ⟨e, he, q⟩
          rw [Bool.and_eq_true] at q
          have ha : e.id.a = s := of_decide_eq_true q.1
          rcases List.mem_append.1 he with he | he
          · exact ⟨e, he, by rw [Bool.and_eq_true]; exact ⟨q.1, by rw [← knowsV_ext (H.of hSd)]; exact q.2⟩⟩
          · exact absurd (by rw [← ha]; exact (hlt2 e he).1) hs
        · rintro ⟨e, he, q⟩
          rw [Bool.and_eq_true] at q
          exact ⟨e, List.mem_append_left _ he, by rw [Bool.and_eq_true]; exact ⟨q.1, by rw [knowsV_ext (H.of hSd)]; exact q.2⟩⟩
      exact ⟨fun q s hs hn => (hk s hn).1 (q s hs hn), fun q s hs hn => (hk s hn).2 (q s hs hn)⟩
    have hy : cutsE (l ++ Lt) all = S.flatMap (blk (fun s => uptoE vs' (outL M vs') s ((outL M vs').length - 1)) (fun s => sureN vs' s) fin) := by
      unfold cutsE; rw [hc']; unfold cutsC; rw [if_neg (show ¬ (outL M vs').length = 0 by omega)]
      show (nth (outL M vs') ((outL M vs').length - 1)).flatMap (cutOf ⟨M, l ++ Lt, vs'⟩ (outL M vs') (finalB ⟨M, l ++ Lt, vs'⟩ (nth (outL M vs') ((outL M vs').length - 1)))) = _
      rw [hlast, hf']; rfl
    have hN : ∀ s, uptoE vs' (outL M vs') s ((outL M vs').length - 1) = uptoE vs (outL M vs) s ((outL M vs).length - 1) := fun s =>
      H.upto s S.length _ _ S hlt hlt' hS.symm hlast rfl
    have hblen : ∀ (N U : ByteArray → Int) (N2 U2 : ByteArray → Int) (T : List ByteArray), (T.flatMap (blk N U fin)).length = (T.flatMap (blk N2 U2 fin)).length := fun N U N2 U2 T => by
      induction T with
      | nil => rfl
      | cons t T ih =>
        rw [List.flatMap_cons, List.flatMap_cons, List.length_append, List.length_append, ih]
        congr 1
        unfold blk; cases fin <;> rfl
    refine ⟨fun c hc he => ?_, by rw [hx, hy]; exact hblen _ _ _ _ _⟩
    rw [hx] at hc
    obtain ⟨s, hs, hcs⟩ := List.mem_flatMap.1 hc
    have hcc : c = ⟨s, uptoE vs (outL M vs) s ((outL M vs).length - 1), 22⟩ := by
      unfold blk at hcs
      cases fin
      · simp at hcs
        rcases hcs with rfl | rfl
        · rfl
        · cases he
      · simp at hcs; exact hcs
    subst hcc
    rw [hy, cutF_blk hs, hN]
theorem late_walk (m : Int) (l late : List Edit) (all : List Member) (hz : Sz l all) (hz2 : ∀ e ∈ late, szE e) (b1 : l.length ≤ 1048576) (b2 : late.length ≤ 1048576) :
    ACalls Tryz.prog (GM m) 5 [.c (.d (.sl (l.map Edit.row))), .c (.d (.sl (late.map Edit.row))), .c (.d (.sl (all.map Member.row)))] [] fun t H => t = .bool true ∧ H = [] :=
  k505 m l late all hz hz2 b1 b2 late_law
end Go.Aw.Try
