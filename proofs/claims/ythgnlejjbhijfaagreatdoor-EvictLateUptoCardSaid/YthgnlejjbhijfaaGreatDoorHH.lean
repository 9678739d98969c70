/- An abstract machine over the model, and contracts of functions of this program on it (part 8): words and lemmas for the proof in the last text. -/
import Derived.Test.YthgnlejjbhijfaaGreatDoorHG
set_option linter.unusedSimpArgs false
set_option linter.unusedVariables false
set_option linter.unusedSectionVars false

namespace Go.Aw.Try
open Go Go.Proofs Go.Aw
set_option maxRecDepth 100000
set_option maxHeartbeats 4000000
def b506_0 : AC := (.region 0 [
    ⟨(some 6), (.mov (.const (.bool false))), none⟩])
def b506_1 : AC := (.seq (.region 0 [
    ⟨(some 15), (.call 11 []), none⟩,
    ⟨(some 16), (.not (.tmp 15)), none⟩])
  (.cond (.tmp 16) (.seq (.region 0 [
    ⟨(some 6), (.mov (.const (.bool false))), none⟩])
  .ret) .skip))
def b506_2 : AC := (.region 2 [
    ⟨(some 17), (.bsl 0 18 [(.v (.string ⟨#[]⟩)), (.v (.int .i64 0)), (.v (.int .i64 0)), (.v (.int .i64 0)), (.v (.slice none 0 0)), (.v (.int .i64 0)), (.v (.string ⟨#[]⟩)), (.v (.int .i64 0)), (.v (.string ⟨#[]⟩)), (.v (.int .i64 0)), (.v (.bool false)), (.v (.string ⟨#[]⟩)), (.v (.string ⟨#[]⟩)), (.v (.string ⟨#[]⟩)), (.v (.string ⟨#[]⟩)), (.v (.string ⟨#[]⟩)), (.v (.int .i64 0)), (.v (.string ⟨#[]⟩))] 0 []), none⟩,
    ⟨(some 18), (.mov (.tmp 0)), none⟩,
    ⟨(some 19), (.app 1 18 232 (.tmp 17) (.tmp 18)), none⟩,
    ⟨(some 7), (.mov (.tmp 19)), none⟩])
def b506_3 : AC := (.seq (.region 0 [
    ⟨(some 20), (.mov (.tmp 1)), none⟩,
    ⟨(some 21), (.lenL (.tmp 20)), none⟩,
    ⟨(some 22), (.mov (.const (.int .i64 0))), none⟩])
  (.block 0 (.loop (.seq (.region 0 [
    ⟨(some 23), (.binI .lss .i64 (.tmp 22) (.tmp 21)), none⟩])
  (.seq (.cond (.tmp 23) .skip (.exit 0))
  (.seq (.block 1 (.seq (.region 1 [
    ⟨(some 24), (.iaddr 18 (.tmp 20) (.tmp 22)), none⟩,
    ⟨(some 25), (.load true 18 (.tmp 24)), none⟩,
    ⟨(some 9), (.zero 0 [(.v (.string ⟨#[]⟩)), (.v (.int .i64 0)), (.v (.int .i64 0)), (.v (.int .i64 0)), (.v (.slice none 0 0)), (.v (.int .i64 0)), (.v (.string ⟨#[]⟩)), (.v (.int .i64 0)), (.v (.string ⟨#[]⟩)), (.v (.int .i64 0)), (.v (.bool false)), (.v (.string ⟨#[]⟩)), (.v (.string ⟨#[]⟩)), (.v (.string ⟨#[]⟩)), (.v (.string ⟨#[]⟩)), (.v (.string ⟨#[]⟩)), (.v (.int .i64 0)), (.v (.string ⟨#[]⟩))]), none⟩,
    ⟨none, (.store 18 (.tmp 9) (.tmp 25)), none⟩])
  (.seq (.region 0 [
    ⟨(some 26), (.faddr 5 (.tmp 9)), none⟩,
    ⟨(some 27), (.load false 1 (.tmp 26)), none⟩,
    ⟨(some 28), (.binI .neq .i64 (.tmp 27) (.const (.int .i64 5))), none⟩])
  (.cond (.tmp 28) (.region 2 [
    ⟨(some 29), (.mov (.tmp 7)), none⟩,
    ⟨(some 30), (.load true 18 (.tmp 9)), none⟩,
    ⟨(some 31), (.bsl 0 18 [(.v (.string ⟨#[]⟩)), (.v (.int .i64 0)), (.v (.int .i64 0)), (.v (.int .i64 0)), (.v (.slice none 0 0)), (.v (.int .i64 0)), (.v (.string ⟨#[]⟩)), (.v (.int .i64 0)), (.v (.string ⟨#[]⟩)), (.v (.int .i64 0)), (.v (.bool false)), (.v (.string ⟨#[]⟩)), (.v (.string ⟨#[]⟩)), (.v (.string ⟨#[]⟩)), (.v (.string ⟨#[]⟩)), (.v (.string ⟨#[]⟩)), (.v (.int .i64 0)), (.v (.string ⟨#[]⟩))] 1 [(0, (.tmp 30))]), none⟩,
    ⟨(some 32), (.app 1 18 232 (.tmp 29) (.tmp 31)), none⟩,
    ⟨(some 7), (.mov (.tmp 32)), none⟩]) .skip))))
  (.region 0 [
    ⟨(some 33), (.binI .add .i64 (.tmp 22) (.const (.int .i64 1))), none⟩,
    ⟨(some 22), (.mov (.tmp 33)), none⟩])))))))
def b506_4 : AC := (.seq (.region 0 [
    ⟨(some 34), (.mov (.tmp 0)), none⟩,
    ⟨(some 35), (.mov (.tmp 2)), none⟩,
    ⟨(some 36), (.call 12 [(.tmp 34), (.tmp 35)]), none⟩,
    ⟨(some 37), (.binI .eql .i64 (.tmp 36) (.const (.int .i64 0))), none⟩,
    ⟨(some 38), (.mov (.tmp 37)), none⟩,
    ⟨(some 39), (.mov (.tmp 7)), (some (38, false))⟩,
    ⟨(some 40), (.mov (.tmp 2)), (some (38, false))⟩,
    ⟨(some 41), (.call 12 [(.tmp 39), (.tmp 40)]), (some (38, false))⟩,
    ⟨(some 42), (.binI .eql .i64 (.tmp 41) (.const (.int .i64 0))), (some (38, false))⟩,
    ⟨(some 43), (.pick (.tmp 38) (.const (.bool true)) (.tmp 42)), none⟩])
  (.cond (.tmp 43) (.seq (.region 0 [
    ⟨(some 6), (.mov (.const (.bool true))), none⟩])
  .ret) .skip))
def b506_5 : AC := (.region 0 [
    ⟨(some 44), (.mov (.tmp 0)), none⟩,
    ⟨(some 45), (.mov (.tmp 2)), none⟩,
    ⟨(some 46), (.call 14 [(.tmp 44), (.tmp 45)]), none⟩,
    ⟨(some 47), (.mov (.tmp 7)), none⟩,
    ⟨(some 48), (.mov (.tmp 2)), none⟩,
    ⟨(some 49), (.call 14 [(.tmp 47), (.tmp 48)]), none⟩,
    ⟨(some 10), (.mov (.tmp 46)), none⟩,
    ⟨(some 11), (.mov (.tmp 49)), none⟩])
def b506_6 : AC := (.seq (.region 0 [
    ⟨(some 50), (.mov (.tmp 10)), none⟩,
    ⟨(some 51), (.mov (.tmp 11)), none⟩,
    ⟨(some 52), (.call 13 [(.tmp 50), (.tmp 51)]), none⟩])
  (.cond (.tmp 52) (.seq (.region 0 [
    ⟨(some 6), (.mov (.const (.bool true))), none⟩])
  .ret) .skip))
def b506_7 : AC := (.region 0 [
    ⟨(some 12), (.mov (.const (.slice none 0 0))), none⟩])
def b506_8 : AC := (.seq (.region 0 [
    ⟨(some 53), (.mov (.tmp 10)), none⟩,
    ⟨(some 54), (.lenL (.tmp 53)), none⟩,
    ⟨(some 55), (.mov (.const (.int .i64 0))), none⟩])
  (.block 2 (.loop (.seq (.region 0 [
    ⟨(some 56), (.binI .lss .i64 (.tmp 55) (.tmp 54)), none⟩])
  (.seq (.cond (.tmp 56) .skip (.exit 2))
  (.seq (.block 3 (.seq (.region 1 [
    ⟨(some 57), (.iaddr 3 (.tmp 53) (.tmp 55)), none⟩,
    ⟨(some 58), (.load true 3 (.tmp 57)), none⟩,
    ⟨(some 14), (.zero 0 [(.v (.string ⟨#[]⟩)), (.v (.int .i64 0)), (.v (.int .i64 0))]), none⟩,
    ⟨none, (.store 3 (.tmp 14) (.tmp 58)), none⟩])
  (.seq (.region 0 [
    ⟨(some 59), (.faddr 2 (.tmp 14)), none⟩,
    ⟨(some 60), (.load false 1 (.tmp 59)), none⟩,
    ⟨(some 61), (.binI .eql .i64 (.tmp 60) (.const (.int .i64 22))), none⟩])
  (.cond (.tmp 61) (.region 2 [
    ⟨(some 62), (.mov (.tmp 12)), none⟩,
    ⟨(some 63), (.load true 3 (.tmp 14)), none⟩,
    ⟨(some 64), (.bsl 0 3 [(.v (.string ⟨#[]⟩)), (.v (.int .i64 0)), (.v (.int .i64 0))] 1 [(0, (.tmp 63))]), none⟩,
    ⟨(some 65), (.app 1 3 32 (.tmp 62) (.tmp 64)), none⟩,
    ⟨(some 12), (.mov (.tmp 65)), none⟩]) .skip))))
  (.region 0 [
    ⟨(some 66), (.binI .add .i64 (.tmp 55) (.const (.int .i64 1))), none⟩,
    ⟨(some 55), (.mov (.tmp 66)), none⟩])))))))
def b506_9 : AC := (.region 0 [
    ⟨(some 67), (.mov (.tmp 11)), none⟩,
    ⟨(some 68), (.mov (.tmp 12)), none⟩,
    ⟨(some 69), (.call 13 [(.tmp 67), (.tmp 68)]), none⟩,
    ⟨(some 6), (.mov (.tmp 69)), none⟩])
def b506_10 : AC := .ret
def b506 : AC := (.seq b506_0 (.seq b506_1 (.seq b506_2 (.seq b506_3 (.seq b506_4 (.seq b506_5 (.seq b506_6 (.seq b506_7 (.seq b506_8 (.seq b506_9 b506_10))))))))))
def ir506 : AF := ⟨70, [(.tmp 6)], b506⟩
theorem c506 : compF tt Tryz.f6 = some ir506 := by kernel_rfl
end Go.Aw.Try

namespace Go.Aw.Try
open Go Go.Proofs Go.Aw
set_option maxRecDepth 100000
set_option maxHeartbeats 4000000
/-! ### EvictNotes: the walk -/
def notV (e : Edit) : Bool := !decide (e.kind = 5)
def goneC (c : Cutoff) : Bool := decide (c.err = 22)
def nextN (l more : List Edit) : List Edit := l ++ more.filter notV
theorem filt_take {α : Type} [Inhabited α] (p : α → Bool) {l : List α} {i : Nat} (h : i < l.length) : (l.take (i + 1)).filter p = if p (nth l i) = true then (l.take i).filter p ++ [nth l i] else (l.take i).filter p := by
  rw [take_nth h, List.filter_append]
  cases hp : p (nth l i) <;> simp [hp]
theorem k506 (m : Int) (l more : List Edit) (all : List Member) (hz : Sz l all) (hz2 : Sz (nextN l more) all) (b1 : l.length ≤ 1048576) (b2 : more.length ≤ 1048576)
    (hlaw : OkR l all → OkR (nextN l more) all → cutsE (nextN l more) all = cutsE l all ∨ cutsE (nextN l more) all = (cutsE l all).filter goneC) :
    ACalls Tryz.prog (GM m) 6 [.c (.d (.sl (l.map Edit.row))), .c (.d (.sl (more.map Edit.row))), .c (.d (.sl (all.map Member.row)))] [] fun t H => t = .bool true ∧ H = [] := by
  have s1 : x511.sc = true := rfl
  have s2 : x512.sc = true := rfl
  have s3 : (x514 m).sc = false := rfl
  have s4 : x513.sc = true := rfl
  have g0 : x511.g [] = some (True, .bool true) := rfl
  have g1 := xg512 l all hz.sl hz.sa hz.sn hz.se
  have g2 := xg512 (nextN l more) all hz2.sl hz2.sa hz2.sn hz2.se
  refine acallsX (X := [(11, x511), (12, x512), (14, x514 m), (13, x513)]) ⟨kx511 m, kx512.gm, kx514 m, kx513.gm, trivial⟩ tab hmix Tryz.func6 c506 (by rfl) fun hw => ?_
  simp (implicitDefEqProofs := false) (disch := omega) [List.getElem?_cons_zero, ir506, b506, b506_0, b506_1, b506_2, b506_3, s1, g0, wrap64, splice, fillC, toDs, toD, Nat.add_assoc]
  repeat' (with_reducible apply And.intro)
  all_goals first | omega | kernel_rfl | exact fun _ _ => rfl | skip
  obtain ⟨T0, hT0⟩ : ∃ T : Nat → List Edit, T = fun i => l ++ (more.take i).filter notV := ⟨_, rfl⟩
  have hTl : ∀ i, i ≤ more.length → (T0 i).length ≤ 2097152 := fun i hi => by
    rw [hT0]
    have h1 : ((more.take i).filter notV).length ≤ (more.take i).length := List.length_filter_le _ _
    simp at h1 ⊢; omega
  refine loopE (fun k st => ∃ i, i ≤ more.length ∧ k = more.length - i ∧
      st = ⟨ofL [(0, .v (.c (.d (.sl (l.map Edit.row))))), (2, .v (.c (.d (.sl (all.map Member.row))))), (7, .v (.c (.os 0 18 0 (T0 i).length))), (20, .v (.c (.d (.sl (more.map Edit.row))))), (21, .int .i64 more.length), (22, .int .i64 i)], [.row 18 ((T0 i).map Edit.row)]⟩)
    (fun st => AtS [(0, .v (.c (.d (.sl (l.map Edit.row))))), (2, .v (.c (.d (.sl (all.map Member.row))))), (7, .v (.c (.os 0 18 0 (nextN l more).length)))] [.row 18 ((nextN l more).map Edit.row)] st) ?_ ?_ ?_
  · refine wk_nil [1] [0, 2, 7, 20, 21, 22] rfl ⟨_, 0, by omega, rfl, ?_⟩
    rw [hT0]; simp [phi, O.ren]
  · rintro J L hJ hL k st ⟨i, hi, rfl, rfl⟩
    by_cases hlt : i < more.length
    · obtain ⟨e, he⟩ : ∃ e, nth more i = e := ⟨_, rfl⟩
      have hee : e.row = [.v (.string e.id.a), .v (.int .i64 e.id.n), .v (.int .i64 e.clock), .v (.int .i64 e.floor), .sl (e.deps.map Id.row), .v (.int .i64 e.kind), .v (.string e.node.a), .v (.int .i64 e.node.n), .v (.string e.parent.a), .v (.int .i64 e.parent.n), .v (.bool e.neg), .v (.string e.num), .v (.string e.den), .v (.string e.field), .v (.string e.value), .v (.string e.target.a), .v (.int .i64 e.target.n), .v (.string e.who)] := rfl
      have hst : T0 (i + 1) = if notV e = true then T0 i ++ [e] else T0 i := by
        rw [hT0]; simp only; rw [filt_take notV hlt, he]; split <;> simp
      have hl1 := hTl i hi
      obtain ⟨T, hT⟩ : ∃ T, T = T0 i := ⟨_, rfl⟩
      rw [← hT] at hst hl1 ⊢
      have tS : (T.map Edit.row).take T.length = T.map Edit.row := List.take_of_length_le (by simp)
      by_cases c1 : e.kind = 5
      · rw [if_neg (by unfold notV; simp [c1])] at hst
        simp (implicitDefEqProofs := false) (disch := omega) [List.getElem?_cons_zero, hlt, wrap64, nth_map, he, hee, splice, fillC, c1]
        subst hJ
        refine wk_nil [0] [0, 2, 7, 20, 21, 22] rfl ⟨more.length - (i + 1), by omega, i + 1, by omega, rfl, ?_⟩
        rw [hst]; simp [phi, O.ren]
      · rw [if_pos (by unfold notV; simp [c1])] at hst
        simp (implicitDefEqProofs := false) (disch := omega) [List.getElem?_cons_zero, hlt, wrap64, nth_map, he, hee, splice, fillC, c1, tS, toPVs, frzVs, osVs, toPV, toDs, toD, Nat.add_assoc]
        repeat' (with_reducible apply And.intro)
        all_goals first | omega | kernel_rfl | exact fun _ _ => rfl | skip
        subst hJ
        refine wk_nil [3] [0, 2, 7, 20, 21, 22] rfl ⟨more.length - (i + 1), by omega, i + 1, by omega, rfl, ?_⟩
        rw [hst]; simp [phi, O.ren, Edit.row]
    · have : i = more.length := by omega
      subst this
      simp (implicitDefEqProofs := false) (disch := omega) [List.getElem?_cons_zero, hlt]
      subst hL
      have : T0 more.length = nextN l more := by rw [hT0]; simp [nextN]
      rw [this]
      exact at_mk (by simp) rfl
  · rintro _ ⟨sl, rfl⟩
    obtain ⟨N, hN⟩ : ∃ N, N = nextN l more := ⟨_, rfl⟩
    rw [← hN] at g2 hlaw ⊢
    have tS : (N.map Edit.row).take N.length = N.map Edit.row := List.take_of_length_le (by simp)
    by_cases ok1 : OkR l all
    · rw [right_yes ok1] at g1
      by_cases ok2 : OkR N all
      · rw [right_yes ok2] at g2
        have g3 := xg514 m l all ok1.okC
        have g4 := xg514 m N all ok2.okC
        have hxl := (minority_ok ok1).len
        have hyl := (minority_ok ok2).len
        have hlaw := hlaw ok1 ok2
        obtain ⟨x, hx⟩ : ∃ x, x = cutsE l all := ⟨_, rfl⟩
        obtain ⟨y, hy⟩ : ∃ x, x = cutsE N all := ⟨_, rfl⟩
        rw [← hx] at g3 hxl hlaw
        rw [← hy] at g4 hyl hlaw
        have g5 := xg513 x y (by omega)
        by_cases hxy : x = y
        · subst hxy
          rw [decide_eq_true rfl] at g5
          simp (implicitDefEqProofs := false) (disch := omega) [List.getElem?_cons_zero, b506_4, b506_5, b506_6, tS, s2, s3, s4, g1, g2, g3, g4, g5, wrap64, toPVs, frzVs, osVs, toPV, toDs, toD]
          exact fin_nil ⟨rfl, rfl⟩
        · rw [decide_eq_false hxy] at g5
          have hyg : y = x.filter goneC := by
            rcases hlaw with q | q
            · exact absurd q.symm hxy
            · exact q
          have g6 := xg513 y (x.filter goneC) (by omega)
          rw [decide_eq_true hyg] at g6
          simp (implicitDefEqProofs := false) (disch := omega) [List.getElem?_cons_zero, b506_4, b506_5, b506_6, b506_7, b506_8, tS, s2, s3, s4, g1, g2, g3, g4, g5, wrap64, toPVs, frzVs, osVs, toPV, toDs, toD]
          refine loopE (fun k st => ∃ i, i ≤ x.length ∧ k = x.length - i ∧
              st = ⟨ofL [(11, .v (.c (.d (.sl (y.map Cutoff.row))))), (12, .v (.c (.os 0 3 0 ((x.take i).filter goneC).length))), (53, .v (.c (.d (.sl (x.map Cutoff.row))))), (54, .int .i64 x.length), (55, .int .i64 i)], [.row 3 (((x.take i).filter goneC).map Cutoff.row)]⟩)
            (fun st => AtS [(11, .v (.c (.d (.sl (y.map Cutoff.row))))), (12, .v (.c (.os 0 3 0 (x.filter goneC).length)))] [.row 3 ((x.filter goneC).map Cutoff.row)] st) ?_ ?_ ?_
          · refine wk_nil_os 12 3 (by omega) (by simp) ?_
            refine wk_nil [1] [11, 12, 53, 54, 55] rfl ⟨_, 0, by omega, rfl, ?_⟩
            simp [phi, O.ren]
          · rintro J L hJ hL k st ⟨i, hi, rfl, rfl⟩
            by_cases hlt : i < x.length
            · obtain ⟨c, hc⟩ : ∃ c, nth x i = c := ⟨_, rfl⟩
              have hcr : c.row = [.v (.string c.who), .v (.int .i64 c.n), .v (.int .i64 c.err)] := rfl
              have hst := filt_take goneC hlt
              rw [hc] at hst
              obtain ⟨T, hT⟩ : ∃ T, T = (x.take i).filter goneC := ⟨_, rfl⟩
              have hTl : T.length ≤ i := by rw [hT]; have h1 : ((x.take i).filter goneC).length ≤ (x.take i).length := List.length_filter_le _ _; simp at h1; omega
              rw [← hT] at hst ⊢
              have tS : (T.map Cutoff.row).take T.length = T.map Cutoff.row := List.take_of_length_le (by simp)
              by_cases c1 : c.err = 22
              · rw [if_pos (by unfold goneC; simp [c1])] at hst
                simp (implicitDefEqProofs := false) (disch := omega) [List.getElem?_cons_zero, hlt, wrap64, nth_map, hc, hcr, splice, fillC, c1, tS, toPVs, frzVs, osVs, toPV, toDs, toD, Nat.add_assoc]
                repeat' (with_reducible apply And.intro)
                all_goals first | omega | kernel_rfl | exact fun _ _ => rfl | skip
                subst hJ
                refine wk_nil [3] [11, 12, 53, 54, 55] rfl ⟨x.length - (i + 1), by omega, i + 1, by omega, rfl, ?_⟩
                rw [hst]; simp [phi, O.ren, Cutoff.row, c1]
              · rw [if_neg (by unfold goneC; simp [c1])] at hst
                simp (implicitDefEqProofs := false) (disch := omega) [List.getElem?_cons_zero, hlt, wrap64, nth_map, hc, hcr, splice, fillC, c1]
                subst hJ
                refine wk_nil [0] [11, 12, 53, 54, 55] rfl ⟨x.length - (i + 1), by omega, i + 1, by omega, rfl, ?_⟩
                rw [hst]; simp [phi, O.ren]
            · have : i = x.length := by omega
              subst this
              rw [List.take_length]
              simp (implicitDefEqProofs := false) (disch := omega) [List.getElem?_cons_zero, hlt]
              subst hL
              exact at_mk (by simp) rfl
          · rintro _ ⟨sl, rfl⟩
            obtain ⟨Z, hZ⟩ : ∃ Z, Z = x.filter goneC := ⟨_, rfl⟩
            rw [← hZ] at g6 ⊢
            have tS : (Z.map Cutoff.row).take Z.length = Z.map Cutoff.row := List.take_of_length_le (by simp)
            simp (implicitDefEqProofs := false) (disch := omega) [List.getElem?_cons_zero, b506_9, b506_10, s4, g6, tS]
            exact fin_nil ⟨rfl, rfl⟩
      · rw [right_no ok2] at g2
        simp (implicitDefEqProofs := false) (disch := omega) [List.getElem?_cons_zero, b506_4, tS, s2, g1, g2, wrap64]
        exact fin_nil ⟨rfl, rfl⟩
    · rw [right_no ok1] at g1
      simp (implicitDefEqProofs := false) (disch := omega) [List.getElem?_cons_zero, b506_4, tS, s2, g1, wrap64]
      exact fin_nil ⟨rfl, rfl⟩
end Go.Aw.Try

namespace Go.Aw.Try
open Go Go.Proofs Go.Aw
set_option maxRecDepth 100000
set_option maxHeartbeats 4000000
/-! ### edits as a set -/
theorem sortE_srt (l : List Edit) : Srt cmpE (sortE l) := (ssort_srt cmpE_pre l).sublist (cmpt_sub _ _)
theorem sortE_cls (l : List Edit) (x : Edit) : cls cmpE x (sortE l) = (cls cmpE x l).take 1 := by
  unfold sortE; rw [cmpt_cls cmpE_pre _ (ssort_srt cmpE_pre l), ssort_flt cmpE_pre l x]
theorem sortE_sst (l : List Edit) : Sst cmpE (sortE l) := by rw [← sortE_refS]; exact (refS_spec cmpE_pre l).1
theorem cmpE_id {x y : Edit} (h : cmpE x y = 0) : x.id = y.id ∧ x.clock = y.clock := by
  simp only [cmpE, orI] at h
  have h1 : cmpI x.clock y.clock = 0 := by
    by_cases q : cmpI x.clock y.clock = 0
    · exact q
    · rw [if_pos q] at h; exact h
  have h2 : cmpS x.id.a y.id.a = 0 := by
    rw [if_neg (by omega)] at h
    by_cases q : cmpS x.id.a y.id.a = 0
    · exact q
    · rw [if_pos q] at h; exact h
  have h3 : cmpI x.id.n y.id.n = 0 := by
    rw [if_neg (by omega), if_neg (by omega)] at h
    by_cases q : cmpI x.id.n y.id.n = 0
    · exact q
    · rw [if_pos q] at h; exact h
  have e2 := (cmpS_eq _ _).1 h2
  have e1 : x.clock = y.clock := by unfold cmpI at h1; (repeat' split at h1) <;> omega
  have e3 : x.id.n = y.id.n := by unfold cmpI at h3; (repeat' split at h3) <;> omega
  exact ⟨(Id.eq_iff _ _).2 ⟨e2, e3⟩, e1⟩
theorem pw_ext {α : Type} {R : α → α → Prop} (asy : ∀ a b, R a b → ¬ R b a) (ir : ∀ a, ¬ R a a) : ∀ {l l' : List α}, l.Pairwise R → l'.Pairwise R → (∀ x, x ∈ l ↔ x ∈ l') → l = l'
  | [], [], _, _, _ => rfl
  | [], y :: l', _, _, h => by have := (h y).2 List.mem_cons_self; cases this
  | x :: l, [], _, _, h => by have := (h x).1 List.mem_cons_self; cases this
  | x :: l, y :: l', h1, h2, h => by
    obtain ⟨a1, a2⟩ := List.pairwise_cons.1 h1
    obtain ⟨b1, b2⟩ := List.pairwise_cons.1 h2
    have exy : x = y := by
      rcases List.mem_cons.1 ((h x).1 List.mem_cons_self) with e | hx
      · exact e
      · rcases List.mem_cons.1 ((h y).2 List.mem_cons_self) with e | hy
        · exact e.symm
        · exact absurd (b1 x hx) (asy _ _ (a1 y hy))
    subst exy
    rw [pw_ext asy ir a2 b2 fun z => ?_]
    constructor
    · intro hz
      rcases List.mem_cons.1 ((h z).1 (List.mem_cons_of_mem _ hz)) with e | hz'
      · subst e; exact absurd (a1 z hz) (ir z)
      · exact hz'
    · intro hz
      rcases List.mem_cons.1 ((h z).2 (List.mem_cons_of_mem _ hz)) with e | hz'
      · subst e; exact absurd (b1 z hz) (ir z)
      · exact hz'
/-- No two different edits have one name. -/
def NoFork (l : List Edit) : Prop := ∀ y ∈ l, ∀ z ∈ l, y.id = z.id → y = z
theorem NoFork.sort_mem {l : List Edit} (h : NoFork l) (e : Edit) : e ∈ sortE l ↔ e ∈ l := by
  constructor
  · exact sortE_mem
  · intro he
    have hc := sortE_cls l e
    have h1 : e ∈ cls cmpE e l := mem_cls.2 ⟨he, cmpE_pre.rf e⟩
    cases hq : cls cmpE e l with
    | nil => rw [hq] at h1; cases h1
    | cons y r =>
      rw [hq] at hc
      have hy : y ∈ cls cmpE e (sortE l) := by rw [hc]; simp
      obtain ⟨h2, h3⟩ := mem_cls.1 hy
      rw [h e he y (sortE_mem h2) (cmpE_id h3).1]
      exact h2
theorem sst_ext {a b : List Edit} (ha : Sst cmpE a) (hb : Sst cmpE b) (h : ∀ e, e ∈ a ↔ e ∈ b) : a = b := by
  refine pw_ext (R := fun a b => cmpE a b < 0) (fun a b h k => ?_) (fun a h => ?_) ha hb h
  · have := (cmpE_pre.sgn a b); omega
  · have := (cmpE_pre.sgn a a); omega
theorem OkR.noFork {l : List Edit} {all : List Member} (h : OkR l all) : NoFork l := fun y hy z hz e => by
  obtain ⟨i, hi, rfl⟩ := List.mem_iff_getElem.1 hy
  obtain ⟨j, hj, rfl⟩ := List.mem_iff_getElem.1 hz
  rcases Nat.lt_trichotomy i j with q | q | q
  · have := (h.2.2.2 j hj).2 i q (by rw [nth_eq hi, nth_eq hj]; exact e)
    rw [nth_eq hi, nth_eq hj] at this; exact this
  · subst q; rfl
  · have := (h.2.2.2 i hi).2 j q (by rw [nth_eq hi, nth_eq hj]; exact e.symm)
    rw [nth_eq hi, nth_eq hj] at this; exact this.symm
/-- A vote by its kind. -/
def isV (e : Edit) : Bool := decide (e.kind = 5)
theorem gatS_no {M : List ByteArray} {g : Gs} {e : Edit} (h : isV e = false) : gatS M g e = g := by
  have hn : namesO e M = none := by
    unfold namesO; rw [if_neg]
    rintro ⟨h1, _⟩
    unfold isV at h; rw [decide_eq_true h1] at h; cases h
  unfold gatS; rw [hn]
theorem gatF_votes (M : List ByteArray) : ∀ (l : List Edit) (g : Gs), l.foldl (gatS M) g = (l.filter isV).foldl (gatS M) g
  | [], _ => rfl
  | e :: l, g => by
    rw [List.foldl_cons, List.filter_cons]
    cases h : isV e with
    | false => rw [gatS_no h]; simp only [Bool.false_eq_true, if_false]; exact gatF_votes M l g
    | true => simp only [if_true, List.foldl_cons]; exact gatF_votes M l _
theorem gat_congr {M : List ByteArray} {l l' : List Edit} (h1 : NoFork l) (h2 : NoFork l') (h : ∀ e, isV e = true → (e ∈ l ↔ e ∈ l')) : gatF M (sortE l) = gatF M (sortE l') := by
  unfold gatF
  rw [gatF_votes M (sortE l), gatF_votes M (sortE l')]
  congr 1
  refine sst_ext ((sortE_sst l).filter _) ((sortE_sst l').filter _) fun e => ?_
  rw [List.mem_filter, List.mem_filter, h1.sort_mem, h2.sort_mem]
  constructor
  · rintro ⟨a, b⟩; exact ⟨(h e b).1 a, b⟩
  · rintro ⟨a, b⟩; exact ⟨(h e b).2 a, b⟩
theorem knewB_mono {l l' : List Edit} {vs : List Vote} {s : ByteArray} (h : ∀ e ∈ l, e ∈ l') (k : knewB l vs s = true) : knewB l' vs s = true := by
  unfold knewB at k ⊢
  rw [List.any_eq_true] at k ⊢
  obtain ⟨e, he, hk⟩ := k
  exact ⟨e, h e he, hk⟩
theorem finalB_iff {c : Cn} {S : List ByteArray} : finalB c S = true ↔ ∀ s ∈ c.mem, s ∉ S → knewB c.l (ofV c.vs S) s = true := by
  unfold finalB
  rw [Bool.not_eq_true', List.any_eq_false]
  constructor
  · intro h s hs hn
    have := h s (mem_stay.2 ⟨hs, hn⟩)
    rw [Bool.not_eq_true, Bool.not_eq_false'] at this; exact this
  · intro h s hs
    obtain ⟨h1, h2⟩ := mem_stay.1 hs
    rw [Bool.not_eq_true, Bool.not_eq_false']; exact h s h1 h2
theorem filt_blk (N U : ByteArray → Int) (b : Bool) (S : List ByteArray) : (S.flatMap (blk N U b)).filter goneC = S.flatMap (blk N U true) := by
  rw [List.filter_flatMap]
  congr 1
  funext s
  unfold blk goneC
  cases b <;> simp
theorem notes_law {l more : List Edit} {all : List Member} (h1 : OkR l all) (h2 : OkR (nextN l more) all) :
    cutsE (nextN l more) all = cutsE l all ∨ cutsE (nextN l more) all = (cutsE l all).filter goneC := by
  have hg : gatF (all.map Member.name) (sortE (nextN l more)) = gatF (all.map Member.name) (sortE l) := by
    refine gat_congr h2.noFork h1.noFork fun e he => ?_
    unfold nextN
    rw [List.mem_append, List.mem_filter]
    constructor
    · rintro (a | ⟨_, b⟩)
      · exact a
      · unfold notV at b; unfold isV at he; rw [he] at b; cases b
    · exact .inl
  have hc : gatC (nextN l more) all = ⟨all.map Member.name, nextN l more, (gatC l all).vs⟩ := by unfold gatC; rw [hg]
  have hc0 : gatC l all = ⟨all.map Member.name, l, (gatC l all).vs⟩ := rfl
  unfold cutsE
  rw [hc]
  obtain ⟨vs, hvs⟩ : ∃ v, v = (gatC l all).vs := ⟨_, rfl⟩
  rw [hc0, ← hvs]
  show cutsC ⟨all.map Member.name, nextN l more, vs⟩ (outL (all.map Member.name) vs) = cutsC ⟨all.map Member.name, l, vs⟩ (outL (all.map Member.name) vs) ∨ cutsC ⟨all.map Member.name, nextN l more, vs⟩ (outL (all.map Member.name) vs) = (cutsC ⟨all.map Member.name, l, vs⟩ (outL (all.map Member.name) vs)).filter goneC
  obtain ⟨sets, hsets⟩ : ∃ s, s = outL (all.map Member.name) vs := ⟨_, rfl⟩
  rw [← hsets]
  unfold cutsC
  by_cases h0 : sets.length = 0
  · left; rw [if_pos h0, if_pos h0]
  · rw [if_neg h0, if_neg h0]
    obtain ⟨S, hS⟩ : ∃ S, S = nth sets (sets.length - 1) := ⟨_, rfl⟩
    rw [← hS]
    have hb : ∀ (L : List Edit) (b : Bool), cutOf ⟨all.map Member.name, L, vs⟩ sets b = blk (fun s => uptoE vs sets s (sets.length - 1)) (fun s => sureN vs s) b := fun _ _ => rfl
    rw [hb, hb]
    obtain ⟨b1, hb1⟩ : ∃ b, b = finalB ⟨all.map Member.name, nextN l more, vs⟩ S := ⟨_, rfl⟩
    obtain ⟨b2, hb2⟩ : ∃ b, b = finalB ⟨all.map Member.name, l, vs⟩ S := ⟨_, rfl⟩
    have hm : b2 = true → b1 = true := fun q => by
      rw [q] at hb2
      rw [hb1]
      refine finalB_iff.2 fun s hs hn => ?_
      exact knewB_mono (fun e he => List.mem_append_left _ he) (finalB_iff.1 hb2.symm s hs hn)
    rw [← hb1, ← hb2]
    cases b2 with
    | true => left; rw [hm rfl]
    | false =>
      cases b1 with
      | false => left; rfl
      | true => right; exact (filt_blk _ _ _ _).symm
theorem notes_walk (m : Int) (l more : List Edit) (all : List Member) (hz : Sz l all) (hz2 : ∀ e ∈ more, szE e) (b1 : l.length ≤ 1048576) (b2 : more.length ≤ 1048576) :
    ACalls Tryz.prog (GM m) 6 [.c (.d (.sl (l.map Edit.row))), .c (.d (.sl (more.map Edit.row))), .c (.d (.sl (all.map Member.row)))] [] fun t H => t = .bool true ∧ H = [] := by
  have hl : (nextN l more).length ≤ l.length + more.length := by
    unfold nextN
    have : (more.filter notV).length ≤ more.length := List.length_filter_le _ _
    rw [List.length_append]; omega
  refine k506 m l more all hz ⟨by omega, hz.sa, hz.sn, fun e he => ?_⟩ b1 b2 notes_law
  rcases List.mem_append.1 he with he | he
  · exact hz.se e he
  · exact hz2 e (List.mem_filter.1 he).1
end Go.Aw.Try
