/- An abstract machine over the model, and contracts of functions of this program on it (part 8): words and lemmas for the proof in the last text. -/
import Derived.Test.YtlboedhconemnaaHG
set_option linter.unusedVariables false
set_option linter.unusedSimpArgs false
set_option linter.unusedSectionVars false

namespace Go.Aw.Try
open Go Go.Proofs Go.Aw
set_option maxRecDepth 100000
set_option maxHeartbeats 4000000
def b6_0 : AC := (.region 0 [
    ⟨(some 6), (.mov (.const (.bool false))), none⟩])
def b6_1 : AC := (.seq (.region 0 [
    ⟨(some 14), (.mov (.tmp 0)), none⟩,
    ⟨(some 15), (.call 15 [(.tmp 14)]), none⟩,
    ⟨(some 16), (.binI .gtr .i64 (.tmp 15) (.const (.int .i64 0))), none⟩,
    ⟨(some 17), (.mov (.tmp 16)), none⟩,
    ⟨(some 18), (.mov (.tmp 1)), (some (17, false))⟩,
    ⟨(some 19), (.lenL (.tmp 18)), (some (17, false))⟩,
    ⟨(some 20), (.binI .gtr .i64 (.tmp 19) (.const (.int .i64 20))), (some (17, false))⟩,
    ⟨(some 21), (.pick (.tmp 17) (.const (.bool true)) (.tmp 20)), none⟩])
  (.cond (.tmp 21) (.seq (.region 0 [
    ⟨(some 22), (.call 16 []), none⟩,
    ⟨(some 6), (.mov (.tmp 22)), none⟩])
  .ret) .skip))
def b6_2 : AC := (.region 0 [
    ⟨(some 23), (.mov (.tmp 0)), none⟩,
    ⟨(some 24), (.call 20 [(.tmp 23)]), none⟩,
    ⟨(some 25), (.mov (.tmp 0)), none⟩,
    ⟨(some 26), (.mov (.tmp 1)), none⟩,
    ⟨(some 27), (.call 18 [(.tmp 25), (.tmp 26)]), none⟩,
    ⟨(some 7), (.mov (.tmp 24)), none⟩,
    ⟨(some 8), (.mov (.tmp 27)), none⟩])
def b6_3 : AC := (.seq (.region 0 [
    ⟨(some 28), (.mov (.tmp 8)), none⟩,
    ⟨(some 29), (.mov (.tmp 7)), none⟩,
    ⟨(some 30), (.call 23 [(.tmp 28), (.tmp 29)]), none⟩,
    ⟨(some 31), (.not (.tmp 30)), none⟩,
    ⟨(some 32), (.mov (.tmp 31)), none⟩,
    ⟨(some 33), (.mov (.tmp 0)), (some (32, false))⟩,
    ⟨(some 34), (.call 18 [(.tmp 33), (.const (.slice none 0 0))]), (some (32, false))⟩,
    ⟨(some 35), (.mov (.tmp 7)), (some (32, false))⟩,
    ⟨(some 36), (.call 17 [(.tmp 34), (.tmp 35)]), (some (32, false))⟩,
    ⟨(some 37), (.not (.tmp 36)), (some (32, false))⟩,
    ⟨(some 38), (.pick (.tmp 32) (.const (.bool true)) (.tmp 37)), none⟩])
  (.cond (.tmp 38) (.seq (.region 0 [
    ⟨(some 6), (.mov (.const (.bool false))), none⟩])
  .ret) .skip))
def b6_4 : AC := (.region 0 [
    ⟨(some 9), (.mov (.const (.slice none 0 0))), none⟩,
    ⟨(some 10), (.mov (.const (.slice none 0 0))), none⟩,
    ⟨(some 11), (.mov (.const (.slice none 0 0))), none⟩])
def b6_5 : AC := (.seq (.region 0 [
    ⟨(some 39), (.mov (.tmp 1)), none⟩,
    ⟨(some 40), (.lenL (.tmp 39)), none⟩,
    ⟨(some 41), (.mov (.const (.int .i64 0))), none⟩])
  (.block 0 (.loop (.seq (.region 0 [
    ⟨(some 42), (.binI .lss .i64 (.tmp 41) (.tmp 40)), none⟩])
  (.seq (.cond (.tmp 42) .skip (.exit 0))
  (.seq (.block 1 (.seq (.region 1 [
    ⟨(some 43), (.mov (.tmp 41)), none⟩,
    ⟨(some 44), (.iaddr 3 (.tmp 39) (.tmp 41)), none⟩,
    ⟨(some 45), (.load true 3 (.tmp 44)), none⟩,
    ⟨(some 13), (.zero 0 [(.v (.string ⟨#[]⟩)), (.v (.int .i64 0)), (.v (.int .i64 0))]), none⟩,
    ⟨(some 12), (.mov (.tmp 43)), none⟩,
    ⟨none, (.store 3 (.tmp 13) (.tmp 45)), none⟩])
  (.seq (.seq (.region 0 [
    ⟨(some 46), (.mov (.tmp 12)), none⟩,
    ⟨(some 47), (.mov (.tmp 2)), none⟩,
    ⟨(some 48), (.conv .i64 (.tmp 47)), none⟩,
    ⟨(some 49), (.mov (.tmp 1)), none⟩,
    ⟨(some 50), (.lenL (.tmp 49)), none⟩,
    ⟨(some 51), (.binI .rem .i64 (.tmp 48) (.tmp 50)), none⟩,
    ⟨(some 52), (.binI .neq .i64 (.tmp 46) (.tmp 51)), none⟩])
  (.cond (.tmp 52) (.dregion 4 [
    ⟨(some 53), (.mov (.tmp 10)), none⟩,
    ⟨(some 54), (.load true 3 (.tmp 13)), none⟩,
    ⟨(some 55), (.bsl 0 3 [(.v (.string ⟨#[]⟩)), (.v (.int .i64 0)), (.v (.int .i64 0))] 1 [(0, (.tmp 54))]), none⟩,
    ⟨(some 56), (.app 1 3 32 (.tmp 53) (.tmp 55)), none⟩,
    ⟨(some 57), (.mov (.tmp 9)), none⟩,
    ⟨(some 58), (.load true 3 (.tmp 13)), none⟩,
    ⟨(some 59), (.bsl 2 3 [(.v (.string ⟨#[]⟩)), (.v (.int .i64 0)), (.v (.int .i64 0))] 1 [(0, (.tmp 58))]), none⟩,
    ⟨(some 60), (.app 3 3 32 (.tmp 57) (.tmp 59)), none⟩,
    ⟨(some 10), (.mov (.tmp 56)), none⟩,
    ⟨(some 9), (.mov (.tmp 60)), none⟩] [[], [], [1], [0, 2], [], [], [5], [4, 6, 3], [3, 7, 0, 1, 2, 3], [7, 8, 0, 1, 2, 3, 4, 5, 6, 7, 8]]) (.seq (.region 0 [
    ⟨(some 61), (.faddr 1 (.tmp 13)), none⟩,
    ⟨(some 62), (.load false 1 (.tmp 61)), none⟩,
    ⟨(some 63), (.binI .lss .i64 (.tmp 62) (.const (.int .i64 1099511627776))), none⟩])
  (.cond (.tmp 63) (.region 2 [
    ⟨(some 64), (.mov (.tmp 9)), none⟩,
    ⟨(some 65), (.faddr 0 (.tmp 13)), none⟩,
    ⟨(some 66), (.load false 1 (.tmp 65)), none⟩,
    ⟨(some 67), (.faddr 1 (.tmp 13)), none⟩,
    ⟨(some 68), (.load false 1 (.tmp 67)), none⟩,
    ⟨(some 69), (.binI .add .i64 (.tmp 68) (.const (.int .i64 1))), none⟩,
    ⟨(some 70), (.faddr 2 (.tmp 13)), none⟩,
    ⟨(some 71), (.load false 1 (.tmp 70)), none⟩,
    ⟨(some 72), (.build [(.v (.string ⟨#[]⟩)), (.v (.int .i64 0)), (.v (.int .i64 0))] [(0, (1, (.tmp 66))), (1, (1, (.tmp 69))), (2, (1, (.tmp 71)))]), none⟩,
    ⟨(some 73), (.bsl 0 3 [(.v (.string ⟨#[]⟩)), (.v (.int .i64 0)), (.v (.int .i64 0))] 1 [(0, (.tmp 72))]), none⟩,
    ⟨(some 74), (.app 1 3 32 (.tmp 64) (.tmp 73)), none⟩,
    ⟨(some 9), (.mov (.tmp 74)), none⟩]) (.region 2 [
    ⟨(some 75), (.mov (.tmp 9)), none⟩,
    ⟨(some 76), (.load true 3 (.tmp 13)), none⟩,
    ⟨(some 77), (.bsl 0 3 [(.v (.string ⟨#[]⟩)), (.v (.int .i64 0)), (.v (.int .i64 0))] 1 [(0, (.tmp 76))]), none⟩,
    ⟨(some 78), (.app 1 3 32 (.tmp 75) (.tmp 77)), none⟩,
    ⟨(some 9), (.mov (.tmp 78)), none⟩])))))
  (.seq (.region 0 [
    ⟨(some 79), (.faddr 2 (.tmp 13)), none⟩,
    ⟨(some 80), (.load false 1 (.tmp 79)), none⟩,
    ⟨(some 81), (.binI .eql .i64 (.tmp 80) (.const (.int .i64 22))), none⟩])
  (.cond (.tmp 81) (.region 2 [
    ⟨(some 82), (.mov (.tmp 11)), none⟩,
    ⟨(some 83), (.load true 3 (.tmp 13)), none⟩,
    ⟨(some 84), (.bsl 0 3 [(.v (.string ⟨#[]⟩)), (.v (.int .i64 0)), (.v (.int .i64 0))] 1 [(0, (.tmp 83))]), none⟩,
    ⟨(some 85), (.app 1 3 32 (.tmp 82) (.tmp 84)), none⟩,
    ⟨(some 11), (.mov (.tmp 85)), none⟩]) .skip)))))
  (.region 0 [
    ⟨(some 86), (.binI .add .i64 (.tmp 41) (.const (.int .i64 1))), none⟩,
    ⟨(some 41), (.mov (.tmp 86)), none⟩])))))))
def b6_6 : AC := (.region 0 [
    ⟨(some 87), (.call 16 []), none⟩,
    ⟨(some 88), (.mov (.tmp 87)), none⟩,
    ⟨(some 89), (.mov (.tmp 8)), (some (88, true))⟩,
    ⟨(some 90), (.mov (.tmp 0)), (some (88, true))⟩,
    ⟨(some 91), (.mov (.tmp 10)), (some (88, true))⟩,
    ⟨(some 92), (.call 18 [(.tmp 90), (.tmp 91)]), (some (88, true))⟩,
    ⟨(some 93), (.call 23 [(.tmp 89), (.tmp 92)]), (some (88, true))⟩,
    ⟨(some 94), (.pick (.tmp 88) (.tmp 93) (.const (.bool false))), none⟩,
    ⟨(some 95), (.mov (.tmp 94)), none⟩,
    ⟨(some 96), (.mov (.tmp 8)), (some (95, true))⟩,
    ⟨(some 97), (.mov (.tmp 0)), (some (95, true))⟩,
    ⟨(some 98), (.mov (.tmp 9)), (some (95, true))⟩,
    ⟨(some 99), (.call 18 [(.tmp 97), (.tmp 98)]), (some (95, true))⟩,
    ⟨(some 100), (.call 23 [(.tmp 96), (.tmp 99)]), (some (95, true))⟩,
    ⟨(some 101), (.pick (.tmp 95) (.tmp 100) (.const (.bool false))), none⟩,
    ⟨(some 102), (.mov (.tmp 101)), none⟩,
    ⟨(some 103), (.mov (.tmp 0)), (some (102, true))⟩,
    ⟨(some 104), (.mov (.tmp 11)), (some (102, true))⟩,
    ⟨(some 105), (.call 18 [(.tmp 103), (.tmp 104)]), (some (102, true))⟩,
    ⟨(some 106), (.mov (.tmp 8)), (some (102, true))⟩,
    ⟨(some 107), (.call 17 [(.tmp 105), (.tmp 106)]), (some (102, true))⟩,
    ⟨(some 108), (.pick (.tmp 102) (.tmp 107) (.const (.bool false))), none⟩,
    ⟨(some 6), (.mov (.tmp 108)), none⟩])
def b6_7 : AC := .ret
def b6 : AC := (.seq b6_0 (.seq b6_1 (.seq b6_2 (.seq b6_3 (.seq b6_4 (.seq b6_5 (.seq b6_6 b6_7)))))))
def ir6 : AF := ⟨109, [(.tmp 6)], b6⟩
theorem c6 : compF tt Try.f6 = some ir6 := by kernel_rfl
def b23 : AC := (.seq (.region 0 [
    ⟨(some 4), (.mov (.const (.bool false))), none⟩])
  (.seq (.seq (.region 0 [
    ⟨(some 7), (.mov (.tmp 1)), none⟩,
    ⟨(some 8), (.lenL (.tmp 7)), none⟩,
    ⟨(some 9), (.mov (.const (.int .i64 0))), none⟩])
  (.block 0 (.loop (.seq (.region 0 [
    ⟨(some 10), (.binI .lss .i64 (.tmp 9) (.tmp 8)), none⟩])
  (.seq (.cond (.tmp 10) .skip (.exit 0))
  (.seq (.block 1 (.seq (.region 1 [
    ⟨(some 11), (.iaddr 18 (.tmp 7) (.tmp 9)), none⟩,
    ⟨(some 12), (.load true 18 (.tmp 11)), none⟩,
    ⟨(some 6), (.zero 0 [(.v (.string ⟨#[]⟩)), (.v (.int .i64 0)), (.v (.int .i64 0)), (.v (.int .i64 0)), (.v (.slice none 0 0)), (.v (.int .i64 0)), (.v (.string ⟨#[]⟩)), (.v (.int .i64 0)), (.v (.string ⟨#[]⟩)), (.v (.int .i64 0)), (.v (.bool false)), (.v (.string ⟨#[]⟩)), (.v (.string ⟨#[]⟩)), (.v (.string ⟨#[]⟩)), (.v (.string ⟨#[]⟩)), (.v (.string ⟨#[]⟩)), (.v (.int .i64 0)), (.v (.string ⟨#[]⟩))]), none⟩,
    ⟨none, (.store 18 (.tmp 6) (.tmp 12)), none⟩])
  (.seq (.dregion 0 [
    ⟨(some 13), (.mov (.tmp 0)), none⟩,
    ⟨(some 14), (.lenL (.tmp 13)), none⟩,
    ⟨(some 15), (.binI .gtr .i64 (.tmp 14) (.const (.int .i64 0))), none⟩,
    ⟨(some 16), (.mov (.tmp 15)), none⟩,
    ⟨(some 17), (.mov (.tmp 0)), (some (16, true))⟩,
    ⟨(some 18), (.iaddr 18 (.tmp 17) (.const (.int .i64 0))), (some (16, true))⟩,
    ⟨(some 19), (.load true 18 (.tmp 18)), (some (16, true))⟩,
    ⟨(some 20), (.load true 18 (.tmp 6)), (some (16, true))⟩,
    ⟨(some 21), (.call 22 [(.tmp 19), (.tmp 20)]), (some (16, true))⟩,
    ⟨(some 22), (.pick (.tmp 16) (.tmp 21) (.const (.bool false))), none⟩] [[], [0], [1], [2], [3], [4, 3], [5, 3], [3], [6, 7, 3, 3], [3, 8]])
  (.cond (.tmp 22) (.region 0 [
    ⟨(some 23), (.mov (.tmp 0)), none⟩,
    ⟨(some 24), (.slice 18 (.tmp 23) (some (.const (.int .i64 1))) none), none⟩,
    ⟨(some 0), (.mov (.tmp 24)), none⟩]) .skip))))
  (.region 0 [
    ⟨(some 25), (.binI .add .i64 (.tmp 9) (.const (.int .i64 1))), none⟩,
    ⟨(some 9), (.mov (.tmp 25)), none⟩])))))))
  (.seq (.region 0 [
    ⟨(some 26), (.mov (.tmp 0)), none⟩,
    ⟨(some 27), (.lenL (.tmp 26)), none⟩,
    ⟨(some 28), (.binI .eql .i64 (.tmp 27) (.const (.int .i64 0))), none⟩,
    ⟨(some 4), (.mov (.tmp 28)), none⟩])
  .ret)))
def ir23 : AF := ⟨29, [(.tmp 4)], b23⟩
theorem c23 : compF tt Try.f23 = some ir23 := by kernel_rfl
end Go.Aw.Try

/- A nil slice, seen as an own row without elements. -/
namespace Go.Aw
open Go
section
variable {P : Program} {G : Gl} {N0 : Nat}
theorem nil_row_le {ρ : Nat → Option Nat} {H : List O} {w : World} {sz : Nat} (hsz : 0 < sz) (hH : HRel P ρ H w) : HRel P ρ (H ++ [.row sz []]) w ∧ (ctx ρ H w).le (ctx ρ (H ++ [.row sz []]) w) := by
  have hρ : ρ H.length = none := by
    cases h : ρ H.length with
    | none => rfl
    | some b => have := (hH.small _ _ h).1; omega
  have hst : ∀ b, stab ρ H w b ↔ stab ρ (H ++ [.row sz []]) w b := fun b => by
    constructor
    · rintro ⟨h1, h2⟩
      refine ⟨h1, fun r o hr hl => ?_⟩
      rw [List.getElem?_append] at hr
      split at hr
      · exact h2 r o hr hl
      · have : r = H.length := by
          have := (List.getElem?_eq_some_iff.1 hr).1; simp at this; omega
        subst this; rw [hρ]; simp
    · rintro ⟨h1, h2⟩
      refine ⟨h1, fun r o hr hl => h2 r o ?_ hl⟩
      rw [List.getElem?_append, if_pos (List.getElem?_eq_some_iff.1 hr).1]; exact hr
  have hle : (ctx ρ H w).le (ctx ρ (H ++ [.row sz []]) w) := ⟨fun _ _ h => h, by simp [ctx], ⟨fun b hb => (hst b).1 hb, fun _ _ => rfl, Nat.le_refl _, fun _ _ _ h => h, rfl, rfl, rfl⟩⟩
  refine ⟨⟨?_, ?_, ?_⟩, hle⟩
  · intro r o hr
    rw [List.getElem?_append] at hr
    split at hr
    · exact (hH.objs r o hr).mono hle fun _ a ha => rfl
    · have : r = H.length := by
        have := (List.getElem?_eq_some_iff.1 hr).1; simp at this; omega
      subst this
      simp at hr; subst hr
      exact ⟨hsz, .inl ⟨hρ, rfl⟩⟩
  · intro r r' o o' b hr hr' hl hl' h1 h2
    have lt : ∀ r b, ρ r = some b → r < H.length := fun r b h => (hH.small r b h).1
    rw [List.getElem?_append, if_pos (lt _ _ h1)] at hr
    rw [List.getElem?_append, if_pos (lt _ _ h2)] at hr'
    exact hH.inj r r' o o' b hr hr' hl hl' h1 h2
  · intro r b h
    have := hH.small r b h
    exact ⟨by simp; omega, this.2⟩
theorem wk_nil_os {sl : Nat → T} {H : List O} {K : St → Prop} (t sz : Nat) (hsz : 0 < sz) (ht : sl t = .v (.c (.d (.v (.slice none 0 0))))) (h : wk P G N0 ⟨putS sl t (.v (.c (.os H.length sz 0 0))), H ++ [.row sz []]⟩ K) : wk P G N0 ⟨sl, H⟩ K := by
  refine wk_weak ?_ h
  intro n b ρ a w hb1 hb2 hs
  obtain ⟨g1, g2⟩ := nil_row_le hsz hs.heap
  refine ⟨ρ, g1, hs.size, hs.defers, fun i => ?_, hs.glob.mono g2.step, hs.le.trans g2⟩
  show TRel P _ (putS sl t _ i) _
  unfold putS
  split
  · rename_i e
    subst e
    have := hs.slots i
    show TRel P _ _ _
    have h2 : TRel P (ctx ρ H w) (.v (.c (.d (.v (.slice none 0 0))))) (a.tmps.getD i undef) := by
      have h3 : TRel P (ctx ρ H w) (sl i) (a.tmps.getD i undef) := this
      rw [ht] at h3; exact h3
    rw [trel_val h2]
    exact ⟨by simp [ctx], .inl ⟨rfl, none, rfl⟩⟩
  · exact (hs.slots i).mono g2
end
end Go.Aw

namespace Go.Aw.Try
open Go Go.Proofs Go.Aw
set_option maxRecDepth 100000
set_option maxHeartbeats 4000000
/-- What is left of a when b has been gone through. -/
def partF : List Edit → List Edit → List Edit
  | a, [] => a
  | [], _ :: _ => []
  | x :: a, e :: b => if x = e then partF a b else partF (x :: a) b
theorem partF_nil : ∀ b, partF [] b = []
  | [] => rfl
  | _ :: _ => rfl
theorem partF_sub : ∀ (b a : List Edit), a.Sublist b → partF a b = []
  | [], a, h => by have := List.sublist_nil.1 h; subst this; rfl
  | e :: b, [], h => rfl
  | e :: b, x :: a, h => by
    simp only [partF]
    by_cases hx : x = e
    · rw [if_pos hx]; subst hx
      exact partF_sub b a (List.cons_sublist_cons.1 h)
    · rw [if_neg hx]
      refine partF_sub b (x :: a) ?_
      cases h with
      | cons _ h => exact h
      | cons_cons _ h => exact absurd rfl hx
theorem partF_step (a b : List Edit) (i : Nat) (hi : i < b.length) : partF a (b.drop i) = partF (match a with | [] => [] | x :: r => if x = nth b i then r else a) (b.drop (i + 1)) := by
  rw [drop_nth hi]
  cases a with
  | nil => simp only [partF, partF_nil]
  | cons x r => simp only [partF]; split <;> rfl
theorem k23 (a b : List Edit) (ha : Small a) (hb : b.length < 68719476736) : ACalls Try.prog G0 23 [.c (.d (.sl (a.map Edit.row))), .c (.d (.sl (b.map Edit.row)))] [] fun t H => t = .bool (decide (partF a b = [])) ∧ H = [] := by
  have h22 : x22.sc = true := rfl
  have hsp : ∀ (e : Edit) {z : List C} (hz : z.length = 18), splice z 0 (e.row.map .d) = e.row.map .d := fun e z hz => (erow e).splz hz
  refine acallsX (X := [(22, x22)]) ⟨kx22, trivial⟩ tab hmix Try.func23 c23 (by rfl) fun hw => ?_
  simp (implicitDefEqProofs := false) (disch := omega) [List.getElem?_cons_zero, ir23, b23, wrap64]
  refine loopG (fun k s => ∃ i a', i ≤ b.length ∧ k = b.length - i ∧ Small a' ∧ partF a b = partF a' (b.drop i) ∧
      s = ⟨ofL [(0, .v (.c (.d (.sl (a'.map Edit.row))))), (7, .v (.c (.d (.sl (b.map Edit.row))))), (8, .int .i64 b.length), (9, .int .i64 i)], []⟩) ?_ ?_
  · refine wk_keep [0, 7, 8, 9] ⟨_, 0, a, by omega, rfl, ha, rfl, ?_⟩
    simp
  · rintro J hJ k s ⟨i, a', hi, rfl, hs, hp, rfl⟩
    have hal := hs.1
    by_cases hlt : i < b.length
    · have hst := partF_step a' b i hlt
      cases a' with
      | nil =>
        simp (implicitDefEqProofs := false) (disch := first | omega | (simp only [List.length_cons, List.length_nil] <;> omega) | fail) [List.getElem?_cons_zero, hlt, wrap64, hsp, nth_map, (erow _).len, take_of_len, (erow _).mapO, (erow _).tk, (erow _).nrm, borRow, (erow _).cl, borV_map, osR_map, frz_map, nth_set_ne, (erow _).spl (erow _)]
        refine ⟨by kernel_rfl, ?_⟩
        subst hJ
        refine wk_junk (A := []) (L := [_]) [(0, .v (.c (.d (.sl [])))), (7, .v (.c (.d (.sl (b.map Edit.row))))), (8, .int .i64 b.length), (9, .int .i64 (i + 1 : Nat))] (by intro o ho; simp at ho) rfl (by simp [T.lt, V.lt, C.lt, List.take_of_length_le]) ⟨b.length - (i + 1), by omega, i + 1, [], by omega, rfl, hs, by rw [hp, hst], rfl⟩
      | cons x r =>
        have hr : Small r := ⟨by have := hs.1; simp at this; omega, fun e he => hs.2 e (List.mem_cons_of_mem _ he)⟩
        have g22 := xg22 x (nth b i) (hs.2 x List.mem_cons_self)
        simp only [List.length_cons] at hal
        by_cases hx : x = nth b i
        · rw [hx] at g22
          simp only [hx, if_true] at hst
          simp (implicitDefEqProofs := false) (disch := first | omega | (simp only [List.length_cons, List.length_nil] <;> omega) | fail) [List.getElem?_cons_zero, hlt, wrap64, hsp, h22, g22, hx, nth_cons_z, nth_map, (erow _).len, take_of_len, (erow _).mapO, (erow _).tk, (erow _).nrm, borRow, (erow _).cl, borV_map, osR_map, frz_map, nth_set_ne, (erow _).spl (erow _)]
          repeat' apply And.intro
          all_goals first | omega | kernel_rfl | skip
          subst hJ
          refine wk_junk (A := []) (L := [_]) [(0, .v (.c (.d (.sl (r.map Edit.row))))), (7, .v (.c (.d (.sl (b.map Edit.row))))), (8, .int .i64 b.length), (9, .int .i64 (i + 1 : Nat))] (by intro o ho; simp at ho) rfl (by simp [T.lt, V.lt, C.lt, List.take_of_length_le]) ⟨b.length - (i + 1), by omega, i + 1, r, by omega, rfl, hr, by rw [hp, hx, hst], rfl⟩
        · have hx' : decide (x = nth b i) = false := by simp [hx]
          simp only [hx, if_false] at hst
          simp (implicitDefEqProofs := false) (disch := first | omega | (simp only [List.length_cons, List.length_nil] <;> omega) | fail) [List.getElem?_cons_zero, hlt, wrap64, hsp, h22, g22, hx, hx', nth_cons_z, nth_map, (erow _).len, take_of_len, (erow _).mapO, (erow _).tk, (erow _).nrm, borRow, (erow _).cl, borV_map, osR_map, frz_map, nth_set_ne, (erow _).spl (erow _)]
          repeat' apply And.intro
          all_goals first | omega | kernel_rfl | skip
          subst hJ
          refine wk_junk (A := []) (L := [_]) [(0, .v (.c (.d (.sl ((x :: r).map Edit.row))))), (7, .v (.c (.d (.sl (b.map Edit.row))))), (8, .int .i64 b.length), (9, .int .i64 (i + 1 : Nat))] (by intro o ho; simp at ho) rfl (by simp [T.lt, V.lt, C.lt, List.take_of_length_le]) ⟨b.length - (i + 1), by omega, i + 1, x :: r, by omega, rfl, hs, by rw [hp, hst], rfl⟩
    · simp (implicitDefEqProofs := false) (disch := omega) [List.getElem?_cons_zero, hlt]
      rw [hp, List.drop_eq_nil_of_le (by omega)]
      refine fin_nil ⟨?_, rfl⟩
      cases a' <;> simp [partF]
noncomputable def x23 : XE := mkX true (fun (p : List Edit × List Edit) => [.c (.sl (p.1.map Edit.row)), .c (.sl (p.2.map Edit.row))]) (fun p => Small p.1 ∧ p.2.length < 68719476736) (fun p => .bool (decide (partF p.1 p.2 = [])))
theorem kx23 : Contract Try.prog G0 23 x23 := mkX_scal (fun _ => rfl) fun p h => k23 p.1 p.2 h.1 h.2
theorem xg23 (a b : List Edit) (h : Small a) (h2 : b.length < 68719476736) (h3 : a.Sublist b) : x23.g [.c (.sl (a.map Edit.row)), .c (.sl (b.map Edit.row))] = some (True, .bool true) := by
  have := mkX_g (sc := true) (F := fun (p : List Edit × List Edit) => T.bool (decide (partF p.1 p.2 = []))) (ok := fun p => Small p.1 ∧ p.2.length < 68719476736) injLL (a, b) ⟨h, h2⟩
  rw [show x23.g [.c (.sl (a.map Edit.row)), .c (.sl (b.map Edit.row))] = _ from this]
  simp [partF_sub b a h3]
/-- Effective edits under cutoffs that cut less. -/
theorem effE_mono (l : List Edit) {cuts cuts' : List Cutoff} (h : ∀ e, cutBy cuts' e = true → cutBy cuts e = true) : (effE l cuts).Sublist (effE l cuts') := by
  unfold effE
  have : (sortE l).filter (fun e => !cutBy cuts e) = ((sortE l).filter (fun e => !cutBy cuts' e)).filter (fun e => !cutBy cuts e) := by
    rw [List.filter_filter]
    congr 1; funext e
    cases h1 : cutBy cuts e
    · cases h2 : cutBy cuts' e
      · rfl
      · rw [h e h2] at h1; cases h1
    · rfl
  rw [this]; exact List.filter_sublist
theorem cutBy_iff (cuts : List Cutoff) (e : Edit) : cutBy cuts e = true ↔ ∃ c ∈ cuts, c.err = 22 ∧ c.who = e.id.a ∧ c.n < e.id.n := by
  simp [cutBy, List.any_eq_true]
theorem cutBy_less {cuts le : List Cutoff} (h : ∀ c ∈ le, c ∈ cuts) (e : Edit) : cutBy le e = true → cutBy cuts e = true := by
  rw [cutBy_iff, cutBy_iff]; rintro ⟨c, h1, h2⟩; exact ⟨c, h c h1, h2⟩
theorem cutBy_high {cuts hi : List Cutoff} (h : ∀ c ∈ hi, ∃ d ∈ cuts, d.who = c.who ∧ d.err = c.err ∧ d.n ≤ c.n) (e : Edit) : cutBy hi e = true → cutBy cuts e = true := by
  rw [cutBy_iff, cutBy_iff]
  rintro ⟨c, h1, h2, h3, h4⟩
  obtain ⟨d, g1, g2, g3, g4⟩ := h c h1
  exact ⟨d, g1, by rw [g3, h2], by rw [g2, h3], by omega⟩
theorem cutBy_gone (cuts : List Cutoff) (e : Edit) : cutBy (cuts.filter fun c => decide (c.err = 22)) e = cutBy cuts e := by
  simp only [cutBy, List.any_filter]
  congr 1; funext c
  cases decide (c.err = 22) <;> rfl
theorem effE_gone (l : List Edit) (cuts : List Cutoff) : effE l (cuts.filter fun c => decide (c.err = 22)) = effE l cuts := by
  unfold effE; congr 1; funext e; rw [cutBy_gone]
theorem effE_nil (l : List Edit) : effE l [] = sortE l := by
  unfold effE; exact List.filter_eq_self.2 fun e _ => by simp [cutBy]
theorem k6 (l : List Edit) (cuts : List Cutoff) (a : Int) (ha0 : 0 ≤ a) (ha1 : a ≤ 255) (hl : gtot l < 34359738368) (hc : cuts.length < 68719476736) (hcr : ∀ c ∈ cuts, -9223372036854775808 ≤ c.n) :
    ACalls Try.prog G0 6 [.c (.d (.sl (l.map Edit.row))), .c (.d (.sl (cuts.map Cutoff.row))), .c (.d (.v (.int .u8 a)))] [] fun t H => t = .bool true ∧ H = [] := by
  have hlen := gtot_len l
  have h15 : x15.sc = true := rfl
  have h20 : x20.sc = false := rfl
  have h17 : x17.sc = true := rfl
  have h18 : x18.sc = false := rfl
  have h23 : x23.sc = true := rfl
  have g15 := xg15 l (by omega)
  have g20 := xg20 l (by omega)
  have g18 := xg18 l cuts (by omega) hc
  have g18n := xg18 l [] (by omega) (by simp)
  rw [effE_nil] at g18n
  simp only [List.map_nil] at g18n
  refine acallsX (X := [(15, x15), (16, x16), (20, x20), (17, x17), (18, x18), (23, x23)]) ⟨kx15, kx16, kx20, kx17, kx18, kx23, trivial⟩ tab hmix Try.func6 c6 (by rfl) fun hw => ?_
  by_cases hg : 1500 < gtot l
  · rw [if_pos hg] at g15
    simp (implicitDefEqProofs := false) (disch := omega) [List.getElem?_cons_zero, ir6, b6, b6_0, b6_1, h15, g15, x16]
    exact fin_nil ⟨rfl, rfl⟩
  · rw [if_neg hg] at g15
    by_cases hcl : 20 < cuts.length
    · have hcl' : (20 : Int) < cuts.length := by omega
      simp (implicitDefEqProofs := false) (disch := omega) [List.getElem?_cons_zero, ir6, b6, b6_0, b6_1, h15, g15, x16, hcl']
      exact fin_nil ⟨rfl, rfl⟩
    · have hcl' : ¬ (20 : Int) < cuts.length := by omega
      have hs := gtot_small (l := l) (n := 1500) (by omega) (by omega) (by omega)
      have g23 := xg23 (effE l cuts) (sortE l) (hs.eff cuts) hs.sort.1 List.filter_sublist
      have g17 := xg17 (sortE l) (sortE l) hs.sort hs.sort.1
      simp (implicitDefEqProofs := false) (disch := omega) [List.getElem?_cons_zero, ir6, b6, b6_0, b6_1, b6_2, b6_3, b6_4, b6_5, h15, g15, x16, hcl', h20, g20, h18, g18, g18n, h23, g23, h17, g17, toPVs, frzVs, osVs, toPV, wrap64]
      refine loopE (fun k s => ∃ (i : Nat) (hi le go : List Cutoff), i ≤ cuts.length ∧ k = cuts.length - i ∧ hi.length ≤ i ∧ le.length ≤ i ∧ (∀ c ∈ le, c ∈ cuts) ∧ (∀ c ∈ hi, ∃ d ∈ cuts, d.who = c.who ∧ d.err = c.err ∧ d.n ≤ c.n) ∧ go = (cuts.take i).filter (fun c => decide (c.err = 22)) ∧
          s = ⟨ofL [(0, .v (.c (.d (.sl (l.map Edit.row))))), (1, .v (.c (.d (.sl (cuts.map Cutoff.row))))), (2, .int .u8 a), (8, .v (.c (.d (.sl ((effE l cuts).map Edit.row))))), (9, .v (.c (.os 0 3 0 hi.length))), (10, .v (.c (.os 1 3 0 le.length))), (11, .v (.c (.os 2 3 0 go.length))), (39, .v (.c (.d (.sl (cuts.map Cutoff.row))))), (40, .int .i64 cuts.length), (41, .int .i64 i)],
            [.row 3 (hi.map Cutoff.row), .row 3 (le.map Cutoff.row), .row 3 (go.map Cutoff.row)]⟩)
        (fun s => ∃ (hi le : List Cutoff), hi.length ≤ cuts.length ∧ le.length ≤ cuts.length ∧ (∀ c ∈ le, c ∈ cuts) ∧ (∀ c ∈ hi, ∃ d ∈ cuts, d.who = c.who ∧ d.err = c.err ∧ d.n ≤ c.n) ∧
          AtS [(0, .v (.c (.d (.sl (l.map Edit.row))))), (8, .v (.c (.d (.sl ((effE l cuts).map Edit.row))))), (9, .v (.c (.os 0 3 0 hi.length))), (10, .v (.c (.os 1 3 0 le.length))), (11, .v (.c (.os 2 3 0 (cuts.filter fun c => decide (c.err = 22)).length)))]
            [.row 3 (hi.map Cutoff.row), .row 3 (le.map Cutoff.row), .row 3 ((cuts.filter fun c => decide (c.err = 22)).map Cutoff.row)] s) ?_ ?_ ?_
      · refine wk_nil_os 9 3 (by omega) (by simp) (wk_nil_os 10 3 (by omega) (by simp) (wk_nil_os 11 3 (by omega) (by simp) ?_))
        refine wk_keep [0, 1, 2, 8, 9, 10, 11, 39, 40, 41] ⟨_, 0, [], [], [], by omega, rfl, by simp, by simp, by simp, by simp, by simp, ?_⟩
        simp
      · rintro J L hJ hL k s ⟨i, hi, le, go, hi1, rfl, h1, h2, h3, h4, h5, rfl⟩
        by_cases hlt : i < cuts.length
        · obtain ⟨c, hcc⟩ : ∃ c, nth cuts i = c := ⟨_, rfl⟩
          have hcm : c ∈ cuts := by rw [← hcc]; exact nth_mem hlt
          have hce : c.row = [.v (.string c.who), .v (.int .i64 c.n), .v (.int .i64 c.err)] := rfl
          have hgl : go.length ≤ i := by rw [h5]; exact Nat.le_trans (List.length_filter_le _ _) (by simp; omega)
          have hgo : (cuts.take (i + 1)).filter (fun c => decide (c.err = 22)) = if c.err = 22 then go ++ [c] else go := by
            rw [take_nth hlt, hcc, List.filter_append, ← h5]; by_cases h : c.err = 22 <;> simp [h]
          have hfin : ∀ (sl : Nat → T) (Lh : List O) (i9 i10 i11 : Nat) (hi' le' go' : List Cutoff), sl 0 = .v (.c (.d (.sl (l.map Edit.row)))) → sl 1 = .v (.c (.d (.sl (cuts.map Cutoff.row)))) → sl 2 = .int .u8 a → sl 8 = .v (.c (.d (.sl ((effE l cuts).map Edit.row)))) →
              sl 9 = .v (.c (.os i9 3 0 hi'.length)) → sl 10 = .v (.c (.os i10 3 0 le'.length)) → sl 11 = .v (.c (.os i11 3 0 go'.length)) → sl 39 = .v (.c (.d (.sl (cuts.map Cutoff.row)))) → sl 40 = .int .i64 cuts.length → sl 41 = .int .i64 (i + 1 : Nat) →
              selB [i9, i10, i11] Lh.length = true → Lh[i9]? = some (.row 3 (hi'.map Cutoff.row)) → Lh[i10]? = some (.row 3 (le'.map Cutoff.row)) → Lh[i11]? = some (.row 3 (go'.map Cutoff.row)) →
              hi'.length ≤ i + 1 → le'.length ≤ i + 1 → (∀ c ∈ le', c ∈ cuts) → (∀ c ∈ hi', ∃ d ∈ cuts, d.who = c.who ∧ d.err = c.err ∧ d.n ≤ c.n) → go' = (cuts.take (i + 1)).filter (fun c => decide (c.err = 22)) →
              wk Try.prog G0 0 ⟨sl, Lh⟩ fun s'' => ∃ k', k' < cuts.length - i ∧ J k' s'' := fun sl Lh i9 i10 i11 hi' le' go' q0 q1 q2 q8 q9 q10 q11 q39 q40 q41 hm r9 r10 r11 e1 e2 e3 e4 e5 => by
            subst hJ
            have p9 : phi [i9, i10, i11] i9 = some 0 := (selB_spec hm (i := 0) rfl).1
            have p10 : phi [i9, i10, i11] i10 = some 1 := (selB_spec hm (i := 1) rfl).1
            have p11 : phi [i9, i10, i11] i11 = some 2 := (selB_spec hm (i := 2) rfl).1
            refine wk_nil [i9, i10, i11] [0, 1, 2, 8, 9, 10, 11, 39, 40, 41] hm ⟨cuts.length - (i + 1), by omega, i + 1, hi', le', go', by omega, rfl, e1, e2, e3, e4, e5, ?_⟩
            simp [q0, q1, q2, q8, q9, q10, q11, q39, q40, q41, p9, p10, p11, List.getD_eq_getElem?_getD, r9, r10, r11, O.ren]
          have hra : IntKind.i64.wrap a = a := wrap64 (by omega) (by omega)
          have hl0 : ¬ cuts.length = 0 := by omega
          have hl0' : ¬ (cuts.length : Int) = 0 := by omega
          have hE3b : ∀ x ∈ le ++ [c], x ∈ cuts := fun x hx => by
            rcases List.mem_append.1 hx with hx | hx
            · exact h3 x hx
            · simp at hx; subst hx; exact hcm
          have hE4 : ∀ y : Cutoff, c.who = y.who → c.err = y.err → c.n ≤ y.n → ∀ x ∈ hi ++ [y], ∃ d ∈ cuts, d.who = x.who ∧ d.err = x.err ∧ d.n ≤ x.n := fun y y1 y2 y3 x hx => by
            rcases List.mem_append.1 hx with hx | hx
            · exact h4 x hx
            · simp at hx; subst hx; exact ⟨c, hcm, y1, y2, y3⟩
          have hwr : c.n < 1099511627776 → IntKind.i64.wrap (c.n + 1) = c.n + 1 := fun h => by have := hcr c hcm; exact wrap64 (by omega) (by omega)
          have hE4a := hE4 ⟨c.who, c.n + 1, c.err⟩ rfl rfl (by simp; omega)
          have hE4b := hE4 c rfl rfl (Int.le_refl _)
          by_cases hk : (i : Int) = a.tmod cuts.length
          · have hk' : a.tmod cuts.length = (i : Int) := hk.symm
            by_cases hn : c.n < 1099511627776
            · by_cases he : c.err = 22
              · simp (implicitDefEqProofs := false) (disch := omega) [List.getElem?_cons_zero, hlt, nth_map, hcc, hce, hra, hl0, hl0', hk', hn, he, splice, fillC, wrap64]
                repeat' apply And.intro
                all_goals first | omega | kernel_rfl | skip
                exact hfin _ _ 5 1 7 (hi ++ [⟨c.who, c.n + 1, c.err⟩]) le (go ++ [c]) (by simp) (by simp) (by simp) (by simp) (by simp) (by simp) (by simp) (by simp) (by simp) (by simp) rfl (by simp [Cutoff.row, *]) (by simp [Cutoff.row, he]) (by simp [Cutoff.row, he]) (by first | omega | (simp; omega)) (by first | omega | (simp; omega)) h3 hE4a (by rw [hgo]; simp [he])
              · simp (implicitDefEqProofs := false) (disch := omega) [List.getElem?_cons_zero, hlt, nth_map, hcc, hce, hra, hl0, hl0', hk', hn, he, splice, fillC, wrap64]
                repeat' apply And.intro
                all_goals first | omega | kernel_rfl | skip
                exact hfin _ _ 5 1 2 (hi ++ [⟨c.who, c.n + 1, c.err⟩]) le go (by simp) (by simp) (by simp) (by simp) (by simp) (by simp) (by simp) (by simp) (by simp) (by simp) rfl (by simp [Cutoff.row, *]) (by simp [Cutoff.row, he]) (by simp [Cutoff.row, he]) (by first | omega | (simp; omega)) (by first | omega | (simp; omega)) h3 hE4a (by rw [hgo]; simp [he])
            · by_cases he : c.err = 22
              · simp (implicitDefEqProofs := false) (disch := omega) [List.getElem?_cons_zero, hlt, nth_map, hcc, hce, hra, hl0, hl0', hk', hn, he, splice, fillC, wrap64]
                repeat' apply And.intro
                all_goals first | omega | kernel_rfl | skip
                exact hfin _ _ 5 1 7 (hi ++ [c]) le (go ++ [c]) (by simp) (by simp) (by simp) (by simp) (by simp) (by simp) (by simp) (by simp) (by simp) (by simp) rfl (by simp [Cutoff.row, *]) (by simp [Cutoff.row, he]) (by simp [Cutoff.row, he]) (by first | omega | (simp; omega)) (by first | omega | (simp; omega)) h3 hE4b (by rw [hgo]; simp [he])
              · simp (implicitDefEqProofs := false) (disch := omega) [List.getElem?_cons_zero, hlt, nth_map, hcc, hce, hra, hl0, hl0', hk', hn, he, splice, fillC, wrap64]
                repeat' apply And.intro
                all_goals first | omega | kernel_rfl | skip
                exact hfin _ _ 5 1 2 (hi ++ [c]) le go (by simp) (by simp) (by simp) (by simp) (by simp) (by simp) (by simp) (by simp) (by simp) (by simp) rfl (by simp [Cutoff.row, *]) (by simp [Cutoff.row, he]) (by simp [Cutoff.row, he]) (by first | omega | (simp; omega)) (by first | omega | (simp; omega)) h3 hE4b (by rw [hgo]; simp [he])
          · by_cases he : c.err = 22
            · simp (implicitDefEqProofs := false) (disch := omega) [List.getElem?_cons_zero, hlt, nth_map, hcc, hce, hra, hl0, hl0', hk, he, splice, fillC, wrap64]
              repeat' apply And.intro
              all_goals first | omega | kernel_rfl | skip
              exact hfin _ _ 7 5 9 (hi ++ [c]) (le ++ [c]) (go ++ [c]) (by simp) (by simp) (by simp) (by simp) (by simp) (by simp) (by simp) (by simp) (by simp) (by simp) rfl (by simp [Cutoff.row, *]) (by simp [Cutoff.row, he]) (by simp [Cutoff.row, he]) (by first | omega | (simp; omega)) (by first | omega | (simp; omega)) hE3b hE4b (by rw [hgo]; simp [he])
            · simp (implicitDefEqProofs := false) (disch := omega) [List.getElem?_cons_zero, hlt, nth_map, hcc, hce, hra, hl0, hl0', hk, he, splice, fillC, wrap64]
              repeat' apply And.intro
              all_goals first | omega | kernel_rfl | skip
              exact hfin _ _ 7 5 2 (hi ++ [c]) (le ++ [c]) go (by simp) (by simp) (by simp) (by simp) (by simp) (by simp) (by simp) (by simp) (by simp) (by simp) rfl (by simp [Cutoff.row, *]) (by simp [Cutoff.row, he]) (by simp [Cutoff.row, he]) (by first | omega | (simp; omega)) (by first | omega | (simp; omega)) hE3b hE4b (by rw [hgo]; simp [he])
        · simp (implicitDefEqProofs := false) (disch := omega) [List.getElem?_cons_zero, hlt]
          subst hL
          have : i = cuts.length := by omega
          subst this
          rw [List.take_length] at h5
          subst h5
          exact ⟨hi, le, h1, h2, h3, h4, at_mk (by simp) rfl⟩
      · rintro _ ⟨hi, le, h1, h2, h3, h4, sl, rfl⟩
        have q1 := xg18 l hi (by omega) (by omega)
        have q2 := xg18 l le (by omega) (by omega)
        have q3 := xg18 l (cuts.filter fun c => decide (c.err = 22)) (by omega) (Nat.lt_of_le_of_lt (List.length_filter_le _ _) hc)
        rw [effE_gone] at q3
        have r1 := xg23 (effE l cuts) (effE l hi) (hs.eff cuts) (hs.eff hi).1 (effE_mono l (cutBy_high h4))
        have r2 := xg23 (effE l cuts) (effE l le) (hs.eff cuts) (hs.eff le).1 (effE_mono l (cutBy_less h3))
        have r3 := xg17 (effE l cuts) (effE l cuts) (hs.eff cuts) (hs.eff cuts).1
        have t1 : ∀ x : List Cutoff, (x.map Cutoff.row).take x.length = x.map Cutoff.row := fun x => List.take_of_length_le (by simp)
        simp (implicitDefEqProofs := false) (disch := omega) [List.getElem?_cons_zero, b6_6, b6_7, x16, h18, q1, q2, q3, h23, r1, r2, h17, r3, t1, toPVs, frzVs, osVs, toPV]
        exact fin_nil ⟨rfl, rfl⟩
end Go.Aw.Try

namespace Go.Aw.Try
open Go Go.Proofs Go.Proofs.Ytlboedhconemnaa Go.Aw
set_option maxRecDepth 100000
/-! ### what came in, with its ranges -/
theorem i64_range {n : Int} (h : (Lit.int .i64 n).wf = true) : -9223372036854775808 ≤ n ∧ n ≤ 9223372036854775807 := by
  simp [Lit.wf, IntKind.bits, IntKind.signed, IntKind.min, IntKind.max] at h
  omega
theorem dec_u8 {l : List D} (h : okShs [.i .u8] l) : ∃ n : Int, l = [.v (.int .u8 n)] ∧ 0 ≤ n ∧ n ≤ 255 := by
  simp only [okShs, okSh] at h
  obtain ⟨_, _, rfl, ⟨n, rfl, h⟩, rfl⟩ := h
  refine ⟨n, rfl, ?_⟩
  simp [Lit.wf, IntKind.bits, IntKind.signed, IntKind.min, IntKind.max] at h
  omega
theorem dec_cutW {l : List D} (h : okShs cutSh l) : ∃ x : Cutoff, l = x.row ∧ -9223372036854775808 ≤ x.n := by
  simp only [cutSh, okShs, okSh] at h
  obtain ⟨_, _, rfl, ⟨a, rfl⟩, _, _, rfl, ⟨n, rfl, hn⟩, _, _, rfl, ⟨m, rfl, _⟩, rfl⟩ := h
  exact ⟨⟨a, n, m⟩, rfl, (i64_range hn).1⟩
theorem dec_listW {α : Type} {row : α → List D} {sh : List Sh} {p : α → Prop} (hd : ∀ l, okShs sh l → ∃ x, l = row x ∧ p x) : ∀ {xs : List (List D)}, (∀ x ∈ xs, okShs sh x) → ∃ l : List α, xs = l.map row ∧ ∀ x ∈ l, p x
  | [], _ => ⟨[], rfl, by simp⟩
  | x :: xs, h => by
    obtain ⟨a, rfl, ha⟩ := hd x (h x List.mem_cons_self)
    obtain ⟨l, rfl, hl⟩ := dec_listW hd (fun y hy => h y (List.mem_cons_of_mem _ hy))
    exact ⟨a :: l, rfl, by simp; exact ⟨ha, hl⟩⟩
theorem dec_cutsW {l : List D} (h : okShs [.sl cutSh] l) : ∃ es : List Cutoff, l = [.sl (es.map Cutoff.row)] ∧ ∀ c ∈ es, -9223372036854775808 ≤ c.n := by
  simp only [okShs, okSh] at h
  obtain ⟨_, _, rfl, ⟨xs, rfl, h⟩, rfl⟩ := h
  obtain ⟨es, rfl, he⟩ := dec_listW (row := Cutoff.row) (fun l h => dec_cutW h) h
  exact ⟨es, rfl, he⟩
end Go.Aw.Try
