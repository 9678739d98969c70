/- An abstract machine over the model, and contracts of functions of this program on it (part 13): words and lemmas for the proof in the last text. -/
import Derived.Test.YtlboedhconemnaaHL
set_option linter.unusedSimpArgs false
set_option linter.unusedVariables false
set_option linter.unusedSectionVars false

namespace Go.Aw.Try
open Go Go.Proofs Go.Aw
set_option maxRecDepth 100000
set_option maxHeartbeats 4000000
def b12_0 : AC := (.region 0 [
    ⟨(some 6), (.mov (.const (.bool false))), none⟩])
def b12_1 : AC := (.seq (.region 0 [
    ⟨(some 9), (.mov (.tmp 0)), none⟩,
    ⟨(some 10), (.call 15 [(.tmp 9)]), none⟩,
    ⟨(some 11), (.binI .gtr .i64 (.tmp 10) (.const (.int .i64 0))), none⟩,
    ⟨(some 12), (.mov (.tmp 11)), none⟩,
    ⟨(some 13), (.mov (.tmp 1)), (some (12, false))⟩,
    ⟨(some 14), (.lenL (.tmp 13)), (some (12, false))⟩,
    ⟨(some 15), (.binI .gtr .i64 (.tmp 14) (.const (.int .i64 20))), (some (12, false))⟩,
    ⟨(some 16), (.pick (.tmp 12) (.const (.bool true)) (.tmp 15)), none⟩,
    ⟨(some 17), (.mov (.tmp 16)), none⟩,
    ⟨(some 18), (.mov (.tmp 0)), (some (17, false))⟩,
    ⟨(some 19), (.call 33 [(.tmp 18)]), (some (17, false))⟩,
    ⟨(some 20), (.lenL (.tmp 19)), (some (17, false))⟩,
    ⟨(some 21), (.binI .gtr .i64 (.tmp 20) (.const (.int .i64 0))), (some (17, false))⟩,
    ⟨(some 22), (.pick (.tmp 17) (.const (.bool true)) (.tmp 21)), none⟩])
  (.cond (.tmp 22) (.seq (.region 0 [
    ⟨(some 23), (.call 16 []), none⟩,
    ⟨(some 6), (.mov (.tmp 23)), none⟩])
  .ret) .skip))
def b12_2 : AC := (.region 0 [
    ⟨(some 7), (.mov (.const (.slice none 0 0))), none⟩])
def b12_3 : AC := (.seq (.region 0 [
    ⟨(some 24), (.mov (.tmp 0)), none⟩,
    ⟨(some 25), (.lenL (.tmp 24)), none⟩,
    ⟨(some 26), (.mov (.const (.int .i64 0))), none⟩])
  (.block 0 (.loop (.seq (.region 0 [
    ⟨(some 27), (.binI .lss .i64 (.tmp 26) (.tmp 25)), none⟩])
  (.seq (.cond (.tmp 27) .skip (.exit 0))
  (.seq (.block 1 (.seq (.region 0 [
    ⟨(some 28), (.mov (.tmp 26)), none⟩,
    ⟨(some 8), (.mov (.tmp 28)), none⟩])
  (.seq (.region 2 [
    ⟨(some 29), (.mov (.tmp 7)), none⟩,
    ⟨(some 30), (.mov (.tmp 0)), none⟩,
    ⟨(some 31), (.mov (.tmp 8)), none⟩,
    ⟨(some 32), (.mov (.tmp 2)), none⟩,
    ⟨(some 33), (.conv .i64 (.tmp 32)), none⟩,
    ⟨(some 34), (.binI .add .i64 (.tmp 31) (.tmp 33)), none⟩,
    ⟨(some 35), (.mov (.tmp 0)), none⟩,
    ⟨(some 36), (.lenL (.tmp 35)), none⟩,
    ⟨(some 37), (.binI .rem .i64 (.tmp 34) (.tmp 36)), none⟩,
    ⟨(some 38), (.iaddr 18 (.tmp 30) (.tmp 37)), none⟩,
    ⟨(some 39), (.load true 18 (.tmp 38)), none⟩,
    ⟨(some 40), (.bsl 0 18 [(.v (.string ⟨#[]⟩)), (.v (.int .i64 0)), (.v (.int .i64 0)), (.v (.int .i64 0)), (.v (.slice none 0 0)), (.v (.int .i64 0)), (.v (.string ⟨#[]⟩)), (.v (.int .i64 0)), (.v (.string ⟨#[]⟩)), (.v (.int .i64 0)), (.v (.bool false)), (.v (.string ⟨#[]⟩)), (.v (.string ⟨#[]⟩)), (.v (.string ⟨#[]⟩)), (.v (.string ⟨#[]⟩)), (.v (.string ⟨#[]⟩)), (.v (.int .i64 0)), (.v (.string ⟨#[]⟩))] 1 [(0, (.tmp 39))]), none⟩,
    ⟨(some 41), (.app 1 18 232 (.tmp 29) (.tmp 40)), none⟩,
    ⟨(some 7), (.mov (.tmp 41)), none⟩])
  (.seq (.region 0 [
    ⟨(some 42), (.mov (.tmp 8)), none⟩,
    ⟨(some 43), (.binI .rem .i64 (.tmp 42) (.const (.int .i64 3))), none⟩,
    ⟨(some 44), (.binI .eql .i64 (.tmp 43) (.const (.int .i64 0))), none⟩])
  (.cond (.tmp 44) (.region 2 [
    ⟨(some 45), (.mov (.tmp 7)), none⟩,
    ⟨(some 46), (.mov (.tmp 0)), none⟩,
    ⟨(some 47), (.mov (.tmp 0)), none⟩,
    ⟨(some 48), (.lenL (.tmp 47)), none⟩,
    ⟨(some 49), (.binI .sub .i64 (.tmp 48) (.const (.int .i64 1))), none⟩,
    ⟨(some 50), (.mov (.tmp 8)), none⟩,
    ⟨(some 51), (.binI .sub .i64 (.tmp 49) (.tmp 50)), none⟩,
    ⟨(some 52), (.iaddr 18 (.tmp 46) (.tmp 51)), none⟩,
    ⟨(some 53), (.load true 18 (.tmp 52)), none⟩,
    ⟨(some 54), (.bsl 0 18 [(.v (.string ⟨#[]⟩)), (.v (.int .i64 0)), (.v (.int .i64 0)), (.v (.int .i64 0)), (.v (.slice none 0 0)), (.v (.int .i64 0)), (.v (.string ⟨#[]⟩)), (.v (.int .i64 0)), (.v (.string ⟨#[]⟩)), (.v (.int .i64 0)), (.v (.bool false)), (.v (.string ⟨#[]⟩)), (.v (.string ⟨#[]⟩)), (.v (.string ⟨#[]⟩)), (.v (.string ⟨#[]⟩)), (.v (.string ⟨#[]⟩)), (.v (.int .i64 0)), (.v (.string ⟨#[]⟩))] 1 [(0, (.tmp 53))]), none⟩,
    ⟨(some 55), (.app 1 18 232 (.tmp 45) (.tmp 54)), none⟩,
    ⟨(some 7), (.mov (.tmp 55)), none⟩]) .skip)))))
  (.region 0 [
    ⟨(some 56), (.binI .add .i64 (.tmp 26) (.const (.int .i64 1))), none⟩,
    ⟨(some 26), (.mov (.tmp 56)), none⟩])))))))
def b12_4 : AC := (.region 0 [
    ⟨(some 57), (.call 16 []), none⟩,
    ⟨(some 58), (.mov (.tmp 57)), none⟩,
    ⟨(some 59), (.mov (.tmp 0)), (some (58, true))⟩,
    ⟨(some 60), (.call 20 [(.tmp 59)]), (some (58, true))⟩,
    ⟨(some 61), (.mov (.tmp 7)), (some (58, true))⟩,
    ⟨(some 62), (.call 20 [(.tmp 61)]), (some (58, true))⟩,
    ⟨(some 63), (.call 17 [(.tmp 60), (.tmp 62)]), (some (58, true))⟩,
    ⟨(some 64), (.pick (.tmp 58) (.tmp 63) (.const (.bool false))), none⟩,
    ⟨(some 65), (.mov (.tmp 64)), none⟩,
    ⟨(some 66), (.mov (.tmp 0)), (some (65, true))⟩,
    ⟨(some 67), (.mov (.tmp 1)), (some (65, true))⟩,
    ⟨(some 68), (.call 18 [(.tmp 66), (.tmp 67)]), (some (65, true))⟩,
    ⟨(some 69), (.mov (.tmp 7)), (some (65, true))⟩,
    ⟨(some 70), (.mov (.tmp 1)), (some (65, true))⟩,
    ⟨(some 71), (.call 18 [(.tmp 69), (.tmp 70)]), (some (65, true))⟩,
    ⟨(some 72), (.call 17 [(.tmp 68), (.tmp 71)]), (some (65, true))⟩,
    ⟨(some 73), (.pick (.tmp 65) (.tmp 72) (.const (.bool false))), none⟩,
    ⟨(some 74), (.mov (.tmp 73)), none⟩,
    ⟨(some 75), (.mov (.tmp 7)), (some (74, true))⟩,
    ⟨(some 76), (.call 33 [(.tmp 75)]), (some (74, true))⟩,
    ⟨(some 77), (.lenL (.tmp 76)), (some (74, true))⟩,
    ⟨(some 78), (.binI .eql .i64 (.tmp 77) (.const (.int .i64 0))), (some (74, true))⟩,
    ⟨(some 79), (.pick (.tmp 74) (.tmp 78) (.const (.bool false))), none⟩,
    ⟨(some 6), (.mov (.tmp 79)), none⟩])
def b12_5 : AC := .ret
def b12 : AC := (.seq b12_0 (.seq b12_1 (.seq b12_2 (.seq b12_3 (.seq b12_4 b12_5)))))
def ir12 : AF := ⟨80, [(.tmp 6)], b12⟩
theorem c12 : compF tt Try.f12 = some ir12 := by kernel_rfl
end Go.Aw.Try

namespace Go.Aw.Try
open Go Go.Proofs Go.Aw
set_option maxRecDepth 100000
set_option maxHeartbeats 4000000
/-! ### edits as a set -/
theorem cmpE_zero {a b : Edit} (h : cmpE a b = 0) : a.id = b.id := (cmpE_id h).1
/-- No two different edits have one name. -/
def NoFork (l : List Edit) : Prop := ∀ y ∈ l, ∀ z ∈ l, y.id = z.id → y = z
theorem noFork_iff (l : List Edit) : forksE l = [] ↔ NoFork l := by
  rw [List.eq_nil_iff_forall_not_mem]
  constructor
  · intro h y hy z hz e
    by_cases q : y = z
    · exact q
    · exact absurd ((forksE_forky l y.id.a).2 ⟨y, hy, z, hz, e, q, rfl⟩) (h _)
  · intro h x hx
    obtain ⟨y, hy, z, hz, e, q, _⟩ := (forksE_forky l x).1 hx
    exact q (h y hy z hz e)
theorem NoFork.of_set {l m : List Edit} (h : NoFork l) (hm : ∀ e, e ∈ m ↔ e ∈ l) : NoFork m := fun y hy z hz e => h y ((hm y).1 hy) z ((hm z).1 hz) e
theorem NoFork.sort_mem {l : List Edit} (h : NoFork l) (e : Edit) : e ∈ sortE l ↔ e ∈ l := by
  constructor
  · exact sortE_mem
  · intro he
    obtain ⟨y, hy, hc⟩ := sortE_has he
    rw [h e he y (sortE_mem hy) (cmpE_zero hc)]
    exact hy
theorem pw_ext {α : Type} {R : α → α → Prop} (asy : ∀ a b, R a b → ¬ R b a) (ir : ∀ a, ¬ R a a) : ∀ {l l' : List α}, l.Pairwise R → l'.Pairwise R → (∀ x, x ∈ l ↔ x ∈ l') → l = l'
  | [], [], _, _, _ => rfl
  | [], y :: l', _, _, h => by have := (h y).2 List.mem_cons_self; cases this
  | x :: l, [], _, _, h => by have := (h x).1 List.mem_cons_self; cases this
  | x :: l, y :: l', h1, h2, h => by
    obtain ⟨a1, a2⟩ := List.pairwise_cons.1 h1
    obtain ⟨b1, b2⟩ := List.pairwise_cons.1 h2
    have exy : x = y := by
      rcases List.mem_cons.1 ((h x).1 List.mem_cons_self) with e | hx
      · exact e
      · rcases List.mem_cons.1 ((h y).2 List.mem_cons_self) with e | hy
        · exact e.symm
        · exact absurd (b1 x hx) (asy _ _ (a1 y hy))
    subst exy
    rw [pw_ext asy ir a2 b2 fun z => ?_]
    constructor
    · intro hz
      rcases List.mem_cons.1 ((h z).1 (List.mem_cons_of_mem _ hz)) with e | hz'
      · subst e; exact absurd (a1 z hz) (ir z)
      · exact hz'
    · intro hz
      rcases List.mem_cons.1 ((h z).2 (List.mem_cons_of_mem _ hz)) with e | hz'
      · subst e; exact absurd (b1 z hz) (ir z)
      · exact hz'
theorem NoFork.sort_eq {l m : List Edit} (h : NoFork l) (hm : ∀ e, e ∈ m ↔ e ∈ l) : sortE m = sortE l := by
  refine pw_ext (R := fun a b => cmpE a b < 0) (fun a b h k => ?_) (fun a h => ?_) (sortE_sst m) (sortE_sst l) fun x => ?_
  · have := (cmpE_pre.sgn a b); omega
  · have := (cmpE_pre.sgn a a); omega
  · rw [h.sort_mem, (h.of_set hm).sort_mem, hm]
theorem NoFork.eff_eq {l m : List Edit} (h : NoFork l) (hm : ∀ e, e ∈ m ↔ e ∈ l) (cuts : List Cutoff) : effE m cuts = effE l cuts := by
  unfold effE; rw [h.sort_eq hm]
/-- The edits in another order, some of them twice. -/
def mixStep (l : List Edit) (by' : Nat) (m : List Edit) (i : Nat) : List Edit := m ++ ([nth l ((i + by') % l.length)] ++ if i % 3 = 0 then [nth l (l.length - 1 - i)] else [])
def mixN (l : List Edit) (by' n : Nat) : List Edit := (List.range n).foldl (mixStep l by') []
theorem mixN_succ (l : List Edit) (b n : Nat) : mixN l b (n + 1) = mixStep l b (mixN l b n) n := by unfold mixN; rw [List.range_succ, List.foldl_append]; rfl
theorem mixN_len (l : List Edit) (b n : Nat) : (mixN l b n).length ≤ 2 * n := by
  induction n with
  | zero => simp [mixN]
  | succ n ih => rw [mixN_succ]; unfold mixStep; split <;> simp <;> omega
theorem mixN_in {l : List Edit} {b n : Nat} (h : n ≤ l.length) {e : Edit} (he : e ∈ mixN l b n) : e ∈ l := by
  induction n with
  | zero => simp [mixN] at he
  | succ n ih =>
    rw [mixN_succ] at he
    unfold mixStep at he
    rcases List.mem_append.1 he with he | he
    · exact ih (by omega) he
    · rcases List.mem_append.1 he with he | he
      · rw [List.mem_singleton] at he
        subst he
        exact nth_mem (Nat.mod_lt _ (by omega))
      · split at he
        · rw [List.mem_singleton] at he
          subst he
          exact nth_mem (by omega)
        · cases he
theorem mixN_has (l : List Edit) (b : Nat) {n i : Nat} (h : i < n) : nth l ((i + b) % l.length) ∈ mixN l b n := by
  induction n with
  | zero => omega
  | succ n ih =>
    rw [mixN_succ]
    unfold mixStep
    by_cases q : i = n
    · subst q; simp
    · exact List.mem_append_left _ (ih (by omega))
theorem mix_set (l : List Edit) (b : Nat) (e : Edit) : e ∈ mixN l b l.length ↔ e ∈ l := by
  constructor
  · exact mixN_in (Nat.le_refl _)
  · intro he
    obtain ⟨j, hj, rfl⟩ := mem_nth he
    have hp : 0 < l.length := by omega
    have key : ((j + (l.length - b % l.length)) % l.length + b) % l.length = j := by
      have hb : b % l.length < l.length := Nat.mod_lt _ hp
      have e1 : b = l.length * (b / l.length) + b % l.length := (Nat.div_add_mod b l.length).symm
      by_cases q : j + (l.length - b % l.length) < l.length
      · rw [Nat.mod_eq_of_lt q]
        have : j + (l.length - b % l.length) + b = j + l.length * (b / l.length + 1) := by rw [Nat.mul_add]; omega
        rw [this, Nat.add_mul_mod_self_left, Nat.mod_eq_of_lt hj]
      · have q2 : j + (l.length - b % l.length) - l.length < l.length := by omega
        have e2 : (j + (l.length - b % l.length)) % l.length = j + (l.length - b % l.length) - l.length := by
          rw [Nat.mod_eq_sub_mod (by omega), Nat.mod_eq_of_lt q2]
        rw [e2]
        have : j + (l.length - b % l.length) - l.length + b = j + l.length * (b / l.length) := by omega
        rw [this, Nat.add_mul_mod_self_left, Nat.mod_eq_of_lt hj]
    have := mixN_has l b (n := l.length) (i := (j + (l.length - b % l.length)) % l.length) (Nat.mod_lt _ hp)
    rw [key] at this
    exact this
end Go.Aw.Try

namespace Go.Aw.Try
open Go Go.Proofs Go.Aw
set_option maxRecDepth 100000
set_option maxHeartbeats 4000000
theorem k12 (l : List Edit) (cuts : List Cutoff) (a : Int) (ha0 : 0 ≤ a) (ha1 : a ≤ 255) (hl : gtot l < 34359738368) (hc : cuts.length < 68719476736) :
    ACalls Try.prog G0 12 [.c (.d (.sl (l.map Edit.row))), .c (.d (.sl (cuts.map Cutoff.row))), .c (.d (.v (.int .u8 a)))] [] fun t H => t = .bool true ∧ H = [] := by
  obtain ⟨b, rfl⟩ : ∃ b : Nat, a = (b : Int) := ⟨a.toNat, by omega⟩
  have hlen := gtot_len l
  have h15 : x15.sc = true := rfl
  have h20 : x20.sc = false := rfl
  have h17 : x17.sc = true := rfl
  have h18 : x18.sc = false := rfl
  have h33 : x33.sc = false := rfl
  have g15 := xg15 l (by omega)
  have g20 := xg20 l (by omega)
  have g18 := xg18 l cuts (by omega) hc
  refine acallsX (X := [(15, x15), (16, x16), (20, x20), (17, x17), (18, x18), (33, x33)]) ⟨kx15, kx16, kx20, kx17, kx18, kx33, trivial⟩ tab hmix Try.func12 c12 (by rfl) fun hw => ?_
  by_cases hg : 1500 < gtot l
  · rw [if_pos hg] at g15
    simp (implicitDefEqProofs := false) (disch := omega) [List.getElem?_cons_zero, ir12, b12, b12_0, b12_1, h15, g15, x16]
    exact fin_nil ⟨rfl, rfl⟩
  · rw [if_neg hg] at g15
    by_cases hcl : 20 < cuts.length
    · have hcl' : (20 : Int) < cuts.length := by omega
      simp (implicitDefEqProofs := false) (disch := omega) [List.getElem?_cons_zero, ir12, b12, b12_0, b12_1, h15, g15, x16, hcl']
      exact fin_nil ⟨rfl, rfl⟩
    · have hcl' : ¬ (20 : Int) < cuts.length := by omega
      have hsm := gtot_small (l := l) (n := 1500) (by omega) (by omega) (by omega)
      have g33 := xg33 l hsm
      by_cases hf : forksE l = []
      · rw [hf] at g33
        have hnf := (noFork_iff l).1 hf
        simp (implicitDefEqProofs := false) (disch := omega) [List.getElem?_cons_zero, ir12, b12, b12_0, b12_1, b12_2, b12_3, h15, g15, x16, hcl', h33, g33, toPVs, frzVs, osVs, toPV, wrap64]
        refine loopE (fun k st => ∃ i, i ≤ l.length ∧ k = l.length - i ∧
            st = ⟨ofL [(0, .v (.c (.d (.sl (l.map Edit.row))))), (1, .v (.c (.d (.sl (cuts.map Cutoff.row))))), (2, .int .u8 b), (7, .v (.c (.os 0 18 0 (mixN l b i).length))), (24, .v (.c (.d (.sl (l.map Edit.row))))), (25, .int .i64 l.length), (26, .int .i64 i)], [.row 18 ((mixN l b i).map Edit.row)]⟩)
          (fun st => AtS [(0, .v (.c (.d (.sl (l.map Edit.row))))), (1, .v (.c (.d (.sl (cuts.map Cutoff.row))))), (7, .v (.c (.os 0 18 0 (mixN l b l.length).length)))] [.row 18 ((mixN l b l.length).map Edit.row)] st) ?_ ?_ ?_
        · refine wk_nil_os 7 18 (by omega) (by simp) ?_
          refine wk_keep [0, 1, 2, 7, 24, 25, 26] ⟨_, 0, by omega, rfl, ?_⟩
          simp [mixN]
        · rintro J L hJ hL k st ⟨i, hi, rfl, rfl⟩
          by_cases hlt : i < l.length
          · obtain ⟨m, hm⟩ : ∃ m, m = mixN l b i := ⟨_, rfl⟩
            have hml : m.length ≤ 2 * i := by rw [hm]; exact mixN_len l b i
            have hst := mixN_succ l b i
            rw [← hm] at hst ⊢
            unfold mixStep at hst
            obtain ⟨p, hp⟩ : ∃ p, p = (i + b) % l.length := ⟨_, rfl⟩
            have hpl : p < l.length := by rw [hp]; exact Nat.mod_lt _ (by omega)
            have hpt : ((i : Int) + (b : Int)).tmod (l.length : Int) = (p : Int) := by
              rw [hp]; exact_mod_cast (Int.ofNat_tmod (i + b) l.length).symm
            obtain ⟨r, hr⟩ : ∃ r, r = l.length - 1 - i := ⟨_, rfl⟩
            have hrl : r < l.length := by omega
            have hrt : (l.length : Int) - 1 - (i : Int) = (r : Int) := by omega
            have h3 : ((i : Int)).tmod 3 = ((i % 3 : Nat) : Int) := by exact_mod_cast (Int.ofNat_tmod i 3).symm
            rw [← hp, ← hr] at hst
            obtain ⟨e, he⟩ : ∃ e, nth l p = e := ⟨_, rfl⟩
            obtain ⟨f, hf'⟩ : ∃ f, nth l r = f := ⟨_, rfl⟩
            rw [he, hf'] at hst
            have tA : (m.map Edit.row).take m.length = m.map Edit.row := List.take_of_length_le (by simp)
            have rA : ∀ y ∈ m.map Edit.row, y.length = 18 := by
              intro y hy; obtain ⟨x, _, rfl⟩ := List.mem_map.1 hy; rfl
            by_cases q3 : i % 3 = 0
            · rw [if_pos q3] at hst
              rw [q3] at h3
              simp (implicitDefEqProofs := false) (disch := omega) [List.getElem?_cons_zero, hlt, wrap64, hpt, hpl, hrt, hrl, h3, he, hf', tA, nth_map, (erow _).len, take_of_len, (erow _).mapO, (erow _).tk, (erow _).nrm, borRow, (erow _).cl, borV_map, osR_map, frz_map, nth_set_ne, (erow _).spl (erow _)]
              refine ⟨by intro h; subst h; simp at hlt, by omega, by omega, ?_⟩
              subst hJ
              refine wk_nil [4] [0, 1, 2, 7, 24, 25, 26] rfl ⟨l.length - (i + 1), by omega, i + 1, by omega, rfl, ?_⟩
              rw [hst]; simp [phi, O.ren]
            · rw [if_neg q3] at hst
              have h3' : ¬ ((i : Int)).tmod 3 = 0 := by rw [h3]; omega
              simp (implicitDefEqProofs := false) (disch := omega) [List.getElem?_cons_zero, hlt, wrap64, hpt, hpl, h3', he, tA, nth_map, (erow _).len, take_of_len, (erow _).mapO, (erow _).tk, (erow _).nrm, borRow, (erow _).cl, borV_map, osR_map, frz_map, nth_set_ne, (erow _).spl (erow _)]
              refine ⟨by intro h; subst h; simp at hlt, by omega, ?_⟩
              subst hJ
              refine wk_nil [2] [0, 1, 2, 7, 24, 25, 26] rfl ⟨l.length - (i + 1), by omega, i + 1, by omega, rfl, ?_⟩
              rw [hst]; simp [phi, O.ren]
          · have : i = l.length := by omega
            subst this
            simp (implicitDefEqProofs := false) (disch := omega) [List.getElem?_cons_zero, hlt]
            subst hL
            exact at_mk (by simp) rfl
        · rintro _ ⟨sl, rfl⟩
          obtain ⟨m, hm⟩ : ∃ m, m = mixN l b l.length := ⟨_, rfl⟩
          have hset : ∀ e, e ∈ m ↔ e ∈ l := by rw [hm]; exact mix_set l b
          have hml : m.length ≤ 2 * l.length := by rw [hm]; exact mixN_len l b _
          rw [← hm]
          have hmL : m.length < 68719476736 := by omega
          have hms : Small m := ⟨hmL, fun e he => hsm.2 e ((hset e).1 he)⟩
          have hfm : forksE m = [] := (noFork_iff m).2 (hnf.of_set hset)
          have g20m := xg20 m hmL
          have g18m := xg18 m cuts hmL hc
          have g33m := xg33 m hms
          rw [hnf.sort_eq hset] at g20m
          rw [hnf.eff_eq hset] at g18m
          rw [hfm] at g33m
          have g17 := xg17 (sortE l) (sortE l) hsm.sort hsm.sort.1
          have g17' := xg17 (effE l cuts) (effE l cuts) (hsm.eff cuts) (hsm.eff cuts).1
          rw [decide_eq_true rfl] at g17 g17'
          have tA : (m.map Edit.row).take m.length = m.map Edit.row := List.take_of_length_le (by simp)
          simp (implicitDefEqProofs := false) (disch := omega) [List.getElem?_cons_zero, b12_4, b12_5, x16, h20, g20, g20m, h18, g18, g18m, h17, g17, g17', h33, g33m, tA, toPVs, frzVs, osVs, toPV]
          exact fin_nil ⟨rfl, rfl⟩
      · have hp : 0 < (forksE l).length := List.length_pos_iff.2 hf
        have hp' : (0 : Int) < (forksE l).length := by omega
        simp (implicitDefEqProofs := false) (disch := omega) [List.getElem?_cons_zero, ir12, b12, b12_0, b12_1, h15, g15, x16, hcl', h33, g33, hp, hp', toPVs, frzVs, osVs, toPV, wrap64]
        exact fin_nil ⟨rfl, rfl⟩
end Go.Aw.Try


