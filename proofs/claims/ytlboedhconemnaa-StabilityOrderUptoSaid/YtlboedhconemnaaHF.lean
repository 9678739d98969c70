/- An abstract machine over the model, and contracts of functions of this program on it (part 6): words and lemmas for the proof in the last text. -/
import Derived.Test.YtlboedhconemnaaHE
set_option linter.unusedSimpArgs false
set_option linter.unusedVariables false
set_option linter.unusedSectionVars false

namespace Go.Aw.Try
open Go Go.Proofs Go.Aw
set_option maxRecDepth 100000
set_option maxHeartbeats 4000000
/-! ### Sort, Effective: of each class the first -/
theorem sortE_srt (l : List Edit) : Srt cmpE (sortE l) := (ssort_srt cmpE_pre l).sublist (cmpt_sub _ _)
theorem sortE_cls (l : List Edit) (x : Edit) : cls cmpE x (sortE l) = (cls cmpE x l).take 1 := by
  unfold sortE; rw [cmpt_cls cmpE_pre _ (ssort_srt cmpE_pre l), ssort_flt cmpE_pre l x]
theorem sortE_of {l m : List Edit} (h1 : Srt cmpE m) (h2 : ∀ x, cls cmpE x m = (cls cmpE x l).take 1) : m = sortE l :=
  srt_flt_unique cmpE_pre h1 (sortE_srt l) fun x => by rw [h2, sortE_cls]
theorem sortE_sst (l : List Edit) : Sst cmpE (sortE l) := by rw [← sortE_refS]; exact (refS_spec cmpE_pre l).1
theorem cls_filter (q : Edit → Bool) (x : Edit) (l : List Edit) : cls cmpE x (l.filter q) = (cls cmpE x l).filter q := by
  simp only [cls, List.filter_filter]; congr 1; funext y; exact Bool.and_comm _ _
theorem cmpE_id {x y : Edit} (h : cmpE x y = 0) : x.id = y.id ∧ x.clock = y.clock := by
  simp only [cmpE, orI] at h
  have h1 : cmpI x.clock y.clock = 0 := by
    by_cases q : cmpI x.clock y.clock = 0
    · exact q
    · rw [if_pos q] at h; exact h
  have h2 : cmpS x.id.a y.id.a = 0 := by
    rw [if_neg (by omega)] at h
    by_cases q : cmpS x.id.a y.id.a = 0
    · exact q
    · rw [if_pos q] at h; exact h
  have h3 : cmpI x.id.n y.id.n = 0 := by
    rw [if_neg (by omega), if_neg (by omega)] at h
    by_cases q : cmpI x.id.n y.id.n = 0
    · exact q
    · rw [if_pos q] at h; exact h
  have e2 := (cmpS_eq _ _).1 h2
  have e1 : x.clock = y.clock := by unfold cmpI at h1; (repeat' split at h1) <;> omega
  have e3 : x.id.n = y.id.n := by unfold cmpI at h3; (repeat' split at h3) <;> omega
  exact ⟨(Id.eq_iff _ _).2 ⟨e2, e3⟩, e1⟩
theorem cmpE_of_id {x y : Edit} (h : x.id = y.id) (k : x.clock = y.clock) : cmpE x y = 0 := by
  have h2 : cmpS x.id.a y.id.a = 0 := (cmpS_eq _ _).2 (by rw [h])
  have h1 : cmpI x.clock y.clock = 0 := by rw [k]; simp [cmpI]
  have h3 : cmpI x.id.n y.id.n = 0 := by rw [h]; simp [cmpI]
  simp [cmpE, orI, h1, h2, h3]
theorem cutBy_id (cuts : List Cutoff) {x y : Edit} (h : x.id = y.id) : cutBy cuts x = cutBy cuts y := by unfold cutBy; rw [h]
/-- A test that looks at the Id alone takes a class whole or not at all. -/
theorem cls_all (q : Edit → Bool) (hq : ∀ x y : Edit, x.id = y.id → q x = q y) (x : Edit) (l : List Edit) : (cls cmpE x l).filter q = if q x then cls cmpE x l else [] := by
  by_cases h : q x = true
  · rw [if_pos h]; exact List.filter_eq_self.2 fun y hy => by rw [← hq x y (cmpE_id (mem_cls.1 hy).2).1]; exact h
  · rw [if_neg h]; exact List.filter_eq_nil_iff.2 fun y hy => by rw [← hq x y (cmpE_id (mem_cls.1 hy).2).1]; exact h
theorem effE_cls (l : List Edit) (cuts : List Cutoff) (x : Edit) : cls cmpE x (effE l cuts) = if cutBy cuts x then [] else (cls cmpE x l).take 1 := by
  unfold effE
  rw [cls_filter, cls_all _ (fun x y h => by rw [cutBy_id cuts h]), sortE_cls]
  cases cutBy cuts x <;> rfl
theorem effE_srt (l : List Edit) (cuts : List Cutoff) : Srt cmpE (effE l cuts) := (sortE_srt l).sublist List.filter_sublist
theorem effE_eq {l m : List Edit} {cuts : List Cutoff} (h1 : Srt cmpE m) (h2 : ∀ x, cls cmpE x m = if cutBy cuts x then [] else (cls cmpE x l).take 1) : m = effE l cuts :=
  srt_flt_unique cmpE_pre h1 (effE_srt l cuts) fun x => by rw [h2, effE_cls]
theorem take1_app {α : Type} (a b : List α) : (a.take 1 ++ b.take 1).take 1 = (a ++ b).take 1 := by
  cases a with
  | nil => simp [List.take_take]
  | cons x a => simp
theorem union_sort (a b : List Edit) : sortE (sortE a ++ sortE b) = sortE (a ++ b) := by
  refine (sortE_of (sortE_srt _) fun x => ?_)
  rw [sortE_cls, cls_app, sortE_cls, sortE_cls, cls_app, take1_app]
theorem union_eff (a b : List Edit) (cuts : List Cutoff) : sortE (effE a cuts ++ effE b cuts) = effE (a ++ b) cuts := by
  refine effE_eq (sortE_srt _) fun x => ?_
  rw [sortE_cls, cls_app, effE_cls, effE_cls, cls_app]
  cases cutBy cuts x
  · exact take1_app _ _
  · rfl

/-- Sort where its argument is an own row. -/
theorem k20_os (es : List Edit) (hl : es.length < 68719476736) (H : List O) (r n : Nat) (o : O) (hr : H[r]? = some o) (ho : o = .row 18 (es.map Edit.row) ∨ o = .frow 18 (es.map Edit.row)) (hn : n = es.length) (H' : List O) (hH : H' = frz1 H (.os r 18 0 n)) :
    ACalls Try.prog G0 20 [.c (.os r 18 0 n)] H (Own H' 18 ((sortE es).map Edit.row)) := by
  subst hn
  have e0 : (es.map Edit.row).take es.length = es.map Edit.row := List.take_of_length_le (by simp)
  refine acalls_frzR (ps := [.c (.sl (es.map Edit.row))]) ?_ ?_
  · rcases ho with rfl | rfl <;> simp [toPVs, toPV, hr, e0]
  · have e : frzVs H [.c (.os r 18 0 es.length)] = H' := by rw [hH]; simp [frzVs, frz]
    rw [e]
    exact k20 es hl H'
theorem k4 (a b : List Edit) (cuts : List Cutoff) (ha : gtot a + gtot b < 34359738368) (hc : cuts.length < 68719476736) :
    ACalls Try.prog G0 4 [.c (.d (.sl (a.map Edit.row))), .c (.d (.sl (b.map Edit.row))), .c (.d (.sl (cuts.map Cutoff.row)))] [] fun t H => t = .bool true ∧ H = [] := by
  have hla := gtot_len a
  have hlb := gtot_len b
  have hab : gtot (a ++ b) = gtot a + gtot b := by simp [gtot]
  have h15 : x15.sc = true := rfl
  have h18 : x18.sc = false := rfl
  have h17 : x17.sc = true := rfl
  have g15 := xg15 (a ++ b) (by omega)
  refine acallsX (X := [(15, x15), (16, x16), (18, x18), (17, x17)]) ⟨kx15, kx16, kx18, kx17, trivial⟩ tab hmix Try.func4 c4 (by rfl) fun hw => ?_
  have e0 : (a.map Edit.row ++ b.map Edit.row).take (a.length + b.length) = a.map Edit.row ++ b.map Edit.row := by rw [List.take_of_length_le (by simp)]
  have e1 : ∀ y, (y ∈ a.map Edit.row ∨ y ∈ b.map Edit.row) → y.length = 18 := by
    rintro y (h | h) <;> obtain ⟨x, _, rfl⟩ := List.mem_map.1 h <;> rfl
  simp only [List.map_append] at g15
  by_cases hg : 1500 < gtot (a ++ b)
  · rw [if_pos hg] at g15
    simp (implicitDefEqProofs := false) (disch := omega) [List.getElem?_cons_zero, ir4, b4, h15, g15, x16, e0, toPVs, frzVs, osVs, toPV, nth_map, (erow _).len, take_of_len, (erow _).mapO, (erow _).tk, (erow _).nrm, borRow, (erow _).cl, borV_map, osR_map, frz_map, nth_set_ne, (erow _).spl (erow _)]
    exact ⟨by omega, by omega, fin_nil ⟨rfl, rfl⟩⟩
  · rw [if_neg hg] at g15
    by_cases hcl : 20 < cuts.length
    · have hcl' : (20 : Int) < cuts.length := by omega
      simp (implicitDefEqProofs := false) (disch := omega) [List.getElem?_cons_zero, ir4, b4, h15, g15, x16, e0, hcl', toPVs, frzVs, osVs, toPV, nth_map, (erow _).len, take_of_len, (erow _).mapO, (erow _).tk, (erow _).nrm, borRow, (erow _).cl, borV_map, osR_map, frz_map, nth_set_ne, (erow _).spl (erow _)]
      exact ⟨by omega, by omega, fin_nil ⟨rfl, rfl⟩⟩
    · have hcl' : ¬ (20 : Int) < cuts.length := by omega
      have hs := gtot_small (l := a ++ b) (n := 1500) (by omega) (by omega) (by omega)
      have hA := effE_len a cuts
      have hB := effE_len b cuts
      have hSA := sortE_len a
      have hSB := sortE_len b
      have gA := xg18 a cuts (by omega) hc
      have gB := xg18 b cuts (by omega) hc
      have gAB := xg18 (a ++ b) cuts hs.1 hc
      simp only [List.map_append] at gAB
      have g17 := xg17 (effE (a ++ b) cuts) (effE (a ++ b) cuts) (hs.eff cuts) (hs.eff cuts).1
      have g17' := xg17 (sortE (a ++ b)) (sortE (a ++ b)) hs.sort hs.sort.1
      have t1 : ((effE a cuts).map Edit.row).length = (effE a cuts).length := by simp
      simp (implicitDefEqProofs := false) (disch := omega) [List.getElem?_cons_zero, ir4, b4, h15, g15, x16, e0, hcl', h18, gA, gB, gAB, toPVs, frzVs, osVs, toPV, nth_map, (erow _).len, take_of_len, (erow _).mapO, (erow _).tk, (erow _).nrm, borRow, (erow _).cl, borV_map, osR_map, frz_map, nth_set_ne, (erow _).spl (erow _)]
      refine ⟨by omega, by omega, by omega, by omega, ?_⟩
      refine (k20_os (effE a cuts ++ effE b cuts) (by simp; omega) _ 5 _ _ rfl (.inl (by simp)) (by simp) _ rfl).mono ?_
      rintro t H' ⟨rfl, rfl⟩
      rw [union_eff]
      have e2 : ((effE (a ++ b) cuts).map Edit.row).take (effE (a ++ b) cuts).length = (effE (a ++ b) cuts).map Edit.row := List.take_of_length_le (by simp)
      simp (implicitDefEqProofs := false) (disch := omega) [List.getElem?_cons_zero, callK, h17, g17, e2]
      refine (k20_os (a ++ b) hs.1 _ 2 _ _ rfl (.inr (by simp)) (by simp) _ rfl).mono ?_
      rintro t H' ⟨rfl, rfl⟩
      simp (implicitDefEqProofs := false) (disch := omega) [List.getElem?_cons_zero, callK]
      refine (k20 a (by omega) _).mono ?_
      rintro t H' ⟨rfl, rfl⟩
      simp (implicitDefEqProofs := false) (disch := omega) [List.getElem?_cons_zero, callK]
      refine (k20 b (by omega) _).mono ?_
      rintro t H' ⟨rfl, rfl⟩
      have e3 : ((sortE b).map Edit.row).take (sortE b).length = (sortE b).map Edit.row := List.take_of_length_le (by simp)
      have e4 : ((sortE (a ++ b)).map Edit.row).take (sortE (a ++ b)).length = (sortE (a ++ b)).map Edit.row := List.take_of_length_le (by simp)
      simp (implicitDefEqProofs := false) (disch := omega) [List.getElem?_cons_zero, callK, e3]
      refine ⟨⟨by omega, fun e _ => (erow e).len⟩, ?_⟩
      refine (k20_os (sortE a ++ sortE b) (by simp; omega) _ 6 _ _ rfl (.inl (by simp)) (by simp) _ rfl).mono ?_
      rintro t H' ⟨rfl, rfl⟩
      rw [union_sort]
      simp (implicitDefEqProofs := false) (disch := omega) [List.getElem?_cons_zero, callK, h17, g17', e4]
      exact fin_nil ⟨rfl, rfl⟩
end Go.Aw.Try
