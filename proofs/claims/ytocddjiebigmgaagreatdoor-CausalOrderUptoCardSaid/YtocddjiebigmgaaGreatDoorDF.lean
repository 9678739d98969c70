/- An abstract machine over the model, and contracts of functions of this program on it (part 6): words and lemmas for the proof in the last text. -/
import Derived.Test.YtocddjiebigmgaaGreatDoorDE
set_option linter.unusedSimpArgs false
set_option linter.unusedVariables false
set_option linter.unusedSectionVars false

namespace Go.Aw.Try
open Go Go.Proofs Go.Aw
set_option maxRecDepth 100000
set_option maxHeartbeats 4000000
/-! ### the order of the log -/
theorem foldS_asc : ∀ (l : List Edit) {s : List Id}, AscI s → AscI (foldS s l)
 | [], s, h => h
 | e :: l, s, h => foldS_asc l (addI_asc h e.id)
theorem foldS_take {s : List Id} {l : List Edit} {i : Nat} (h : i < l.length) : foldS s (l.take (i + 1)) = addI (foldS s (l.take i)) (nth l i).id := by
 rw [take_nth h]
 unfold foldS
 rw [List.foldl_append]; rfl
theorem ordF_nth : ∀ {l : List Edit} {s : List Id} {i : Nat}, ordF s l → i < l.length → covB (foldS s (l.take i)) (nth l i).deps = true ∧ conI (foldS s (l.take i)) (nth l i).id = false
 | [], s, i, h, hi => by simp at hi
 | e :: l, s, 0, h, hi => h.1
 | e :: l, s, i + 1, h, hi => by
  have := ordF_nth (i := i) h.2 (by simpa using hi)
  exact this
theorem k1004 (m : Int) (v : List Id) (l : List Edit) (h : OkA v l) : ACalls Tryz.prog (GM m) 4 [.c (.d (.sl (v.map Id.row))), .c (.d (.sl (l.map Edit.row)))] [] fun t H => t = .bool true ∧ H = [] := by
 have s1 : x1009.sc = true := rfl
 have s2 : x1010.sc = true := rfl
 have s3 : (x1017 m).sc = false := rfl
 have s4 : x1014.sc = true := rfl
 have s5 : x1018.sc = true := rfl
 have s6 : x517.sc = true := rfl
 have s7 : x555.sc = false := rfl
 have g1 := xg1009 v l h
 have g2 := xg1010
 refine acallsX (X := [(9, x1009), (10, x1010), (17, x1017 m), (14, x1014), (18, x1018), (19, x517), (20, x555)]) ⟨kx1009.gm, kx1010 m, kx1017 m, kx1014.gm, kx1018.gm, kx517.gm, kx555.gm, trivial⟩ tab hmix Tryz.func4 c1004 (by rfl) fun hw => ?_
 cases hf : fewB v l
 ·rw [hf] at g1
  simp (implicitDefEqProofs := false) (disch := omega) [gz, ir1004, b1004, b1004_0, b1004_1, s1, g1, s2, g2]
  exact fin_nil ⟨rfl, rfl⟩
 ·rw [hf] at g1
  have hr := few_ok hf
  have hvl := hr.vl
  have tkv : List.take v.length (v.map Id.row) = v.map Id.row := List.take_of_length_le (by simp)
  have hrec := recV_rec (l := l) hr.asc hr.pos l
  have g3 := xg1017 m v l hr
  obtain ⟨L, hL⟩ : ∃ L, L = recV v l := ⟨_, rfl⟩
  rw [← hL] at g3 hrec
  obtain ⟨okl, hpl, hdl, hdp⟩ := okL hr hrec fun e he => he
  have hsl := okl.sl
  have hfl := fun i => foldS_len (L.del.take i) v
  have hfa := fun i => foldS_asc (L.del.take i) hr.asc
  simp (implicitDefEqProofs := false) (disch := omega) [gz, ir1004, b1004, b1004_0, b1004_1, b1004_2, b1004_3, b1004_4, s1, g1, s3, g3, fillC, splice, fillR, irow_len, toPVs, frzVs, osVs, toPV]
  repeat' (with_reducible apply And.intro)
  all_goals first | omega | kernel_rfl | exact fun _ _ => rfl | skip
  refine loopE (fun k st => ∃ i, i ≤ L.del.length ∧ k = L.del.length - i ∧
    st = ⟨ofL [(5, .v (.c (.ptr 0 0))), (6, .v (.c (.d (.sl ((foldS v (L.del.take i)).map Id.row))))), (23, .int .i64 L.del.length), (24, .int .i64 i)], [.cells ((logD L).map .d)]⟩)
   (fun st => AtS [(5, .v (.c (.ptr 0 0))), (6, .v (.c (.d (.sl (L.seen.map Id.row)))))] [.cells ((logD L).map .d)] st) ?_ ?_ ?_
  ·refine wk_tell 6 (u := .c (.os 2 2 0 v.length)) (p := .c (.sl (v.map Id.row))) (by simp) (by simp [toPV, tkv]) ?_
   refine wk_nil [0] [5, 6, 23, 24] rfl ⟨_, 0, by omega, rfl, ?_⟩
   simp [phi, O.ren, C.ren, foldS, frz, frz1, PV.toV]
  ·rintro J M hJ hM k st ⟨i, hi, rfl, rfl⟩
   by_cases hlt : i < L.del.length
   ·obtain ⟨o1, o2⟩ := ordF_nth hrec.c.inv.ord hlt
    obtain ⟨e, he⟩ : ∃ e, nth L.del i = e := ⟨_, rfl⟩
    have hee := Edit.row_eq e
    have hdd := okl.dd _ (nth_mem hlt)
    have hnext := foldS_take (s := v) hlt
    have h1 := hfl i
    have h2 := hfa i
    rw [List.length_take] at h1
    rw [he] at o1 o2 hdd hnext
    obtain ⟨S, hS⟩ : ∃ S, S = foldS v (L.del.take i) := ⟨_, rfl⟩
    rw [← hS] at o1 o2 hnext h1 h2 ⊢
    have g5 := xg1018 S e.deps h2 (by omega) (by omega)
    have g6 := xg517 S e.id h2 (by omega)
    have g7 := xg555 S e.id h2 (by omega)
    rw [← hnext] at g7
    rw [o1] at g5
    rw [o2] at g6
    rw [show e.id.row = [.v (.string e.id.a), .v (.int .i64 e.id.n)] from rfl] at g6 g7
    simp (implicitDefEqProofs := false) (disch := omega) [gz, hlt, wrap64, nth_map, he, hee, s5, g5, s6, g6, s7, g7, fillC, splice, toPVs, frzVs, osVs, toPV]
    subst hJ
    refine wk_nil [0] [5, 6, 23, 24] rfl ⟨L.del.length - (i + 1), by omega, i + 1, by omega, rfl, ?_⟩
    simp [phi, O.ren, C.ren]
   ·have : i = L.del.length := by omega
    subst this
    rw [List.take_length, ← hrec.c.inv.sn]
    simp (implicitDefEqProofs := false) (disch := omega) [gz, hlt]
    subst hM
    exact at_mk (by simp) rfl
  ·rintro _ ⟨sl, rfl⟩
   simp (implicitDefEqProofs := false) (disch := omega) [gz, b1004_5, wrap64]
   refine loopE (fun k st => ∃ i, i ≤ L.pen.length ∧ k = L.pen.length - i ∧
     st = ⟨ofL [(5, .v (.c (.ptr 0 0))), (6, .v (.c (.d (.sl (L.seen.map Id.row))))), (50, .int .i64 L.pen.length), (51, .int .i64 i)], [.cells ((logD L).map .d)]⟩)
    (fun st => AtS [(5, .v (.c (.ptr 0 0))), (6, .v (.c (.d (.sl (L.seen.map Id.row)))))] [.cells ((logD L).map .d)] st) ?_ ?_ ?_
   ·refine wk_nil [0] [5, 6, 50, 51] rfl ⟨_, 0, by omega, rfl, ?_⟩
    simp [phi, O.ren, C.ren]
   ·rintro J M hJ hM k st ⟨i, hi, rfl, rfl⟩
    by_cases hlt : i < L.pen.length
    ·have o1 := hrec.c.wait _ (nth_mem hlt)
     have o2 := hrec.c.inv.pn _ (nth_mem hlt)
     obtain ⟨e, he⟩ : ∃ e, nth L.pen i = e := ⟨_, rfl⟩
     have hee := Edit.row_eq e
     have hdd := okl.pd _ (nth_mem hlt)
     rw [he] at o1 o2 hdd
     have g5 := xg1018 L.seen e.deps okl.asc (by omega) (by omega)
     have g6 := xg517 L.seen e.id okl.asc (by omega)
     rw [o1] at g5
     rw [o2] at g6
     rw [show e.id.row = [.v (.string e.id.a), .v (.int .i64 e.id.n)] from rfl] at g6
     simp (implicitDefEqProofs := false) (disch := omega) [gz, hlt, wrap64, nth_map, he, hee, s5, g5, s6, g6, fillC, splice, toPVs, frzVs, osVs, toPV]
     subst hJ
     refine wk_nil [0] [5, 6, 50, 51] rfl ⟨L.pen.length - (i + 1), by omega, i + 1, by omega, rfl, ?_⟩
     simp [phi, O.ren, C.ren]
    ·simp (implicitDefEqProofs := false) (disch := omega) [gz, hlt]
     subst hM
     exact at_mk (by simp) rfl
   ·rintro _ ⟨sl, rfl⟩
    have g4 := xg1014 L.seen L.seen (by omega)
    rw [decide_eq_true rfl] at g4
    simp (implicitDefEqProofs := false) (disch := omega) [gz, b1004_6, b1004_7, s4, g4, s2, g2]
    exact fin_nil ⟨rfl, rfl⟩
end Go.Aw.Try
