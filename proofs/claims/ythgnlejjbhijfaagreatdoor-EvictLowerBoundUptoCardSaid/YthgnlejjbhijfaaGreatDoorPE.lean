/- An abstract machine over the model, and contracts of functions of this program on it (part 5): words and lemmas for the proof in the last text. -/
import Derived.WalkKit
import Derived.ProofKit
import Derived.OpenShut
import Derived.JoinedCond
import Derived.Carry
import Derived.Test.YthgnlejjbhijfaaGreatDoorCards
import Derived.Test.YthgnlejjbhijfaaGreatDoorTie
import Derived.Deep.DeepHandedRow
import Derived.Shelf.Vars
import Derived.Shelf.RegionOpenPlain
import Derived.Lib.Walk
import Derived.Lib.SliceRun
import Derived.Lib.JoinLaws
import Derived.Lib.AppendZeros
import Derived.Lib.AppendZerosOnto
import Derived.Lib.Overlaps
import Derived.Laws.Externs
import Derived.Laws.IdiomCopy
import Derived.Laws.CopyRow
import Derived.Laws.NewBlocks
import Derived.Test.YthgnlejjbhijfaaGreatDoorProg
import Derived.Test.YthgnlejjbhijfaaGreatDoorPD
set_option linter.unusedSimpArgs false
set_option linter.unusedVariables false
set_option linter.unusedSectionVars false

namespace Go.Aw.Try
open Go Go.Proofs Go.Aw
set_option maxRecDepth 100000
set_option maxHeartbeats 4000000
/-! ### Right -/
instance : Inhabited Edit := ⟨⟨⟨⟨#[]⟩, 0⟩, 0, 0, [], 0, ⟨⟨#[]⟩, 0⟩, ⟨⟨#[]⟩, 0⟩, false, ⟨#[]⟩, ⟨#[]⟩, ⟨#[]⟩, ⟨#[]⟩, ⟨⟨#[]⟩, 0⟩, ⟨#[]⟩⟩⟩
def okE (e : Edit) : Prop := chkV e.deps 0 e.deps.length = 0 ∧ e.deps.length ≤ 12 ∧ e.who.size ≤ 300 ∧ 1 ≤ e.id.n ∧ 0 ≤ e.clock
/-- What Right asks. -/
def OkR (l : List Edit) (all : List Member) : Prop := l.length ≤ 40 ∧ all.length ≤ 8 ∧
 (∀ i, i < all.length → authB (nth all i).name = true ∧ ∀ j, j < i → (nth all j).name ≠ (nth all i).name) ∧
 ∀ i, i < l.length → okE (nth l i) ∧ ∀ j, j < i → (nth l j).id = (nth l i).id → nth l j = nth l i
noncomputable def rightN (l : List Edit) (all : List Member) : Int := open Classical in if OkR l all then 1 else 0
theorem right_no {l : List Edit} {all : List Member} (h : ¬ OkR l all) : rightN l all = 0 := by unfold rightN; rw [if_neg h]
theorem right_yes {l : List Edit} {all : List Member} (h : OkR l all) : rightN l all = 1 := by unfold rightN; rw [if_pos h]
def szE (e : Edit) : Prop := e.deps.length < 4611686018427387904 ∧ (∀ x ∈ e.deps, x.a.size < 4611686018427387904)
theorem k512 (l : List Edit) (all : List Member) (h1 : l.length < 4611686018427387904) (h2 : all.length < 4611686018427387904) (h3 : ∀ m ∈ all, m.name.size < 4611686018427387904) (h4 : ∀ e ∈ l, szE e) :
  ACalls Tryz.prog G0 12 [.c (.d (.sl (l.map Edit.row))), .c (.d (.sl (all.map Member.row)))] [] fun t H => t = .int .i64 (rightN l all) ∧ H = [] := by
 have s1 : x526.sc = true := rfl
 have s2 : x528.sc = true := rfl
 have s3 : x37.sc = true := rfl
 refine acallsX (X := [(26, x526), (28, x528), (33, x37)]) ⟨kx526, kx528, kx37, trivial⟩ tab hmix Tryz.func12 c512 (by rfl) fun hw => ?_
 have no : ¬ OkR l all → ∀ Z, Fin Tryz.prog 0 (fun t H => t = .int .i64 (rightN l all) ∧ H = []) (.int .i64 0) Z := fun h Z => fin_nil ⟨by rw [right_no h]; rfl, rfl⟩
 obtain ⟨R0, hR0⟩ : ∃ r, r = rightN l all := ⟨_, rfl⟩
 have hno := @right_no l all
 have hyes := @right_yes l all
 rw [← hR0] at no hno hyes ⊢
 simp (implicitDefEqProofs := false) (disch := omega) [gz, ir512, b512, b512_0, b512_1, wrap64]
 refine ⟨fun c1 => ⟨fun c2 => no (fun h => by have := h.2.1; omega) _, fun c2 => ?_⟩, fun c1 => no (fun h => by have := h.1; omega) _⟩
 simp (implicitDefEqProofs := false) (disch := omega) [gz, b512_2, wrap64]
 refine loopE (fun k st => ∃ i, i ≤ all.length ∧ k = all.length - i ∧ (∀ q, q < i → authB (nth all q).name = true ∧ ∀ j, j < q → (nth all j).name ≠ (nth all q).name) ∧
   st = ⟨ofL [(0, .v (.c (.d (.sl (l.map Edit.row))))), (1, .v (.c (.d (.sl (all.map Member.row))))), (21, .v (.c (.d (.sl (all.map Member.row))))), (22, .int .i64 all.length), (23, .int .i64 i)], []⟩)
  (fun st => (∀ q, q < all.length → authB (nth all q).name = true ∧ ∀ j, j < q → (nth all j).name ≠ (nth all q).name) ∧ AtS [(0, .v (.c (.d (.sl (l.map Edit.row)))))] [] st) ?_ ?_ ?_
 ·refine wk_keep [0, 1, 21, 22, 23] ⟨_, 0, by omega, rfl, fun q hq => by omega, ?_⟩
  simp
 ·rintro J L hJ hL k st ⟨i, hi, rfl, hA, rfl⟩
  by_cases hlt : i < all.length
  ·obtain ⟨x, hx⟩ : ∃ x, nth all i = x := ⟨_, rfl⟩
   have hm : x ∈ all := by rw [← hx]; exact nth_mem hlt
   have hxr : x.row = [.v (.string x.name), .v (.string x.key)] := rfl
   have g1 := xg526 x.name (h3 x hm)
   obtain ⟨q, hq⟩ : ∃ q, q = authB x.name := ⟨_, rfl⟩
   rw [← hq] at g1
   cases q
   ·simp (implicitDefEqProofs := false) (disch := omega) [gz, hlt, wrap64, nth_map, hx, hxr, s1, g1, splice, fillC]
    exact no (fun h => by have := (h.2.2.1 i hlt).1; rw [hx, ← hq] at this; cases this) _
   ·simp (implicitDefEqProofs := false) (disch := omega) [gz, hlt, wrap64, nth_map, hx, hxr, s1, g1, splice, fillC]
    refine ⟨hi, ?_⟩
    obtain ⟨T, hT⟩ : ∃ T, T = all.take i := ⟨_, rfl⟩
    have hTl : T.length = i := by rw [hT, List.length_take]; omega
    have hTn : ∀ j, j < i → nth T j = nth all j := fun j hj => by rw [hT]; simp [nth, List.getD_eq_getElem?_getD, List.getElem?_take, hj]
    refine loopE (fun k st => ∃ j, j ≤ i ∧ k = i - j ∧ (∀ p, p < j → (nth all p).name ≠ x.name) ∧
      st = ⟨ofL [(0, .v (.c (.d (.sl (l.map Edit.row))))), (1, .v (.c (.d (.sl (all.map Member.row))))), (21, .v (.c (.d (.sl (all.map Member.row))))), (22, .int .i64 all.length), (23, .int .i64 i), (6, .v (.c (.ptr 0 0))), (34, .v (.c (.d (.sl (T.map Member.row))))), (35, .int .i64 i), (36, .int .i64 j)], [.cells [.d (.v (.string x.name)), .d (.v (.string x.key))]]⟩)
     (fun st => (∀ p, p < i → (nth all p).name ≠ x.name) ∧ AtS [(0, .v (.c (.d (.sl (l.map Edit.row))))), (1, .v (.c (.d (.sl (all.map Member.row))))), (21, .v (.c (.d (.sl (all.map Member.row))))), (22, .int .i64 all.length), (23, .int .i64 i)] [.cells [.d (.v (.string x.name)), .d (.v (.string x.key))]] st) ?_ ?_ ?_
    ·refine wk_keep [0, 1, 21, 22, 23, 6, 34, 35, 36] ⟨_, 0, by omega, rfl, fun p hp => by omega, ?_⟩
     simp [hT]
    ·rintro J2 L2 hJ2 hL2 k2 st ⟨j, hj, rfl, hB, rfl⟩
     by_cases hjl : j < i
     ·obtain ⟨y, hy⟩ : ∃ y, nth T j = y := ⟨_, rfl⟩
      have hy' : nth all j = y := by rw [← hTn j hjl]; exact hy
      have hyr : y.row = [.v (.string y.name), .v (.string y.key)] := rfl
      have hjT : j < T.length := by omega
      by_cases c3 : y.name = x.name
      ·simp (implicitDefEqProofs := false) (disch := omega) [gz, hjl, hjT, hTl, wrap64, nth_map, hy, hyr, splice, fillC, binSF, c3]
       exact no (fun h => (h.2.2.1 i hlt).2 j hjl (by rw [hy', hx]; exact c3)) _
      ·simp (implicitDefEqProofs := false) (disch := omega) [gz, hjl, hjT, hTl, wrap64, nth_map, hy, hyr, splice, fillC, binSF, c3]
       subst hJ2
       refine wk_nil [0] [0, 1, 21, 22, 23, 6, 34, 35, 36] rfl ⟨i - (j + 1), by omega, j + 1, by omega, rfl, fun p hp => ?_, ?_⟩
       ·by_cases e1 : p = j
        ·subst e1; rw [hy']; exact c3
        ·exact hB p (by omega)
       ·simp [phi, O.ren]
     ·have : j = i := by omega
      subst this
      simp (implicitDefEqProofs := false) (disch := omega) [gz, hjl]
      subst hL2
      exact ⟨hB, at_mk (by simp) rfl⟩
    ·rintro _ ⟨hB, sl, rfl⟩
     simp (implicitDefEqProofs := false) (disch := omega) [gz, wrap64]
     subst hJ
     refine wk_nil [] [0, 1, 21, 22, 23] rfl ⟨all.length - (i + 1), by omega, i + 1, by omega, rfl, fun p hp => ?_, ?_⟩
     ·by_cases e1 : p = i
      ·subst e1; rw [hx]; exact ⟨hq.symm, hB⟩
      ·exact hA p (by omega)
     ·simp
  ·have : i = all.length := by omega
   subst this
   simp (implicitDefEqProofs := false) (disch := omega) [gz, hlt]
   subst hL
   exact ⟨hA, at_mk (by simp) rfl⟩
 ·rintro _ ⟨hA, sl, rfl⟩
  simp (implicitDefEqProofs := false) (disch := omega) [gz, b512_3, wrap64]
  refine loopE (fun k st => ∃ i, i ≤ l.length ∧ k = l.length - i ∧ (∀ q, q < i → okE (nth l q) ∧ ∀ j, j < q → (nth l j).id = (nth l q).id → nth l j = nth l q) ∧
    st = ⟨ofL [(0, .v (.c (.d (.sl (l.map Edit.row))))), (47, .v (.c (.d (.sl (l.map Edit.row))))), (48, .int .i64 l.length), (49, .int .i64 i)], []⟩)
   (fun st => (∀ q, q < l.length → okE (nth l q) ∧ ∀ j, j < q → (nth l j).id = (nth l q).id → nth l j = nth l q) ∧ AtS [] [] st) ?_ ?_ ?_
  ·refine wk_keep [0, 47, 48, 49] ⟨_, 0, by omega, rfl, fun q hq => by omega, ?_⟩
   simp
  ·rintro J L hJ hL k st ⟨i, hi, rfl, hE, rfl⟩
   by_cases hlt : i < l.length
   ·obtain ⟨e, he⟩ : ∃ e, nth l i = e := ⟨_, rfl⟩
    have hm : e ∈ l := by rw [← he]; exact nth_mem hlt
    have hee := Edit.row_eq e
    obtain ⟨z1, z2⟩ := h4 e hm
    have g2 := xg528 e.deps z1 z2
    obtain ⟨q, hq⟩ : ∃ q, q = chkV e.deps 0 e.deps.length := ⟨_, rfl⟩
    rw [← hq] at g2
    simp (implicitDefEqProofs := false) (disch := omega) [gz, hlt, wrap64, nth_map, he, hee, s2, g2, splice, fillC]
    have hnoE : ¬ okE e → ∀ Z, Fin Tryz.prog 0 (fun t H => t = .int .i64 R0 ∧ H = []) (.int .i64 0) Z := fun q Z => no (fun h => q (by have := (h.2.2.2 i hlt).1; rw [he] at this; exact this)) Z
    refine ⟨fun d1 => ⟨fun d2 => ⟨fun d3 => ⟨fun d4 => ⟨fun d5 => ?_, fun d5 => ⟨hi, ?_⟩⟩, fun d4 => ?_⟩, fun d3 => ?_⟩, fun d2 => ?_⟩, fun d1 => ?_⟩
    ·exact hnoE (fun ⟨b1, b2, b3, b4, b5⟩ => by omega) _
    ·have hokE : okE e := ⟨by omega, by omega, by omega, by omega, by omega⟩
     obtain ⟨T, hT⟩ : ∃ T, T = l.take i := ⟨_, rfl⟩
     have hTl : T.length = i := by rw [hT, List.length_take]; omega
     have hTn : ∀ j, j < i → nth T j = nth l j := fun j hj => by rw [hT]; simp [nth, List.getD_eq_getElem?_getD, List.getElem?_take, hj]
     refine loopE (fun k st => ∃ j, j ≤ i ∧ k = i - j ∧ (∀ p, p < j → (nth l p).id = e.id → nth l p = e) ∧
       st = ⟨ofL [(0, .v (.c (.d (.sl (l.map Edit.row))))), (47, .v (.c (.d (.sl (l.map Edit.row))))), (48, .int .i64 l.length), (49, .int .i64 i), (10, .v (.c (.ptr 0 0))), (83, .v (.c (.d (.sl (T.map Edit.row))))), (84, .int .i64 i), (85, .int .i64 j)], [.cells ([.v (.string e.id.a), .v (.int .i64 e.id.n), .v (.int .i64 e.clock), .v (.int .i64 e.floor), .sl (e.deps.map Id.row), .v (.int .i64 e.kind), .v (.string e.node.a), .v (.int .i64 e.node.n), .v (.string e.parent.a), .v (.int .i64 e.parent.n), .v (.bool e.neg), .v (.string e.num), .v (.string e.den), .v (.string e.field), .v (.string e.value), .v (.string e.target.a), .v (.int .i64 e.target.n), .v (.string e.who)].map .d)]⟩)
      (fun st => (∀ p, p < i → (nth l p).id = e.id → nth l p = e) ∧ AtS [(0, .v (.c (.d (.sl (l.map Edit.row))))), (47, .v (.c (.d (.sl (l.map Edit.row))))), (48, .int .i64 l.length), (49, .int .i64 i)] [.cells ([.v (.string e.id.a), .v (.int .i64 e.id.n), .v (.int .i64 e.clock), .v (.int .i64 e.floor), .sl (e.deps.map Id.row), .v (.int .i64 e.kind), .v (.string e.node.a), .v (.int .i64 e.node.n), .v (.string e.parent.a), .v (.int .i64 e.parent.n), .v (.bool e.neg), .v (.string e.num), .v (.string e.den), .v (.string e.field), .v (.string e.value), .v (.string e.target.a), .v (.int .i64 e.target.n), .v (.string e.who)].map .d)] st) ?_ ?_ ?_
     ·refine wk_keep [0, 47, 48, 49, 10, 83, 84, 85] ⟨_, 0, by omega, rfl, fun p hp => by omega, ?_⟩
      simp [hT]
     ·rintro J2 L2 hJ2 hL2 k2 st ⟨j, hj, rfl, hB, rfl⟩
      by_cases hjl : j < i
      ·obtain ⟨f, hf⟩ : ∃ f, nth T j = f := ⟨_, rfl⟩
       have hf' : nth l j = f := by rw [← hTn j hjl]; exact hf
       have hfm : f ∈ l := by rw [← hf']; exact nth_mem (by omega)
       have hfr := Edit.row_eq f
       have hjT : j < T.length := by omega
       have g3 := xg37 f e (h4 f hfm).1
       rw [hfr, hee] at g3
       obtain ⟨p, hp⟩ : ∃ p, p = decide (f = e) := ⟨_, rfl⟩
       rw [← hp] at g3
       have hid : f.id = e.id ↔ f.id.a = e.id.a ∧ f.id.n = e.id.n := by
        constructor
        ·intro h; rw [h]; exact ⟨rfl, rfl⟩
        ·intro h; cases hx : f.id; cases hy : e.id; rw [hx, hy] at h; simp at h; simp [h]
       by_cases c3 : f.id.a = e.id.a
       ·by_cases c4 : f.id.n = e.id.n
        ·cases p
         ·rw [c3, c4] at g3
          simp (implicitDefEqProofs := false) (disch := omega) [gz, hjl, hjT, hTl, wrap64, nth_map, hf, hfr, splice, fillC, c3, c4, cellsEq, skEq, s3, g3]
          exact no (fun h => by
           have h5 := (h.2.2.2 i hlt).2 j hjl (by rw [hf', he]; exact hid.2 ⟨c3, c4⟩)
           rw [hf', he] at h5
           rw [decide_eq_true h5] at hp; cases hp) _
         ·rw [c3, c4] at g3
          simp (implicitDefEqProofs := false) (disch := omega) [gz, hjl, hjT, hTl, wrap64, nth_map, hf, hfr, splice, fillC, c3, c4, cellsEq, skEq, s3, g3]
          subst hJ2
          refine wk_nil [0] [0, 47, 48, 49, 10, 83, 84, 85] rfl ⟨i - (j + 1), by omega, j + 1, by omega, rfl, fun p' hp' => ?_, ?_⟩
          ·by_cases e1 : p' = j
           ·subst e1; rw [hf']; exact fun _ => of_decide_eq_true hp.symm
           ·exact hB p' (by omega)
          ·simp [phi, O.ren]
        ·simp (implicitDefEqProofs := false) (disch := omega) [gz, hjl, hjT, hTl, wrap64, nth_map, hf, hfr, splice, fillC, c3, c4, cellsEq, skEq]
         subst hJ2
         refine wk_nil [0] [0, 47, 48, 49, 10, 83, 84, 85] rfl ⟨i - (j + 1), by omega, j + 1, by omega, rfl, fun p' hp' => ?_, ?_⟩
         ·by_cases e1 : p' = j
          ·subst e1; rw [hf']; exact fun h => absurd (hid.1 h).2 c4
          ·exact hB p' (by omega)
         ·simp [phi, O.ren]
       ·simp (implicitDefEqProofs := false) (disch := omega) [gz, hjl, hjT, hTl, wrap64, nth_map, hf, hfr, splice, fillC, c3, cellsEq, skEq]
        subst hJ2
        refine wk_nil [0] [0, 47, 48, 49, 10, 83, 84, 85] rfl ⟨i - (j + 1), by omega, j + 1, by omega, rfl, fun p' hp' => ?_, ?_⟩
        ·by_cases e1 : p' = j
         ·subst e1; rw [hf']; exact fun h => absurd (hid.1 h).1 c3
         ·exact hB p' (by omega)
        ·simp [phi, O.ren]
      ·have : j = i := by omega
       subst this
       simp (implicitDefEqProofs := false) (disch := omega) [gz, hjl]
       subst hL2
       exact ⟨hB, at_mk (by simp) rfl⟩
     ·rintro _ ⟨hB, sl, rfl⟩
      simp (implicitDefEqProofs := false) (disch := omega) [gz, wrap64]
      subst hJ
      refine wk_nil [] [0, 47, 48, 49] rfl ⟨l.length - (i + 1), by omega, i + 1, by omega, rfl, fun p hp => ?_, ?_⟩
      ·by_cases e1 : p = i
       ·subst e1; rw [he]; exact ⟨hokE, hB⟩
       ·exact hE p (by omega)
      ·simp
    ·exact hnoE (fun ⟨b1, b2, b3, b4, b5⟩ => by omega) _
    ·exact hnoE (fun ⟨b1, b2, b3, b4, b5⟩ => by omega) _
    ·exact hnoE (fun ⟨b1, b2, b3, b4, b5⟩ => by omega) _
    ·exact hnoE (fun ⟨b1, b2, b3, b4, b5⟩ => by omega) _
   ·have : i = l.length := by omega
    subst this
    simp (implicitDefEqProofs := false) (disch := omega) [gz, hlt]
    subst hL
    exact ⟨hE, at_mk (by simp) rfl⟩
  ·rintro _ ⟨hE, sl, rfl⟩
   rw [hyes ⟨by omega, by omega, hA, hE⟩]
   simp (implicitDefEqProofs := false) (disch := omega) [gz, b512_4, b512_5, wrap64]
   exact fin_nil ⟨rfl, rfl⟩
noncomputable def x512 : XE := mkX true (fun (p : List Edit × List Member) => [.c (.sl (p.1.map Edit.row)), .c (.sl (p.2.map Member.row))]) (fun p => p.1.length < 4611686018427387904 ∧ p.2.length < 4611686018427387904 ∧ (∀ m ∈ p.2, m.name.size < 4611686018427387904) ∧ ∀ e ∈ p.1, szE e) (fun p => .int .i64 (rightN p.1 p.2))
theorem kx512 : Contract Tryz.prog G0 12 x512 := mkX_scal (fun _ => rfl) fun p h => k512 p.1 p.2 h.1 h.2.1 h.2.2.1 h.2.2.2
theorem injLM (a b : List Edit × List Member) (h : [PVo.c (D.sl (a.1.map Edit.row)), PVo.c (D.sl (a.2.map Member.row))] = [PVo.c (D.sl (b.1.map Edit.row)), PVo.c (D.sl (b.2.map Member.row))]) : a = b := by
 simp only [List.cons.injEq, PVo.c.injEq, D.sl.injEq] at h
 exact Prod.ext (rows_inj h.1) (mrows_inj h.2.1)
theorem xg512 (l : List Edit) (all : List Member) (h1 : l.length < 4611686018427387904) (h2 : all.length < 4611686018427387904) (h3 : ∀ m ∈ all, m.name.size < 4611686018427387904) (h4 : ∀ e ∈ l, szE e) : x512.g [.c (.sl (l.map Edit.row)), .c (.sl (all.map Member.row))] = some (True, .int .i64 (rightN l all)) := mkX_g injLM (l, all) ⟨h1, h2, h3, h4⟩
/-! ### Same, cut -/
instance : DecidableEq Cutoff := fun a b => if h : a.who = b.who ∧ a.n = b.n ∧ a.err = b.err then isTrue (by cases a; cases b; simp at h; simp [h]) else isFalse (fun e => h (by rw [e]; exact ⟨rfl, rfl, rfl⟩))
theorem list_nth_eq {α : Type} [Inhabited α] {a b : List α} (hl : a.length = b.length) (h : ∀ p, p < a.length → nth a p = nth b p) : a = b := by
 apply List.ext_getElem hl
 intro p h1 h2
 have := h p h1
 rw [nth_eq h1, nth_eq h2] at this; exact this
theorem k513 (a b : List Cutoff) (h1 : a.length < 4611686018427387904) : ACalls Tryz.prog G0 13 [.c (.d (.sl (a.map Cutoff.row))), .c (.d (.sl (b.map Cutoff.row)))] [] fun t H => t = .bool (decide (a = b)) ∧ H = [] := by
 refine acallsX (X := []) trivial tab hmix Tryz.func13 c513 (by rfl) fun hw => ?_
 simp (implicitDefEqProofs := false) (disch := omega) [gz, ir513, b513, wrap64]
 refine ⟨fun c1 => ?_, fun c1 => ?_⟩
 ·have : a ≠ b := fun h => c1 (by rw [h])
  rw [decide_eq_false this]
  exact fin_nil ⟨rfl, rfl⟩
 ·have hl : a.length = b.length := by omega
  refine loopE (fun k st => ∃ i, i ≤ a.length ∧ k = a.length - i ∧ (∀ p, p < i → nth a p = nth b p) ∧
    st = ⟨ofL [(0, .v (.c (.d (.sl (a.map Cutoff.row))))), (1, .v (.c (.d (.sl (b.map Cutoff.row))))), (12, .int .i64 a.length), (13, .int .i64 i)], []⟩)
   (fun st => (∀ p, p < a.length → nth a p = nth b p) ∧ AtS [] [] st) ?_ ?_ ?_
  ·refine wk_nil [] [0, 1, 12, 13] rfl ⟨_, 0, by omega, rfl, fun p hp => by omega, ?_⟩
   simp
  ·rintro J L hJ hL k st ⟨i, hi, rfl, hB, rfl⟩
   by_cases hlt : i < a.length
   ·have hlt2 : i < b.length := by omega
    obtain ⟨x, hx⟩ : ∃ x, nth a i = x := ⟨_, rfl⟩
    obtain ⟨y, hy⟩ : ∃ x, nth b i = x := ⟨_, rfl⟩
    have hxr : x.row = [.v (.string x.who), .v (.int .i64 x.n), .v (.int .i64 x.err)] := rfl
    have hyr : y.row = [.v (.string y.who), .v (.int .i64 y.n), .v (.int .i64 y.err)] := rfl
    by_cases h : x.who = y.who ∧ x.n = y.n ∧ x.err = y.err
    ·have hxy : x = y := by cases x; cases y; simp at h; simp [h]
     simp (implicitDefEqProofs := false) (disch := omega) [gz, hlt, hlt2, wrap64, nth_map, hx, hy, hxr, hyr, h.1, h.2.1, h.2.2, cellsEq, skEq]
     repeat' (with_reducible apply And.intro)
     all_goals first | omega | kernel_rfl | exact fun _ _ => rfl | skip
     subst hJ
     refine wk_nil [] [0, 1, 12, 13] rfl ⟨a.length - (i + 1), by omega, i + 1, by omega, rfl, fun p hp => ?_, ?_⟩
     ·by_cases e1 : p = i
      ·subst e1; rw [hx, hy]; exact hxy
      ·exact hB p (by omega)
     ·simp
    ·have hne : a ≠ b := fun e => h (by subst e; rw [hx] at hy; subst hy; exact ⟨rfl, rfl, rfl⟩)
     have hq : (decide (x.who = y.who) && (decide (x.n = y.n) && decide (x.err = y.err))) = false := by
      cases hz : (decide (x.who = y.who) && (decide (x.n = y.n) && decide (x.err = y.err)))
      ·rfl
      ·simp at hz; exact absurd hz h
     rw [decide_eq_false hne]
     simp (implicitDefEqProofs := false) (disch := omega) [gz, hlt, hlt2, wrap64, nth_map, hx, hy, hxr, hyr, cellsEq, skEq]
     exact ⟨by kernel_rfl, fun _ => fin_nil ⟨rfl, rfl⟩, fun h1 h2 h3 => absurd ⟨h1, h2, h3⟩ h⟩
   ·have : i = a.length := by omega
    subst this
    simp (implicitDefEqProofs := false) (disch := omega) [gz, hlt]
    subst hL
    exact ⟨hB, at_mk (by simp) rfl⟩
  ·rintro _ ⟨hB, sl, rfl⟩
   rw [decide_eq_true (list_nth_eq hl hB)]
   simp (implicitDefEqProofs := false) (disch := omega) [gz, wrap64]
   exact fin_nil ⟨rfl, rfl⟩
def cutF : List Cutoff → ByteArray → Int × Bool
 | [], _ => (0, false)
 | c :: r, nm => if c.who = nm ∧ c.err = 22 then (c.n, true) else cutF r nm
theorem k516 (a : List Cutoff) (nm : ByteArray) (h1 : a.length < 4611686018427387904) : ACalls Tryz.prog G0 16 [.c (.d (.sl (a.map Cutoff.row))), Sx nm] [] fun t H => t = .tup [.c (.d (.v (.int .i64 (cutF a nm).1))), .c (.d (.v (.bool (cutF a nm).2)))] ∧ H = [] := by
 refine acallsX (X := []) trivial tab hmix Tryz.func16 c516 (by rfl) fun hw => ?_
 simp (implicitDefEqProofs := false) (disch := omega) [gz, ir516, b516, wrap64]
 refine loopE (fun k st => ∃ i, i ≤ a.length ∧ k = a.length - i ∧ cutF a nm = cutF (a.drop i) nm ∧
   st = ⟨ofL [(1, .v (.c (.d (.v (.string nm))))), (8, .v (.c (.d (.sl (a.map Cutoff.row))))), (9, .int .i64 a.length), (10, .int .i64 i)], []⟩)
  (fun st => cutF a nm = (0, false) ∧ AtS [] [] st) ?_ ?_ ?_
 ·refine wk_nil [] [1, 8, 9, 10] rfl ⟨_, 0, by omega, rfl, rfl, ?_⟩
  simp [Sx]
 ·rintro J L hJ hL k st ⟨i, hi, rfl, hb, rfl⟩
  by_cases hlt : i < a.length
  ·obtain ⟨x, hx⟩ : ∃ x, nth a i = x := ⟨_, rfl⟩
   have hxr : x.row = [.v (.string x.who), .v (.int .i64 x.n), .v (.int .i64 x.err)] := rfl
   have hd : a.drop i = x :: a.drop (i + 1) := by rw [List.drop_eq_getElem_cons hlt, ← nth_eq hlt, hx]
   have hst : cutF (a.drop i) nm = if x.who = nm ∧ x.err = 22 then (x.n, true) else cutF (a.drop (i + 1)) nm := by rw [hd]; rfl
   by_cases c1 : x.who = nm
   ·by_cases c2 : x.err = 22
    ·rw [hb, hst, if_pos ⟨c1, c2⟩]
     simp (implicitDefEqProofs := false) (disch := omega) [gz, hlt, wrap64, nth_map, hx, hxr, splice, fillC, c1, c2, binSF]
     exact fin_nil ⟨rfl, rfl⟩
    ·rw [if_neg (fun h => c2 h.2)] at hst
     simp (implicitDefEqProofs := false) (disch := omega) [gz, hlt, wrap64, nth_map, hx, hxr, splice, fillC, c1, c2, binSF]
     subst hJ
     refine wk_nil [] [1, 8, 9, 10] rfl ⟨a.length - (i + 1), by omega, i + 1, by omega, rfl, by rw [hb, hst], ?_⟩
     simp
   ·rw [if_neg (fun h => c1 h.1)] at hst
    simp (implicitDefEqProofs := false) (disch := omega) [gz, hlt, wrap64, nth_map, hx, hxr, splice, fillC, c1, binSF]
    subst hJ
    refine wk_nil [] [1, 8, 9, 10] rfl ⟨a.length - (i + 1), by omega, i + 1, by omega, rfl, by rw [hb, hst], ?_⟩
    simp
  ·have : i = a.length := by omega
   subst this
   simp (implicitDefEqProofs := false) (disch := omega) [gz, hlt]
   subst hL
   exact ⟨by rw [hb, List.drop_length]; rfl, at_mk (by simp) rfl⟩
 ·rintro _ ⟨hb, sl, rfl⟩
  rw [hb]
  simp (implicitDefEqProofs := false) (disch := omega) [gz, wrap64]
  exact fin_nil ⟨rfl, rfl⟩
theorem cuts_inj {a b : List Cutoff} (h : a.map Cutoff.row = b.map Cutoff.row) : a = b := map_inj (fun a b h => by cases a; cases b; simp [Cutoff.row] at h; simp [h]) h
noncomputable def x513 : XE := mkX true (fun (p : List Cutoff × List Cutoff) => [.c (.sl (p.1.map Cutoff.row)), .c (.sl (p.2.map Cutoff.row))]) (fun p => p.1.length < 4611686018427387904) (fun p => .bool (decide (p.1 = p.2)))
theorem kx513 : Contract Tryz.prog G0 13 x513 := mkX_scal (fun _ => rfl) fun p h => k513 p.1 p.2 h
theorem xg513 (a b : List Cutoff) (h1 : a.length < 4611686018427387904) : x513.g [.c (.sl (a.map Cutoff.row)), .c (.sl (b.map Cutoff.row))] = some (True, .bool (decide (a = b))) := mkX_g (fun a b h => by
 simp only [List.cons.injEq, PVo.c.injEq, D.sl.injEq] at h
 exact Prod.ext (cuts_inj h.1) (cuts_inj h.2.1)) (a, b) h1
def cutT (p : Int × Bool) : T := .tup [.c (.d (.v (.int .i64 p.1))), .c (.d (.v (.bool p.2)))]
noncomputable def x516 : XE := mkX true (fun (p : List Cutoff × ByteArray) => [.c (.sl (p.1.map Cutoff.row)), .c (.v (.string p.2))]) (fun p => p.1.length < 4611686018427387904) (fun p => cutT (cutF p.1 p.2))
theorem kx516 : Contract Tryz.prog G0 16 x516 := mkX_scal (fun _ => rfl) fun p h => k516 p.1 p.2 h
theorem xg516 (a : List Cutoff) (nm : ByteArray) (h1 : a.length < 4611686018427387904) : x516.g [.c (.sl (a.map Cutoff.row)), .c (.v (.string nm))] = some (True, cutT (cutF a nm)) := mkX_g (fun a b h => by
 simp only [List.cons.injEq, PVo.c.injEq, D.sl.injEq, D.v.injEq, Value.string.injEq] at h
 exact Prod.ext (cuts_inj h.1) h.2.1) (a, nm) h1
noncomputable def x514 (m : Int) : XE := mkX false (fun (p : List Edit × List Member) => [.c (.sl (p.1.map Edit.row)), .c (.sl (p.2.map Member.row))]) (fun p => okC p.1 p.2) (fun p => .v (.c (.d (.sl ((cutsE p.1 p.2).map Cutoff.row)))))
theorem kx514 (m : Int) : Contract Tryz.prog (GM m) 14 (x514 m) := mkX_data fun p h H => k514 m p.1 p.2 h H
theorem xg514 (m : Int) (l : List Edit) (all : List Member) (h : okC l all) : (x514 m).g [.c (.sl (l.map Edit.row)), .c (.sl (all.map Member.row))] = some (True, .v (.c (.d (.sl ((cutsE l all).map Cutoff.row))))) := mkX_g injLM (l, all) h
end Go.Aw.Try

namespace Go.Aw
open Go

/-- Shapes of cells. -/
inductive Sh where
 | i (k : IntKind)
 | b
 | s
 | sl (es : List Sh)

mutual
def okSh : Sh → D → Prop
 | .i k, d => ∃ n, d = .v (.int k n) ∧ (Lit.int k n).wf = true
 | .b, d => ∃ x, d = .v (.bool x)
 | .s, d => ∃ x, d = .v (.string x)
 | .sl es, d => ∃ xs, d = .sl xs ∧ ∀ x ∈ xs, okShs es x
def okShs : List Sh → List D → Prop
 | [], l => l = []
 | e :: es, l => ∃ d r, l = d :: r ∧ okSh e d ∧ okShs es r
end

theorem okShs_len : ∀ {es : List Sh} {l : List D}, okShs es l → l.length = es.length
 | [], l, h => by simp only [okShs] at h; subst h; rfl
 | e :: es, l, h => by
  simp only [okShs] at h
  obtain ⟨d, r, rfl, _, h⟩ := h
  simp [okShs_len h]
theorem okShs_app : ∀ {es es' : List Sh} {l l' : List D}, okShs es l → okShs es' l' → okShs (es ++ es') (l ++ l')
 | [], es', l, l', h, h' => by simp only [okShs] at h; subst h; exact h'
 | e :: es, es', l, l', h, h' => by
  simp only [okShs] at h
  obtain ⟨d, r, rfl, h1, h⟩ := h
  simp only [List.cons_append, okShs]
  exact ⟨d, r ++ l', rfl, h1, okShs_app h h'⟩

section
variable (P : Program)
mutual
def shT : Nat → TypeId → Option (List Sh)
 | 0, _ => none
 | n + 1, t => match P.underlying t with
  | some .bool => some [.b]
  | some (.int k) => some [.i k]
  | some .string => some [.s]
  | some (.slice e) => match shT n e with
   | some es => if P.cellsOf e = es.length ∧ 0 < es.length then some [.sl es] else none
   | none => none
  | some (.struct fs) => match shF n 0 fs.toList with
   | some es => if P.cellsOf t = es.length then some es else none
   | none => none
  | _ => none
def shF : Nat → Nat → List Field → Option (List Sh)
 | _, _, [] => some []
 | 0, _, _ => none
 | n + 1, run, f :: r => if f.offset = run then match shT n f.type with
  | some es => if P.cellsOf f.type = es.length then match shF n (run + es.length) r with
   | some l => some (es ++ l)
   | none => none else none
  | none => none else none
end
end

section
variable {H : Type}
mutual
def datD : DataW H → List D
 | .lit (.int k n) => [.v (.int k n)]
 | .lit (.bool b) => [.v (.bool b)]
 | .lit (.string bs) => [.v (.string ⟨bs.toArray⟩)]
 | .nil => [.sl []]
 | .slice es _ => [.sl (datDs es)]
 | .agg ps => datF ps
 | _ => []
def datDs : List (DataW H) → List (List D)
 | [] => []
 | d :: r => datD d :: datDs r
def datF : List (DataW H) → List D
 | [] => []
 | d :: r => datD d ++ datF r
end
theorem datDs_len : ∀ l : List (DataW H), (datDs l).length = l.length
 | [] => rfl
 | d :: r => by simp [datDs, datDs_len r]
theorem datDs_get : ∀ (l : List (DataW H)) (i : Nat), (datDs l)[i]? = (l[i]?).map datD
 | [], i => by simp [datDs]
 | d :: r, 0 => by simp [datDs]
 | d :: r, i + 1 => by simp [datDs, datDs_get r i]
end

theorem mapM_some {α β : Type} {f : α → Option β} : ∀ {l : List α} {r : List β}, l.mapM f = some r → r.length = l.length ∧ ∀ (i : Nat) x, l[i]? = some x → ∃ y, r[i]? = some y ∧ f x = some y
 | [], r, h => by simp at h; subst h; simp
 | a :: l, r, h => by
  rw [List.mapM_cons] at h
  cases hf : f a with
  | none => rw [hf] at h; cases h
  | some b =>
   rw [hf] at h
   cases hm : l.mapM f with
   | none => rw [hm] at h; cases h
   | some r' =>
    rw [hm] at h
    have h : some (b :: r') = some r := h
    injection h with h; subst h
    obtain ⟨h1, h2⟩ := mapM_some hm
    refine ⟨by simp [h1], fun i x hx => ?_⟩
    cases i with
    | zero => simp at hx; subst hx; exact ⟨b, by simp, hf⟩
    | succ i => simp at hx; obtain ⟨y, hy, hz⟩ := h2 i x hx; exact ⟨y, by simpa using hy, hz⟩

/-- Cells that are read as data. -/
def Rd (w : World) (es : List Sh) (cs : List Value) (ds : List D) : Prop :=
 okShs es ds ∧ cs.length = es.length ∧ ∀ (i : Nat) d v, ds[i]? = some d → cs[i]? = some v → DRel (fun b => b < w.heap.size) w d v
theorem Rd.one {w : World} {e : Sh} {v : Value} {d : D} (h : okSh e d) (hd : DRel (fun b => b < w.heap.size) w d v) : Rd w [e] [v] [d] :=
 ⟨by simp only [okShs]; exact ⟨d, [], rfl, h, rfl⟩, rfl, fun i d' v' h1 h2 => by
  cases i with
  | zero => simp at h1 h2; subst h1; subst h2; exact hd
  | succ i => simp at h1⟩
theorem Rd.app {w : World} {es es' : List Sh} {cs cs' : List Value} {ds ds' : List D} (h : Rd w es cs ds) (k : Rd w es' cs' ds') : Rd w (es ++ es') (cs ++ cs') (ds ++ ds') := by
 have l1 := okShs_len h.1
 refine ⟨okShs_app h.1 k.1, by simp [h.2.1, k.2.1], fun i d v h1 h2 => ?_⟩
 rw [List.getElem?_append] at h1 h2
 rw [l1] at h1
 rw [h.2.1] at h2
 split at h1
 ·rename_i hi; rw [if_pos hi] at h2; exact h.2.2 i d v h1 h2
 ·rename_i hi; rw [if_neg hi] at h2; exact k.2.2 _ d v h1 h2

theorem cells_get {w : World} {a : Addr} {n : Nat} {cs : List Value} (h : w.cells? 0 a n = some cs) : cs.length = n ∧ ∀ (j : Nat) v, cs[j]? = some v → w.cell? (a.add j) = some v := by
 unfold World.cells? at h
 rw [if_pos (Nat.zero_le _)] at h
 obtain ⟨h1, h2⟩ := mapM_some h
 rw [List.length_range] at h1
 refine ⟨h1, fun j v hv => ?_⟩
 have hj : j < n := by
  have := (List.getElem?_eq_some_iff.1 hv).1; omega
 obtain ⟨y, hy, hz⟩ := h2 j j (by simp [hj])
 rw [hv] at hy; injection hy with hy; subst hy
 exact hz
theorem cell_spot {w : World} {a : Addr} {v : Value} (h : w.cell? a = some v) : a.spot = none ∧ a.block < w.heap.size := by
 unfold World.cell? at h
 split at h
 ·rename_i c _ _ hb
  refine ⟨?_, (Array.getElem?_eq_some_iff.1 hb).1⟩
  cases hs : a.spot with
  | none => rfl
  | some x => rw [hs] at h; simp at h
 ·cases h

section
variable {H : Type} {enc : TypeId × Value → H} {P : Program} {w : World} {sp : Nat → Bool} {held : Bool}
theorem trod_fields {fuel : Nat} (ih : ∀ (n : Nat) (t : TypeId) (es : List Sh) (cs : List Value) (d : DataW H) (ps : List MemPlace), shT P n t = some es → DataW.trod enc P w 0 sp held fuel t cs = some (d, ps) → Rd w es cs (datD d)) :
  ∀ (fs : List Field) (n run : Nat) (es : List Sh) (cs : List Value) (xs : List (DataW H × List MemPlace)), shF P n run fs = some es →
   fs.mapM (fun f => DataW.trod enc P w 0 sp held fuel f.type ((cs.drop f.offset).take (P.cellsOf f.type))) = some xs → run + es.length ≤ cs.length → Rd w es ((cs.drop run).take es.length) (datF (xs.map (·.1)))
 | [], n, run, es, cs, xs, h, hm, hl => by
  have : es = [] := by cases n <;> · simp only [shF] at h; injection h with h; exact h.symm
  subst this
  simp at hm; subst hm
  exact ⟨by simp [datF, okShs], by simp, fun i d v h1 => by simp [datF] at h1⟩
 | f :: fs, 0, run, es, cs, xs, h, hm, hl => by simp [shF] at h
 | f :: fs, n + 1, run, es, cs, xs, h, hm, hl => by
  simp only [shF] at h
  split at h
  ·rename_i ho
   split at h
   ·rename_i es1 h1
    split at h
    ·rename_i hc
     split at h
     ·rename_i l h2
      injection h with h; subst h
      rw [List.mapM_cons] at hm
      cases hf : DataW.trod enc P w 0 sp held fuel f.type ((cs.drop f.offset).take (P.cellsOf f.type)) with
      | none => rw [hf] at hm; cases hm
      | some x =>
       rw [hf] at hm
       cases hr : fs.mapM (fun f => DataW.trod enc P w 0 sp held fuel f.type ((cs.drop f.offset).take (P.cellsOf f.type))) with
       | none => rw [hr] at hm; cases hm
       | some xs' =>
        rw [hr] at hm
        have hm : some (x :: xs') = some xs := hm
        injection hm with hm; subst hm
        simp only [List.length_append] at hl
        have g1 := ih n f.type es1 _ x.1 x.2 h1 hf
        have g2 := trod_fields ih fs n (run + es1.length) l cs xs' h2 hr (by omega)
        rw [ho, hc] at g1
        have e : (cs.drop run).take (es1 ++ l).length = (cs.drop run).take es1.length ++ (cs.drop (run + es1.length)).take l.length := by
         rw [List.length_append, List.take_add, List.drop_drop]
        rw [e]
        exact g1.app g2
     ·cases h
    ·cases h
   ·cases h
  ·cases h

theorem trod_rd : ∀ (fuel n : Nat) (t : TypeId) (es : List Sh) (cs : List Value) (d : DataW H) (ps : List MemPlace), shT P n t = some es → DataW.trod enc P w 0 sp held fuel t cs = some (d, ps) → Rd w es cs (datD d)
 | 0, n, t, es, cs, d, ps, hs, h => by simp [DataW.trod] at h
 | fuel + 1, 0, t, es, cs, d, ps, hs, h => by simp [shT] at hs
 | fuel + 1, n + 1, t, es, cs, d, ps, hs, h => by
  have ih := trod_rd fuel
  cases hu : P.underlying t with
  | none => simp [shT, hu] at hs
  | some td =>
   unfold DataW.trod at h
   simp only [shT, hu] at hs
   rw [hu] at h
   cases td <;> simp only at hs <;> first | (cases hs; done) | skip
   case bool =>
    injection hs with hs; subst hs
    split at h <;> first | (rename_i e; cases e; done) | (rename_i e _; cases e; done) | (rename_i e _ _; cases e; done) | skip
    ·injection h with h; injection h with h1 h2; subst h1
     exact Rd.one ⟨_, rfl⟩ (.v _ rfl)
    ·cases h
   case int k =>
    injection hs with hs; subst hs
    split at h <;> first | (rename_i e; cases e; done) | (rename_i e _; cases e; done) | (rename_i e _ _; cases e; done) | skip
    ·rename_i e
     injection e with e; injection e with e; subst e
     split at h
     ·rename_i hk
      obtain ⟨rfl, hw⟩ := hk
      injection h with h; injection h with h1 h2; subst h1
      exact Rd.one ⟨_, rfl, hw⟩ (.v _ rfl)
     ·cases h
    ·cases h
   case string =>
    injection hs with hs; subst hs
    split at h <;> first | (rename_i e; cases e; done) | (rename_i e _; cases e; done) | (rename_i e _ _; cases e; done) | skip
    ·rename_i s0 e
     split at h
     ·injection h with h; injection h with h1 h2; subst h1
      exact Rd.one ⟨_, rfl⟩ (by simpa [datD] using DRel.v (.string s0) rfl)
     ·cases h
    ·cases h
   case slice e =>
    split at hs
    ·rename_i es1 h1
     split at hs
     ·rename_i hc
      injection hs with hs; subst hs
      split at h <;> first | (rename_i e; cases e; done) | (rename_i e _; cases e; done) | (rename_i e _ _; cases e; done) | skip
      ·injection h with h; injection h with h1 h2; subst h1
       exact Rd.one ⟨[], rfl, by simp⟩ (.nil none 0)
      ·rename_i e' a len cap heq
       injection heq with heq; injection heq with heq; subst heq
       simp only at h
       split at h
       ·rename_i hcap
        cases hm : (List.range len).mapM (fun i => (w.cells? 0 (a.add (i * P.cellsOf e)) (P.cellsOf e)).bind (DataW.trod enc P w 0 sp held fuel e)) with
        | none => rw [hm] at h; cases h
        | some elems =>
         rw [hm] at h
         simp only [Option.bind_some, Option.map_eq_some_iff] at h
         obtain ⟨rest, _, h⟩ := h
         injection h with h2 h3; subst h2
         obtain ⟨hlen, hget⟩ := mapM_some hm
         rw [List.length_range] at hlen
         have hel : ∀ (i : Nat) x, elems[i]? = some x → ∃ cs, w.cells? 0 (a.add (i * es1.length)) es1.length = some cs ∧ Rd w es1 cs (datD x.1) := fun i x hx => by
          have hi : i < len := by have := (List.getElem?_eq_some_iff.1 hx).1; omega
          obtain ⟨y, hy, hz⟩ := hget i i (by simp [hi])
          rw [hx] at hy; injection hy with hy; subst hy
          simp only [Option.bind_eq_some_iff] at hz
          obtain ⟨cs, hcs, hz⟩ := hz
          rw [hc.1] at hcs
          exact ⟨cs, hcs, ih n e es1 cs x.1 x.2 h1 hz⟩
         have hget' : ∀ (i : Nat) y, (datDs (elems.map (·.1)))[i]? = some y → ∃ x, elems[i]? = some x ∧ y = datD x.1 := fun i y hy => by
          rw [datDs_get, List.getElem?_map] at hy
          cases hx : elems[i]? with
          | none => rw [hx] at hy; cases hy
          | some x => rw [hx] at hy; simp at hy; exact ⟨x, rfl, hy.symm⟩
         have hok : ∀ y ∈ datDs (elems.map (·.1)), okShs es1 y := fun y hy => by
          obtain ⟨i, hi⟩ := List.getElem?_of_mem hy
          obtain ⟨x, hx, rfl⟩ := hget' i y hi
          obtain ⟨cs, _, hr⟩ := hel i x hx
          exact hr.1
         refine Rd.one ⟨_, rfl, hok⟩ ?_
         by_cases hl0 : len = 0
         ·have : elems = [] := List.length_eq_zero_iff.1 (by omega)
          subst this; subst hl0
          exact .nil _ _
         ·obtain ⟨x0, hx0⟩ : ∃ x0, elems[0]? = some x0 := ⟨elems[0]'(by omega), by simp⟩
          obtain ⟨cs0, hcs0, hr0⟩ := hel 0 x0 hx0
          obtain ⟨g1, g2⟩ := cells_get hcs0
          obtain ⟨v0, hv0⟩ : ∃ v0, cs0[0]? = some v0 := ⟨cs0[0]'(by omega), by simp⟩
          have hsp := cell_spot (g2 0 v0 hv0)
          have ha0 : (a.add (0 * es1.length)).add 0 = a := by simp [Addr.add]
          rw [ha0] at hsp
          have hadd : ∀ i j, (a.add (i * es1.length)).add j = ⟨a.block, a.off + i * es1.length + j, none⟩ := fun i j => by
           cases a with
           | mk b o sp0 =>
            have : sp0 = none := hsp.1
            subst this
            unfold Addr.add
            split
            ·split
             ·rename_i q1 q2; simp [q1, q2]
             ·rename_i q1 q2; simp [q1]
            ·split
             ·rename_i q1 q2; simp [q2]
             ·rfl
          obtain ⟨b, o, sp0⟩ := a
          have : sp0 = none := hsp.1
          subst this
          have hlen' : (datDs (elems.map (·.1))).length = len := by rw [datDs_len, List.length_map, hlen]
          have hcell : ∀ (i : Nat) (y : List D) (j : Nat) (d : D), (datDs (elems.map (·.1)))[i]? = some y → y[j]? = some d → ∃ v, w.cell? ⟨b, o + i * es1.length + j, none⟩ = some v ∧ DRel (fun b => b < w.heap.size) w d v := fun i y j d hy hd => by
           obtain ⟨x, hx, rfl⟩ := hget' i y hy
           obtain ⟨cs, hcs, hr⟩ := hel i x hx
           obtain ⟨q1, q2⟩ := cells_get hcs
           have hj : j < cs.length := by
            have := (List.getElem?_eq_some_iff.1 hd).1
            rw [okShs_len hr.1] at this; omega
           have hv : cs[j]? = some cs[j] := by simp [hj]
           refine ⟨cs[j], ?_, hr.2.2 j d _ hd hv⟩
           have := q2 j _ hv
           rw [hadd] at this; exact this
          have := DRel.sl (S := fun b => b < w.heap.size) (w := w) (datDs (elems.map (·.1))) b o cap es1.length (fun i j => (w.cell? ⟨b, o + i * es1.length + j, none⟩).getD undef) hsp.2 hsp.2 (by rw [hlen']; exact hcap.2.1)
           (fun i x hx => by
            obtain ⟨x', hx', rfl⟩ := hget' i x hx
            obtain ⟨cs, _, hr⟩ := hel i x' hx'
            exact okShs_len hr.1)
           (fun i x j d hi hj => by obtain ⟨v, hv, _⟩ := hcell i x j d hi hj; rw [hv]; rfl)
           (fun i x j d hi hj => by obtain ⟨v, hv, hr⟩ := hcell i x j d hi hj; rw [hv]; exact hr)
          rw [hlen'] at this
          exact this
       ·cases h
      ·cases h
     ·cases hs
    ·cases hs
   case struct fs =>
    split at hs
    ·rename_i es1 h1
     split at hs
     ·rename_i hc
      injection hs with hs; subst hs
      split at h <;> first | (rename_i e; cases e; done) | (rename_i e _; cases e; done) | (rename_i e _ _; cases e; done) | skip
      ·rename_i fs' heq
       injection heq with heq; injection heq with heq; subst heq
       split at h
       ·rename_i hlen
        simp only [Option.map_eq_some_iff] at h
        obtain ⟨xs, hm, h⟩ := h
        injection h with h2 h3; subst h2
        have := trod_fields ih fs.toList n 0 es1 _ xs h1 hm (by omega)
        rw [List.drop_zero, List.take_of_length_le (by omega)] at this
        exact this
       ·cases h
      ·exact (‹∀ fs_1, some (TypeDesc.struct fs) = some (TypeDesc.struct fs_1) → False› fs rfl).elim
     ·cases hs
    ·cases hs

theorem vals_of_trod : ∀ {ts : List TypeId} {vs : List Value} {ds : List (DataW H)} {ps : List MemPlace}, DataW.TrodAll enc P w 0 sp held ts vs ds ps →
  ∀ (n : Nat) (ess : List (List Sh)), ts.map (shT P n) = ess.map some → vs.length = ts.length ∧ ds.length = ts.length ∧
   ∀ (i : Nat) es v d, ess[i]? = some es → vs[i]? = some v → ds[i]? = some d → Rd w es v.cells.toList (datD d)
 | [], [], [], ps, h, n, ess, he => by
  have : ess = [] := by cases ess <;> simp_all
  subst this
  simp
 | t :: ts, v :: vs, d :: ds, ps, h, n, ess, he => by
  obtain ⟨p, q, ⟨fuel, h1⟩, h2, _⟩ := h
  match ess, he with
  | es :: ess, he =>
   simp only [List.map_cons, List.cons.injEq] at he
   obtain ⟨g1, g2, g3⟩ := vals_of_trod h2 n ess he.2
   refine ⟨by simp [g1], by simp [g2], fun i es' v' d' hi hv hd => ?_⟩
   cases i with
   | zero => simp at hi hv hd; subst hi; subst hv; subst hd; exact trod_rd fuel n t es _ _ _ he.1 h1
   | succ i => simp at hi hv hd; exact g3 i es' v' d' hi hv hd
 | [], _ :: _, _, _, h, _, _, _ => by cases h
 | [], [], _ :: _, _, h, _, _, _ => by cases h
 | _ :: _, [], _, _, h, _, _, _ => by cases h
 | _ :: _, _ :: _, [], _, h, _, _, _ => by cases h

/-- What the cells give as an argument: one cell, or a struct. -/
def argV (agg : Bool) (ds : List D) : V := if agg then .agg (ds.map .d) else match ds with | [d] => .c (.d d) | _ => .any
theorem argV_rel {k : K} (hS : k.S = fun b => b < k.w.heap.size) {es : List Sh} {v : Value} {ds : List D} {agg : Bool} (h : Rd k.w es v.cells.toList ds) (ha : agg = true → ∃ cs, v = .agg cs) (hna : agg = false → v.cells = #[v] ∧ es.length = 1) :
  VRel P k (argV agg ds) v := by
 cases agg with
 | true =>
  obtain ⟨cs, rfl⟩ := ha rfl
  have hl := okShs_len h.1
  have h2 := h.2.1
  refine ⟨cs, rfl, ?_, fun i c v hc hv => ?_⟩
  ·simp [Value.cells] at h2; simp [hl, h2]
  ·rw [List.getElem?_map] at hc
   cases hd : ds[i]? with
   | none => rw [hd] at hc; cases hc
   | some d =>
    rw [hd] at hc; simp at hc; subst hc
    have := h.2.2 i d v hd (by simpa [Value.cells] using hv)
    show DRel k.S k.w d v
    rw [hS]; exact this
 | false =>
  obtain ⟨hc, he⟩ := hna rfl
  have hl := okShs_len h.1
  match ds, hl with
  | [d], _ =>
   have := h.2.2 0 d v rfl (by rw [hc]; rfl)
   show DRel k.S k.w d v
   rw [hS]; exact this
  | [], hl => rw [he] at hl; cases hl
  | _ :: _ :: _, hl => rw [he] at hl; simp at hl

theorem stab_nil0 (w : World) : (ctx (fun _ => none) [] w).S = fun b => b < w.heap.size := by
 funext b
 apply propext
 constructor
 ·intro h; exact h.1
 ·intro h; exact ⟨h, fun r o hr => by simp at hr⟩
theorem hrel_nil (w : World) : HRel P (fun _ => none) [] w := ⟨fun r o hr => by simp at hr, fun r r' o o' b hr => by simp at hr, fun r b hr => by cases hr⟩

/-- What a law's contract gives for its row. -/
theorem post_of_acalls {G0 : Gl} (hl : laidOutB P = true) {f : Nat} {fn : Func} {s : ChangeSpec} {W : World} (hG0 : GRel G0 (stab (fun _ => none) [] W) W) {args : Array Value} {ds gs : List (DataW H)} {before : List MemPlace} {us : List V} {R : T → List O → Prop} {apart handsOn : Bool} {tb : TypeId}
  (hres : fn.resultTypes = #[tb]) (hb : P.underlying tb = some .bool) (hvars : s.vars = []) (hspec : s.fn H (ds ++ gs) = { results := [.lit (.bool true)], args := ds })
  (hparams : ∀ t ∈ fn.params.toList, P.readableRec t = true ∧ t < P.types.size)
  (hW : DataW.Whole enc P fn.params.toList s.vars apart W args.toList ds gs before)
  (hv : VsRel P (ctx (fun _ => none) [] W) us args) (h : ACalls P G0 f us [] R) (hR : ∀ t H, R t H → t = .bool true) :
  Calls P f args W fun e W' => ∃ v, e = .returned v ∧ s.post enc P fn apart true handsOn false W args v W' := by
 refine (h.2 (fun _ => none) W args (hrel_nil W) hG0 hv).mono ?_
 rintro e W' ⟨v, t, ρ', H', rfl, hRt, hH, ht, le⟩
 have := hR t H' hRt
 subst this
 have hvt : v = .bool true := drel_v ht
 subst hvt
 have hstep := le.step
 rw [stab_nil0] at hstep
 have hkeep : ∀ b, b < W.heap.size → W'.heap[b]? = W.heap[b]? := hstep.keep
 obtain ⟨p, q, hA, hV, hpq, hz, hn⟩ := id hW
 have hlt : ∀ x ∈ before, x.block < W.heap.size := fun x hx => by simpa using hW.lt x hx
 have hq : q = [] := by rw [hvars] at hV; cases gs <;> simp [DataW.TrodVars] at hV; exact hV
 subst hq
 rw [List.append_nil] at hpq
 have hbelow : Go.RowKit.Below W.heap.size W W' := ⟨hstep.os, hstep.tape, hstep.output, hstep.size, hkeep⟩
 have hargs : ∀ (ts : List TypeId) (vs : List Value) (ds : List (DataW H)) (ps : List MemPlace), (∀ t ∈ ts, P.readableRec t = true ∧ t < P.types.size) → (∀ x ∈ ps, x.block < W.heap.size) → DataW.TrodAll enc P W 0 (fun _ => true) true ts vs ds ps →
   DataW.TrodAll enc P W' 0 (fun b => decide (b < W.heap.size)) true ts vs ds ps := by
  intro ts
  induction ts with
  | nil => intro vs ds ps _ _ h; cases vs <;> cases ds <;> exact h
  | cons t ts ih =>
   intro vs ds ps hp hlt h
   cases vs with
   | nil => cases h
   | cons v vs =>
    cases ds with
    | nil => cases h
    | cons d ds =>
     obtain ⟨p, q, h1, h2, rfl⟩ := h
     have ht := hp t List.mem_cons_self
     exact ⟨p, q, Go.RowKit.Below.trod hl ht.1 ht.2 h1 hbelow (fun x hx => hlt x (List.mem_append_left _ hx)), ih vs ds q (fun t ht => hp t (List.mem_cons_of_mem _ ht)) (fun x hx => hlt x (List.mem_append_right _ hx)) h2, rfl⟩
 refine ⟨_, rfl, ds, gs, before, [], before, [], hW, ?_, ?_, ?_, ?_, fun h => by cases h⟩
 ·rw [hspec, hres]
  exact ⟨[], [], Go.RowKit.shut_bool hb true, rfl, rfl⟩
 ·rw [hspec]; exact hargs _ _ _ _ hparams hlt (hpq ▸ hA)
 ·rw [hspec, hvars]; simp [DataW.TrodVars]
 ·refine ⟨hstep.os, hstep.output, fun i hi => ?_⟩
  rw [hkeep i hi]
  cases W.heap[i]? with
  | none => simp
  | some o => cases o <;> simp
end
end Go.Aw

namespace Go.Aw
open Go
section
variable {P : Program} {w : World}
def aggT (P : Program) (t : TypeId) : Bool := match P.underlying t with
 | some (.struct _) => true
 | some (.array _ _) => true
 | _ => false
theorem okWide_one {r : Reach} {base : Nat} {t : TypeId} {v : Value} (ha : aggT P t = false) (h : Value.okWide P w r base t v) : v.cells = #[v] := by
 unfold aggT at ha
 unfold Value.okWide at h
 cases hu : P.underlying t with
 | none =>
  rw [hu] at h
  cases v <;> first | rfl | (simp [Cell.okWide, Cell.ok, hu] at h)
 | some td =>
  rw [hu] at h ha
  cases td <;> first | (cases ha; done) | (cases v <;> first | rfl | (simp [Cell.okWide, Cell.ok, hu] at h))
theorem okWide_agg {r : Reach} {base : Nat} {t : TypeId} {v : Value} (ha : aggT P t = true) (h : Value.okWide P w r base t v) : ∃ cs, v = .agg cs := by
 unfold aggT at ha
 unfold Value.okWide at h
 cases hu : P.underlying t with
 | none => rw [hu] at ha; cases ha
 | some td =>
  rw [hu] at h ha
  cases td <;> first | (cases ha; done) | (obtain ⟨cs, e, _⟩ := h; exact ⟨cs, e⟩)
theorem shT_one {n : Nat} {t : TypeId} {es : List Sh} (ha : aggT P t = false) (h : shT P n t = some es) : es.length = 1 := by
 cases n with
 | zero => simp [shT] at h
 | succ n =>
  unfold aggT at ha
  cases hu : P.underlying t with
  | none => simp [shT, hu] at h
  | some td =>
   rw [hu] at ha
   simp only [shT, hu] at h
   cases td <;> simp only at h <;> first | (cases h; done) | (cases ha; done) | (injection h with h; subst h; rfl) | skip
   split at h
   ·split at h
    ·injection h with h; subst h; rfl
    ·cases h
   ·cases h

variable {H : Type} {enc : TypeId × Value → H}
theorem law_calls {G0 : Gl} (hl : laidOutB P = true) {f : Nat} {fn : Func} {s : ChangeSpec} {W : World} (hG0 : GRel G0 (stab (fun _ => none) [] W) W) {base : Nat} {args : Array Value} {ds gs : List (DataW H)} {before : List MemPlace} {apart handsOn : Bool} {tb : TypeId}
  {n : Nat} {ess : List (List Sh)} {aggs : List Bool} (hts : fn.params.toList.map (shT P n) = ess.map some) (hag : fn.params.toList.map (aggT P) = aggs)
  (hres : fn.resultTypes = #[tb]) (hb : P.underlying tb = some .bool) (hvars : s.vars = []) (hspec : ∀ ds : List (DataW H), ds.length = fn.params.toList.length → s.fn H ds = { results := [.lit (.bool true)], args := ds })
  (hparams : fn.params.toList.all (fun t => P.readableRec t && decide (t < P.types.size)) = true)
  (hval : ∀ (j : Nat) t v, fn.params[j]? = some t → args[j]? = some v → Value.okWide P W .any base t v)
  (hW : DataW.Whole enc P fn.params.toList s.vars apart W args.toList ds gs before)
  (h : (ds.map datD).length = ess.length → (∀ (i : Nat) es u, ess[i]? = some es → (ds.map datD)[i]? = some u → okShs es u) → gs = [] → ACalls P G0 f (List.zipWith argV aggs (ds.map datD)) [] fun t _ => t = .bool true) :
  Calls P f args W fun e W' => ∃ v, e = .returned v ∧ s.post enc P fn apart true handsOn false W args v W' := by
 obtain ⟨p, q, hA, hV, hpq, hz, hn⟩ := id hW
 have hgs : gs = [] := by rw [hvars] at hV; cases gs <;> simp [DataW.TrodVars] at hV; rfl
 subst hgs
 obtain ⟨l1, l2, hr⟩ := vals_of_trod hA n ess hts
 have hel : ess.length = fn.params.toList.length := by have := congrArg List.length hts; simpa using this.symm
 have hal : aggs.length = fn.params.toList.length := by rw [← hag]; simp
 have hok := h (by simp [l2, hel]) (fun i es u he hu => by
  rw [List.getElem?_map] at hu
  cases hd : ds[i]? with
  | none => rw [hd] at hu; cases hu
  | some d =>
   rw [hd] at hu; simp at hu; subst hu
   have hi : i < args.toList.length := by rw [l1, ← l2]; exact (List.getElem?_eq_some_iff.1 hd).1
   exact (hr i es _ d he (List.getElem?_eq_getElem hi) hd).1) rfl
 refine post_of_acalls hl hG0 (ds := ds) (gs := []) hres hb hvars (by rw [List.append_nil]; exact hspec ds l2) (fun t ht => ?_) hW ?_ hok (fun t H h => h)
 ·have := List.all_eq_true.1 hparams t ht
  simp at this; exact this
 ·refine ⟨by simp [hal, l2]; simpa using l1, fun i c v hc hv => ?_⟩
  rw [List.getElem?_zipWith] at hc
  have hv' : args.toList[i]? = some v := by simpa using hv
  have hi : i < fn.params.toList.length := by rw [← l1]; exact (List.getElem?_eq_some_iff.1 hv').1
  have hp : fn.params.toList[i]? = some fn.params.toList[i] := List.getElem?_eq_getElem hi
  obtain ⟨t, ht⟩ : ∃ t, fn.params.toList[i]? = some t := ⟨_, hp⟩
  have hga : aggs[i]? = some (aggT P t) := by rw [← hag, List.getElem?_map, ht]; rfl
  have hsh : ∃ es, ess[i]? = some es ∧ shT P n t = some es := by
   have h1 : (fn.params.toList.map (shT P n))[i]? = some (shT P n t) := by rw [List.getElem?_map, ht]; rfl
   rw [hts, List.getElem?_map] at h1
   cases he : ess[i]? with
   | none => rw [he] at h1; cases h1
   | some es => rw [he] at h1; simp at h1; exact ⟨es, rfl, h1.symm⟩
  obtain ⟨es, he, hse⟩ := hsh
  have hdi : i < ds.length := by rw [l2]; exact hi
  have hd : ds[i]? = some ds[i] := List.getElem?_eq_getElem hdi
  have hdm : (ds.map datD)[i]? = some (datD ds[i]) := by rw [List.getElem?_map, hd]; rfl
  rw [hga, hdm] at hc
  simp at hc
  subst hc
  have hrd := hr i es v ds[i] he hv' hd
  have hok' := hval i t v (by simpa using ht) hv
  exact argV_rel (k := ctx (fun _ => none) [] W) (stab_nil0 W) hrd (fun ha => okWide_agg ha hok') (fun ha => ⟨okWide_one ha hok', shT_one ha hse⟩)

/-! ### weights -/
mutual
def wD : D → Nat
 | .v (.string s) => s.size + 1
 | .sl xs => wDss xs + 1
 | _ => 1
def wDs : List D → Nat
 | [] => 0
 | d :: r => wD d + wDs r
def wDss : List (List D) → Nat
 | [] => 0
 | x :: r => wDs x + wDss r
end
theorem wDs_app : ∀ (a b : List D), wDs (a ++ b) = wDs a + wDs b
 | [], b => by simp [wDs]
 | d :: a, b => by simp only [List.cons_append, wDs, wDs_app a b]; omega
end
end Go.Aw

namespace Go.Aw.Try
open Go Go.Proofs Go.Proofs.YthgnlejjbhijfaaGreatDoor Go.Aw
set_option maxRecDepth 100000
/-! ### what came in, as data of this program -/
abbrev idSh : List Sh := [.s, .i .i64]
abbrev editSh : List Sh := [.s, .i .i64, .i .i64, .i .i64, .sl idSh, .i .i64, .s, .i .i64, .s, .i .i64, .b, .s, .s, .s, .s, .s, .i .i64, .s]
theorem dec_id {l : List D} (h : okShs idSh l) : ∃ x : Id, l = x.row := by
 simp only [idSh, okShs, okSh] at h
 obtain ⟨_, _, rfl, ⟨a, rfl⟩, _, _, rfl, ⟨n, rfl, _⟩, rfl⟩ := h
 exact ⟨⟨a, n⟩, rfl⟩
theorem dec_list {α : Type} {row : α → List D} {sh : List Sh} (hd : ∀ l, okShs sh l → ∃ x, l = row x) : ∀ {xs : List (List D)}, (∀ x ∈ xs, okShs sh x) → ∃ l : List α, xs = l.map row
 | [], _ => ⟨[], rfl⟩
 | x :: xs, h => by
  obtain ⟨a, rfl⟩ := hd x (h x List.mem_cons_self)
  obtain ⟨l, rfl⟩ := dec_list hd (fun y hy => h y (List.mem_cons_of_mem _ hy))
  exact ⟨a :: l, rfl⟩
theorem dec_edit {l : List D} (h : okShs editSh l) : ∃ e : Edit, l = e.row := by
 simp only [editSh, okShs, okSh] at h
 obtain ⟨_, _, rfl, ⟨a1, rfl⟩, _, _, rfl, ⟨a2, rfl, _⟩, _, _, rfl, ⟨a3, rfl, _⟩, _, _, rfl, ⟨a4, rfl, _⟩, _, _, rfl, ⟨a5, rfl, h5⟩, _, _, rfl, ⟨a6, rfl, _⟩, _, _, rfl, ⟨a7, rfl⟩, _, _, rfl, ⟨a8, rfl, _⟩, _, _, rfl, ⟨a9, rfl⟩, _, _, rfl, ⟨a10, rfl, _⟩,
  _, _, rfl, ⟨a11, rfl⟩, _, _, rfl, ⟨a12, rfl⟩, _, _, rfl, ⟨a13, rfl⟩, _, _, rfl, ⟨a14, rfl⟩, _, _, rfl, ⟨a15, rfl⟩, _, _, rfl, ⟨a16, rfl⟩, _, _, rfl, ⟨a17, rfl, _⟩, _, _, rfl, ⟨a18, rfl⟩, rfl⟩ := h
 obtain ⟨ds, rfl⟩ := dec_list (row := Id.row) (fun l h => dec_id h) h5
 exact ⟨⟨⟨a1, a2⟩, a3, a4, ds, a6, ⟨a7, a8⟩, ⟨a9, a10⟩, a11, a12, a13, a14, a15, ⟨a16, a17⟩, a18⟩, rfl⟩
theorem dec_edits {l : List D} (h : okShs [.sl editSh] l) : ∃ es : List Edit, l = [.sl (es.map Edit.row)] := by
 simp only [okShs, okSh] at h
 obtain ⟨_, _, rfl, ⟨xs, rfl, h⟩, rfl⟩ := h
 obtain ⟨es, rfl⟩ := dec_list (row := Edit.row) (fun l h => dec_edit h) h
 exact ⟨es, rfl⟩
theorem wrows {α : Type} {row : α → List D} (h : ∀ x, row x ≠ []) : ∀ l : List α, l.length ≤ wDss (l.map row)
 | [] => by simp
 | x :: l => by
  have := wrows h l
  have h1 : 1 ≤ wDs (row x) := by
   cases hx : row x with
   | nil => exact absurd hx (h x)
   | cons d r =>
    have : 1 ≤ wD d := by unfold wD; split <;> omega
    simp only [wDs]; omega
  simp only [List.map_cons, wDss, List.length_cons]; omega
section
variable {H : Type}
mutual
theorem bulk_D : ∀ d : DataW H, wDs (datD d) ≤ Rows.uptoBulk d
 | .lit l => by cases l <;> simp [datD, wDs, wD, Rows.uptoBulk, ByteArray.size]
 | .nil => by simp [datD, wDs, wD, wDss, Rows.uptoBulk]
 | .ptr d => by simp [datD, wDs]
 | .slice es sp => by
  have := bulk_Ds es
  simp only [datD, wDs, wD, Rows.uptoBulk]; omega
 | .agg ps => by
  have := bulk_F ps
  simp only [datD, Rows.uptoBulk]; omega
 | .iface t d => by simp [datD, wDs]
 | .map es => by simp [datD, wDs]
 | .held h => by simp [datD, wDs]
theorem bulk_Ds : ∀ l : List (DataW H), wDss (datDs l) ≤ Rows.uptoBulkAll l
 | [] => by simp [datDs, wDss]
 | d :: r => by
  have h1 := bulk_D d
  have h2 := bulk_Ds r
  simp only [datDs, wDss, Rows.uptoBulkAll]; omega
theorem bulk_F : ∀ l : List (DataW H), wDs (datF l) ≤ Rows.uptoBulkAll l
 | [] => by simp [datF, wDs]
 | d :: r => by
  have h1 := bulk_D d
  have h2 := bulk_F r
  simp only [datF, Rows.uptoBulkAll]; rw [wDs_app]; omega
end
/-- The bound, argument by argument. -/
theorem bulk_args {ds : List (DataW H)} (hk : Rows.uptoSmall H ds = true) : ∀ (i : Nat) u, (ds.map datD)[i]? = some u → wDs u ≤ 1048576 := by
 have h : Rows.uptoBulkAll ds ≤ 1048576 := of_decide_eq_true hk
 intro i u hu
 have key : ∀ (ds : List (DataW H)) (i : Nat) u, (ds.map datD)[i]? = some u → wDs u ≤ Rows.uptoBulkAll ds := by
  intro ds
  induction ds with
  | nil => intro i u hu; simp at hu
  | cons d r ih =>
   intro i u hu
   cases i with
   | zero => simp at hu; subst hu; have := bulk_D d; simp only [Rows.uptoBulkAll]; omega
   | succ i => simp at hu; have := ih i u (by simpa using hu); simp only [Rows.uptoBulkAll]; omega
 exact Nat.le_trans (key ds i u hu) h
end
theorem own : ownKnob Tryz.prog.godebug = none := by kernel_rfl
theorem laid : laidOutB Tryz.prog = true := by kernel_rfl
abbrev memSh : List Sh := [.s, .s]
theorem dec_mem {l : List D} (h : okShs memSh l) : ∃ x : Member, l = x.row := by
 simp only [memSh, okShs, okSh] at h
 obtain ⟨_, _, rfl, ⟨a, rfl⟩, _, _, rfl, ⟨n, rfl⟩, rfl⟩ := h
 exact ⟨⟨a, n⟩, rfl⟩
theorem dec_members {l : List D} (h : okShs [.sl memSh] l) : ∃ es : List Member, l = [.sl (es.map Member.row)] := by
 simp only [okShs, okSh] at h
 obtain ⟨_, _, rfl, ⟨xs, rfl, h⟩, rfl⟩ := h
 obtain ⟨es, rfl⟩ := dec_list (row := Member.row) (fun l h => dec_mem h) h
 exact ⟨es, rfl⟩
theorem wmem {α : Type} {row : α → List D} : ∀ {l : List α} {x : α}, x ∈ l → wDs (row x) ≤ wDss (l.map row)
 | [], x, h => by cases h
 | y :: l, x, h => by
  simp only [List.map_cons, wDss]
  rcases List.mem_cons.1 h with rfl | h
  ·omega
  ·have := wmem (row := row) h; omega
/-- What the bound says of edits. -/
theorem b_edits {l : List Edit} (h : wDs [.sl (l.map Edit.row)] ≤ 1048576) : l.length ≤ 1048576 ∧ ∀ e ∈ l, szE e := by
 simp only [wDs, wD] at h
 have h1 := wrows (row := Edit.row) (fun x => by simp [Edit.row]) l
 refine ⟨by omega, fun e he => ?_⟩
 have h2 := wmem (row := Edit.row) he
 have h3 : wDss (e.deps.map Id.row) ≤ wDs e.row := by simp only [Edit.row, wDs, wD]; omega
 have h4 := wrows (row := Id.row) (fun x => by simp [Id.row]) e.deps
 refine ⟨by omega, fun x hx => ?_⟩
 have h5 := wmem (row := Id.row) hx
 have h6 : x.a.size ≤ wDs (Id.row x) := by simp only [Id.row, wDs, wD]; omega
 omega
theorem b_members {l : List Member} (h : wDs [.sl (l.map Member.row)] ≤ 1048576) : l.length ≤ 1048576 ∧ ∀ m ∈ l, m.name.size < 4611686018427387904 := by
 simp only [wDs, wD] at h
 have h1 := wrows (row := Member.row) (fun x => by simp [Member.row]) l
 refine ⟨by omega, fun e he => ?_⟩
 have h2 := wmem (row := Member.row) he
 have h6 : e.name.size ≤ wDs (Member.row e) := by simp only [Member.row, wDs, wD]; omega
 omega
/-- internal/bytealg.MaxLen holds an int: of the world's shape. -/
theorem maxlen {W : World} (h : W.ShapedOpen Tryz.prog) : ∃ m, GRel (GM m) (stab (fun _ => none) [] W) W := by
 obtain ⟨m, hm⟩ := cell_of_shapedOpen_int (P := Tryz.prog) (g := 0) (t := 3) (zero := #[.int .i64 0]) h (of_decide_eq_true (by kernel_rfl)) (by kernel_rfl) rfl (by kernel_rfl) (by kernel_rfl) Tryz.underlying3
 refine ⟨m, fun g cs hg => ?_⟩
 unfold GM at hg
 split at hg
 ·rename_i h0
  subst h0
  injection hg with hg; subst hg
  have hlt : 0 < W.heap.size := World.block_lt_of_cell? _ _ hm
  refine ⟨⟨hlt, fun r o hr => by simp at hr⟩, hlt, fun j d hj => ?_⟩
  cases j with
  | zero => injection hj with hj; subst hj; exact ⟨_, hm, DRel.v _ rfl⟩
  | succ j => simp at hj
 ·cases hg
/-! ### the witness's world -/
def litV : DataW Unit → Value
 | .lit (.int k n) => .int k n
 | _ => undef
def aggV : DataW Unit → List Value
 | .agg xs => xs.flatMap fun d => match d with
  | .agg ys => ys.map litV
  | d => [litV d]
 | _ => []
def layO (cs : Array Value) : Obj → Obj
 | .cells _ t fz => .cells cs t fz
 | o => o
noncomputable def laidWorld (os : Os) : World :=
  { World.holding Tryz.prog os ⟨#[], #[], []⟩ with heap := ((World.holding Tryz.prog os ⟨#[], #[], []⟩).heap.modify 1 (layO (aggV Go.Pinned.utf8First).toArray)).modify 2 (layO (aggV (Rows.laid_unicode_utf8_acceptRanges (H := Unit))).toArray) }
end Go.Aw.Try

namespace Go.Aw
open Go
section
variable {P : Program} {G : Gl}
def flatR (rows : List (List D)) : Prop := ∀ x ∈ rows, ∀ d ∈ x, ∃ v, d = .v v
theorem lend_own {f : Nat} {vs : List V} {ps : List PV} {H : List O} {sz : Nat} {rows : List (List D)} (hp : toBVs H vs = some ps) (hf : flatR rows)
  (h : ACalls P G f (ps.map PV.toV) [] (Own [] sz rows)) : ACalls P G f vs H (Own H sz rows) := by
 refine ⟨h.1, fun ρ w args hH hG hv => ?_⟩
 obtain ⟨g1, g2⟩ := mapO_get hp
 have h0 : HRel P (fun _ => none) [] w := ⟨fun r o hr => by simp at hr, fun r r' o o' b hr => by simp at hr, fun r b hb => by cases hb⟩
 have hG0 : GRel G (stab (fun _ => none) [] w) w := by rw [stab_nil]; exact hG.mono (step_all H)
 have hv0 : VsRel P (ctx (fun _ => none) [] w) (ps.map PV.toV) args := by
  refine ⟨by rw [List.length_map, g1]; exact hv.1, fun i c v hi hvi => ?_⟩
  rw [List.getElem?_map] at hi
  cases hq : ps[i]? with
  | none => rw [hq] at hi; cases hi
  | some p =>
   rw [hq] at hi
   simp at hi
   subst hi
   have hil : i < vs.length := by rw [← g1]; exact lt_of_get hq
   have hx : vs[i]? = some vs[i] := by simp [hil]
   have := toBV_rel hH (g2 i _ p hx hq) (hv.2 i _ v hx hvi)
   refine prel_vrel (k := ctx (fun _ => none) [] w) ?_
   show PRel (stab (fun _ => none) [] w) w p v
   rw [stab_nil]; exact this
 refine (h.2 _ w args h0 hG0 hv0).mono fun e w' ⟨v, t', ρ', H', e1, ⟨et, eh⟩, e3, e4, e5⟩ => ?_
 subst et
 have eh : H' = [.row sz rows] := eh
 subst eh
 have e6 : (ctx (fun _ => none) [] w).S = allB w := stab_nil w
 have hstep : Step (allB w) w (allB w') w' := by
  have := e5.step
  rw [e6] at this
  exact this.more fun b hb => hb.1
 have hnew : ∀ b, b < w.heap.size → ρ' 0 ≠ some b := fun b hb hq => by
  have h1 := e5.step.sub b (by rw [e6]; exact hb)
  exact h1.2 0 (.row sz rows) rfl rfl hq
 have hnone : ρ H.length = none := by
  cases hq : ρ H.length with
  | none => rfl
  | some b => have := (hH.small _ _ hq).1; omega
 obtain ⟨ρ2, hρ2⟩ : ∃ ρ2 : Nat → Option Nat, ρ2 = fun r => if r = H.length then ρ' 0 else ρ r := ⟨_, rfl⟩
 have r1 : ρ2 H.length = ρ' 0 := by rw [hρ2]; simp
 have r2 : ∀ r, r ≠ H.length → ρ2 r = ρ r := fun r hr => by rw [hρ2]; simp [hr]
 have hget : ∀ r o, (H ++ [O.row sz rows])[r]? = some o → (r < H.length ∧ H[r]? = some o) ∨ (r = H.length ∧ o = .row sz rows) := fun r o hr => by
  rw [List.getElem?_append] at hr
  split at hr
  ·rename_i hl; exact .inl ⟨hl, hr⟩
  ·rename_i hl
   have : r - H.length = 0 := by
    have := (List.getElem?_eq_some_iff.1 hr).1; simp at this; omega
   rw [this] at hr
   injection hr with hr
   exact .inr ⟨by omega, hr.symm⟩
 have le : (ctx ρ H w).le (ctx ρ2 (H ++ [.row sz rows]) w') := by
  refine ⟨fun r b hr => ?_, by simp [ctx], ⟨fun b hb => ⟨Nat.lt_of_lt_of_le hb.1 hstep.size, fun r o hr hl => ?_⟩, fun b hb => hstep.keep b hb.1, hstep.size, hstep.shape, hstep.os, hstep.tape, hstep.output⟩⟩
  ·have hr : ρ r = some b := hr
   show ρ2 r = some b
   rw [r2 r (fun e => by rw [e, hnone] at hr; cases hr)]; exact hr
  ·rcases hget r o hr with ⟨h1, h2⟩ | ⟨h1, h2⟩
   ·rw [r2 r (by omega)]; exact hb.2 r o h2 hl
   ·rw [h1, r1]; exact hnew b hb.1
 have ho := e3.objs 0 (.row sz rows) rfl
 have hsub : ∀ b, stab ρ' [.row sz rows] w' b → (ctx ρ2 (H ++ [.row sz rows]) w').S b ∨ True := fun _ _ => .inr trivial
 have hobj : ORel P (ctx ρ2 (H ++ [.row sz rows]) w') (ρ2 H.length) (.row sz rows) := by
  rw [r1]
  refine ⟨ho.1, ?_⟩
  rcases ho.2 with q | ⟨a, c, e, q1, q2, q3⟩
  ·exact .inl q
  ·refine .inr ⟨a, c, e, q1, q2, q3.1, q3.2.1, fun i x j d hi hj => ?_⟩
   obtain ⟨u, hu, hd⟩ := q3.2.2 i x j d hi hj
   obtain ⟨z, rfl⟩ := hf x (List.mem_of_getElem? hi) d (List.mem_of_getElem? hj)
   have hz := drel_v hd
   subst hz
   exact ⟨_, hu, DRel.v _ (drel_one hd)⟩
 have hR : HRel P ρ2 (H ++ [.row sz rows]) w' := by
  refine hH.change le (fun r o hr => ?_) (fun ra rb o1 o2 b q1 q2 l1 l2 s1 s2 => ?_) (fun r b hr => ?_)
  ·rcases hget r o hr with ⟨h1, h2⟩ | ⟨h1, h2⟩
   ·exact .inr ⟨h2, r2 r (by omega), fun _ a ha => hstep.keep a (hH.small r a ha).2⟩
   ·subst h1; subst h2; exact .inl hobj
  ·have small : ∀ r b, r < H.length → ρ2 r = some b → b < w.heap.size := fun r b hr hq => by
    rw [r2 r (by omega)] at hq; exact (hH.small r b hq).2
   rcases hget ra o1 q1 with ⟨h1, h2⟩ | ⟨h1, h2⟩
   ·rcases hget rb o2 q2 with ⟨h3, h4⟩ | ⟨h3, h4⟩
    ·rw [r2 ra (by omega)] at s1; rw [r2 rb (by omega)] at s2
     exact hH.inj ra rb o1 o2 b h2 h4 l1 l2 s1 s2
    ·have := small ra b h1 s1
     rw [h3, r1] at s2
     exact absurd s2 (hnew b this)
   ·rcases hget rb o2 q2 with ⟨h3, h4⟩ | ⟨h3, h4⟩
    ·have := small rb b h3 s2
     rw [h1, r1] at s1
     exact absurd s1 (hnew b this)
    ·omega
  ·by_cases e : r = H.length
   ·rw [e, r1] at hr
    exact ⟨by rw [e]; simp, (e3.small 0 b hr).2⟩
   ·rw [r2 r e] at hr
    have := hH.small r b hr
    exact ⟨by simp; omega, Nat.lt_of_lt_of_le this.2 hstep.size⟩
 refine ⟨v, .v (.c (.os H.length sz 0 rows.length)), ρ2, _, e1, ⟨rfl, rfl⟩, hR, ?_, le⟩
 have e4 : CRel P (ctx ρ' [.row sz rows] w') (.os 0 sz 0 rows.length) v := e4
 show CRel P (ctx ρ2 (H ++ [.row sz rows]) w') (.os H.length sz 0 rows.length) v
 refine ⟨by simp [ctx], ?_⟩
 rcases e4.2 with q | ⟨b, cap, e, n, q1, q2⟩
 ·exact .inl q
 ·exact .inr ⟨b, cap, e, n, by show ρ2 H.length = some b; rw [r1]; exact q1, q2⟩
end
end Go.Aw

namespace Go.Aw.Try
open Go Go.Proofs Go.Aw
set_option maxRecDepth 100000
set_option maxHeartbeats 4000000
/-! ### the chapter's example -/
def mkM (s : ByteArray) : Member := ⟨s, ⟨#[]⟩⟩
theorem k529 (ss : List ByteArray) (hl : ss.length < 4294967296) (H : List O) :
  ACalls Tryz.prog G0 29 [.c (.d (.sl (ss.map srow)))] H (Own H 2 ((ss.map mkM).map Member.row)) := by
 refine acallsX (X := []) trivial tab hmix Tryz.func29 c529 (by rfl) fun hw => ?_
 simp (implicitDefEqProofs := false) (disch := omega) [gz, ir529, b529, wrap64]
 refine loopE (fun k st => ∃ i, i ≤ ss.length ∧ k = ss.length - i ∧
   st = ⟨ofL [(3, .v (.c (.os H.length 2 0 i))), (6, .v (.c (.d (.sl (ss.map srow))))), (7, .int .i64 ss.length), (8, .int .i64 i)], H ++ [.row 2 (((ss.take i).map mkM).map Member.row)]⟩)
  (fun st => AtS [(3, .v (.c (.os H.length 2 0 ss.length)))] (H ++ [.row 2 ((ss.map mkM).map Member.row)]) st) ?_ ?_ ?_
 ·refine wk_nil_os 3 2 (by omega) (by simp) ?_
  refine wk_keep [3, 6, 7, 8] ⟨_, 0, by omega, rfl, ?_⟩
  simp
 ·rintro J L hJ hL k st ⟨i, hi, rfl, rfl⟩
  by_cases hlt : i < ss.length
  ·obtain ⟨x, hx⟩ : ∃ x, nth ss i = x := ⟨_, rfl⟩
   have hst : (ss.take (i + 1)).map mkM = (ss.take i).map mkM ++ [mkM x] := by rw [take_nth hlt, hx, List.map_append]; rfl
   obtain ⟨T, hT⟩ : ∃ T, T = (ss.take i).map mkM := ⟨_, rfl⟩
   have hTl : T.length = i := by rw [hT, List.length_map, List.length_take]; omega
   rw [← hT] at hst ⊢
   have tS : (T.map Member.row).take i = T.map Member.row := List.take_of_length_le (by simp [hTl])
   simp (implicitDefEqProofs := false) (disch := omega) [gz, hlt, wrap64, nth_map, hx, srow, splice, fillC, tS, hTl, toPVs, frzVs, osVs, toPV, toDs, Nat.add_assoc]
   repeat' (with_reducible apply And.intro)
   all_goals first | omega | kernel_rfl | exact fun _ _ => rfl | skip
   subst hJ
   refine wk_pre [2] [3, 6, 7, 8] hw rfl ⟨ss.length - (i + 1), by omega, i + 1, by omega, rfl, ?_⟩
   rw [hst]; simp [phiP, phi, O.ren, Member.row, mkM, show ¬ (H.length + 2 < H.length) from by omega]
  ·have : i = ss.length := by omega
   subst this
   rw [List.take_length]
   simp (implicitDefEqProofs := false) (disch := omega) [gz, hlt]
   subst hL
   exact at_mk (by simp) (by simp)
 ·rintro _ ⟨sl, rfl⟩
  simp (implicitDefEqProofs := false) (disch := omega) [gz, wrap64]
  exact fin_own (k := 0) hw (by simp) (by simp)
noncomputable def x529 : XE := mkX false (fun (ss : List ByteArray) => [.c (.sl (ss.map srow))]) (fun ss => ss.length < 4294967296) (fun ss => .v (.c (.d (.sl ((ss.map mkM).map Member.row)))))
theorem kx529 : Contract Tryz.prog G0 29 x529 := mkX_data fun p h H => own_data (k529 p h H)
theorem xg529 (ss : List ByteArray) (h : ss.length < 4294967296) : x529.g [.c (.sl (ss.map srow))] = some (True, .v (.c (.d (.sl ((ss.map mkM).map Member.row))))) := mkX_g (fun a b h => by simp only [List.cons.injEq, PVo.c.injEq, D.sl.injEq] at h; exact srow_inj h.1) ss h
def sCid : ByteArray := ⟨#[99, 105, 100]⟩
def sAnn : ByteArray := ⟨#[97, 110, 110]⟩
def sBob : ByteArray := ⟨#[98, 111, 98]⟩
theorem k530 (n : Int) (H : List O) : ACalls Tryz.prog G0 30 [I n] H fun t H' => t = .v (.agg ((Id.row ⟨sCid, n⟩).map .d)) ∧ H' = H := by
 refine acallsX (X := []) trivial tab hmix Tryz.func30 c530 (by rfl) fun hw => ?_
 simp (implicitDefEqProofs := false) (disch := omega) [gz, ir530, b530, fillC, splice]
 exact fin_pre_pv (p := .agg (Id.row ⟨sCid, n⟩)) (L' := [_]) hw (by simp [toPV, toDs, Id.row, sCid]) (by simp [frz, frz1]; rfl) ⟨rfl, rfl⟩
noncomputable def x530 : XE := mkX false (fun (n : Int) => [.c (.v (.int .i64 n))]) (fun _ => True) (fun n => .v (.agg ((Id.row ⟨sCid, n⟩).map .d)))
theorem kx530 : Contract Tryz.prog G0 30 x530 := mkX_data fun p _ H => k530 p H
theorem xg530 (n : Int) : x530.g [.c (.v (.int .i64 n))] = some (True, .v (.agg ((Id.row ⟨sCid, n⟩).map .d))) := mkX_g (fun a b h => by simp at h; exact h) n trivial
def voteE (a : ByteArray) (n c : Int) (who : ByteArray) (deps : List Id) : Edit := ⟨⟨a, n⟩, c, 0, deps, 5, ⟨⟨#[]⟩, 0⟩, ⟨⟨#[]⟩, 0⟩, false, ⟨#[]⟩, ⟨#[]⟩, ⟨#[]⟩, ⟨#[]⟩, ⟨⟨#[]⟩, 0⟩, who⟩
structure VArg where
 a : ByteArray
 n : Int
 c : Int
 who : ByteArray
 deps : List Id
theorem k531 (p : VArg) (H : List O) : ACalls Tryz.prog G0 31 [Sx p.a, I p.n, I p.c, Sx p.who, .c (.d (.sl (p.deps.map Id.row)))] H fun t H' => t = .v (.agg ((voteE p.a p.n p.c p.who p.deps).row.map .d)) ∧ H' = H := by
 refine acallsX (X := []) trivial tab hmix Tryz.func31 c531 (by rfl) fun hw => ?_
 simp (implicitDefEqProofs := false) (disch := omega) [gz, ir531, b531, fillC, splice]
 exact fin_pre_pv (p := .agg (voteE p.a p.n p.c p.who p.deps).row) (L' := [_]) hw (by simp [toPV, toDs, voteE, Edit.row]) (by simp [frz, frz1]; rfl) ⟨rfl, rfl⟩
theorem ids_inj {a b : List Id} (h : a.map Id.row = b.map Id.row) : a = b := map_inj (fun a b h => by cases a; cases b; simp [Id.row] at h; simp [h]) h
noncomputable def x531 : XE := mkX false (fun (p : VArg) => [.c (.v (.string p.a)), .c (.v (.int .i64 p.n)), .c (.v (.int .i64 p.c)), .c (.v (.string p.who)), .c (.sl (p.deps.map Id.row))]) (fun _ => True) (fun p => .v (.agg ((voteE p.a p.n p.c p.who p.deps).row.map .d)))
theorem kx531 : Contract Tryz.prog G0 31 x531 := mkX_data fun p _ H => k531 p H
theorem injV (a b : VArg) (h : [PVo.c (D.v (.string a.a)), .c (.v (.int .i64 a.n)), .c (.v (.int .i64 a.c)), .c (.v (.string a.who)), .c (.sl (a.deps.map Id.row))] = [PVo.c (D.v (.string b.a)), .c (.v (.int .i64 b.n)), .c (.v (.int .i64 b.c)), .c (.v (.string b.who)), .c (.sl (b.deps.map Id.row))]) : a = b := by
 simp only [List.cons.injEq, PVo.c.injEq, D.sl.injEq, D.v.injEq, Value.string.injEq, Value.int.injEq] at h
 obtain ⟨q1, ⟨_, q2⟩, ⟨_, q3⟩, q4, q5, _⟩ := h
 cases a; cases b
 have q5 := ids_inj q5
 simp only at q1 q2 q3 q4 q5
 rw [q1, q2, q3, q4, q5]
theorem xg531 (a : ByteArray) (n c : Int) (who : ByteArray) (deps : List Id) : x531.g [.c (.v (.string a)), .c (.v (.int .i64 n)), .c (.v (.int .i64 c)), .c (.v (.string who)), .c (.sl (deps.map Id.row))] = some (True, .v (.agg ((voteE a n c who deps).row.map .d))) := mkX_g injV (VArg.mk a n c who deps) trivial
def noteV (a : ByteArray) (own other : Id) : Edit := ⟨⟨a, 2⟩, 7, 0, if strLt other.a own.a = true then [other, own] else [own, other], 6, ⟨⟨#[]⟩, 0⟩, ⟨⟨#[]⟩, 0⟩, false, ⟨#[]⟩, ⟨#[]⟩, ⟨#[]⟩, ⟨#[]⟩, ⟨⟨#[]⟩, 0⟩, ⟨#[]⟩⟩
theorem k532 (a : ByteArray) (x y : Id) (H : List O) : ACalls Tryz.prog G0 32 [Sx a, .agg (x.row.map .d), .agg (y.row.map .d)] H fun t H' => t = .v (.agg ((noteV a x y).row.map .d)) ∧ H' = H := by
 refine acallsX (X := []) trivial tab hmix Tryz.func32 c532 (by rfl) fun hw => ?_
 have hx : x.row = [.v (.string x.a), .v (.int .i64 x.n)] := rfl
 have hy : y.row = [.v (.string y.a), .v (.int .i64 y.n)] := rfl
 obtain ⟨q, hq⟩ : ∃ q, q = strLt y.a x.a := ⟨_, rfl⟩
 have hn : noteV a x y = ⟨⟨a, 2⟩, 7, 0, if q = true then [y, x] else [x, y], 6, ⟨⟨#[]⟩, 0⟩, ⟨⟨#[]⟩, 0⟩, false, ⟨#[]⟩, ⟨#[]⟩, ⟨#[]⟩, ⟨#[]⟩, ⟨⟨#[]⟩, 0⟩, ⟨#[]⟩⟩ := by rw [hq]; rfl
 cases q
 ·simp (implicitDefEqProofs := false) (disch := omega) [gz, ir532, b532, hx, hy, fillC, splice, binSF, ← hq, toDs]
  exact fin_pre_pv (p := .agg (noteV a x y).row) (L' := [_, _, _, _]) hw (by rw [hn]; simp [toPV, toDs, toD, Edit.row, Id.row]) (by simp [frz, frz1, V.cells]; exact ⟨rfl, rfl, rfl, rfl⟩) ⟨rfl, rfl⟩
 ·simp (implicitDefEqProofs := false) (disch := omega) [gz, ir532, b532, hx, hy, fillC, splice, binSF, ← hq, toDs]
  exact fin_pre_pv (p := .agg (noteV a x y).row) (L' := [_, _, _, _, _]) hw (by rw [hn]; simp [toPV, toDs, toD, Edit.row, Id.row]) (by simp [frz, frz1, V.cells]; exact ⟨rfl, rfl, rfl, rfl, rfl⟩) ⟨rfl, rfl⟩
structure NArg where
 a : ByteArray
 x : Id
 y : Id
theorem injN (a b : NArg) (h : [PVo.c (D.v (.string a.a)), .agg a.x.row, .agg a.y.row] = [PVo.c (D.v (.string b.a)), .agg b.x.row, .agg b.y.row]) : a = b := by
 obtain ⟨a1, ⟨a2, a3⟩, ⟨a4, a5⟩⟩ := a
 obtain ⟨b1, ⟨b2, b3⟩, ⟨b4, b5⟩⟩ := b
 simp [Id.row] at h
 simp [h]
noncomputable def x532 : XE := mkX false (fun (p : NArg) => [.c (.v (.string p.a)), .agg p.x.row, .agg p.y.row]) (fun _ => True) (fun p => .v (.agg ((noteV p.a p.x p.y).row.map .d)))
theorem kx532 : Contract Tryz.prog G0 32 x532 := mkX_data fun p _ H => k532 p.a p.x p.y H
theorem xg532 (a : ByteArray) (x y : Id) : x532.g [.c (.v (.string a)), .agg x.row, .agg y.row] = some (True, .v (.agg ((noteV a x y).row.map .d))) := mkX_g injN (NArg.mk a x y) trivial
def liveL : List Edit := [voteE sAnn 1 5 sCid [⟨sCid, 2⟩], voteE sBob 1 6 sCid [⟨sCid, 3⟩]]
def liveL1 : List Edit := [voteE sAnn 1 5 sCid [⟨sCid, 2⟩]]
def noteX (a : ByteArray) : Edit := ⟨⟨a, 2⟩, 7, 0, [⟨sAnn, 1⟩, ⟨sBob, 1⟩], 6, ⟨⟨#[]⟩, 0⟩, ⟨⟨#[]⟩, 0⟩, false, ⟨#[]⟩, ⟨#[]⟩, ⟨#[]⟩, ⟨#[]⟩, ⟨⟨#[]⟩, 0⟩, ⟨#[]⟩⟩
theorem note_1 : noteV sAnn ⟨sAnn, 1⟩ ⟨sBob, 1⟩ = noteX sAnn := by decide +kernel
theorem note_2 : noteV sBob ⟨sBob, 1⟩ ⟨sAnn, 1⟩ = noteX sBob := by decide +kernel
def liveN : List Edit := [voteE sAnn 1 5 sCid [⟨sCid, 2⟩], voteE sBob 1 6 sCid [⟨sCid, 3⟩], noteX sAnn, noteX sBob]
def liveA : List Member := [mkM sAnn, mkM sBob, mkM sCid]
theorem live_c1 : cutsE liveL1 liveA = [] := by decide +kernel
theorem live_c2 : cutsE liveL liveA = [⟨sCid, 3, 22⟩, ⟨sCid, 2, 19⟩] := by decide +kernel
theorem live_c3 : cutsE liveN liveA = [⟨sCid, 3, 22⟩] := by decide +kernel
theorem live_who : ∀ e ∈ liveN, e.who.size < 4294967281 := by decide +kernel
theorem live_good : Good liveN := by
 have h : ∀ e ∈ liveN, (e.deps.length < 3 ∧ ∀ i, i < e.deps.length → 0 < i → cmpS (nth e.deps (i - 1)).a (nth e.deps i).a < 0) := by decide +kernel
 exact fun e he => ⟨asc_of_adj fun j h0 hj => (h e he).2 j hj h0, by have := (h e he).1; omega⟩
theorem live_ok (l : List Edit) (h1 : ∀ e ∈ l, e ∈ liveN) (h2 : l.length < 5) (h3 : (outU (gatC l liveA).mem (gatC l liveA).vs (gatC l liveA).vs).length ≤ 12) : okC l liveA :=
 ⟨by omega, by decide, fun e he => live_who e (h1 e he), fun e he => live_good e (h1 e he), h3⟩
theorem live_k1 : okC liveL1 liveA := live_ok _ (by decide +kernel) (by decide) (by decide +kernel)
theorem live_k2 : okC liveL liveA := live_ok _ (by decide +kernel) (by decide) (by decide +kernel)
theorem live_k3 : okC liveN liveA := live_ok _ (by decide +kernel) (by decide) (by decide +kernel)
theorem flat_cuts (l : List Cutoff) : flatR (l.map Cutoff.row) := fun x hx d hd => by
 obtain ⟨c, _, rfl⟩ := List.mem_map.1 hx
 simp [Cutoff.row] at hd
 rcases hd with rfl | rfl | rfl <;> exact ⟨_, rfl⟩
theorem k511 (m : Int) : ACalls Tryz.prog (GM m) 11 [] [] fun t H => t = .bool true ∧ H = [] := by
 have s1 : x529.sc = false := rfl
 have s2 : x530.sc = false := rfl
 have s3 : x531.sc = false := rfl
 have s4 : x532.sc = false := rfl
 have s5 : x513.sc = true := rfl
 have g1 := xg529 [sAnn, sBob, sCid] (by decide)
 have g2 := xg531 sAnn 1 5 sCid [⟨sCid, 2⟩]
 have g3 := xg531 sBob 1 6 sCid [⟨sCid, 3⟩]
 simp only [List.map_cons, List.map_nil, sAnn, sBob, sCid, srow, Id.row] at g1 g2 g3
 refine acallsX (X := [(29, x529), (30, x530), (31, x531), (32, x532), (13, x513)]) ⟨kx529.gm, kx530.gm, kx531.gm, kx532.gm, kx513.gm, trivial⟩ tab hmix Tryz.func11 c511 (by rfl) fun hw => ?_
 simp (implicitDefEqProofs := false) (disch := omega) [gz, ir511, b511, b511_0, b511_1, b511_2, b511_3, b511_4, s1, s2, s3, g1, g2, g3, xg530, sCid, Id.row, toPVs, frzVs, osVs, toPV, toDs, toD, splice, fillC, voteE, Edit.row]
 have h1 := k514o m liveL1 liveA live_k1 []
 have h2 := k514o m liveL liveA live_k2 []
 have h3 := k514o m liveN liveA live_k3 []
 rw [live_c1] at h1
 rw [live_c2] at h2
 rw [live_c3] at h3
 refine (lend_own (ps := [.c (.sl (liveL1.map Edit.row)), .c (.sl (liveA.map Member.row))]) (by rfl) (flat_cuts _) h1).mono ?_
 rintro t H' ⟨rfl, rfl⟩
 simp (implicitDefEqProofs := false) (disch := omega) [gz, callK]
 refine (lend_own (ps := [.c (.sl (liveL.map Edit.row)), .c (.sl (liveA.map Member.row))]) (by rfl) (flat_cuts _) h2).mono ?_
 rintro t H' ⟨rfl, rfl⟩
 have g4 := xg513 [⟨sCid, 3, 22⟩, ⟨sCid, 2, 19⟩] [⟨sCid, 3, 22⟩, ⟨sCid, 2, 19⟩] (by decide)
 rw [decide_eq_true rfl] at g4
 simp only [List.map_cons, List.map_nil, Cutoff.row, sCid] at g4
 simp (implicitDefEqProofs := false) (disch := omega) [gz, callK, g4, s5, Cutoff.row, sCid, splice, fillC, toDs, toD]
 have g5 := xg532 sAnn ⟨sAnn, 1⟩ ⟨sBob, 1⟩
 have g6 := xg532 sBob ⟨sBob, 1⟩ ⟨sAnn, 1⟩
 rw [note_1] at g5
 rw [note_2] at g6
 simp only [List.map_cons, List.map_nil, Id.row, noteX, Edit.row, sAnn, sBob] at g5 g6
 simp (implicitDefEqProofs := false) (disch := omega) [gz, b511_5, b511_6, g5, g6, s4, toPVs, frzVs, osVs, toPV, toDs, toD, splice, fillC]
 refine ⟨by kernel_rfl, by kernel_rfl, ?_⟩
 simp (implicitDefEqProofs := false) (disch := omega) [gz, b511_7, b511_8]
 refine (lend_own (ps := [.c (.sl (liveN.map Edit.row)), .c (.sl (liveA.map Member.row))]) (by rfl) (flat_cuts _) h3).mono ?_
 rintro t H' ⟨rfl, rfl⟩
 have g7 := xg513 [⟨sCid, 3, 22⟩] [⟨sCid, 3, 22⟩] (by decide)
 rw [decide_eq_true rfl] at g7
 simp only [List.map_cons, List.map_nil, Cutoff.row, sCid] at g7
 simp (implicitDefEqProofs := false) (disch := omega) [gz, callK, g7, s5, Cutoff.row, sCid, splice, fillC, toDs, toD]
 exact fin_nil ⟨rfl, rfl⟩
def x511 : XE := ⟨true, fun ps => match ps with | [] => some (True, .bool true) | _ => none⟩
theorem kx511 (m : Int) : Contract Tryz.prog (GM m) 11 x511 := contract_sc fun ps ob t h _ => by
 split at h
 ·injection h with h; injection h with h1 h2; subst h2
  exact ⟨rfl, k511 m⟩
 ·cases h
end Go.Aw.Try

namespace Go.Aw.Try
open Go Go.Proofs Go.Aw
set_option maxRecDepth 100000
set_option maxHeartbeats 4000000
/-! ### votes, and the sets that are decided -/
theorem pw_of_adj {α : Type} [Inhabited α] {R : α → α → Prop} (tr : ∀ a b c, R a b → R b c → R a c) {v : List α} (h : ∀ j, 0 < j → j < v.length → R (nth v (j - 1)) (nth v j)) : v.Pairwise R := by
 have key : ∀ d i, i + d + 1 < v.length → R (nth v i) (nth v (i + d + 1)) := by
  intro d
  induction d with
  | zero => intro i hi; exact h (i + 1) (by omega) hi
  | succ d ih =>
   intro i hi
   exact tr _ _ _ (ih i (by omega)) (h (i + (d + 1) + 1) (by omega) hi)
 rw [List.pairwise_iff_getElem]
 intro i j hi hj hij
 have := key (j - i - 1) i (by omega)
 rw [show i + (j - i - 1) + 1 = j from by omega, nth_eq hi, nth_eq hj] at this
 exact this
theorem nodup_len {α : Type} [DecidableEq α] : ∀ {M A : List α}, M.Nodup → (∀ x ∈ M, x ∈ A) → M.length ≤ A.length
 | [], _, _, _ => Nat.zero_le _
 | x :: r, A, hn, hs => by
  obtain ⟨h1, h2⟩ := List.nodup_cons.1 hn
  have hx : x ∈ A := hs x (List.mem_cons_self ..)
  have := nodup_len (A := A.erase x) h2 fun y hy => (List.mem_erase_of_ne (fun e => h1 (by rw [← e]; exact hy))).2 (hs y (List.mem_cons_of_mem _ hy))
  rw [List.length_erase_of_mem hx] at this
  have : 0 < A.length := List.length_pos_of_mem hx
  simp only [List.length_cons]; omega
theorem nodup_out {α : Type} [DecidableEq α] {M A : List α} (hn : M.Nodup) (h : A.length < M.length) : ∃ s ∈ M, s ∉ A := by
 refine Classical.byContradiction fun hc => ?_
 have := nodup_len hn (A := A) fun x hx => Classical.byContradiction fun hq => hc ⟨x, hx, hq⟩
 omega
theorem partS_iff {a b : List ByteArray} : partS a b = true ↔ ∀ s ∈ a, s ∈ b := by
 unfold partS
 rw [List.all_eq_true]
 exact ⟨fun h s hs => (hasS_iff b s).1 (h s hs), fun h s hs => (hasS_iff b s).2 (h s hs)⟩
/-- A vote that is well formed. -/
structure VOk (M : List ByteArray) (v : Vote) : Prop where
 kind : v.e.kind = 5
 mem : v.e.id.a ∈ M
 half : 2 * v.set.length < M.length
 asc : AscS v.set
 sub : ∀ s ∈ v.set, s ∈ M
 self : v.e.id.a ∉ v.set
 pos : 1 ≤ v.set.length
 who : v.set = parts v.e.who comma
theorem vok_of {M S : List ByteArray} {e : Edit} (h : namesO e M = some S) : VOk M ⟨e, S⟩ := by
 obtain ⟨h1, h2, h3, h4, h5⟩ := namesO_some h
 have hj : ∀ j, j < S.length → nth S j ≠ e.id.a ∧ nth S j ∈ M ∧ (0 < j → cmpS (nth S (j - 1)) (nth S j) < 0) := fun j hj => by
  have := h5 j hj
  unfold badN at this
  simp only [Bool.or_eq_false_iff, Bool.and_eq_false_iff, decide_eq_false_iff_not, Bool.not_eq_false'] at this
  refine ⟨this.1, (hasS_iff _ _).1 this.2.1, fun h0 => ?_⟩
  rcases this.2.2 with q | q
  ·exact absurd h0 q
  ·rw [strLt_eq] at q; exact of_decide_eq_true q
 refine ⟨h2, (hasS_iff _ _).1 h3, h4, pw_of_adj (R := fun a b => cmpS a b < 0) (fun a b c => cmpS_trans) fun j h0 h => (hj j h).2.2 h0, fun s hs => ?_, fun hs => ?_, ?_, h1⟩
 ·obtain ⟨i, hi, rfl⟩ := List.mem_iff_getElem.1 hs
  have := (hj i hi).2.1
  rw [nth_eq hi] at this; exact this
 ·obtain ⟨i, hi, he⟩ := List.mem_iff_getElem.1 hs
  have := (hj i hi).1
  rw [nth_eq hi] at this; exact this he
 ·show 1 ≤ S.length
  rw [h1, parts_len _ _ comma_size]; omega
/-- Votes of one author grow. -/
def ChainV (vs : List Vote) : Prop := vs.Pairwise fun u v => u.e.id.a = v.e.id.a → (∀ s ∈ u.set, s ∈ v.set) ∧ u.set.length < v.set.length
theorem gatF_chain (M : List ByteArray) (l : List Edit) : ChainV (gatF M l).vs := by
 have key : ∀ (l : List Edit) (g : Gs), ChainV g.vs → (∀ u ∈ g.vs, ∃ A, alook g.m u.e.id.a = some A ∧ (∀ s ∈ u.set, s ∈ A) ∧ u.set.length ≤ A.length) → ChainV (l.foldl (gatS M) g).vs := by
  intro l
  induction l with
  | nil => intro g h _; exact h
  | cons e l ih =>
   intro g h1 h2
   rw [List.foldl_cons]
   unfold gatS
   cases hN : namesO e M with
   | none => exact ih g h1 h2
   | some S =>
    by_cases hb : blockB (alook g.m e.id.a) S = true
    ·simp only [if_pos hb]; exact ih g h1 h2
    ·simp only [if_neg hb]
     have hA : ∀ A, alook g.m e.id.a = some A → (∀ s ∈ A, s ∈ S) ∧ A.length < S.length := fun A ha => by
      rw [ha] at hb
      unfold blockB at hb
      simp only [Bool.or_eq_true, Bool.not_eq_true', decide_eq_true_eq, not_or] at hb
      refine ⟨partS_iff.1 ?_, by omega⟩
      cases hq : partS A S
      ·exact absurd hq hb.1
      ·rfl
     refine ih _ ?_ ?_
     ·show ChainV (g.vs ++ [⟨e, S⟩])
      unfold ChainV
      rw [List.pairwise_append]
      refine ⟨h1, List.pairwise_singleton _ _, fun u hu v hv he => ?_⟩
      rw [List.mem_singleton] at hv; subst hv
      obtain ⟨A, ha, h3, h4⟩ := h2 u hu
      rw [he] at ha
      obtain ⟨h5, h6⟩ := hA A ha
      exact ⟨fun s hs => h5 s (h3 s hs), by show _ < S.length; omega⟩
     ·intro u hu
      show ∃ A, alook (aput g.m e.id.a S) u.e.id.a = some A ∧ _
      rw [alook_aput]
      rcases List.mem_append.1 hu with hu | hu
      ·obtain ⟨A, ha, h3, h4⟩ := h2 u hu
       by_cases q : e.id.a = u.e.id.a
       ·rw [if_pos q]
        rw [← q] at ha
        obtain ⟨h5, h6⟩ := hA A ha
        exact ⟨S, rfl, fun s hs => h5 s (h3 s hs), by omega⟩
       ·rw [if_neg q]; exact ⟨A, ha, h3, h4⟩
      ·rw [List.mem_singleton] at hu; subst hu
       rw [if_pos rfl]; exact ⟨S, rfl, fun s hs => hs, Nat.le_refl _⟩
 exact key l ⟨[], []⟩ List.Pairwise.nil (fun u hu => by cases hu)
theorem saidB_iff {vs : List Vote} {S : List ByteArray} {s : ByteArray} : saidB (ofV vs S) s = true ↔ ∃ v ∈ vs, v.set = S ∧ v.e.id.a = s := by
 unfold saidB ofV
 rw [List.any_eq_true]
 constructor
 ·rintro ⟨v, hv, he⟩
  rw [List.mem_filter] at hv
  exact ⟨v, hv.1, of_decide_eq_true hv.2, of_decide_eq_true he⟩
 ·rintro ⟨v, hv, h1, h2⟩
  exact ⟨v, List.mem_filter.2 ⟨hv, decide_eq_true h1⟩, decide_eq_true h2⟩
theorem mem_stay {M S : List ByteArray} {s : ByteArray} : s ∈ stayS M S ↔ s ∈ M ∧ s ∉ S := by
 unfold stayS
 rw [List.mem_filter, Bool.not_eq_true']
 constructor
 ·rintro ⟨h1, h2⟩
  exact ⟨h1, fun q => by rw [(hasS_iff S s).2 q] at h2; cases h2⟩
 ·rintro ⟨h1, h2⟩
  refine ⟨h1, ?_⟩
  cases hq : hasS S s
  ·rfl
  ·exact absurd ((hasS_iff S s).1 hq) h2
theorem decB_iff {M : List ByteArray} {vs : List Vote} {S : List ByteArray} : decB M vs S = true ↔ ∀ s ∈ M, s ∉ S → ∃ v ∈ vs, v.set = S ∧ v.e.id.a = s := by
 unfold decB
 rw [Bool.not_eq_true', List.any_eq_false]
 constructor
 ·intro h s hs hn
  have := h s (mem_stay.2 ⟨hs, hn⟩)
  rw [Bool.not_eq_true, Bool.not_eq_false'] at this
  exact saidB_iff.1 this
 ·intro h s hs
  obtain ⟨h1, h2⟩ := mem_stay.1 hs
  rw [Bool.not_eq_true, Bool.not_eq_false']
  exact saidB_iff.2 (h s h1 h2)
/-- Votes as they are gathered. -/
structure VsOk (M : List ByteArray) (vs : List Vote) : Prop where
 nod : M.Nodup
 ok : ∀ v ∈ vs, VOk M v
 chain : ChainV vs
theorem chain_cmp {M : List ByteArray} {vs : List Vote} (h : VsOk M vs) {u v : Vote} (hu : u ∈ vs) (hv : v ∈ vs) (he : u.e.id.a = v.e.id.a) :
  u.set = v.set ∨ ((∀ s ∈ u.set, s ∈ v.set) ∧ u.set.length < v.set.length) ∨ ((∀ s ∈ v.set, s ∈ u.set) ∧ v.set.length < u.set.length) := by
 obtain ⟨i, hi, rfl⟩ := List.mem_iff_getElem.1 hu
 obtain ⟨j, hj, rfl⟩ := List.mem_iff_getElem.1 hv
 have hc := List.pairwise_iff_getElem.1 h.chain
 rcases Nat.lt_trichotomy i j with q | q | q
 ·exact .inr (.inl (hc i j hi hj q he))
 ·subst q; exact .inl rfl
 ·exact .inr (.inr (hc j i hj hi q he.symm))
/-- A set that is decided. -/
def Dcd (M : List ByteArray) (vs : List Vote) (S : List ByteArray) : Prop := (∃ v ∈ vs, v.set = S) ∧ decB M vs S = true
theorem dcd_of_out {M : List ByteArray} {vs : List Vote} {S : List ByteArray} (h : S ∈ outU M vs vs) : Dcd M vs S := by
 obtain ⟨v, hv, rfl, hd⟩ := outU_mem h
 exact ⟨⟨v, hv, rfl⟩, hd⟩
/-- Of two decided sets one is part of the other. -/
theorem dcd_cmp {M : List ByteArray} {vs : List Vote} (h : VsOk M vs) {S T : List ByteArray} (hS : Dcd M vs S) (hT : Dcd M vs T) :
  S = T ∨ ((∀ s ∈ S, s ∈ T) ∧ S.length < T.length) ∨ ((∀ s ∈ T, s ∈ S) ∧ T.length < S.length) := by
 obtain ⟨⟨u, hu, rfl⟩, d1⟩ := hS
 obtain ⟨⟨v, hv, rfl⟩, d2⟩ := hT
 have h1 := (h.ok u hu).half
 have h2 := (h.ok v hv).half
 obtain ⟨s, hs, hn⟩ := nodup_out h.nod (A := u.set ++ v.set) (by rw [List.length_append]; omega)
 rw [List.mem_append, not_or] at hn
 obtain ⟨u', hu', e1, e2⟩ := decB_iff.1 d1 s hs hn.1
 obtain ⟨v', hv', e3, e4⟩ := decB_iff.1 d2 s hs hn.2
 rw [← e1, ← e3]
 exact chain_cmp h hu' hv' (by rw [e2, e4])
theorem dcd_len {M : List ByteArray} {vs : List Vote} (h : VsOk M vs) {S T : List ByteArray} (hS : Dcd M vs S) (hT : Dcd M vs T) (e : S.length = T.length) : S = T := by
 rcases dcd_cmp h hS hT with q | q | q
 ·exact q
 ·omega
 ·omega
theorem outU_nodup (M : List ByteArray) (vs l : List Vote) : (outU M vs l).Nodup := by
 have key : ∀ (l : List Vote) (a : List (List ByteArray)), a.Nodup → (l.foldl (outStep M vs) a).Nodup := by
  intro l
  induction l with
  | nil => intro a h; exact h
  | cons v l ih =>
   intro a h
   refine ih _ ?_
   unfold outStep
   split
   ·rename_i hc
    simp only [Bool.and_eq_true, Bool.not_eq_true', List.any_eq_false, decide_eq_true_eq] at hc
    unfold List.Nodup
    rw [List.pairwise_append]
    refine ⟨h, List.pairwise_singleton _ _, fun x hx y hy => ?_⟩
    rw [List.mem_singleton] at hy; subst hy
    exact hc.2 x hx
   ·exact h
 exact key l [] List.Pairwise.nil
theorem nodup_small {l : List Nat} (n : Nat) (h : l.Nodup) (hb : ∀ x ∈ l, x < n) : l.length ≤ n := by
 have := nodup_len (A := List.range n) h fun x hx => List.mem_range.2 (hb x hx)
 simpa using this
theorem outU_few {M : List ByteArray} {vs : List Vote} (h : VsOk M vs) (h8 : M.length ≤ 8) : (outU M vs vs).length ≤ 12 := by
 have h1 : ((outU M vs vs).map List.length).Nodup := by
  unfold List.Nodup
  rw [List.pairwise_map]
  refine List.Pairwise.imp_of_mem (R := fun a b => a ≠ b) (fun {a b} ha hb hne e => hne ?_) (outU_nodup M vs vs)
  exact dcd_len h (dcd_of_out ha) (dcd_of_out hb) e
 have := nodup_small 4 h1 fun x hx => by
  obtain ⟨S, hS, rfl⟩ := List.mem_map.1 hx
  obtain ⟨⟨v, hv, rfl⟩, _⟩ := dcd_of_out hS
  have := (h.ok v hv).half
  omega
 rw [List.length_map] at this
 omega
theorem OkR.nod {l : List Edit} {all : List Member} (h : OkR l all) : (all.map Member.name).Nodup := by
 unfold List.Nodup
 rw [List.pairwise_map, List.pairwise_iff_getElem]
 intro i j hi hj hij
 have := (h.2.2.1 j hj).2 i hij
 rw [nth_eq hi, nth_eq hj] at this; exact this
theorem OkR.okE {l : List Edit} {all : List Member} (h : OkR l all) {e : Edit} (he : e ∈ l) : okE e := by
 obtain ⟨i, hi, rfl⟩ := List.mem_iff_getElem.1 he
 have := (h.2.2.2 i hi).1
 rw [nth_eq hi] at this; exact this
theorem OkR.vs {l : List Edit} {all : List Member} (h : OkR l all) : VsOk (all.map Member.name) (gatC l all).vs :=
 ⟨h.nod, fun v hv => vok_of (gatC_mem hv).2, gatF_chain _ _⟩
theorem OkR.okC {l : List Edit} {all : List Member} (h : OkR l all) : okC l all := by
 have h1 := h.1
 have h2 := h.2.1
 refine ⟨by omega, by omega, fun e he => ?_, fun e he => ?_, outU_few h.vs (by show (all.map Member.name).length ≤ 8; rw [List.length_map]; exact h2)⟩
 ·have := (h.okE he).2.2.1; omega
 ·have hk := h.okE he
  exact ⟨(chk_asc hk.1).1, by have := hk.2.1; omega⟩
theorem hasN_nonneg {v : List Id} (h : ∀ x ∈ v, 1 ≤ x.n) (a : ByteArray) : 0 ≤ hasN v a := by
 unfold hasN
 cases hf : v.find? (prA a) with
 | none => exact Int.le_refl _
 | some x => have := h x (List.mem_of_find?_eq_some hf); show 0 ≤ x.n; omega
end Go.Aw.Try

namespace Go.Aw.Try
open Go Go.Proofs Go.Aw
set_option maxRecDepth 100000
set_option maxHeartbeats 4000000
/-! ### EvictMinority: the walk -/
/-- Lists of a size that fits. -/
structure Sz (l : List Edit) (all : List Member) : Prop where
 sl : l.length < 4611686018427387904
 sa : all.length < 4611686018427387904
 sn : ∀ m ∈ all, m.name.size < 4611686018427387904
 se : ∀ e ∈ l, szE e
/-! ### EvictMinority: the law -/
theorem sure_fold {s : ByteArray} : ∀ {l : List Vote} {x : Int}, (∀ v ∈ l, 0 ≤ hasN v.e.deps s) →
  (0 ≤ x → 0 ≤ l.foldl (sureStep s) x ∧ l.foldl (sureStep s) x ≤ x) ∧ ∀ v ∈ l, s ∈ v.set → 0 ≤ l.foldl (sureStep s) x ∧ l.foldl (sureStep s) x ≤ hasN v.e.deps s
 | [], x, _ => ⟨fun h => ⟨h, Int.le_refl _⟩, fun v hv => by cases hv⟩
 | v :: l, x, h => by
  have hv := h v (List.mem_cons_self ..)
  have ih := sure_fold (s := s) (l := l) (x := sureStep s x v) fun u hu => h u (List.mem_cons_of_mem _ hu)
  rw [List.foldl_cons]
  have hx : 0 ≤ x → 0 ≤ sureStep s x v ∧ sureStep s x v ≤ x := fun h0 => by
   unfold sureStep
   split
   ·rename_i hc
    simp only [Bool.and_eq_true, Bool.or_eq_true, decide_eq_true_eq] at hc
    exact ⟨hv, by omega⟩
   ·exact ⟨h0, Int.le_refl _⟩
  have hin : s ∈ v.set → 0 ≤ sureStep s x v ∧ sureStep s x v ≤ hasN v.e.deps s := fun hs => by
   unfold sureStep
   rw [(hasS_iff v.set s).2 hs, Bool.true_and]
   split
   ·exact ⟨hv, Int.le_refl _⟩
   ·rename_i hc
    simp only [Bool.or_eq_true, decide_eq_true_eq, not_or] at hc
    exact ⟨by omega, by omega⟩
  refine ⟨fun h0 => ?_, fun u hu hs => ?_⟩
  ·obtain ⟨a, b⟩ := hx h0
   obtain ⟨c, d⟩ := ih.1 a
   exact ⟨c, by omega⟩
  ·rcases List.mem_cons.1 hu with rfl | hu
   ·obtain ⟨a, b⟩ := hin hs
    obtain ⟨c, d⟩ := ih.1 a
    exact ⟨c, by omega⟩
   ·exact ih.2 u hu hs
theorem sureN_le {vs : List Vote} {s : ByteArray} (h : ∀ v ∈ vs, 0 ≤ hasN v.e.deps s) {v : Vote} (hv : v ∈ vs) (hs : s ∈ v.set) : sureN vs s ≤ hasN v.e.deps s := by
 obtain ⟨h1, h2⟩ := (sure_fold (x := -1) h).2 v hv hs
 unfold sureN sureL
 rw [if_neg (by omega)]; exact h2
theorem max_fold {s : ByteArray} : ∀ {l : List Vote} {x : Int}, x ≤ l.foldl (maxStep s) x ∧ ∀ v ∈ l, hasN v.e.deps s ≤ l.foldl (maxStep s) x
 | [], x => ⟨Int.le_refl _, fun v hv => by cases hv⟩
 | v :: l, x => by
  have ih := max_fold (s := s) (l := l) (x := maxStep s x v)
  rw [List.foldl_cons]
  have h1 : x ≤ maxStep s x v ∧ hasN v.e.deps s ≤ maxStep s x v := by unfold maxStep; split <;> omega
  refine ⟨by omega, fun u hu => ?_⟩
  rcases List.mem_cons.1 hu with rfl | hu
  ·omega
  ·exact ih.2 u hu
theorem maxN_ge {vs : List Vote} {s : ByteArray} {v : Vote} (hv : v ∈ vs) : hasN v.e.deps s ≤ maxN vs s := max_fold.2 v hv
theorem pickI_lead {vs : List Vote} {sets : List (List ByteArray)} {at' : Nat} {name : ByteArray} : ∀ {m i : Nat}, pickI vs sets at' name m = some i → leadB vs sets at' name i = true
 | 0, i, h => by cases h
 | m + 1, i, h => by
  simp only [pickI] at h
  split at h
  ·rename_i hl; injection h with h; subst h; exact hl
  ·exact pickI_lead h
theorem mem_ofV {vs : List Vote} {S : List ByteArray} {v : Vote} : v ∈ ofV vs S ↔ v ∈ vs ∧ v.set = S := by
 unfold ofV; rw [List.mem_filter, decide_eq_true_eq]
/-- The cutoffs of one name. -/
def blk (N U : ByteArray → Int) (fin : Bool) (s : ByteArray) : List Cutoff := ⟨s, N s, 22⟩ :: if fin = true then [] else [⟨s, U s, 19⟩]
theorem pw_ext {α : Type} {R : α → α → Prop} (asy : ∀ a b, R a b → ¬ R b a) (ir : ∀ a, ¬ R a a) : ∀ {l l' : List α}, l.Pairwise R → l'.Pairwise R → (∀ x, x ∈ l ↔ x ∈ l') → l = l'
 | [], [], _, _, _ => rfl
 | [], y :: l', _, _, h => by have := (h y).2 List.mem_cons_self; cases this
 | x :: l, [], _, _, h => by have := (h x).1 List.mem_cons_self; cases this
 | x :: l, y :: l', h1, h2, h => by
  obtain ⟨a1, a2⟩ := List.pairwise_cons.1 h1
  obtain ⟨b1, b2⟩ := List.pairwise_cons.1 h2
  have exy : x = y := by
   rcases List.mem_cons.1 ((h x).1 List.mem_cons_self) with e | hx
   ·exact e
   ·rcases List.mem_cons.1 ((h y).2 List.mem_cons_self) with e | hy
    ·exact e.symm
    ·exact absurd (b1 x hx) (asy _ _ (a1 y hy))
  subst exy
  rw [pw_ext asy ir a2 b2 fun z => ?_]
  constructor
  ·intro hz
   rcases List.mem_cons.1 ((h z).1 (List.mem_cons_of_mem _ hz)) with e | hz'
   ·subst e; exact absurd (a1 z hz) (ir z)
   ·exact hz'
  ·intro hz
   rcases List.mem_cons.1 ((h z).2 (List.mem_cons_of_mem _ hz)) with e | hz'
   ·subst e; exact absurd (b1 z hz) (ir z)
   ·exact hz'
/-! ### the decided sets, by size; the set that goes ahead -/
theorem outU_has {M : List ByteArray} {vs : List Vote} {S : List ByteArray} (h : Dcd M vs S) : S ∈ outU M vs vs := by
 have key : ∀ (l : List Vote) (a : List (List ByteArray)), (∀ s ∈ a, s ∈ l.foldl (outStep M vs) a) ∧ ∀ v ∈ l, decB M vs v.set = true → v.set ∈ l.foldl (outStep M vs) a := by
  intro l
  induction l with
  | nil => intro a; exact ⟨fun s hs => hs, fun v hv => by cases hv⟩
  | cons v l ih =>
   intro a
   obtain ⟨h1, h2⟩ := ih (outStep M vs a v)
   have hin : ∀ s ∈ a, s ∈ outStep M vs a v := fun s hs => by
    unfold outStep; split
    ·exact List.mem_append_left _ hs
    ·exact hs
   refine ⟨fun s hs => h1 s (hin s hs), fun u hu hd => ?_⟩
   rcases List.mem_cons.1 hu with rfl | hu
   ·refine h1 _ ?_
    unfold outStep
    split
    ·exact List.mem_append_right _ (List.mem_singleton.2 rfl)
    ·rename_i hc
     rw [hd, Bool.true_and, Bool.not_eq_true'] at hc
     have hc : (a.any fun x => decide (x = u.set)) = true := by
      cases hq : a.any fun x => decide (x = u.set)
      ·exact absurd hq hc
      ·rfl
     rw [List.any_eq_true] at hc
     obtain ⟨y, hy, he⟩ := hc
     rw [← of_decide_eq_true he]; exact hy
   ·exact h2 u hu hd
 obtain ⟨⟨v, hv, rfl⟩, hd⟩ := h
 exact (key vs []).2 v hv hd
theorem vs_small {M : List ByteArray} {vs : List Vote} (h : VsOk M vs) (h8 : M.length ≤ 8) : ∀ v ∈ vs, SmallS v.set := fun v hv => by
 have := (h.ok v hv).half
 show v.set.length < _; omega
theorem mem_out {M : List ByteArray} {vs : List Vote} (h : VsOk M vs) (h8 : M.length ≤ 8) {S : List ByteArray} : S ∈ outL M vs ↔ Dcd M vs S := by
 rw [outL_mem (vs_small h h8)]
 exact ⟨dcd_of_out, outU_has⟩
theorem out_sorted {M : List ByteArray} {vs : List Vote} (h : VsOk M vs) (h8 : M.length ≤ 8) : (outL M vs).Pairwise fun a b => a.length < b.length := by
 obtain ⟨s1, s2, _⟩ := sortL_spec (outU_small (mem := M) (vs_small h h8))
 rw [List.pairwise_iff_forall_sublist]
 intro a b hab
 have hle := (List.pairwise_iff_forall_sublist.1 s1) hab
 unfold cmpZ at hle
 by_cases hq : a.length = b.length
 ·exfalso
  have e1 : decide (cmpZ a a = 0) = true := decide_eq_true (by unfold cmpZ; omega)
  have e2 : decide (cmpZ a b = 0) = true := decide_eq_true (by unfold cmpZ; omega)
  have h1 : [a, b].filter (fun y => decide (cmpZ a y = 0)) = [a, b] := by
   rw [List.filter_cons, if_pos e1, List.filter_cons, if_pos e2]; rfl
  have h2 : [a, b].Sublist (cls cmpZ a (sortL (outU M vs vs))) := by
   rw [← h1]; exact hab.filter _
  rw [s2 a] at h2
  have h3 : [a, b].Sublist (outU M vs vs) := h2.trans List.filter_sublist
  have hne := (List.pairwise_iff_forall_sublist.1 (outU_nodup M vs vs)) h3
  have ha : a ∈ outU M vs vs := h3.subset (by simp)
  have hb : b ∈ outU M vs vs := h3.subset (by simp)
  exact hne (dcd_len h (dcd_of_out ha) (dcd_of_out hb) hq)
 ·omega
theorem sorted_lt {sets : List (List ByteArray)} (h : sets.Pairwise fun a b => a.length < b.length) {i j : Nat} (hi : i < sets.length) (hj : j < sets.length) : (nth sets i).length < (nth sets j).length ↔ i < j := by
 have hp := List.pairwise_iff_getElem.1 h
 rw [nth_eq hi, nth_eq hj]
 constructor
 ·intro hl
  rcases Nat.lt_trichotomy i j with q | q | q
  ·exact q
  ·subst q; omega
  ·have := hp j i hj hi q; omega
 ·intro hl; exact hp i j hi hj hl
end Go.Aw.Try

namespace Go.Aw.Try
open Go Go.Proofs Go.Aw
set_option maxRecDepth 100000
set_option maxHeartbeats 4000000
theorem upto_sure {vs : List Vote} {sets : List (List ByteArray)} {s : ByteArray} (h : ∀ v ∈ vs, 0 ≤ hasN v.e.deps s) (hd : ∀ S ∈ sets, ∃ v ∈ vs, v.set = S) :
  ∀ at', at' < sets.length → s ∈ nth sets at' → sureN vs s ≤ uptoE vs sets s at' := by
 intro at'
 induction at' using Nat.strongRecOn with
 | _ n ih =>
  intro hn hs
  rw [uptoE_eq]
  cases hp : pickI vs sets n s n with
  | some i =>
   have hlt := pickI_lt hp
   have hl := pickI_lead hp
   unfold leadB at hl
   rw [Bool.and_eq_true] at hl
   exact ih i hlt (by omega) ((hasS_iff _ _).1 hl.1)
  | none =>
   obtain ⟨v, hv, he⟩ := hd _ (nth_mem hn)
   have h1 : sureN vs s ≤ hasN v.e.deps s := sureN_le h hv (by rw [he]; exact hs)
   have h2 := maxN_ge (s := s) (mem_ofV.2 ⟨hv, he⟩)
   exact Int.le_trans h1 h2
theorem sortE_cls (l : List Edit) (x : Edit) : cls cmpE x (sortE l) = (cls cmpE x l).take 1 := by
 unfold sortE; rw [cmpt_cls cmpE_pre _ (ssort_srt cmpE_pre l), ssort_flt cmpE_pre l x]
theorem sortE_sst (l : List Edit) : Sst cmpE (sortE l) := by rw [← sortE_refS]; exact (refS_spec cmpE_pre l).1
theorem cmpE_id {x y : Edit} (h : cmpE x y = 0) : x.id = y.id ∧ x.clock = y.clock := by
 simp only [cmpE, orI] at h
 have h1 : cmpI x.clock y.clock = 0 := by
  by_cases q : cmpI x.clock y.clock = 0
  ·exact q
  ·rw [if_pos q] at h; exact h
 have h2 : cmpS x.id.a y.id.a = 0 := by
  rw [if_neg (by omega)] at h
  by_cases q : cmpS x.id.a y.id.a = 0
  ·exact q
  ·rw [if_pos q] at h; exact h
 have h3 : cmpI x.id.n y.id.n = 0 := by
  rw [if_neg (by omega), if_neg (by omega)] at h
  by_cases q : cmpI x.id.n y.id.n = 0
  ·exact q
  ·rw [if_pos q] at h; exact h
 have e2 := (cmpS_eq _ _).1 h2
 have e1 : x.clock = y.clock := by unfold cmpI at h1; (repeat' split at h1) <;> omega
 have e3 : x.id.n = y.id.n := by unfold cmpI at h3; (repeat' split at h3) <;> omega
 exact ⟨(Id.eq_iff _ _).2 ⟨e2, e3⟩, e1⟩
/-- No two different edits have one name. -/
def NoFork (l : List Edit) : Prop := ∀ y ∈ l, ∀ z ∈ l, y.id = z.id → y = z
theorem NoFork.sort_mem {l : List Edit} (h : NoFork l) (e : Edit) : e ∈ sortE l ↔ e ∈ l := by
 constructor
 ·exact sortE_mem
 ·intro he
  have hc := sortE_cls l e
  have h1 : e ∈ cls cmpE e l := mem_cls.2 ⟨he, cmpE_pre.rf e⟩
  cases hq : cls cmpE e l with
  | nil => rw [hq] at h1; cases h1
  | cons y r =>
   rw [hq] at hc
   have hy : y ∈ cls cmpE e (sortE l) := by rw [hc]; simp
   obtain ⟨h2, h3⟩ := mem_cls.1 hy
   rw [h e he y (sortE_mem h2) (cmpE_id h3).1]
   exact h2
theorem sst_ext {a b : List Edit} (ha : Sst cmpE a) (hb : Sst cmpE b) (h : ∀ e, e ∈ a ↔ e ∈ b) : a = b := by
 refine pw_ext (R := fun a b => cmpE a b < 0) (fun a b h k => ?_) (fun a h => ?_) ha hb h
 ·have := (cmpE_pre.sgn a b); omega
 ·have := (cmpE_pre.sgn a a); omega
theorem OkR.noFork {l : List Edit} {all : List Member} (h : OkR l all) : NoFork l := fun y hy z hz e => by
 obtain ⟨i, hi, rfl⟩ := List.mem_iff_getElem.1 hy
 obtain ⟨j, hj, rfl⟩ := List.mem_iff_getElem.1 hz
 rcases Nat.lt_trichotomy i j with q | q | q
 ·have := (h.2.2.2 j hj).2 i q (by rw [nth_eq hi, nth_eq hj]; exact e)
  rw [nth_eq hi, nth_eq hj] at this; exact this
 ·subst q; rfl
 ·have := (h.2.2.2 i hi).2 j q (by rw [nth_eq hi, nth_eq hj]; exact e.symm)
  rw [nth_eq hi, nth_eq hj] at this; exact this.symm
theorem gat_more (M : List ByteArray) : ∀ (l : List Edit) (g : Gs), ∃ X, (l.foldl (gatS M) g).vs = g.vs ++ X ∧ ∀ v ∈ X, v.e ∈ l
 | [], g => ⟨[], by simp, fun v hv => by cases hv⟩
 | e :: l, g => by
  obtain ⟨X, h1, h2⟩ := gat_more M l (gatS M g e)
  have : ∃ Y, (gatS M g e).vs = g.vs ++ Y ∧ ∀ v ∈ Y, v.e ∈ e :: l := by
   unfold gatS
   cases namesO e M with
   | none => exact ⟨[], by simp, fun v hv => by cases hv⟩
   | some S =>
    by_cases q : blockB (alook g.m e.id.a) S = true
    ·simp only [if_pos q]; exact ⟨[], by simp, fun v hv => by cases hv⟩
    ·simp only [if_neg q]
     exact ⟨[⟨e, S⟩], rfl, fun v hv => by rw [List.mem_singleton] at hv; subst hv; exact List.mem_cons_self ..⟩
  obtain ⟨Y, h3, h4⟩ := this
  refine ⟨Y ++ X, by rw [List.foldl_cons, h1, h3, List.append_assoc], fun v hv => ?_⟩
  rcases List.mem_append.1 hv with hv | hv
  ·exact h4 v hv
  ·exact List.mem_cons_of_mem _ (h2 v hv)
theorem cutF_blk {N U : ByteArray → Int} {b : Bool} {s : ByteArray} : ∀ {S : List ByteArray}, s ∈ S → cutF (S.flatMap (blk N U b)) s = (N s, true)
 | [], h => by cases h
 | t :: S, h => by
  rw [List.flatMap_cons]
  by_cases q : t = s
  ·subst q
   unfold blk
   rw [List.cons_append]
   unfold cutF
   rw [if_pos ⟨rfl, rfl⟩]
  ·have hs : s ∈ S := by
    rcases List.mem_cons.1 h with e | e
    ·exact absurd e.symm q
    ·exact e
   have ih := cutF_blk (N := N) (U := U) (b := b) hs
   unfold blk at ih ⊢
   cases b
   ·simp only [Bool.false_eq_true, if_false, List.cons_append, List.nil_append] at ih ⊢
    unfold cutF
    rw [if_neg (fun h => q h.1)]
    unfold cutF
    rw [if_neg (fun h => q h.1)]
    exact ih
   ·simp only [if_true, List.cons_append, List.nil_append] at ih ⊢
    unfold cutF
    rw [if_neg (fun h => q h.1)]
    exact ih
theorem last_top {M : List ByteArray} {vs : List Vote} (h : VsOk M vs) (h8 : M.length ≤ 8) {T : List ByteArray} (hT : Dcd M vs T) : T.length ≤ (nth (outL M vs) ((outL M vs).length - 1)).length := by
 obtain ⟨k, hk, rfl⟩ := List.mem_iff_getElem.1 ((mem_out h h8).2 hT)
 rw [← nth_eq hk]
 by_cases e : k = (outL M vs).length - 1
 ·rw [← e]; exact Nat.le_refl _
 ·exact Nat.le_of_lt ((sorted_lt (out_sorted h h8) hk (by omega)).2 (by omega))
/-! ### EvictLate: joined -/
theorem cmpE_clock {a b : Edit} (h : a.clock < b.clock) : cmpE a b < 0 := by
 have h1 : cmpI a.clock b.clock = -1 := by unfold cmpI; rw [if_pos h]
 unfold cmpE orI
 rw [h1]; simp
end Go.Aw.Try

namespace Go.Aw.Try
open Go Go.Proofs Go.RowKit Go.Lib
set_option maxRecDepth 100000
set_option maxHeartbeats 4000000
abbrev zId : Value := .agg #[.string ⟨#[]⟩, .int .i64 0]
theorem i38 : (Tryz.prog.info? 38).map (fun i => (i.zero, i.size, i.bytes)) = some (some zId, 2, 24) := by kernel_rfl
theorem info2 {P : Program} {e : TypeId} {z : Value} {s b : Nat} (h : (P.info? e).map (fun i => (i.zero, i.size, i.bytes)) = some (some z, s, b)) : ∃ i, P.info? e = some i ∧ i.zero = some z ∧ i.size = s ∧ i.bytes = b := by
 obtain ⟨i, hi, hz⟩ := Option.map_eq_some_iff.1 h
 simp only [Prod.mk.injEq] at hz
 exact ⟨i, hi, hz.1, hz.2.1, hz.2.2⟩
/-- At the end, no room: a new row. -/
theorem ins_end_grow (base : Option Addr) (n c vb vc : Nat) (cs vs : List Value) (w : World) (hnc : n ≤ c) (hroom : c < n + 1) (hbig : (n + 1) * 24 ≤ 140737488355328)
  (hcl : cs.length = n * 2) (hvl : vs.length = 2) (hnil : base = none → n = 0)
  (hcs : ∀ a, base = some a → ∀ j v, cs[j]? = some v → w.cell? (a.add j) = some v)
  (hvs : ∀ j v, vs[j]? = some v → w.cell? ⟨vb, j, none⟩ = some v) (h1v : ∀ v ∈ vs, v.oneCell' = true) :
  Calls Tryz.prog 97 #[.slice base n c, .int .i64 n, .slice (some ⟨vb, 0, none⟩) 1 vc] w fun e w' =>
   e = .returned (.slice (some ⟨w.heap.size, 0, none⟩) (n + 1) (grownCap w (n + 1) c 38)) ∧
   w' = w.drew.alloc (.cells ((cs ++ vs).toArray ++ Builtin.zeroCells zId.cells (grownCap w (n + 1) c 38 - (n + 1))) 38) := by
 have t0 := Tryz.underlying0; have a0 := Tryz.isAgg0; have z0 := Tryz.sizeOf0; have v0 := Tryz.zeroValue0
 have t3 := Tryz.underlying3; have a3 := Tryz.isAgg3; have z3 := Tryz.sizeOf3; have v3 := Tryz.zeroValue3
 have t4 := Tryz.underlying4; have a4 := Tryz.isAgg4; have z4 := Tryz.sizeOf4; have v4 := Tryz.zeroValue4
 have t38 := Tryz.underlying38; have a38 := Tryz.isAgg38; have z38 := Tryz.sizeOf38; have v38 := Tryz.zeroValue38
 have t39 := Tryz.underlying39; have a39 := Tryz.isAgg39; have z39 := Tryz.sizeOf39; have v39 := Tryz.zeroValue39
 have u0 := run_underlying t0; have u3 := run_underlying t3; have u4 := run_underlying t4; have u38 := run_underlying t38; have u39 := run_underlying t39
 have mixed : Tryz.prog.follows .mixedOrders = true := by kernel_rfl
 obtain ⟨i0, hi0, hz0, hzs, hzb⟩ := info2 i38
 have hsrc : Src Tryz.prog i0.size 39 (.slice (some ⟨vb, 0, none⟩) 1 vc) 1 vs w := by
  rw [hzs]
  exact Src.ofSlice w t39 ⟨vb, 0, none⟩ 1 vc vs (by omega) (fun j u hj => by rw [Addr.add_lit, Nat.zero_add]; exact hvs j u hj) h1v
 have hold : (Builtin.firstCells i0.size n (.slice base n c)).run Tryz.prog w.drew = .ok cs.toArray w.drew := by
  rw [hzs]
  cases base with
  | none =>
   have h0 := hnil rfl
   subst h0
   rw [List.length_eq_zero_iff.1 (by omega : cs.length = 0)]
   exact run_firstCells_none w.drew 2 0 0 c
  | some a => exact run_firstCells_some w.drew 2 n a n c cs (by omega) (fun j v hj => hcs a rfl j v hj)
 have hrun : ∀ ty, (Builtin.append_ #[39, 39] ty #[.slice base n c, .slice (some ⟨vb, 0, none⟩) 1 vc]).run Tryz.prog w = _ := fun ty =>
  run_append_grow_src w 39 39 ty 38 i0 _ t39 hi0 hz0 base n c cs hold _ 1 vs hsrc hroom (by omega) (by rw [hzb]; exact growslice_fits hroom hbig)
 go_enter Tryz.func97, Tryz.ntmps97
 cases base with
 | none =>
  have h0 := hnil rfl
  subst h0
  go_wp2_with (at_builtin; refine Lib.wpList_append_run _ rfl _ _ _ _ rfl _ _ rfl rfl _ _ (hrun _) ?_)
  go_ret
  exact ⟨rfl, rfl⟩
 | some a =>
  obtain ⟨ab, ao, asp⟩ := a
  go_wp2_with (at_builtin; refine Lib.wpList_append_run _ rfl _ _ _ _ rfl _ _ rfl rfl _ _ (hrun _) ?_)
  all_goals (go_ret; exact ⟨rfl, rfl⟩)
/-- Cells written in a row, as the row written anew. -/
theorem setCells_row (w : World) (g o : Nat) (cur : Array Value) (t : TypeId) (cs : List Value) (hg : w.heap[g]? = some (.cells cur t (0, 0))) (hfit : o + cs.length ≤ cur.size) (h1 : ∀ v ∈ cs, v.oneCell' = true) :
  w.setCells g o cs = w.setRow g (cur.toList.take o ++ cs ++ cur.toList.drop (o + cs.length)).toArray := by
 have hc : ∀ j, j < cs.length → (w.cell? ⟨g, o + j, none⟩).isSome = true := fun j hj => by
  simp only [World.cell?, hg]
  rw [Array.getElem?_eq_getElem (by omega)]; rfl
 have hf : ∀ j, j < cs.length → w.frozen? ⟨g, o + j, none⟩ = false := fun j hj => by simp [World.frozen?, hg]
 have e1 := run_storeCells_at Tryz.prog g o t cs 0 cur w hg (by simpa using hfit) h1
 have e2 := run_storeCells_cells (P := Tryz.prog) g o cs 0 w (by simpa using hc) (by simpa using hf) h1
 rw [e1] at e2
 injection e2 with e2 e3
 simpa using e3.symm
/-- The builtin copy between rows of any element's size. -/
theorem run_copy_any {P : Program} (w : World) (dT sT ty elem : TypeId) (size : Nat) (b o dLen dCap : Nat) (a : Addr) (sLen sCap : Nat) (cs : List Value)
  (hu : P.underlying dT = some (.slice elem)) (hs : (P.info? elem).map (·.size) = some size) (hn : cs.length = Nat.min sLen dLen * size)
  (hsrc : ∀ j v, cs[j]? = some v → w.cell? (a.add j) = some v) (hc : ∀ j, j < cs.length → (w.cell? ⟨b, o + j, none⟩).isSome = true) (hf : ∀ j, j < cs.length → w.frozen? ⟨b, o + j, none⟩ = false) (h1 : ∀ v ∈ cs, v.oneCell' = true) :
  (Builtin.copy_ #[dT, sT] ty #[.slice (some ⟨b, o, none⟩) dLen dCap, .slice (some a) sLen sCap]).run P w = .ok (goInt (Nat.min sLen dLen)) (w.setCells b o cs) := by
 have hl := run_loadCells_list (P := P) w a cs hsrc
 have hst := run_storeCells_cells (P := P) b o cs 0 w (by simpa using hc) (by simpa using hf) h1
 cases hq : P.info? elem with
 | none => simp [hq] at hs
 | some i =>
  have hi : i.size = size := by simpa [hq] using hs
  simp [Builtin.copy_, run_underlying hu, Builtin.lenOf, Builtin.firstCells, sizeOf, typeInfo, hq, hi, ← hn, hl, hst]
theorem wp_copy_run2 {P : Program} (w : World) {o : Oper} {a : Act} {K : Act → World → Prop} {Q : Exit → Act → World → Prop} (d s : Operand) (t t' : TypeId)
  (ho : o.op = .call { callee := .builtin .copy, args := #[d, s], argTypes := #[t, t'] }) (v u : Value) (hd : a.eval d = v) (hs : a.eval s = u) {v' : Value} {w' : World}
  (hr : (Builtin.copy_ #[t, t'] o.type #[v, u]).run P w = .ok v' w') (h : K (a.put o.dst v') w') : o.wp P a w K Q := by
 unfold Oper.wp execOp
 simp only [ho, resolve, invoke, builtin, Sem.run_bind, Sem.run_pure, Result.andThen_ok, List.map_toArray, List.map_cons, List.map_nil, hd, hs, hr]
 exact h
theorem wpList_copy_run2 {P : Program} (w : World) {ops : Array Oper} {rest : List Oper} {o : Oper} {a : Act} {Q : Exit → Act → World → Prop} (hgd : o.guard = none) (d s : Operand) (t t' : TypeId)
  (ho : o.op = .call { callee := .builtin .copy, args := #[d, s], argTypes := #[t, t'] }) (v u : Value) (hd : a.eval d = v) (hs : a.eval s = u) {v' : Value} {w' : World}
  (hr : (Builtin.copy_ #[t, t'] o.type #[v, u]).run P w = .ok v' w') (h : wpList P ops Q rest (a.put o.dst v') w') : wpList P ops Q (o :: rest) a w :=
 wpList_plain hgd fun _ hK => wp_copy_run2 w d s t t' ho v u hd hs hr (hK _ _ h)
theorem step_copy_run2 {P : Program} {ops : Array Oper} {o : Oper} {a : Act} {w : World} {K : Act → World → Prop} {Q : Exit → Act → World → Prop} {E : Prop}
  (hg : o.guard = none) (d x : Operand) (dT sT : TypeId) (hop : o.op = Op.call { callee := Callee.builtin Builtin.copy, args := #[d, x], argTypes := #[dT, sT] })
  (v u : Value) (hd : a.eval d = v) (hx : a.eval x = u) {v' : Value} {w' : World} (hr : (Builtin.copy_ #[dT, sT] o.type #[v, u]).run P w = .ok v' w') (hK : K (a.put o.dst v') w') :
  if Region.wanted o (yielded ops a.tmps) = true then Oper.wp P o a w K Q else E := by
 have hw : Region.wanted o (yielded ops a.tmps) = true := by simp [Region.wanted, hg]
 rw [if_pos hw]
 unfold Oper.wp
 simp [execOp, hop, resolve, invoke, builtin, hd, hx, hr, Result.andThen]
 exact hK
/-- At the end, there is room: in place. -/
theorem ins_end_room (b n c vb vc : Nat) (vs : List Value) (w : World) (hroom : n + 1 ≤ c)
  (hvl : vs.length = 2) (hsp : ∀ j, j < 2 → (w.cell? ⟨b, n * 2 + j, none⟩).isSome = true) (hfz : ∀ j, j < 2 → w.frozen? ⟨b, n * 2 + j, none⟩ = false)
  (hvs : ∀ j v, vs[j]? = some v → w.cell? ⟨vb, j, none⟩ = some v) (h1v : ∀ v ∈ vs, v.oneCell' = true) :
  Calls Tryz.prog 97 #[.slice (some ⟨b, 0, none⟩) n c, .int .i64 n, .slice (some ⟨vb, 0, none⟩) 1 vc] w fun e w' =>
   e = .returned (.slice (some ⟨b, 0, none⟩) (n + 1) c) ∧ w' = w.setCells b (n * 2) vs := by
 have t0 := Tryz.underlying0; have a0 := Tryz.isAgg0; have z0 := Tryz.sizeOf0; have v0 := Tryz.zeroValue0
 have t3 := Tryz.underlying3; have a3 := Tryz.isAgg3; have z3 := Tryz.sizeOf3; have v3 := Tryz.zeroValue3
 have t4 := Tryz.underlying4; have a4 := Tryz.isAgg4; have z4 := Tryz.sizeOf4; have v4 := Tryz.zeroValue4
 have t38 := Tryz.underlying38; have a38 := Tryz.isAgg38; have z38 := Tryz.sizeOf38; have v38 := Tryz.zeroValue38
 have t39 := Tryz.underlying39; have a39 := Tryz.isAgg39; have z39 := Tryz.sizeOf39; have v39 := Tryz.zeroValue39
 have u0 := run_underlying t0; have u3 := run_underlying t3; have u4 := run_underlying t4; have u38 := run_underlying t38; have u39 := run_underlying t39
 have mixed : Tryz.prog.follows .mixedOrders = true := by kernel_rfl
 obtain ⟨i0, hi0, hz0, hzs, hzb⟩ := info2 i38
 have hsrc : Src Tryz.prog i0.size 39 (.slice (some ⟨vb, 0, none⟩) 1 vc) 1 vs w := by
  rw [hzs]
  exact Src.ofSlice w t39 ⟨vb, 0, none⟩ 1 vc vs (by omega) (fun j u hj => by rw [Addr.add_lit, Nat.zero_add]; exact hvs j u hj) h1v
 go_enter Tryz.func97, Tryz.ntmps97
 go_wp2_with (at_builtin; refine wpList_append_room_src _ rfl _ _ 39 39 rfl 38 _ t39 hi0 b 0 n c rfl _ rfl 1 vs hsrc hroom (by rw [hvl, hzs, Nat.zero_add]; exact hsp) (by rw [hvl, hzs, Nat.zero_add]; exact hfz) ?_)
 go_ret
 first | exact ⟨rfl, by rw [hzs, Nat.zero_add]⟩ | exact ⟨rfl, by simp [hzs]⟩ | exact ⟨rfl, rfl⟩
end Go.Aw.Try

namespace Go.Aw.Try
open Go Go.Proofs Go.RowKit Go.Lib
set_option maxRecDepth 100000
set_option maxHeartbeats 4000000
theorem isSome_cells (b : Nat) (vs : List Value) (o : Nat) (w : World) (h : ∀ j, j < vs.length → (w.cell? ⟨b, o + j, none⟩).isSome = true) (k : Nat) (hk : (w.cell? ⟨b, k, none⟩).isSome = true) : ((w.setCells b o vs).cell? ⟨b, k, none⟩).isSome = true := by
 by_cases hin : o ≤ k ∧ k < o + vs.length
 ·have := World.cell?_setCells_in b vs o w h (k - o) (by omega)
  rw [show o + (k - o) = k by omega] at this
  rw [this]; rfl
 ·rw [World.cell?_setCells_out b vs o w ⟨b, k, none⟩ (fun _ _ => by show k < o ∨ o + vs.length ≤ k; omega)]
  exact hk
/-- In the middle, there is room: in place. -/
theorem ins_shift (b n c i vb vc : Nat) (cs vs : List Value) (w : World) (hi : i < n) (hn30 : n < 1073741824) (hroom : n + 1 ≤ c) (hvb : vb ≠ b)
  (hcl : cs.length = n * 2) (hvl : vs.length = 2)
  (hcs : ∀ j v, cs[j]? = some v → w.cell? ⟨b, j, none⟩ = some v) (hsp : ∀ j, j < (n + 1) * 2 → (w.cell? ⟨b, j, none⟩).isSome = true) (hfz : ∀ j, j < (n + 1) * 2 → w.frozen? ⟨b, j, none⟩ = false)
  (hvs : ∀ j v, vs[j]? = some v → w.cell? ⟨vb, j, none⟩ = some v) (h1c : ∀ v ∈ cs, v.oneCell' = true) (h1v : ∀ v ∈ vs, v.oneCell' = true)
  (tA tB : TypeId) (kA kB : Nat) (hsa : w.shape? vb = some (tA, kA)) (hsb : w.shape? b = some (tB, kB)) (hkB : kB ≠ 0) (hfa : w.frozen? ⟨vb, 0, none⟩ = false) (hfe : w.frozen? ⟨vb, kA, none⟩ = false) :
  Calls Tryz.prog 97 #[.slice (some ⟨b, 0, none⟩) n c, .int .i64 i, .slice (some ⟨vb, 0, none⟩) 1 vc] w fun e w' =>
   e = .returned (.slice (some ⟨b, 0, none⟩) (n + 1) c) ∧ w' = (w.drew.setCells b ((i + 1) * 2) (cs.drop (i * 2))).setCells b (i * 2) vs := by
 have t0 := Tryz.underlying0; have a0 := Tryz.isAgg0; have z0 := Tryz.sizeOf0; have v0 := Tryz.zeroValue0
 have t3 := Tryz.underlying3; have a3 := Tryz.isAgg3; have z3 := Tryz.sizeOf3; have v3 := Tryz.zeroValue3
 have t4 := Tryz.underlying4; have a4 := Tryz.isAgg4; have z4 := Tryz.sizeOf4; have v4 := Tryz.zeroValue4
 have t38 := Tryz.underlying38; have a38 := Tryz.isAgg38; have z38 := Tryz.sizeOf38; have v38 := Tryz.zeroValue38
 have t39 := Tryz.underlying39; have a39 := Tryz.isAgg39; have z39 := Tryz.sizeOf39; have v39 := Tryz.zeroValue39
 have u0 := run_underlying t0; have u3 := run_underlying t3; have u4 := run_underlying t4; have u38 := run_underlying t38; have u39 := run_underlying t39
 have mixed : Tryz.prog.follows .mixedOrders = true := by kernel_rfl
 have hz2 : ¬ ((i : Int) = (n : Int)) := by omega
 have hsz : (Tryz.prog.info? 38).map (·.size) = some 2 := by
  obtain ⟨i0, hi0, h0, h1, h2⟩ := info2 i38
  rw [hi0]; simp [h1]
 have hov : ∀ lb cb, (callFunc 130 #[.slice (some ⟨vb, 0, none⟩) 1 vc, .slice (some ⟨b, (i + 1) * 2, none⟩) lb cb]).run Tryz.prog w = .ok (.value (.bool false)) w := fun lb cb => by
  rw [run_callFunc_extern Tryz.func130 (by kernel_rfl) (by kernel_rfl) (by kernel_rfl) (e := Extern.SlicesOverlaps.overlaps #[39, 39] #[4]) (by kernel_rfl),
   Lib.run_overlaps_apart w 39 4 38 t39 2 z38 ⟨vb, 0, none⟩ ⟨b, (i + 1) * 2, none⟩ 1 vc lb cb hvb tA tB kA kB hsa hsb hkB hfa hfe]
  rfl
 have hdl : (cs.drop (i * 2)).length = (n - i) * 2 := by rw [List.length_drop, hcl]; omega
 have hw1 : IntKind.i64.wrap ((i : Int) + 1) = (i : Int) + 1 := by rw [IntKind.wrap_i64]; omega
 have hb1 : (0 : Int) ≤ (i : Int) + 1 := by omega
 have hin : i ≤ n := by omega
 have htn : ((i : Int) + 1).toNat = i + 1 := by omega
 have hb2 : ¬ (c = i + 1) := by omega
 have hb3 : (i : Int) ≤ (n : Int) + 1 := by omega
 have hb4 : ¬ (c = i) := by omega
 have hcp1 : ∀ ty dc sc, (Builtin.copy_ #[39, 39] ty #[.slice (some ⟨b, (i + 1) * 2, none⟩) (n - i) dc, .slice (some ⟨b, i * 2, none⟩) (n + 1 - i) sc]).run Tryz.prog w.drew = .ok (goInt (Nat.min (n + 1 - i) (n - i))) (w.drew.setCells b ((i + 1) * 2) (cs.drop (i * 2))) := fun ty dc sc =>
  run_copy_any w.drew _ _ ty 38 2 b ((i + 1) * 2) (n - i) dc ⟨b, i * 2, none⟩ (n + 1 - i) sc (cs.drop (i * 2)) t39 hsz (by rw [hdl]; simp only [Nat.min_def]; split <;> omega)
   (fun j v hj => by rw [Addr.add_lit]; exact hcs (i * 2 + j) v (by rwa [List.getElem?_drop] at hj))
   (fun j hj => hsp _ (by omega)) (fun j hj => hfz _ (by omega)) (fun v hv => h1c v (List.mem_of_mem_drop hv))
 obtain ⟨W1, hW1⟩ : ∃ W1, W1 = w.drew.setCells b ((i + 1) * 2) (cs.drop (i * 2)) := ⟨_, rfl⟩
 have hsp1 : ∀ k, k < (n + 1) * 2 → (W1.cell? ⟨b, k, none⟩).isSome = true := fun k hk => by
  rw [hW1]
  exact isSome_cells b (cs.drop (i * 2)) ((i + 1) * 2) w.drew (fun j hj => hsp _ (by omega)) _ (hsp k hk)
 have hcp2 : ∀ (W : World), (∀ x, W.cell? x = W1.cell? x) → (∀ x, W.frozen? x = W1.frozen? x) → ∀ ty dc, (Builtin.copy_ #[39, 39] ty #[.slice (some ⟨b, i * 2, none⟩) (n + 1 - i) dc, .slice (some ⟨vb, 0, none⟩) 1 vc]).run Tryz.prog W = .ok (goInt (Nat.min 1 (n + 1 - i))) (W.setCells b (i * 2) vs) := fun W hWc hWf ty dc =>
  run_copy_any W _ _ ty 38 2 b (i * 2) (n + 1 - i) dc ⟨vb, 0, none⟩ 1 vc vs t39 hsz (by rw [hvl]; simp only [Nat.min_def]; split <;> omega)
   (fun j v hj => by
    rw [Addr.add_lit, hWc, hW1, World.cell?_setCells_out b _ _ _ _ (fun h _ => absurd h hvb), Nat.zero_add]
    exact hvs j v hj)
   (fun j hj => by rw [hWc]; exact hsp1 _ (by omega)) (fun j hj => by rw [hWf, hW1, World.frozen?_setCells]; exact hfz _ (by omega)) h1v
 rw [← hW1] at hcp1
 go_enter Tryz.func97, Tryz.ntmps97
 go_wp2_with (simp only [hov])
 go_region_law_o (refine step_copy_run2 rfl _ _ 39 39 rfl _ _ (by simp [Act.eval, Act.put]) (by simp [Act.eval, Act.put]) (hcp1 _ _ _) ?_)
 go_wp2_with (at_builtin; refine wpList_copy_run2 _ rfl _ _ 39 39 rfl _ _ rfl rfl (hcp2 _ (fun _ => rfl) (fun _ => rfl) _ _) ?_)
 go_ret
 first | exact ⟨rfl, rfl⟩ | exact ⟨rfl, by rw [hW1]⟩
end Go.Aw.Try

namespace Go.Aw.Try
open Go Go.Proofs Go.RowKit Go.Lib
set_option maxRecDepth 100000
set_option maxHeartbeats 4000000
/-- In the middle, no room: a new row. -/
theorem ins_grow (b n c i vb vc : Nat) (cs vs : List Value) (w : World) (hi : i < n) (hnc : n ≤ c) (hroom : c < n + 1) (hbig : (n + 1) * 24 ≤ 140737488355328)
  (hcl : cs.length = n * 2) (hvl : vs.length = 2)
  (hcs : ∀ j v, cs[j]? = some v → w.cell? ⟨b, j, none⟩ = some v)
  (hvs : ∀ j v, vs[j]? = some v → w.cell? ⟨vb, j, none⟩ = some v) (h1c : ∀ v ∈ cs, v.oneCell' = true) (h1v : ∀ v ∈ vs, v.oneCell' = true) :
  Calls Tryz.prog 97 #[.slice (some ⟨b, 0, none⟩) n c, .int .i64 i, .slice (some ⟨vb, 0, none⟩) 1 vc] w fun e w' =>
   e = .returned (.slice (some ⟨w.heap.size, 0, none⟩) (n + 1) (grownCap w (n + 1) c 38)) ∧
   w' = (((w.alloc (.cells ((cs.take (i * 2)).toArray ++ Builtin.zeroCells zId.cells (n + 1 - i) ++ Builtin.zeroCells zId.cells (grownCap w (n + 1) c 38 - (n + 1))) 38)).drew.setCells w.heap.size (i * 2) vs).drew).setCells w.heap.size ((i + 1) * 2) (cs.drop (i * 2)) := by
 have t0 := Tryz.underlying0; have a0 := Tryz.isAgg0; have z0 := Tryz.sizeOf0; have v0 := Tryz.zeroValue0
 have t3 := Tryz.underlying3; have a3 := Tryz.isAgg3; have z3 := Tryz.sizeOf3; have v3 := Tryz.zeroValue3
 have t4 := Tryz.underlying4; have a4 := Tryz.isAgg4; have z4 := Tryz.sizeOf4; have v4 := Tryz.zeroValue4
 have t38 := Tryz.underlying38; have a38 := Tryz.isAgg38; have z38 := Tryz.sizeOf38; have v38 := Tryz.zeroValue38
 have t39 := Tryz.underlying39; have a39 := Tryz.isAgg39; have z39 := Tryz.sizeOf39; have v39 := Tryz.zeroValue39
 have u0 := run_underlying t0; have u3 := run_underlying t3; have u4 := run_underlying t4; have u38 := run_underlying t38; have u39 := run_underlying t39
 have mixed : Tryz.prog.follows .mixedOrders = true := by kernel_rfl
 obtain ⟨i0, hi0, hz0, hzs, hzb⟩ := info2 i38
 have hz2 : ¬ ((i : Int) = (n : Int)) := by omega
 have hz3 : (c : Int) < (n : Int) + 1 := by omega
 have hsz : (Tryz.prog.info? 38).map (·.size) = some 2 := by rw [hi0]; simp [hzs]
 have hbw : b < w.heap.size := block_lt_of_cell (hcs 0 _ (List.getElem?_eq_getElem (by omega)))
 have hvw : vb < w.heap.size := block_lt_of_cell (hvs 0 _ (List.getElem?_eq_getElem (by omega)))
 have hkk : (n : Int) + 1 - (i : Int) = ((n + 1 - i : Nat) : Int) := by omega
 have hik : i + (n + 1 - i) = n + 1 := by omega
 have hold : (Builtin.firstCells i0.size i (.slice (some ⟨b, 0, none⟩) i c)).run Tryz.prog w.drew = .ok (cs.take (i * 2)).toArray w.drew := by
  rw [hzs]
  exact run_firstCells_some w.drew 2 i ⟨b, 0, none⟩ i c (cs.take (i * 2)) (by rw [List.length_take]; omega) (fun j v hj => by
   rw [Addr.add_lit, Nat.zero_add]
   rw [List.getElem?_take] at hj
   split at hj
   ·exact hcs j v hj
   ·cases hj)
 have hrz : ∀ ty, (Builtin.append_ #[39, 3] ty #[.slice (some ⟨b, 0, none⟩) i c, .int .i64 ((n : Int) + 1 - (i : Int))]).run Tryz.prog w =
   .ok (.slice (some ⟨w.heap.size, 0, none⟩) (n + 1) (grownCap w (n + 1) c 38)) (w.drew.alloc (.cells ((cs.take (i * 2)).toArray ++ Builtin.zeroCells zId.cells (n + 1 - i) ++ Builtin.zeroCells zId.cells (grownCap w (n + 1) c 38 - (n + 1))) 38)) := fun ty => by
  have h := Lib.run_append_grow_zeros w 39 3 ty 38 i0 _ .i64 .i64 t39 t3 hi0 hz0 (some ⟨b, 0, none⟩) i c (cs.take (i * 2)) hold (n + 1 - i) (by omega) (by omega) (by omega) (by omega) (by rw [hzb]; omega) (by rw [hzb, hik]; exact growslice_fits hroom hbig)
  rw [hik] at h
  rw [hkk]
  exact h
 obtain ⟨G, hG⟩ : ∃ G, G = grownCap w (n + 1) c 38 := ⟨_, rfl⟩
 obtain ⟨ROW, hROW⟩ : ∃ ROW : Array Value, ROW = (cs.take (i * 2)).toArray ++ Builtin.zeroCells zId.cells (n + 1 - i) ++ Builtin.zeroCells zId.cells (G - (n + 1)) := ⟨_, rfl⟩
 rw [← hG] at hrz ⊢
 rw [← hROW] at hrz ⊢
 have hRl : (n + 1) * 2 ≤ ROW.size := by
  rw [hROW]
  simp [Builtin.zeroCells, Value.cells]
  omega
 obtain ⟨W1, hW1⟩ : ∃ W1, W1 = w.drew.alloc (.cells ROW 38) := ⟨_, rfl⟩
 rw [← hW1] at hrz
 have hN : ∀ j, j < (n + 1) * 2 → (W1.cell? ⟨w.heap.size, j, none⟩).isSome = true := fun j hj => by
  rw [hW1, World.cell?_alloc_at (w := w.drew) ROW _ w.heap.size j rfl, Array.getElem?_eq_getElem (by omega)]; rfl
 have hNf : ∀ j, W1.frozen? ⟨w.heap.size, j, none⟩ = false := fun j => by rw [hW1]; exact World.frozen?_alloc_at (w := w.drew) ROW _ w.heap.size j rfl
 have hOb : ∀ j v, w.cell? ⟨b, j, none⟩ = some v → W1.cell? ⟨b, j, none⟩ = some v := fun j v h => by rw [hW1, World.cell?_alloc_past (w := w.drew) _ b j hbw]; exact h
 have hOv : ∀ j v, w.cell? ⟨vb, j, none⟩ = some v → W1.cell? ⟨vb, j, none⟩ = some v := fun j v h => by rw [hW1, World.cell?_alloc_past (w := w.drew) _ vb j hvw]; exact h
 have hcpA : ∀ (W : World), (∀ x, W.cell? x = W1.cell? x) → (∀ x, W.frozen? x = W1.frozen? x) → ∀ ty dc, (Builtin.copy_ #[39, 39] ty #[.slice (some ⟨w.heap.size, i * 2, none⟩) (n + 1 - i) dc, .slice (some ⟨vb, 0, none⟩) 1 vc]).run Tryz.prog W = .ok (goInt (Nat.min 1 (n + 1 - i))) (W.setCells w.heap.size (i * 2) vs) := fun W hWc hWf ty dc =>
  run_copy_any W _ _ ty 38 2 w.heap.size (i * 2) (n + 1 - i) dc ⟨vb, 0, none⟩ 1 vc vs t39 hsz (by rw [hvl]; simp only [Nat.min_def]; split <;> omega)
   (fun j v hj => by rw [Addr.add_lit, hWc, Nat.zero_add]; exact hOv _ v (hvs j v hj))
   (fun j hj => by rw [hWc]; exact hN _ (by omega)) (fun j hj => by rw [hWf]; exact hNf _) h1v
 have hGn : n + 1 ≤ G := by rw [hG]; exact grownCap_ge w _ _ _
 have hG63 : G ≤ 9223372036854775807 := by
  have := grownCap_le_maxLen w (n + 1) c 38 (by unfold maxLen; omega)
  rw [← hG] at this
  unfold maxLen at this
  omega
 have hGi : ¬ (G = i) := by omega
 have hGim : ¬ (G = i + 1) := by omega
 have hci : ¬ (c = i) := by omega
 have hbN : b ≠ w.heap.size := by omega
 have hdl : (cs.drop (i * 2)).length = (n - i) * 2 := by rw [List.length_drop, hcl]; omega
 have hcpB : ∀ (W : World), (∀ x, W.cell? x = (W1.setCells w.heap.size (i * 2) vs).cell? x) → (∀ x, W.frozen? x = (W1.setCells w.heap.size (i * 2) vs).frozen? x) → ∀ ty dc sc, (Builtin.copy_ #[39, 39] ty #[.slice (some ⟨w.heap.size, (i + 1) * 2, none⟩) (n - i) dc, .slice (some ⟨b, i * 2, none⟩) (n - i) sc]).run Tryz.prog W = .ok (goInt (Nat.min (n - i) (n - i))) (W.setCells w.heap.size ((i + 1) * 2) (cs.drop (i * 2))) := fun W hWc hWf ty dc sc =>
  run_copy_any W _ _ ty 38 2 w.heap.size ((i + 1) * 2) (n - i) dc ⟨b, i * 2, none⟩ (n - i) sc (cs.drop (i * 2)) t39 hsz (by rw [hdl]; simp only [Nat.min_def]; split <;> omega)
   (fun j v hj => by
    rw [Addr.add_lit, hWc, World.cell?_setCells_out _ _ _ _ _ (fun h _ => absurd h hbN)]
    exact hOb _ v (hcs (i * 2 + j) v (by rwa [List.getElem?_drop] at hj)))
   (fun j hj => by rw [hWc]; exact isSome_cells w.heap.size vs (i * 2) W1 (fun t ht => hN _ (by omega)) _ (hN _ (by omega)))
   (fun j hj => by rw [hWf, World.frozen?_setCells]; exact hNf _) (fun v hv => h1c v (List.mem_of_mem_drop hv))
 subst hW1
 have hE1 : ∀ x, ((w.alloc (.cells ROW 38)).drew).cell? x = (w.drew.alloc (.cells ROW 38)).cell? x := fun x => rfl
 have hE2 : ∀ x, ((w.alloc (.cells ROW 38)).drew).frozen? x = (w.drew.alloc (.cells ROW 38)).frozen? x := fun x => rfl
 have hF1 : ∀ x, (((w.alloc (.cells ROW 38)).drew.setCells w.heap.size (i * 2) vs).drew).cell? x = ((w.drew.alloc (.cells ROW 38)).setCells w.heap.size (i * 2) vs).cell? x := fun x => rfl
 have hF2 : ∀ x, (((w.alloc (.cells ROW 38)).drew.setCells w.heap.size (i * 2) vs).drew).frozen? x = ((w.drew.alloc (.cells ROW 38)).setCells w.heap.size (i * 2) vs).frozen? x := fun x => rfl
 have hw1 : IntKind.i64.wrap ((i : Int) + 1) = (i : Int) + 1 := by rw [IntKind.wrap_i64]; omega
 have hb1 : (0 : Int) ≤ (i : Int) + 1 := by omega
 have hin : i ≤ n := by omega
 have htn : ((i : Int) + 1).toNat = i + 1 := by omega
 have hb3 : (i : Int) ≤ (n : Int) := by omega
 clear hkk hik hold hROW hG hRl
 go_enter Tryz.func97, Tryz.ntmps97
 go_wp2_with (first
  | (at_builtin; refine Lib.wpList_append_run _ rfl _ _ _ _ rfl _ _ rfl rfl _ _ (hrz _) ?_)
  | (at_builtin; refine wpList_copy_run2 _ rfl _ _ 39 39 rfl _ _ rfl rfl (hcpA _ hE1 hE2 _ _) ?_)
  | (at_builtin; refine wpList_copy_run2 _ rfl _ _ 39 39 rfl _ _ rfl rfl (hcpB _ (fun _ => rfl) (fun _ => rfl) _ _ _) ?_))
 go_region_law_o (refine step_copy_run2 rfl _ _ 39 39 rfl (.slice (some ⟨w.heap.size, (i + 1) * 2, none⟩) (n - i) (G - (i + 1))) (.slice (some ⟨b, i * 2, none⟩) (n - i) (c - i)) (by simp [Act.eval, Act.put]) (by simp [Act.eval, Act.put]) (hcpB _ hF1 hF2 3 (G - (i + 1)) (c - i)) ?_)
 go_wp2
 go_ret
 exact ⟨rfl, rfl⟩
end Go.Aw.Try

namespace Go.Aw.Try
open Go Go.Proofs Go.Aw
set_option maxRecDepth 100000
set_option maxHeartbeats 4000000
theorem setRow_setB (w : World) (g : Nat) (cur cs : Array Value) (t : TypeId) (hg : w.heap[g]? = some (.cells cur t (0, 0))) : w.setRow g cs = setB w g (.cells cs t (0, 0)) := by
 have hlt : g < w.heap.size := (Array.getElem?_eq_some_iff.1 hg).1
 have hv : w.heap[g] = .cells cur t (0, 0) := (Array.getElem?_eq_some_iff.1 hg).2
 have hh : (w.setRow g cs).heap = (setB w g (.cells cs t (0, 0))).heap := by
  unfold World.setRow setB
  dsimp only
  apply Array.ext_getElem?
  intro i
  rw [Array.getElem?_modify]
  by_cases q : g = i
  ·subst q
   rw [if_pos rfl, hg, Array.getElem?_setIfInBounds_self_of_lt hlt]
   rfl
  ·rw [if_neg q, Array.getElem?_setIfInBounds_ne q]
 show ({ w with heap := (w.setRow g cs).heap } : World) = { w with heap := (setB w g (.cells cs t (0, 0))).heap }
 rw [hh]
theorem setCells_B (w : World) (g o : Nat) (cur : Array Value) (t : TypeId) (cs : List Value) (hg : w.heap[g]? = some (.cells cur t (0, 0))) (hfit : o + cs.length ≤ cur.size) (h1 : ∀ v ∈ cs, v.oneCell' = true) :
  ∃ F : Array Value, w.setCells g o cs = setB w g (.cells F t (0, 0)) ∧ F.size = cur.size ∧ ∀ k, F[k]? = if k < o then cur[k]? else if k < o + cs.length then cs[k - o]? else cur[k]? := by
 refine ⟨_, (setCells_row w g o cur t cs hg hfit h1).trans (setRow_setB w g cur _ t hg), ?_, fun k => ?_⟩
 ·simp; omega
 ·rw [List.getElem?_toArray]
  have hl : (cur.toList.take o).length = o := by simp; omega
  by_cases h1 : k < o
  ·rw [if_pos h1, List.append_assoc, List.getElem?_append_left (by omega), List.getElem?_take, if_pos h1]; simp
  ·rw [if_neg h1, List.append_assoc, List.getElem?_append_right (by omega), hl]
   by_cases h2 : k < o + cs.length
   ·rw [if_pos h2, List.getElem?_append_left (by omega)]
   ·rw [if_neg h2, List.getElem?_append_right (by omega), List.getElem?_drop]
    simp; congr 1; omega
/-- A row's cells, of Ids. -/
def PreI (c : Array Value) (l : List Id) : Prop := l.length * 2 ≤ c.size ∧ ∀ i x, l[i]? = some x → c[i * 2]? = some (.string x.a) ∧ c[i * 2 + 1]? = some (.int .i64 x.n)
theorem preI_of {S : Nat → Prop} {w : World} {c : Array Value} {l : List Id} (h : RowRel S w c 2 (l.map Id.row)) : PreI c l := by
 refine ⟨by have := h.1; rwa [List.length_map] at this, fun i x hx => ?_⟩
 have hx2 : (l.map Id.row)[i]? = some x.row := by rw [List.getElem?_map, hx]; rfl
 obtain ⟨u, hu, hd⟩ := h.2.2 i x.row 0 _ hx2 rfl
 obtain ⟨v, hv, hd2⟩ := h.2.2 i x.row 1 _ hx2 rfl
 rw [drel_v hd] at hu; rw [drel_v hd2] at hv
 exact ⟨hu, hv⟩
theorem preI_row {S : Nat → Prop} {w : World} {c : Array Value} {l : List Id} (h : PreI c l) : RowRel S w c 2 (l.map Id.row) := by
 refine ⟨by rw [List.length_map]; exact h.1, fun x hx => ?_, fun i x j d hi hj => ?_⟩
 ·obtain ⟨y, _, rfl⟩ := List.mem_map.1 hx; rfl
 ·rw [List.getElem?_map] at hi
  cases hp : l[i]? with
  | none => rw [hp] at hi; cases hi
  | some y =>
   rw [hp] at hi; injection hi with hi; subst hi
   obtain ⟨h1, h2⟩ := h.2 i y hp
   match j with
   | 0 => injection hj with hj; subst hj; exact ⟨_, h1, DRel.v _ rfl⟩
   | 1 => injection hj with hj; subst hj; exact ⟨_, h2, DRel.v _ rfl⟩
   | j + 2 => simp [Id.row] at hj
def insAt (l : List Id) (i : Nat) (x : Id) : List Id := l.take i ++ x :: l.drop i
theorem insAt_len {l : List Id} {i : Nat} {x : Id} (h : i ≤ l.length) : (insAt l i x).length = l.length + 1 := by
 unfold insAt; simp; omega
theorem insAt_get {l : List Id} {i : Nat} {x : Id} (h : i ≤ l.length) (k : Nat) : (insAt l i x)[k]? = if k < i then l[k]? else if k = i then some x else l[k - 1]? := by
 unfold insAt
 have hl : (l.take i).length = i := by simp; omega
 by_cases h1 : k < i
 ·rw [if_pos h1, List.getElem?_append_left (by omega), List.getElem?_take, if_pos h1]
 ·rw [if_neg h1, List.getElem?_append_right (by omega), hl]
  by_cases h2 : k = i
  ·rw [if_pos h2, h2, Nat.sub_self]; rfl
  ·rw [if_neg h2]
   obtain ⟨d, hd⟩ : ∃ d, k - i = d + 1 := ⟨k - i - 1, by omega⟩
   rw [hd, List.getElem?_cons_succ, List.getElem?_drop]
   congr 1; omega
/-- Cells that hold a row of Ids with one more. -/
theorem preI_ins {c F : Array Value} {l : List Id} {i : Nat} {x : Id} (hi : i ≤ l.length) (hc : PreI c l) (hsz : (l.length + 1) * 2 ≤ F.size)
  (hF : ∀ k, k < (l.length + 1) * 2 → F[k]? = if k < i * 2 then c[k]? else if k = i * 2 then some (.string x.a) else if k = i * 2 + 1 then some (.int .i64 x.n) else c[k - 2]?) : PreI F (insAt l i x) := by
 refine ⟨by rw [insAt_len hi]; exact hsz, fun k y hk => ?_⟩
 have hkl : k < l.length + 1 := by
  rw [← insAt_len (x := x) hi]; exact (List.getElem?_eq_some_iff.1 hk).1
 rw [insAt_get hi] at hk
 rw [hF (k * 2) (by omega), hF (k * 2 + 1) (by omega)]
 by_cases h1 : k < i
 ·rw [if_pos h1] at hk
  rw [if_pos (by omega), if_pos (by omega)]
  exact hc.2 k y hk
 ·rw [if_neg h1] at hk
  by_cases h2 : k = i
  ·rw [if_pos h2] at hk; injection hk with hk; subst hk
   rw [if_neg (by omega), if_pos (by omega), if_neg (by omega), if_neg (by omega), if_pos (by omega)]
   exact ⟨rfl, rfl⟩
  ·rw [if_neg h2] at hk
   rw [if_neg (by omega), if_neg (by omega), if_neg (by omega), if_neg (by omega), if_neg (by omega), if_neg (by omega)]
   have := hc.2 (k - 1) y hk
   rw [show k * 2 - 2 = (k - 1) * 2 by omega, show k * 2 + 1 - 2 = (k - 1) * 2 + 1 by omega]
   exact this
/-- Worlds with the same blocks. -/
theorem step_same {w w' : World} (h : w'.heap = w.heap) (h1 : w'.os = w.os) (h2 : w'.tape = w.tape) (h3 : w'.output = w.output) : Step (allB w) w (allB w') w' := by
 refine ⟨fun b hb => ?_, fun b _ => by rw [h], by rw [h]; exact Nat.le_refl _, fun b e n hs => ?_, h1, h2, h3⟩
 ·unfold allB at hb ⊢; rw [h]; exact hb
 ·rw [shape?_eq, h, ← shape?_eq]; exact hs
/-- What Insert leaves. -/
def InsR (H : List O) (r : Nat) (l' : List Id) : T → List O → Prop := fun t H' => t = .v (.c (.os H.length 2 0 l'.length)) ∧ H' = H.set r .dead ++ [.row 2 (l'.map Id.row)]
theorem ins_in {P : Program} {ρ : Nat → Option Nat} {H : List O} {w w' : World} {r b cp : Nat} {l l' : List Id} {c F : Array Value} {e : TypeId} (hH : HRel P ρ H w) (hr : H[r]? = some (.row 2 (l.map Id.row))) (hρ : ρ r = some b)
  (hb : w.heap[b]? = some (.cells c e (0, 0))) (hs : F.size = c.size) (hF : PreI F l') (h1 : l'.length ≤ cp) (h2 : cp * 2 ≤ c.size)
  (k0 : w'.heap = (setB w b (.cells F e (0, 0))).heap) (k1 : w'.os = w.os) (k2 : w'.tape = w.tape) (k3 : w'.output = w.output) :
  ∃ t ρ' H', InsR H r l' t H' ∧ HRel P ρ' H' w' ∧ TRel P (ctx ρ' H' w') t (.slice (some ⟨b, 0, none⟩) l'.length cp) ∧ (ctx ρ H w).le (ctx ρ' H' w') := by
 obtain ⟨g1, le1⟩ := hole_behind hH
 have hrl : r < H.length := lt_of_get hr
 have hid : (H ++ [O.hole])[H.length]? = some .hole := by simp
 have hr2 : (H ++ [O.hole])[r]? = some (.row 2 (l.map Id.row)) := by rw [List.getElem?_append_left hrl]; exact hr
 have hset : ((H ++ [O.hole]).set r .dead).set H.length (.row 2 (l'.map Id.row)) = H.set r .dead ++ [.row 2 (l'.map Id.row)] := by
  rw [List.set_append_left _ _ hrl]
  have := set_snoc (H := H.set r .dead) (o := O.hole) (o' := .row 2 (l'.map Id.row))
  rwa [List.length_set] at this
 have hshp : Obj.shape (.cells F e (0, 0)) = Obj.shape (.cells c e (0, 0)) := by simp [Obj.shape, hs]
 obtain ⟨lm, hm⟩ := g1.move hr2 rfl hρ hid (o' := .row 2 (l'.map Id.row)) rfl hb hshp
 have hbl := (hH.small r b hρ).2
 have h3 := hm ⟨by omega, .inr ⟨b, F, e, rfl, setB_same _ _ _ hbl, preI_row hF⟩⟩
 rw [hset] at h3 lm
 obtain ⟨h4, le4⟩ := h3.grow (step_same k0 k1 k2 k3)
 refine ⟨_, _, _, ⟨rfl, rfl⟩, h4, ?_, (le1.trans lm).trans le4⟩
 refine ⟨by simp [ctx], .inr ⟨b, cp, e, F.size, upd_same _ _ _, by simp, h1, ?_, by omega⟩⟩
 show w'.shape? b = _
 rw [shape?_eq, k0, setB_same _ _ _ hbl]; rfl
theorem ins_new {P : Program} {ρ : Nat → Option Nat} {H : List O} {w w' : World} {r cp : Nat} {l l' : List Id} {F : Array Value} {e : TypeId} (hH : HRel P ρ H w) (hr : H[r]? = some (.row 2 (l.map Id.row)))
  (hF : PreI F l') (h1 : l'.length ≤ cp) (h2 : cp * 2 ≤ F.size)
  (k0 : w'.heap = (pushO w (.cells F e (0, 0))).heap) (k1 : w'.os = w.os) (k2 : w'.tape = w.tape) (k3 : w'.output = w.output) :
  ∃ t ρ' H', InsR H r l' t H' ∧ HRel P ρ' H' w' ∧ TRel P (ctx ρ' H' w') t (.slice (some ⟨w.heap.size, 0, none⟩) l'.length cp) ∧ (ctx ρ H w).le (ctx ρ' H' w') := by
 have hrl : r < H.length := lt_of_get hr
 have g0 := hH.drop r .dead rfl trivial
 have le0 : (ctx ρ H w).le (ctx ρ (H.set r .dead) w) := le_drop r .dead rfl
 obtain ⟨g1, le1⟩ := hole_behind g0
 have hid : (H.set r .dead ++ [O.hole])[H.length]? = some .hole := by
  rw [List.getElem?_append_right (by simp)]; simp
 have hset : (H.set r .dead ++ [O.hole]).set H.length (.row 2 (l'.map Id.row)) = H.set r .dead ++ [.row 2 (l'.map Id.row)] := by
  have := set_snoc (H := H.set r .dead) (o := O.hole) (o' := .row 2 (l'.map Id.row))
  rwa [List.length_set] at this
 have le2 := g1.le_alloc hid (.cells F e (0, 0)) (.row 2 (l'.map Id.row))
 have g2 := g1.alloc hid (.cells F e (0, 0)) (.row 2 (l'.map Id.row)) ⟨by omega, .inr ⟨_, F, e, rfl, push_at _ _, preI_row hF⟩⟩
 rw [hset] at g2 le2
 obtain ⟨h4, le4⟩ := g2.grow (step_same k0 k1 k2 k3)
 refine ⟨_, _, _, ⟨rfl, rfl⟩, h4, ?_, ((le0.trans le1).trans le2).trans le4⟩
 refine ⟨by simp [ctx], .inr ⟨w.heap.size, cp, e, F.size, upd_same _ _ _, by simp, h1, ?_, by omega⟩⟩
 show w'.shape? w.heap.size = _
 rw [shape?_eq, k0, push_at]; rfl
end Go.Aw.Try

namespace Go.Aw.Try
open Go Go.Proofs Go.Aw
set_option maxRecDepth 100000
set_option maxHeartbeats 4000000
theorem three_args {vs : Array Value} (h : vs.size = 3) : ∃ u v x, vs = #[u, v, x] := by
 obtain ⟨l⟩ := vs
 match l, h with
 | [u, v, x], _ => exact ⟨u, v, x, rfl⟩
theorem preI_one {c : Array Value} {l : List Id} (h : PreI c l) : ∀ v ∈ c.toList.take (l.length * 2), v.oneCell' = true := by
 intro v hv
 obtain ⟨k, hk⟩ := List.getElem?_of_mem hv
 have hkl : k < l.length * 2 := by have := (List.getElem?_eq_some_iff.1 hk).1; simp at this; omega
 rw [List.getElem?_take, if_pos hkl, Array.getElem?_toList] at hk
 obtain ⟨h1, h2⟩ := h.2 (k / 2) (l[k / 2]'(by omega)) (by rw [List.getElem?_eq_getElem])
 rcases Nat.mod_two_eq_zero_or_one k with q | q
 ·rw [show k / 2 * 2 = k by omega, hk] at h1; injection h1 with h1; subst h1; rfl
 ·rw [show k / 2 * 2 + 1 = k by omega, hk] at h2; injection h2 with h2; subst h2; rfl
theorem kInsert (G : Gl) (l : List Id) (x : Id) (i : Nat) (hi : i ≤ l.length) (hl : l.length < 1073741824) {H : List O} {r r' : Nat} (hr : H[r]? = some (.row 2 (l.map Id.row))) (hr' : H[r']? = some (.row 2 [x.row])) (hne : r ≠ r') :
  ACalls Tryz.prog G 97 [.c (.os r 2 0 l.length), I i, .c (.os r' 2 0 1)] H (InsR H r (insAt l i x)) := by
 refine ⟨callable_of Tryz.func97 (by kernel_rfl) (by decide +kernel), fun ρ w vs hH hG hv => ?_⟩
 obtain ⟨u0, u1, u2, rfl⟩ := three_args hv.1
 have e1 : u1 = .int .i64 i := drel_v (hv.2 1 _ u1 rfl rfl)
 subst e1
 have q0 : CRel Tryz.prog (ctx ρ H w) (.os r 2 0 l.length) u0 := hv.2 0 _ u0 rfl rfl
 have q2 : CRel Tryz.prog (ctx ρ H w) (.os r' 2 0 1) u2 := hv.2 2 _ u2 rfl rfl
 have hlen := insAt_len (x := x) hi
 -- the value that goes in
 obtain ⟨vb, vc, ev, nv, p1, rfl, p3, p4, p5⟩ : ∃ b cap e n, ρ r' = some b ∧ u2 = .slice (some ⟨b, 0, none⟩) 1 cap ∧ 1 ≤ cap ∧ w.shape? b = some (e, n) ∧ cap * 2 ≤ n := by
  rcases q2.2 with ⟨h, _⟩ | ⟨b, cap, e, n, h1, h2, h3, h4, h5⟩
  ·cases h
  ·exact ⟨b, cap, e, n, h1, by simpa using h2, h3, h4, by simpa using h5⟩
 obtain ⟨_, hov⟩ := hH.objs r' _ hr'
 obtain ⟨cv, etv, hgv, hpv⟩ : ∃ c e, w.heap[vb]? = some (.cells c e (0, 0)) ∧ PreI c [x] := by
  rcases hov with ⟨_, h⟩ | ⟨a, c, e, h2, h3, h4⟩
  ·cases h
  ·rw [p1] at h2; injection h2 with h2; subst h2
   exact ⟨c, e, h3, preI_of h4⟩
 obtain ⟨hx1, hx2⟩ := hpv.2 0 x rfl
 have hcv2 : 2 ≤ cv.size := by have := hpv.1; simpa using this
 obtain ⟨vs, hvs⟩ : ∃ vs, vs = [Value.string x.a, Value.int .i64 x.n] := ⟨_, rfl⟩
 have hvl : vs.length = 2 := by rw [hvs]; rfl
 have hvr : ∀ j v, vs[j]? = some v → w.cell? ⟨vb, j, none⟩ = some v := fun j v hj => by
  rw [cell_heap hgv]
  rw [hvs] at hj
  match j with
  | 0 => injection hj with hj; subst hj; exact hx1
  | 1 => injection hj with hj; subst hj; exact hx2
  | j + 2 => simp at hj
 have h1v : ∀ v ∈ vs, v.oneCell' = true := fun v hv => by
  rw [hvs] at hv
  rcases List.mem_cons.1 hv with rfl | hv
  ·rfl
  ·rw [List.mem_singleton] at hv; subst hv; rfl
 have hfrv : ∀ j, w.frozen? ⟨vb, j, none⟩ = false := fun j => by simp [World.frozen?, hgv]
 have hv0 : vs[0]? = some (.string x.a) := by rw [hvs]; rfl
 have hv1 : vs[1]? = some (.int .i64 x.n) := by rw [hvs]; rfl
 have fin : ∀ {e : Ending} {v : Value} {w' : World}, (∃ t ρ' H', InsR H r (insAt l i x) t H' ∧ HRel Tryz.prog ρ' H' w' ∧ TRel Tryz.prog (ctx ρ' H' w') t v ∧ (ctx ρ H w).le (ctx ρ' H' w')) → e = .returned v →
   ∃ v t ρ' H', e = .returned v ∧ InsR H r (insAt l i x) t H' ∧ HRel Tryz.prog ρ' H' w' ∧ TRel Tryz.prog (ctx ρ' H' w') t v ∧ (ctx ρ H w).le (ctx ρ' H' w') := fun {e v w'} ⟨t, ρ', H', h⟩ he => ⟨v, t, ρ', H', he, h⟩
 have hzc : ∀ k, (Builtin.zeroCells zId.cells k).size = k * 2 := fun k => by simp [Builtin.zeroCells, Value.cells]
 rcases q0.2 with ⟨h0, p0, rfl⟩ | ⟨b, cap, e, nn, hρ, rfl, hcap, hsh, hfit⟩
 ·-- the row lies nowhere
  have hl0 : l = [] := List.length_eq_zero_iff.1 h0
  subst hl0
  have hi0 : i = 0 := by simpa using hi
  subst hi0
  refine Calls.mono (ins_end_grow p0 0 0 vb vc [] vs w (Nat.le_refl _) (by omega) (by omega) rfl hvl (fun _ => rfl) (fun _ _ _ _ h => by cases h) hvr h1v) ?_
  rintro e w' ⟨rfl, rfl⟩
  have hg := grownCap_ge w (0 + 1) 0 38
  refine fin (ins_new (l' := insAt [] 0 x) (e := 38) hH hr ?_ (by rw [hlen]; exact hg) ?_ rfl rfl rfl rfl) (by rw [hlen]; rfl)
  ·refine ⟨?_, fun k y hk => ?_⟩
   ·rw [hlen]; simp [hzc, hvl]
   ·have hk0 : k = 0 := by have := (List.getElem?_eq_some_iff.1 hk).1; rw [hlen] at this; simp at this; exact this
    subst hk0
    injection hk with hk; subst hk
    rw [List.nil_append]
    exact ⟨by rw [Array.getElem?_append_left (by simp [hvl])]; simpa using hv0, by rw [Array.getElem?_append_left (by simp [hvl])]; simpa using hv1⟩
  ·simp [hzc, hvl]; omega
 ·have hρ' : ρ r = some b := hρ
  have hw0 : (some (⟨b, 0 * 2, none⟩ : Addr)) = some ⟨b, 0, none⟩ := rfl
  rw [hw0]
  obtain ⟨_, hor⟩ := hH.objs r _ hr
  obtain ⟨c, et, hgb, hpb⟩ : ∃ c e, w.heap[b]? = some (.cells c e (0, 0)) ∧ PreI c l := by
   rcases hor with ⟨h, _⟩ | ⟨a, c, e, h2, h3, h4⟩
   ·rw [hρ'] at h; cases h
   ·rw [hρ'] at h2; injection h2 with h2; subst h2
    exact ⟨c, e, h3, preI_of h4⟩
  have hnn : nn = c.size := by
   have hs : w.shape? b = some (e, nn) := hsh
   rw [shape?_eq, hgb] at hs
   simp [Obj.shape] at hs
   exact hs.2.symm
  have hfit2 : cap * 2 ≤ c.size := by rw [← hnn]; simpa using hfit
  have hcl := hpb.1
  have hvb : vb ≠ b := fun q => by
   subst q
   exact hne (hH.inj r r' _ _ vb hr hr' rfl rfl hρ' p1)
  have h1c := preI_one hpb
  obtain ⟨cs, hcs⟩ : ∃ cs, cs = c.toList.take (l.length * 2) := ⟨_, rfl⟩
  rw [← hcs] at h1c
  have hcsl : cs.length = l.length * 2 := by rw [hcs]; simp; omega
  have hcsg : ∀ k, k < l.length * 2 → cs[k]? = c[k]? := fun k hk => by rw [hcs, List.getElem?_take, if_pos hk]; simp
  have hcsr : ∀ j v, cs[j]? = some v → w.cell? ⟨b, j, none⟩ = some v := fun j v hj => by
   have hjl : j < l.length * 2 := by rw [← hcsl]; exact (List.getElem?_eq_some_iff.1 hj).1
   rw [cell_heap hgb, ← hcsg j hjl]; exact hj
  have hfrb : ∀ j, w.frozen? ⟨b, j, none⟩ = false := fun j => by simp [World.frozen?, hgb]
  by_cases hroom : l.length + 1 ≤ cap
  ·have hsome : ∀ j, j < (l.length + 1) * 2 → (w.cell? ⟨b, j, none⟩).isSome = true := fun j hj => by
    rw [cell_heap hgb, Array.getElem?_eq_getElem (by omega)]; rfl
   by_cases hin : i = l.length
   ·subst hin
    refine Calls.mono (ins_end_room b l.length cap vb vc vs w hroom hvl (fun j hj => hsome _ (by omega)) (fun j _ => hfrb _) hvr h1v) ?_
    rintro e' w' ⟨rfl, rfl⟩
    obtain ⟨F, hF1, hF2, hF3⟩ := setCells_B w b (l.length * 2) c et vs hgb (by rw [hvl]; omega) h1v
    rw [hF1]
    refine fin (ins_in (l' := insAt l l.length x) hH hr hρ' hgb hF2 (preI_ins hi hpb (by omega) fun k hk => ?_) (by rw [hlen]; exact hroom) hfit2 rfl rfl rfl rfl) (by rw [hlen])
    rw [hF3 k, hvl]
    by_cases h1 : k < l.length * 2
    ·rw [if_pos h1, if_pos h1]
    ·rw [if_neg h1, if_neg h1, if_pos (by omega)]
     by_cases h2 : k = l.length * 2
     ·rw [if_pos h2, h2, Nat.sub_self]; exact hv0
     ·rw [if_neg h2, if_pos (by omega), show k - l.length * 2 = 1 by omega]; exact hv1
   ·have hil : i < l.length := by omega
    have hsb : w.shape? b = some (et, c.size) := by rw [shape?_eq, hgb]; rfl
    have hsv : w.shape? vb = some (etv, cv.size) := by rw [shape?_eq, hgv]; rfl
    refine Calls.mono (ins_shift b l.length cap i vb vc cs vs w hil hl hroom hvb hcsl hvl hcsr hsome (fun j _ => hfrb _) hvr h1c h1v etv et cv.size c.size hsv hsb (by omega) (hfrv _) (hfrv _)) ?_
    rintro e' w' ⟨rfl, rfl⟩
    have hgb' : w.drew.heap[b]? = some (.cells c et (0, 0)) := hgb
    have hdl : (cs.drop (i * 2)).length = (l.length - i) * 2 := by rw [List.length_drop, hcsl]; omega
    obtain ⟨F, hF1, hF2, hF3⟩ := setCells_B w.drew b ((i + 1) * 2) c et (cs.drop (i * 2)) hgb' (by rw [hdl]; omega) (fun v hv => h1c v (List.mem_of_mem_drop hv))
    rw [hF1]
    have hgF : (setB w.drew b (.cells F et (0, 0))).heap[b]? = some (.cells F et (0, 0)) := setB_same _ _ _ (hH.small r b hρ').2
    obtain ⟨F', hE1, hE2, hE3⟩ := setCells_B (setB w.drew b (.cells F et (0, 0))) b (i * 2) F et vs hgF (by rw [hvl]; omega) h1v
    rw [hE1]
    have hheap : (setB (setB w.drew b (.cells F et (0, 0))) b (.cells F' et (0, 0))).heap = (setB w b (.cells F' et (0, 0))).heap := by
     show (w.heap.setIfInBounds b _).setIfInBounds b _ = w.heap.setIfInBounds b _
     simp
    refine fin (ins_in (l' := insAt l i x) hH hr hρ' hgb (by omega) (preI_ins (F := F') hi hpb (by omega) fun k hk => ?_) (by rw [hlen]; exact hroom) hfit2 hheap rfl rfl rfl) (by rw [hlen])
    rw [hE3 k, hvl]
    by_cases h1 : k < i * 2
    ·rw [if_pos h1, if_pos h1, hF3 k, if_pos (by omega)]
    ·rw [if_neg h1, if_neg h1]
     by_cases h2 : k < i * 2 + 2
     ·rw [if_pos h2]
      by_cases h3 : k = i * 2
      ·rw [if_pos h3, h3, Nat.sub_self]; exact hv0
      ·rw [if_neg h3, if_pos (by omega), show k - i * 2 = 1 by omega]; exact hv1
     ·rw [if_neg h2, if_neg (by omega), if_neg (by omega), hF3 k, if_neg (by omega), hdl, if_pos (by omega), List.getElem?_drop, hcsg _ (by omega)]
      congr 1; omega
  ·have hge := grownCap_ge w (l.length + 1) cap 38
   by_cases hin : i = l.length
   ·subst hin
    refine Calls.mono (ins_end_grow (some ⟨b, 0, none⟩) l.length cap vb vc cs vs w hcap (by omega) (by omega) hcsl hvl (fun h => by cases h) (fun a ha j v hj => by injection ha with ha; subst ha; rw [addr_add, Nat.zero_add]; exact hcsr j v hj) hvr h1v) ?_
    rintro e' w' ⟨rfl, rfl⟩
    refine fin (ins_new (l' := insAt l l.length x) (F := (cs ++ vs).toArray ++ Builtin.zeroCells zId.cells (grownCap w (l.length + 1) cap 38 - (l.length + 1))) (e := 38) hH hr (preI_ins hi hpb (by simp [hzc, hvl, hcsl]; omega) fun k hk => ?_) (by rw [hlen]; exact hge) (by simp [hzc, hvl, hcsl]; omega) rfl rfl rfl rfl) (by rw [hlen])
    rw [Array.getElem?_append_left (by simp [hvl, hcsl]; omega), List.getElem?_toArray]
    by_cases h1 : k < l.length * 2
    ·rw [if_pos h1, List.getElem?_append_left (by omega), hcsg k h1]
    ·rw [if_neg h1, List.getElem?_append_right (by omega), hcsl]
     by_cases h2 : k = l.length * 2
     ·rw [if_pos h2, h2, Nat.sub_self]; exact hv0
     ·rw [if_neg h2, if_pos (by omega), show k - l.length * 2 = 1 by omega]; exact hv1
   ·have hil : i < l.length := by omega
    refine Calls.mono (ins_grow b l.length cap i vb vc cs vs w hil hcap (by omega) (by omega) hcsl hvl hcsr hvr h1c h1v) ?_
    rintro e' w' ⟨rfl, rfl⟩
    obtain ⟨ROW, hROW⟩ : ∃ ROW : Array Value, ROW = (cs.take (i * 2)).toArray ++ Builtin.zeroCells zId.cells (l.length + 1 - i) ++ Builtin.zeroCells zId.cells (grownCap w (l.length + 1) cap 38 - (l.length + 1)) := ⟨_, rfl⟩
    rw [← hROW]
    have hRs : ROW.size = grownCap w (l.length + 1) cap 38 * 2 := by
     rw [hROW]; simp [hzc, hcsl]; omega
    have hRg : ∀ k, k < i * 2 → ROW[k]? = c[k]? := fun k hk => by
     rw [hROW, Array.append_assoc, Array.getElem?_append_left (by simp [hcsl]; omega), List.getElem?_toArray, List.getElem?_take, if_pos hk, hcsg k (by omega)]
    have hg1 : (w.alloc (.cells ROW 38)).drew.heap[w.heap.size]? = some (.cells ROW 38 (0, 0)) := push_at w _
    obtain ⟨F, hF1, hF2, hF3⟩ := setCells_B (w.alloc (.cells ROW 38)).drew w.heap.size (i * 2) ROW 38 vs hg1 (by rw [hvl]; omega) h1v
    rw [hF1]
    have hgF : (setB (w.alloc (.cells ROW 38)).drew w.heap.size (.cells F 38 (0, 0))).drew.heap[w.heap.size]? = some (.cells F 38 (0, 0)) := setB_same _ _ _ (by show w.heap.size < (w.heap.push _).size; simp)
    have hdl : (cs.drop (i * 2)).length = (l.length - i) * 2 := by rw [List.length_drop, hcsl]; omega
    obtain ⟨F', hE1, hE2, hE3⟩ := setCells_B (setB (w.alloc (.cells ROW 38)).drew w.heap.size (.cells F 38 (0, 0))).drew w.heap.size ((i + 1) * 2) F 38 (cs.drop (i * 2)) hgF (by rw [hdl]; omega) (fun v hv => h1c v (List.mem_of_mem_drop hv))
    rw [hE1]
    have hheap : (setB (setB (w.alloc (.cells ROW 38)).drew w.heap.size (.cells F 38 (0, 0))).drew w.heap.size (.cells F' 38 (0, 0))).heap = (pushO w (.cells F' 38 (0, 0))).heap := by
     show ((w.heap.push _).setIfInBounds w.heap.size _).setIfInBounds w.heap.size _ = w.heap.push _
     apply Array.ext_getElem?
     intro k
     rw [Array.getElem?_setIfInBounds, Array.getElem?_setIfInBounds, Array.getElem?_push, Array.getElem?_push]
     by_cases q : k = w.heap.size
     ·subst q; simp
     ·rw [if_neg (fun h => q h.symm), if_neg (fun h => q h.symm), if_neg q, if_neg q]
    refine fin (ins_new (l' := insAt l i x) (e := 38) hH hr (preI_ins (F := F') hi hpb (by omega) fun k hk => ?_) (by rw [hlen]; exact hge) (by omega) hheap rfl rfl rfl) (by rw [hlen])
    rw [hE3 k, hdl]
    by_cases h1 : k < (i + 1) * 2
    ·rw [if_pos h1, hF3 k, hvl]
     by_cases h2 : k < i * 2
     ·rw [if_pos h2, if_pos h2, hRg k h2]
     ·rw [if_neg h2, if_neg h2, if_pos (by omega)]
      by_cases h3 : k = i * 2
      ·rw [if_pos h3, h3, Nat.sub_self]; exact hv0
      ·rw [if_neg h3, if_pos (by omega), show k - i * 2 = 1 by omega]; exact hv1
    ·rw [if_neg h1, if_pos (by omega), if_neg (by omega), if_neg (by omega), if_neg (by omega), List.getElem?_drop, hcsg _ (by omega)]
     congr 1; omega
end Go.Aw.Try

namespace Go.Aw.Try
open Go Go.Proofs Go.Aw
set_option maxRecDepth 100000
set_option maxHeartbeats 4000000
/-! ### vclock.Add, vclock.Merge -/
theorem k554 (v : List Id) (hl : v.length < 1073741824) (H : List O) : ACalls Tryz.prog G0 54 [.c (.d (.sl (v.map Id.row)))] H (Own H 2 (v.map Id.row)) := by
 refine acallsX (X := []) trivial tab hmix Tryz.func54 c554 (by rfl) fun hw => ?_
 simp (implicitDefEqProofs := false) (disch := omega) [gz, ir554, b554, wrap64, elems, maxLen47]
 refine ⟨⟨⟨by omega, fun e _ => rfl⟩, ?_⟩, ?_⟩
 ·exact fin_own (L := [O.dead, O.row 2 (v.map Id.row)]) (k := 1) hw rfl (by simp)
 ·intro h
  subst h
  have := fin_own_nil (P := Tryz.prog) (H := H) (sz := 2) (L := []) hw (by omega)
  simpa using this
noncomputable def x554 : XE := mkX false (fun (v : List Id) => [.c (.sl (v.map Id.row))]) (fun v => v.length < 1073741824) (fun v => .v (.c (.d (.sl (v.map Id.row)))))
theorem kx554 : Contract Tryz.prog G0 54 x554 := mkX_data fun v h H => own_data (k554 v h H)
theorem xg554 (v : List Id) (h : v.length < 1073741824) : x554.g [.c (.sl (v.map Id.row))] = some (True, .v (.c (.d (.sl (v.map Id.row))))) := mkX_g (fun a b h => by
 simp only [List.cons.injEq, PVo.c.injEq, D.sl.injEq] at h
 exact ids_inj h.1) v h
def addI (v : List Id) (x : Id) : List Id :=
 if lowB v x.a < v.length ∧ (nth v (lowB v x.a)).a = x.a then v.set (lowB v x.a) ⟨(nth v (lowB v x.a)).a, if (nth v (lowB v x.a)).n < x.n then x.n else (nth v (lowB v x.a)).n⟩ else insAt v (lowB v x.a) x
theorem k555 (v : List Id) (x : Id) (ha : AscI v) (hl : v.length < 1073741824) (H : List O) : ACalls Tryz.prog G0 55 [.c (.d (.sl (v.map Id.row))), .agg (x.row.map .d)] H (Own H 2 ((addI v x).map Id.row)) := by
 have s1 : x547.sc = true := rfl
 have g1 := xg547 v x.a ha (by omega)
 have hxr : x.row = [.v (.string x.a), .v (.int .i64 x.n)] := rfl
 obtain ⟨i, hi⟩ : ∃ i, i = lowB v x.a := ⟨_, rfl⟩
 have hil : i ≤ v.length := by rw [hi]; exact lowB_le _ _
 unfold addI
 rw [← hi] at g1 ⊢
 refine acallsX (X := [(47, x547)]) ⟨kx547, trivial⟩ tab hmix Tryz.func55 c555 (by rfl) fun hw => ?_
 simp (implicitDefEqProofs := false) (disch := omega) [gz, ir555, b555, hxr, wrap64]
 refine (k554 v hl _).mono ?_
 rintro t H' ⟨rfl, rfl⟩
 have tS : (v.map Id.row).take v.length = v.map Id.row := List.take_of_length_le (by simp)
 by_cases c1 : i < v.length ∧ (nth v i).a = x.a
 ·rw [decide_eq_true c1] at g1
  rw [if_pos c1]
  obtain ⟨y, hy⟩ : ∃ y, nth v i = y := ⟨_, rfl⟩
  have hyr : y.row = [.v (.string y.a), .v (.int .i64 y.n)] := rfl
  have hlt := c1.1
  rw [hy]
  simp (implicitDefEqProofs := false) (disch := omega) [gz, callK, s1, g1, wrap64, tS, toPVs, frzVs, osVs, toPV, toDs, toD, hlt, nth_map, hy, hyr, splice, fillC, Nat.add_assoc]
  repeat' (with_reducible apply And.intro)
  all_goals first | omega | kernel_rfl | skip
  refine fin_own (k := 1) hw ?_ (by simp)
  simp [Id.row]
 ·rw [decide_eq_false c1] at g1
  rw [if_neg c1]
  simp (implicitDefEqProofs := false) (disch := omega) [gz, callK, s1, g1, wrap64, tS, toPVs, frzVs, osVs, toPV, toDs, toD, splice, fillC, Nat.add_assoc]
  refine (kInsert G0 v x i hil hl (r := H.length + 1) (r' := H.length + 2) (by simp) (by simp [hxr]) (by omega)).mono ?_
  rintro t H' ⟨rfl, rfl⟩
  simp (implicitDefEqProofs := false) (disch := omega) [gz, callK, wrap64, Nat.add_assoc]
  refine fin_own (k := 3) hw ?_ (by simp)
  simp
def mergeI (a b : List Id) : List Id := b.foldl addI a
noncomputable def x555 : XE := mkX false (fun (p : List Id × Id) => [.c (.sl (p.1.map Id.row)), .agg p.2.row]) (fun p => AscI p.1 ∧ p.1.length < 1073741824) (fun p => .v (.c (.d (.sl ((addI p.1 p.2).map Id.row)))))
theorem kx555 : Contract Tryz.prog G0 55 x555 := mkX_data fun p h H => own_data (k555 p.1 p.2 h.1 h.2 H)
theorem xg555 (v : List Id) (x : Id) (ha : AscI v) (h : v.length < 1073741824) : x555.g [.c (.sl (v.map Id.row)), .agg x.row] = some (True, .v (.c (.d (.sl ((addI v x).map Id.row))))) := mkX_g injVI (v, x) ⟨ha, h⟩
theorem cmp_total {a b : ByteArray} (h : ¬ cmpS a b < 0) (hne : a ≠ b) : cmpS b a < 0 := by
 have h1 := cmpS_sgn a b
 have h2 : cmpS a b ≠ 0 := fun q => hne ((cmpS_eq a b).1 q)
 omega
theorem low_lt {v : List Id} {a : ByteArray} : ∀ {k : Nat}, k < lowB v a → cmpS (nth v k).a a < 0 := by
 induction v with
 | nil => intro k h; simp [lowB] at h
 | cons x v ih =>
  intro k h
  rw [lowB_cons] at h
  split at h
  ·rename_i hc
   cases k with
   | zero => exact hc
   | succ k => exact ih (by omega)
  ·omega
theorem low_ge {v : List Id} (hv : AscI v) {a : ByteArray} : ∀ {k : Nat}, lowB v a ≤ k → k < v.length → ¬ cmpS (nth v k).a a < 0 := by
 induction v with
 | nil => intro k _ h; simp at h
 | cons x v ih =>
  obtain ⟨h1, h2⟩ := List.pairwise_cons.1 hv
  intro k h hk
  rw [lowB_cons] at h
  split at h
  ·cases k with
   | zero => omega
   | succ k => exact ih h2 (by omega) (by simp only [List.length_cons] at hk; omega)
  ·rename_i hc
   cases k with
   | zero => exact hc
   | succ k =>
    intro hq
    have hkl : k < v.length := by simp only [List.length_cons] at hk; omega
    exact hc (cmpS_trans (h1 _ (nth_mem hkl)) hq)
theorem addI_len (v : List Id) (x : Id) : (addI v x).length ≤ v.length + 1 := by
 unfold addI
 split
 ·simp
 ·rw [insAt_len (lowB_le _ _)]; exact Nat.le_refl _
theorem addI_asc {v : List Id} (hv : AscI v) (x : Id) : AscI (addI v x) := by
 unfold addI
 split
 ·rename_i hc
  have e : ∀ (n : Int), (v.set (lowB v x.a) ⟨(nth v (lowB v x.a)).a, n⟩).map Id.a = v.map Id.a := fun n => by
   apply List.ext_getElem?
   intro k
   rw [List.getElem?_map, List.getElem?_map, List.getElem?_set]
   split
   ·rename_i q; subst q
    rw [if_pos hc.1, List.getElem?_eq_getElem hc.1]
    have := congrArg Id.a (nth_eq hc.1)
    show some (nth v (lowB v x.a)).a = some (v[lowB v x.a]'hc.1).a
    exact congrArg some this
   ·rfl
  have hv' : (v.map Id.a).Pairwise fun x y => cmpS x y < 0 := by rw [List.pairwise_map]; exact hv
  rw [← e (if (nth v (lowB v x.a)).n < x.n then x.n else (nth v (lowB v x.a)).n), List.pairwise_map] at hv'
  exact hv'
 ·rename_i hc
  have hl := lowB_le v x.a
  unfold insAt AscI
  rw [List.pairwise_append]
  have hv' : v.Pairwise fun x y => cmpS x.a y.a < 0 := hv
  have hge : ∀ y ∈ v.drop (lowB v x.a), cmpS x.a y.a < 0 := fun y hy => by
   obtain ⟨k, hk, rfl⟩ := List.mem_iff_getElem.1 hy
   rw [List.length_drop] at hk
   rw [List.getElem_drop, ← nth_eq (by omega)]
   have h1 := low_ge hv (a := x.a) (k := lowB v x.a + k) (by omega) (by omega)
   refine cmp_total h1 fun e => ?_
   by_cases hk0 : k = 0
   ·subst hk0; exact hc ⟨by omega, by simpa using e⟩
   ·have h2 := List.pairwise_iff_getElem.1 hv' (lowB v x.a) (lowB v x.a + k) (by omega) (by omega) (by omega)
    rw [← nth_eq (by omega), ← nth_eq (by omega), e] at h2
    exact low_ge hv (Nat.le_refl _) (by omega) h2
  have hlt : ∀ y ∈ v.take (lowB v x.a), cmpS y.a x.a < 0 := fun y hy => by
   obtain ⟨k, hk, rfl⟩ := List.mem_iff_getElem.1 hy
   rw [List.length_take] at hk
   rw [List.getElem_take, ← nth_eq (by omega)]
   exact low_lt (by omega)
  refine ⟨hv'.sublist (List.take_sublist _ _), ?_, fun a ha b hb => ?_⟩
  ·rw [List.pairwise_cons]
   exact ⟨hge, hv'.sublist (List.drop_sublist _ _)⟩
  ·rcases List.mem_cons.1 hb with rfl | hb
   ·exact hlt a ha
   ·exact cmpS_trans (hlt a ha) (hge b hb)
theorem mergeI_asc {a : List Id} (ha : AscI a) : ∀ b, AscI (mergeI a b) := fun b => by
 unfold mergeI
 induction b generalizing a with
 | nil => exact ha
 | cons x b ih => exact ih (addI_asc ha x)
theorem mergeI_len (a b : List Id) : (mergeI a b).length ≤ a.length + b.length := by
 unfold mergeI
 induction b generalizing a with
 | nil => simp
 | cons x b ih =>
  have h1 := ih (addI a x)
  have h2 := addI_len a x
  simp only [List.foldl_cons, List.length_cons]; omega
theorem k527 (a b : List Id) (ha : AscI a) (hl : a.length + b.length < 1073741824) (H : List O) : ACalls Tryz.prog G0 27 [.c (.d (.sl (a.map Id.row))), .c (.d (.sl (b.map Id.row)))] H fun t H' => t = .v (.c (.d (.sl ((mergeI a b).map Id.row)))) ∧ H' = H := by
 have s1 : x554.sc = false := rfl
 have s2 : x555.sc = false := rfl
 have g1 := xg554 a (by omega)
 refine acallsX (X := [(54, x554), (55, x555)]) ⟨kx554, kx555, trivial⟩ tab hmix Tryz.func27 c527 (by rfl) fun hw => ?_
 simp (implicitDefEqProofs := false) (disch := omega) [gz, ir527, b527, s1, g1, wrap64, toPVs, frzVs, osVs, toPV]
 refine loopE (fun k st => ∃ i, i ≤ b.length ∧ k = b.length - i ∧
   st = ⟨ofL [(5, .v (.c (.d (.sl ((mergeI a (b.take i)).map Id.row))))), (10, .v (.c (.d (.sl (b.map Id.row))))), (11, .int .i64 b.length), (12, .int .i64 i)], H⟩)
  (fun st => AtS [(5, .v (.c (.d (.sl ((mergeI a b).map Id.row)))))] H st) ?_ ?_ ?_
 ·refine wk_keep [5, 10, 11, 12] ⟨_, 0, by omega, rfl, ?_⟩
  simp [mergeI]
 ·rintro J L hJ hL k st ⟨i, hi, rfl, rfl⟩
  by_cases hlt : i < b.length
  ·obtain ⟨x, hx⟩ : ∃ x, nth b i = x := ⟨_, rfl⟩
   have hxr : x.row = [.v (.string x.a), .v (.int .i64 x.n)] := rfl
   have hst : mergeI a (b.take (i + 1)) = addI (mergeI a (b.take i)) x := by
    unfold mergeI; rw [take_nth hlt, List.foldl_append, hx]; rfl
   have hm := mergeI_len a (b.take i)
   rw [List.length_take] at hm
   have g2 := xg555 (mergeI a (b.take i)) x (mergeI_asc ha _) (by omega)
   rw [← hst, hxr] at g2
   obtain ⟨m, hm2⟩ : ∃ m, m = mergeI a (b.take i) := ⟨_, rfl⟩
   rw [← hm2] at g2 ⊢
   simp (implicitDefEqProofs := false) (disch := omega) [gz, hlt, wrap64, nth_map, hx, hxr, splice, fillC, s2, g2, toPVs, frzVs, osVs, toPV]
   subst hJ
   refine wk_pre [] [5, 10, 11, 12] hw rfl ⟨b.length - (i + 1), by omega, i + 1, by omega, rfl, ?_⟩
   simp
  ·have : i = b.length := by omega
   subst this
   rw [List.take_length]
   simp (implicitDefEqProofs := false) (disch := omega) [gz, hlt]
   subst hL
   exact at_mk (by simp) rfl
 ·rintro _ ⟨sl, rfl⟩
  simp (implicitDefEqProofs := false) (disch := omega) [gz, wrap64]
  exact fin_here (Nat.le_refl _) ⟨rfl, rfl⟩
noncomputable def x527 : XE := mkX false (fun (p : List Id × List Id) => [.c (.sl (p.1.map Id.row)), .c (.sl (p.2.map Id.row))]) (fun p => AscI p.1 ∧ p.1.length + p.2.length < 1073741824) (fun p => .v (.c (.d (.sl ((mergeI p.1 p.2).map Id.row)))))
theorem kx527 : Contract Tryz.prog G0 27 x527 := mkX_data fun p h H => k527 p.1 p.2 h.1 h.2 H
theorem xg527 (a b : List Id) (ha : AscI a) (h : a.length + b.length < 1073741824) : x527.g [.c (.sl (a.map Id.row)), .c (.sl (b.map Id.row))] = some (True, .v (.c (.d (.sl ((mergeI a b).map Id.row))))) := mkX_g (fun a b h => by
 simp only [List.cons.injEq, PVo.c.injEq, D.sl.injEq] at h
 exact Prod.ext (ids_inj h.1) (ids_inj h.2.1)) (a, b) ⟨ha, h⟩
end Go.Aw.Try

namespace Go.Aw.Try
open Go Go.Proofs Go.Aw
set_option maxRecDepth 100000
set_option maxHeartbeats 4000000
/-! ### later edits of the remaining members -/
/-- Votes behind votes, by authors that the top set does not name. -/
structure MoreV (M : List ByteArray) (vs nv : List Vote) (S : List ByteArray) : Prop where
 h8 : M.length ≤ 8
 ok : VsOk M vs
 ok' : VsOk M (vs ++ nv)
 top : Dcd M vs S
 most : ∀ T, Dcd M vs T → T.length ≤ S.length
 out : ∀ v ∈ nv, v.e.id.a ∉ S
theorem MoreV.big {M : List ByteArray} {vs nv : List Vote} {S : List ByteArray} (h : MoreV M vs nv S) {v : Vote} (hv : v ∈ nv) : (∃ u ∈ vs, u.set = S ∧ u.e.id.a = v.e.id.a) ∧ (∀ s ∈ S, s ∈ v.set) ∧ S.length < v.set.length := by
 have hm := (h.ok'.ok v (List.mem_append_right _ hv)).mem
 obtain ⟨u, hu, h1, h2⟩ := decB_iff.1 h.top.2 v.e.id.a hm (h.out v hv)
 have hc := (List.pairwise_append.1 h.ok'.chain).2.2 u hu v hv h2
 rw [h1] at hc
 exact ⟨⟨u, hu, h1, h2⟩, hc.1, hc.2⟩
theorem MoreV.of {M : List ByteArray} {vs nv : List Vote} {S : List ByteArray} (h : MoreV M vs nv S) {T : List ByteArray} (hT : T.length ≤ S.length) : ofV (vs ++ nv) T = ofV vs T := by
 unfold ofV
 rw [List.filter_append]
 have : nv.filter (fun v => decide (v.set = T)) = [] := by
  rw [List.filter_eq_nil_iff]
  intro v hv
  have := (h.big hv).2.2
  simp only [decide_eq_true_eq]
  intro e; rw [e] at this; omega
 rw [this, List.append_nil]
theorem MoreV.dcd {M : List ByteArray} {vs nv : List Vote} {S : List ByteArray} (h : MoreV M vs nv S) {T : List ByteArray} (hT : T.length ≤ S.length) : Dcd M (vs ++ nv) T ↔ Dcd M vs T := by
 have hv : ∀ v, (v ∈ vs ++ nv ∧ v.set = T) ↔ (v ∈ vs ∧ v.set = T) := fun v => by
  rw [← mem_ofV, ← mem_ofV, h.of hT]
 unfold Dcd
 rw [decB_iff, decB_iff]
 constructor
 ·rintro ⟨⟨v, a, b⟩, c⟩
  refine ⟨⟨v, (hv v).1 ⟨a, b⟩⟩, fun s hs hn => ?_⟩
  obtain ⟨u, d, e, f⟩ := c s hs hn
  obtain ⟨d', e'⟩ := (hv u).1 ⟨d, e⟩
  exact ⟨u, d', e', f⟩
 ·rintro ⟨⟨v, a, b⟩, c⟩
  refine ⟨⟨v, List.mem_append_left _ a, b⟩, fun s hs hn => ?_⟩
  obtain ⟨u, d, e, f⟩ := c s hs hn
  exact ⟨u, List.mem_append_left _ d, e, f⟩
theorem sure_hit2 {s : ByteArray} : ∀ (vs : List Vote) (x : Int), vs.foldl (sureStep s) x = x ∨ ∃ v ∈ vs, s ∈ v.set ∧ hasN v.e.deps s = vs.foldl (sureStep s) x
 | [], x => .inl rfl
 | v :: vs, x => by
  rw [List.foldl_cons]
  rcases sure_hit2 (s := s) vs (sureStep s x v) with h | ⟨u, hu, h1, h2⟩
  ·rw [h]
   unfold sureStep
   split
   ·rename_i hc
    simp only [Bool.and_eq_true] at hc
    exact .inr ⟨v, List.mem_cons_self .., (hasS_iff _ _).1 hc.1, rfl⟩
   ·exact .inl rfl
  ·exact .inr ⟨u, List.mem_cons_of_mem _ hu, h1, h2⟩
theorem MoreV.sure {M : List ByteArray} {vs nv : List Vote} {S : List ByteArray} (h : MoreV M vs nv S) {s : ByteArray} (hs : s ∈ S) (hp : ∀ v ∈ vs ++ nv, 0 ≤ hasN v.e.deps s)
  (hm : ∀ v ∈ nv, ∀ u ∈ vs, u.e.id.a = v.e.id.a → hasN u.e.deps s ≤ hasN v.e.deps s) : sureN vs s ≤ sureN (vs ++ nv) s := by
 have hpv : ∀ v ∈ vs, 0 ≤ hasN v.e.deps s := fun v hv => hp v (List.mem_append_left _ hv)
 obtain ⟨u0, hu0, hu1⟩ := h.top.1
 have hin : s ∈ u0.set := by rw [hu1]; exact hs
 obtain ⟨a1, a2⟩ := (sure_fold (x := -1) hp).2 u0 (List.mem_append_left _ hu0) hin
 have e : sureN (vs ++ nv) s = (vs ++ nv).foldl (sureStep s) (-1) := by unfold sureN sureL; rw [if_neg (by omega)]
 rcases sure_hit2 (s := s) (vs ++ nv) (-1) with q | ⟨v, hv, q1, q2⟩
 ·omega
 ·rw [e, ← q2]
  rcases List.mem_append.1 hv with hv | hv
  ·exact sureN_le hpv hv q1
  ·obtain ⟨⟨u, hu, c1, c2⟩, _, _⟩ := h.big hv
   exact Int.le_trans (sureN_le hpv hu (by rw [c1]; exact hs)) (hm v hv u hu c2)
end Go.Aw.Try

namespace Go.Aw.Try
open Go Go.Proofs Go.Aw
set_option maxRecDepth 100000
set_option maxHeartbeats 4000000
/-! ### EvictFinal and EvictLowerBound: the laws -/
structure Later2 (x : List Cutoff) (l Lt : List Edit) : Prop where
 gone : ∀ e ∈ Lt, (cutF x e.id.a).2 = false
 clk : ∀ e ∈ Lt, ∀ f ∈ l, f.clock < e.clock
theorem later_votes {x : List Cutoff} {l Lt : List Edit} {all : List Member} (h1 : OkR l all) (h2 : OkR (l ++ Lt) all) (h : Later2 x l Lt) :
  ∃ nv, (gatC (l ++ Lt) all).vs = (gatC l all).vs ++ nv ∧ ∀ v ∈ nv, v.e ∈ Lt := by
 have n1 := h1.noFork
 have n2 := h2.noFork
 have n3 : NoFork Lt := fun y hy z hz e => n2 y (List.mem_append_right _ hy) z (List.mem_append_right _ hz) e
 have hs : sortE (l ++ Lt) = sortE l ++ sortE Lt := by
  refine sst_ext (sortE_sst _) ?_ fun e => ?_
  ·unfold Sst
   rw [List.pairwise_append]
   refine ⟨sortE_sst _, sortE_sst _, fun x hx y hy => ?_⟩
   rw [n1.sort_mem] at hx
   rw [n3.sort_mem] at hy
   exact cmpE_clock (h.clk y hy x hx)
  ·rw [List.mem_append, n1.sort_mem, n2.sort_mem, n3.sort_mem, List.mem_append]
 obtain ⟨X, q1, q2⟩ := gat_more (all.map Member.name) (sortE Lt) (gatF (all.map Member.name) (sortE l))
 refine ⟨X, ?_, fun v hv => sortE_mem (q2 v hv)⟩
 show (gatF (all.map Member.name) (sortE (l ++ Lt))).vs = _
 rw [hs]
 unfold gatF at q1 ⊢
 rw [List.foldl_append]; exact q1
/-- What the two laws share. -/
theorem later_law {l Lt : List Edit} {all : List Member} (h1 : OkR l all) (h2 : OkR (l ++ Lt) all) (h : Later2 (cutsE l all) l Lt) :
  cutsE l all = [] ∨ ∃ S nv fin S' fin', MoreV (all.map Member.name) (gatC l all).vs nv S ∧ (∀ v ∈ nv, v.e ∈ Lt) ∧
   0 < (outL (all.map Member.name) (gatC l all).vs).length ∧ nth (outL (all.map Member.name) (gatC l all).vs) ((outL (all.map Member.name) (gatC l all).vs).length - 1) = S ∧
   cutsE l all = S.flatMap (blk (fun s => uptoE (gatC l all).vs (outL (all.map Member.name) (gatC l all).vs) s ((outL (all.map Member.name) (gatC l all).vs).length - 1)) (fun s => sureN (gatC l all).vs s) fin) ∧
   0 < (outL (all.map Member.name) ((gatC l all).vs ++ nv)).length ∧ nth (outL (all.map Member.name) ((gatC l all).vs ++ nv)) ((outL (all.map Member.name) ((gatC l all).vs ++ nv)).length - 1) = S' ∧
   (∀ s ∈ S, s ∈ S') ∧
   cutsE (l ++ Lt) all = S'.flatMap (blk (fun s => uptoE ((gatC l all).vs ++ nv) (outL (all.map Member.name) ((gatC l all).vs ++ nv)) s ((outL (all.map Member.name) ((gatC l all).vs ++ nv)).length - 1)) (fun s => sureN ((gatC l all).vs ++ nv) s) fin') := by
 have h8 : (all.map Member.name).length ≤ 8 := by rw [List.length_map]; exact h1.2.1
 have hv1 := h1.vs
 have hv2 := h2.vs
 obtain ⟨nv, hnv, hnL⟩ := later_votes h1 h2 h
 rw [hnv] at hv2
 by_cases h0 : (outL (all.map Member.name) (gatC l all).vs).length = 0
 ·refine .inl ?_
  unfold cutsE cutsC
  rw [show (gatC l all).mem = all.map Member.name from rfl, if_pos h0]
 ·obtain ⟨S, hS⟩ : ∃ S, nth (outL (all.map Member.name) (gatC l all).vs) ((outL (all.map Member.name) (gatC l all).vs).length - 1) = S := ⟨_, rfl⟩
  obtain ⟨fin, hfin⟩ : ∃ f, f = finalB (gatC l all) S := ⟨_, rfl⟩
  have hx : cutsE l all = S.flatMap (blk (fun s => uptoE (gatC l all).vs (outL (all.map Member.name) (gatC l all).vs) s ((outL (all.map Member.name) (gatC l all).vs).length - 1)) (fun s => sureN (gatC l all).vs s) fin) := by
   unfold cutsE cutsC
   rw [show (gatC l all).mem = all.map Member.name from rfl, if_neg h0]
   show (nth (outL (all.map Member.name) (gatC l all).vs) ((outL (all.map Member.name) (gatC l all).vs).length - 1)).flatMap (cutOf _ _ (finalB _ (nth (outL (all.map Member.name) (gatC l all).vs) ((outL (all.map Member.name) (gatC l all).vs).length - 1)))) = _
   rw [hS, ← hfin]; rfl
  have hSd : Dcd (all.map Member.name) (gatC l all).vs S := by rw [← hS]; exact (mem_out hv1 h8).1 (nth_mem (by omega))
  have hM : MoreV (all.map Member.name) (gatC l all).vs nv S := by
   refine ⟨h8, hv1, hv2, hSd, fun T hT => by have := last_top hv1 h8 hT; rw [hS] at this; exact this, fun v hv hin => ?_⟩
   have hg := h.gone v.e (hnL v hv)
   rw [hx, cutF_blk hin] at hg
   cases hg
  have hSd' : Dcd (all.map Member.name) ((gatC l all).vs ++ nv) S := (hM.dcd (Nat.le_refl _)).2 hSd
  have hpos : 0 < (outL (all.map Member.name) ((gatC l all).vs ++ nv)).length := List.length_pos_of_mem ((mem_out hv2 h8).2 hSd')
  obtain ⟨S', hS'⟩ : ∃ S', nth (outL (all.map Member.name) ((gatC l all).vs ++ nv)) ((outL (all.map Member.name) ((gatC l all).vs ++ nv)).length - 1) = S' := ⟨_, rfl⟩
  have hSd2 : Dcd (all.map Member.name) ((gatC l all).vs ++ nv) S' := by rw [← hS']; exact (mem_out hv2 h8).1 (nth_mem (by omega))
  have hle := last_top hv2 h8 hSd'
  rw [hS'] at hle
  refine .inr ⟨S, nv, fin, S', finalB ⟨all.map Member.name, l ++ Lt, (gatC l all).vs ++ nv⟩ S', hM, hnL, by omega, hS, hx, hpos, hS', ?_, ?_⟩
  ·rcases dcd_cmp hv2 hSd' hSd2 with q | q | q
   ·intro s hs; rw [← q]; exact hs
   ·exact q.1
   ·omega
  ·have hc : gatC (l ++ Lt) all = ⟨all.map Member.name, l ++ Lt, (gatC l all).vs ++ nv⟩ := by rw [← hnv]; rfl
   unfold cutsE
   rw [hc]
   unfold cutsC
   rw [if_neg (show ¬ (outL (all.map Member.name) ((gatC l all).vs ++ nv)).length = 0 by omega)]
   show (nth (outL (all.map Member.name) ((gatC l all).vs ++ nv)) ((outL (all.map Member.name) ((gatC l all).vs ++ nv)).length - 1)).flatMap (cutOf _ _ (finalB _ (nth (outL (all.map Member.name) ((gatC l all).vs ++ nv)) ((outL (all.map Member.name) ((gatC l all).vs ++ nv)).length - 1)))) = _
   rw [hS']; rfl
theorem blk_mem {N U : ByteArray → Int} {b : Bool} {S : List ByteArray} {c : Cutoff} (h : c ∈ S.flatMap (blk N U b)) : c.who ∈ S ∧ ((c.err = 22 ∧ c.n = N c.who) ∨ (c.err = 19 ∧ c.n = U c.who)) := by
 obtain ⟨s, hs, hc⟩ := List.mem_flatMap.1 h
 unfold blk at hc
 rcases List.mem_cons.1 hc with rfl | hc
 ·exact ⟨hs, .inl ⟨rfl, rfl⟩⟩
 ·cases b
  ·simp at hc; subst hc; exact ⟨hs, .inr ⟨rfl, rfl⟩⟩
  ·simp at hc
theorem OkR.dep_pos {l : List Edit} {all : List Member} (h : OkR l all) {e : Edit} (he : e ∈ l) (a : ByteArray) : 0 ≤ hasN e.deps a :=
 hasN_nonneg (chk_asc (h.okE he).1).2 a
theorem lower_law {l Lt : List Edit} {all : List Member} (h1 : OkR l all) (h2 : OkR (l ++ Lt) all) (h : Later2 (cutsE l all) l Lt)
  (hd : ∀ e ∈ Lt, ∀ f ∈ l, f.id.a = e.id.a → ∀ a, hasN f.deps a ≤ hasN e.deps a) :
  ∀ c ∈ cutsE l all, c.err = 19 → ∃ n, cutF (cutsE (l ++ Lt) all) c.who = (n, true) ∧ c.n ≤ n := by
 intro c hc he
 rcases later_law h1 h2 h with e | ⟨S, nv, fin, S', fin', hM, hnL, p1, p2, p3, p4, p5, p6, p7⟩
 ·rw [e] at hc; cases hc
 ·rw [p3] at hc
  obtain ⟨hs, q | q⟩ := blk_mem hc
  ·rw [q.1] at he; cases he
  ·refine ⟨_, by rw [p7, cutF_blk (p6 _ hs)], ?_⟩
   rw [q.2]
   have hp : ∀ v ∈ (gatC l all).vs ++ nv, 0 ≤ hasN v.e.deps c.who := fun v hv => by
    rcases List.mem_append.1 hv with hv | hv
    ·exact h1.dep_pos (gatC_mem hv).1 _
    ·exact h2.dep_pos (List.mem_append_right _ (hnL v hv)) _
   refine Int.le_trans (hM.sure hs hp fun v hv u hu ha => hd v.e (hnL v hv) u.e (gatC_mem hu).1 ha _) ?_
   refine upto_sure hp (fun T hT => ?_) _ (by omega) (by rw [p5]; exact p6 _ hs)
   obtain ⟨⟨v, a, b⟩, _⟩ := (mem_out hM.ok' hM.h8).1 hT
   exact ⟨v, a, b⟩
end Go.Aw.Try

namespace Go.Aw.Try
open Go Go.Proofs Go.Aw
set_option maxRecDepth 100000
set_option maxHeartbeats 4000000
/-! ### merged vectors -/
def PosI (v : List Id) : Prop := ∀ x ∈ v, 1 ≤ x.n
theorem hasN_mem {v : List Id} (h : AscI v) {y : Id} (hy : y ∈ v) : hasN v y.a = y.n := by
 induction v with
 | nil => cases hy
 | cons x v ih =>
  obtain ⟨h1, h2⟩ := List.pairwise_cons.1 h
  rw [hasN_cons]
  rcases List.mem_cons.1 hy with rfl | hy
  ·rw [if_pos rfl]
  ·have := h1 y hy
   rw [if_neg (fun e => by rw [e, (cmpS_eq _ _).2 rfl] at this; omega)]
   exact ih h2 hy
theorem hasN_cases (v : List Id) (a : ByteArray) : (∃ y ∈ v, y.a = a) ∨ (hasN v a = 0 ∧ ∀ y ∈ v, y.a ≠ a) := by
 by_cases h : ∃ y ∈ v, y.a = a
 ·exact .inl h
 ·have h2 : ∀ y ∈ v, y.a ≠ a := fun y hy e => h ⟨y, hy, e⟩
  exact .inr ⟨hasN_none h2, h2⟩
theorem addI_mem {v : List Id} {x z : Id} (h : z ∈ addI v x) : z ∈ v ∨ (z.a = x.a ∧ (z.n = x.n ∨ ∃ y ∈ v, y.a = x.a ∧ z.n = y.n)) := by
 unfold addI at h
 split at h
 ·rename_i hc
  rcases List.mem_or_eq_of_mem_set h with h | h
  ·exact .inl h
  ·subst h
   refine .inr ⟨hc.2, ?_⟩
   show (if _ then _ else _) = _ ∨ _
   split
   ·exact .inl rfl
   ·exact .inr ⟨_, nth_mem hc.1, hc.2, rfl⟩
 ·unfold insAt at h
  rcases List.mem_append.1 h with h | h
  ·exact .inl (List.mem_of_mem_take h)
  ·rcases List.mem_cons.1 h with rfl | h
   ·exact .inr ⟨rfl, .inl rfl⟩
   ·exact .inl (List.mem_of_mem_drop h)
theorem addI_pos {v : List Id} {x : Id} (hv : PosI v) (hx : 1 ≤ x.n) : PosI (addI v x) := fun z hz => by
 rcases addI_mem hz with h | ⟨_, h | ⟨y, hy, _, h⟩⟩
 ·exact hv z h
 ·omega
 ·have := hv y hy; omega
theorem addI_has {v : List Id} (hv : AscI v) (hp : PosI v) {x : Id} (hx : 1 ≤ x.n) (a : ByteArray) : hasN v a ≤ hasN (addI v x) a ∧ (x.a = a → x.n ≤ hasN (addI v x) a) := by
 have hasc := addI_asc hv x
 have hnn : ∀ b, 0 ≤ hasN (addI v x) b := hasN_nonneg (addI_pos hp hx)
 have mem : ∀ y ∈ v, y.a ≠ x.a → y ∈ addI v x := fun y hy hne => by
  unfold addI
  split
  ·rename_i hc
   obtain ⟨k, hk, rfl⟩ := List.mem_iff_getElem.1 hy
   have hkne : lowB v x.a ≠ k := fun e => hne (by rw [← hc.2, e, nth_eq hk])
   exact List.mem_iff_getElem.2 ⟨k, by simpa using hk, by rw [List.getElem_set_ne hkne]⟩
  ·unfold insAt
   rw [← List.take_append_drop (lowB v x.a) v] at hy
   rcases List.mem_append.1 hy with hy | hy
   ·exact List.mem_append_left _ hy
   ·exact List.mem_append_right _ (List.mem_cons_of_mem _ hy)
 have top : ∃ z ∈ addI v x, z.a = x.a ∧ x.n ≤ z.n ∧ hasN v x.a ≤ z.n := by
  by_cases hc : lowB v x.a < v.length ∧ (nth v (lowB v x.a)).a = x.a
  ·refine ⟨⟨(nth v (lowB v x.a)).a, if (nth v (lowB v x.a)).n < x.n then x.n else (nth v (lowB v x.a)).n⟩, ?_, hc.2, ?_, ?_⟩
   ·unfold addI; rw [if_pos hc]
    exact List.mem_iff_getElem.2 ⟨lowB v x.a, by simpa using hc.1, by simp⟩
   ·show x.n ≤ if _ then _ else _
    split <;> omega
   ·rw [hasN_low hv, if_pos hc]
    show _ ≤ if _ then _ else _
    split <;> omega
  ·refine ⟨x, ?_, rfl, Int.le_refl _, ?_⟩
   ·unfold addI insAt; rw [if_neg hc]; simp
   ·rw [hasN_low hv, if_neg hc]; omega
 obtain ⟨z, z1, z2, z3, z4⟩ := top
 have hz := hasN_mem hasc z1
 by_cases e : x.a = a
 ·subst e
  rw [z2] at hz
  rw [hz]; exact ⟨z4, fun _ => z3⟩
 ·refine ⟨?_, fun q => absurd q e⟩
  rcases hasN_cases v a with ⟨y, hy, rfl⟩ | ⟨q, _⟩
  ·rw [hasN_mem hv hy, hasN_mem hasc (mem y hy (fun q => e q.symm))]; exact Int.le_refl _
  ·rw [q]; exact hnn a
theorem merge_facts : ∀ (b a : List Id), AscI a → PosI a → PosI b → AscI (mergeI a b) ∧ PosI (mergeI a b) ∧ (∀ s, hasN a s ≤ hasN (mergeI a b) s) ∧ ∀ y ∈ b, y.n ≤ hasN (mergeI a b) y.a
 | [], a, h1, h2, _ => ⟨h1, h2, fun s => Int.le_refl _, fun y hy => by cases hy⟩
 | x :: b, a, h1, h2, h3 => by
  have hx := h3 x (List.mem_cons_self ..)
  obtain ⟨r1, r2, r3, r4⟩ := merge_facts b (addI a x) (addI_asc h1 x) (addI_pos h2 hx) fun y hy => h3 y (List.mem_cons_of_mem _ hy)
  have e : mergeI a (x :: b) = mergeI (addI a x) b := rfl
  rw [e]
  refine ⟨r1, r2, fun s => Int.le_trans (addI_has h1 h2 hx s).1 (r3 s), fun y hy => ?_⟩
  rcases List.mem_cons.1 hy with rfl | hy
  ·exact Int.le_trans ((addI_has h1 h2 hx y.a).2 rfl) (r3 y.a)
  ·exact r4 y hy
theorem merge_right {a b : List Id} (h1 : AscI a) (h2 : PosI a) (h3 : PosI b) (h4 : AscI b) (s : ByteArray) : hasN b s ≤ hasN (mergeI a b) s := by
 obtain ⟨r1, r2, r3, r4⟩ := merge_facts b a h1 h2 h3
 rcases hasN_cases b s with ⟨y, hy, rfl⟩ | ⟨q, _⟩
 ·rw [hasN_mem h4 hy]; exact r4 y hy
 ·rw [q]; exact hasN_nonneg r2 s
theorem addI_names {v : List Id} {x : Id} {Q : ByteArray → Prop} (hv : ∀ y ∈ v, Q y.a) (hx : Q x.a) : ∀ z ∈ addI v x, Q z.a := fun z hz => by
 rcases addI_mem hz with h | ⟨h, _⟩
 ·exact hv z h
 ·rw [h]; exact hx
theorem merge_names {Q : ByteArray → Prop} : ∀ (b a : List Id), (∀ y ∈ a, Q y.a) → (∀ y ∈ b, Q y.a) → ∀ z ∈ mergeI a b, Q z.a
 | [], a, h1, _ => h1
 | x :: b, a, h1, h2 => merge_names b (addI a x) (addI_names h1 (h2 x (List.mem_cons_self ..))) fun y hy => h2 y (List.mem_cons_of_mem _ hy)
/-! ### what the first loop gathers -/
def numI (m : List (ByteArray × Int)) (a : ByteArray) : Int := (alook m a).getD 0
def maxZ (a b : Int) : Int := if a < b then b else a
theorem maxZ_l (a b : Int) : a ≤ maxZ a b := by unfold maxZ; split <;> omega
theorem maxZ_r (a b : Int) : b ≤ maxZ a b := by unfold maxZ; split <;> omega
structure Fs where
 m : List (ByteArray × Int)
 c : Int
 k : List Id
def fsStep (s : Fs) (e : Edit) : Fs := ⟨aput s.m e.id.a (maxZ (numI s.m e.id.a) e.id.n), maxZ s.c e.clock, if e.kind = 5 ∧ authB e.id.a = true then addI s.k e.id else s.k⟩
structure FsOk (l : List Edit) (s : Fs) : Prop where
 num : ∀ a, 0 ≤ numI s.m a
 c0 : 0 ≤ s.c
 clk : ∀ f ∈ l, f.clock ≤ s.c
 asc : AscI s.k
 pos : PosI s.k
 len : s.k.length ≤ l.length
 nam : ∀ x ∈ s.k, x.a.size ≤ 24
 has : ∀ f ∈ l, f.kind = 5 → authB f.id.a = true → conI s.k f.id = true
theorem fs_step {l : List Edit} {s : Fs} (h : FsOk l s) {e : Edit} (h1 : 1 ≤ e.id.n) (h2 : 0 ≤ e.clock) : FsOk (l ++ [e]) (fsStep s e) := by
 have hmem : ∀ f, f ∈ l ++ [e] → f ∈ l ∨ f = e := fun f hf => by simpa using hf
 refine ⟨fun a => ?_, ?_, fun f hf => ?_, ?_, ?_, ?_, ?_, fun f hf hk ha => ?_⟩
 ·show 0 ≤ numI (aput s.m e.id.a (maxZ (numI s.m e.id.a) e.id.n)) a
  have := h.num a
  unfold numI at this ⊢
  rw [alook_aput]
  split
  ·have := maxZ_r ((alook s.m e.id.a).getD 0) e.id.n
   show 0 ≤ maxZ _ _; omega
  ·exact this
 ·have := maxZ_r s.c e.clock; show 0 ≤ maxZ _ _; omega
 ·show f.clock ≤ maxZ _ _
  rcases hmem f hf with q | q
  ·have := h.clk f q; have := maxZ_l s.c e.clock; omega
  ·rw [q]; exact maxZ_r _ _
 ·show AscI (if _ then _ else _); split
  ·exact addI_asc h.asc _
  ·exact h.asc
 ·show PosI (if _ then _ else _); split
  ·exact addI_pos h.pos h1
  ·exact h.pos
 ·show (if e.kind = 5 ∧ authB e.id.a = true then addI s.k e.id else s.k).length ≤ _
  have := addI_len s.k e.id
  have := h.len
  split <;> simp <;> omega
 ·show ∀ x ∈ (if e.kind = 5 ∧ authB e.id.a = true then addI s.k e.id else s.k), x.a.size ≤ 24
  split
  ·rename_i hc
   refine addI_names (Q := fun a => a.size ≤ 24) h.nam ?_
   have := hc.2
   unfold authB at this
   simp only [Bool.and_eq_true, decide_eq_true_eq] at this
   exact this.2.2
  ·exact h.nam
 ·show conI (if e.kind = 5 ∧ authB e.id.a = true then addI s.k e.id else s.k) f.id = true
  rcases hmem f hf with q | q
  ·have := h.has f q hk ha
   split
   ·unfold conI at this ⊢
    simp only [Bool.and_eq_true, decide_eq_true_eq] at this ⊢
    exact ⟨this.1, Int.le_trans this.2 (addI_has h.asc h.pos h1 _).1⟩
   ·exact this
  ·subst q
   rw [if_pos ⟨hk, ha⟩]
   unfold conI
   simp only [Bool.and_eq_true, decide_eq_true_eq]
   exact ⟨h1, (addI_has h.asc h.pos h1 _).2 rfl⟩
end Go.Aw.Try

namespace Go.Aw.Try
open Go Go.Proofs Go.Aw
set_option maxRecDepth 100000
set_option maxHeartbeats 4000000
/-! ### EvictFinal: the walk -/
structure GoodF (x : List Cutoff) (l : List Edit) (clk : Int) (e : Edit) : Prop where
 gone : (cutF x e.id.a).2 = false
 clk : clk < e.clock
 has : ∀ f ∈ l, f.kind = 5 → authB f.id.a = true → conI e.deps f.id = true
 sz : szE e
theorem cutsE_len {l : List Edit} {all : List Member} (h : OkR l all) : (cutsE l all).length ≤ 1000 := by
 have hv := h.vs
 have h8 : (all.map Member.name).length ≤ 8 := by rw [List.length_map]; exact h.2.1
 unfold cutsE cutsC
 split
 ·exact Nat.zero_le _
 ·rename_i hq
  obtain ⟨S, hS⟩ : ∃ S, S = nth (outL (gatC l all).mem (gatC l all).vs) ((outL (gatC l all).mem (gatC l all).vs).length - 1) := ⟨_, rfl⟩
  have hm : S ∈ outL (gatC l all).mem (gatC l all).vs := by rw [hS]; exact nth_mem (by omega)
  obtain ⟨⟨v, hv1, hv2⟩, _⟩ := (mem_out hv h8).1 hm
  have hh := (hv.ok v hv1).half
  rw [← hS]
  have : ∀ x : List ByteArray, (x.flatMap (cutOf (gatC l all) (outL (gatC l all).mem (gatC l all).vs) (finalB (gatC l all) S))).length ≤ 2 * x.length := fun x => by
   induction x with
   | nil => simp
   | cons a x ih =>
    have : (cutOf (gatC l all) (outL (gatC l all).mem (gatC l all).vs) (finalB (gatC l all) S) a).length ≤ 2 := by unfold cutOf; split <;> simp
    simp only [List.flatMap_cons, List.length_append, List.length_cons]; omega
  have := this S
  rw [hv2] at hh; omega
end Go.Aw.Try

namespace Go.Aw.Try
open Go Go.Proofs Go.Aw
set_option maxRecDepth 100000
set_option maxHeartbeats 4000000
/-! ### EvictLowerBound: the walk -/
abbrev encSV (m : List (ByteArray × List Id)) : List (Value × PV) := encM (fun s => .string s) (fun v => .c (.sl (v.map Id.row))) m
theorem mfind_SV (a : ByteArray) (m : List (ByteArray × List Id)) : mfind (encSV m) (.string a) = (alook m a).map fun v => PVo.c (.sl (v.map Id.row)) := mfind_enc (ke := fun s => Value.string s) (fun a b => rfl) a m
theorem mput_SV (a : ByteArray) (v : List Id) (m : List (ByteArray × List Id)) : mput (encSV m) (.string a) (.c (.sl (v.map Id.row))) = encSV (aput m a v) := mput_enc (ke := fun s => Value.string s) (ve := fun v => PVo.c (.sl (v.map Id.row))) (fun a b => rfl) a v m
def hadI (m : List (ByteArray × List Id)) (a : ByteArray) : List Id := (alook m a).getD []
def dN (l : List Edit) : Nat := (l.map fun e => e.deps.length).sum
theorem dN_app (a b : List Edit) : dN (a ++ b) = dN a + dN b := by unfold dN; rw [List.map_append, List.sum_append]
theorem dN_take {l : List Edit} {i : Nat} (h : i < l.length) : dN (l.take (i + 1)) = dN (l.take i) + (nth l i).deps.length := by
 rw [take_nth h, dN_app]; simp [dN]
theorem dN_le (l : List Edit) (i : Nat) : dN (l.take i) ≤ dN l := by
 have := dN_app (l.take i) (l.drop i)
 rw [List.take_append_drop] at this; omega
theorem dN_small {l : List Edit} (h : ∀ e ∈ l, e.deps.length ≤ 12) : dN l ≤ 12 * l.length := by
 induction l with
 | nil => exact Nat.le_refl _
 | cons e l ih =>
  have h1 := h e (List.mem_cons_self ..)
  have h2 := ih fun f hf => h f (List.mem_cons_of_mem _ hf)
  unfold dN at h2 ⊢
  simp only [List.map_cons, List.sum_cons, List.length_cons]; omega
structure HadOk (l : List Edit) (n : Nat) (hd : List (ByteArray × List Id)) : Prop where
 asc : ∀ a, AscI (hadI hd a)
 pos : ∀ a, PosI (hadI hd a)
 len : ∀ a, (hadI hd a).length ≤ n
 nam : ∀ a, ∀ x ∈ hadI hd a, x.a.size < 4611686018427387904
 has : ∀ f ∈ l, ∀ s, hasN f.deps s ≤ hasN (hadI hd f.id.a) s
theorem hadI_put (m : List (ByteArray × List Id)) (a b : ByteArray) (v : List Id) : hadI (aput m a v) b = if a = b then v else hadI m b := by
 unfold hadI; rw [alook_aput]; split <;> rfl
theorem had_step1 {l : List Edit} {n : Nat} {hd : List (ByteArray × List Id)} (h : HadOk l n hd) {e : Edit} (h1 : AscI e.deps) (h2 : PosI e.deps) (h3 : ∀ x ∈ e.deps, x.a.size < 4611686018427387904) :
  HadOk (l ++ [e]) (n + e.deps.length) (aput hd e.id.a (mergeI (hadI hd e.id.a) e.deps)) := by
 obtain ⟨r1, r2, r3, r4⟩ := merge_facts e.deps (hadI hd e.id.a) (h.asc _) (h.pos _) h2
 refine ⟨fun a => ?_, fun a => ?_, fun a => ?_, fun a => ?_, fun f hf s => ?_⟩
 ·rw [hadI_put]; split
  ·exact r1
  ·exact h.asc a
 ·rw [hadI_put]; split
  ·exact r2
  ·exact h.pos a
 ·have := h.len a
  have := h.len e.id.a
  have := mergeI_len (hadI hd e.id.a) e.deps
  rw [hadI_put]; split <;> omega
 ·rw [hadI_put]; split
  ·exact merge_names (Q := fun a => a.size < 4611686018427387904) _ _ (h.nam _) h3
  ·exact h.nam a
 ·rw [hadI_put]
  rcases List.mem_append.1 hf with hf | hf
  ·have := h.has f hf s
   split
   ·rename_i q; rw [← q] at this; exact Int.le_trans this (r3 s)
   ·exact this
  ·rw [List.mem_singleton] at hf; subst hf
   rw [if_pos rfl]; exact merge_right (h.asc _) (h.pos _) h2 h1 s
theorem had_step2 {l : List Edit} {n : Nat} {hd : List (ByteArray × List Id)} (h : HadOk l n hd) {e : Edit} (h1 : AscI e.deps) (h2 : PosI e.deps) (h3 : ∀ x ∈ e.deps, x.a.size < 4611686018427387904) :
  HadOk l (n + e.deps.length) (aput hd e.id.a (mergeI e.deps (hadI hd e.id.a))) := by
 obtain ⟨r1, r2, r3, r4⟩ := merge_facts (hadI hd e.id.a) e.deps h1 h2 (h.pos _)
 refine ⟨fun a => ?_, fun a => ?_, fun a => ?_, fun a => ?_, fun f hf s => ?_⟩
 ·rw [hadI_put]; split
  ·exact r1
  ·exact h.asc a
 ·rw [hadI_put]; split
  ·exact r2
  ·exact h.pos a
 ·have := h.len a
  have := h.len e.id.a
  have := mergeI_len e.deps (hadI hd e.id.a)
  rw [hadI_put]; split <;> omega
 ·rw [hadI_put]; split
  ·exact merge_names (Q := fun a => a.size < 4611686018427387904) _ _ h3 (h.nam _)
  ·exact h.nam a
 ·rw [hadI_put]
  have := h.has f hf s
  split
  ·rename_i q; rw [← q] at this; exact Int.le_trans this (merge_right h1 h2 (h.pos _) (h.asc _) s)
  ·exact this
structure GoodB (x : List Cutoff) (l : List Edit) (clk : Int) (e : Edit) : Prop where
 gone : (cutF x e.id.a).2 = false
 clk : clk < e.clock
 has : ∀ f ∈ l, f.id.a = e.id.a → ∀ s, hasN f.deps s ≤ hasN e.deps s
 sz : szE e
theorem lower_walk (m : Int) (l more : List Edit) (all : List Member) (hz : Sz l all) (hz2 : ∀ e ∈ more, szE e) (b2 : more.length ≤ 1048576) (b3 : dN more ≤ 1048576) :
  ACalls Tryz.prog (GM m) 10 [.c (.d (.sl (l.map Edit.row))), .c (.d (.sl (more.map Edit.row))), .c (.d (.sl (all.map Member.row)))] [] fun t H => t = .bool true ∧ H = [] := by
 have s1 : x511.sc = true := rfl
 have s2 : x512.sc = true := rfl
 have s3 : (x514 m).sc = false := rfl
 have s4 : x516.sc = true := rfl
 have s6 : x527.sc = false := rfl
 have s7 : x528.sc = true := rfl
 have g0 : x511.g [] = some (True, .bool true) := rfl
 have g1 := xg512 l all hz.sl hz.sa hz.sn hz.se
 refine acallsX (X := [(11, x511), (12, x512), (14, x514 m), (16, x516), (27, x527), (28, x528)]) ⟨kx511 m, kx512.gm, kx514 m, kx516.gm, kx527.gm, kx528.gm, trivial⟩ tab hmix Tryz.func10 c510 (by rfl) fun hw => ?_
 by_cases ok : OkR l all
 case neg =>
  rw [right_no ok] at g1
  simp (implicitDefEqProofs := false) (disch := omega) [gz, ir510, b510, b510_0, b510_1, b510_2, s1, s2, g0, g1, wrap64]
  exact fin_nil ⟨rfl, rfl⟩
 rw [right_yes ok] at g1
 have g2 := xg514 m l all ok.okC
 have hxl := cutsE_len ok
 have hlaw : ∀ Lt, OkR (l ++ Lt) all → Later2 (cutsE l all) l Lt → (∀ e ∈ Lt, ∀ f ∈ l, f.id.a = e.id.a → ∀ a, hasN f.deps a ≤ hasN e.deps a) → ∀ c ∈ cutsE l all, c.err = 19 → ∃ n, cutF (cutsE (l ++ Lt) all) c.who = (n, true) ∧ c.n ≤ n := fun Lt a b c => lower_law ok a b c
 obtain ⟨x, hx⟩ : ∃ x, x = cutsE l all := ⟨_, rfl⟩
 rw [← hx] at g2 hxl hlaw
 have hl40 := ok.1
 have hdl40 : dN l ≤ 480 := by
  have := dN_small (l := l) fun e he => (ok.okE he).2.1
  omega
 by_cases hx0 : x.length = 0
 ·simp (implicitDefEqProofs := false) (disch := omega) [gz, ir510, b510, b510_0, b510_1, b510_2, b510_3, b510_4, s1, s2, s3, g0, g1, g2, hx0, wrap64, toPVs, frzVs, osVs, toPV]
  exact fin_nil ⟨rfl, rfl⟩
 have hx0' : ¬ (x.length : Int) = 0 := by omega
 simp (implicitDefEqProofs := false) (disch := omega) [gz, ir510, b510, b510_0, b510_1, b510_2, b510_3, b510_4, b510_5, b510_6, b510_7, s1, s2, s3, g0, g1, g2, hx0, hx0', wrap64, toPVs, frzVs, osVs, toPV]
 obtain ⟨s0, hs0⟩ : ∃ s : Fs, s = ⟨[], 0, []⟩ := ⟨_, rfl⟩
 have hok0 : FsOk [] s0 := by
  rw [hs0]
  exact ⟨fun a => Int.le_refl _, Int.le_refl _, fun f hf => (by cases hf), List.Pairwise.nil, fun x hx => (by cases hx), Nat.le_refl _, fun x hx => (by cases hx), fun f hf => (by cases hf)⟩
 have had0 : HadOk [] 0 [] := ⟨fun a => List.Pairwise.nil, fun a x hx => (by cases hx), fun a => Nat.le_refl _, fun a x hx => (by cases hx), fun f hf => (by cases hf)⟩
 refine loopE (fun k st => ∃ i fs hd, i ≤ l.length ∧ k = l.length - i ∧ FsOk (l.take i) fs ∧ HadOk (l.take i) (dN (l.take i)) hd ∧
   st = ⟨ofL [(0, T.v (.c (.d (.sl (l.map Edit.row))))), (1, .v (.c (.d (.sl (more.map Edit.row))))), (2, .v (.c (.d (.sl (all.map Member.row))))), (7, .v (.c (.d (.sl (x.map Cutoff.row))))), (37, .v (.c (.d (.sl (l.map Edit.row))))), (38, .int .i64 l.length), (8, .int .i64 fs.c), (9, .v (.c (.mp 0))), (10, .v (.c (.mp 1))), (39, .int .i64 i)], [.map ⟨false, [.s]⟩ (encSI fs.m), .map ⟨false, [.s]⟩ (encSV hd)]⟩)
  (fun st => ∃ fs hd, FsOk l fs ∧ HadOk l (dN l) hd ∧ AtS [(0, T.v (.c (.d (.sl (l.map Edit.row))))), (1, .v (.c (.d (.sl (more.map Edit.row))))), (2, .v (.c (.d (.sl (all.map Member.row))))), (7, .v (.c (.d (.sl (x.map Cutoff.row))))), (8, .int .i64 fs.c), (9, .v (.c (.mp 0))), (10, .v (.c (.mp 1)))] [.map ⟨false, [.s]⟩ (encSI fs.m), .map ⟨false, [.s]⟩ (encSV hd)] st) ?_ ?_ ?_
 ·refine wk_nil [0, 1] [0, 1, 2, 7, 37, 38, 8, 9, 10, 39] rfl ⟨_, 0, s0, [], by omega, rfl, hok0, had0, ?_⟩
  rw [hs0]
  simp [phi, O.ren, PV.toV, encM]
 ·rintro J L hJ hL k st ⟨i, fs, hd, hi, rfl, hfs, hhd, rfl⟩
  by_cases hlt : i < l.length
  ·obtain ⟨e, he⟩ : ∃ e, nth l i = e := ⟨_, rfl⟩
   have hem : e ∈ l := by rw [← he]; exact nth_mem hlt
   have hee := Edit.row_eq e
   have hke := ok.okE hem
   have hasc := chk_asc hke.1
   have hfs2 := fs_step hfs hke.2.2.2.1 hke.2.2.2.2
   have htk : l.take i ++ [e] = l.take (i + 1) := by rw [take_nth hlt, he]
   rw [htk] at hfs2
   have hhd2 := had_step1 hhd hasc.1 hasc.2 (hz.se e hem).2
   have hdt := dN_take hlt
   rw [he] at hdt
   rw [htk, ← hdt] at hhd2
   have hdl := dN_le l i
   have hhl := hhd.len e.id.a
   have g6 := xg527 (hadI hd e.id.a) e.deps (hhd.asc _) (by have := hke.2.1; omega)
   have hfd := mfind_SI e.id.a fs.m
   have hput := fun n => mput_SI e.id.a n fs.m
   have hfv := mfind_SV e.id.a hd
   have hpv := fun v => mput_SV e.id.a v hd
   have hsm : encSI (fsStep fs e).m = encSI (aput fs.m e.id.a (if numI fs.m e.id.a < e.id.n then e.id.n else numI fs.m e.id.a)) := rfl
   have hsc : (fsStep fs e).c = if fs.c < e.clock then e.clock else fs.c := rfl
   have hnum : numI fs.m e.id.a = (alook fs.m e.id.a).getD 0 := rfl
   have hhad : hadI hd e.id.a = (alook hd e.id.a).getD [] := rfl
   have done : ∀ (sl : Nat → T) (o : O), (∀ p ∈ [(0, T.v (.c (.d (.sl (l.map Edit.row))))), (1, .v (.c (.d (.sl (more.map Edit.row))))), (2, .v (.c (.d (.sl (all.map Member.row))))), (7, .v (.c (.d (.sl (x.map Cutoff.row))))), (37, .v (.c (.d (.sl (l.map Edit.row))))), (38, .int .i64 l.length), (8, .int .i64 (fsStep fs e).c), (9, .v (.c (.mp 0))), (10, .v (.c (.mp 1))), (39, .int .i64 (i + 1 : Nat))], sl p.1 = p.2) →
     wk Tryz.prog (GM m) 0 ⟨sl, [.map ⟨false, [.s]⟩ (encSI (fsStep fs e).m), .map ⟨false, [.s]⟩ (encSV (aput hd e.id.a (mergeI (hadI hd e.id.a) e.deps))), o]⟩ (fun s'' => ∃ k', k' < l.length - i ∧ J k' s'') := fun sl o hsl => by
    subst hJ
    refine wk_nil [0, 1] [0, 1, 2, 7, 37, 38, 8, 9, 10, 39] rfl ⟨l.length - (i + 1), by omega, i + 1, fsStep fs e, _, by omega, rfl, hfs2, hhd2, ?_⟩
    simp at hsl
    simp [hsl, phi, O.ren]
   obtain ⟨V, hV⟩ : ∃ V, V = hadI hd e.id.a := ⟨_, rfl⟩
   rw [← hV] at g6 done hhad
   cases hal : alook fs.m e.id.a with
   | none =>
    rw [hal] at hfd hnum
    simp only [Option.getD_none] at hnum
    simp only [Option.map_none] at hfd
    rw [hnum] at hsm
    rw [hsm] at done
    cases hah : alook hd e.id.a with
    | none =>
     rw [hah] at hfv hhad
     simp only [Option.getD_none] at hhad
     simp only [Option.map_none] at hfv
     rw [hhad] at g6 done
     simp only [List.map_nil] at g6
     simp (implicitDefEqProofs := false) (disch := omega) [gz, hlt, wrap64, nth_map, he, hee, splice, fillC, s6, g6, hfd, hput, hfv, hpv, conf, sksOk, skOk, PV.toV, toPVs, frzVs, osVs, toPV, toDs, toD]
     repeat' (with_reducible apply And.intro)
     all_goals first | omega | kernel_rfl | exact fun _ _ => rfl | skip
     exact done _ _ (by simp [hsc])
    | some w =>
     rw [hah] at hfv hhad
     simp only [Option.getD_some] at hhad
     simp only [Option.map_some] at hfv
     rw [hhad] at g6 done
     simp (implicitDefEqProofs := false) (disch := omega) [gz, hlt, wrap64, nth_map, he, hee, splice, fillC, s6, g6, hfd, hput, hfv, hpv, conf, sksOk, skOk, PV.toV, toPVs, frzVs, osVs, toPV, toDs, toD]
     repeat' (with_reducible apply And.intro)
     all_goals first | omega | kernel_rfl | exact fun _ _ => rfl | skip
     exact done _ _ (by simp [hsc])
   | some n =>
    rw [hal] at hfd hnum
    simp only [Option.getD_some] at hnum
    simp only [Option.map_some] at hfd
    rw [hnum] at hsm
    rw [hsm] at done
    cases hah : alook hd e.id.a with
    | none =>
     rw [hah] at hfv hhad
     simp only [Option.getD_none] at hhad
     simp only [Option.map_none] at hfv
     rw [hhad] at g6 done
     simp only [List.map_nil] at g6
     simp (implicitDefEqProofs := false) (disch := omega) [gz, hlt, wrap64, nth_map, he, hee, splice, fillC, s6, g6, hfd, hput, hfv, hpv, conf, sksOk, skOk, PV.toV, toPVs, frzVs, osVs, toPV, toDs, toD]
     repeat' (with_reducible apply And.intro)
     all_goals first | omega | kernel_rfl | exact fun _ _ => rfl | skip
     exact done _ _ (by simp [hsc])
    | some w =>
     rw [hah] at hfv hhad
     simp only [Option.getD_some] at hhad
     simp only [Option.map_some] at hfv
     rw [hhad] at g6 done
     simp (implicitDefEqProofs := false) (disch := omega) [gz, hlt, wrap64, nth_map, he, hee, splice, fillC, s6, g6, hfd, hput, hfv, hpv, conf, sksOk, skOk, PV.toV, toPVs, frzVs, osVs, toPV, toDs, toD]
     repeat' (with_reducible apply And.intro)
     all_goals first | omega | kernel_rfl | exact fun _ _ => rfl | skip
     exact done _ _ (by simp [hsc])
  ·have : i = l.length := by omega
   subst this
   rw [List.take_length] at hfs hhd
   simp (implicitDefEqProofs := false) (disch := omega) [gz, hlt]
   subst hL
   exact ⟨fs, hd, hfs, hhd, at_mk (by simp) rfl⟩
 rintro _ ⟨fs, hd0, hfs, hhd0, sl, rfl⟩
 have hc0 := hfs.c0
 by_cases hclk : 1000000 < fs.c
 ·simp (implicitDefEqProofs := false) (disch := omega) [gz, b510_8, hclk, wrap64]
  exact fin_nil ⟨rfl, rfl⟩
 simp (implicitDefEqProofs := false) (disch := omega) [gz, b510_8, b510_9, b510_10, hclk, wrap64, splice, fillC, toDs, toD, elems, maxLen47]
 repeat' (with_reducible apply And.intro)
 all_goals first | omega | kernel_rfl | exact fun _ _ => rfl | skip
 refine loopE (fun k st => ∃ j mm hd Lt, j ≤ more.length ∧ k = more.length - j ∧ (∀ a, 0 ≤ numI mm a) ∧ HadOk l (480 + dN (more.take j)) hd ∧ Lt.length ≤ j ∧ (∀ e ∈ Lt, GoodB x l fs.c e) ∧
   st = ⟨ofL [(2, T.v (.c (.d (.sl (all.map Member.row))))), (7, .v (.c (.d (.sl (x.map Cutoff.row))))), (8, .int .i64 fs.c), (9, .v (.c (.mp 0))), (10, .v (.c (.mp 1))), (78, .v (.c (.d (.sl (more.map Edit.row))))), (79, .int .i64 more.length), (13, .v (.c (.os 2 18 0 (l ++ Lt).length))), (80, .int .i64 j)], [.map ⟨false, [.s]⟩ (encSI mm), .map ⟨false, [.s]⟩ (encSV hd), .row 18 ((l ++ Lt).map Edit.row)]⟩)
  (fun st => ∃ es es2 Lt, Lt.length ≤ more.length ∧ (∀ e ∈ Lt, GoodB x l fs.c e) ∧ AtS [(2, T.v (.c (.d (.sl (all.map Member.row))))), (7, .v (.c (.d (.sl (x.map Cutoff.row))))), (13, .v (.c (.os 2 18 0 (l ++ Lt).length)))] [.map ⟨false, [.s]⟩ es, .map ⟨false, [.s]⟩ es2, .row 18 ((l ++ Lt).map Edit.row)] st) ?_ ?_ ?_
 ·refine wk_nil [0, 1, 3] [2, 7, 8, 9, 10, 78, 79, 13, 80] rfl ⟨_, 0, fs.m, hd0, [], by omega, rfl, hfs.num, ⟨hhd0.asc, hhd0.pos, fun a => by have := hhd0.len a; omega, hhd0.nam, hhd0.has⟩, Nat.le_refl _, fun e he => (by cases he), ?_⟩
  simp [phi, O.ren]
 ·rintro J L hJ hL k st ⟨j, mm, hd, Lt, hj, rfl, hnn, hhd, hLl, hLg, rfl⟩
  by_cases hlt : j < more.length
  ·obtain ⟨e, he⟩ : ∃ e, nth more j = e := ⟨_, rfl⟩
   have hem : e ∈ more := by rw [← he]; exact nth_mem hlt
   have hee := Edit.row_eq e
   have hsz := hz2 e hem
   have hdt := dN_take hlt
   rw [he] at hdt
   have hdl := dN_le more (j + 1)
   have g4 := xg516 x e.id.a (by omega)
   have g5 := xg528 e.deps hsz.1 hsz.2
   obtain ⟨qn, qb, hq⟩ : ∃ a b, cutF x e.id.a = (a, b) := ⟨_, _, rfl⟩
   rw [hq, show cutT (qn, qb) = .tup [.c (.d (.v (.int .i64 qn))), .c (.d (.v (.bool qb)))] from rfl] at g4
   obtain ⟨W, hW⟩ : ∃ W, W = l ++ Lt := ⟨_, rfl⟩
   have hWl : W.length ≤ 40 + j := by rw [hW, List.length_append]; omega
   rw [← hW]
   have keep : ∀ (sl : Nat → T) (o : O), (∀ p ∈ [(2, T.v (.c (.d (.sl (all.map Member.row))))), (7, .v (.c (.d (.sl (x.map Cutoff.row))))), (8, .int .i64 fs.c), (9, .v (.c (.mp 0))), (10, .v (.c (.mp 1))), (78, .v (.c (.d (.sl (more.map Edit.row))))), (79, .int .i64 more.length), (13, .v (.c (.os 2 18 0 W.length))), (80, .int .i64 (j + 1 : Nat))], sl p.1 = p.2) →
     wk Tryz.prog (GM m) 0 ⟨sl, [.map ⟨false, [.s]⟩ (encSI mm), .map ⟨false, [.s]⟩ (encSV hd), .row 18 (W.map Edit.row), o]⟩ (fun s'' => ∃ k', k' < more.length - j ∧ J k' s'') := fun sl o hsl => by
    subst hJ
    refine wk_nil [0, 1, 2] [2, 7, 8, 9, 10, 78, 79, 13, 80] rfl ⟨more.length - (j + 1), by omega, j + 1, mm, hd, Lt, by omega, rfl, hnn, ⟨hhd.asc, hhd.pos, fun a => by have := hhd.len a; omega, hhd.nam, hhd.has⟩, by omega, hLg, ?_⟩
    simp at hsl
    simp [hsl, hW, phi, O.ren]
   obtain ⟨z, hzz⟩ : ∃ z, z = chkV e.deps 0 e.deps.length := ⟨_, rfl⟩
   rw [← hzz] at g5
   cases qb
   ·by_cases hz0 : z = 0
    ·have hasc := chk_asc (v := e.deps) (by rw [← hzz]; exact hz0)
     have hhl := hhd.len e.id.a
     have g6 := xg527 e.deps (hadI hd e.id.a) hasc.1 (by omega)
     have hml := mergeI_len e.deps (hadI hd e.id.a)
     have tS : (W.map Edit.row).take W.length = W.map Edit.row := List.take_of_length_le (by simp)
     have hput := fun n => mput_SI e.id.a n mm
     have hfd := mfind_SI e.id.a mm
     have hfv := mfind_SV e.id.a hd
     have hpv := fun v => mput_SV e.id.a v hd
     have hhad : hadI hd e.id.a = (alook hd e.id.a).getD [] := rfl
     have hfd2 : ∀ v, mfind (encSI (aput mm e.id.a v)) (.string e.id.a) = some (PVo.c (D.v (.int .i64 v))) := fun v => by
      rw [mfind_SI, alook_aput, if_pos rfl]; rfl
     have hhd2 := had_step2 hhd hasc.1 hasc.2 hsz.2
     have done : ∀ (v : Int), 0 ≤ v → ∀ (sl : Nat → T) (o1 o2 o3 : O), (∀ p ∈ [(2, T.v (.c (.d (.sl (all.map Member.row))))), (7, .v (.c (.d (.sl (x.map Cutoff.row))))), (8, .int .i64 fs.c), (9, .v (.c (.mp 0))), (10, .v (.c (.mp 1))), (78, .v (.c (.d (.sl (more.map Edit.row))))), (79, .int .i64 more.length), (13, .v (.c (.os 5 18 0 (W.length + 1)))), (80, .int .i64 (j + 1 : Nat))], sl p.1 = p.2) →
       wk Tryz.prog (GM m) 0 ⟨sl, [.map ⟨false, [.s]⟩ (encSI (aput mm e.id.a v)), .map ⟨false, [.s]⟩ (encSV (aput hd e.id.a (mergeI e.deps (hadI hd e.id.a)))), o1, o2, o3, .row 18 (W.map Edit.row ++ [(⟨⟨e.id.a, v⟩, fs.c + 1 + j, e.floor, mergeI e.deps (hadI hd e.id.a), e.kind, e.node, e.parent, e.neg, e.num, e.den, e.field, e.value, e.target, e.who⟩ : Edit).row])]⟩ (fun s'' => ∃ k', k' < more.length - j ∧ J k' s'') := fun v hv sl o1 o2 o3 hsl => by
      subst hJ
      refine wk_nil [0, 1, 5] [2, 7, 8, 9, 10, 78, 79, 13, 80] rfl ⟨more.length - (j + 1), by omega, j + 1, aput mm e.id.a v, _, Lt ++ [(⟨⟨e.id.a, v⟩, fs.c + 1 + j, e.floor, mergeI e.deps (hadI hd e.id.a), e.kind, e.node, e.parent, e.neg, e.num, e.den, e.field, e.value, e.target, e.who⟩ : Edit)], by omega, rfl, fun a => ?_, ⟨hhd2.asc, hhd2.pos, fun a => by have := hhd2.len a; omega, hhd2.nam, hhd2.has⟩, by simp; omega, fun f hf => ?_, ?_⟩
      ·have := hnn a
       unfold numI at this ⊢
       rw [alook_aput]
       split
       ·exact hv
       ·exact this
      ·rcases List.mem_append.1 hf with hf | hf
       ·exact hLg f hf
       ·rw [List.mem_singleton] at hf; subst hf
        refine ⟨by show (cutF x e.id.a).2 = false; rw [hq], by show fs.c < fs.c + 1 + (j : Int); omega, fun f hf ha s => ?_, ?_, ?_⟩
        ·have h1 := hhd.has f hf s
         have ha2 : f.id.a = e.id.a := ha
         rw [ha2] at h1
         exact Int.le_trans h1 (merge_right hasc.1 hasc.2 (hhd.pos _) (hhd.asc _) s)
        ·show (mergeI e.deps (hadI hd e.id.a)).length < _; omega
        ·exact merge_names (Q := fun a => a.size < 4611686018427387904) _ e.deps hsz.2 (hhd.nam _)
      ·simp at hsl
       simp [hsl, hW, phi, O.ren, Nat.add_assoc]
     cases hal : alook mm e.id.a with
     | none =>
      rw [hal] at hfd
      simp only [Option.map_none] at hfd
      cases hah : alook hd e.id.a with
      | none =>
       rw [hah] at hfv hhad
       simp only [Option.getD_none] at hhad
       simp only [Option.map_none] at hfv
       rw [hhad] at g6 done
       simp only [List.map_nil] at g6
       simp (implicitDefEqProofs := false) (disch := omega) [gz, hlt, wrap64, nth_map, he, hee, splice, fillC, s4, s6, s7, g4, g5, g6, hz0, hfd, hfd2, hput, hfv, hpv, conf, sksOk, skOk, PV.toV, tS, toPVs, frzVs, osVs, toPV, toDs, toD]
       repeat' (with_reducible apply And.intro)
       all_goals first | omega | kernel_rfl | exact fun _ _ => rfl | skip
       exact done 1 (by omega) _ _ _ _ (by simp)
      | some w =>
       rw [hah] at hfv hhad
       simp only [Option.getD_some] at hhad
       simp only [Option.map_some] at hfv
       rw [hhad] at g6 done
       simp (implicitDefEqProofs := false) (disch := omega) [gz, hlt, wrap64, nth_map, he, hee, splice, fillC, s4, s6, s7, g4, g5, g6, hz0, hfd, hfd2, hput, hfv, hpv, conf, sksOk, skOk, PV.toV, tS, toPVs, frzVs, osVs, toPV, toDs, toD]
       repeat' (with_reducible apply And.intro)
       all_goals first | omega | kernel_rfl | exact fun _ _ => rfl | skip
       exact done 1 (by omega) _ _ _ _ (by simp)
     | some n =>
      have hn0 : 0 ≤ n := by have := hnn e.id.a; unfold numI at this; rw [hal] at this; exact this
      rw [hal] at hfd
      simp only [Option.map_some] at hfd
      by_cases hn1 : 1000000 < n
      ·simp (implicitDefEqProofs := false) (disch := omega) [gz, hlt, wrap64, nth_map, he, hee, splice, fillC, s4, s6, s7, g4, g5, hz0, hfd, hn1, conf, sksOk, skOk, PV.toV, toPVs, frzVs, osVs, toPV, toDs, toD]
       exact fin_nil ⟨rfl, rfl⟩
      ·cases hah : alook hd e.id.a with
       | none =>
        rw [hah] at hfv hhad
        simp only [Option.getD_none] at hhad
        simp only [Option.map_none] at hfv
        rw [hhad] at g6 done
        simp only [List.map_nil] at g6
        simp (implicitDefEqProofs := false) (disch := omega) [gz, hlt, wrap64, nth_map, he, hee, splice, fillC, s4, s6, s7, g4, g5, g6, hz0, hfd, hn1, hfd2, hput, hfv, hpv, conf, sksOk, skOk, PV.toV, tS, toPVs, frzVs, osVs, toPV, toDs, toD]
        repeat' (with_reducible apply And.intro)
        all_goals first | omega | kernel_rfl | exact fun _ _ => rfl | skip
        exact done (n + 1) (by omega) _ _ _ _ (by simp)
       | some w =>
        rw [hah] at hfv hhad
        simp only [Option.getD_some] at hhad
        simp only [Option.map_some] at hfv
        rw [hhad] at g6 done
        simp (implicitDefEqProofs := false) (disch := omega) [gz, hlt, wrap64, nth_map, he, hee, splice, fillC, s4, s6, s7, g4, g5, g6, hz0, hfd, hn1, hfd2, hput, hfv, hpv, conf, sksOk, skOk, PV.toV, tS, toPVs, frzVs, osVs, toPV, toDs, toD]
        repeat' (with_reducible apply And.intro)
        all_goals first | omega | kernel_rfl | exact fun _ _ => rfl | skip
        exact done (n + 1) (by omega) _ _ _ _ (by simp)
    ·simp (implicitDefEqProofs := false) (disch := omega) [gz, hlt, wrap64, nth_map, he, hee, splice, fillC, s4, s7, g4, g5, hz0]
     exact keep _ _ (by simp)
   ·simp (implicitDefEqProofs := false) (disch := omega) [gz, hlt, wrap64, nth_map, he, hee, splice, fillC, s4, g4]
    exact keep _ _ (by simp)
  ·have : j = more.length := by omega
   subst this
   simp (implicitDefEqProofs := false) (disch := omega) [gz, hlt]
   subst hL
   exact ⟨encSI mm, encSV hd, Lt, hLl, hLg, at_mk (by simp) (by simp)⟩
 rintro _ ⟨es, es2, Lt, hLl, hLg, sl, rfl⟩
 have hlaw2 := hlaw Lt
 have hszN : ∀ e ∈ l ++ Lt, szE e := fun e he => by
  rcases List.mem_append.1 he with he | he
  ·exact hz.se e he
  ·exact (hLg e he).sz
 have hNl : (l ++ Lt).length ≤ 2000000 := by rw [List.length_append]; omega
 obtain ⟨N, hN⟩ : ∃ N, N = l ++ Lt := ⟨_, rfl⟩
 rw [← hN] at hlaw2 hszN hNl ⊢
 have g3 := xg512 N all (by omega) hz.sa hz.sn hszN
 have tS : (N.map Edit.row).take N.length = N.map Edit.row := List.take_of_length_le (by simp)
 by_cases ok2 : OkR N all
 ·rw [right_yes ok2] at g3
  have hc := hlaw2 ok2 ⟨fun e he => (hLg e he).gone, fun e he f hf => by have := hfs.clk f hf; have := (hLg e he).clk; omega⟩ (fun e he => (hLg e he).has)
  have g4 := xg514 m N all ok2.okC
  have hyl := cutsE_len ok2
  obtain ⟨y, hy⟩ : ∃ y, y = cutsE N all := ⟨_, rfl⟩
  rw [← hy] at g4 hyl hc
  simp (implicitDefEqProofs := false) (disch := omega) [gz, b510_11, b510_12, b510_13, tS, s2, s3, g3, g4, wrap64, toPVs, frzVs, osVs, toPV, toDs, toD]
  refine loopE (fun k st => ∃ i, i ≤ x.length ∧ k = x.length - i ∧
    st = ⟨ofL [(18, .v (.c (.d (.sl (y.map Cutoff.row))))), (151, .v (.c (.d (.sl (x.map Cutoff.row))))), (152, .int .i64 x.length), (153, .int .i64 i)], []⟩)
   (fun st => AtS [] [] st) ?_ ?_ ?_
  ·refine wk_nil [] [18, 151, 152, 153] rfl ⟨_, 0, by omega, rfl, ?_⟩
   simp
  ·rintro J L hJ hL k st ⟨i, hi, rfl, rfl⟩
   by_cases hlt : i < x.length
   ·obtain ⟨c, hcc⟩ : ∃ c, nth x i = c := ⟨_, rfl⟩
    have hcm : c ∈ x := by rw [← hcc]; exact nth_mem hlt
    have hcr : c.row = [.v (.string c.who), .v (.int .i64 c.n), .v (.int .i64 c.err)] := rfl
    have g5 := xg516 y c.who (by omega)
    by_cases c1 : c.err = 19
    ·obtain ⟨n, hn1, hn2⟩ := hc c hcm c1
     rw [hn1, show cutT (n, true) = .tup [.c (.d (.v (.int .i64 n))), .c (.d (.v (.bool true)))] from rfl] at g5
     have hn3 : ¬ n < c.n := by omega
     simp (implicitDefEqProofs := false) (disch := omega) [gz, hlt, wrap64, nth_map, hcc, hcr, splice, fillC, s4, g5, c1, hn3]
     subst hJ
     refine wk_nil [] [18, 151, 152, 153] rfl ⟨x.length - (i + 1), by omega, i + 1, by omega, rfl, ?_⟩
     simp
    ·simp (implicitDefEqProofs := false) (disch := omega) [gz, hlt, wrap64, nth_map, hcc, hcr, splice, fillC, s4, g5, c1]
     subst hJ
     refine wk_nil [] [18, 151, 152, 153] rfl ⟨x.length - (i + 1), by omega, i + 1, by omega, rfl, ?_⟩
     simp
   ·have : i = x.length := by omega
    subst this
    simp (implicitDefEqProofs := false) (disch := omega) [gz, hlt]
    subst hL
    exact at_mk (by simp) rfl
  rintro _ ⟨sl, rfl⟩
  simp (implicitDefEqProofs := false) (disch := omega) [gz, b510_14, b510_15, wrap64]
  exact fin_nil ⟨rfl, rfl⟩
 ·rw [right_no ok2] at g3
  simp (implicitDefEqProofs := false) (disch := omega) [gz, b510_11, tS, s2, g3, wrap64, toPVs, frzVs, osVs, toPV, toDs, toD]
  exact fin_nil ⟨rfl, rfl⟩
end Go.Aw.Try

namespace Go.Aw.Try
open Go Go.Proofs Go.Aw
set_option maxRecDepth 100000
theorem dN_w : ∀ l : List Edit, dN l ≤ wDss (l.map Edit.row)
 | [] => by simp [dN, wDss]
 | e :: l => by
  have h1 := dN_w l
  have h3 : wDss (e.deps.map Id.row) ≤ wDs e.row := by simp only [Edit.row, wDs, wD]; omega
  have h4 := wrows (row := Id.row) (fun x => by simp [Id.row]) e.deps
  have h2 : dN (e :: l) = e.deps.length + dN l := by simp [dN]
  simp only [List.map_cons, wDss] at *; omega
theorem b_dN {l : List Edit} (h : wDs [.sl (l.map Edit.row)] ≤ 1048576) : dN l ≤ 1048576 := by
 simp only [wDs, wD] at h
 have := dN_w l
 omega
end Go.Aw.Try
