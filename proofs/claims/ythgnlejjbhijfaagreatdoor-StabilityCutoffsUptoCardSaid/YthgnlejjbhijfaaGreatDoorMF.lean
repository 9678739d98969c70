/- An abstract machine over the model, and contracts of functions of this program on it (part 6): words and lemmas for the proof in the last text. -/
import Derived.Test.YthgnlejjbhijfaaGreatDoorME
set_option linter.unusedSimpArgs false
set_option linter.unusedVariables false
set_option linter.unusedSectionVars false

namespace Go.Aw.Try
open Go Go.Proofs Go.Aw
set_option maxRecDepth 100000
set_option maxHeartbeats 4000000
/-! ### Outs -/
theorem outs_len (all : List Member) (W : List Edit) (size : Nat) : ∀ (l : List Edit) (out : List ByteArray), (l.foldl (outsStep all W size) out).length ≤ out.length + l.length
 | [], out => Nat.le_refl _
 | v :: l, out => by
  rw [List.foldl_cons]
  have := outs_len all W size l (outsStep all W size out v)
  have h2 : (outsStep all W size out v).length ≤ out.length + 1 := by unfold outsStep; split <;> simp
  rw [List.length_cons]; omega
theorem outsR_succ (all : List Member) (W : List Edit) (n : Nat) : outsR all W (n + 1) = W.foldl (outsStep all W (n + 1)) (outsR all W n) := by
 unfold outsR; rw [List.range_succ, List.foldl_append]; rfl
theorem outsR_len (all : List Member) (W : List Edit) : ∀ n, (outsR all W n).length ≤ n * W.length
 | 0 => Nat.zero_le _
 | n + 1 => by
  rw [outsR_succ]
  have := outs_len all W (n + 1) W (outsR all W n)
  have := outsR_len all W n
  rw [Nat.succ_mul]; omega
theorem k540 (W : List Edit) (all : List Member) (h : OkW all W) (H : List O) :
  ACalls Tryz.prog G0 40 [.c (.d (.sl (W.map Edit.row))), .c (.d (.sl (all.map Member.row)))] H (Own H 1 ((outsR all W all.length).map srow)) := by
 have s1 : x542.sc = false := rfl
 have s2 : x546.sc = true := rfl
 have s3 : x541.sc = false := rfl
 have hal := h.mlen
 have hWl := h.len
 have hol : ∀ n, n ≤ 8 → (outsR all W n).length ≤ 320 := fun n hn => by
  have h1 := outsR_len all W n
  have h2 : n * W.length ≤ 8 * 40 := Nat.mul_le_mul hn hWl
  omega
 refine acallsX (X := [(42, x542), (46, x546), (41, x541)]) ⟨kx542, kx546, kx541, trivial⟩ tab hmix Tryz.func40 c540 (by rfl) fun hw => ?_
 simp (implicitDefEqProofs := false) (disch := omega) [gz, ir540, b540, b540_0, b540_1, b540_2, wrap64]
 refine loopE (fun k st => ∃ n, n ≤ all.length ∧ k = all.length - n ∧
   st = ⟨ofL [(0, .v (.c (.d (.sl (W.map Edit.row))))), (1, .v (.c (.d (.sl (all.map Member.row))))), (6, .int .i64 (n + 1 : Nat)), (5, .v (.c (.os H.length 1 0 (outsR all W n).length)))], H ++ [.row 1 ((outsR all W n).map srow)]⟩)
  (fun st => AtS [(5, .v (.c (.os H.length 1 0 (outsR all W all.length).length)))] (H ++ [.row 1 ((outsR all W all.length).map srow)]) st) ?_ ?_ ?_
 ·refine wk_pre [0] [0, 1, 6, 5] hw rfl ⟨_, 0, by omega, rfl, ?_⟩
  simp [phiP, phi, O.ren, outsR]
 ·rintro J L hJ hL k st ⟨n, hn, rfl, rfl⟩
  by_cases hlt : n < all.length
  ·have hle : ((n + 1 : Nat) : Int) ≤ (all.length : Int) := by omega
   have hsz : ((n + 1 : Nat) : Int) = (n : Int) + 1 := by omega
   have hsucc := outsR_succ all W n
   obtain ⟨O0, hO0⟩ : ∃ O0, O0 = outsR all W n := ⟨_, rfl⟩
   have hO0l := hol n (by omega)
   rw [← hO0] at hsucc hO0l ⊢
   simp (implicitDefEqProofs := false) (disch := omega) [gz, hlt, hle, wrap64]
   refine ⟨fun hq => ?_, fun hq => absurd hq (by omega)⟩
   refine loopE (fun k st => ∃ (j : Nat), j ≤ W.length ∧ k = W.length - j ∧
     st = ⟨ofL [(0, .v (.c (.d (.sl (W.map Edit.row))))), (1, .v (.c (.d (.sl (all.map Member.row))))), (6, .int .i64 (n + 1 : Nat)), (20, .v (.c (.d (.sl (W.map Edit.row))))), (21, .int .i64 W.length), (22, .int .i64 j), (5, .v (.c (.os H.length 1 0 ((W.take j).foldl (outsStep all W (n + 1)) O0).length)))], H ++ [.row 1 (((W.take j).foldl (outsStep all W (n + 1)) O0).map srow)]⟩)
    (fun st => AtS [(0, .v (.c (.d (.sl (W.map Edit.row))))), (1, .v (.c (.d (.sl (all.map Member.row))))), (6, .int .i64 (n + 1 : Nat)), (5, .v (.c (.os H.length 1 0 (outsR all W (n + 1)).length)))] (H ++ [.row 1 ((outsR all W (n + 1)).map srow)]) st) ?_ ?_ ?_
   ·refine wk_pre [0] [0, 1, 6, 20, 21, 22, 5] hw rfl ⟨_, 0, by omega, rfl, ?_⟩
    simp [phiP, phi, O.ren]
   ·rintro J2 L2 hJ2 hL2 k2 st ⟨j, hj, rfl, rfl⟩
    by_cases hjl : j < W.length
    ·obtain ⟨e, he⟩ : ∃ e, nth W j = e := ⟨_, rfl⟩
     have hem : e ∈ W := by rw [← he]; exact nth_mem hjl
     have hee := Edit.row_eq e
     have hstep : (W.take (j + 1)).foldl (outsStep all W (n + 1)) O0 = outsStep all W (n + 1) ((W.take j).foldl (outsStep all W (n + 1)) O0) e := by
      rw [take_nth hjl, List.foldl_append, he]; rfl
     have hXl := outs_len all W (n + 1) (W.take j) O0
     rw [List.length_take] at hXl
     obtain ⟨X, hX⟩ : ∃ X, X = (W.take j).foldl (outsStep all W (n + 1)) O0 := ⟨_, rfl⟩
     rw [← hX] at hstep hXl ⊢
     replace hstep : (W.take (j + 1)).foldl (outsStep all W (n + 1)) O0 = if ((ofR all W e.who).isSome && (decide ((parts e.who comma).length = n + 1) && !hasS X e.who)) = true then X ++ [e.who] else X := hstep
     have g1 := ref_Te h hem
     rw [hee] at g1
     have g2 := xg541 e.who W all h ⟨e, hem, rfl⟩
     have g3 := xg546 X e.who (by omega)
     obtain ⟨pl, _⟩ := h.pln ⟨e, hem, rfl⟩
     obtain ⟨P, hP⟩ : ∃ P, P = parts e.who comma := ⟨_, rfl⟩
     obtain ⟨R, hR⟩ : ∃ R, R = ofR all W e.who := ⟨_, rfl⟩
     obtain ⟨u, hu⟩ : ∃ u, u = hasS X e.who := ⟨_, rfl⟩
     rw [← hP] at g1 hstep pl
     rw [← hR] at g2 hstep
     rw [← hu] at g3 hstep
     have tS : (X.map srow).take X.length = X.map srow := List.take_of_length_le (by simp)
     have keep : ∀ (sl : Nat → T) (o : O), (W.take (j + 1)).foldl (outsStep all W (n + 1)) O0 = X → (∀ p ∈ [(0, T.v (.c (.d (.sl (W.map Edit.row))))), (1, .v (.c (.d (.sl (all.map Member.row))))), (6, .int .i64 (n + 1 : Nat)), (20, .v (.c (.d (.sl (W.map Edit.row))))), (21, .int .i64 W.length), (22, .int .i64 (j + 1 : Nat)), (5, .v (.c (.os H.length 1 0 X.length)))], sl p.1 = p.2) → wk Tryz.prog G0 H.length ⟨sl, H ++ [.row 1 (X.map srow), o]⟩ (fun s'' => ∃ k', k' < W.length - j ∧ J2 k' s'') := fun sl o hnn hsl => by
      subst hJ2
      refine wk_pre [0] [0, 1, 6, 20, 21, 22, 5] hw rfl ⟨W.length - (j + 1), by omega, j + 1, by omega, rfl, ?_⟩
      rw [hnn]
      simp at hsl
      simp [hsl, phiP, phi, O.ren]
     cases R with
     | none =>
      have hT : ofT none = .tup [.c (.d (.v (.slice none 0 0))), .c (.d (.v (.bool false)))] := rfl
      rw [hT] at g2
      simp (implicitDefEqProofs := false) (disch := omega) [gz, hjl, wrap64, nth_map, he, hee, splice, fillC, s1, s2, s3, g1, g2, g3, toPVs, frzVs, osVs, toPV, Nat.add_assoc]
      exact keep _ _ (by rw [hstep]; rfl) (by simp)
     | some own =>
      have hT : ofT (some own) = .tup [.c (.d (.sl (own.map Edit.row))), .c (.d (.v (.bool true)))] := rfl
      rw [hT] at g2
      by_cases c1 : P.length = n + 1
      ·have c1' : (P.length : Int) = (n : Int) + 1 := by omega
       cases u
       ·rw [if_pos (by simp [c1])] at hstep
        simp (implicitDefEqProofs := false) (disch := omega) [gz, hjl, wrap64, nth_map, he, hee, splice, fillC, s1, s2, s3, g1, g2, g3, c1, c1', toPVs, frzVs, osVs, toPV, toDs, toD, tS, Nat.add_assoc]
        repeat' (with_reducible apply And.intro)
        all_goals first | omega | kernel_rfl | exact fun _ _ => rfl | skip
        subst hJ2
        refine wk_pre [3] [0, 1, 6, 20, 21, 22, 5] hw rfl ⟨W.length - (j + 1), by omega, j + 1, by omega, rfl, ?_⟩
        rw [hstep]
        simp [phiP, phi, O.ren, srow, show ¬ (H.length + 3 < H.length) from by omega]
       ·simp (implicitDefEqProofs := false) (disch := omega) [gz, hjl, wrap64, nth_map, he, hee, splice, fillC, s1, s2, s3, g1, g2, g3, c1, c1', toPVs, frzVs, osVs, toPV, tS, Nat.add_assoc]
        exact keep _ _ (by rw [hstep]; simp) (by simp)
      ·have c1' : ¬ (P.length : Int) = (n : Int) + 1 := by omega
       simp (implicitDefEqProofs := false) (disch := omega) [gz, hjl, wrap64, nth_map, he, hee, splice, fillC, s1, s2, s3, g1, g2, g3, c1, c1', toPVs, frzVs, osVs, toPV, Nat.add_assoc]
       exact keep _ _ (by rw [hstep]; simp [c1]) (by simp)
    ·have : j = W.length := by omega
     subst this
     rw [List.take_length]
     simp (implicitDefEqProofs := false) (disch := omega) [gz, hjl]
     subst hL2
     rw [hsucc]
     exact at_mk (by simp) (by simp)
   ·rintro _ ⟨sl, rfl⟩
    simp (implicitDefEqProofs := false) (disch := omega) [gz, wrap64]
    subst hJ
    refine wk_pre [0] [0, 1, 6, 5] hw rfl ⟨all.length - (n + 1), by omega, n + 1, by omega, rfl, ?_⟩
    simp [phiP, phi, O.ren]
  ·have : n = all.length := by omega
   subst this
   simp (implicitDefEqProofs := false) (disch := omega) [gz, hlt]
   refine ⟨fun hq => absurd hq (by omega), fun hq => ?_⟩
   subst hL
   exact at_mk (by simp) (by simp)
 ·rintro _ ⟨sl, rfl⟩
  simp (implicitDefEqProofs := false) (disch := omega) [gz, b540_3, b540_4, wrap64]
  exact fin_own (k := 0) hw rfl (by simp)
noncomputable def x540 : XE := mkX false (fun (p : List Edit × List Member) => [.c (.sl (p.1.map Edit.row)), .c (.sl (p.2.map Member.row))]) (fun p => OkW p.2 p.1) (fun p => .v (.c (.d (.sl ((outsR p.2 p.1 p.2.length).map srow)))))
theorem kx540 : Contract Tryz.prog G0 40 x540 := mkX_data fun p h H => own_data (k540 p.1 p.2 h H)
theorem xg540 (W : List Edit) (all : List Member) (h : OkW all W) : x540.g [.c (.sl (W.map Edit.row)), .c (.sl (all.map Member.row))] = some (True, .v (.c (.d (.sl ((outsR all W all.length).map srow))))) := mkX_g (fun a b h => by
 simp only [List.cons.injEq, PVo.c.injEq, D.sl.injEq] at h
 exact Prod.ext (rows_inj h.1) (mrows_inj h.2.1)) (W, all) h
end Go.Aw.Try

namespace Go.Aw.Try
open Go Go.Proofs Go.Aw
set_option maxRecDepth 100000
set_option maxHeartbeats 4000000
/-! ### number -/
def idxW : List ByteArray → ByteArray → Nat
 | [], _ => 0
 | x :: r, w => if x = w then 0 else idxW r w + 1
theorem idxW_nth : ∀ {l : List ByteArray} {w : ByteArray}, idxW l w < l.length → nth l (idxW l w) = w
 | [], w, h => by cases h
 | x :: r, w, h => by
  unfold idxW at h ⊢
  by_cases c : x = w
  ·rw [if_pos c]; exact c
  ·rw [if_neg c] at h ⊢
   have := idxW_nth (l := r) (w := w) (by simp only [List.length_cons] at h; omega)
   exact this
theorem idxW_of : ∀ {l : List ByteArray} {i : Nat}, l.Nodup → i < l.length → idxW l (nth l i) = i
 | [], i, _, h => by cases h
 | x :: r, 0, _, _ => by unfold idxW; exact if_pos rfl
 | x :: r, i + 1, hn, h => by
  obtain ⟨h1, h2⟩ := List.nodup_cons.1 hn
  have hi : i < r.length := by simp only [List.length_cons] at h; omega
  have e : nth (x :: r) (i + 1) = nth r i := rfl
  unfold idxW
  rw [e, if_neg (fun q => h1 (by rw [q]; exact nth_mem hi)), idxW_of h2 hi]
structure RArg where
 who : ByteArray
 name : ByteArray
 outs : List ByteArray
 W : List Edit
 all : List Member
noncomputable def x544 (n : Nat) : XE := mkX true (fun (p : RArg) => [.c (.v (.string p.who)), .c (.v (.string p.name)), .c (.sl (p.outs.map srow)), .c (.sl (p.W.map Edit.row)), .c (.sl (p.all.map Member.row))])
 (fun p => OkW p.all p.W ∧ p.outs = outsR p.all p.W p.all.length ∧ idxW p.outs p.who < p.outs.length ∧ idxW p.outs p.who < n)
 (fun p => .int .i64 (uptoE (vsOf p.W) (outL (p.all.map Member.name) (vsOf p.W)) p.name (idxW p.outs p.who)))
theorem injR6 (a b : RArg) (h : [PVo.c (D.v (.string a.who)), PVo.c (D.v (.string a.name)), PVo.c (D.sl (a.outs.map srow)), PVo.c (D.sl (a.W.map Edit.row)), PVo.c (D.sl (a.all.map Member.row))] = [PVo.c (D.v (.string b.who)), PVo.c (D.v (.string b.name)), PVo.c (D.sl (b.outs.map srow)), PVo.c (D.sl (b.W.map Edit.row)), PVo.c (D.sl (b.all.map Member.row))]) : a = b := by
 simp only [List.cons.injEq, PVo.c.injEq, D.sl.injEq, D.v.injEq, Value.string.injEq] at h
 obtain ⟨h1, h2, h3, h4, h5, _⟩ := h
 cases a; cases b
 simp only at h1 h2 h3 h4 h5
 rw [h1, h2, srow_inj h3, rows_inj h4, mrows_inj h5]
theorem OutI.nodup {all : List Member} {W : List Edit} {size : Nat} {out : List ByteArray} (h : OutI all W size out) : out.Nodup := by
 unfold List.Nodup
 exact h.pw.imp fun {a b} hab e => by subst e; omega
theorem xg544 (n : Nat) (W : List Edit) (all : List Member) (name : ByteArray) (h : OkW all W) (i : Nat) (hi : i < (outsR all W all.length).length) (hn : i < n) :
  (x544 n).g [.c (.v (.string (nth (outsR all W all.length) i))), .c (.v (.string name)), .c (.sl ((outsR all W all.length).map srow)), .c (.sl (W.map Edit.row)), .c (.sl (all.map Member.row))] = some (True, .int .i64 (uptoE (vsOf W) (outL (all.map Member.name) (vsOf W)) name i)) := by
 have e := idxW_of (h.outs_all all.length).nodup hi
 have := mkX_g (sc := true) (enc := fun (p : RArg) => [PVo.c (D.v (.string p.who)), .c (.v (.string p.name)), .c (.sl (p.outs.map srow)), .c (.sl (p.W.map Edit.row)), .c (.sl (p.all.map Member.row))])
  (ok := fun p => OkW p.all p.W ∧ p.outs = outsR p.all p.W p.all.length ∧ idxW p.outs p.who < p.outs.length ∧ idxW p.outs p.who < n)
  (F := fun p => T.int .i64 (uptoE (vsOf p.W) (outL (p.all.map Member.name) (vsOf p.W)) p.name (idxW p.outs p.who))) injR6 (RArg.mk (nth (outsR all W all.length) i) name (outsR all W all.length) W all) ⟨h, rfl, by rw [e]; exact hi, by rw [e]; exact hn⟩
 simp only [e] at this
 exact this
theorem knows_of (d : List Id) (l : List Edit) : knowsE d l = knowsV d (vsOf l) := by
 unfold knowsE knowsV vsOf
 rw [List.all_map]; rfl
theorem anyK_eq {all : List Member} {W : List Edit} (h : OkW all W) {a b : ByteArray} {own theirs : List Edit} (ho : ofR all W a = some own) (ht : ofR all W b = some theirs) :
  anyKnows (ofV (vsOf W) (parts a comma)) (ofV (vsOf W) (parts b comma)) = own.any fun e => knowsE e.deps theirs := by
 rw [← anyKnows_ext (h.of_mem ho) (h.of_mem ht)]
 unfold anyKnows
 show ((own.map fun e => (⟨e, parts e.who comma⟩ : Vote)).any _) = _
 rw [List.any_map]
 congr 1
 funext e
 exact (knows_of _ _).symm
noncomputable def maxR (own : List Edit) (name : ByteArray) : Int := maxN (vsOf own) name
theorem maxR_take {own : List Edit} {name : ByteArray} {i : Nat} (h : i < own.length) : maxR (own.take (i + 1)) name = if maxR (own.take i) name < hasN (nth own i).deps name then hasN (nth own i).deps name else maxR (own.take i) name := by
 unfold maxR vsOf maxN
 rw [take_nth h, List.map_append, List.foldl_append]; rfl
theorem anyK_true {own theirs : List Edit} {j : Nat} (h : j < own.length) (hk : knowsE (nth own j).deps theirs = true) : (own.any fun e => knowsE e.deps theirs) = true := by
 rw [List.any_eq_true]; exact ⟨_, nth_mem h, hk⟩
theorem anyK_false {own theirs : List Edit} (h : ∀ j, j < own.length → knowsE (nth own j).deps theirs = false) : (own.any fun e => knowsE e.deps theirs) = false := by
 rw [List.any_eq_false]
 intro e he
 obtain ⟨j, hj, rfl⟩ := List.mem_iff_getElem.1 he
 have := h j hj
 rw [nth_eq hj] at this
 rw [this]; simp
theorem OkW.part_no {all : List Member} {W : List Edit} (h : OkW all W) {a b : ByteArray} (ha : ∃ e ∈ W, e.who = a) (hl : plen b < plen a) : partS (parts a comma) (parts b comma) = false := by
 cases hp : partS (parts a comma) (parts b comma)
 ·rfl
 ·obtain ⟨e, he, rfl⟩ := ha
  have hv := vok_of (h.nm e he)
  have hnd : (parts e.who comma).Nodup := by
   unfold List.Nodup
   exact hv.asc.imp fun {x y} hxy e => by subst e; have := (cmpS_eq x x).2 rfl; omega
  have := nodup_len hnd (partS_iff.1 hp)
  unfold plen at hl; omega
theorem k544 (n : Nat) (hn : Contract Tryz.prog G0 44 (x544 n)) (W : List Edit) (all : List Member) (name : ByteArray) (h : OkW all W) (outs : List ByteArray) (hou : outs = outsR all W all.length) (hi : n < outs.length) (who : ByteArray) (hwho : nth outs n = who) :
  ACalls Tryz.prog G0 44 [Sx who, Sx name, .c (.d (.sl (outs.map srow))), .c (.d (.sl (W.map Edit.row))), .c (.d (.sl (all.map Member.row)))] [] fun t H => t = .int .i64 (uptoE (vsOf W) (outL (all.map Member.name) (vsOf W)) name n) ∧ H = [] := by
 have s1 : x541.sc = false := rfl
 have s2 : x542.sc = false := rfl
 have s3 : x582.sc = true := rfl
 have s4 : x546.sc = true := rfl
 have s5 : x583.sc = true := rfl
 have s6 : (x544 n).sc = true := rfl
 have s7 : x545.sc = true := rfl
 have hal := h.mlen
 have hWl := h.len
 have hI := h.outs_all all.length
 rw [← hou] at hI
 have hpw : ∀ i j, i < j → j < outs.length → plen (nth outs i) < plen (nth outs j) := fun i j hij hj => by
  have := List.pairwise_iff_getElem.1 hI.pw i j (by omega) hj hij
  rw [nth_eq (by omega : i < outs.length), nth_eq hj]; exact this
 have hin : ∀ i, i < outs.length → (∃ e ∈ W, e.who = nth outs i) ∧ ∃ own, ofR all W (nth outs i) = some own := fun i hi => by
  obtain ⟨a, b, _⟩ := hI.mem _ (nth_mem hi)
  refine ⟨a, ?_⟩
  cases ho : ofR all W (nth outs i) with
  | none => exact absurd ho b
  | some own => exact ⟨own, rfl⟩
 have hol : outs.length ≤ 320 := by
  rw [hou]
  have h1 := outsR_len all W all.length
  have h2 : all.length * W.length ≤ 8 * 40 := Nat.mul_le_mul hal hWl
  omega
 have g6 := fun m hm hmn => xg544 n W all name h m (by rw [← hou]; exact hm) hmn
 rw [← hou] at g6
 have hsets : outL (all.map Member.name) (vsOf W) = outs.map (fun w => parts w comma) := by rw [hou]; exact h.outs_eq.symm
 obtain ⟨sets, hse⟩ : ∃ s, s = outL (all.map Member.name) (vsOf W) := ⟨_, rfl⟩
 rw [← hse] at g6 hsets ⊢
 have hns : ∀ i, i < outs.length → nth sets i = parts (nth outs i) comma := fun i hi => by rw [hsets, nth_map _ hi]
 have hU := uptoE_eq (vsOf W) sets name n
 obtain ⟨hw1, own, hown⟩ := hin n hi
 rw [hwho] at hw1 hown
 have hset0 := hns n hi
 rw [hwho] at hset0
 rw [hset0] at hU
 have hMx : maxN (ofV (vsOf W) (parts who comma)) name = maxR own name := (maxN_ext (h.of_mem hown)).symm
 rw [hMx] at hU
 obtain ⟨pl, _⟩ := h.pln hw1
 have hownl := (h.of_some hown).2.2
 have hownm : ∀ e ∈ own, e ∈ W := fun e he => ((h.of_some hown).1 e |>.1 he).1
 have g1 := xg541 who W all h hw1
 rw [hown, show ofT (some own) = .tup [.c (.d (.sl (own.map Edit.row))), .c (.d (.v (.bool true)))] from rfl] at g1
 have g2 := ref_T h hw1
 rw [wE_row] at g2
 obtain ⟨set, hset⟩ : ∃ s, s = parts who comma := ⟨_, rfl⟩
 rw [← hset] at g2 hset0 pl
 refine acallsX (X := [(41, x541), (42, x542), (82, x582), (46, x546), (83, x583), (44, x544 n), (45, x545)]) ⟨kx541, kx542, kx582, kx546, kx583, hn, kx545, trivial⟩ tab hmix Tryz.func44 c544 (by rfl) fun hw => ?_
 simp (implicitDefEqProofs := false) (disch := omega) [gz, ir544, b544, b544_0, b544_1, b544_2, b544_3, Sx, splice, fillC, s1, s2, g1, g2, wrap64, toPVs, frzVs, osVs, toPV]
 refine loopE (fun k st => ∃ m, m ≤ outs.length ∧ k = m ∧ pickI (vsOf W) sets n name n = pickI (vsOf W) sets n name (min m n) ∧
   st = ⟨ofL [(0, T.v (.c (.d (.v (.string who))))), (1, .v (.c (.d (.v (.string name))))), (2, .v (.c (.d (.sl (outs.map srow))))), (3, .v (.c (.d (.sl (W.map Edit.row))))), (4, .v (.c (.d (.sl (all.map Member.row))))), (11, .v (.c (.d (.sl (own.map Edit.row))))), (13, .v (.c (.d (.sl (set.map srow))))), (15, .int .i64 ((m : Int) - 1))], []⟩)
  (fun st => pickI (vsOf W) sets n name n = none ∧ AtS [(1, .v (.c (.d (.v (.string name))))), (11, .v (.c (.d (.sl (own.map Edit.row)))))] [] st) ?_ ?_ ?_
 ·refine wk_nil [] [0, 1, 2, 3, 4, 11, 13, 15] rfl ⟨outs.length, outs.length, Nat.le_refl _, rfl, by rw [Nat.min_eq_right (by omega)], ?_⟩
  simp
 ·rintro J L hJ hL m st ⟨_, hm, rfl, hpk, rfl⟩
  by_cases hlt : m = 0
  ·subst hlt
   simp (implicitDefEqProofs := false) (disch := omega) [gz, wrap64]
   subst hL
   refine ⟨by rw [hpk, Nat.zero_min]; rfl, at_mk (by simp) rfl⟩
  ·obtain ⟨m, rfl⟩ : ∃ j, m = j + 1 := ⟨m - 1, by omega⟩
   have hm' : m < outs.length := by omega
   have hm1 : ((m + 1 : Nat) : Int) - 1 = m := by omega
   obtain ⟨hww, theirs, hth⟩ := hin m hm'
   obtain ⟨w, hwm⟩ : ∃ w, nth outs m = w := ⟨_, rfl⟩
   have g7 := g6 m hm'
   rw [hwm] at hww hth g7
   obtain ⟨plm, _⟩ := h.pln hww
   have g3 := ref_T h hww
   rw [wE_row] at g3
   have hsm := hns m hm'
   rw [hwm] at hsm
   obtain ⟨sm, hsm2⟩ : ∃ s, s = parts w comma := ⟨_, rfl⟩
   have g4 := xg582 sm set (by rw [hsm2]; omega) (by omega)
   have g5 := xg546 sm name (by rw [hsm2]; omega)
   have gth := xg541 w W all h hww
   rw [hth, show ofT (some theirs) = .tup [.c (.d (.sl (theirs.map Edit.row))), .c (.d (.v (.bool true)))] from rfl] at gth
   have hthl := (h.of_some hth).2.2
   rw [← hsm2] at g3 hsm
   rw [hm1]
   have hsr : srow w = [D.v (.string w)] := rfl
   by_cases cmn : m = n
   ·have hwe : w = who := by rw [← hwm, cmn, hwho]
    have hk2 : pickI (vsOf W) sets n name n = pickI (vsOf W) sets n name (min m n) := by rw [hpk, cmn, Nat.min_eq_right (by omega), Nat.min_self]
    rw [hwe] at g3 hsr hwm
    simp (implicitDefEqProofs := false) (disch := omega) [gz, wrap64, hm', hi, nth_map, hwm, hsr, splice, fillC, binSF, s1, s2, s3, s4, s5, g3, g4, g5, gth, toPVs, frzVs, osVs, toPV]
    subst hJ
    refine wk_nil [] [0, 1, 2, 3, 4, 11, 13, 15] rfl ⟨m, by omega, m, by omega, rfl, hk2, ?_⟩
    simp
   ·have hwe : ¬ w = who := fun q => by
     rcases Nat.lt_or_gt_of_ne cmn with c | c
     ·have := hpw m n c hi; rw [hwm, hwho, q] at this; omega
     ·have := hpw n m c hm'; rw [hwm, hwho, q] at this; omega
    by_cases cgt : n < m
    ·have hk2 : pickI (vsOf W) sets n name n = pickI (vsOf W) sets n name (min m n) := by rw [hpk, Nat.min_eq_right (by omega), Nat.min_eq_right (by omega)]
     have hq2 : partS sm set = false := by
      rw [hsm2, hset]
      refine h.part_no hww ?_
      have := hpw n m cgt hm'; rw [hwm, hwho] at this; exact this
     rw [hq2] at g4
     simp (implicitDefEqProofs := false) (disch := omega) [gz, wrap64, hm', hi, nth_map, hwm, hsr, splice, fillC, binSF, hwe, s1, s2, s3, s4, s5, g3, g4, g5, gth, toPVs, frzVs, osVs, toPV]
     subst hJ
     refine wk_nil [] [0, 1, 2, 3, 4, 11, 13, 15] rfl ⟨m, by omega, m, by omega, rfl, hk2, ?_⟩
     simp
    ·have hlt2 : m < n := by omega
     have g8 := g7 hlt2
     rw [Nat.min_eq_left (by omega)] at hpk
     have hst : pickI (vsOf W) sets n name (m + 1) = if leadB (vsOf W) sets n name m then some m else pickI (vsOf W) sets n name m := rfl
     unfold leadB at hst
     rw [hsm, hset0] at hst
     have hak := anyK_eq h hown hth
     rw [← hset, ← hsm2] at hak
     rw [hak] at hst
     obtain ⟨q1, hq1⟩ : ∃ q, q = hasS sm name := ⟨_, rfl⟩
     obtain ⟨q2, hq2⟩ : ∃ q, q = partS sm set := ⟨_, rfl⟩
     rw [← hq1] at g5 hst
     rw [← hq2] at g4 hst
     have done : ∀ (sl : Nat → T), pickI (vsOf W) sets n name (m + 1) = pickI (vsOf W) sets n name m → (∀ p ∈ [(0, T.v (.c (.d (.v (.string who))))), (1, .v (.c (.d (.v (.string name))))), (2, .v (.c (.d (.sl (outs.map srow))))), (3, .v (.c (.d (.sl (W.map Edit.row))))), (4, .v (.c (.d (.sl (all.map Member.row))))), (11, .v (.c (.d (.sl (own.map Edit.row))))), (13, .v (.c (.d (.sl (set.map srow))))), (15, .int .i64 ((m : Int) - 1))], sl p.1 = p.2) → ∀ Z, wk Tryz.prog G0 0 ⟨sl, Z⟩ (fun s'' => ∃ k', k' < m + 1 ∧ J k' s'') := fun sl hnn hsl Z => by
      subst hJ
      refine wk_nil [] [0, 1, 2, 3, 4, 11, 13, 15] rfl ⟨m, by omega, m, by omega, rfl, by rw [hpk, hnn, Nat.min_eq_left (by omega)], ?_⟩
      simp at hsl
      simp [hsl]
     cases q2
     ·simp (implicitDefEqProofs := false) (disch := omega) [gz, wrap64, hm', hi, nth_map, hwm, hsr, splice, fillC, binSF, hwe, s1, s2, s3, s4, s5, g3, g4, g5, gth, toPVs, frzVs, osVs, toPV]
      exact done _ (by rw [hst]; simp) (by simp) _
     ·cases q1
      ·simp (implicitDefEqProofs := false) (disch := omega) [gz, wrap64, hm', hi, nth_map, hwm, hsr, splice, fillC, binSF, hwe, s1, s2, s3, s4, s5, g3, g4, g5, gth, toPVs, frzVs, osVs, toPV]
       exact done _ (by rw [hst]; simp) (by simp) _
      ·simp (implicitDefEqProofs := false) (disch := omega) [gz, wrap64, hm', hi, nth_map, hwm, hsr, splice, fillC, binSF, hwe, s1, s2, s3, s4, s5, g3, g4, g5, gth, toPVs, frzVs, osVs, toPV]
       refine loopE (fun k st => ∃ j, j ≤ own.length ∧ k = own.length - j ∧ (∀ q, q < j → knowsE (nth own q).deps theirs = false) ∧
         st = ⟨ofL [(0, T.v (.c (.d (.v (.string who))))), (1, .v (.c (.d (.v (.string name))))), (2, .v (.c (.d (.sl (outs.map srow))))), (3, .v (.c (.d (.sl (W.map Edit.row))))), (4, .v (.c (.d (.sl (all.map Member.row))))), (11, .v (.c (.d (.sl (own.map Edit.row))))), (13, .v (.c (.d (.sl (set.map srow))))), (15, .int .i64 (m : Int)), (18, .v (.c (.d (.sl (theirs.map Edit.row))))), (84, .v (.c (.d (.sl (own.map Edit.row))))), (85, .int .i64 own.length), (86, .int .i64 j)], []⟩)
        (fun st => (∀ q, q < own.length → knowsE (nth own q).deps theirs = false) ∧ AtS [(0, T.v (.c (.d (.v (.string who))))), (1, .v (.c (.d (.v (.string name))))), (2, .v (.c (.d (.sl (outs.map srow))))), (3, .v (.c (.d (.sl (W.map Edit.row))))), (4, .v (.c (.d (.sl (all.map Member.row))))), (11, .v (.c (.d (.sl (own.map Edit.row))))), (13, .v (.c (.d (.sl (set.map srow))))), (15, .int .i64 (m : Int))] [] st) ?_ ?_ ?_
       ·refine wk_nil [] [0, 1, 2, 3, 4, 11, 13, 15, 18, 84, 85, 86] rfl ⟨_, 0, by omega, rfl, fun q hq => by omega, ?_⟩
        simp
       ·rintro J2 L2 hJ2 hL2 k2 st ⟨j, hj, rfl, hno, rfl⟩
        by_cases hjl : j < own.length
        ·obtain ⟨e, he⟩ : ∃ e, nth own j = e := ⟨_, rfl⟩
         have hem : e ∈ W := hownm e (by rw [← he]; exact nth_mem hjl)
         have hee := Edit.row_eq e
         have g9 := xg583 e.deps theirs (by have := (h.sm e hem).2.2.1; omega) (by omega)
         obtain ⟨z, hz⟩ : ∃ z, z = knowsE e.deps theirs := ⟨_, rfl⟩
         rw [← hz] at g9
         cases z
         ·simp (implicitDefEqProofs := false) (disch := omega) [gz, hjl, wrap64, nth_map, he, hee, splice, fillC, s5, g9]
          subst hJ2
          refine wk_nil [] [0, 1, 2, 3, 4, 11, 13, 15, 18, 84, 85, 86] rfl ⟨own.length - (j + 1), by omega, j + 1, by omega, rfl, fun q hq => ?_, ?_⟩
          ·by_cases qe : q = j
           ·rw [qe, he]; exact hz.symm
           ·exact hno q (by omega)
          ·simp
         ·have hat := anyK_true (theirs := theirs) hjl (by rw [he]; exact hz.symm)
          rw [hat] at hst
          rw [hpk, hst] at hU
          simp (implicitDefEqProofs := false) (disch := omega) [gz, hjl, wrap64, nth_map, he, hee, hm', hwm, hsr, splice, fillC, s5, s6, g9, g8]
          exact fin_nil ⟨by rw [hU]; simp, rfl⟩
        ·have : j = own.length := by omega
         subst this
         simp (implicitDefEqProofs := false) (disch := omega) [gz, hjl]
         subst hL2
         exact ⟨hno, at_mk (by simp) rfl⟩
       ·rintro _ ⟨hno, sl, rfl⟩
        rw [anyK_false hno] at hst
        simp (implicitDefEqProofs := false) (disch := omega) [gz, wrap64]
        exact done _ (by rw [hst]; simp) (by simp) _
 ·rintro _ ⟨hpn, sl, rfl⟩
  rw [hpn] at hU
  simp (implicitDefEqProofs := false) (disch := omega) [gz, b544_4, b544_5, b544_6, b544_7, wrap64]
  refine loopE (fun k st => ∃ i, i ≤ own.length ∧ k = own.length - i ∧
    st = ⟨ofL [(1, .v (.c (.d (.v (.string name))))), (22, .int .i64 (maxR (own.take i) name)), (104, .v (.c (.d (.sl (own.map Edit.row))))), (105, .int .i64 own.length), (106, .int .i64 i)], []⟩)
   (fun st => AtS [(22, .int .i64 (maxR own name))] [] st) ?_ ?_ ?_
  ·refine wk_nil [] [1, 22, 104, 105, 106] rfl ⟨_, 0, by omega, rfl, ?_⟩
   simp [maxR, vsOf, maxN]
  ·rintro J L hJ hL k st ⟨i, hi', rfl, rfl⟩
   by_cases hlt : i < own.length
   ·obtain ⟨e, he⟩ : ∃ v, nth own i = v := ⟨_, rfl⟩
    have hem : e ∈ W := hownm e (by rw [← he]; exact nth_mem hlt)
    have hee := Edit.row_eq e
    have hst := maxR_take (name := name) hlt
    rw [he] at hst
    have g7 := xg545 e.deps name (by have := (h.sm e hem).2.2.1; omega)
    obtain ⟨x, hx⟩ : ∃ x, x = maxR (own.take i) name := ⟨_, rfl⟩
    obtain ⟨y, hy⟩ : ∃ y, y = hasN e.deps name := ⟨_, rfl⟩
    rw [← hx, ← hy] at hst
    rw [← hy] at g7
    rw [← hx]
    by_cases c : x < y
    ·rw [if_pos c] at hst
     simp (implicitDefEqProofs := false) (disch := omega) [gz, hlt, wrap64, nth_map, he, hee, splice, fillC, s7, g7, c]
     subst hJ
     refine wk_nil [] [1, 22, 104, 105, 106] rfl ⟨own.length - (i + 1), by omega, i + 1, by omega, rfl, ?_⟩
     rw [hst]; simp
    ·rw [if_neg c] at hst
     simp (implicitDefEqProofs := false) (disch := omega) [gz, hlt, wrap64, nth_map, he, hee, splice, fillC, s7, g7, c]
     subst hJ
     refine wk_nil [] [1, 22, 104, 105, 106] rfl ⟨own.length - (i + 1), by omega, i + 1, by omega, rfl, ?_⟩
     rw [hst]; simp
   ·have : i = own.length := by omega
    subst this
    rw [List.take_length]
    simp (implicitDefEqProofs := false) (disch := omega) [gz, hlt]
    subst hL
    exact at_mk (by simp) rfl
  ·rintro _ ⟨sl, rfl⟩
   simp (implicitDefEqProofs := false) (disch := omega) [gz, wrap64]
   exact fin_nil ⟨by rw [hU]; rfl, rfl⟩
theorem kx544 (n : Nat) : Contract Tryz.prog G0 44 (x544 n) := by
 induction n using Nat.strongRecOn with
 | _ n ih => exact mkX_scal (fun _ => rfl) fun p h => k544 (idxW p.outs p.who) (ih _ h.2.2.2) p.W p.all p.name h.1 p.outs h.2.1 h.2.2.1 p.who (idxW_nth h.2.2.1)
end Go.Aw.Try

namespace Go.Aw.Try
open Go Go.Proofs Go.Aw
set_option maxRecDepth 100000
set_option maxHeartbeats 4000000
/-! ### Final -/
def knewR (l : List Edit) (own : List Edit) (s : ByteArray) : Bool := l.any fun e => decide (e.id.a = s) && knowsE e.deps own
theorem knewR_take {l own : List Edit} {s : ByteArray} {j : Nat} (h : j < l.length) : knewR (l.take (j + 1)) own s = (knewR (l.take j) own s || (decide ((nth l j).id.a = s) && knowsE (nth l j).deps own)) := by
 unfold knewR
 rw [take_nth h, List.any_append]; simp
theorem knew_eq {all : List Member} {W : List Edit} (h : OkW all W) {who : ByteArray} {own : List Edit} (ho : ofR all W who = some own) (l : List Edit) (s : ByteArray) :
  knewB l (ofV (vsOf W) (parts who comma)) s = knewR l own s := by
 unfold knewB knewR
 congr 1
 funext e
 rw [knows_of, knowsV_ext (h.of_mem ho)]
theorem k543 (who : ByteArray) (l W : List Edit) (all : List Member) (h : OkW all W) (hwho : ∃ e ∈ W, e.who = who) (own : List Edit) (hown : ofR all W who = some own) (hl : l.length < 4611686018427387904) (hld : ∀ e ∈ l, e.deps.length < 4611686018427387904) :
  ACalls Tryz.prog G0 43 [Sx who, .c (.d (.sl (l.map Edit.row))), .c (.d (.sl (W.map Edit.row))), .c (.d (.sl (all.map Member.row)))] [] fun t H => t = .int .i64 (if finalB ⟨all.map Member.name, l, vsOf W⟩ (parts who comma) = true then 1 else 0) ∧ H = [] := by
 have s1 : x541.sc = false := rfl
 have s2 : x542.sc = false := rfl
 have s4 : x546.sc = true := rfl
 have s5 : x583.sc = true := rfl
 have hal := h.mlen
 obtain ⟨pl, _⟩ := h.pln hwho
 have hownl := (h.of_some hown).2.2
 have g1 := xg541 who W all h hwho
 rw [hown, show ofT (some own) = .tup [.c (.d (.sl (own.map Edit.row))), .c (.d (.v (.bool true)))] from rfl] at g1
 have g2 := ref_T h hwho
 rw [wE_row] at g2
 have hyes : (∀ q, q < all.length → (nth all q).name ∈ parts who comma ∨ knewR l own (nth all q).name = true) → finalB ⟨all.map Member.name, l, vsOf W⟩ (parts who comma) = true := fun hq => by
  refine finalB_iff.2 fun s hs hn => ?_
  obtain ⟨m, hm, rfl⟩ := List.mem_map.1 hs
  obtain ⟨q, hql, rfl⟩ := List.mem_iff_getElem.1 hm
  have := hq q hql
  rw [nth_eq hql] at this
  rw [knew_eq h hown]
  exact this.resolve_left hn
 have hno : ∀ q, q < all.length → (nth all q).name ∉ parts who comma → knewR l own (nth all q).name = false → finalB ⟨all.map Member.name, l, vsOf W⟩ (parts who comma) = false := fun q hq hn hk => by
  cases hf : finalB ⟨all.map Member.name, l, vsOf W⟩ (parts who comma)
  ·rfl
  ·have := finalB_iff.1 hf (nth all q).name (List.mem_map.2 ⟨_, nth_mem hq, rfl⟩) hn
   rw [knew_eq h hown, hk] at this; cases this
 obtain ⟨S, hS⟩ : ∃ S, S = parts who comma := ⟨_, rfl⟩
 rw [← hS] at g2 pl hyes hno ⊢
 obtain ⟨F, hF⟩ : ∃ F, F = finalB ⟨all.map Member.name, l, vsOf W⟩ S := ⟨_, rfl⟩
 rw [← hF] at hyes hno ⊢
 refine acallsX (X := [(41, x541), (42, x542), (46, x546), (83, x583)]) ⟨kx541, kx542, kx546, kx583, trivial⟩ tab hmix Tryz.func43 c543 (by rfl) fun hw => ?_
 simp (implicitDefEqProofs := false) (disch := omega) [gz, ir543, b543, b543_0, b543_1, b543_2, b543_3, Sx, splice, fillC, s1, s2, g1, g2, wrap64, toPVs, frzVs, osVs, toPV]
 refine loopE (fun k st => ∃ (i : Nat), i ≤ all.length ∧ k = all.length - i ∧ (∀ q, q < i → (nth all q).name ∈ S ∨ knewR l own (nth all q).name = true) ∧
   st = ⟨ofL [(1, T.v (.c (.d (.sl (l.map Edit.row))))), (9, .v (.c (.d (.sl (own.map Edit.row))))), (11, .v (.c (.d (.sl (S.map srow))))), (32, .v (.c (.d (.sl (all.map Member.row))))), (33, .int .i64 all.length), (34, .int .i64 i)], []⟩)
  (fun st => (∀ q, q < all.length → (nth all q).name ∈ S ∨ knewR l own (nth all q).name = true) ∧ AtS [] [] st) ?_ ?_ ?_
 ·refine wk_nil [] [1, 9, 11, 32, 33, 34] rfl ⟨_, 0, by omega, rfl, fun q hq => by omega, ?_⟩
  simp
 ·rintro J L hJ hL k st ⟨i, hi, rfl, hall, rfl⟩
  by_cases hlt : i < all.length
  ·obtain ⟨m, hm⟩ : ∃ m, nth all i = m := ⟨_, rfl⟩
   have hmr : m.row = [.v (.string m.name), .v (.string m.key)] := rfl
   have hno2 := hno i hlt
   rw [hm] at hno2
   have g3 := xg546 S m.name (by omega)
   obtain ⟨u, hu⟩ : ∃ u, u = hasS S m.name := ⟨_, rfl⟩
   rw [← hu] at g3
   have next : (m.name ∈ S ∨ knewR l own m.name = true) → ∀ q, q < i + 1 → (nth all q).name ∈ S ∨ knewR l own (nth all q).name = true := fun hc q hq => by
    by_cases qe : q = i
    ·rw [qe, hm]; exact hc
    ·exact hall q (by omega)
   cases u
   ·have hns : m.name ∉ S := fun q => by rw [(hasS_iff S m.name).2 q] at hu; cases hu
    simp (implicitDefEqProofs := false) (disch := omega) [gz, hlt, wrap64, nth_map, hm, hmr, splice, fillC, s4, g3]
    refine loopE (fun k st => ∃ (j : Nat), j ≤ l.length ∧ k = l.length - j ∧ st = ⟨ofL [(1, T.v (.c (.d (.sl (l.map Edit.row))))), (9, .v (.c (.d (.sl (own.map Edit.row))))), (11, .v (.c (.d (.sl (S.map srow))))), (32, .v (.c (.d (.sl (all.map Member.row))))), (33, .int .i64 all.length), (34, .int .i64 i), (14, .v (.c (.ptr 0 0))), (42, .v (.c (.d (.sl (l.map Edit.row))))), (43, .int .i64 l.length), (44, .int .i64 j), (15, .bool (knewR (l.take j) own m.name))], [.cells ([.v (.string m.name), .v (.string m.key)].map .d)]⟩)
     (fun st => AtS [(1, T.v (.c (.d (.sl (l.map Edit.row))))), (9, .v (.c (.d (.sl (own.map Edit.row))))), (11, .v (.c (.d (.sl (S.map srow))))), (32, .v (.c (.d (.sl (all.map Member.row))))), (33, .int .i64 all.length), (34, .int .i64 i), (15, .bool (knewR l own m.name))] ([.cells ([.v (.string m.name), .v (.string m.key)].map .d)]) st) ?_ ?_ ?_
    ·refine wk_nil [0] [1, 9, 11, 32, 33, 34, 14, 42, 43, 44, 15] rfl ⟨_, 0, by omega, rfl, ?_⟩
     simp [phi, O.ren, knewR]
    ·rintro J2 L2 hJ2 hL2 k2 st ⟨j, hj, rfl, rfl⟩
     by_cases hjl : j < l.length
     ·obtain ⟨e, he⟩ : ∃ e, nth l j = e := ⟨_, rfl⟩
      have hel : e ∈ l := by rw [← he]; exact nth_mem hjl
      have hee := Edit.row_eq e
      have hst := knewR_take (own := own) (s := m.name) hjl
      rw [he] at hst
      have g4 := xg583 e.deps own (hld e hel) (by omega)
      obtain ⟨z, hz⟩ : ∃ z, z = knowsE e.deps own := ⟨_, rfl⟩
      obtain ⟨y, hy⟩ : ∃ y, y = knewR (l.take j) own m.name := ⟨_, rfl⟩
      rw [← hz] at g4 hst
      rw [← hy] at hst ⊢
      have keep : ∀ (sl : Nat → T) (o : O) (b : Bool), knewR (l.take (j + 1)) own m.name = b → (∀ p ∈ [(1, T.v (.c (.d (.sl (l.map Edit.row))))), (9, .v (.c (.d (.sl (own.map Edit.row))))), (11, .v (.c (.d (.sl (S.map srow))))), (32, .v (.c (.d (.sl (all.map Member.row))))), (33, .int .i64 all.length), (34, .int .i64 i), (14, T.v (.c (.ptr 0 0))), (42, .v (.c (.d (.sl (l.map Edit.row))))), (43, .int .i64 l.length), (44, .int .i64 (j + 1 : Nat)), (15, .bool b)], sl p.1 = p.2) → wk Tryz.prog G0 0 ⟨sl, [.cells ([.v (.string m.name), .v (.string m.key)].map .d), o]⟩ (fun s'' => ∃ k', k' < l.length - j ∧ J2 k' s'') := fun sl o b hnn hsl => by
       subst hJ2
       refine wk_nil [0] [1, 9, 11, 32, 33, 34, 14, 42, 43, 44, 15] rfl ⟨l.length - (j + 1), by omega, j + 1, by omega, rfl, ?_⟩
       rw [hnn]
       simp at hsl
       simp [hsl, phi, O.ren]
      cases y
      ·by_cases c1 : e.id.a = m.name
       ·simp (implicitDefEqProofs := false) (disch := omega) [gz, hjl, wrap64, nth_map, he, hee, splice, fillC, binSF, c1, s5, g4]
        exact keep _ _ z (by rw [hst]; simp [c1]) (by simp)
       ·simp (implicitDefEqProofs := false) (disch := omega) [gz, hjl, wrap64, nth_map, he, hee, splice, fillC, binSF, c1, s5, g4]
        exact keep _ _ false (by rw [hst]; simp [c1]) (by simp)
      ·simp (implicitDefEqProofs := false) (disch := omega) [gz, hjl, wrap64, nth_map, he, hee, splice, fillC, binSF, s5, g4]
       exact keep _ _ true (by rw [hst]; simp) (by simp)
     ·have : j = l.length := by omega
      subst this
      rw [List.take_length]
      simp (implicitDefEqProofs := false) (disch := omega) [gz, hjl]
      subst hL2
      exact at_mk (by simp) (by simp)
    ·rintro _ ⟨sl, rfl⟩
     obtain ⟨y, hy⟩ : ∃ y, y = knewR l own m.name := ⟨_, rfl⟩
     rw [← hy] at hno2 next ⊢
     cases y
     ·rw [hno2 hns rfl]
      simp (implicitDefEqProofs := false) (disch := omega) [gz, wrap64]
      exact fin_nil ⟨rfl, rfl⟩
     ·simp (implicitDefEqProofs := false) (disch := omega) [gz, wrap64]
      subst hJ
      refine wk_nil [] [1, 9, 11, 32, 33, 34] rfl ⟨all.length - (i + 1), by omega, i + 1, by omega, rfl, next (.inr rfl), ?_⟩
      simp [phi, O.ren]
   ·have hns : m.name ∈ S := (hasS_iff S m.name).1 hu.symm
    simp (implicitDefEqProofs := false) (disch := omega) [gz, hlt, wrap64, nth_map, hm, hmr, splice, fillC, s4, g3]
    subst hJ
    refine wk_nil [] [1, 9, 11, 32, 33, 34] rfl ⟨all.length - (i + 1), by omega, i + 1, by omega, rfl, next (.inl hns), ?_⟩
    simp [phi, O.ren]
  ·have : i = all.length := by omega
   subst this
   simp (implicitDefEqProofs := false) (disch := omega) [gz, hlt]
   subst hL
   exact ⟨hall, at_mk (by simp) rfl⟩
 ·rintro _ ⟨hq, sl, rfl⟩
  rw [hyes hq]
  simp (implicitDefEqProofs := false) (disch := omega) [gz, b543_4, b543_5, wrap64]
  exact fin_nil ⟨rfl, rfl⟩
structure FArg where
 who : ByteArray
 l : List Edit
 W : List Edit
 all : List Member
noncomputable def x543 : XE := mkX true (fun (p : FArg) => [.c (.v (.string p.who)), .c (.sl (p.l.map Edit.row)), .c (.sl (p.W.map Edit.row)), .c (.sl (p.all.map Member.row))])
 (fun p => OkW p.all p.W ∧ (∃ e ∈ p.W, e.who = p.who) ∧ ofR p.all p.W p.who ≠ none ∧ p.l.length < 4611686018427387904 ∧ ∀ e ∈ p.l, e.deps.length < 4611686018427387904)
 (fun p => .int .i64 (if finalB ⟨p.all.map Member.name, p.l, vsOf p.W⟩ (parts p.who comma) = true then 1 else 0))
theorem kx543 : Contract Tryz.prog G0 43 x543 := mkX_scal (fun _ => rfl) fun p h => by
 obtain ⟨h1, h2, h3, h4, h5⟩ := h
 cases ho : ofR p.all p.W p.who with
 | none => exact absurd ho h3
 | some own => exact k543 p.who p.l p.W p.all h1 h2 own ho h4 h5
theorem xg543 (who : ByteArray) (l W : List Edit) (all : List Member) (h : OkW all W) (hw : ∃ e ∈ W, e.who = who) (ho : ofR all W who ≠ none) (hl : l.length < 4611686018427387904) (hld : ∀ e ∈ l, e.deps.length < 4611686018427387904) :
  x543.g [.c (.v (.string who)), .c (.sl (l.map Edit.row)), .c (.sl (W.map Edit.row)), .c (.sl (all.map Member.row))] = some (True, .int .i64 (if finalB ⟨all.map Member.name, l, vsOf W⟩ (parts who comma) = true then 1 else 0)) := mkX_g (fun a b h => by
 simp only [List.cons.injEq, PVo.c.injEq, D.sl.injEq, D.v.injEq, Value.string.injEq] at h
 obtain ⟨h1, h2, h3, h4, _⟩ := h
 cases a; cases b
 simp only at h1 h2 h3 h4
 rw [h1, rows_inj h2, rows_inj h3, mrows_inj h4]) (FArg.mk who l W all) ⟨h, hw, ho, hl, hld⟩
end Go.Aw.Try

namespace Go.Aw.Try
open Go Go.Proofs Go.Aw
set_option maxRecDepth 100000
set_option maxHeartbeats 4000000
/-! ### Cuts -/
noncomputable def parts' (e : Edit) : List ByteArray := parts e.who comma
theorem OkR.okW {l : List Edit} {all : List Member} (h : OkR l all) : OkW all (edV (gatC l all).vs) := by
 have hv := h.vs
 have hin : ∀ e ∈ edV (gatC l all).vs, ∃ v ∈ (gatC l all).vs, v.e = e := fun e he => List.mem_map.1 he
 refine ⟨h.nod, fun e he => ?_, ?_, ?_, h.2.1, fun e he => ?_, fun m hm q => ?_⟩
 ·obtain ⟨v, hv1, rfl⟩ := hin e he
  have := (gatC_mem hv1).2
  rw [this, (hv.ok v hv1).who]
 ·rw [vsOf_ed hv.ok]; exact hv.chain
 ·unfold edV; rw [List.length_map]; exact Nat.le_trans (gatC_len l all) h.1
 ·obtain ⟨v, hv1, rfl⟩ := hin e he
  have hk := h.okE (gatC_mem hv1).1
  have hc := chk_asc hk.1
  exact ⟨hk.2.2.1, hc.1, hk.2.1, fun a => hasN_nonneg hc.2 a⟩
 ·obtain ⟨i, hi, rfl⟩ := List.mem_iff_getElem.1 hm
  have := (h.2.2.1 i hi).1
  rw [nth_eq hi, q] at this
  unfold authB at this
  simp only [Bool.and_eq_true, decide_eq_true_eq] at this
  exact absurd this.2.1 (Nat.lt_irrefl 0)
noncomputable def x539 : XE := mkX false (fun (p : List Edit × List Member) => [.c (.sl (p.1.map Edit.row)), .c (.sl (p.2.map Member.row))]) (fun p => p.1.length < 34359738368 ∧ p.2.length < 34359738368 ∧ ∀ e ∈ p.1, e.who.size < 4294967281) (fun p => .v (.c (.d (.sl ((edV (gatF (p.2.map Member.name) (sortE p.1)).vs).map Edit.row)))))
theorem kx539 : Contract Tryz.prog G0 39 x539 := mkX_data fun p h H => own_data (k539 p.1 p.2 h.1 h.2.1 h.2.2 H)
theorem xg539 (l : List Edit) (all : List Member) (h1 : l.length < 34359738368) (h2 : all.length < 34359738368) (h3 : ∀ e ∈ l, e.who.size < 4294967281) : x539.g [.c (.sl (l.map Edit.row)), .c (.sl (all.map Member.row))] = some (True, .v (.c (.d (.sl ((edV (gatC l all).vs).map Edit.row))))) := mkX_g (fun a b h => by
 simp only [List.cons.injEq, PVo.c.injEq, D.sl.injEq] at h
 exact Prod.ext (rows_inj h.1) (mrows_inj h.2.1)) (l, all) ⟨h1, h2, h3⟩
noncomputable def leastStep (name : ByteArray) (x : Int) (e : Edit) : Int := if hasS (parts' e) name && decide (hasN e.deps name < x) then hasN e.deps name else x
theorem least_take {W : List Edit} {name : ByteArray} {x : Int} {j : Nat} (h : j < W.length) : (W.take (j + 1)).foldl (leastStep name) x = leastStep name ((W.take j).foldl (leastStep name) x) (nth W j) := by
 rw [take_nth h, List.foldl_append]; rfl
theorem least_fold {name : ByteArray} : ∀ (W : List Edit) (x : Int), W.foldl (leastStep name) x ≤ x ∧ (∀ e ∈ W, name ∈ parts' e → W.foldl (leastStep name) x ≤ hasN e.deps name) ∧ (W.foldl (leastStep name) x = x ∨ ∃ e ∈ W, name ∈ parts' e ∧ hasN e.deps name = W.foldl (leastStep name) x)
 | [], x => ⟨Int.le_refl _, fun e he => (by cases he), .inl rfl⟩
 | v :: W, x => by
  rw [List.foldl_cons]
  obtain ⟨h1, h2, h3⟩ := least_fold (name := name) W (leastStep name x v)
  have hs : leastStep name x v ≤ x ∧ (name ∈ parts' v → leastStep name x v ≤ hasN v.deps name) ∧ (leastStep name x v = x ∨ (name ∈ parts' v ∧ hasN v.deps name = leastStep name x v)) := by
   unfold leastStep
   split
   ·rename_i hc
    simp only [Bool.and_eq_true, decide_eq_true_eq] at hc
    exact ⟨by omega, fun _ => Int.le_refl _, .inr ⟨(hasS_iff _ _).1 hc.1, rfl⟩⟩
   ·rename_i hc
    simp only [Bool.and_eq_true, decide_eq_true_eq, not_and] at hc
    refine ⟨Int.le_refl _, fun hn => ?_, .inl rfl⟩
    have := hc ((hasS_iff _ _).2 hn); omega
  obtain ⟨s1, s2, s3⟩ := hs
  refine ⟨by omega, fun e he hn => ?_, ?_⟩
  ·rcases List.mem_cons.1 he with rfl | he
   ·have := s2 hn; omega
   ·exact h2 e he hn
  ·rcases h3 with h3 | ⟨e, he, hn, h3⟩
   ·rcases s3 with s3 | ⟨hn, s3⟩
    ·exact .inl (by omega)
    ·exact .inr ⟨v, List.mem_cons_self .., hn, by omega⟩
   ·exact .inr ⟨e, List.mem_cons_of_mem _ he, hn, h3⟩
theorem sure_hit {s : ByteArray} : ∀ (vs : List Vote) (x : Int), vs.foldl (sureStep s) x = x ∨ ∃ v ∈ vs, s ∈ v.set ∧ hasN v.e.deps s = vs.foldl (sureStep s) x
 | [], x => .inl rfl
 | v :: vs, x => by
  rw [List.foldl_cons]
  rcases sure_hit (s := s) vs (sureStep s x v) with h | ⟨u, hu, h1, h2⟩
  ·rw [h]
   unfold sureStep
   split
   ·rename_i hc
    simp only [Bool.and_eq_true] at hc
    exact .inr ⟨v, List.mem_cons_self .., (hasS_iff _ _).1 hc.1, rfl⟩
   ·exact .inl rfl
  ·exact .inr ⟨u, List.mem_cons_of_mem _ hu, h1, h2⟩
theorem OkW.least {all : List Member} {W : List Edit} (h : OkW all W) {name : ByteArray} {e : Edit} (he : e ∈ W) (hn : name ∈ parts' e) : W.foldl (leastStep name) (hasN e.deps name) = sureN (vsOf W) name := by
 have hp : ∀ v ∈ vsOf W, 0 ≤ hasN v.e.deps name := fun v hv => (h.sm v.e (mem_vsOf.1 hv).1).2.2.2 name
 have hm : ∀ e ∈ W, (⟨e, parts' e⟩ : Vote) ∈ vsOf W := fun e he => mem_vsOf.2 ⟨he, rfl⟩
 obtain ⟨h1, h2, h3⟩ := least_fold (name := name) W (hasN e.deps name)
 have hle : ∀ f ∈ W, name ∈ parts' f → sureN (vsOf W) name ≤ hasN f.deps name := fun f hf q => sureN_le hp (hm f hf) q
 obtain ⟨f, hf, hfn, hfe⟩ : ∃ f ∈ W, name ∈ parts' f ∧ hasN f.deps name = W.foldl (leastStep name) (hasN e.deps name) := by
  rcases h3 with h3 | h3
  ·exact ⟨e, he, hn, h3.symm⟩
  ·exact h3
 obtain ⟨s1, s2⟩ := (sure_fold (x := -1) hp).2 _ (hm e he) hn
 have hs : sureN (vsOf W) name = (vsOf W).foldl (sureStep name) (-1) := by
  unfold sureN sureL; rw [if_neg (by omega)]
 rcases sure_hit (s := name) (vsOf W) (-1) with q | ⟨v, hv, q1, q2⟩
 ·omega
 ·obtain ⟨r1, r2⟩ := mem_vsOf.1 hv
  have a1 := h2 v.e r1 (by unfold parts'; rw [← r2]; exact q1)
  have a2 := hle f hf hfn
  omega
theorem k515o (l : List Edit) (all : List Member) (h : OkR l all) (H : List O) :
  ACalls Tryz.prog G0 15 [.c (.d (.sl (l.map Edit.row))), .c (.d (.sl (all.map Member.row)))] H (Own H 3 ((cutsE l all).map Cutoff.row)) := by
 have s1 : x539.sc = false := rfl
 have s2 : x540.sc = false := rfl
 have s3 : x541.sc = false := rfl
 have s4 : x542.sc = false := rfl
 have s5 : x543.sc = true := rfl
 have s7 : x545.sc = true := rfl
 have s8 : x546.sc = true := rfl
 have hC := h.okC
 have g1 := xg539 l all (by have := h.1; omega) (by have := h.2.1; omega) hC.who
 have hvv := vsOf_ed h.vs.ok
 have hO := h.okW
 have hE : cutsE l all = cutsC (gatC l all) (outL (gatC l all).mem (gatC l all).vs) := rfl
 obtain ⟨W, hW⟩ : ∃ W, W = edV (gatC l all).vs := ⟨_, rfl⟩
 rw [← hW] at g1 hvv hO
 have hcE : gatC l all = ⟨all.map Member.name, l, vsOf W⟩ := by rw [hvv]; rfl
 rw [hcE] at hE
 have hsets := hO.outs_eq
 have g2 := xg540 W all hO
 have hWl := hO.len
 have hal := hO.mlen
 obtain ⟨outs, hou⟩ : ∃ outs, outs = outsR all W all.length := ⟨_, rfl⟩
 have hI := hO.outs_all all.length
 have hol : outs.length ≤ 320 := by
  rw [hou]
  have h1 := outsR_len all W all.length
  have h2 : all.length * W.length ≤ 8 * 40 := Nat.mul_le_mul hal hWl
  omega
 rw [← hou] at g2 hsets hI
 obtain ⟨sets, hse⟩ : ∃ s, s = outL (all.map Member.name) (vsOf W) := ⟨_, rfl⟩
 rw [← hse] at hsets
 have hE2 : cutsE l all = cutsC ⟨all.map Member.name, l, vsOf W⟩ sets := by rw [hE, hse]
 have hsl : sets.length = outs.length := by rw [← hsets, List.length_map]
 obtain ⟨X0, hX0⟩ : ∃ X0, X0 = x544 outs.length := ⟨_, rfl⟩
 have hkX : Contract Tryz.prog G0 44 X0 := by rw [hX0]; exact kx544 _
 have s6 : X0.sc = true := by rw [hX0]; rfl
 rw [hE2]
 refine acallsX (X := [(39, x539), (40, x540), (41, x541), (42, x542), (43, x543), (44, X0), (45, x545), (46, x546)]) ⟨kx539, kx540, kx541, kx542, kx543, hkX, kx545, kx546, trivial⟩ tab hmix Tryz.func15 c515 (by rfl) fun hw => ?_
 by_cases h0 : outs.length = 0
 ·have hce : cutsC ⟨all.map Member.name, l, vsOf W⟩ sets = [] := by unfold cutsC; rw [if_pos (by omega)]
  rw [hce]
  simp (implicitDefEqProofs := false) (disch := omega) [gz, ir515, b515, b515_0, b515_1, b515_2, b515_3, s1, s2, g1, g2, h0, wrap64, toPVs, frzVs, osVs, toPV]
  have := fin_own_nil (P := Tryz.prog) (sz := 3) (L := []) hw (by omega)
  rw [List.append_nil] at this
  exact this
 ·obtain ⟨n, hn⟩ : ∃ n, outs.length = n + 1 := ⟨outs.length - 1, by omega⟩
  have hn1 : n < outs.length := by omega
  obtain ⟨who, hwho⟩ : ∃ w, nth outs n = w := ⟨_, rfl⟩
  have hwm : who ∈ outs := by rw [← hwho]; exact nth_mem hn1
  obtain ⟨hw1, hw2, _⟩ := hI.mem who hwm
  obtain ⟨own, hown⟩ : ∃ own, ofR all W who = some own := by
   cases ho : ofR all W who with
   | none => exact absurd ho hw2
   | some own => exact ⟨own, rfl⟩
  have hos := hO.of_some hown
  obtain ⟨pl, _⟩ := hO.pln hw1
  have g3 := xg541 who W all hO hw1
  rw [hown, show ofT (some own) = .tup [.c (.d (.sl (own.map Edit.row))), .c (.d (.v (.bool true)))] from rfl] at g3
  have g4 := ref_T hO hw1
  rw [wE_row] at g4
  have g5 := xg543 who l W all hO hw1 hw2 (by have := h.1; omega) (fun e he => (hC.good e he).2)
  have g6 := fun name => xg544 outs.length W all name hO n (by rw [← hou]; exact hn1) hn1
  rw [← hou, ← hX0, ← hse, hwho] at g6
  -- the first of the votes
  have hownp : 0 < own.length := by
   obtain ⟨e, he, he2⟩ := hw1
   have hv := vok_of (hO.nm e he)
   have hh := hv.half
   obtain ⟨s, hs, hns⟩ := nodup_out hO.nod (A := parts e.who comma) (by simp only at hh; omega)
   rw [he2] at hns
   obtain ⟨v, hv1, hv2, hv3⟩ := decB_iff.1 hos.2.1 s hs hns
   obtain ⟨r1, r2⟩ := mem_vsOf.1 hv1
   exact List.length_pos_of_mem ((hos.1 v.e).2 ⟨r1, parts_inj (r2.symm.trans hv2)⟩)
  obtain ⟨e0, he0⟩ : ∃ e, nth own 0 = e := ⟨_, rfl⟩
  have he0o : e0 ∈ own := by rw [← he0]; exact nth_mem hownp
  obtain ⟨he0W, he0w⟩ := (hos.1 e0).1 he0o
  have he0r := Edit.row_eq e0
  have hst : nth sets n = parts who comma := by rw [← hsets, nth_map _ hn1, hwho]
  have hpe0 : parts' e0 = parts who comma := by unfold parts'; rw [he0w]
  obtain ⟨S, hS⟩ : ∃ S, S = parts who comma := ⟨_, rfl⟩
  rw [← hS] at g4 g5 pl hst hpe0
  obtain ⟨fin, hfin⟩ : ∃ b, b = finalB ⟨all.map Member.name, l, vsOf W⟩ S := ⟨_, rfl⟩
  rw [← hfin] at g5
  have hce : cutsC ⟨all.map Member.name, l, vsOf W⟩ sets = S.flatMap (cutOf ⟨all.map Member.name, l, vsOf W⟩ sets fin) := by
   unfold cutsC; rw [if_neg (by omega), show sets.length - 1 = n from by omega, hst, hfin]
  rw [hce]
  have hsr : ∀ s, srow s = [D.v (.string s)] := fun _ => rfl
  have hown8 := hos.2.2
  simp (implicitDefEqProofs := false) (disch := omega) [gz, ir515, b515, b515_0, b515_1, b515_2, b515_3, b515_4, b515_5, b515_6, b515_7, b515_8, b515_9, s1, s2, s3, s4, s5, g1, g2, g3, g4, g5, hn, hn1, hwho, hsr, nth_map, splice, fillC, wrap64, toPVs, frzVs, osVs, toPV]
  refine ⟨fun h => absurd h (by omega), fun _ => ⟨by omega, ?_⟩⟩
  obtain ⟨ct, hct⟩ : ∃ f, f = cutOf ⟨all.map Member.name, l, vsOf W⟩ sets fin := ⟨_, rfl⟩
  rw [← hct]
  have hDl : ∀ x : List ByteArray, (x.flatMap ct).length ≤ 2 * x.length := fun x => by
   induction x with
   | nil => simp
   | cons a x ih =>
    have : (ct a).length ≤ 2 := by rw [hct]; unfold cutOf; cases fin <;> simp
    simp only [List.flatMap_cons, List.length_append, List.length_cons]; omega
  refine loopE (fun k st => ∃ i, i ≤ S.length ∧ k = S.length - i ∧
    st = ⟨ofL [(1, T.v (.c (.d (.sl (all.map Member.row))))), (5, .v (.c (.d (.sl (W.map Edit.row))))), (6, .v (.c (.d (.sl (outs.map srow))))), (7, .v (.c (.d (.v (.string who))))), (8, .v (.c (.d (.sl (own.map Edit.row))))), (12, .int .i64 (if fin = true then 1 else 0)), (56, .v (.c (.d (.sl (S.map srow))))), (57, .int .i64 S.length), (58, .int .i64 i), (13, .v (.c (.os H.length 3 0 ((S.take i).flatMap ct).length)))], H ++ [.row 3 (((S.take i).flatMap ct).map Cutoff.row)]⟩)
   (fun st => AtS [(13, .v (.c (.os H.length 3 0 (S.flatMap ct).length)))] (H ++ [.row 3 ((S.flatMap ct).map Cutoff.row)]) st) ?_ ?_ ?_
  ·refine wk_pre [0] [1, 5, 6, 7, 8, 12, 56, 57, 58, 13] hw rfl ⟨_, 0, by omega, rfl, ?_⟩
   simp [phiP, phi, O.ren]
   try (cases fin <;> simp)
  ·rintro J L hJ hL k st ⟨i, hi, rfl, rfl⟩
   by_cases hlt : i < S.length
   ·obtain ⟨s, hs⟩ : ∃ s, nth S i = s := ⟨_, rfl⟩
    have hsS : s ∈ S := by rw [← hs]; exact nth_mem hlt
    have g7 := g6 s
    have hD : (S.take (i + 1)).flatMap ct = (S.take i).flatMap ct ++ ct s := by
     rw [take_nth hlt, List.flatMap_append, hs]; simp
    obtain ⟨D0, hD0⟩ : ∃ D0, D0 = (S.take i).flatMap ct := ⟨_, rfl⟩
    have hD0l : D0.length ≤ 2 * i := by rw [hD0]; have := hDl (S.take i); simp at this; simp; omega
    rw [← hD0] at hD ⊢
    have hcs : ct s = ⟨s, uptoE (vsOf W) sets s n, 22⟩ :: if fin = true then [] else [⟨s, sureN (vsOf W) s, 19⟩] := by
     rw [hct]; unfold cutOf; rw [show sets.length - 1 = n from by omega]
    obtain ⟨a1, ha1⟩ : ∃ a, a = uptoE (vsOf W) sets s n := ⟨_, rfl⟩
    rw [← ha1] at g7 hcs
    rw [hcs] at hD
    have tS : (D0.map Cutoff.row).take D0.length = D0.map Cutoff.row := List.take_of_length_le (by simp)
    cases fin
    ·have hle := hO.least he0W (by rw [hpe0]; exact hsS)
     rw [← hle] at hD
     have g8 := xg545 e0.deps s (by have := (hO.sm e0 he0W).2.2.1; omega)
     obtain ⟨y0, hy0⟩ : ∃ y, y = hasN e0.deps s := ⟨_, rfl⟩
     rw [← hy0] at g8 hD
     simp (implicitDefEqProofs := false) (disch := omega) [gz, hlt, wrap64, nth_map, hs, hsr, splice, fillC, s6, s7, g7, g8, hownp, he0, he0r, tS, toPVs, frzVs, osVs, toPV, toDs, toD, Nat.add_assoc]
     repeat' (with_reducible apply And.intro)
     all_goals first | omega | kernel_rfl | exact fun _ _ => rfl | skip
     obtain ⟨D1, hD1⟩ : ∃ D1, D1 = D0 ++ [(⟨s, a1, 22⟩ : Cutoff)] := ⟨_, rfl⟩
     have hD1l : D1.length = D0.length + 1 := by rw [hD1]; simp
     have tS1 : (D1.map Cutoff.row).take D1.length = D1.map Cutoff.row := List.take_of_length_le (by simp)
     refine loopE (fun k st => ∃ j, j ≤ W.length ∧ k = W.length - j ∧
       st = ⟨ofL [(1, T.v (.c (.d (.sl (all.map Member.row))))), (5, .v (.c (.d (.sl (W.map Edit.row))))), (6, .v (.c (.d (.sl (outs.map srow))))), (7, .v (.c (.d (.v (.string who))))), (8, .v (.c (.d (.sl (own.map Edit.row))))), (12, .int .i64 0), (56, .v (.c (.d (.sl (S.map srow))))), (57, .int .i64 S.length), (58, .int .i64 i), (15, .v (.c (.d (.v (.string s))))), (16, .int .i64 ((W.take j).foldl (leastStep s) y0)), (81, .v (.c (.d (.sl (W.map Edit.row))))), (82, .int .i64 W.length), (83, .int .i64 j), (13, .v (.c (.os H.length 3 0 D1.length)))], H ++ [.row 3 (D1.map Cutoff.row)]⟩)
      (fun st => AtS [(1, T.v (.c (.d (.sl (all.map Member.row))))), (5, .v (.c (.d (.sl (W.map Edit.row))))), (6, .v (.c (.d (.sl (outs.map srow))))), (7, .v (.c (.d (.v (.string who))))), (8, .v (.c (.d (.sl (own.map Edit.row))))), (12, .int .i64 0), (56, .v (.c (.d (.sl (S.map srow))))), (57, .int .i64 S.length), (58, .int .i64 i), (15, .v (.c (.d (.v (.string s))))), (16, .int .i64 (W.foldl (leastStep s) y0)), (13, .v (.c (.os H.length 3 0 D1.length)))] (H ++ [.row 3 (D1.map Cutoff.row)]) st) ?_ ?_ ?_
     ·refine wk_pre [2] [1, 5, 6, 7, 8, 12, 56, 57, 58, 15, 16, 81, 82, 83, 13] hw rfl ⟨_, 0, by omega, rfl, ?_⟩
      simp [phiP, phi, O.ren, hD1, Cutoff.row, show ¬ (H.length + 2 < H.length) from by omega]
     ·rintro J2 L2 hJ2 hL2 k2 st ⟨j, hj, rfl, rfl⟩
      by_cases hjl : j < W.length
      ·obtain ⟨e, he⟩ : ∃ e, nth W j = e := ⟨_, rfl⟩
       have hem : e ∈ W := by rw [← he]; exact nth_mem hjl
       have hee := Edit.row_eq e
       have hst2 := least_take (name := s) (x := y0) hjl
       rw [he] at hst2
       obtain ⟨x, hx⟩ : ∃ x, x = (W.take j).foldl (leastStep s) y0 := ⟨_, rfl⟩
       rw [← hx] at hst2 ⊢
       replace hst2 : (W.take (j + 1)).foldl (leastStep s) y0 = if (hasS (parts e.who comma) s && decide (hasN e.deps s < x)) = true then hasN e.deps s else x := hst2
       have k1 := ref_Te hO hem
       rw [hee] at k1
       obtain ⟨ple, _⟩ := hO.pln ⟨e, hem, rfl⟩
       have k2 := xg546 (parts e.who comma) s (by omega)
       have k3 := xg545 e.deps s (by have := (hO.sm e hem).2.2.1; omega)
       obtain ⟨P, hP⟩ : ∃ P, P = parts e.who comma := ⟨_, rfl⟩
       rw [← hP] at k1 k2 hst2
       obtain ⟨u, hu⟩ : ∃ u, u = hasS P s := ⟨_, rfl⟩
       obtain ⟨y, hy⟩ : ∃ y, y = hasN e.deps s := ⟨_, rfl⟩
       rw [← hu] at k2 hst2
       rw [← hy] at k3 hst2
       have keep : ∀ (sl : Nat → T) (o : O) (z : Int), (W.take (j + 1)).foldl (leastStep s) y0 = z → (∀ p ∈ [(1, T.v (.c (.d (.sl (all.map Member.row))))), (5, .v (.c (.d (.sl (W.map Edit.row))))), (6, .v (.c (.d (.sl (outs.map srow))))), (7, .v (.c (.d (.v (.string who))))), (8, .v (.c (.d (.sl (own.map Edit.row))))), (12, .int .i64 0), (56, .v (.c (.d (.sl (S.map srow))))), (57, .int .i64 S.length), (58, .int .i64 i), (15, .v (.c (.d (.v (.string s))))), (16, .int .i64 z), (81, .v (.c (.d (.sl (W.map Edit.row))))), (82, .int .i64 W.length), (83, .int .i64 (j + 1 : Nat)), (13, .v (.c (.os H.length 3 0 D1.length)))], sl p.1 = p.2) → wk Tryz.prog G0 H.length ⟨sl, H ++ [.row 3 (D1.map Cutoff.row), o]⟩ (fun s'' => ∃ k', k' < W.length - j ∧ J2 k' s'') := fun sl o z hnn hsl => by
        subst hJ2
        refine wk_pre [0] [1, 5, 6, 7, 8, 12, 56, 57, 58, 15, 16, 81, 82, 83, 13] hw rfl ⟨W.length - (j + 1), by omega, j + 1, by omega, rfl, ?_⟩
        rw [hnn]
        simp at hsl
        simp [hsl, phiP, phi, O.ren]
       cases u
       ·simp (implicitDefEqProofs := false) (disch := omega) [gz, hjl, wrap64, nth_map, he, hee, splice, fillC, s4, s7, s8, k1, k2, k3, toPVs, frzVs, osVs, toPV, Nat.add_assoc]
        exact keep _ _ x (by rw [hst2]; simp) (by simp)
       ·by_cases c : y < x
        ·simp (implicitDefEqProofs := false) (disch := omega) [gz, hjl, wrap64, nth_map, he, hee, splice, fillC, s4, s7, s8, k1, k2, k3, c, toPVs, frzVs, osVs, toPV, Nat.add_assoc]
         exact keep _ _ y (by rw [hst2]; simp [c]) (by simp)
        ·simp (implicitDefEqProofs := false) (disch := omega) [gz, hjl, wrap64, nth_map, he, hee, splice, fillC, s4, s7, s8, k1, k2, k3, c, toPVs, frzVs, osVs, toPV, Nat.add_assoc]
         exact keep _ _ x (by rw [hst2]; simp [c]) (by simp)
      ·have : j = W.length := by omega
       subst this
       rw [List.take_length]
       simp (implicitDefEqProofs := false) (disch := omega) [gz, hjl]
       subst hL2
       exact at_mk (by simp) (by simp)
     ·rintro _ ⟨sl, rfl⟩
      obtain ⟨a2, ha2⟩ : ∃ a, a = W.foldl (leastStep s) y0 := ⟨_, rfl⟩
      rw [← ha2] at hD ⊢
      simp (implicitDefEqProofs := false) (disch := omega) [gz, wrap64, splice, fillC, tS1, toDs, toD, Nat.add_assoc]
      repeat' (with_reducible apply And.intro)
      all_goals first | omega | kernel_rfl | exact fun _ _ => rfl | skip
      subst hJ
      refine wk_pre [2] [1, 5, 6, 7, 8, 12, 56, 57, 58, 13] hw rfl ⟨S.length - (i + 1), by omega, i + 1, by omega, rfl, ?_⟩
      rw [hD, hD1]
      simp [phiP, phi, O.ren, Cutoff.row, show ¬ (H.length + 2 < H.length) from by omega]
    ·simp (implicitDefEqProofs := false) (disch := omega) [gz, hlt, wrap64, nth_map, hs, hsr, splice, fillC, s6, s7, g7, tS, toPVs, frzVs, osVs, toPV, toDs, toD, Nat.add_assoc]
     repeat' (with_reducible apply And.intro)
     all_goals first | omega | kernel_rfl | exact fun _ _ => rfl | skip
     subst hJ
     refine wk_pre [2] [1, 5, 6, 7, 8, 12, 56, 57, 58, 13] hw rfl ⟨S.length - (i + 1), by omega, i + 1, by omega, rfl, ?_⟩
     rw [hD]
     simp [phiP, phi, O.ren, Cutoff.row, show ¬ (H.length + 2 < H.length) from by omega]
   ·have : i = S.length := by omega
    subst this
    rw [List.take_length]
    simp (implicitDefEqProofs := false) (disch := omega) [gz, hlt]
    subst hL
    exact at_mk (by simp) (by simp)
  ·rintro _ ⟨sl, rfl⟩
   simp (implicitDefEqProofs := false) (disch := omega) [gz, b515_10, b515_11, wrap64]
   exact fin_own (k := 0) hw rfl (by simp)
noncomputable def x515 : XE := mkX false (fun (p : List Edit × List Member) => [.c (.sl (p.1.map Edit.row)), .c (.sl (p.2.map Member.row))]) (fun p => OkR p.1 p.2) (fun p => .v (.c (.d (.sl ((cutsE p.1 p.2).map Cutoff.row)))))
theorem kx515 : Contract Tryz.prog G0 15 x515 := mkX_data fun p h H => own_data (k515o p.1 p.2 h H)
theorem xg515 (l : List Edit) (all : List Member) (h : OkR l all) : x515.g [.c (.sl (l.map Edit.row)), .c (.sl (all.map Member.row))] = some (True, .v (.c (.d (.sl ((cutsE l all).map Cutoff.row))))) := mkX_g (fun a b h => by
 simp only [List.cons.injEq, PVo.c.injEq, D.sl.injEq] at h
 exact Prod.ext (rows_inj h.1) (mrows_inj h.2.1)) (l, all) h
end Go.Aw.Try

namespace Go.Aw.Try
open Go Go.Proofs Go.Aw
set_option maxRecDepth 100000
set_option maxHeartbeats 4000000
/-! ### EvictCutoffs -/
theorem OkR.cuts_len {l : List Edit} {all : List Member} (h : OkR l all) : (cutsE l all).length ≤ 1000 := by
 have hv := h.vs
 have h8 : (all.map Member.name).length ≤ 8 := by rw [List.length_map]; exact h.2.1
 unfold cutsE cutsC
 split
 ·exact Nat.zero_le _
 ·rename_i hq
  obtain ⟨S, hS⟩ : ∃ S, S = nth (outL (gatC l all).mem (gatC l all).vs) ((outL (gatC l all).mem (gatC l all).vs).length - 1) := ⟨_, rfl⟩
  have hm : S ∈ outL (gatC l all).mem (gatC l all).vs := by rw [hS]; exact nth_mem (by omega)
  obtain ⟨⟨v, hv1, hv2⟩, _⟩ := (mem_out hv h8).1 hm
  have hh := (hv.ok v hv1).half
  rw [← hS]
  have : ∀ x : List ByteArray, (x.flatMap (cutOf (gatC l all) (outL (gatC l all).mem (gatC l all).vs) (finalB (gatC l all) S))).length ≤ 2 * x.length := fun x => by
   induction x with
   | nil => simp
   | cons a x ih =>
    have : (cutOf (gatC l all) (outL (gatC l all).mem (gatC l all).vs) (finalB (gatC l all) S) a).length ≤ 2 := by unfold cutOf; split <;> simp
    simp only [List.flatMap_cons, List.length_append, List.length_cons]; omega
  have := this S
  rw [hv2] at hh; omega
end Go.Aw.Try

namespace Go.Aw.Try
open Go Go.Proofs Go.Aw
set_option maxRecDepth 100000
set_option maxHeartbeats 4000000
def dsz (l : List Id) : Nat := (l.map fun x => x.a.size).sum
def gsz (e : Edit) : Nat := 10 + e.id.a.size + e.field.size + e.value.size + e.who.size + 5 * e.deps.length + dsz e.deps
def gtot (l : List Edit) : Nat := (l.map gsz).sum
theorem sum_take (l : List Nat) (i : Nat) : (l.take i).sum ≤ l.sum := by
 conv => rhs; rw [← List.take_append_drop i l]
 rw [List.sum_append]; omega
theorem gtot_len (l : List Edit) : 10 * l.length ≤ gtot l := by
 unfold gtot
 induction l with
 | nil => simp
 | cons e r ih => simp only [List.map_cons, List.sum_cons, List.length_cons]; unfold gsz at *; omega
theorem k15 (l : List Edit) (hl : gtot l < 2305843009213693952) : ACalls Tryz.prog G0 48 [.c (.d (.sl (l.map Edit.row)))] [] fun t H => t = .int .i64 (if 1500 < gtot l then 1 else 0) ∧ H = [] := by
 have hlen := gtot_len l
 refine acallsX (X := []) trivial tab hmix Tryz.func48 c15 (by rfl) fun hw => ?_
 simp (implicitDefEqProofs := false) (disch := omega) [gz, ir15, b15, b15_0, b15_1, b15_2, b15_3, b15_4, wrap64]
 refine loopE (fun k s => ∃ i, i ≤ l.length ∧ k = l.length - i ∧
   s = ⟨ofL [(3, .int .i64 (gtot (l.take i))), (8, .v (.c (.d (.sl (l.map Edit.row))))), (9, .int .i64 l.length), (10, .int .i64 i)], []⟩)
  (fun s => AtS [(3, .int .i64 (gtot l))] [] s) ?_ ?_ ?_
 ·refine wk_keep [3, 8, 9, 10] ⟨_, 0, by omega, rfl, ?_⟩
  simp [gtot]
 ·rintro J L hJ hL k s ⟨i, hi, rfl, rfl⟩
  by_cases hlt : i < l.length
  ·obtain ⟨e, he⟩ : ∃ e, nth l i = e := ⟨_, rfl⟩
   obtain ⟨N, hN⟩ : ∃ N, N = gtot (l.take i) := ⟨_, rfl⟩
   have hst : gtot (l.take (i + 1)) = N + gsz e := by
    rw [take_nth hlt, he, hN]; simp [gtot]
   have hle : gtot (l.take (i + 1)) ≤ gtot l := by
    unfold gtot; rw [List.map_take]; exact sum_take _ _
   rw [hst] at hle
   have hg : gsz e = 10 + e.id.a.size + e.field.size + e.value.size + e.who.size + 5 * e.deps.length + dsz e.deps := rfl
   rw [← hN]
   obtain ⟨M, hM⟩ : ∃ M, M = N + (10 + e.id.a.size + e.field.size + e.value.size + e.who.size + 5 * e.deps.length) := ⟨_, rfl⟩
   have hM' : (N : Int) + (10 + e.id.a.size + e.field.size + e.value.size + e.who.size + 5 * e.deps.length) = M := by omega
   simp (implicitDefEqProofs := false) (disch := omega) [gz, hlt, wrap64, nth_map, he, Edit.row, splice, hM']
   refine loopE (fun k s => ∃ j, j ≤ e.deps.length ∧ k = e.deps.length - j ∧
     s = ⟨ofL [(3, .int .i64 (M + dsz (e.deps.take j) : Nat)), (8, .v (.c (.d (.sl (l.map Edit.row))))), (9, .int .i64 l.length), (10, .int .i64 i), (39, .v (.c (.d (.sl (e.deps.map Id.row))))), (40, .int .i64 e.deps.length), (41, .int .i64 j)], []⟩)
    (fun s => AtS [(3, .int .i64 (N + gsz e : Nat)), (8, .v (.c (.d (.sl (l.map Edit.row))))), (9, .int .i64 l.length), (10, .int .i64 i)] [] s) ?_ ?_ ?_
   ·refine wk_junk (A := []) (L := [_]) [(3, .int .i64 M), (8, .v (.c (.d (.sl (l.map Edit.row))))), (9, .int .i64 l.length), (10, .int .i64 i), (39, .v (.c (.d (.sl (e.deps.map Id.row))))), (40, .int .i64 e.deps.length), (41, .int .i64 0)] (by intro o ho; simp at ho) rfl (by simp [T.lt, V.lt, C.lt]) ⟨_, 0, by omega, rfl, ?_⟩
    simp [dsz]
   ·rintro J2 L2 hJ2 hL2 k s ⟨j, hj, rfl, rfl⟩
    by_cases hlt2 : j < e.deps.length
    ·obtain ⟨x, hx⟩ : ∃ x, nth e.deps j = x := ⟨_, rfl⟩
     have hst2 : dsz (e.deps.take (j + 1)) = dsz (e.deps.take j) + x.a.size := by
      rw [take_nth hlt2, hx]; simp [dsz]
     have hle2 : dsz (e.deps.take (j + 1)) ≤ dsz e.deps := by
      unfold dsz; rw [List.map_take]; exact sum_take _ _
     obtain ⟨D0, hD0⟩ : ∃ D0, D0 = M + dsz (e.deps.take j) := ⟨_, rfl⟩
     rw [← hD0]
     have hD' : ((M + dsz (e.deps.take (j + 1)) : Nat) : Int) = (D0 : Int) + x.a.size := by omega
     simp (implicitDefEqProofs := false) (disch := omega) [gz, hlt2, wrap64, nth_map, hx, Id.row, splice]
     subst hJ2
     refine wk_junk (A := []) (L := [_]) [(3, .int .i64 (M + dsz (e.deps.take (j + 1)) : Nat)), (8, .v (.c (.d (.sl (l.map Edit.row))))), (9, .int .i64 l.length), (10, .int .i64 i), (39, .v (.c (.d (.sl (e.deps.map Id.row))))), (40, .int .i64 e.deps.length), (41, .int .i64 (j + 1 : Nat))] (by intro o ho; simp at ho) rfl ?_ ⟨e.deps.length - (j + 1), by omega, j + 1, by omega, rfl, rfl⟩
     rw [hD']
     simp [T.lt, V.lt, C.lt]
    ·simp (implicitDefEqProofs := false) (disch := omega) [gz, hlt2]
     subst hL2
     have : j = e.deps.length := by omega
     subst this
     have hD' : N + gsz e = M + dsz (e.deps.take e.deps.length) := by rw [List.take_length]; omega
     rw [hD']
     exact at_mk (by simp) (by simp)
   ·rintro _ ⟨sl, rfl⟩
    simp (implicitDefEqProofs := false) (disch := omega) [gz, wrap64]
    subst hJ
    refine wk_keep [3, 8, 9, 10] ⟨l.length - (i + 1), by omega, i + 1, by omega, rfl, ?_⟩
    rw [hst]; simp
  ·simp (implicitDefEqProofs := false) (disch := omega) [gz, hlt]
   subst hL
   have : i = l.length := by omega
   subst this
   exact at_mk (by simp) (by simp)
 ·rintro _ ⟨sl, rfl⟩
  by_cases h : 1500 < gtot l
  ·have h' : (1500 : Int) < gtot l := by omega
   simp (implicitDefEqProofs := false) (disch := omega) [gz, wrap64, h']
   exact fin_nil ⟨by simp [h], rfl⟩
  ·have h' : ¬ (1500 : Int) < gtot l := by omega
   simp (implicitDefEqProofs := false) (disch := omega) [gz, wrap64, h']
   exact fin_nil ⟨by simp [h], rfl⟩
noncomputable def x15 : XE := mkX true (fun (p : List Edit) => [.c (.sl (p.map Edit.row))]) (fun p => gtot p < 2305843009213693952) (fun p => .int .i64 (if 1500 < gtot p then 1 else 0))
theorem kx15 : Contract Tryz.prog G0 48 x15 := mkX_scal (fun _ => rfl) fun p h => k15 p h
theorem xg15 (l : List Edit) (h : gtot l < 2305843009213693952) : x15.g [.c (.sl (l.map Edit.row))] = some (True, .int .i64 (if 1500 < gtot l then 1 else 0)) := mkX_g (fun a b h => by simp at h; exact rows_inj h) l h

end Go.Aw.Try

namespace Go.Aw.Try
open Go Go.Proofs Go.Aw
set_option maxRecDepth 100000
set_option maxHeartbeats 4000000
instance : Inhabited Member := ⟨⟨⟨#[]⟩, ⟨#[]⟩⟩⟩
structure Kn where
 c : Int
 f : Int
 n : Int
def kstep : Option Kn → Edit → Kn
 | none, e => ⟨e.clock, e.floor, e.id.n⟩
 | some k, e => ⟨if k.c < e.clock then e.clock else k.c, if k.n < e.id.n then e.floor else k.f, if k.n < e.id.n then e.id.n else k.n⟩
def knStep (name : ByteArray) (s : Option Kn) (e : Edit) : Option Kn := if e.id.a = name then some (kstep s e) else s
def knE (l : List Edit) (name : ByteArray) : Option Kn := l.foldl (knStep name) none
def mapStep (m : List (ByteArray × Kn)) (e : Edit) : List (ByteArray × Kn) := aput m e.id.a (kstep (alook m e.id.a) e)
def mapK (l : List Edit) : List (ByteArray × Kn) := l.foldl mapStep []
theorem look_mapK (l : List Edit) (name : ByteArray) : alook (mapK l) name = knE l name := by
 have : ∀ (l : List Edit) (m : List (ByteArray × Kn)), alook (l.foldl mapStep m) name = l.foldl (knStep name) (alook m name) := by
  intro l
  induction l with
  | nil => intro m; rfl
  | cons e r ih =>
   intro m
   rw [List.foldl_cons, List.foldl_cons, ih]
   congr 1
   unfold mapStep knStep
   rw [alook_aput]
   by_cases h : e.id.a = name
   ·rw [if_pos h, if_pos h, h]
   ·rw [if_neg h, if_neg h]
 exact this l []
def kn0 : Kn := ⟨0, 0, 0⟩
def knO (s : Option Kn) : Kn := match s with | some k => k | none => kn0
theorem k54 (l : List Edit) (nm : ByteArray) (hl : l.length < 68719476736) :
  ACalls Tryz.prog G0 93 [.c (.d (.sl (l.map Edit.row))), Sx nm] [] fun t H => t = .tup [I (knO (knE l nm)).c, I (knO (knE l nm)).f] ∧ H = [] := by
 refine acallsX (X := []) trivial tab hmix Tryz.func93 c54 (by rfl) fun hw => ?_
 simp (implicitDefEqProofs := false) (disch := omega) [gz, ir54, b54, b54_0, b54_1, b54_2, b54_3, b54_4, wrap64]
 refine loopE (fun k st => ∃ (i : Nat) (q : Option Kn), i ≤ l.length ∧ k = l.length - i ∧ q = knE (l.take i) nm ∧
   st = ⟨ofL [(0, .v (.c (.d (.sl (l.map Edit.row))))), (1, .str nm), (6, .int .i64 (knO q).c), (7, .int .i64 (knO q).f), (8, .bool q.isSome), (9, .int .i64 (knO q).n), (10, .int .i64 i)], []⟩)
  (fun st => AtS [(6, .int .i64 (knO (knE l nm)).c), (7, .int .i64 (knO (knE l nm)).f)] [] st) ?_ ?_ ?_
 ·refine wk_keep [0, 1, 6, 7, 8, 9, 10] ⟨_, 0, none, by omega, rfl, rfl, ?_⟩
  simp [knO, kn0]
 ·rintro J L hJ hL k st ⟨i, q, hi, rfl, hq, rfl⟩
  by_cases hlt : i < l.length
  ·obtain ⟨e, he⟩ : ∃ e, nth l i = e := ⟨_, rfl⟩
   have hee := Edit.row_eq e
   have hst : knE (l.take (i + 1)) nm = knStep nm q e := by rw [knE, take_foldl _ _ hlt, he, hq]; rfl
   have hfin : ∀ (sl : Nat → T) (q' : Option Kn), knStep nm q e = q' → sl 0 = .v (.c (.d (.sl (l.map Edit.row)))) → sl 1 = .str nm → sl 6 = .int .i64 (knO q').c → sl 7 = .int .i64 (knO q').f → sl 8 = .bool q'.isSome → sl 9 = .int .i64 (knO q').n → sl 10 = .int .i64 (i + 1 : Nat) →
     wk Tryz.prog G0 0 ⟨sl, []⟩ fun s'' => ∃ k', k' < l.length - i ∧ J k' s'' := fun sl q' hq' h0 h1 h6 h7 h8 h9 h10 => by
    subst hJ
    refine wk_keep [0, 1, 6, 7, 8, 9, 10] ⟨l.length - (i + 1), by omega, i + 1, q', by omega, rfl, by rw [hst, hq'], ?_⟩
    simp [h0, h1, h6, h7, h8, h9, h10]
   unfold knStep at hfin
   by_cases ha : e.id.a = nm
   ·rw [if_pos ha] at hfin
    cases q with
    | none =>
     simp (implicitDefEqProofs := false) (disch := omega) [gz, hlt, nth_map, he, hee, ha, binSF, wrap64, knO, kn0]
     exact hfin _ _ rfl (by simp) (by simp) (by simp [knO, kstep]) (by simp [knO, kstep]) (by simp) (by simp [knO, kstep]) (by simp)
    | some q =>
     by_cases h1 : q.c < e.clock
     ·by_cases h2 : q.n < e.id.n
      ·simp (implicitDefEqProofs := false) (disch := omega) [gz, hlt, nth_map, he, hee, ha, binSF, wrap64, knO, h1, h2]
       exact hfin _ _ rfl (by simp) (by simp) (by simp [knO, kstep, h1]) (by simp [knO, kstep, h2]) (by simp) (by simp [knO, kstep, h2]) (by simp)
      ·simp (implicitDefEqProofs := false) (disch := omega) [gz, hlt, nth_map, he, hee, ha, binSF, wrap64, knO, h1, h2]
       exact hfin _ _ rfl (by simp) (by simp) (by simp [knO, kstep, h1]) (by simp [knO, kstep, h2]) (by simp) (by simp [knO, kstep, h2]) (by simp)
     ·by_cases h2 : q.n < e.id.n
      ·simp (implicitDefEqProofs := false) (disch := omega) [gz, hlt, nth_map, he, hee, ha, binSF, wrap64, knO, h1, h2]
       exact hfin _ _ rfl (by simp) (by simp) (by simp [knO, kstep, h1]) (by simp [knO, kstep, h2]) (by simp) (by simp [knO, kstep, h2]) (by simp)
      ·simp (implicitDefEqProofs := false) (disch := omega) [gz, hlt, nth_map, he, hee, ha, binSF, wrap64, knO, h1, h2]
       exact hfin _ _ rfl (by simp) (by simp) (by simp [knO, kstep, h1]) (by simp [knO, kstep, h2]) (by simp) (by simp [knO, kstep, h2]) (by simp)
   ·rw [if_neg ha] at hfin
    simp (implicitDefEqProofs := false) (disch := omega) [gz, hlt, nth_map, he, hee, ha, binSF, wrap64]
    exact hfin _ _ rfl (by simp) (by simp) (by simp) (by simp) (by simp) (by simp) (by simp)
  ·have : i = l.length := by omega
   subst this
   rw [List.take_length] at hq
   simp (implicitDefEqProofs := false) (disch := omega) [gz, hlt]
   subst hL
   subst hq
   exact at_mk (by simp) (by simp)
 ·rintro _ ⟨sl, rfl⟩
  simp (implicitDefEqProofs := false) (disch := omega) [gz, b54_5, b54_6]
  exact fin_nil ⟨rfl, rfl⟩
noncomputable def x54 : XE := mkX true (fun (p : List Edit × ByteArray) => [.c (.sl (p.1.map Edit.row)), .c (.v (.string p.2))]) (fun p => p.1.length < 68719476736) (fun p => .tup [I (knO (knE p.1 p.2)).c, I (knO (knE p.1 p.2)).f])
theorem kx54 : Contract Tryz.prog G0 93 x54 := mkX_scal (fun p => rfl) fun p h => k54 p.1 p.2 h
theorem injLS (a b : List Edit × ByteArray) (h : [PVo.c (D.sl (a.1.map Edit.row)), PVo.c (.v (.string a.2))] = [PVo.c (.sl (b.1.map Edit.row)), .c (.v (.string b.2))]) : a = b := by
 simp at h; exact Prod.ext (rows_inj h.1) h.2
theorem xg54 (l : List Edit) (nm : ByteArray) (h : l.length < 68719476736) : x54.g [.c (.sl (l.map Edit.row)), .c (.v (.string nm))] = some (True, .tup [I (knO (knE l nm)).c, I (knO (knE l nm)).f]) := mkX_g injLS (l, nm) h
end Go.Aw.Try

namespace Go.Aw.Try
open Go Go.Proofs Go.Aw
set_option maxRecDepth 100000
set_option maxHeartbeats 4000000
/-! ### the small functions around the stable clock -/
/-- Is the member excluded? -/
def goneBy (cuts : List Cutoff) (nm : ByteArray) : Bool := cuts.any fun c => decide (c.err = 22) && decide (c.who = nm)
theorem any_drop {α : Type} [Inhabited α] (p : α → Bool) {l : List α} {i : Nat} (h : i < l.length) : (l.drop i).any p = (p (nth l i) || (l.drop (i + 1)).any p) := by
 rw [drop_nth h, List.any_cons]
theorem k71 (cuts : List Cutoff) (nm : ByteArray) (hl : cuts.length < 68719476736) :
  ACalls Tryz.prog G0 94 [Sx nm, .c (.d (.sl (cuts.map Cutoff.row)))] [] fun t H => t = .bool (goneBy cuts nm) ∧ H = [] := by
 refine acallsX (X := []) trivial tab hmix Tryz.func94 c71 (by rfl) fun hw => ?_
 simp (implicitDefEqProofs := false) (disch := omega) [gz, ir71, b71, wrap64]
 refine loopE (fun k st => ∃ (i : Nat), i ≤ cuts.length ∧ k = cuts.length - i ∧ goneBy cuts nm = goneBy (cuts.drop i) nm ∧
   st = ⟨ofL [(0, .str nm), (1, .v (.c (.d (.sl (cuts.map Cutoff.row))))), (5, .int .i64 i)], []⟩)
  (fun st => goneBy cuts nm = false ∧ AtS [] [] st) ?_ ?_ ?_
 ·refine wk_keep [0, 1, 5] ⟨_, 0, by omega, rfl, rfl, ?_⟩
  simp
 ·rintro J L hJ hL k st ⟨i, hi, rfl, hq, rfl⟩
  by_cases hlt : i < cuts.length
  ·obtain ⟨c, hcc⟩ : ∃ c, nth cuts i = c := ⟨_, rfl⟩
   have hce : c.row = [.v (.string c.who), .v (.int .i64 c.n), .v (.int .i64 c.err)] := rfl
   have hst : goneBy (cuts.drop i) nm = ((decide (c.err = 22) && decide (c.who = nm)) || goneBy (cuts.drop (i + 1)) nm) := by rw [← hcc]; exact any_drop _ hlt
   by_cases h1 : c.err = 22
   ·by_cases h2 : c.who = nm
    ·simp (implicitDefEqProofs := false) (disch := omega) [gz, hlt, nth_map, hcc, hce, h1, h2, binSF, wrap64]
     exact fin_nil ⟨by rw [hq, hst]; simp [h1, h2], rfl⟩
    ·simp (implicitDefEqProofs := false) (disch := omega) [gz, hlt, nth_map, hcc, hce, h1, h2, binSF, wrap64]
     subst hJ
     refine wk_keep [0, 1, 5] ⟨cuts.length - (i + 1), by omega, i + 1, by omega, rfl, by rw [hq, hst]; simp [h1, h2], ?_⟩
     simp
   ·simp (implicitDefEqProofs := false) (disch := omega) [gz, hlt, nth_map, hcc, hce, h1, binSF, wrap64]
    subst hJ
    refine wk_keep [0, 1, 5] ⟨cuts.length - (i + 1), by omega, i + 1, by omega, rfl, by rw [hq, hst]; simp [h1], ?_⟩
    simp
  ·have : i = cuts.length := by omega
   subst this
   simp (implicitDefEqProofs := false) (disch := omega) [gz, hlt]
   subst hL
   exact ⟨by rw [hq]; simp [goneBy], at_mk (by simp) rfl⟩
 ·rintro _ ⟨hq, sl, rfl⟩
  simp (implicitDefEqProofs := false) (disch := omega) [gz, wrap64]
  exact fin_nil ⟨by rw [hq]; rfl, rfl⟩
def Id.ofC (c : Cutoff) : Id := ⟨c.who, c.n⟩
/-- Are all edits of an excluded member here? -/
def wholeR (l : List Edit) (c : Cutoff) : Bool := l.any fun e => decide (e.id.a = c.who) && decide (c.n ≤ e.id.n)
theorem k72 (l : List Edit) (c : Cutoff) (hl : l.length < 68719476736) :
  ACalls Tryz.prog G0 95 [.c (.d (.sl (l.map Edit.row))), .agg (c.row.map .d)] [] fun t H => t = .bool (wholeR l c || decide (c.n = 0)) ∧ H = [] := by
 refine acallsX (X := []) trivial tab hmix Tryz.func95 c72 (by rfl) fun hw => ?_
 have hce : c.row = [.v (.string c.who), .v (.int .i64 c.n), .v (.int .i64 c.err)] := rfl
 rw [hce]
 simp (implicitDefEqProofs := false) (disch := omega) [gz, ir72, b72, wrap64]
 refine loopE (fun k st => ∃ (i : Nat), i ≤ l.length ∧ k = l.length - i ∧ wholeR l c = wholeR (l.drop i) c ∧
   st = ⟨ofL [(0, .v (.c (.d (.sl (l.map Edit.row))))), (3, .v (.c (.ptr 0 0))), (5, .int .i64 i)], [.cells [.d (.v (.string c.who)), .d (.v (.int .i64 c.n)), .d (.v (.int .i64 c.err))]]⟩)
  (fun st => wholeR l c = false ∧ AtS [(3, .v (.c (.ptr 0 0)))] [.cells [.d (.v (.string c.who)), .d (.v (.int .i64 c.n)), .d (.v (.int .i64 c.err))]] st) ?_ ?_ ?_
 ·refine wk_keep [0, 3, 5] ⟨_, 0, by omega, rfl, rfl, ?_⟩
  simp
 ·rintro J L hJ hL k st ⟨i, hi, rfl, hq, rfl⟩
  by_cases hlt : i < l.length
  ·obtain ⟨e, he⟩ : ∃ e, nth l i = e := ⟨_, rfl⟩
   have hee := Edit.row_eq e
   have hst : wholeR (l.drop i) c = ((decide (e.id.a = c.who) && decide (c.n ≤ e.id.n)) || wholeR (l.drop (i + 1)) c) := by rw [← he]; exact any_drop _ hlt
   by_cases h1 : e.id.a = c.who
   ·by_cases h2 : c.n ≤ e.id.n
    ·simp (implicitDefEqProofs := false) (disch := omega) [gz, hlt, nth_map, he, hee, h1, h2, binSF, wrap64]
     repeat' apply And.intro
     all_goals first | omega | kernel_rfl | skip
     exact fin_nil ⟨by rw [hq, hst]; simp [h1, h2], rfl⟩
    ·simp (implicitDefEqProofs := false) (disch := omega) [gz, hlt, nth_map, he, hee, h1, h2, binSF, wrap64]
     repeat' apply And.intro
     all_goals first | omega | kernel_rfl | skip
     subst hJ
     refine wk_keep [0, 3, 5] ⟨l.length - (i + 1), by omega, i + 1, by omega, rfl, by rw [hq, hst]; simp [h1, h2], ?_⟩
     simp
   ·simp (implicitDefEqProofs := false) (disch := omega) [gz, hlt, nth_map, he, hee, h1, binSF, wrap64]
    repeat' apply And.intro
    all_goals first | omega | kernel_rfl | skip
    subst hJ
    refine wk_keep [0, 3, 5] ⟨l.length - (i + 1), by omega, i + 1, by omega, rfl, by rw [hq, hst]; simp [h1], ?_⟩
    simp
  ·have : i = l.length := by omega
   subst this
   simp (implicitDefEqProofs := false) (disch := omega) [gz, hlt]
   subst hL
   exact ⟨by rw [hq]; simp [wholeR], at_mk (by simp) rfl⟩
 ·rintro _ ⟨hq, sl, rfl⟩
  simp (implicitDefEqProofs := false) (disch := omega) [gz, wrap64]
  exact fin_nil ⟨by rw [hq]; simp, rfl⟩
/-- The clock of the edit with that id. -/
def backE (l : List Edit) (c : Cutoff) : Int := match l.find? fun e => decide (e.id.a = c.who ∧ e.id.n = c.n) with | some e => e.clock | none => 0
theorem k73 (l : List Edit) (c : Cutoff) (hl : l.length < 68719476736) :
  ACalls Tryz.prog G0 96 [.c (.d (.sl (l.map Edit.row))), .agg (c.row.map .d)] [] fun t H => t = .int .i64 (backE l c) ∧ H = [] := by
 refine acallsX (X := []) trivial tab hmix Tryz.func96 c73 (by rfl) fun hw => ?_
 have hce : c.row = [.v (.string c.who), .v (.int .i64 c.n), .v (.int .i64 c.err)] := rfl
 rw [hce]
 simp (implicitDefEqProofs := false) (disch := omega) [gz, ir73, b73, wrap64]
 refine loopE (fun k st => ∃ (i : Nat), i ≤ l.length ∧ k = l.length - i ∧ backE l c = backE (l.drop i) c ∧
   st = ⟨ofL [(0, .v (.c (.d (.sl (l.map Edit.row))))), (3, .v (.c (.ptr 0 0))), (5, .int .i64 i)], [.cells [.d (.v (.string c.who)), .d (.v (.int .i64 c.n)), .d (.v (.int .i64 c.err))]]⟩)
  (fun st => backE l c = 0 ∧ AtS [] [.cells [.d (.v (.string c.who)), .d (.v (.int .i64 c.n)), .d (.v (.int .i64 c.err))]] st) ?_ ?_ ?_
 ·refine wk_keep [0, 3, 5] ⟨_, 0, by omega, rfl, rfl, ?_⟩
  simp
 ·rintro J L hJ hL k st ⟨i, hi, rfl, hq, rfl⟩
  by_cases hlt : i < l.length
  ·obtain ⟨e, he⟩ : ∃ e, nth l i = e := ⟨_, rfl⟩
   have hee := Edit.row_eq e
   have hst : backE (l.drop i) c = if e.id.a = c.who ∧ e.id.n = c.n then e.clock else backE (l.drop (i + 1)) c := by
    unfold backE; rw [drop_nth hlt, he, List.find?_cons]
    by_cases h : e.id.a = c.who ∧ e.id.n = c.n <;> simp [h]
   by_cases h1 : e.id.a = c.who
   ·by_cases h2 : e.id.n = c.n
    ·simp (implicitDefEqProofs := false) (disch := omega) [gz, hlt, nth_map, he, hee, h1, h2, fillC, splice, cellsEq, skEq, wrap64]
     repeat' apply And.intro
     all_goals first | omega | kernel_rfl | skip
     exact fin_nil ⟨by rw [hq, hst, if_pos ⟨h1, h2⟩]; rfl, rfl⟩
    ·simp (implicitDefEqProofs := false) (disch := omega) [gz, hlt, nth_map, he, hee, h1, h2, fillC, splice, cellsEq, skEq, wrap64]
     repeat' apply And.intro
     all_goals first | omega | kernel_rfl | skip
     subst hJ
     refine wk_keep [0, 3, 5] ⟨l.length - (i + 1), by omega, i + 1, by omega, rfl, by rw [hq, hst, if_neg (by simp [h2])], ?_⟩
     simp
   ·simp (implicitDefEqProofs := false) (disch := omega) [gz, hlt, nth_map, he, hee, h1, fillC, splice, cellsEq, skEq, wrap64]
    repeat' apply And.intro
    all_goals first | omega | kernel_rfl | skip
    subst hJ
    refine wk_keep [0, 3, 5] ⟨l.length - (i + 1), by omega, i + 1, by omega, rfl, by rw [hq, hst, if_neg (by simp [h1])], ?_⟩
    simp
  ·have : i = l.length := by omega
   subst this
   simp (implicitDefEqProofs := false) (disch := omega) [gz, hlt]
   subst hL
   exact ⟨by rw [hq]; simp [backE], at_mk (by simp) rfl⟩
 ·rintro _ ⟨hq, sl, rfl⟩
  simp (implicitDefEqProofs := false) (disch := omega) [gz, wrap64]
  exact fin_nil ⟨by rw [hq]; rfl, rfl⟩
theorem injNC (a b : ByteArray × List Cutoff) (h : [PVo.c (D.v (.string a.1)), PVo.c (.sl (a.2.map Cutoff.row))] = [PVo.c (.v (.string b.1)), .c (.sl (b.2.map Cutoff.row))]) : a = b := by
 simp at h; exact Prod.ext h.1 (crows_inj h.2)
noncomputable def x71 : XE := mkX true (fun (p : ByteArray × List Cutoff) => [.c (.v (.string p.1)), .c (.sl (p.2.map Cutoff.row))]) (fun p => p.2.length < 68719476736) (fun p => .bool (goneBy p.2 p.1))
theorem kx71 : Contract Tryz.prog G0 94 x71 := mkX_scal (fun _ => rfl) fun p h => k71 p.2 p.1 h
theorem xg71 (nm : ByteArray) (cuts : List Cutoff) (h : cuts.length < 68719476736) : x71.g [.c (.v (.string nm)), .c (.sl (cuts.map Cutoff.row))] = some (True, .bool (goneBy cuts nm)) := mkX_g injNC (nm, cuts) h
theorem injLK (a b : List Edit × Cutoff) (h : [PVo.c (D.sl (a.1.map Edit.row)), PVo.agg a.2.row] = [PVo.c (.sl (b.1.map Edit.row)), .agg b.2.row]) : a = b := by
 simp at h; exact Prod.ext (rows_inj h.1) (Cutoff.row_inj h.2)
noncomputable def x72 : XE := mkX true (fun (p : List Edit × Cutoff) => [.c (.sl (p.1.map Edit.row)), .agg p.2.row]) (fun p => p.1.length < 68719476736) (fun p => .bool (wholeR p.1 p.2 || decide (p.2.n = 0)))
theorem kx72 : Contract Tryz.prog G0 95 x72 := mkX_scal (fun _ => rfl) fun p h => k72 p.1 p.2 h
theorem xg72 (l : List Edit) (c : Cutoff) (h : l.length < 68719476736) : x72.g [.c (.sl (l.map Edit.row)), .agg c.row] = some (True, .bool (wholeR l c || decide (c.n = 0))) := mkX_g injLK (l, c) h
noncomputable def x73 : XE := mkX true (fun (p : List Edit × Cutoff) => [.c (.sl (p.1.map Edit.row)), .agg p.2.row]) (fun p => p.1.length < 68719476736) (fun p => .int .i64 (backE p.1 p.2))
theorem kx73 : Contract Tryz.prog G0 96 x73 := mkX_scal (fun _ => rfl) fun p h => k73 p.1 p.2 h
theorem xg73 (l : List Edit) (c : Cutoff) (h : l.length < 68719476736) : x73.g [.c (.sl (l.map Edit.row)), .agg c.row] = some (True, .int .i64 (backE l c)) := mkX_g injLK (l, c) h
end Go.Aw.Try

namespace Go.Aw
open Go
section
variable {P : Program} {G : Gl} {N0 : Nat}
/-- A map was laid behind the regions. -/
def OwnM (H : List O) (kt : KT) (es : List (Value × PV)) : T → List O → Prop := fun t H' => t = .v (.c (.mp H.length)) ∧ H' = H ++ [.map kt es]
theorem fin_ownM {H L : List O} {k : Nat} {kt : KT} {es : List (Value × PV)} (hw : Wf H) (hk : L[k]? = some (.map kt es)) :
  Fin P H.length (OwnM H kt es) (.v (.c (.mp (H.length + k)))) (H ++ L) := by
 have hlt : k < L.length := (List.getElem?_eq_some_iff.1 hk).1
 refine fin_pre [k] hw (by simp [selB, phi, hlt]) ?_
 have e1 : phiP H.length [k] (H.length + k) = some H.length := by simp [phiP, phi]; omega
 have e2 : L.getD k .dead = .map kt es := by rw [List.getD_eq_getElem?_getD, hk]; rfl
 refine ⟨?_, ?_⟩
 ·show T.v (V.c (C.ren _ _)) = _
  simp only [C.ren, e1]
 ·simp only [List.map_cons, List.map_nil, e2]; rfl
end
end Go.Aw
namespace Go.Aw.Try
open Go Go.Proofs Go.Aw
set_option maxRecDepth 100000
set_option maxHeartbeats 4000000
def Kn.pv (k : Kn) : PV := .agg [.v (.int .i64 k.c), .v (.int .i64 k.f), .v (.int .i64 k.n)]
abbrev encSK (m : List (ByteArray × Kn)) : List (Value × PV) := encM (fun s => .string s) Kn.pv m
theorem mfind_SK (a : ByteArray) (m : List (ByteArray × Kn)) : mfind (encSK m) (.string a) = (alook m a).map Kn.pv := mfind_enc (ke := fun s => Value.string s) (fun a b => rfl) a m
theorem mput_SK (a : ByteArray) (n : Kn) (m : List (ByteArray × Kn)) : mput (encSK m) (.string a) (.agg [.v (.int .i64 n.c), .v (.int .i64 n.f), .v (.int .i64 n.n)]) = encSK (aput m a n) := mput_enc (ke := fun s => Value.string s) (ve := Kn.pv) (fun a b => rfl) a n m
theorem k53 (es : List Edit) (hl : es.length < 68719476736) (cuts : List Cutoff) (hc : cuts.length < 68719476736) (H : List O) :
  ACalls Tryz.prog G0 87 [.c (.d (.sl (es.map Edit.row))), .c (.d (.sl (cuts.map Cutoff.row)))] H (OwnM H ktS (encSK (mapK (effE es cuts)))) := by
 have h18 : x18.sc = false := rfl
 have g18 := xg18 es cuts hl hc
 refine acallsX (X := [(124, x18)]) ⟨kx18, trivial⟩ tab hmix Tryz.func87 c53 (by rfl) fun hw => ?_
 obtain ⟨s, hs⟩ : ∃ s, s = effE es cuts := ⟨_, rfl⟩
 have hsl : s.length < 68719476736 := by
  have h1 := sortE_len es
  have h2 : (effE es cuts).length ≤ (sortE es).length := List.length_filter_le _ _
  rw [hs]; omega
 rw [← hs] at g18
 rw [← hs]
 simp (implicitDefEqProofs := false) (disch := omega) [gz, ir53, b53, b53_0, b53_1, b53_2, h18, g18, wrap64, toPVs, frzVs, osVs, toPV]
 refine loopE (fun k st => ∃ i, i ≤ s.length ∧ k = s.length - i ∧
   st = ⟨ofL [(5, .v (.c (.mp H.length))), (13, .v (.c (.d (.sl (s.map Edit.row))))), (14, .int .i64 s.length), (15, .int .i64 i)],
    H ++ [.map ktS (encSK (mapK (s.take i)))]⟩)
  (fun st => AtS [(5, .v (.c (.mp H.length)))] (H ++ [.map ktS (encSK (mapK s))]) st) ?_ ?_ ?_
 ·refine wk_keep [5, 13, 14, 15] ⟨_, 0, by omega, rfl, ?_⟩
  simp [mapK, encM]
 ·rintro J L hJ hL k st ⟨i, hi, rfl, rfl⟩
  by_cases hlt : i < s.length
  ·obtain ⟨e, he⟩ : ∃ e, nth s i = e := ⟨_, rfl⟩
   have hee := Edit.row_eq e
   obtain ⟨m, hm⟩ : ∃ m, m = mapK (s.take i) := ⟨_, rfl⟩
   have hstep : mapK (s.take (i + 1)) = mapStep m e := by rw [mapK, take_foldl _ _ hlt, he, hm]; rfl
   have hfin : ∀ (sl : Nat → T) (L : List O) (q : Kn), kstep (alook m e.id.a) e = q → sl 5 = .v (.c (.mp H.length)) → sl 13 = .v (.c (.d (.sl (s.map Edit.row)))) → sl 14 = .int .i64 s.length → sl 15 = .int .i64 (i + 1 : Nat) →
     wk Tryz.prog G0 H.length ⟨sl, H ++ (.map ktS (mput (encSK m) (.string e.id.a) (.agg [.v (.int .i64 q.c), .v (.int .i64 q.f), .v (.int .i64 q.n)])) :: L)⟩ fun s'' => ∃ k', k' < s.length - i ∧ J k' s'' := fun sl L q hq h5 h13 h14 h15 => by
    subst hJ
    rw [mput_SK]
    refine wk_junk2 (M := [.map ktS (encSK (aput m e.id.a q))]) [(5, .v (.c (.mp H.length))), (13, .v (.c (.d (.sl (s.map Edit.row))))), (14, .int .i64 s.length), (15, .int .i64 (i + 1 : Nat))] hw (by simp [O.lt, C.lt]) rfl (by simp [h5, h13, h14, h15, T.lt, V.lt, C.lt]) ⟨s.length - (i + 1), by omega, i + 1, by omega, rfl, ?_⟩
    rw [hstep]; unfold mapStep; rw [hq]
   rw [← hm]
   have hf := mfind_SK e.id.a m
   cases ha : alook m e.id.a with
   | none =>
    rw [ha] at hf hfin
    simp (implicitDefEqProofs := false) (disch := omega) [gz, hlt, wrap64, nth_map, he, hee, hf, splice, conf, sksOk, skOk, PV.toV, toPV, toDs]
    repeat' apply And.intro
    all_goals first | omega | kernel_rfl | skip
    exact hfin _ _ ⟨e.clock, e.floor, e.id.n⟩ rfl (by simp) (by simp) (by simp) (by simp)
   | some q =>
    rw [ha] at hf hfin
    have hqp : Option.map Kn.pv (some q) = some (.agg [.v (.int .i64 q.c), .v (.int .i64 q.f), .v (.int .i64 q.n)]) := rfl
    rw [hqp] at hf
    by_cases h1 : q.c < e.clock
    ·by_cases h2 : q.n < e.id.n
     ·simp (implicitDefEqProofs := false) (disch := omega) [gz, hlt, wrap64, nth_map, he, hee, hf, h1, h2, splice, conf, sksOk, skOk, PV.toV, toPV, toDs]
      repeat' apply And.intro
      all_goals first | omega | kernel_rfl | skip
      exact hfin _ _ ⟨e.clock, e.floor, e.id.n⟩ (by simp [kstep, h1, h2]) (by simp) (by simp) (by simp) (by simp)
     ·simp (implicitDefEqProofs := false) (disch := omega) [gz, hlt, wrap64, nth_map, he, hee, hf, h1, h2, splice, conf, sksOk, skOk, PV.toV, toPV, toDs]
      repeat' apply And.intro
      all_goals first | omega | kernel_rfl | skip
      exact hfin _ _ ⟨e.clock, q.f, q.n⟩ (by simp [kstep, h1, h2]) (by simp) (by simp) (by simp) (by simp)
    ·by_cases h2 : q.n < e.id.n
     ·simp (implicitDefEqProofs := false) (disch := omega) [gz, hlt, wrap64, nth_map, he, hee, hf, h1, h2, splice, conf, sksOk, skOk, PV.toV, toPV, toDs]
      repeat' apply And.intro
      all_goals first | omega | kernel_rfl | skip
      exact hfin _ _ ⟨q.c, e.floor, e.id.n⟩ (by simp [kstep, h1, h2]) (by simp) (by simp) (by simp) (by simp)
     ·simp (implicitDefEqProofs := false) (disch := omega) [gz, hlt, wrap64, nth_map, he, hee, hf, h1, h2, splice, conf, sksOk, skOk, PV.toV, toPV, toDs]
      repeat' apply And.intro
      all_goals first | omega | kernel_rfl | skip
      exact hfin _ _ ⟨q.c, q.f, q.n⟩ (by simp [kstep, h1, h2]) (by simp) (by simp) (by simp) (by simp)
  ·have : i = s.length := by omega
   subst this
   simp (implicitDefEqProofs := false) (disch := omega) [gz, hlt]
   subst hL
   exact at_mk (by simp) (by simp)
 ·rintro _ ⟨sl, rfl⟩
  simp (implicitDefEqProofs := false) (disch := omega) [gz, b53_3, b53_4]
  exact fin_ownM (k := 0) hw rfl
end Go.Aw.Try

namespace Go.Aw.Try
open Go Go.Proofs Go.Aw
set_option maxRecDepth 100000
set_option maxHeartbeats 4000000
def irow (x : Int) : List D := [.v (.int .i64 x)]
def clk (l : List Edit) (cuts : List Cutoff) (m : Member) : Int := (knO (knE (effE l cuts) m.name)).c
def flr (l : List Edit) (cuts : List Cutoff) (m : Member) : Int := (knO (knE (effE l cuts) m.name)).f
def lists (f g : Member → Int) (all : List Member) : T := .tup [.c (.d (.sl ((all.map f).map irow))), .c (.d (.sl ((all.map g).map irow)))]
theorem k26 (l : List Edit) (all : List Member) (cuts : List Cutoff) (hl : l.length < 68719476736) (ha : all.length < 68719476736) (hc : cuts.length < 68719476736) (H : List O) :
  ACalls Tryz.prog G0 50 [.c (.d (.sl (l.map Edit.row))), .c (.d (.sl (all.map Member.row))), .c (.d (.sl (cuts.map Cutoff.row)))] H fun t H' => t = lists (clk l cuts) (flr l cuts) all ∧ H' = H := by
 refine acallsX (X := []) trivial tab hmix Tryz.func50 c26 (by rfl) fun hw => ?_
 simp (implicitDefEqProofs := false) (disch := omega) [gz, ir26, b26, wrap64]
 refine (k53 l hl cuts hc H).mono ?_
 rintro t H' ⟨rfl, rfl⟩
 obtain ⟨m, hm⟩ : ∃ m, m = encSK (mapK (effE l cuts)) := ⟨_, rfl⟩
 have hlk : ∀ nm, (∃ v, mfind m (.string nm) = some v ∧ v = (knO (knE (effE l cuts) nm)).pv) ∨ (mfind m (.string nm) = none ∧ PVo.agg [D.v (.int .i64 0), D.v (.int .i64 0), D.v (.int .i64 0)] = (knO (knE (effE l cuts) nm)).pv) := fun nm => by
  rw [hm, mfind_SK, look_mapK]; cases knE (effE l cuts) nm
  ·exact .inr ⟨rfl, rfl⟩
  ·exact .inl ⟨_, rfl, rfl⟩
 rw [← hm]
 simp only [callK]
 simp (implicitDefEqProofs := false) (disch := omega) [gz, wrap64]
 refine loopE (fun k s => ∃ (i : Nat), i ≤ all.length ∧ k = all.length - i ∧
   s = ⟨ofL [(8, .v (.c (.mp H.length))), (9, .v (.c (.os (H.length + 1) 1 0 i))), (10, .v (.c (.os (H.length + 2) 1 0 i))), (16, .v (.c (.d (.sl (all.map Member.row))))), (17, .int .i64 all.length), (18, .int .i64 i)],
    H ++ [.map ktS m, .row 1 (((all.take i).map (clk l cuts)).map irow), .row 1 (((all.take i).map (flr l cuts)).map irow)]⟩)
  (fun s => AtS [(9, .v (.c (.os (H.length + 1) 1 0 all.length))), (10, .v (.c (.os (H.length + 2) 1 0 all.length)))] (H ++ [.map ktS m, .row 1 ((all.map (clk l cuts)).map irow), .row 1 ((all.map (flr l cuts)).map irow)]) s) ?_ ?_ ?_
 ·refine wk_nil_os 9 1 (by omega) (by simp) (wk_nil_os 10 1 (by omega) (by simp) ?_)
  refine wk_keep [8, 9, 10, 16, 17, 18] ⟨_, 0, by omega, rfl, ?_⟩
  simp
 ·rintro J L hJ hL k s ⟨i, hi, rfl, rfl⟩
  by_cases hlt : i < all.length
  ·obtain ⟨e, he⟩ : ∃ e, nth all i = e := ⟨_, rfl⟩
   have hee : e.row = [.v (.string e.name), .v (.string e.key)] := rfl
   obtain ⟨q, hq⟩ : ∃ q, q = knO (knE (effE l cuts) e.name) := ⟨_, rfl⟩
   have hlk := hlk e.name
   rw [← hq] at hlk
   have ec : ((all.take (i + 1)).map (clk l cuts)).map irow = ((all.take i).map (clk l cuts)).map irow ++ [[.v (.int .i64 q.c)]] := by
    rw [take_nth hlt, he]; simp [clk, hq, irow]
   have ef : ((all.take (i + 1)).map (flr l cuts)).map irow = ((all.take i).map (flr l cuts)).map irow ++ [[.v (.int .i64 q.f)]] := by
    rw [take_nth hlt, he]; simp [flr, hq, irow]
   have lc : (((all.take i).map (clk l cuts)).map irow).length = i := by simp; omega
   have lf : (((all.take i).map (flr l cuts)).map irow).length = i := by simp; omega
   obtain ⟨A, hA⟩ : ∃ A, A = ((all.take i).map (clk l cuts)).map irow := ⟨_, rfl⟩
   obtain ⟨B, hB⟩ : ∃ B, B = ((all.take i).map (flr l cuts)).map irow := ⟨_, rfl⟩
   rw [← hA] at ec lc
   rw [← hB] at ef lf
   rw [← hA, ← hB]
   have tA : A.take i = A := List.take_of_length_le (by omega)
   have tB : B.take i = B := List.take_of_length_le (by omega)
   rcases hlk with ⟨v, h1, rfl⟩ | ⟨h1, h2⟩
   ·simp (implicitDefEqProofs := false) (disch := omega) [gz, hlt, wrap64, nth_map, he, hee, h1, Kn.pv, splice, fillC, conf, sksOk, skOk, PV.toV, toPV, toDs, lc, lf, tA, tB, Nat.add_assoc]
    repeat' apply And.intro
    all_goals first | omega | kernel_rfl | skip
    subst hJ
    refine wk_pre [0, 5, 7] [8, 9, 10, 16, 17, 18] hw rfl ⟨all.length - (i + 1), by omega, i + 1, by omega, rfl, ?_⟩
    have n5 : ¬ H.length + 5 < H.length := by omega
    have n7 : ¬ H.length + 7 < H.length := by omega
    rw [ec, ef]; simp [phiP, phi, O.ren, n5, n7]
   ·unfold Kn.pv at h2
    injection h2 with h2
    simp at h2
    simp (implicitDefEqProofs := false) (disch := omega) [gz, hlt, wrap64, nth_map, he, hee, h1, splice, fillC, conf, sksOk, skOk, PV.toV, toPV, toDs, lc, lf, tA, tB, Nat.add_assoc]
    repeat' apply And.intro
    all_goals first | omega | kernel_rfl | skip
    subst hJ
    refine wk_pre [0, 5, 7] [8, 9, 10, 16, 17, 18] hw rfl ⟨all.length - (i + 1), by omega, i + 1, by omega, rfl, ?_⟩
    have n5 : ¬ H.length + 5 < H.length := by omega
    have n7 : ¬ H.length + 7 < H.length := by omega
    have qc : q.c = 0 := h2.1.symm
    have qf : q.f = 0 := h2.2.1.symm
    rw [ec, ef]; simp [phiP, phi, O.ren, n5, n7, qc, qf]
  ·have : i = all.length := by omega
   subst this
   simp (implicitDefEqProofs := false) (disch := omega) [gz, hlt]
   subst hL
   exact at_mk (by simp) (by simp)
 ·rintro _ ⟨sl, rfl⟩
  simp (implicitDefEqProofs := false) (disch := omega) [gz, wrap64]
  refine fin_pre_pvs (ps := [.c (.sl ((all.map (clk l cuts)).map irow)), .c (.sl ((all.map (flr l cuts)).map irow))]) (L' := [.map ktS m, .frow 1 ((all.map (clk l cuts)).map irow), .frow 1 ((all.map (flr l cuts)).map irow)]) hw ?_ ?_ ⟨rfl, rfl⟩
  ·simp [toPVs, toPV, frz, frz1]
   exact ⟨List.take_of_length_le (by simp), List.take_of_length_le (by simp)⟩
  ·simp [frzVs, frz, frz1]
noncomputable def x26 : XE := mkX false (fun (p : List Edit × List Member × List Cutoff) => [.c (.sl (p.1.map Edit.row)), .c (.sl (p.2.1.map Member.row)), .c (.sl (p.2.2.map Cutoff.row))]) (fun p => p.1.length < 68719476736 ∧ p.2.1.length < 68719476736 ∧ p.2.2.length < 68719476736) (fun p => lists (clk p.1 p.2.2) (flr p.1 p.2.2) p.2.1)
theorem mrow_inj {a b : Member} (h : a.row = b.row) : a = b := by
 cases a; cases b; simp [Member.row] at h; obtain ⟨rfl, rfl⟩ := h; rfl
theorem map_inj' {α β : Type} {f : α → β} (hf : ∀ a b, f a = f b → a = b) : ∀ {l m : List α}, l.map f = m.map f → l = m
 | [], [], _ => rfl
 | [], _ :: _, h => by simp at h
 | _ :: _, [], h => by simp at h
 | a :: l, b :: m, h => by
  simp only [List.map_cons, List.cons.injEq] at h
  rw [hf _ _ h.1, map_inj' hf h.2]
theorem injLMC (a b : List Edit × List Member × List Cutoff) (h : [PVo.c (D.sl (a.1.map Edit.row)), PVo.c (.sl (a.2.1.map Member.row)), PVo.c (.sl (a.2.2.map Cutoff.row))] = [PVo.c (.sl (b.1.map Edit.row)), .c (.sl (b.2.1.map Member.row)), .c (.sl (b.2.2.map Cutoff.row))]) : a = b := by
 simp at h; exact Prod.ext (rows_inj h.1) (Prod.ext (map_inj' (fun a b => mrow_inj) h.2.1) (crows_inj h.2.2))
theorem kx26 : Contract Tryz.prog G0 50 x26 := mkX_data fun p h H => k26 p.1 p.2.1 p.2.2 h.1 h.2.1 h.2.2 H
theorem xg26 (l : List Edit) (all : List Member) (cuts : List Cutoff) (hl : l.length < 68719476736) (ha : all.length < 68719476736) (hc : cuts.length < 68719476736) : x26.g [.c (.sl (l.map Edit.row)), .c (.sl (all.map Member.row)), .c (.sl (cuts.map Cutoff.row))] = some (True, lists (clk l cuts) (flr l cuts) all) := mkX_g injLMC (l, all, cuts) ⟨hl, ha, hc⟩
theorem k27 (l : List Edit) (all : List Member) (cuts : List Cutoff) (hl : l.length < 68719476736) (ha : all.length < 68719476736) (hc : cuts.length < 68719476736) (H : List O) :
  ACalls Tryz.prog G0 52 [.c (.d (.sl (l.map Edit.row))), .c (.d (.sl (all.map Member.row))), .c (.d (.sl (cuts.map Cutoff.row)))] H fun t H' => t = lists (clk l cuts) (flr l cuts) all ∧ H' = H := by
 have h19 : x19.sc = false := rfl
 have h54 : x54.sc = true := rfl
 have g19 := xg19 l cuts hl hc
 refine acallsX (X := [(92, x19), (93, x54)]) ⟨kx19, kx54, trivial⟩ tab hmix Tryz.func52 c27 (by rfl) fun hw => ?_
 have g54 := fun nm => xg54 (effE l cuts) nm (by
  have h1 := sortE_len l
  have h2 : (effE l cuts).length ≤ (sortE l).length := List.length_filter_le _ _
  omega)
 simp (implicitDefEqProofs := false) (disch := omega) [gz, ir27, b27, h19, g19, wrap64, toPVs, frzVs, osVs, toPV]
 refine loopE (fun k s => ∃ (i : Nat), i ≤ all.length ∧ k = all.length - i ∧
   s = ⟨ofL [(1, .v (.c (.d (.sl (all.map Member.row))))), (8, .v (.c (.os H.length 1 0 i))), (9, .v (.c (.os (H.length + 1) 1 0 i))), (10, .v (.c (.d (.sl ((effE l cuts).map Edit.row))))), (11, .int .i64 i)],
    H ++ [.row 1 (((all.take i).map (clk l cuts)).map irow), .row 1 (((all.take i).map (flr l cuts)).map irow)]⟩)
  (fun s => AtS [(8, .v (.c (.os H.length 1 0 all.length))), (9, .v (.c (.os (H.length + 1) 1 0 all.length)))] (H ++ [.row 1 ((all.map (clk l cuts)).map irow), .row 1 ((all.map (flr l cuts)).map irow)]) s) ?_ ?_ ?_
 ·refine wk_keep [1, 8, 9, 10, 11] ⟨_, 0, by omega, rfl, ?_⟩
  simp
 ·rintro J L hJ hL k s ⟨i, hi, rfl, rfl⟩
  by_cases hlt : i < all.length
  ·obtain ⟨e, he⟩ : ∃ e, nth all i = e := ⟨_, rfl⟩
   have hee : e.row = [.v (.string e.name), .v (.string e.key)] := rfl
   have ec : ((all.take (i + 1)).map (clk l cuts)).map irow = ((all.take i).map (clk l cuts)).map irow ++ [[.v (.int .i64 (knO (knE (effE l cuts) e.name)).c)]] := by
    rw [take_nth hlt, he]; simp [clk, irow]
   have ef : ((all.take (i + 1)).map (flr l cuts)).map irow = ((all.take i).map (flr l cuts)).map irow ++ [[.v (.int .i64 (knO (knE (effE l cuts) e.name)).f)]] := by
    rw [take_nth hlt, he]; simp [flr, irow]
   have lc : (((all.take i).map (clk l cuts)).map irow).length = i := by simp; omega
   have lf : (((all.take i).map (flr l cuts)).map irow).length = i := by simp; omega
   obtain ⟨A, hA⟩ : ∃ A, A = ((all.take i).map (clk l cuts)).map irow := ⟨_, rfl⟩
   obtain ⟨B, hB⟩ : ∃ B, B = ((all.take i).map (flr l cuts)).map irow := ⟨_, rfl⟩
   rw [← hA] at ec lc
   rw [← hB] at ef lf
   rw [← hA, ← hB]
   have tA : A.take i = A := List.take_of_length_le (by omega)
   have tB : B.take i = B := List.take_of_length_le (by omega)
   simp (implicitDefEqProofs := false) (disch := omega) [gz, hlt, wrap64, nth_map, he, hee, h54, g54, splice, fillC, lc, lf, tA, tB, Nat.add_assoc]
   repeat' apply And.intro
   all_goals first | omega | kernel_rfl | skip
   subst hJ
   refine wk_pre [3, 5] [1, 8, 9, 10, 11] hw rfl ⟨all.length - (i + 1), by omega, i + 1, by omega, rfl, ?_⟩
   have n5 : ¬ H.length + 5 < H.length := by omega
   have n7 : ¬ H.length + 3 < H.length := by omega
   rw [ec, ef]; simp [phiP, phi, O.ren, n5, n7]
  ·have : i = all.length := by omega
   subst this
   simp (implicitDefEqProofs := false) (disch := omega) [gz, hlt]
   subst hL
   exact at_mk (by simp) (by simp)
 ·rintro _ ⟨sl, rfl⟩
  simp (implicitDefEqProofs := false) (disch := omega) [gz, wrap64]
  refine fin_pre_pvs (ps := [.c (.sl ((all.map (clk l cuts)).map irow)), .c (.sl ((all.map (flr l cuts)).map irow))]) (L' := [.frow 1 ((all.map (clk l cuts)).map irow), .frow 1 ((all.map (flr l cuts)).map irow)]) hw ?_ ?_ ⟨rfl, rfl⟩
  ·simp [toPVs, toPV, frz, frz1]
   exact ⟨List.take_of_length_le (by simp), List.take_of_length_le (by simp)⟩
  ·simp [frzVs, frz, frz1]
theorem kx27 : Contract Tryz.prog G0 52 x26 := mkX_data fun p h H => k27 p.1 p.2.1 p.2.2 h.1 h.2.1 h.2.2 H
end Go.Aw.Try

namespace Go.Aw
open Go
/-- Code that must not be reached. -/
def bad : AC := .cond (.const (.int .i64 0)) .skip .skip
def compC2 (tt : TT) (n : Nat) : Code → Option AC
 | .region r ops draw => match compC tt n (.region r ops draw) with
  | some x => some x
  | none => some bad
 | .seq a b => match compC2 tt n a, compC2 tt n b with
  | some x, some y => some (.seq x y)
  | _, _ => none
 | .cond c a b => match compC2 tt n a, compC2 tt n b with
  | some x, some y => some (.cond c x y)
  | _, _ => none
 | .block id a => match compC2 tt n a with
  | some x => some (.block id x)
  | none => none
 | .loop a => match compC2 tt n a with
  | some x => some (.loop x)
  | none => none
 | c => compC tt n c
def compF2 (tt : TT) (fn : Func) : Option AF :=
 match fn.body with
 | some c => if fn.name == "runtime.NumGoroutine" then none else match compC2 tt fn.ntmps c, compR tt fn.results.toList with
  | some b, some r => some ⟨fn.ntmps, r, b⟩
  | _, _ => none
 | none => none
section
variable {P : Program} {G : Gl} {n : Nat} {b : Base} {ρ : Nat → Option Nat} {st : St} {a : Act} {w : World} {B : Nat} {tt : TT}
theorem bad_no {N0 : Nat} {Q : Qt} (h : wcode P G N0 bad st Q) : False := h
theorem code_sound2 (htab : tabB P tt = true) (hmix : P.follows .mixedOrders = true) {N0 : Nat} (hb : b.good N0) : ∀ (c : Code) (ac : AC), compC2 tt n c = some ac → ∀ (Q : Qt) (ρ : Nat → Option Nat) (st : St) (a : Act) (w : World), wcode P G N0 ac st Q → Sim P G n b ρ st a w → c.wp P (post P G n b Q) a w := by
 intro c
 induction c with
 | skip =>
  intro ac hc Q ρ st a w h hs
  simp only [compC2, compC, Option.some.injEq] at hc; subst hc
  exact wp_skip ⟨ρ, st, hs, h⟩
 | exit id =>
  intro ac hc Q ρ st a w h hs
  simp only [compC2, compC, Option.some.injEq] at hc; subst hc
  exact wp_exit ⟨ρ, st, hs, h⟩
 | ret =>
  intro ac hc Q ρ st a w h hs
  simp only [compC2, compC, Option.some.injEq] at hc; subst hc
  exact wp_ret ⟨ρ, st, hs, h⟩
 | region id ops draw =>
  intro ac hc Q ρ st a w h hs
  simp only [compC2] at hc
  split at hc
  ·rename_i x hx
   injection hc with hc; subst hc
   exact code_sound htab hmix hb _ _ hx Q ρ st a w h hs
  ·injection hc with hc; subst hc
   exact (bad_no h).elim
 | seq x y ihx ihy =>
  intro ac hc Q ρ st a w h hs
  simp only [compC2] at hc
  split at hc
  ·rename_i x' y' hx hy
   injection hc with hc; subst hc
   refine wp_seq (wp_mono (ihx x' hx _ ρ st a w h hs) ?_)
   intro e a' w' hp
   cases e with
   | normal =>
    obtain ⟨ρ', st', hs', h'⟩ := hp
    exact ihy y' hy Q ρ' st' a' w' h' hs'
   | exit id => exact hp
   | ret => exact hp
   | goto l => exact hp
   | panic ch => exact hp
   | outgrown => exact hp
  ·cases hc
 | cond c x y ihx ihy =>
  intro ac hc Q ρ st a w h hs
  simp only [compC2] at hc
  split at hc
  ·rename_i x' y' hx hy
   injection hc with hc; subst hc
   simp only [wcode] at h
   unfold condP at h
   split at h
   ·rename_i t he
    exact wp_cond_split (ev_val hs he) (fun ht => ihx x' hx Q ρ st a w (h.1 ht) hs) (fun ht => ihy y' hy Q ρ st a w (h.2 ht) hs)
   ·exact h.elim
  ·cases hc
 | block id x ih =>
  intro ac hc Q ρ st a w h hs
  simp only [compC2] at hc
  split at hc
  ·rename_i x' hx
   injection hc with hc; subst hc
   refine wp_block (wp_mono (ih x' hx _ ρ st a w h hs) ?_)
   intro e a' w' hp
   cases e with
   | exit id' =>
    obtain ⟨ρ', st', hs', h'⟩ := hp
    simp only [blockQ] at h'
    simp only [Exit.inBlock]
    split
    ·rename_i e; rw [if_pos e] at h'; exact ⟨ρ', st', hs', h'⟩
    ·rename_i e; rw [if_neg e] at h'; exact ⟨ρ', st', hs', h'⟩
   | normal => exact hp
   | ret => exact hp
   | goto l => exact hp
   | panic ch => exact hp
   | outgrown => exact hp
  ·cases hc
 | loop x ih =>
  intro ac hc Q ρ st a w h hs
  simp only [compC2] at hc
  split at hc
  ·rename_i x' hx
   injection hc with hc; subst hc
   obtain ⟨I, μ, ⟨st1, hw1, hI⟩, hround⟩ := h
   obtain ⟨ρ1, hs1⟩ := hw1 n b ρ a w hb.1 hb.2 hs
   refine wp_loop_rel (fun s a w => I s ∧ ∃ ρ, Sim P G n b ρ s a w) μ (s₀ := st1) ⟨hI, ρ1, hs1⟩ ?_
   intro s a w ⟨hIs, ρs, hss⟩
   refine wp_mono (ih x' hx _ ρs s a w (hround s hIs) hss) ?_
   intro e a' w' hp
   cases e with
   | normal =>
    obtain ⟨ρ', st', hs', st2, hw2, h2, h3⟩ := hp
    obtain ⟨ρ2, hs2⟩ := hw2 n b ρ' a' w' hb.1 hb.2 hs'
    exact ⟨st2, ⟨h2, ρ2, hs2⟩, h3⟩
   | exit id => exact hp
   | ret => exact hp
   | goto l => exact hp
   | panic ch => exact hp
   | outgrown => exact hp
  ·cases hc
 | _ => intro ac hc; simp [compC2, compC] at hc

/-- A function's contract, from its code's precondition. -/
theorem acalls_intro2 (htab : tabB P tt = true) (hmix : P.follows .mixedOrders = true) {f : Nat} {fn : Func} {af : AF} (hf : P.funcs[f]? = some fn) (hc : compF2 tt fn = some af) {args : List V} {H : List O} {R : T → List O → Prop} (hn : Nat.ble args.length af.n = true)
  (h : wcode P G H.length af.body ⟨argSl args, H⟩ (retQ P H.length af.res R)) : ACalls P G f args H R := by
 unfold compF2 at hc
 split at hc
 ·rename_i c hb
  split at hc
  ·cases hc
  ·rename_i hname
   split at hc
   ·rename_i bd rs hbd hrs
    injection hc with hc; subst hc
    refine ⟨⟨fn, hf, by rw [hb]; rfl, by simpa using hname⟩, fun ρ w vs hH hG hv => ?_⟩
    refine calls_of_wp hf hb ?_
    let bs : Base := ⟨stab ρ H w, w, ρ, H.length⟩
    have hle : vs.size ≤ fn.ntmps := by rw [hv.1]; exact Nat.le_of_ble_eq_true hn
    ·have hsim : Sim P G fn.ntmps bs ρ ⟨argSl args, H⟩ { tmps := vs ++ Array.replicate (fn.ntmps - vs.size) undef, defers := [] } w := by
      refine ⟨hH, by simp; omega, rfl, fun t => ?_, hG, .refl _⟩
      show TRel P _ (argSl args t) _
      unfold argSl
      split
      ·rename_i x hx
       have hlt : t < vs.size := by rw [hv.1]; exact lt_of_get hx
       refine hv.2 t x _ hx ?_
       rw [Array.getD_eq_getD_getElem?, Array.getElem?_append, if_pos hlt]
       simp [hlt]
      ·trivial
     have hgood : bs.good H.length := ⟨rfl, fun r x hr => (hH.small r x hr).1⟩
     refine wp_mono (code_sound2 htab hmix hgood c bd hbd _ ρ _ _ w h hsim) ?_
     have fin : ∀ ρ' st' a' w', Sim P G fn.ntmps bs ρ' st' a' w' → (match resL st' rs with | some l => Fin P H.length R (resT l) st'.hp | none => False) →
       a'.defers = [] ∧ ∃ v, (results fn a'.tmps).run P w' = .ok v w' ∧ ∃ v' t ρ'' H', Ending.returned v = .returned v' ∧ R t H' ∧ HRel P ρ'' H' w' ∧ TRel P (ctx ρ'' H' w') t v' ∧ (ctx ρ H w).le (ctx ρ'' H' w') := by
      intro ρ' st' a' w' hs' hfin
      refine ⟨hs'.defers, ?_⟩
      split at hfin
      ·rename_i l hl
       obtain ⟨vs', q1, q2, q3⟩ := res_run htab hs' fn.results.toList rs l hrs hl
       have hrel : TRel P (ctx ρ' st'.hp w') (resT l) (if h : vs'.toArray.size = 1 then vs'.toArray[0] else .tuple vs'.toArray) := by
        unfold resT
        split
        ·rename_i v0
         match vs', q2, q3 with
         | [u], _, q3 => exact q3 0 _ _ rfl rfl
        ·rename_i hne
         have : ¬ vs'.toArray.size = 1 := by
          intro e
          rw [List.size_toArray, q2] at e
          obtain ⟨x, hx⟩ := List.length_eq_one_iff.1 e
          exact hne x hx
         rw [dif_neg this]
         exact ⟨_, rfl, by simpa using q2, fun i c v hi hv => q3 i c v hi (by simpa using hv)⟩
       obtain ⟨t', H', ⟨hN, hw⟩, hR⟩ := hfin
       obtain ⟨ρ'', g1, g2, g3, g4⟩ := hw ρ' w' _ hs'.heap hrel
       refine ⟨_, ?_, _, t', ρ'', H', rfl, hR, g1, g2, fun r x hr => ?_, by simpa [ctx] using hN, hs'.le.step.more g4⟩
       ·unfold results
        rw [Sem.run_bind, Array.mapM_eq_mapM_toList, Sem.run_map]
        erw [q1]
        rfl
       ·show ρ'' r = some x
        rw [g3 r (hH.small r x hr).1]
        exact hs'.le.ρ r x hr
      ·exact hfin.elim
     intro e a' w' hp
     cases e with
     | normal => obtain ⟨ρ', st', hs', h'⟩ := hp; exact fin ρ' st' a' w' hs' h'
     | ret => obtain ⟨ρ', st', hs', h'⟩ := hp; exact fin ρ' st' a' w' hs' h'
     | exit id => obtain ⟨ρ', st', hs', h'⟩ := hp; exact h'.elim
     | goto l => exact hp.elim
     | panic ch => exact hp.elim
     | outgrown => exact hp.elim
   ·cases hc
 ·cases hc


/-- The function's code, the regions that it was given well formed. -/
theorem acalls_pre2 {tt : TT} (htab : tabB P tt = true) (hmix : P.follows .mixedOrders = true) {f : Nat} {fn : Func} {af : AF} (hf : P.funcs[f]? = some fn) (hc : compF2 tt fn = some af) {args : List V} {H : List O} {R : T → List O → Prop} (hn : Nat.ble args.length af.n = true)
  (h : Wf H → wcode P G H.length af.body ⟨argSl args, H⟩ (retQ P H.length af.res R)) : ACalls P G f args H R := by
 have hcal : Callable P f := by
  have hc' := hc
  unfold compF2 at hc'
  split at hc'
  ·rename_i c hb
   split at hc'
   ·cases hc'
   ·rename_i hname
    exact ⟨fn, hf, by rw [hb]; rfl, by simpa using hname⟩
  ·cases hc'
 exact ⟨hcal, fun ρ w vs hH => (acalls_intro2 htab hmix hf hc hn (h (wf_of hH))).2 ρ w vs hH⟩
theorem acallsX2 {X : XT} (hX : GoodX P G X) (htab : tabB P tt = true) (hmix : P.follows .mixedOrders = true) {f : Nat} {fn : Func} {af : AF} (hf : P.funcs[f]? = some fn) (hc : compF2 tt fn = some af) {args : List V} {H : List O} {R : T → List O → Prop} (hn : Nat.ble args.length af.n = true)
  (h : Wf H → wcodeX P G X H.length af.body ⟨argSl args, H⟩ (retQ P H.length af.res R)) : ACalls P G f args H R :=
 acalls_pre2 htab hmix hf hc hn fun hw => wcodeX_sound hX (h hw)

end
end Go.Aw

namespace Go.Aw.Try
open Go Go.Proofs Go.Aw
set_option maxRecDepth 100000
set_option maxHeartbeats 4000000
/-- slices.Min[[]int,int] -/
def b70 : AC := (.seq (.region 0 [
  ⟨(some 2), (.mov (.const (.int .i64 0))), none⟩])
 (.seq (.seq (.region 0 [
  ⟨(some 5), (.mov (.tmp 0)), none⟩,
  ⟨(some 6), (.lenL (.tmp 5)), none⟩,
  ⟨(some 7), (.binI .lss .i64 (.tmp 6) (.const (.int .i64 1))), none⟩])
 (.cond (.tmp 7) (.cond (.const (.int .i64 0)) .skip .skip) .skip))
 (.seq (.region 0 [
  ⟨(some 9), (.mov (.tmp 0)), none⟩,
  ⟨(some 10), (.iaddr 1 (.tmp 9) (.const (.int .i64 0))), none⟩,
  ⟨(some 11), (.load false 1 (.tmp 10)), none⟩,
  ⟨(some 3), (.mov (.tmp 11)), none⟩])
 (.seq (.seq (.region 0 [
  ⟨(some 4), (.mov (.const (.int .i64 1))), none⟩])
 (.block 0 (.loop (.seq (.seq (.region 0 [
  ⟨(some 12), (.mov (.tmp 4)), none⟩,
  ⟨(some 13), (.mov (.tmp 0)), none⟩,
  ⟨(some 14), (.lenL (.tmp 13)), none⟩,
  ⟨(some 15), (.binI .lss .i64 (.tmp 12) (.tmp 14)), none⟩])
 (.cond (.tmp 15) .skip (.exit 0)))
 (.seq (.block 1 (.region 0 [
  ⟨(some 18), (.mov (.tmp 3)), none⟩,
  ⟨(some 19), (.mov (.tmp 0)), none⟩,
  ⟨(some 20), (.mov (.tmp 4)), none⟩,
  ⟨(some 21), (.iaddr 1 (.tmp 19) (.tmp 20)), none⟩,
  ⟨(some 22), (.load false 1 (.tmp 21)), none⟩,
  ⟨(some 23), (.maxmin false .i64 (.tmp 18) (.tmp 22)), none⟩,
  ⟨(some 3), (.mov (.tmp 23)), none⟩]))
 (.region 0 [
  ⟨(some 16), (.mov (.tmp 4)), none⟩,
  ⟨(some 17), (.binI .add .i64 (.tmp 16) (.const (.int .i64 1))), none⟩,
  ⟨(some 4), (.mov (.tmp 17)), none⟩]))))))
 (.seq (.region 0 [
  ⟨(some 24), (.mov (.tmp 3)), none⟩,
  ⟨(some 2), (.mov (.tmp 24)), none⟩])
 .ret)))))
def ir70 : AF := ⟨25, [(.tmp 2)], b70⟩
theorem c70 : compF2 tt Tryz.f91 = some ir70 := by kernel_rfl
def minI (a b : Int) : Int := if b < a then b else a
def minL : List Int → Int
 | [] => 0
 | x :: l => l.foldl minI x
theorem k70 (l : List Int) (hl : l.length < 68719476736) (h0 : l ≠ []) :
  ACalls Tryz.prog G0 91 [.c (.d (.sl (l.map irow)))] [] fun t H => t = .int .i64 (minL l) ∧ H = [] := by
 refine acallsX2 (X := []) trivial tab hmix Tryz.func91 c70 (by rfl) fun hw => ?_
 have hpos : 0 < l.length := List.length_pos_iff.2 h0
 have hn' : ¬ ((l.length : Int) < 1) := by omega
 have hz : nth (l.map irow) 0 = [.v (.int .i64 (nth l 0))] := nth_map irow hpos
 have ht1 : minL (l.take 1) = nth l 0 := by
  cases l with
  | nil => exact absurd rfl h0
  | cons x r => rfl
 simp (implicitDefEqProofs := false) (disch := omega) [gz, ir70, b70, hn', hz, hpos, wrap64]
 refine loopE (fun k st => ∃ (i : Nat), 1 ≤ i ∧ i ≤ l.length ∧ k = l.length - i ∧
   st = ⟨ofL [(0, .v (.c (.d (.sl (l.map irow))))), (3, .int .i64 (minL (l.take i))), (4, .int .i64 i)], []⟩)
  (fun st => AtS [(3, .int .i64 (minL l))] [] st) ?_ ?_ ?_
 ·refine wk_keep [0, 3, 4] ⟨_, 1, by omega, hpos, rfl, ?_⟩
  simp [ht1]
 ·rintro J L hJ hL k st ⟨i, h1, hi, rfl, rfl⟩
  by_cases hlt : i < l.length
  ·have hst : minL (l.take (i + 1)) = minI (minL (l.take i)) (nth l i) := by
    obtain ⟨j, rfl⟩ : ∃ j, i = j + 1 := ⟨i - 1, by omega⟩
    rw [take_nth hlt]
    cases l with
    | nil => exact absurd rfl h0
    | cons x r => rw [List.take_succ_cons]; simp [minL]
   obtain ⟨y, hy⟩ : ∃ y, nth l i = y := ⟨_, rfl⟩
   rw [hy] at hst
   by_cases h2 : y < minL (l.take i)
   ·have hm : minI (minL (l.take i)) y = y := by simp [minI, h2]
    simp (implicitDefEqProofs := false) (disch := omega) [gz, hlt, nth_map, hy, irow, h2, wrap64]
    subst hJ
    refine wk_keep [0, 3, 4] ⟨l.length - (i + 1), by omega, i + 1, by omega, by omega, rfl, ?_⟩
    rw [hst, hm]; simp [irow]
   ·have hm : minI (minL (l.take i)) y = minL (l.take i) := by simp [minI, h2]
    simp (implicitDefEqProofs := false) (disch := omega) [gz, hlt, nth_map, hy, irow, h2, wrap64]
    subst hJ
    refine wk_keep [0, 3, 4] ⟨l.length - (i + 1), by omega, i + 1, by omega, by omega, rfl, ?_⟩
    rw [hst, hm]; simp [irow]
  ·have : i = l.length := by omega
   subst this
   simp (implicitDefEqProofs := false) (disch := omega) [gz, hlt]
   subst hL
   exact at_mk (by simp) rfl
 ·rintro _ ⟨sl, rfl⟩
  simp (implicitDefEqProofs := false) (disch := omega) [gz, wrap64]
  exact fin_nil ⟨rfl, rfl⟩
noncomputable def x70 : XE := mkX true (fun (p : List Int) => [.c (.sl (p.map irow))]) (fun p => p.length < 68719476736 ∧ p ≠ []) (fun p => .int .i64 (minL p))
theorem irow_inj {a b : Int} (h : irow a = irow b) : a = b := by simpa [irow] using h
theorem kx70 : Contract Tryz.prog G0 91 x70 := mkX_scal (fun _ => rfl) fun p h => k70 p h.1 h.2
theorem xg70 (l : List Int) (h : l.length < 68719476736) (h0 : l ≠ []) : x70.g [.c (.sl (l.map irow))] = some (True, .int .i64 (minL l)) := mkX_g (fun a b h => by simp at h; exact map_inj' (fun a b => irow_inj) h) l ⟨h, h0⟩
end Go.Aw.Try

namespace Go.Aw.Try
open Go Go.Proofs Go.Aw
set_option maxRecDepth 100000
set_option maxHeartbeats 4000000
theorem k96 (pr : Cutoff → Bool) (g : Nat) (cps : List (List D)) (xg : XE) (hx : Contract Tryz.prog G0 g xg) (hsc : xg.sc = true)
  (hxg : ∀ e, xg.g (.agg (Cutoff.row e) :: cps.map fun cs => .c (.ip cs)) = some (True, .bool (pr e))) (es : List Cutoff) (hl : es.length < 4611686018427387904) :
  ACalls Tryz.prog G0 151 [.c (.d (.sl (es.map Cutoff.row))), .c (.d (.fn g (cps.map .ip)))] [] fun t H => t = .int .i64 (idxF pr 0 es) ∧ H = [] := by
 refine acallsX (X := [(g, xg)]) ⟨hx, trivial⟩ tab hmix Tryz.func151 c96 (by rfl) fun hw => ?_
 simp (implicitDefEqProofs := false) (disch := omega) [gz, ir96, b96, wrap64]
 refine loopG (fun k s => ∃ i, i ≤ es.length ∧ k = es.length - i ∧ idxF pr 0 es = idxF pr i (es.drop i) ∧
  s = ⟨ofL [(0, .v (.c (.d (.sl (es.map Cutoff.row))))), (1, .v (.c (.d (.fn g (cps.map .ip))))), (7, .int .i64 es.length), (8, .int .i64 i)], []⟩) ?_ ?_
 ·refine wk_keep [0, 1, 7, 8] ⟨_, 0, by omega, rfl, rfl, ?_⟩
  simp
 ·rintro J hJ k s ⟨i, hi, rfl, hid, rfl⟩
  by_cases hlt : i < es.length
  ·have hst := idxF_step pr hlt
   simp (implicitDefEqProofs := false) (disch := omega) [gz, hlt, wrap64, nth_map, (crow _).len, take_of_len, (crow _).mapO, (crow _).tk, (crow _).nrm, borRow, (crow _).cl, borV_map, osR_map, frz_map, mapO_ipc, hsc, hxg]
   refine ⟨fun h => ?_, fun h => ?_⟩
   ·rw [if_pos h] at hst
    exact fin_nil ⟨by rw [hid, hst]; rfl, rfl⟩
   ·rw [if_neg (by simp [h])] at hst
    subst hJ
    refine wk_keep [0, 1, 7, 8] ⟨es.length - (i + 1), by omega, i + 1, by omega, rfl, by rw [hid, hst], ?_⟩
    simp
  ·simp (implicitDefEqProofs := false) (disch := omega) [gz, hlt]
   rw [hid, List.drop_eq_nil_of_le (by omega)]
   exact fin_nil ⟨rfl, rfl⟩
def pr81 (m : Member) (c : Cutoff) : Bool := decide (c.err = 22) && decide (c.who = m.name)
theorem k81 (c : Cutoff) (m : Member) : ACalls Tryz.prog G0 126 [.agg (c.row.map .d), .c (.d (.ip m.row))] [] fun t H => t = .bool (pr81 m c) ∧ H = [] := by
 refine acallsX (X := []) trivial tab hmix Tryz.func126 c81 (by rfl) fun hw => ?_
 have hce : c.row = [.v (.string c.who), .v (.int .i64 c.n), .v (.int .i64 c.err)] := rfl
 have hme : m.row = [.v (.string m.name), .v (.string m.key)] := rfl
 unfold pr81
 by_cases h1 : c.err = 22
 ·by_cases h2 : c.who = m.name
  ·simp (implicitDefEqProofs := false) (disch := omega) [gz, ir81, b81, hce, hme, h1, h2, binSF]
   exact fin_nil ⟨rfl, rfl⟩
  ·simp (implicitDefEqProofs := false) (disch := omega) [gz, ir81, b81, hce, hme, h1, h2, binSF]
   exact fin_nil ⟨rfl, rfl⟩
 ·simp (implicitDefEqProofs := false) (disch := omega) [gz, ir81, b81, hce, hme, h1, binSF]
  exact fin_nil ⟨rfl, rfl⟩
noncomputable def x81 (m : Member) : XE := mkX true (fun (c : Cutoff) => [.agg c.row, .c (.ip m.row)]) (fun _ => True) (fun c => .bool (pr81 m c))
theorem kx81 (m : Member) : Contract Tryz.prog G0 126 (x81 m) := mkX_scal (fun _ => rfl) fun c _ => k81 c m
theorem xg81 (m : Member) (c : Cutoff) : (x81 m).g (.agg c.row :: [m.row].map fun cs => .c (.ip cs)) = some (True, .bool (pr81 m c)) := mkX_g (fun a b h => by simp at h; exact Cutoff.row_inj h) c trivial
noncomputable def x96 : XE := mkX true (fun (p : List Cutoff × Member) => [.c (.sl (p.1.map Cutoff.row)), .c (.fn 126 [.ip p.2.row])]) (fun p => p.1.length < 68719476736) (fun p => .int .i64 (idxF (pr81 p.2) 0 p.1))
theorem injCM (a b : List Cutoff × Member) (h : [PVo.c (D.sl (a.1.map Cutoff.row)), PVo.c (.fn 126 [.ip a.2.row])] = [PVo.c (.sl (b.1.map Cutoff.row)), .c (.fn 126 [.ip b.2.row])]) : a = b := by
 simp at h; exact Prod.ext (crows_inj h.1) (mrow_inj h.2)
theorem kx96 : Contract Tryz.prog G0 151 x96 := mkX_scal (fun _ => rfl) fun p h => k96 (pr81 p.2) 126 [p.2.row] (x81 p.2) (kx81 _) rfl (xg81 _) p.1 (by omega)
theorem xg96 (cuts : List Cutoff) (m : Member) (h : cuts.length < 68719476736) : x96.g [.c (.sl (cuts.map Cutoff.row)), .c (.fn 126 [.ip m.row])] = some (True, .int .i64 (idxF (pr81 m) 0 cuts)) := mkX_g injCM (cuts, m) h
theorem k80 (cuts : List Cutoff) (m : Member) (hc : cuts.length < 68719476736) : ACalls Tryz.prog G0 125 [.c (.d (.sl (cuts.map Cutoff.row))), .c (.d (.fn 126 [.ip m.row]))] [] fun t H => t = .bool (goneBy cuts m.name) ∧ H = [] := by
 have h96 : x96.sc = true := rfl
 have g96 := xg96 cuts m hc
 refine acallsX (X := [(151, x96)]) ⟨kx96, trivial⟩ tab hmix Tryz.func125 c80 (by rfl) fun hw => ?_
 have ha := idxF_any (pr81 m) cuts 0
 have hg : cuts.any (pr81 m) = goneBy cuts m.name := rfl
 rw [hg] at ha
 by_cases h : 0 ≤ idxF (pr81 m) 0 cuts
 ·rw [ha.1 h]
  simp (implicitDefEqProofs := false) (disch := omega) [gz, ir80, b80, h96, g96, h]
  exact fin_nil ⟨rfl, rfl⟩
 ·have : goneBy cuts m.name = false := by
   cases hb : goneBy cuts m.name
   ·rfl
   ·exact absurd (ha.2 hb) h
  rw [this]
  simp (implicitDefEqProofs := false) (disch := omega) [gz, ir80, b80, h96, g96, h]
  exact fin_nil ⟨rfl, rfl⟩
noncomputable def x80 : XE := mkX true (fun (p : List Cutoff × Member) => [.c (.sl (p.1.map Cutoff.row)), .c (.fn 126 [.ip p.2.row])]) (fun p => p.1.length < 68719476736) (fun p => .bool (goneBy p.1 p.2.name))
theorem kx80 : Contract Tryz.prog G0 125 x80 := mkX_scal (fun _ => rfl) fun p h => k80 p.1 p.2 h
theorem xg80 (cuts : List Cutoff) (m : Member) (h : cuts.length < 68719476736) : x80.g [.c (.sl (cuts.map Cutoff.row)), .c (.fn 126 [.ip m.row])] = some (True, .bool (goneBy cuts m.name)) := mkX_g injCM (cuts, m) h
theorem k67 (m : Member) (cuts : List Cutoff) (hc : cuts.length < 68719476736) : ACalls Tryz.prog G0 88 [.agg (m.row.map .d), .c (.d (.sl (cuts.map Cutoff.row)))] [] fun t H => t = .bool (goneBy cuts m.name) ∧ H = [] := by
 have h80 : x80.sc = true := rfl
 have g80 := xg80 cuts m hc
 refine acallsX (X := [(125, x80)]) ⟨kx80, trivial⟩ tab hmix Tryz.func88 c67 (by rfl) fun hw => ?_
 have hme : m.row = [.v (.string m.name), .v (.string m.key)] := rfl
 rw [hme] at g80 ⊢
 simp (implicitDefEqProofs := false) (disch := omega) [gz, ir67, b67, h80, g80]
 exact fin_nil ⟨rfl, rfl⟩
noncomputable def x67 : XE := mkX true (fun (p : Member × List Cutoff) => [.agg p.1.row, .c (.sl (p.2.map Cutoff.row))]) (fun p => p.2.length < 68719476736) (fun p => .bool (goneBy p.2 p.1.name))
theorem kx67 : Contract Tryz.prog G0 88 x67 := mkX_scal (fun _ => rfl) fun p h => k67 p.1 p.2 h
theorem xg67 (m : Member) (cuts : List Cutoff) (h : cuts.length < 68719476736) : x67.g [.agg m.row, .c (.sl (cuts.map Cutoff.row))] = some (True, .bool (goneBy cuts m.name)) := mkX_g (fun a b h => by simp at h; exact Prod.ext (mrow_inj h.1) (crows_inj h.2)) (m, cuts) h
end Go.Aw.Try

namespace Go.Aw.Try
open Go Go.Proofs Go.Aw
set_option maxRecDepth 100000
set_option maxHeartbeats 4000000
def pr83 (c : Cutoff) (e : Edit) : Bool := decide (e.id.a = c.who) && decide (c.n ≤ e.id.n)
theorem k83 (e : Edit) (c : Cutoff) : ACalls Tryz.prog G0 127 [.agg (e.row.map .d), .c (.d (.ip c.row))] [] fun t H => t = .bool (pr83 c e) ∧ H = [] := by
 refine acallsX (X := []) trivial tab hmix Tryz.func127 c83 (by rfl) fun hw => ?_
 have hce : c.row = [.v (.string c.who), .v (.int .i64 c.n), .v (.int .i64 c.err)] := rfl
 have hee := Edit.row_eq e
 unfold pr83
 by_cases h1 : e.id.a = c.who
 ·by_cases h2 : c.n ≤ e.id.n
  ·simp (implicitDefEqProofs := false) (disch := omega) [gz, ir83, b83, hce, hee, h1, h2, binSF]
   exact fin_nil ⟨rfl, rfl⟩
  ·simp (implicitDefEqProofs := false) (disch := omega) [gz, ir83, b83, hce, hee, h1, h2, binSF]
   exact fin_nil ⟨rfl, rfl⟩
 ·simp (implicitDefEqProofs := false) (disch := omega) [gz, ir83, b83, hce, hee, h1, binSF]
  exact fin_nil ⟨rfl, rfl⟩
noncomputable def x83 (c : Cutoff) : XE := mkX true (fun (e : Edit) => [.agg e.row, .c (.ip c.row)]) (fun _ => True) (fun e => .bool (pr83 c e))
theorem kx83 (c : Cutoff) : Contract Tryz.prog G0 127 (x83 c) := mkX_scal (fun _ => rfl) fun e _ => k83 e c
theorem xg83 (c : Cutoff) (e : Edit) : (x83 c).g (.agg e.row :: [c.row].map fun cs => .c (.ip cs)) = some (True, .bool (pr83 c e)) := mkX_g (fun a b h => by simp at h; exact Edit.row_inj h) e trivial
theorem injFK (k : Nat) (a b : List Edit × Cutoff) (h : [PVo.c (D.sl (a.1.map Edit.row)), PVo.c (.fn k [.ip a.2.row])] = [PVo.c (.sl (b.1.map Edit.row)), .c (.fn k [.ip b.2.row])]) : a = b := by
 simp at h; exact Prod.ext (rows_inj h.1) (Cutoff.row_inj h.2)
noncomputable def x60w : XE := mkX true (fun (p : List Edit × Cutoff) => [.c (.sl (p.1.map Edit.row)), .c (.fn 127 [.ip p.2.row])]) (fun p => p.1.length < 68719476736) (fun p => .int .i64 (idxF (pr83 p.2) 0 p.1))
theorem kx60w : Contract Tryz.prog G0 116 x60w := mkX_scal (fun _ => rfl) fun p h => k60 Edit.row erow (pr83 p.2) 127 [p.2.row] (x83 p.2) (kx83 _) rfl (xg83 _) p.1 (by omega)
theorem xg60w (l : List Edit) (c : Cutoff) (h : l.length < 68719476736) : x60w.g [.c (.sl (l.map Edit.row)), .c (.fn 127 [.ip c.row])] = some (True, .int .i64 (idxF (pr83 c) 0 l)) := mkX_g (injFK 127) (l, c) h
theorem k82 (l : List Edit) (c : Cutoff) (hl : l.length < 68719476736) : ACalls Tryz.prog G0 73 [.c (.d (.sl (l.map Edit.row))), .c (.d (.fn 127 [.ip c.row]))] [] fun t H => t = .bool (wholeR l c) ∧ H = [] := by
 have h60 : x60w.sc = true := rfl
 have g60 := xg60w l c hl
 refine acallsX (X := [(116, x60w)]) ⟨kx60w, trivial⟩ tab hmix Tryz.func73 c82 (by rfl) fun hw => ?_
 have ha := idxF_any (pr83 c) l 0
 have hg : l.any (pr83 c) = wholeR l c := rfl
 rw [hg] at ha
 by_cases h : 0 ≤ idxF (pr83 c) 0 l
 ·rw [ha.1 h]
  simp (implicitDefEqProofs := false) (disch := omega) [gz, ir82, b82, h60, g60, h]
  exact fin_nil ⟨rfl, rfl⟩
 ·have : wholeR l c = false := by
   cases hb : wholeR l c
   ·rfl
   ·exact absurd (ha.2 hb) h
  rw [this]
  simp (implicitDefEqProofs := false) (disch := omega) [gz, ir82, b82, h60, g60, h]
  exact fin_nil ⟨rfl, rfl⟩
noncomputable def x82 : XE := mkX true (fun (p : List Edit × Cutoff) => [.c (.sl (p.1.map Edit.row)), .c (.fn 127 [.ip p.2.row])]) (fun p => p.1.length < 68719476736) (fun p => .bool (wholeR p.1 p.2))
theorem kx82 : Contract Tryz.prog G0 73 x82 := mkX_scal (fun _ => rfl) fun p h => k82 p.1 p.2 h
theorem xg82 (l : List Edit) (c : Cutoff) (h : l.length < 68719476736) : x82.g [.c (.sl (l.map Edit.row)), .c (.fn 127 [.ip c.row])] = some (True, .bool (wholeR l c)) := mkX_g (injFK 127) (l, c) h
theorem k68 (l : List Edit) (c : Cutoff) (hl : l.length < 68719476736) : ACalls Tryz.prog G0 89 [.c (.d (.sl (l.map Edit.row))), .agg (c.row.map .d)] [] fun t H => t = .bool (wholeR l c || decide (c.n = 0)) ∧ H = [] := by
 have h82 : x82.sc = true := rfl
 have g82 := xg82 l c hl
 refine acallsX (X := [(73, x82)]) ⟨kx82, trivial⟩ tab hmix Tryz.func89 c68 (by rfl) fun hw => ?_
 have hce : c.row = [.v (.string c.who), .v (.int .i64 c.n), .v (.int .i64 c.err)] := rfl
 rw [hce] at g82 ⊢
 by_cases h1 : c.n = 0
 ·simp (implicitDefEqProofs := false) (disch := omega) [gz, ir68, b68, h82, h1]
  exact fin_nil ⟨by simp, rfl⟩
 ·simp (implicitDefEqProofs := false) (disch := omega) [gz, ir68, b68, h82, g82, h1]
  exact fin_nil ⟨by simp, rfl⟩
theorem kx68 : Contract Tryz.prog G0 89 x72 := mkX_scal (fun _ => rfl) fun p h => k68 p.1 p.2 h
def pr61 (x : Id) (e : Edit) : Bool := decide (e.id.a = x.a ∧ e.id.n = x.n)
theorem k61 (e : Edit) (x : Id) : ACalls Tryz.prog G0 152 [.agg (e.row.map .d), .c (.d (.ip x.row))] [] fun t H => t = .bool (pr61 x e) ∧ H = [] := by
 refine acallsX (X := []) trivial tab hmix Tryz.func152 c61 (by rfl) fun hw => ?_
 have hxe : x.row = [.v (.string x.a), .v (.int .i64 x.n)] := rfl
 have hee := Edit.row_eq e
 unfold pr61
 by_cases h1 : e.id.a = x.a
 ·by_cases h2 : e.id.n = x.n
  ·simp (implicitDefEqProofs := false) (disch := omega) [gz, ir61, b61, hxe, hee, h1, h2, cellsEq, skEq]
   exact fin_nil ⟨rfl, rfl⟩
  ·simp (implicitDefEqProofs := false) (disch := omega) [gz, ir61, b61, hxe, hee, h1, h2, cellsEq, skEq]
   exact fin_nil ⟨rfl, rfl⟩
 ·simp (implicitDefEqProofs := false) (disch := omega) [gz, ir61, b61, hxe, hee, h1, cellsEq, skEq]
  exact fin_nil ⟨rfl, rfl⟩
theorem idr_inj {a b : Id} (h : a.row = b.row) : a = b := by
 cases a; cases b; simp [Id.row] at h; obtain ⟨rfl, rfl⟩ := h; rfl
noncomputable def x61 (x : Id) : XE := mkX true (fun (e : Edit) => [.agg e.row, .c (.ip x.row)]) (fun _ => True) (fun e => .bool (pr61 x e))
theorem kx61 (x : Id) : Contract Tryz.prog G0 152 (x61 x) := mkX_scal (fun _ => rfl) fun e _ => k61 e x
theorem xg61 (x : Id) (e : Edit) : (x61 x).g (.agg e.row :: [x.row].map fun cs => .c (.ip cs)) = some (True, .bool (pr61 x e)) := mkX_g (fun a b h => by simp at h; exact Edit.row_inj h) e trivial
theorem injFI (k : Nat) (a b : List Edit × Id) (h : [PVo.c (D.sl (a.1.map Edit.row)), PVo.c (.fn k [.ip a.2.row])] = [PVo.c (.sl (b.1.map Edit.row)), .c (.fn k [.ip b.2.row])]) : a = b := by
 simp at h; exact Prod.ext (rows_inj h.1) (idr_inj h.2)
noncomputable def x60f : XE := mkX true (fun (p : List Edit × Id) => [.c (.sl (p.1.map Edit.row)), .c (.fn 152 [.ip p.2.row])]) (fun p => p.1.length < 68719476736) (fun p => .int .i64 (idxF (pr61 p.2) 0 p.1))
theorem kx60f : Contract Tryz.prog G0 116 x60f := mkX_scal (fun _ => rfl) fun p h => k60 Edit.row erow (pr61 p.2) 152 [p.2.row] (x61 p.2) (kx61 _) rfl (xg61 _) p.1 (by omega)
theorem xg60f (l : List Edit) (c : Id) (h : l.length < 68719476736) : x60f.g [.c (.sl (l.map Edit.row)), .c (.fn 152 [.ip c.row])] = some (True, .int .i64 (idxF (pr61 c) 0 l)) := mkX_g (injFI 152) (l, c) h
/-- The index of the edit with that id, 0 if there is none. -/
def findI (l : List Edit) (x : Id) : Int := if idxF (pr61 x) 0 l < 0 then 0 else idxF (pr61 x) 0 l
def findT (l : List Edit) (x : Id) : T := .tup [I (findI l x), .c (.d (.v (.bool (decide (0 ≤ idxF (pr61 x) 0 l)))))]
theorem k35 (l : List Edit) (x : Id) (hl : l.length < 68719476736) : ACalls Tryz.prog G0 128 [.c (.d (.sl (l.map Edit.row))), .agg (x.row.map .d)] [] fun t H => t = findT l x ∧ H = [] := by
 have h60 : x60f.sc = true := rfl
 have g60 := xg60f l x hl
 refine acallsX (X := [(116, x60f)]) ⟨kx60f, trivial⟩ tab hmix Tryz.func128 c35 (by rfl) fun hw => ?_
 have hxe : x.row = [.v (.string x.a), .v (.int .i64 x.n)] := rfl
 rw [hxe] at g60 ⊢
 by_cases h1 : idxF (pr61 x) 0 l < 0
 ·have h2 : ¬ 0 ≤ idxF (pr61 x) 0 l := by omega
  simp (implicitDefEqProofs := false) (disch := omega) [gz, ir35, b35, h60, g60, h1, h2]
  exact fin_nil ⟨by simp [findT, findI, h1, h2], rfl⟩
 ·have h2 : 0 ≤ idxF (pr61 x) 0 l := by omega
  simp (implicitDefEqProofs := false) (disch := omega) [gz, ir35, b35, h60, g60, h1, h2]
  exact fin_nil ⟨by simp [findT, findI, h1, h2], rfl⟩
theorem injLI (a b : List Edit × Id) (h : [PVo.c (D.sl (a.1.map Edit.row)), PVo.agg a.2.row] = [PVo.c (.sl (b.1.map Edit.row)), .agg b.2.row]) : a = b := by
 simp at h; exact Prod.ext (rows_inj h.1) (idr_inj h.2)
noncomputable def x35 : XE := mkX true (fun (p : List Edit × Id) => [.c (.sl (p.1.map Edit.row)), .agg p.2.row]) (fun p => p.1.length < 68719476736) (fun p => findT p.1 p.2)
theorem kx35 : Contract Tryz.prog G0 128 x35 := mkX_scal (fun _ => rfl) fun p h => k35 p.1 p.2 h
theorem xg35 (l : List Edit) (x : Id) (h : l.length < 68719476736) : x35.g [.c (.sl (l.map Edit.row)), .agg x.row] = some (True, findT l x) := mkX_g injLI (l, x) h
theorem k69 (l : List Edit) (c : Cutoff) (hl : l.length < 68719476736) : ACalls Tryz.prog G0 90 [.c (.d (.sl (l.map Edit.row))), .agg (c.row.map .d)] [] fun t H => t = .int .i64 (backE l c) ∧ H = [] := by
 have h35 : x35.sc = true := rfl
 have g35 : x35.g [.c (.sl (l.map Edit.row)), .agg [.v (.string c.who), .v (.int .i64 c.n)]] = some (True, findT l (Id.ofC c)) := xg35 l (Id.ofC c) hl
 refine acallsX (X := [(128, x35)]) ⟨kx35, trivial⟩ tab hmix Tryz.func90 c69 (by rfl) fun hw => ?_
 have hce : c.row = [.v (.string c.who), .v (.int .i64 c.n), .v (.int .i64 c.err)] := rfl
 rw [hce]
 have hb : backE l c = match l.find? (pr61 (Id.ofC c)) with | some e => e.clock | none => 0 := rfl
 unfold findT findI at g35
 rcases idxF_find (pr61 (Id.ofC c)) l 0 with ⟨h1, h2⟩ | ⟨i, h1, h2, h3⟩
 ·rw [h2] at hb
  have h4 : ¬ 0 ≤ idxF (pr61 (Id.ofC c)) 0 l := by omega
  simp only [h1, h4, if_true, decide_false] at g35
  simp (implicitDefEqProofs := false) (disch := omega) [gz, ir69, b69, h35, g35, fillC, splice]
  repeat' apply And.intro
  all_goals first | omega | kernel_rfl | skip
  exact fin_nil ⟨by rw [hb]; rfl, rfl⟩
 ·rw [h3] at hb
  rw [Nat.zero_add] at h1
  rw [h1] at g35
  have h4 : ¬ ((i : Int) < 0) := by omega
  have h5 : (0 : Int) ≤ i := by omega
  simp only [h4, h5, if_false, decide_true] at g35
  obtain ⟨e, he⟩ : ∃ e, nth l i = e := ⟨_, rfl⟩
  rw [he] at hb
  have hee := Edit.row_eq e
  simp (implicitDefEqProofs := false) (disch := omega) [gz, ir69, b69, h35, g35, fillC, splice, nth_map, he, hee, h2]
  repeat' apply And.intro
  all_goals first | omega | kernel_rfl | skip
  exact fin_nil ⟨by rw [hb]; rfl, rfl⟩
theorem kx69 : Contract Tryz.prog G0 90 x73 := mkX_scal (fun _ => rfl) fun p h => k69 p.1 p.2 h
end Go.Aw.Try

namespace Go.Aw.Try
open Go Go.Proofs Go.Aw
set_option maxRecDepth 100000
set_option maxHeartbeats 4000000
/-- What is known of the members that stay. -/
def stay (f : Member → Int) (all : List Member) (cuts : List Cutoff) : List Int := (all.filter fun m => !goneBy cuts m.name).map f
def badC (l : List Edit) (c : Cutoff) : Bool := decide (c.err = 22) && !(wholeR l c || decide (c.n = 0))
def backs (l : List Edit) (cuts : List Cutoff) : List Int := (cuts.filter fun c => decide (c.err = 19)).map (backE l)
def leastE (f : Member → Int) (l : List Edit) (all : List Member) (cuts : List Cutoff) : Int :=
 if stay f all cuts = [] then 0 else if cuts.any (badC l) = true then 0 else minL (stay f all cuts ++ backs l cuts)
theorem stay_len (f : Member → Int) (all : List Member) (cuts : List Cutoff) : (stay f all cuts).length ≤ all.length := by
 unfold stay; rw [List.length_map]; exact List.length_filter_le _ _
theorem backs_len (l : List Edit) (cuts : List Cutoff) : (backs l cuts).length ≤ cuts.length := by
 unfold backs; rw [List.length_map]; exact List.length_filter_le _ _
theorem take_any {α : Type} [Inhabited α] (p : α → Bool) {l : List α} {i : Nat} (h : i < l.length) : (l.take (i + 1)).any p = ((l.take i).any p || p (nth l i)) := by
 rw [take_nth h, List.any_append]; simp
theorem any_of_nth {α : Type} [Inhabited α] {p : α → Bool} {l : List α} {i : Nat} (h : i < l.length) (hp : p (nth l i) = true) : l.any p = true :=
 List.any_eq_true.2 ⟨_, nth_mem h, hp⟩
theorem k55 (f : Member → Int) (l : List Edit) (all : List Member) (cuts : List Cutoff) (of : List Int) (hof : of = all.map f) (hl : l.length < 68719476736) (ha : all.length < 34359738368) (hc : cuts.length < 34359738368) :
  ACalls Tryz.prog G0 51 [.c (.d (.sl (l.map Edit.row))), .c (.d (.sl (all.map Member.row))), .c (.d (.sl (cuts.map Cutoff.row))), .c (.d (.sl (of.map irow)))] [] fun t H => t = .int .i64 (leastE f l all cuts) ∧ H = [] := by
 have h67 : x67.sc = true := rfl
 have h68 : x72.sc = true := rfl
 have h69 : x73.sc = true := rfl
 have h70 : x70.sc = true := rfl
 have ofl : of.length = all.length := by rw [hof]; simp
 refine acallsX (X := [(88, x67), (89, x72), (90, x73), (91, x70)]) ⟨kx67, kx68, kx69, kx70, trivial⟩ tab hmix Tryz.func51 c55 (by rfl) fun hw => ?_
 simp (implicitDefEqProofs := false) (disch := omega) [gz, ir55, b55, b55_0, b55_1, b55_2, wrap64]
 refine loopE (fun k s => ∃ (i : Nat) (A : List Int), i ≤ all.length ∧ k = all.length - i ∧ A = stay f (all.take i) cuts ∧ A.length ≤ i ∧
   s = ⟨ofL [(0, .v (.c (.d (.sl (l.map Edit.row))))), (2, .v (.c (.d (.sl (cuts.map Cutoff.row))))), (3, .v (.c (.d (.sl (of.map irow))))), (9, .v (.c (.os 0 1 0 A.length))), (14, .v (.c (.d (.sl (all.map Member.row))))), (15, .int .i64 all.length), (16, .int .i64 i)],
    [.row 1 (A.map irow)]⟩)
  (fun s => AtS [(0, .v (.c (.d (.sl (l.map Edit.row))))), (2, .v (.c (.d (.sl (cuts.map Cutoff.row))))), (9, .v (.c (.os 0 1 0 (stay f all cuts).length)))] [.row 1 ((stay f all cuts).map irow)] s) ?_ ?_ ?_
 ·refine wk_nil_os 9 1 (by omega) (by simp) ?_
  refine wk_keep [0, 2, 3, 9, 14, 15, 16] ⟨_, 0, [], by omega, rfl, rfl, by simp, ?_⟩
  simp
 ·rintro J L hJ hL k s ⟨i, A, hi, rfl, hA, hAl, rfl⟩
  by_cases hlt : i < all.length
  ·obtain ⟨m, hm⟩ : ∃ m, nth all i = m := ⟨_, rfl⟩
   have hme : m.row = [.v (.string m.name), .v (.string m.key)] := rfl
   have hst : stay f (all.take (i + 1)) cuts = if goneBy cuts m.name = true then A else A ++ [f m] := by
    rw [hA]; unfold stay
    rw [take_nth hlt, List.filter_append, hm]
    cases h : goneBy cuts m.name <;> simp [h]
   have hoi : nth (of.map irow) i = [.v (.int .i64 (f m))] := by
    rw [hof]
    rw [nth_map irow (by simpa using hlt), nth_map f hlt, hm]; rfl
   have g67 := xg67 m cuts (by omega)
   rw [hme] at g67
   have hiof : i < of.length := by omega
   have tA : (A.map irow).take A.length = A.map irow := List.take_of_length_le (by simp)
   by_cases hg : goneBy cuts m.name = true
   ·rw [if_pos hg] at hst
    rw [hg] at g67
    simp (implicitDefEqProofs := false) (disch := omega) [gz, hlt, nth_map, hm, hme, h67, g67, splice, wrap64]
    subst hJ
    refine wk_nil [0] [0, 2, 3, 9, 14, 15, 16] rfl ⟨all.length - (i + 1), by omega, i + 1, A, by omega, rfl, by rw [hst], by omega, ?_⟩
    simp [phi, O.ren]
   ·rw [if_neg hg] at hst
    have hg' : goneBy cuts m.name = false := by simpa using hg
    rw [hg'] at g67
    simp (implicitDefEqProofs := false) (disch := omega) [gz, hlt, nth_map, hm, hme, h67, g67, hoi, hiof, splice, fillC, tA, wrap64]
    repeat' apply And.intro
    all_goals first | omega | kernel_rfl | skip
    subst hJ
    refine wk_nil [3] [0, 2, 3, 9, 14, 15, 16] rfl ⟨all.length - (i + 1), by omega, i + 1, A ++ [f m], by omega, rfl, by rw [hst], by simp; omega, ?_⟩
    simp [phi, O.ren, irow]
  ·have : i = all.length := by omega
   subst this
   rw [List.take_length] at hA
   subst hA
   simp (implicitDefEqProofs := false) (disch := omega) [gz, hlt]
   subst hL
   exact at_mk (by simp) rfl
 ·rintro _ ⟨sl, rfl⟩
  obtain ⟨S, hS⟩ : ∃ S, S = stay f all cuts := ⟨_, rfl⟩
  have hSl : S.length ≤ all.length := by rw [hS]; exact stay_len _ _ _
  have hle : leastE f l all cuts = if S = [] then 0 else if cuts.any (badC l) = true then 0 else minL (S ++ backs l cuts) := by rw [hS]; rfl
  rw [← hS]
  by_cases hS0 : S = []
  ·rw [if_pos hS0] at hle
   simp (implicitDefEqProofs := false) (disch := omega) [gz, b55_3, hS0]
   exact fin_nil ⟨by rw [hle]; rfl, rfl⟩
  ·rw [if_neg hS0] at hle
   have hSp : ¬ S.length = 0 := by simpa using hS0
   simp (implicitDefEqProofs := false) (disch := omega) [gz, b55_3, b55_4, hS0, hSp]
   refine loopE (fun k s => ∃ (i : Nat) (A : List Int), i ≤ cuts.length ∧ k = cuts.length - i ∧ A = S ++ backs l (cuts.take i) ∧ A.length ≤ S.length + i ∧ (cuts.take i).any (badC l) = false ∧
     s = ⟨ofL [(0, .v (.c (.d (.sl (l.map Edit.row))))), (9, .v (.c (.os 0 1 0 A.length))), (36, .v (.c (.d (.sl (cuts.map Cutoff.row))))), (37, .int .i64 cuts.length), (38, .int .i64 i)],
      [.row 1 (A.map irow)]⟩)
    (fun s => cuts.any (badC l) = false ∧ AtS [(9, .v (.c (.os 0 1 0 (S ++ backs l cuts).length)))] [.row 1 ((S ++ backs l cuts).map irow)] s) ?_ ?_ ?_
   ·refine wk_keep [0, 9, 36, 37, 38] ⟨_, 0, S, by omega, rfl, by simp [backs], by omega, rfl, ?_⟩
    simp
   ·rintro J L hJ hL k s ⟨i, A, hi, rfl, hA, hAl, hb, rfl⟩
    by_cases hlt : i < cuts.length
    ·obtain ⟨c, hcc⟩ : ∃ c, nth cuts i = c := ⟨_, rfl⟩
     have hce : c.row = [.v (.string c.who), .v (.int .i64 c.n), .v (.int .i64 c.err)] := rfl
     have hst : S ++ backs l (cuts.take (i + 1)) = if c.err = 19 then A ++ [backE l c] else A := by
      rw [hA]; unfold backs
      rw [take_nth hlt, List.filter_append, hcc]
      by_cases h : c.err = 19 <;> simp [h]
     have hbs : (cuts.take (i + 1)).any (badC l) = badC l c := by rw [take_any _ hlt, hb, hcc]; rfl
     have g68 := xg72 l c hl
     have g69 := xg73 l c hl
     rw [hce] at g68 g69
     have tA : (A.map irow).take A.length = A.map irow := List.take_of_length_le (by simp)
     by_cases h1 : c.err = 22
     ·have h19 : ¬ c.err = 19 := by omega
      rw [if_neg h19] at hst
      rw [h1] at g68
      cases hwh : (wholeR l c || decide (c.n = 0))
      ·rw [hwh] at g68
       have hbad : badC l c = true := by unfold badC; rw [hwh]; simp [h1]
       have := any_of_nth hlt (p := badC l) (by rw [hcc]; exact hbad)
       rw [if_pos this] at hle
       simp (implicitDefEqProofs := false) (disch := omega) [gz, hlt, nth_map, hcc, hce, h68, g68, h1, splice, wrap64]
       repeat' apply And.intro
       all_goals first | omega | kernel_rfl | skip
       exact fin_nil ⟨by rw [hle]; rfl, rfl⟩
      ·rw [hwh] at g68
       have hbad : badC l c = false := by unfold badC; rw [hwh]; simp
       simp (implicitDefEqProofs := false) (disch := omega) [gz, hlt, nth_map, hcc, hce, h68, g68, h1, splice, wrap64]
       repeat' apply And.intro
       all_goals first | omega | kernel_rfl | skip
       subst hJ
       refine wk_nil [0] [0, 9, 36, 37, 38] rfl ⟨cuts.length - (i + 1), by omega, i + 1, A, by omega, rfl, by rw [hst], by omega, by rw [hbs, hbad], ?_⟩
       simp [phi, O.ren]
     ·have hbad : badC l c = false := by unfold badC; simp [h1]
      by_cases h19 : c.err = 19
      ·rw [if_pos h19] at hst
       rw [h19] at g69
       simp (implicitDefEqProofs := false) (disch := omega) [gz, hlt, nth_map, hcc, hce, h69, g69, h1, h19, splice, fillC, tA, wrap64]
       repeat' apply And.intro
       all_goals first | omega | kernel_rfl | skip
       subst hJ
       refine wk_nil [3] [0, 9, 36, 37, 38] rfl ⟨cuts.length - (i + 1), by omega, i + 1, A ++ [backE l c], by omega, rfl, by rw [hst], by simp; omega, by rw [hbs, hbad], ?_⟩
       simp [phi, O.ren, irow]
      ·rw [if_neg h19] at hst
       simp (implicitDefEqProofs := false) (disch := omega) [gz, hlt, nth_map, hcc, hce, h1, h19, splice, wrap64]
       subst hJ
       refine wk_nil [0] [0, 9, 36, 37, 38] rfl ⟨cuts.length - (i + 1), by omega, i + 1, A, by omega, rfl, by rw [hst], by omega, by rw [hbs, hbad], ?_⟩
       simp [phi, O.ren]
    ·have : i = cuts.length := by omega
     subst this
     rw [List.take_length] at hA hb
     subst hA
     simp (implicitDefEqProofs := false) (disch := omega) [gz, hlt]
     subst hL
     exact ⟨hb, at_mk (by simp) (by simp)⟩
   ·rintro _ ⟨hb, sl, rfl⟩
    obtain ⟨A, hA⟩ : ∃ A, A = S ++ backs l cuts := ⟨_, rfl⟩
    rw [← hA] at hle ⊢
    have hA0 : A ≠ [] := by rw [hA]; simp [hS0]
    have hAl : A.length < 68719476736 := by
     have := backs_len l cuts
     rw [hA, List.length_append]; omega
    rw [if_neg (by simp [hb])] at hle
    have g70 := xg70 A hAl hA0
    have tA : (A.map irow).take A.length = A.map irow := List.take_of_length_le (by simp)
    simp (implicitDefEqProofs := false) (disch := omega) [gz, b55_5, b55_6, h70, g70, tA]
    exact fin_nil ⟨by rw [hle]; rfl, rfl⟩
noncomputable def x55 (f : Member → Int) : XE := mkX true (fun (p : List Edit × List Member × List Cutoff) => [.c (.sl (p.1.map Edit.row)), .c (.sl (p.2.1.map Member.row)), .c (.sl (p.2.2.map Cutoff.row)), .c (.sl ((p.2.1.map f).map irow))]) (fun p => p.1.length < 68719476736 ∧ p.2.1.length < 34359738368 ∧ p.2.2.length < 34359738368) (fun p => .int .i64 (leastE f p.1 p.2.1 p.2.2))
theorem injLMCF (f : Member → Int) (a b : List Edit × List Member × List Cutoff) (h : [PVo.c (D.sl (a.1.map Edit.row)), PVo.c (.sl (a.2.1.map Member.row)), PVo.c (.sl (a.2.2.map Cutoff.row)), .c (.sl ((a.2.1.map f).map irow))] = [PVo.c (.sl (b.1.map Edit.row)), .c (.sl (b.2.1.map Member.row)), .c (.sl (b.2.2.map Cutoff.row)), .c (.sl ((b.2.1.map f).map irow))]) : a = b := by
 refine injLMC a b ?_
 injection h with h1 h; injection h with h2 h; injection h with h3 h
 rw [h1, h2, h3]
theorem kx55 (f : Member → Int) : Contract Tryz.prog G0 51 (x55 f) := mkX_scal (fun _ => rfl) fun p h => k55 f p.1 p.2.1 p.2.2 _ rfl h.1 h.2.1 h.2.2
theorem xg55 (f : Member → Int) (l : List Edit) (all : List Member) (cuts : List Cutoff) (hl : l.length < 68719476736) (ha : all.length < 34359738368) (hc : cuts.length < 34359738368) : (x55 f).g [.c (.sl (l.map Edit.row)), .c (.sl (all.map Member.row)), .c (.sl (cuts.map Cutoff.row)), .c (.sl ((all.map f).map irow))] = some (True, .int .i64 (leastE f l all cuts)) := mkX_g (injLMCF f) (l, all, cuts) ⟨hl, ha, hc⟩
/-- The stable clock; the stable floor. -/
def stableC (l : List Edit) (all : List Member) (cuts : List Cutoff) : Int := leastE (clk l cuts) l all cuts
def stableF (l : List Edit) (all : List Member) (cuts : List Cutoff) : Int := leastE (flr l cuts) l all cuts
theorem k28 (l : List Edit) (all : List Member) (cuts : List Cutoff) (hl : l.length < 68719476736) (ha : all.length < 34359738368) (hc : cuts.length < 34359738368) :
  ACalls Tryz.prog G0 22 [.c (.d (.sl (l.map Edit.row))), .c (.d (.sl (all.map Member.row))), .c (.d (.sl (cuts.map Cutoff.row)))] [] fun t H => t = .int .i64 (stableC l all cuts) ∧ H = [] := by
 have h26 : x26.sc = false := rfl
 have h55 : (x55 (clk l cuts)).sc = true := rfl
 have g26 := xg26 l all cuts hl (by omega) (by omega)
 have g55 := xg55 (clk l cuts) l all cuts hl ha hc
 unfold lists at g26
 obtain ⟨A, hA⟩ : ∃ A, A = (all.map (clk l cuts)).map irow := ⟨_, rfl⟩
 obtain ⟨B, hB⟩ : ∃ B, B = (all.map (flr l cuts)).map irow := ⟨_, rfl⟩
 rw [← hA, ← hB] at g26
 rw [← hA] at g55
 refine acallsX (X := [(50, x26), (51, x55 (clk l cuts))]) ⟨kx26, kx55 _, trivial⟩ tab hmix Tryz.func22 c28 (by rfl) fun hw => ?_
 simp (implicitDefEqProofs := false) (disch := omega) [gz, ir28, b28, h26, g26, h55, g55, toPVs, frzVs, osVs, toPV, wrap64]
 exact fin_nil ⟨rfl, rfl⟩
theorem k30 (l : List Edit) (all : List Member) (cuts : List Cutoff) (hl : l.length < 68719476736) (ha : all.length < 34359738368) (hc : cuts.length < 34359738368) :
  ACalls Tryz.prog G0 24 [.c (.d (.sl (l.map Edit.row))), .c (.d (.sl (all.map Member.row))), .c (.d (.sl (cuts.map Cutoff.row)))] [] fun t H => t = .int .i64 (stableF l all cuts) ∧ H = [] := by
 have h26 : x26.sc = false := rfl
 have h55 : (x55 (flr l cuts)).sc = true := rfl
 have g26 := xg26 l all cuts hl (by omega) (by omega)
 have g55 := xg55 (flr l cuts) l all cuts hl ha hc
 unfold lists at g26
 obtain ⟨A, hA⟩ : ∃ A, A = (all.map (clk l cuts)).map irow := ⟨_, rfl⟩
 obtain ⟨B, hB⟩ : ∃ B, B = (all.map (flr l cuts)).map irow := ⟨_, rfl⟩
 rw [← hA, ← hB] at g26
 rw [← hB] at g55
 refine acallsX (X := [(50, x26), (51, x55 (flr l cuts))]) ⟨kx26, kx55 _, trivial⟩ tab hmix Tryz.func24 c30 (by rfl) fun hw => ?_
 simp (implicitDefEqProofs := false) (disch := omega) [gz, ir30, b30, h26, g26, h55, g55, toPVs, frzVs, osVs, toPV, wrap64]
 exact fin_nil ⟨rfl, rfl⟩
noncomputable def x28 : XE := mkX true (fun (p : List Edit × List Member × List Cutoff) => [.c (.sl (p.1.map Edit.row)), .c (.sl (p.2.1.map Member.row)), .c (.sl (p.2.2.map Cutoff.row))]) (fun p => p.1.length < 68719476736 ∧ p.2.1.length < 34359738368 ∧ p.2.2.length < 34359738368) (fun p => .int .i64 (stableC p.1 p.2.1 p.2.2))
theorem kx28 : Contract Tryz.prog G0 22 x28 := mkX_scal (fun _ => rfl) fun p h => k28 p.1 p.2.1 p.2.2 h.1 h.2.1 h.2.2
theorem xg28 (l : List Edit) (all : List Member) (cuts : List Cutoff) (hl : l.length < 68719476736) (ha : all.length < 34359738368) (hc : cuts.length < 34359738368) : x28.g [.c (.sl (l.map Edit.row)), .c (.sl (all.map Member.row)), .c (.sl (cuts.map Cutoff.row))] = some (True, .int .i64 (stableC l all cuts)) := mkX_g injLMC (l, all, cuts) ⟨hl, ha, hc⟩
noncomputable def x30 : XE := mkX true (fun (p : List Edit × List Member × List Cutoff) => [.c (.sl (p.1.map Edit.row)), .c (.sl (p.2.1.map Member.row)), .c (.sl (p.2.2.map Cutoff.row))]) (fun p => p.1.length < 68719476736 ∧ p.2.1.length < 34359738368 ∧ p.2.2.length < 34359738368) (fun p => .int .i64 (stableF p.1 p.2.1 p.2.2))
theorem kx30 : Contract Tryz.prog G0 24 x30 := mkX_scal (fun _ => rfl) fun p h => k30 p.1 p.2.1 p.2.2 h.1 h.2.1 h.2.2
theorem xg30 (l : List Edit) (all : List Member) (cuts : List Cutoff) (hl : l.length < 68719476736) (ha : all.length < 34359738368) (hc : cuts.length < 34359738368) : x30.g [.c (.sl (l.map Edit.row)), .c (.sl (all.map Member.row)), .c (.sl (cuts.map Cutoff.row))] = some (True, .int .i64 (stableF l all cuts)) := mkX_g injLMC (l, all, cuts) ⟨hl, ha, hc⟩
end Go.Aw.Try

namespace Go.Aw.Try
open Go Go.Proofs Go.Aw
set_option maxRecDepth 100000
set_option maxHeartbeats 4000000
theorem minL_snoc {A : List Int} (h : A ≠ []) (x : Int) : minL (A ++ [x]) = minI (minL A) x := by
 cases A with
 | nil => exact absurd rfl h
 | cons y r => simp [minL]
theorem k56 (f : Member → Int) (l : List Edit) (all : List Member) (cuts : List Cutoff) (of : List Int) (hof : of = all.map f) (hl : l.length < 68719476736) (ha : all.length < 34359738368) (hc : cuts.length < 34359738368) :
  ACalls Tryz.prog G0 53 [.c (.d (.sl (l.map Edit.row))), .c (.d (.sl (all.map Member.row))), .c (.d (.sl (cuts.map Cutoff.row))), .c (.d (.sl (of.map irow)))] [] fun t H => t = .int .i64 (leastE f l all cuts) ∧ H = [] := by
 have h71 : x71.sc = true := rfl
 have h72 : x72.sc = true := rfl
 have h73 : x73.sc = true := rfl
 have ofl : of.length = all.length := by rw [hof]; simp
 refine acallsX (X := [(94, x71), (95, x72), (96, x73)]) ⟨kx71, kx72, kx73, trivial⟩ tab hmix Tryz.func53 c56 (by rfl) fun hw => ?_
 simp (implicitDefEqProofs := false) (disch := omega) [gz, ir56, b56, b56_0, b56_1, b56_2, wrap64]
 refine loopE (fun k s => ∃ (i : Nat) (A : List Int), i ≤ all.length ∧ k = all.length - i ∧ A = stay f (all.take i) cuts ∧
   s = ⟨ofL [(0, .v (.c (.d (.sl (l.map Edit.row))))), (1, .v (.c (.d (.sl (all.map Member.row))))), (2, .v (.c (.d (.sl (cuts.map Cutoff.row))))), (3, .v (.c (.d (.sl (of.map irow))))), (9, .int .i64 (minL A)), (10, .bool (decide (A ≠ []))), (11, .int .i64 i)], []⟩)
  (fun s => AtS [(0, .v (.c (.d (.sl (l.map Edit.row))))), (2, .v (.c (.d (.sl (cuts.map Cutoff.row))))), (9, .int .i64 (minL (stay f all cuts))), (10, .bool (decide (stay f all cuts ≠ [])))] [] s) ?_ ?_ ?_
 ·refine wk_keep [0, 1, 2, 3, 9, 10, 11] ⟨_, 0, [], by omega, rfl, rfl, ?_⟩
  simp [minL]
 ·rintro J L hJ hL k s ⟨i, A, hi, rfl, hA, rfl⟩
  by_cases hlt : i < all.length
  ·obtain ⟨m, hm⟩ : ∃ m, nth all i = m := ⟨_, rfl⟩
   have hme : m.row = [.v (.string m.name), .v (.string m.key)] := rfl
   have hst : stay f (all.take (i + 1)) cuts = if goneBy cuts m.name = true then A else A ++ [f m] := by
    rw [hA]; unfold stay
    rw [take_nth hlt, List.filter_append, hm]
    cases h : goneBy cuts m.name <;> simp [h]
   have hoi : nth (of.map irow) i = [.v (.int .i64 (f m))] := by
    rw [hof]
    rw [nth_map irow (by simpa using hlt), nth_map f hlt, hm]; rfl
   have g71 := xg71 m.name cuts (by omega)
   have hiof : i < of.length := by omega
   have hfin : ∀ (sl : Nat → T) (A' : List Int), stay f (all.take (i + 1)) cuts = A' → sl 0 = .v (.c (.d (.sl (l.map Edit.row)))) → sl 1 = .v (.c (.d (.sl (all.map Member.row)))) → sl 2 = .v (.c (.d (.sl (cuts.map Cutoff.row)))) → sl 3 = .v (.c (.d (.sl (of.map irow)))) → sl 9 = .int .i64 (minL A') → sl 10 = .bool (decide (A' ≠ [])) → sl 11 = .int .i64 (i + 1 : Nat) →
     wk Tryz.prog G0 0 ⟨sl, []⟩ fun s'' => ∃ k', k' < all.length - i ∧ J k' s'' := fun sl A' h h0 h1 h2 h3 h9 h10 h11 => by
    subst hJ
    refine wk_keep [0, 1, 2, 3, 9, 10, 11] ⟨all.length - (i + 1), by omega, i + 1, A', by omega, rfl, by rw [h], ?_⟩
    simp [h0, h1, h2, h3, h9, h10, h11]
   by_cases hg : goneBy cuts m.name = true
   ·rw [if_pos hg] at hst
    rw [hg] at g71
    simp (implicitDefEqProofs := false) (disch := omega) [gz, hlt, nth_map, hm, hme, h71, g71, wrap64]
    exact hfin _ A hst (by simp) (by simp) (by simp) (by simp) (by simp) (by simp) (by simp)
   ·rw [if_neg hg] at hst
    have hg' : goneBy cuts m.name = false := by simpa using hg
    rw [hg'] at g71
    by_cases hA0 : A = []
    ·have hm2 : minL (A ++ [f m]) = f m := by rw [hA0]; rfl
     simp (implicitDefEqProofs := false) (disch := omega) [gz, hlt, nth_map, hm, hme, h71, g71, hoi, hiof, hA0, wrap64]
     exact hfin _ (A ++ [f m]) hst (by simp) (by simp) (by simp) (by simp) (by simp [hm2]) (by simp) (by simp)
    ·have hm2 := minL_snoc hA0 (f m)
     by_cases h2 : f m < minL A
     ·have hm3 : minI (minL A) (f m) = f m := by simp [minI, h2]
      simp (implicitDefEqProofs := false) (disch := omega) [gz, hlt, nth_map, hm, hme, h71, g71, hoi, hiof, hA0, h2, wrap64]
      exact hfin _ (A ++ [f m]) hst (by simp) (by simp) (by simp) (by simp) (by simp [hm2, hm3]) (by simp) (by simp)
     ·have hm3 : minI (minL A) (f m) = minL A := by simp [minI, h2]
      simp (implicitDefEqProofs := false) (disch := omega) [gz, hlt, nth_map, hm, hme, h71, g71, hoi, hiof, hA0, h2, wrap64]
      exact hfin _ (A ++ [f m]) hst (by simp) (by simp) (by simp) (by simp) (by simp [hm2, hm3]) (by simp) (by simp)
  ·have : i = all.length := by omega
   subst this
   rw [List.take_length] at hA
   subst hA
   simp (implicitDefEqProofs := false) (disch := omega) [gz, hlt]
   subst hL
   exact at_mk (by simp) rfl
 ·rintro _ ⟨sl, rfl⟩
  obtain ⟨S, hS⟩ : ∃ S, S = stay f all cuts := ⟨_, rfl⟩
  have hle : leastE f l all cuts = if S = [] then 0 else if cuts.any (badC l) = true then 0 else minL (S ++ backs l cuts) := by rw [hS]; rfl
  rw [← hS]
  by_cases hS0 : S = []
  ·rw [if_pos hS0] at hle
   simp (implicitDefEqProofs := false) (disch := omega) [gz, b56_3, hS0]
   exact fin_nil ⟨by rw [hle]; rfl, rfl⟩
  ·rw [if_neg hS0] at hle
   simp (implicitDefEqProofs := false) (disch := omega) [gz, b56_3, b56_4, hS0]
   refine loopE (fun k s => ∃ (i : Nat), i ≤ cuts.length ∧ k = cuts.length - i ∧ (cuts.take i).any (badC l) = false ∧
     s = ⟨ofL [(0, .v (.c (.d (.sl (l.map Edit.row))))), (2, .v (.c (.d (.sl (cuts.map Cutoff.row))))), (9, .int .i64 (minL S)), (12, .int .i64 i)], []⟩)
    (fun s => cuts.any (badC l) = false ∧ AtS [(0, .v (.c (.d (.sl (l.map Edit.row))))), (2, .v (.c (.d (.sl (cuts.map Cutoff.row))))), (9, .int .i64 (minL S))] [] s) ?_ ?_ ?_
   ·refine wk_keep [0, 2, 9, 12] ⟨_, 0, by omega, rfl, rfl, ?_⟩
    simp
   ·rintro J L hJ hL k s ⟨i, hi, rfl, hb, rfl⟩
    by_cases hlt : i < cuts.length
    ·obtain ⟨c, hcc⟩ : ∃ c, nth cuts i = c := ⟨_, rfl⟩
     have hce : c.row = [.v (.string c.who), .v (.int .i64 c.n), .v (.int .i64 c.err)] := rfl
     have hbs : (cuts.take (i + 1)).any (badC l) = badC l c := by rw [take_any _ hlt, hb, hcc]; rfl
     have g72 := xg72 l c hl
     rw [hce] at g72
     by_cases h1 : c.err = 22
     ·rw [h1] at g72
      cases hwh : (wholeR l c || decide (c.n = 0))
      ·rw [hwh] at g72
       have hbad : badC l c = true := by unfold badC; rw [hwh]; simp [h1]
       have := any_of_nth hlt (p := badC l) (by rw [hcc]; exact hbad)
       rw [if_pos this] at hle
       simp (implicitDefEqProofs := false) (disch := omega) [gz, hlt, nth_map, hcc, hce, h72, g72, h1, wrap64]
       exact fin_nil ⟨by rw [hle]; rfl, rfl⟩
      ·rw [hwh] at g72
       have hbad : badC l c = false := by unfold badC; rw [hwh]; simp
       simp (implicitDefEqProofs := false) (disch := omega) [gz, hlt, nth_map, hcc, hce, h72, g72, h1, wrap64]
       subst hJ
       refine wk_keep [0, 2, 9, 12] ⟨cuts.length - (i + 1), by omega, i + 1, by omega, rfl, by rw [hbs, hbad], ?_⟩
       simp
     ·have hbad : badC l c = false := by unfold badC; simp [h1]
      simp (implicitDefEqProofs := false) (disch := omega) [gz, hlt, nth_map, hcc, hce, h1, wrap64]
      subst hJ
      refine wk_keep [0, 2, 9, 12] ⟨cuts.length - (i + 1), by omega, i + 1, by omega, rfl, by rw [hbs, hbad], ?_⟩
      simp
    ·have : i = cuts.length := by omega
     subst this
     rw [List.take_length] at hb
     simp (implicitDefEqProofs := false) (disch := omega) [gz, hlt]
     subst hL
     exact ⟨hb, at_mk (by simp) rfl⟩
   ·rintro _ ⟨hb, sl, rfl⟩
    rw [if_neg (by simp [hb])] at hle
    simp (implicitDefEqProofs := false) (disch := omega) [gz, b56_5]
    refine loopE (fun k s => ∃ (i : Nat) (o : Int), i ≤ cuts.length ∧ k = cuts.length - i ∧ o = minL (S ++ backs l (cuts.take i)) ∧
      s = ⟨ofL [(0, .v (.c (.d (.sl (l.map Edit.row))))), (2, .v (.c (.d (.sl (cuts.map Cutoff.row))))), (9, .int .i64 o), (13, .int .i64 i)], []⟩)
     (fun s => AtS [(9, .int .i64 (minL (S ++ backs l cuts)))] [] s) ?_ ?_ ?_
    ·refine wk_keep [0, 2, 9, 13] ⟨_, 0, minL S, by omega, rfl, by simp [backs], ?_⟩
     simp
    ·rintro J L hJ hL k s ⟨i, o, hi, rfl, ho, rfl⟩
     by_cases hlt : i < cuts.length
     ·obtain ⟨c, hcc⟩ : ∃ c, nth cuts i = c := ⟨_, rfl⟩
      have hce : c.row = [.v (.string c.who), .v (.int .i64 c.n), .v (.int .i64 c.err)] := rfl
      have hst : minL (S ++ backs l (cuts.take (i + 1))) = if c.err = 19 then minI o (backE l c) else o := by
       rw [ho]
       have : backs l (cuts.take (i + 1)) = if c.err = 19 then backs l (cuts.take i) ++ [backE l c] else backs l (cuts.take i) := by
        unfold backs
        rw [take_nth hlt, List.filter_append, hcc]
        by_cases h : c.err = 19 <;> simp [h]
       rw [this]
       by_cases h : c.err = 19
       ·rw [if_pos h, if_pos h, ← List.append_assoc, minL_snoc (by simp [hS0])]
       ·rw [if_neg h, if_neg h]
      have g73 := xg73 l c hl
      rw [hce] at g73
      by_cases h1 : c.err = 19
      ·rw [if_pos h1] at hst
       rw [h1] at g73
       by_cases h2 : backE l c < o
       ·have hm3 : minI o (backE l c) = backE l c := by simp [minI, h2]
        simp (implicitDefEqProofs := false) (disch := omega) [gz, hlt, nth_map, hcc, hce, h73, g73, h1, h2, wrap64]
        subst hJ
        refine wk_keep [0, 2, 9, 13] ⟨cuts.length - (i + 1), by omega, i + 1, backE l c, by omega, rfl, by rw [hst, hm3], ?_⟩
        simp
       ·have hm3 : minI o (backE l c) = o := by simp [minI, h2]
        simp (implicitDefEqProofs := false) (disch := omega) [gz, hlt, nth_map, hcc, hce, h73, g73, h1, h2, wrap64]
        subst hJ
        refine wk_keep [0, 2, 9, 13] ⟨cuts.length - (i + 1), by omega, i + 1, o, by omega, rfl, by rw [hst, hm3], ?_⟩
        simp
      ·rw [if_neg h1] at hst
       simp (implicitDefEqProofs := false) (disch := omega) [gz, hlt, nth_map, hcc, hce, h1, wrap64]
       subst hJ
       refine wk_keep [0, 2, 9, 13] ⟨cuts.length - (i + 1), by omega, i + 1, o, by omega, rfl, by rw [hst], ?_⟩
       simp
     ·have : i = cuts.length := by omega
      subst this
      rw [List.take_length] at ho
      subst ho
      simp (implicitDefEqProofs := false) (disch := omega) [gz, hlt]
      subst hL
      exact at_mk (by simp) rfl
    ·rintro _ ⟨sl, rfl⟩
     simp (implicitDefEqProofs := false) (disch := omega) [gz, b56_6, b56_7]
     exact fin_nil ⟨by rw [hle]; rfl, rfl⟩
theorem kx56 (f : Member → Int) : Contract Tryz.prog G0 53 (x55 f) := mkX_scal (fun _ => rfl) fun p h => k56 f p.1 p.2.1 p.2.2 _ rfl h.1 h.2.1 h.2.2
theorem k29 (l : List Edit) (all : List Member) (cuts : List Cutoff) (hl : l.length < 68719476736) (ha : all.length < 34359738368) (hc : cuts.length < 34359738368) :
  ACalls Tryz.prog G0 23 [.c (.d (.sl (l.map Edit.row))), .c (.d (.sl (all.map Member.row))), .c (.d (.sl (cuts.map Cutoff.row)))] [] fun t H => t = .int .i64 (stableC l all cuts) ∧ H = [] := by
 have h26 : x26.sc = false := rfl
 have h55 : (x55 (clk l cuts)).sc = true := rfl
 have g26 := xg26 l all cuts hl (by omega) (by omega)
 have g55 := xg55 (clk l cuts) l all cuts hl ha hc
 unfold lists at g26
 obtain ⟨A, hA⟩ : ∃ A, A = (all.map (clk l cuts)).map irow := ⟨_, rfl⟩
 obtain ⟨B, hB⟩ : ∃ B, B = (all.map (flr l cuts)).map irow := ⟨_, rfl⟩
 rw [← hA, ← hB] at g26
 rw [← hA] at g55
 refine acallsX (X := [(52, x26), (53, x55 (clk l cuts))]) ⟨kx27, kx56 _, trivial⟩ tab hmix Tryz.func23 c29 (by rfl) fun hw => ?_
 simp (implicitDefEqProofs := false) (disch := omega) [gz, ir29, b29, h26, g26, h55, g55, toPVs, frzVs, osVs, toPV, wrap64]
 exact fin_nil ⟨rfl, rfl⟩
theorem k31 (l : List Edit) (all : List Member) (cuts : List Cutoff) (hl : l.length < 68719476736) (ha : all.length < 34359738368) (hc : cuts.length < 34359738368) :
  ACalls Tryz.prog G0 25 [.c (.d (.sl (l.map Edit.row))), .c (.d (.sl (all.map Member.row))), .c (.d (.sl (cuts.map Cutoff.row)))] [] fun t H => t = .int .i64 (stableF l all cuts) ∧ H = [] := by
 have h26 : x26.sc = false := rfl
 have h55 : (x55 (flr l cuts)).sc = true := rfl
 have g26 := xg26 l all cuts hl (by omega) (by omega)
 have g55 := xg55 (flr l cuts) l all cuts hl ha hc
 unfold lists at g26
 obtain ⟨A, hA⟩ : ∃ A, A = (all.map (clk l cuts)).map irow := ⟨_, rfl⟩
 obtain ⟨B, hB⟩ : ∃ B, B = (all.map (flr l cuts)).map irow := ⟨_, rfl⟩
 rw [← hA, ← hB] at g26
 rw [← hB] at g55
 refine acallsX (X := [(52, x26), (53, x55 (flr l cuts))]) ⟨kx27, kx56 _, trivial⟩ tab hmix Tryz.func25 c31 (by rfl) fun hw => ?_
 simp (implicitDefEqProofs := false) (disch := omega) [gz, ir31, b31, h26, g26, h55, g55, toPVs, frzVs, osVs, toPV, wrap64]
 exact fin_nil ⟨rfl, rfl⟩
theorem kx29 : Contract Tryz.prog G0 23 x28 := mkX_scal (fun _ => rfl) fun p h => k29 p.1 p.2.1 p.2.2 h.1 h.2.1 h.2.2
theorem kx31 : Contract Tryz.prog G0 25 x30 := mkX_scal (fun _ => rfl) fun p h => k31 p.1 p.2.1 p.2.2 h.1 h.2.1 h.2.2
end Go.Aw.Try

namespace Go.Aw.Try
open Go Go.Proofs Go.Aw
set_option maxRecDepth 100000
set_option maxHeartbeats 4000000
def noteK (a : ByteArray) (n c f : Int) : Edit := ⟨⟨a, n⟩, c, f, [], 6, ⟨⟨#[]⟩, 0⟩, ⟨⟨#[]⟩, 0⟩, false, ⟨#[]⟩, ⟨#[]⟩, ⟨#[]⟩, ⟨#[]⟩, ⟨⟨#[]⟩, 0⟩, ⟨#[]⟩⟩
theorem k52 (a : ByteArray) (n c f : Int) (H : List O) : ACalls Tryz.prog G0 49 [Sx a, I n, I c, I f] H fun t H' => t = .v (.agg ((noteK a n c f).row.map .d)) ∧ H' = H := by
 refine acallsX (X := []) trivial tab hmix Tryz.func49 c52 (by rfl) fun hw => ?_
 simp (implicitDefEqProofs := false) (disch := omega) [gz, ir52, b52, fillC, splice]
 exact fin_pre_pv (p := .agg (noteK a n c f).row) (L' := [_]) hw (by simp [toPV, toDs, noteK, Edit.row]) (by simp [frz, frz1]; rfl) ⟨rfl, rfl⟩
noncomputable def x52 : XE := mkX false (fun (p : ByteArray × Int × Int × Int) => [.c (.v (.string p.1)), .c (.v (.int .i64 p.2.1)), .c (.v (.int .i64 p.2.2.1)), .c (.v (.int .i64 p.2.2.2))]) (fun _ => True) (fun p => .v (.agg ((noteK p.1 p.2.1 p.2.2.1 p.2.2.2).row.map .d)))
theorem kx52 : Contract Tryz.prog G0 49 x52 := mkX_data fun p _ H => k52 p.1 p.2.1 p.2.2.1 p.2.2.2 H
theorem xg52 (a : ByteArray) (n c f : Int) : x52.g [.c (.v (.string a)), .c (.v (.int .i64 n)), .c (.v (.int .i64 c)), .c (.v (.int .i64 f))] = some (True, .v (.agg ((noteK a n c f).row.map .d))) :=
 mkX_g (fun a b h => by simp at h; exact Prod.ext h.1 (Prod.ext h.2.1 (Prod.ext h.2.2.1 h.2.2.2))) (a, n, c, f) trivial
def greatB (l : List Edit) (all : List Member) (cuts : List Cutoff) : Bool := decide (1500 < gtot l ∨ 10 < all.length ∨ 20 < cuts.length)
theorem k24 (l : List Edit) (all : List Member) (cuts : List Cutoff) (hl : gtot l < 2305843009213693952) :
  ACalls Tryz.prog G0 20 [.c (.d (.sl (l.map Edit.row))), .c (.d (.sl (all.map Member.row))), .c (.d (.sl (cuts.map Cutoff.row)))] [] fun t H => t = .bool (greatB l all cuts) ∧ H = [] := by
 have h15 : x15.sc = true := rfl
 have g15 := xg15 l hl
 refine acallsX (X := [(48, x15)]) ⟨kx15, trivial⟩ tab hmix Tryz.func20 c24 (by rfl) fun hw => ?_
 unfold greatB
 by_cases h1 : 1500 < gtot l
 ·rw [if_pos h1] at g15
  simp (implicitDefEqProofs := false) (disch := omega) [gz, ir24, b24, h15, g15, h1]
  exact fin_nil ⟨by simp, rfl⟩
 ·rw [if_neg h1] at g15
  by_cases h2 : 10 < all.length
  ·have h2' : (10 : Int) < all.length := by omega
   simp (implicitDefEqProofs := false) (disch := omega) [gz, ir24, b24, h15, g15, h1, h2, h2']
   exact fin_nil ⟨by simp, rfl⟩
  ·have h2' : ¬ (10 : Int) < all.length := by omega
   by_cases h3 : 20 < cuts.length
   ·have h3' : (20 : Int) < cuts.length := by omega
    simp (implicitDefEqProofs := false) (disch := omega) [gz, ir24, b24, h15, g15, h1, h2, h2', h3, h3']
    exact fin_nil ⟨by simp, rfl⟩
   ·have h3' : ¬ (20 : Int) < cuts.length := by omega
    simp (implicitDefEqProofs := false) (disch := omega) [gz, ir24, b24, h15, g15, h1, h2, h2', h3, h3']
    exact fin_nil ⟨by simp, rfl⟩
noncomputable def x24 : XE := mkX true (fun (p : List Edit × List Member × List Cutoff) => [.c (.sl (p.1.map Edit.row)), .c (.sl (p.2.1.map Member.row)), .c (.sl (p.2.2.map Cutoff.row))]) (fun p => gtot p.1 < 2305843009213693952) (fun p => .bool (greatB p.1 p.2.1 p.2.2))
theorem kx24 : Contract Tryz.prog G0 20 x24 := mkX_scal (fun _ => rfl) fun p h => k24 p.1 p.2.1 p.2.2 h
theorem xg24 (l : List Edit) (all : List Member) (cuts : List Cutoff) (hl : gtot l < 2305843009213693952) : x24.g [.c (.sl (l.map Edit.row)), .c (.sl (all.map Member.row)), .c (.sl (cuts.map Cutoff.row))] = some (True, .bool (greatB l all cuts)) := mkX_g injLMC (l, all, cuts) hl
def fixK : List Edit := [noteK sAnn 1 7 3, noteK sBob 1 4 2]
def fix2 : List Member := [⟨sAnn, ⟨#[]⟩⟩, ⟨sBob, ⟨#[]⟩⟩]
def fix3 : List Member := [⟨sAnn, ⟨#[]⟩⟩, ⟨sBob, ⟨#[]⟩⟩, ⟨sCid, ⟨#[]⟩⟩]
theorem fixk1 : stableC fixK fix2 [] = 4 := by decide +kernel
theorem fixk2 : stableF fixK fix2 [] = 2 := by decide +kernel
theorem fixk3 : stableC fixK fix3 [] = 0 := by decide +kernel
theorem fixk4 : stableC fixK fix3 [⟨sCid, 0, 22⟩] = 4 := by decide +kernel
theorem k25 : ACalls Tryz.prog G0 21 [] [] fun t H => t = .bool true ∧ H = [] := by
 have h1 : x52.sc = false := rfl
 have h2 : x28.sc = true := rfl
 have h3 : x30.sc = true := rfl
 have g1 := xg28 fixK fix2 [] (by decide) (by decide) (by decide)
 have g2 := xg30 fixK fix2 [] (by decide) (by decide) (by decide)
 have g3 := xg28 fixK fix3 [] (by decide) (by decide) (by decide)
 have g4 := xg28 fixK fix3 [⟨sCid, 0, 22⟩] (by decide) (by decide) (by decide)
 rw [fixk1] at g1
 rw [fixk2] at g2
 rw [fixk3] at g3
 rw [fixk4] at g4
 simp only [fixK, fix2, fix3, List.map_cons, List.map_nil, Cutoff.row, Member.row, sAnn, sBob, sCid, noteK, Edit.row] at g1 g2 g3 g4
 refine acallsX (X := [(49, x52), (22, x28), (24, x30)]) ⟨kx52, kx28, kx30, trivial⟩ tab hmix Tryz.func21 c25 (by rfl) fun hw => ?_
 simp (maxSteps := 1000000) (implicitDefEqProofs := false) (disch := omega) [gz, ir25, b25, b25_0, b25_1, b25_2, b25_3, b25_4, b25_5, h1, h2, h3, xg52, g1, g2, g3, g4, toPVs, frzVs, osVs, toPV, noteK, Edit.row, splice, fillC, cellsEq, skEq, nth_cons_z, nth_cons_s]
 repeat' apply And.intro
 all_goals first | omega | kernel_rfl | skip
 all_goals exact fin_nil ⟨rfl, rfl⟩
def x25 : XE := ⟨true, fun ps => match ps with | [] => some (True, .bool true) | _ => none⟩
theorem kx25 : Contract Tryz.prog G0 21 x25 := contract_sc fun ps ob t h _ => by
 split at h
 ·injection h with h; injection h with _ h2; subst h2
  exact ⟨rfl, k25⟩
 ·cases h
end Go.Aw.Try

namespace Go.Aw.Try
open Go Go.Proofs Go.Aw
set_option maxRecDepth 100000
set_option maxHeartbeats 4000000
/-! ### StabilityCutoffs -/
theorem stabcut_walk (m : Int) (l : List Edit) (all : List Member) (hz : Sz l all) (hg : gtot l ≤ 5242880) (ha : all.length ≤ 1048576) :
  ACalls Tryz.prog (GM m) 8 [.c (.d (.sl (l.map Edit.row))), .c (.d (.sl (all.map Member.row)))] [] fun t H => t = .bool true ∧ H = [] := by
 have hlen := gtot_len l
 have s1 : x24.sc = true := rfl
 have s2 : x512.sc = true := rfl
 have s3 : (x514 m).sc = false := rfl
 have s4 : x515.sc = false := rfl
 have s5 : x28.sc = true := rfl
 have s6 : x30.sc = true := rfl
 have s7 : x25.sc = true := rfl
 have g0 : x25.g [] = some (True, .bool true) := rfl
 have g1 := xg512 l all hz.sl hz.sa hz.sn hz.se
 have g2 := xg24 l all [] (by omega)
 simp only [List.map_nil] at g2
 refine acallsX (X := [(20, x24), (12, x512), (21, x25), (14, x514 m), (15, x515), (22, x28), (23, x28), (24, x30), (25, x30)]) ⟨kx24.gm, kx512.gm, kx25.gm, kx514 m, kx515.gm, kx28.gm, kx29.gm, kx30.gm, kx31.gm, trivial⟩ tab hmix Tryz.func8 c508 (by rfl) fun hw => ?_
 obtain ⟨q, hq⟩ : ∃ q, q = greatB l all [] := ⟨_, rfl⟩
 rw [← hq] at g2
 cases q
 ·by_cases hok : OkR l all
  ·rw [right_yes hok] at g1
   have hC := hok.okC
   have hcl := hok.cuts_len
   have k1 := xg514 m l all hC
   have k2 := xg515 l all hok
   obtain ⟨cuts, hcuts⟩ : ∃ c, c = cutsE l all := ⟨_, rfl⟩
   rw [← hcuts] at k1 k2 hcl
   have k3 := xg28 l all cuts (by omega) (by omega) (by omega)
   have k4 := xg30 l all cuts (by omega) (by omega) (by omega)
   simp (implicitDefEqProofs := false) (disch := omega) [gz, ir508, b508, s1, s2, s3, s4, s5, s6, s7, g0, g1, g2, k1, k2, k3, k4, wrap64, toPVs, frzVs, osVs, toPV]
   exact fin_nil ⟨rfl, rfl⟩
  ·rw [right_no hok] at g1
   simp (implicitDefEqProofs := false) (disch := omega) [gz, ir508, b508, s1, s2, s7, g0, g1, g2, wrap64, toPVs, frzVs, osVs, toPV]
   exact fin_nil ⟨rfl, rfl⟩
 ·simp (implicitDefEqProofs := false) (disch := omega) [gz, ir508, b508, s1, s2, s7, g0, g1, g2, wrap64, toPVs, frzVs, osVs, toPV]
  exact fin_nil ⟨rfl, rfl⟩
end Go.Aw.Try

namespace Go.Aw.Try
open Go Go.Proofs Go.Aw
set_option maxRecDepth 100000
theorem wdeps : ∀ l : List Id, dsz l + 2 * l.length ≤ wDss (l.map Id.row)
 | [] => by simp [dsz, wDss]
 | x :: l => by
  have := wdeps l
  simp only [List.map_cons, wDss, Id.row, wDs, wD, dsz, List.sum_cons, List.length_cons] at *; omega
theorem wedit (e : Edit) : gsz e ≤ 5 * wDs e.row := by
 have := wdeps e.deps
 simp only [Edit.row, wDs, wD, gsz]; omega
theorem wedits : ∀ l : List Edit, gtot l ≤ 5 * wDss (l.map Edit.row)
 | [] => by simp [gtot, wDss]
 | e :: l => by
  have h1 := wedits l
  have h2 := wedit e
  simp only [List.map_cons, wDss, gtot, List.sum_cons] at *; omega
theorem b_gtot {l : List Edit} (h : wDs [.sl (l.map Edit.row)] ≤ 1048576) : gtot l ≤ 5242880 := by
 simp only [wDs, wD] at h
 have := wedits l
 omega
end Go.Aw.Try
