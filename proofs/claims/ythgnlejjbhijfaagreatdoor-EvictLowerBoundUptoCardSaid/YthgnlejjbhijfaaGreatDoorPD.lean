/- An abstract machine over the model, and contracts of functions of this program on it (part 4): words and lemmas for the proof in the last text. -/
import Derived.Sort.Grow
import Derived.Sort.EncStr
import Derived.Lib.SlicesCompact
import Derived.Shelf.Lays
import Derived.Shelf.Strings.Split
import Derived.Test.YthgnlejjbhijfaaGreatDoorPC
set_option linter.unusedSimpArgs false
set_option linter.unusedVariables false
set_option linter.unusedSectionVars false

namespace Go.Aw
section
variable {E : Type}
/-- Blocks, one behind the other. -/
def flat (W : List (List E)) : List E := W.flatten
@[simp] theorem flat_nil : flat ([] : List (List E)) = [] := rfl
@[simp] theorem flat_cons {w : List E} {W : List (List E)} : flat (w :: W) = w ++ flat W := rfl
@[simp] theorem flat_app {W V : List (List E)} : flat (W ++ V) = flat W ++ flat V := List.flatten_append
theorem flat_len {k : Nat} : ∀ {W : List (List E)}, (∀ w ∈ W, w.length = k) → (flat W).length = W.length * k
 | [], _ => by simp
 | w :: W, h => by
  have := flat_len (W := W) fun w hw => h w (List.mem_cons_of_mem _ hw)
  have := h w List.mem_cons_self
  simp only [flat_cons, List.length_append, List.length_cons, Nat.succ_mul]; omega
end
end Go.Aw
namespace Go.Aw.Try
open Go Go.Proofs Go.Aw
set_option maxRecDepth 100000
set_option maxHeartbeats 4000000
section
variable {E : Type} [Inhabited E]
theorem k64 (row : E → List D) (hrow : ∀ e, RowOk 18 (row e)) (cmp : E → E → Int) (hp : Pre cmp) (f : Nat) (xf : XE) (hx : Contract Tryz.prog G0 f xf) (hsc : xf.sc = true) (hf1 : f ≠ 166) (hf2 : f ≠ 155)
  (hxg : ∀ a b, xf.g [.agg (row a), .agg (row b)] = some (True, .int .i64 (cmp a b))) (H : List O) (r : Nat) (hr : r < H.length) (es : List E) (hl : es.length < 1152921504606846976) :
  ACalls Tryz.prog G0 132 [.c (.os r 18 0 es.length), I es.length, .c (.fn f [])] (H.set r (.row 18 (es.map row)))
   fun t H' => t = .tup [] ∧ H' = H.set r (.row 18 ((ssort cmp es).map row)) := by
 refine acallsX (X := []) trivial tab hmix Tryz.func132 c64 (by rfl) fun hw => ?_
 obtain ⟨n, hn⟩ : ∃ n, n = es.length := ⟨_, rfl⟩
 rw [← hn]
 simp (implicitDefEqProofs := false) (disch := omega) [gz, ir64, b64, b64_0, b64_1, b64_2, wrap64]
 refine loopE (fun k s => ∃ (W : List (List E)) (R : List E) (a b : Nat), (∀ w ∈ W, w.length = 20 ∧ Srt cmp w) ∧ Flt cmp ((flat W) ++ R) es ∧ (flat W).length + R.length = n ∧ a = (flat W).length ∧ b = a + 20 ∧ k = n - a ∧
  s = ⟨ofL [(0, .v (.c (.os r 18 0 n))), (1, .int .i64 n), (2, .v (.c (.fn f []))), (6, .int .i64 20), (7, .int .i64 a), (8, .int .i64 b)], H.set r (.row 18 (((flat W) ++ R).map row))⟩)
  (fun s => ∃ (W : List (List E)) (R : List E) (a : Nat), (∀ w ∈ W, w.length = 20 ∧ Srt cmp w) ∧ Flt cmp ((flat W) ++ R) es ∧ (flat W).length + R.length = n ∧ a = (flat W).length ∧ R.length < 20 ∧
   AtS [(0, .v (.c (.os r 18 0 n))), (1, .int .i64 n), (2, .v (.c (.fn f []))), (6, .int .i64 20), (7, .int .i64 a)] (H.set r (.row 18 (((flat W) ++ R).map row))) s) ?_ ?_ ?_
 ·refine wk_keep [0, 1, 2, 6, 7, 8] ⟨_, [], es, 0, 20, by simp, by simpa using Flt.refl _, by simp; omega, rfl, rfl, rfl, ?_⟩
  simp
 ·rintro J L hJ hL k s ⟨W, R, a, b, hW, hF, hlen, ha, hb, rfl, rfl⟩
  by_cases hlt : b ≤ n
  ·obtain ⟨R1, R2, rfl, hR1⟩ := split_at R (n := 20) (by omega)
   simp only [List.length_append] at hlen
   have hc := k77 row hrow cmp f xf hx hsc hxg ((flat W) ++ (R1 ++ R2)) a b (by omega) (by simp; omega) (by simp; omega) H r hr
   have el : ((flat W) ++ (R1 ++ R2)).length = n := by simp; omega
   obtain ⟨w, q1, q2, q3, q4⟩ := ins_sorts (P := (flat W)) (u := R1) (S := R2) hp
   rw [List.append_assoc, ← ha, show a + R1.length = b by omega] at q1
   rw [el, q1] at hc
   simp (implicitDefEqProofs := false) (disch := omega) [gz, hlt, wrap64]
   simp only [List.map_append] at hc
   refine hc.mono ?_
   rintro t H' ⟨rfl, rfl⟩
   simp (implicitDefEqProofs := false) (disch := omega) [gz, callK, wrap64]
   subst hJ
   refine wk_keep [0, 1, 2, 6, 7, 8] ⟨n - b, by omega, W ++ [w], R2, b, b + 20, ?_, ?_, ?_, ?_, rfl, rfl, ?_⟩
   ·intro x hx
    rcases List.mem_append.1 hx with hx | hx
    ·exact hW x hx
    ·simp at hx; subst hx; exact ⟨by omega, q2⟩
   ·refine Flt.trans ?_ hF
    have := ((Flt.refl (cmp := cmp) (flat W)).app q3).app (Flt.refl (cmp := cmp) R2)
    simpa using this
   ·simp; omega
   ·simp; omega
   ·simp
  ·simp (implicitDefEqProofs := false) (disch := omega) [gz, hlt]
   subst hL
   refine ⟨W, R, a, hW, hF, hlen, ha, by omega, at_mk (by simp) (by simp)⟩
 ·rintro _ ⟨W, R, a, hW, hF, hlen, ha, hR, sl, rfl⟩
  have hc := k77 row hrow cmp f xf hx hsc hxg ((flat W) ++ R) a n (by omega) (by simp; omega) (by simp; omega) H r hr
  have el : ((flat W) ++ R).length = n := by simp; omega
  obtain ⟨w, q1, q2, q3, q4⟩ := ins_sorts (P := (flat W)) (u := R) (S := []) hp
  rw [List.append_nil, List.append_nil, ← ha, show a + R.length = n by omega] at q1
  rw [el, q1] at hc
  simp (implicitDefEqProofs := false) (disch := omega) [gz, b64_3, b64_4, wrap64]
  simp only [List.map_append] at hc
  refine hc.mono ?_
  rintro t H' ⟨rfl, rfl⟩
  simp (implicitDefEqProofs := false) (disch := omega) [gz, callK, wrap64]
  refine loopG (fun k s => ∃ (W : List (List E)) (l : List E) (bs a b : Nat), 0 < bs ∧ (∀ w ∈ W, w.length = bs ∧ Srt cmp w) ∧ l.length < bs ∧ Srt cmp l ∧ Flt cmp ((flat W) ++ l) es ∧ (flat W).length + l.length = n ∧ k = n - bs ∧
   s = ⟨ofL [(0, .v (.c (.os r 18 0 n))), (1, .int .i64 n), (2, .v (.c (.fn f []))), (6, .int .i64 bs)], H.set r (.row 18 (((flat W) ++ l).map row))⟩) ?_ ?_
  ·refine wk_keep [0, 1, 2, 6] ⟨_, W, w, 20, 0, 0, by omega, hW, by omega, q2, ?_, by omega, rfl, ?_⟩
   ·exact ((Flt.refl (cmp := cmp) (flat W)).app q3).trans hF
   ·simp
  ·rintro J hJ k s ⟨W, l, bs, a, b, hbs, hW, hl1, hl2, hF, hlen, rfl, rfl⟩
   have hfl := flat_len fun w hw => (hW w hw).1
   by_cases hlt : bs < n
   ·simp (implicitDefEqProofs := false) (disch := omega) [gz, hlt, wrap64]
    refine loopE (fun k s => ∃ (W2 W1 : List (List E)) (a b : Nat), (∀ w ∈ W2, w.length = 2 * bs ∧ Srt cmp w) ∧ (∀ w ∈ W1, w.length = bs ∧ Srt cmp w) ∧ Flt cmp ((flat W2) ++ ((flat W1) ++ l)) es ∧ (flat W2).length + ((flat W1).length + l.length) = n ∧
      a = (flat W2).length ∧ b = a + 2 * bs ∧ k = n - a ∧
      s = ⟨ofL [(0, .v (.c (.os r 18 0 n))), (1, .int .i64 n), (2, .v (.c (.fn f []))), (6, .int .i64 bs), (7, .int .i64 a), (8, .int .i64 b)], H.set r (.row 18 (((flat W2) ++ ((flat W1) ++ l)).map row))⟩)
     (fun s => ∃ (W2 W1 : List (List E)) (a : Nat), (∀ w ∈ W2, w.length = 2 * bs ∧ Srt cmp w) ∧ (∀ w ∈ W1, w.length = bs ∧ Srt cmp w) ∧ Flt cmp ((flat W2) ++ ((flat W1) ++ l)) es ∧ (flat W2).length + ((flat W1).length + l.length) = n ∧
      a = (flat W2).length ∧ n < a + 2 * bs ∧ AtS [(0, .v (.c (.os r 18 0 n))), (1, .int .i64 n), (2, .v (.c (.fn f []))), (6, .int .i64 bs), (7, .int .i64 a)] (H.set r (.row 18 (((flat W2) ++ ((flat W1) ++ l)).map row))) s) ?_ ?_ ?_
    ·refine wk_keep [0, 1, 2, 6, 7, 8] ⟨_, [], W, 0, 2 * bs, by simp, hW, by simpa using hF, by simp; omega, rfl, by omega, rfl, ?_⟩
     simp
    ·rintro J2 L2 hJ2 hL2 k s ⟨W2, W1, a, b, hW2, hW1, hF, hlen, ha, hb, rfl, rfl⟩
     have hfl1 := flat_len fun w hw => (hW1 w hw).1
     by_cases hlt2 : b ≤ n
     ·match W1 with
      | [] => simp at hlen hfl1; omega
      | [w1] => simp at hlen hfl1; omega
      | w1 :: w2 :: W1 =>
       have h1 := hW1 w1 (by simp)
       have h2 := hW1 w2 (by simp)
       have hc := k78 row hrow cmp hp f xf hx hsc hf1 hf2 hxg H r hr _ (flat W2) w1 w2 ((flat W1) ++ l) rfl (fun e => by subst e; simp at h1; omega) (fun e => by subst e; simp at h2; omega) h1.2 h2.2 (by simp at hlen ⊢; omega)
       have el : ((flat W2) ++ (w1 ++ (w2 ++ ((flat W1) ++ l)))).length = n := by simp at hlen ⊢; omega
       rw [el, show (flat W2).length + w1.length + w2.length = b by omega, h1.1, ← ha] at hc
       have c1 : ((a + bs : Nat) : Int) = (a : Int) + bs := by omega
       rw [c1] at hc
       simp (implicitDefEqProofs := false) (disch := omega) [gz, hlt2, wrap64]
       simp only [List.map_append] at hc
       refine hc.mono ?_
       rintro t H' ⟨rfl, w, hw, rfl⟩
       simp (implicitDefEqProofs := false) (disch := omega) [gz, callK, wrap64]
       subst hJ2
       have hwl := hw.2.2
       simp only [List.length_append] at hwl
       refine wk_keep [0, 1, 2, 6, 7, 8] ⟨n - b, by omega, W2 ++ [w], W1, b, b + 2 * bs, ?_, fun x hx => hW1 x (by simp [hx]), ?_, ?_, ?_, rfl, rfl, ?_⟩
       ·intro x hx
        rcases List.mem_append.1 hx with hx | hx
        ·exact hW2 x hx
        ·simp at hx; subst hx; exact ⟨by omega, hw.1⟩
       ·refine Flt.trans ?_ hF
        have := ((Flt.refl (cmp := cmp) (flat W2)).app hw.2.1).app (Flt.refl (cmp := cmp) ((flat W1) ++ l))
        simpa using this
       ·simp at hlen ⊢; omega
       ·simp; omega
       ·simp
     ·simp (implicitDefEqProofs := false) (disch := omega) [gz, hlt2]
      subst hL2
      exact ⟨W2, W1, a, hW2, hW1, hF, hlen, ha, by omega, at_mk (by simp) (by simp)⟩
    ·rintro _ ⟨W2, W1, a, hW2, hW1, hF, hlen, ha, hnb, sl, rfl⟩
     have hfl1 := flat_len fun w hw => (hW1 w hw).1
     by_cases hm : a + bs < n
     ·match W1 with
      | [] => simp at hlen hfl1; omega
      | w1 :: w2 :: W1 => simp [Nat.succ_mul] at hlen hfl1; omega
      | [w1] =>
       have h1 := hW1 w1 (by simp)
       simp only [flat_cons, flat_nil, List.append_nil] at hlen hF ⊢
       have hc := k78 row hrow cmp hp f xf hx hsc hf1 hf2 hxg H r hr _ (flat W2) w1 l [] rfl (fun e => by subst e; simp at h1; omega) (fun e => by subst e; simp at hlen; omega) h1.2 hl2 (by simp at hlen ⊢; omega)
       have el : ((flat W2) ++ (w1 ++ (l ++ []))).length = n := by simp at hlen ⊢; omega
       rw [el, show (flat W2).length + w1.length + l.length = n by omega, h1.1, ← ha] at hc
       have c1 : ((a + bs : Nat) : Int) = (a : Int) + bs := by omega
       rw [c1] at hc
       have hm' : (a : Int) + bs < n := by omega
       simp (implicitDefEqProofs := false) (disch := omega) [gz, hm', wrap64]
       simp only [List.map_append, List.append_nil] at hc
       refine hc.mono ?_
       rintro t H' ⟨rfl, w, hw, rfl⟩
       simp (implicitDefEqProofs := false) (disch := omega) [gz, callK, wrap64]
       subst hJ
       have hwl := hw.2.2
       simp only [List.length_append] at hwl
       refine wk_keep [0, 1, 2, 6] ⟨n - 2 * bs, by omega, W2, w, 2 * bs, 0, 0, by omega, hW2, by omega, hw.1, ?_, by omega, rfl, ?_⟩
       ·exact ((Flt.refl (cmp := cmp) (flat W2)).app hw.2.1).trans hF
       ·have c2 : ((2 * bs : Nat) : Int) = (bs : Int) * 2 := by omega
        simp [c2]
     ·have hm' : ¬ (a : Int) + bs < n := by omega
      simp (implicitDefEqProofs := false) (disch := omega) [gz, hm', wrap64]
      subst hJ
      have c2 : ((2 * bs : Nat) : Int) = (bs : Int) * 2 := by omega
      match W1 with
      | [] =>
       simp only [flat_nil, List.nil_append, List.length_nil, Nat.zero_add] at hlen hF
       refine wk_keep [0, 1, 2, 6] ⟨n - 2 * bs, by omega, W2, l, 2 * bs, 0, 0, by omega, hW2, by omega, hl2, hF, by omega, rfl, ?_⟩
       simp [c2]
      | w1 :: w2 :: W1 => simp [Nat.succ_mul] at hlen hfl1; omega
      | [w1] =>
       have h1 := hW1 w1 (by simp)
       simp only [flat_cons, flat_nil, List.append_nil] at hlen hF
       have : l = [] := List.length_eq_zero_iff.1 (by omega)
       subst this
       refine wk_keep [0, 1, 2, 6] ⟨n - 2 * bs, by omega, W2, w1, 2 * bs, 0, 0, by omega, hW2, by omega, h1.2, by simpa using hF, by simpa using hlen, rfl, ?_⟩
       simp [c2]
   ·simp (implicitDefEqProofs := false) (disch := omega) [gz, hlt]
    have hs : (flat W) ++ l = ssort cmp es := by
     refine ssort_of hp ?_ hF
     match W with
     | [] => simpa using hl2
     | [w1] =>
      have h1 := hW w1 (by simp)
      simp at hlen
      have : l = [] := List.length_eq_zero_iff.1 (by omega)
      subst this
      simpa using h1.2
     | w1 :: w2 :: W1 => simp [Nat.succ_mul] at hlen hfl; omega
    rw [← hs]
    exact fin_here (by simp) ⟨rfl, by simp⟩
theorem k44 (row : E → List D) (hrow : ∀ e, RowOk 18 (row e)) (cmp : E → E → Int) (hp : Pre cmp) (f : Nat) (xf : XE) (hx : Contract Tryz.prog G0 f xf) (hsc : xf.sc = true) (hf1 : f ≠ 166) (hf2 : f ≠ 155)
  (hxg : ∀ a b, xf.g [.agg (row a), .agg (row b)] = some (True, .int .i64 (cmp a b))) (H : List O) (r : Nat) (hr : r < H.length) (es : List E) (hl : es.length < 1152921504606846976) :
  ACalls Tryz.prog G0 99 [.c (.os r 18 0 es.length), .c (.fn f [])] (H.set r (.row 18 (es.map row)))
   fun t H' => t = .tup [] ∧ H' = H.set r (.row 18 ((ssort cmp es).map row)) := by
 refine acallsX (X := []) trivial tab hmix Tryz.func99 c44 (by rfl) fun hw => ?_
 simp (implicitDefEqProofs := false) (disch := omega) [gz, ir44, b44, wrap64]
 refine (k64 row hrow cmp hp f xf hx hsc hf1 hf2 hxg H r hr es hl).mono ?_
 rintro t H' ⟨rfl, rfl⟩
 simp only [callK]
 exact fin_here (by simp) ⟨rfl, rfl⟩
end
end Go.Aw.Try

namespace Go.Aw
open Go
theorem contract_sc {P : Program} {G : Gl} {f : Nat} {g : List PV → Option (Prop × T)} (h : ∀ ps ob t, g ps = some (ob, t) → ob → scT t = true ∧ ACalls P G f (ps.map PV.toV) [] (fun t' H' => t' = t ∧ H' = [])) : Contract P G f ⟨true, g⟩ := by
 intro ps ob t hg ho
 exact h ps ob t hg ho
end Go.Aw
namespace Go.Aw.Try
open Go Go.Proofs Go.Aw
set_option maxRecDepth 100000
set_option maxHeartbeats 4000000
theorem k65 (a : Int) : ACalls Tryz.prog G0 156 [I a] [] fun t H => t = .bool false ∧ H = [] := by
 refine acallsX (X := []) trivial tab hmix Tryz.func156 c65 (by rfl) fun hw => ?_
 simp (implicitDefEqProofs := false) (disch := omega) [gz, ir65, b65]
 exact fin_nil ⟨rfl, rfl⟩
def x65 : XE := ⟨true, fun ps => match ps with | [.c (.v (.int .i64 _))] => some (True, .bool false) | _ => none⟩
theorem kx65 : Contract Tryz.prog G0 156 x65 := contract_sc fun ps ob t h _ => by
 split at h
 ·rename_i a
  injection h with h; injection h with h1 h2; subst h2
  exact ⟨rfl, k65 a⟩
 ·cases h
theorem k48 (a b : Int) : ACalls Tryz.prog G0 134 [I a, I b] [] fun t H => t = .int .i64 (cmpI a b) ∧ H = [] := by
 refine acallsX (X := [(156, x65)]) ⟨kx65, trivial⟩ tab hmix Tryz.func134 c48 (by rfl) fun hw => ?_
 by_cases h1 : a < b
 ·simp (implicitDefEqProofs := false) (disch := omega) [gz, ir48, b48, x65, h1]
  exact fin_nil ⟨by simp [cmpI, h1], rfl⟩
 ·by_cases h2 : b < a
  ·simp (implicitDefEqProofs := false) (disch := omega) [gz, ir48, b48, x65, h1, h2]
   exact fin_nil ⟨by simp [cmpI, h1, h2], rfl⟩
  ·simp (implicitDefEqProofs := false) (disch := omega) [gz, ir48, b48, x65, h1, h2]
   exact fin_nil ⟨by simp [cmpI, h1, h2], rfl⟩
theorem kx48 : Contract Tryz.prog G0 134 x48 := contract_sc fun ps ob t h _ => by
 split at h
 ·rename_i a b
  injection h with h; injection h with h1 h2; subst h2
  exact ⟨rfl, k48 a b⟩
 ·cases h
theorem k66 (a b : ByteArray) : ACalls Tryz.prog G0 123 [Sx a, Sx b] [] fun t H => t = .int .i64 (cmpS a b) ∧ H = [] :=
 acalls_of_calls (xs := [.string a, .string b]) (callable_of Tryz.func123 (by kernel_rfl) (by kernel_rfl)) rfl (fun w => Try.calls66 a b w) []
def x66 : XE := ⟨true, fun ps => match ps with | [.c (.v (.string a)), .c (.v (.string b))] => some (True, .int .i64 (cmpS a b)) | _ => none⟩
theorem kx66 : Contract Tryz.prog G0 123 x66 := contract_sc fun ps ob t h _ => by
 split at h
 ·rename_i a b
  injection h with h; injection h with h1 h2; subst h2
  exact ⟨rfl, k66 a b⟩
 ·cases h
theorem k49 (a b : ByteArray) : ACalls Tryz.prog G0 86 [Sx a, Sx b] [] fun t H => t = .int .i64 (cmpS a b) ∧ H = [] := by
 refine acallsX (X := [(123, x66)]) ⟨kx66, trivial⟩ tab hmix Tryz.func86 c49 (by rfl) fun hw => ?_
 simp (implicitDefEqProofs := false) (disch := omega) [gz, ir49, b49, x66]
 exact fin_nil ⟨rfl, rfl⟩
theorem kx49 : Contract Tryz.prog G0 86 x49 := contract_sc fun ps ob t h _ => by
 split at h
 ·rename_i a b
  injection h with h; injection h with h1 h2; subst h2
  exact ⟨rfl, k49 a b⟩
 ·cases h
def x47' : XE := ⟨true, fun ps => match ps with | [.c (.sl xs)] => (match intsOf xs with | some l => some (xs.length < 4611686018427387904, .int .i64 (orI l)) | none => none) | _ => none⟩
theorem kx47 : Contract Tryz.prog G0 133 x47' := contract_sc fun ps ob t h ho => by
 split at h
 ·rename_i xs
  split at h
  ·rename_i l hl
   injection h with h; injection h with h1 h2; subst h2; subst h1
   have := intsOf_get hl
   subst this
   exact ⟨rfl, k47 l (by simpa using ho)⟩
  ·cases h
 ·cases h

def cmpE (a b : Edit) : Int := orI [cmpI a.clock b.clock, cmpS a.id.a b.id.a, cmpI a.id.n b.id.n]
theorem k21' (a b : Edit) : ACalls Tryz.prog G0 100 [.agg (a.row.map .d), .agg (b.row.map .d)] [] fun t H => t = .int .i64 (cmpE a b) ∧ H = [] := by
 refine acallsX (X := [(133, x47'), (134, x48), (86, x49)]) ⟨kx47, kx48, kx49, trivial⟩ tab hmix Tryz.func100 c21 (by rfl) fun hw => ?_
 simp [ir21, b21, wcodeX, wopsX, wopX, wlex, stepX, calleeOf, fop, foot, ev, cv, argSl, holes, thenQ, normQ, blockQ, St.put, putS_eq, binIF, retQ, resL, resV, resT, argsOf, nrm, nrmC, callX, callF, xget, x47', x48, x49, toBVs, mapO, toBV, toB, toD, condP, Edit.row, V.known, V.cells, ptrTo, valOf, fillR, toDs, frz, frz1, apW, addH, osT, osR, borVs, borV, borC, intsOf]
 repeat' apply And.intro
 all_goals first | omega | kernel_rfl | skip
 exact fin_nil ⟨rfl, rfl⟩
def x21 : XE := ⟨true, fun ps => match ps with
 | [.agg (.v (.string a1) :: .v (.int .i64 n1) :: .v (.int .i64 c1) :: _), .agg (.v (.string a2) :: .v (.int .i64 n2) :: .v (.int .i64 c2) :: _)] =>
  some (∃ a b : Edit, ps = [.agg a.row, .agg b.row], .int .i64 (orI [cmpI c1 c2, cmpS a1 a2, cmpI n1 n2]))
 | _ => none⟩
theorem kx21 : Contract Tryz.prog G0 100 x21 := contract_sc fun ps ob t h ho => by
 split at h
 ·rename_i a1 n1 c1 r1 a2 n2 c2 r2
  injection h with h; injection h with h1 h2; subst h2; subst h1
  obtain ⟨a, b, e⟩ := ho
  refine ⟨rfl, ?_⟩
  have := k21' a b
  rw [e]
  simp only [Edit.row, List.cons.injEq, PVo.agg.injEq, D.v.injEq, Value.string.injEq, Value.int.injEq, true_and] at e
  obtain ⟨⟨e1, e2, e3, _⟩, ⟨e4, e5, e6, _⟩, _⟩ := e
  subst e1 e2 e3 e4 e5 e6
  exact this
 ·cases h
theorem xg21 (a b : Edit) : x21.g [.agg a.row, .agg b.row] = some (True, .int .i64 (cmpE a b)) := by
 show some (∃ a' b' : Edit, [PVo.agg a.row, .agg b.row] = [.agg a'.row, .agg b'.row], T.int .i64 (cmpE a b)) = _
 rw [show (∃ a' b' : Edit, [PVo.agg a.row, .agg b.row] = [.agg a'.row, .agg b'.row]) = True from eq_true ⟨a, b, rfl⟩]
theorem erow (e : Edit) : RowOk 18 e.row := ⟨rfl, fun d hd c h => by subst h; simp [Edit.row] at hd⟩
/-- The closure of Sort. -/
theorem k46 (a b : Edit) : ACalls Tryz.prog G0 102 [.agg (a.row.map .d), .agg (b.row.map .d)] [] fun t H => t = .bool (decide (cmpE a b = 0)) ∧ H = [] := by
 refine acallsX (X := [(100, x21)]) ⟨kx21, trivial⟩ tab hmix Tryz.func102 c46 (by rfl) fun hw => ?_
 have hsc : x21.sc = true := rfl
 simp (implicitDefEqProofs := false) (disch := omega) [gz, ir46, b46, (erow _).len, take_of_len, (erow _).mapO, (erow _).tk, (erow _).nrm, borRow, (erow _).cl, borV_map, osR_map, frz_map, hsc, xg21]
 exact fin_nil ⟨rfl, rfl⟩
def x46 : XE := ⟨true, fun ps => match ps with
 | [.agg (.v (.string a1) :: .v (.int .i64 n1) :: .v (.int .i64 c1) :: _), .agg (.v (.string a2) :: .v (.int .i64 n2) :: .v (.int .i64 c2) :: _)] =>
  some (∃ a b : Edit, ps = [.agg a.row, .agg b.row], .bool (decide (orI [cmpI c1 c2, cmpS a1 a2, cmpI n1 n2] = 0)))
 | _ => none⟩
theorem kx46 : Contract Tryz.prog G0 102 x46 := contract_sc fun ps ob t h ho => by
 split at h
 ·rename_i a1 n1 c1 r1 a2 n2 c2 r2
  injection h with h; injection h with h1 h2; subst h2; subst h1
  obtain ⟨a, b, e⟩ := ho
  refine ⟨rfl, ?_⟩
  have := k46 a b
  rw [e]
  simp only [Edit.row, List.cons.injEq, PVo.agg.injEq, D.v.injEq, Value.string.injEq, Value.int.injEq, true_and] at e
  obtain ⟨⟨e1, e2, e3, _⟩, ⟨e4, e5, e6, _⟩, _⟩ := e
  subst e1 e2 e3 e4 e5 e6
  exact this
 ·cases h
theorem xg46 (a b : Edit) : x46.g [.agg a.row, .agg b.row] = some (True, .bool (decide (cmpE a b = 0))) := by
 show some (∃ a' b' : Edit, [PVo.agg a.row, .agg b.row] = [.agg a'.row, .agg b'.row], T.bool (decide (cmpE a b = 0))) = _
 rw [show (∃ a' b' : Edit, [PVo.agg a.row, .agg b.row] = [.agg a'.row, .agg b'.row]) = True from eq_true ⟨a, b, rfl⟩]
end Go.Aw.Try

namespace Go.Aw
open Go

/-- An own row was laid behind the regions. -/
def Own (H : List O) (sz : Nat) (rows : List (List D)) : T → List O → Prop := fun t H' => t = .v (.c (.os H.length sz 0 rows.length)) ∧ H' = H ++ [.row sz rows]

section
variable {P : Program} {G : Gl} {N0 : Nat}

theorem fin_own {H L : List O} {k sz n : Nat} {rows : List (List D)} (hw : Wf H) (hk : L[k]? = some (.row sz rows)) (hn : n = rows.length) :
  Fin P H.length (Own H sz rows) (.v (.c (.os (H.length + k) sz 0 n))) (H ++ L) := by
 subst hn
 have hlt : k < L.length := (List.getElem?_eq_some_iff.1 hk).1
 refine fin_pre [k] hw (by simp [selB, phi, hlt]) ?_
 have e1 : phiP H.length [k] (H.length + k) = some H.length := by simp [phiP, phi]; omega
 have e2 : L.getD k .dead = .row sz rows := by rw [List.getD_eq_getElem?_getD, hk]; rfl
 refine ⟨?_, ?_⟩
 ·show T.v (V.c (C.ren _ _)) = _
  simp only [C.ren, e1]
 ·simp only [List.map_cons, List.map_nil, e2]; rfl

/-- A nil slice, told as an own row without elements. -/
theorem fweak_nil_os {H : List O} {sz : Nat} (hsz : 0 < sz) (hN : N0 ≤ H.length) : FWeak P N0 (.v (.c (.d (.v (.slice none 0 0))))) H (.v (.c (.os H.length sz 0 0))) (H ++ [.row sz []]) := by
 refine ⟨by simp; omega, fun ρ w v hH ht => ?_⟩
 have hρ : ρ H.length = none := by
  cases h : ρ H.length with
  | none => rfl
  | some b => have := (hH.small _ _ h).1; omega
 have hst : ∀ b, stab ρ H w b ↔ stab ρ (H ++ [.row sz []]) w b := fun b => by
  constructor
  ·rintro ⟨h1, h2⟩
   refine ⟨h1, fun r o hr hl => ?_⟩
   rw [List.getElem?_append] at hr
   split at hr
   ·exact h2 r o hr hl
   ·have : r = H.length := by
     have := (List.getElem?_eq_some_iff.1 hr).1; simp at this; omega
    subst this; rw [hρ]; simp
  ·rintro ⟨h1, h2⟩
   refine ⟨h1, fun r o hr hl => h2 r o ?_ hl⟩
   rw [List.getElem?_append, if_pos (List.getElem?_eq_some_iff.1 hr).1]; exact hr
 have hle : (ctx ρ H w).le (ctx ρ (H ++ [.row sz []]) w) := ⟨fun _ _ h => h, by simp [ctx], ⟨fun b hb => (hst b).1 hb, fun _ _ => rfl, Nat.le_refl _, fun _ _ _ h => h, rfl, rfl, rfl⟩⟩
 refine ⟨ρ, ⟨?_, ?_, ?_⟩, ?_, fun _ _ => rfl, fun b hb => (hst b).1 hb⟩
 ·intro r o hr
  rw [List.getElem?_append] at hr
  split at hr
  ·exact (hH.objs r o hr).mono hle fun _ a ha => rfl
  ·have : r = H.length := by
    have := (List.getElem?_eq_some_iff.1 hr).1; simp at this; omega
   subst this
   simp at hr; subst hr
   exact ⟨hsz, .inl ⟨hρ, rfl⟩⟩
 ·intro r r' o o' b hr hr' hl hl' h1 h2
  have lt : ∀ r b, ρ r = some b → r < H.length := fun r b h => (hH.small r b h).1
  rw [List.getElem?_append, if_pos (lt _ _ h1)] at hr
  rw [List.getElem?_append, if_pos (lt _ _ h2)] at hr'
  exact hH.inj r r' o o' b hr hr' hl hl' h1 h2
 ·intro r b h
  have := hH.small r b h
  exact ⟨by simp; omega, this.2⟩
 ·rw [trel_val ht]
  exact ⟨by simp [ctx], .inl ⟨rfl, none, rfl⟩⟩
theorem fin_own_nil {H : List O} {sz : Nat} {L : List O} (hw : Wf H) (hsz : 0 < sz) : Fin P H.length (Own H sz []) (.v (.c (.d (.v (.slice none 0 0))))) (H ++ L) := by
 have h1 : Fin P H.length (fun t H' => t = .v (.c (.d (.v (.slice none 0 0)))) ∧ H' = H) (.v (.c (.d (.v (.slice none 0 0))))) (H ++ L) := by
  have := fin_pre (P := P) (R := fun t H' => t = .v (.c (.d (.v (.slice none 0 0)))) ∧ H' = H) (t := .v (.c (.d (.v (.slice none 0 0))))) (H := H) (L := L) [] hw rfl ⟨rfl, by simp⟩
  exact this
 obtain ⟨t', H', a, b, c⟩ := h1
 subst b; subst c
 exact ⟨_, _, a.trans (fweak_nil_os hsz (Nat.le_refl _)), rfl, rfl⟩

/-- The front of a row. -/
theorem fweak_take {t : T} {H : List O} {r sz : Nat} {xs ys : List (List D)} (hr : H[r]? = some (.row sz (xs ++ ys))) (hN : N0 ≤ H.length) : FWeak P N0 t H t (H.set r (.row sz xs)) := by
 have hlt : r < H.length := (List.getElem?_eq_some_iff.1 hr).1
 refine ⟨by simpa using hN, fun ρ w v hH ht => ?_⟩
 have hget : ∀ i, (H.set r (.row sz xs))[i]? = if i = r then some (.row sz xs) else H[i]? := fun i => by
  rw [List.getElem?_set]
  by_cases h : r = i
  ·subst h; simp [hlt]
  ·rw [if_neg h, if_neg fun e => h e.symm]
 have hst : ∀ b, stab ρ H w b ↔ stab ρ (H.set r (.row sz xs)) w b := fun b => by
  constructor
  ·rintro ⟨h1, h2⟩
   refine ⟨h1, fun i o hi hl => ?_⟩
   rw [hget] at hi
   split at hi
   ·rename_i e; subst e; exact h2 i _ hr rfl
   ·exact h2 i o hi hl
  ·rintro ⟨h1, h2⟩
   refine ⟨h1, fun i o hi hl => ?_⟩
   by_cases e : i = r
   ·subst e; exact h2 i (.row sz xs) (by rw [hget]; simp) rfl
   ·exact h2 i o (by rw [hget, if_neg e]; exact hi) hl
 have hle : (ctx ρ H w).le (ctx ρ (H.set r (.row sz xs)) w) := ⟨fun _ _ h => h, by simp [ctx], ⟨fun b hb => (hst b).1 hb, fun _ _ => rfl, Nat.le_refl _, fun _ _ _ h => h, rfl, rfl, rfl⟩⟩
 refine ⟨ρ, ⟨?_, ?_, ?_⟩, ht.mono hle, fun _ _ => rfl, fun b hb => (hst b).1 hb⟩
 ·intro i o hi
  rw [hget] at hi
  split at hi
  ·rename_i e; subst e
   injection hi with hi; subst hi
   obtain ⟨h0, h1⟩ := (hH.objs i _ hr).mono hle fun _ a ha => rfl
   refine ⟨h0, ?_⟩
   rcases h1 with ⟨a, b⟩ | ⟨a, c, e, h1, h2, h3⟩
   ·exact .inl ⟨a, (List.append_eq_nil_iff.1 b).1⟩
   ·refine .inr ⟨a, c, e, h1, h2, ?_, fun x hx => h3.2.1 x (List.mem_append_left _ hx), fun i x j d hi hj => h3.2.2 i x j d ?_ hj⟩
    ·have := h3.1
     rw [List.length_append, Nat.add_mul] at this; omega
    ·rw [List.getElem?_append, if_pos (List.getElem?_eq_some_iff.1 hi).1]; exact hi
  ·exact (hH.objs i o hi).mono hle fun _ a ha => rfl
 ·intro i i' o o' b hi hi' hl hl' h1 h2
  have key : ∀ (i : Nat) (o : O), (H.set r (.row sz xs))[i]? = some o → o.live = true → ∃ o' : O, H[i]? = some o' ∧ o'.live = true := fun i o hi hl => by
   rw [hget] at hi
   split at hi
   ·rename_i e; subst e; exact ⟨_, hr, rfl⟩
   ·exact ⟨o, hi, hl⟩
  obtain ⟨q, hq, hql⟩ := key i o hi hl
  obtain ⟨q', hq', hql'⟩ := key i' o' hi' hl'
  exact hH.inj i i' q q' b hq hq' hql hql' h1 h2
 ·intro i b h
  have := hH.small i b h
  exact ⟨by simpa using this.1, this.2⟩
theorem set_snoc {H : List O} {o o' : O} : (H ++ [o]).set H.length o' = H ++ [o'] := by rw [app_set0]; rfl
end
end Go.Aw

namespace Go.Aw
section
variable {E : Type} [Inhabited E]
/-- Of neighbours that are equal, the first. -/
def cmptF (eqb : E → E → Bool) : E → List E → List E
 | _, [] => []
 | p, x :: l => if eqb x p then cmptF eqb x l else x :: cmptF eqb x l
def cmpt (eqb : E → E → Bool) : List E → List E
 | [] => []
 | x :: l => x :: cmptF eqb x l
theorem splice_front {α : Type} (xs : List α) (q : Nat) (zs : List α) : ∃ Z, splice xs q zs = xs.take q ++ Z := ⟨zs ++ xs.drop (q + zs.length), by simp [splice]⟩
theorem drop_nth {l : List E} {k : Nat} (h : k < l.length) : l.drop k = nth l k :: l.drop (k + 1) := by
 rw [List.drop_eq_getElem_cons h]; congr 1; simp [nth, List.getD_eq_getElem?_getD, h]
theorem take_nth {l : List E} {k : Nat} (h : k < l.length) : l.take (k + 1) = l.take k ++ [nth l k] := by
 rw [List.take_add_one, get_nth h]; rfl
theorem take_set_nth {l : List E} {k : Nat} {x : E} (h : k < l.length) : (l.set k x).take (k + 1) = l.take k ++ [x] := by
 rw [take_nth (by simpa using h), List.take_set_of_le (Nat.le_refl _)]
 congr 1
 simp [nth, List.getD_eq_getElem?_getD, h]
theorem cmpt_one (eqb : E → E → Bool) {l : List E} (h : 0 < l.length) : cmpt eqb l = l.take 1 ++ cmptF eqb (nth l 0) (l.drop 1) := by
 cases l with
 | nil => simp at h
 | cons x l => rfl
theorem cmptF_step (eqb : E → E → Bool) {l : List E} {k : Nat} {p : E} (h : k < l.length) : cmptF eqb p (l.drop k) = if eqb (nth l k) p then cmptF eqb (nth l k) (l.drop (k + 1)) else nth l k :: cmptF eqb (nth l k) (l.drop (k + 1)) := by
 rw [drop_nth h]; rfl
theorem nth_of_drop {l l' : List E} {a k : Nat} (h : l.drop a = l'.drop a) (hk : a ≤ k) : nth l k = nth l' k := by
 have e1 : nth (l.drop a) (k - a) = nth l k := by rw [nth_drop]; congr 1; omega
 have e2 : nth (l'.drop a) (k - a) = nth l' k := by rw [nth_drop]; congr 1; omega
 rw [← e1, ← e2, h]
theorem drop_more {l l' : List E} {a b : Nat} (h : l.drop a = l'.drop a) (hk : a ≤ b) : l.drop b = l'.drop b := by
 have := congrArg (List.drop (b - a)) h
 rw [List.drop_drop, List.drop_drop] at this
 rwa [show a + (b - a) = b by omega] at this
end
end Go.Aw
namespace Go.Aw.Try
open Go Go.Proofs Go.Aw
set_option maxRecDepth 100000
set_option maxHeartbeats 4000000
section
variable {E : Type} [Inhabited E]
theorem k43 (row : E → List D) (hrow : ∀ e, RowOk 18 (row e)) (es : List E) (hl : es.length < 68719476736) (H : List O) :
  ACalls Tryz.prog G0 98 [.c (.d (.sl (es.map row)))] H (Own H 18 (es.map row)) := by
 refine acallsX (X := []) trivial tab hmix Tryz.func98 c43 (by rfl) fun hw => ?_
 simp (implicitDefEqProofs := false) (disch := omega) [gz, ir43, b43, wrap64, elems, maxLen47]
 refine ⟨⟨⟨by omega, fun e _ => (hrow e).len⟩, ?_⟩, ?_⟩
 ·exact fin_own (L := [O.dead, O.row 18 (es.map row)]) (k := 1) hw rfl (by simp)
 ·intro h
  subst h
  have := fin_own_nil (P := Tryz.prog) (H := H) (sz := 18) (L := []) hw (by omega)
  simpa using this

theorem k45 (row : E → List D) (hrow : ∀ e, RowOk 18 (row e)) (eqb : E → E → Bool) (f : Nat) (xf : XE) (hx : Contract Tryz.prog G0 f xf) (hsc : xf.sc = true)
  (hxg : ∀ a b, xf.g [.agg (row a), .agg (row b)] = some (True, .bool (eqb a b))) (es : List E) (hl : es.length < 4611686018427387904) (H : List O) (r : Nat) (hr : r < H.length) :
  ACalls Tryz.prog G0 101 [.c (.os r 18 0 es.length), .c (.fn f [])] (H.set r (.row 18 (es.map row))) fun t H' => t = .v (.c (.os r 18 0 (cmpt eqb es).length)) ∧ H' = H.set r (.row 18 ((cmpt eqb es).map row)) := by
 refine acallsX (X := [(f, xf)]) ⟨hx, trivial⟩ tab hmix Tryz.func101 c45 (by rfl) fun hw => ?_
 obtain ⟨n, hn⟩ : ∃ n, n = es.length := ⟨_, rfl⟩
 rw [← hn]
 by_cases h2 : n < 2
 ·have h2' : (n : Int) < 2 := by omega
  simp (implicitDefEqProofs := false) (disch := omega) [gz, ir45, b45, b45_0, b45_1, wrap64, h2']
  have : cmpt eqb es = es := by
   match es with
   | [] => rfl
   | [x] => rfl
   | x :: y :: l => simp at hn; omega
  rw [this, ← hn]
  exact fin_here (by simp) ⟨rfl, rfl⟩
 ·have h2' : ¬ (n : Int) < 2 := by omega
  have h0 := cmpt_one eqb (l := es) (by omega)
  simp (implicitDefEqProofs := false) (disch := omega) [gz, ir45, b45, b45_0, b45_1, b45_2, wrap64, h2']
  refine loopG (fun c s => ∃ k, 1 ≤ k ∧ k ≤ n ∧ c = n - k ∧ cmpt eqb es = es.take k ++ cmptF eqb (nth es (k - 1)) (es.drop k) ∧
   s = ⟨ofL [(0, .v (.c (.os r 18 0 n))), (1, .v (.c (.fn f []))), (5, .int .i64 k)], H.set r (.row 18 (es.map row))⟩) ?_ ?_
  ·refine wk_keep [0, 1, 5] ⟨_, 1, by omega, by omega, rfl, h0, ?_⟩
   simp
  ·rintro J hJ c s ⟨k, hk1, hkn, rfl, hc, rfl⟩
   by_cases hlt : k < n
   ·have n1 : ((k : Int) - 1).toNat = k - 1 := by omega
    have hst := cmptF_step eqb (l := es) (k := k) (p := nth es (k - 1)) (by omega)
    simp (implicitDefEqProofs := false) (disch := omega) [gz, hlt, wrap64, n1, hr, nth_map, (hrow _).len, take_of_len, (hrow _).mapO, (hrow _).tk, (hrow _).nrm, borRow, (hrow _).cl, borV_map, osR_map, frz_map, nth_set_ne, (hrow _).spl (hrow _), hsc, hxg]
    repeat' apply And.intro
    all_goals first | omega | kernel_rfl | skip
    ·intro heq
     rw [if_pos heq] at hst
     rw [hst] at hc
     refine ⟨by omega, ?_⟩
     refine loopE (fun c s => ∃ (k2 q : Nat) (es' : List E), 1 ≤ k2 ∧ k + k2 ≤ n ∧ c = n - (k + k2) ∧ q + 1 ≤ k + k2 ∧ es'.length = n ∧ es'.drop (k + k2 - 1) = es.drop (k + k2 - 1) ∧ cmpt eqb es = es'.take q ++ cmptF eqb (nth es (k + k2 - 1)) (es.drop (k + k2)) ∧
       s = ⟨ofL [(0, .v (.c (.os r 18 0 n))), (1, .v (.c (.fn f []))), (5, .int .i64 q), (6, .v (.c (.os r 18 k (n - k)))), (7, .int .i64 k2)], H.set r (.row 18 (es'.map row))⟩)
      (fun s => ∃ (q : Nat) (es' : List E), q ≤ n ∧ es'.length = n ∧ cmpt eqb es = es'.take q ∧ AtS [(0, .v (.c (.os r 18 0 n))), (1, .v (.c (.fn f []))), (5, .int .i64 q)] (H.set r (.row 18 (es'.map row))) s) ?_ ?_ ?_
     ·refine wk_keep [0, 1, 5, 6, 7] ⟨_, 1, k, es, by omega, by omega, rfl, by omega, hn.symm, rfl, hc, ?_⟩
      simp
     ·rintro J2 L2 hJ2 hL2 c s ⟨k2, q, es', g1, g2, rfl, g3, hl', g4, g5, rfl⟩
      by_cases hlt2 : k + k2 < n
      ·have c1 : ((n - k : Nat) : Int) = (n : Int) - k := by omega
       have hlt2' : k2 < n - k := by omega
       have n2 : ((k2 : Int) - 1).toNat = k2 - 1 := by omega
       have e1 : nth es' (k + k2) = nth es (k + k2) := nth_of_drop g4 (by omega)
       have e2 : nth es' (k + (k2 - 1)) = nth es (k + k2 - 1) := by rw [show k + (k2 - 1) = k + k2 - 1 by omega]; exact nth_of_drop g4 (by omega)
       have hst := cmptF_step eqb (l := es) (k := k + k2) (p := nth es (k + k2 - 1)) (by omega)
       simp (implicitDefEqProofs := false) (disch := omega) [gz, hlt2', wrap64, n2, hl', e1, e2, hr, nth_map, (hrow _).len, take_of_len, (hrow _).mapO, (hrow _).tk, (hrow _).nrm, borRow, (hrow _).cl, borV_map, osR_map, frz_map, nth_set_ne, (hrow _).spl (hrow _), hsc, hxg]
       repeat' apply And.intro
       all_goals first | omega | kernel_rfl | skip
       ·intro hb
        rw [if_neg (by simp [hb])] at hst
        repeat' apply And.intro
        all_goals first | omega | skip
        subst hJ2
        refine wk_keep [0, 1, 5, 6, 7] ⟨n - (k + (k2 + 1)), by omega, k2 + 1, q + 1, es'.set q (nth es (k + k2)), by omega, by omega, rfl, by omega, by simpa using hl', ?_, ?_, ?_⟩
        ·rw [List.drop_set_of_lt (by omega)]
         exact drop_more g4 (by omega)
        ·rw [take_set_nth (by omega), g5, hst]
         simp [Nat.add_assoc]
        ·simp [List.map_set]
       ·intro hb
        rw [if_pos hb] at hst
        subst hJ2
        refine wk_keep [0, 1, 5, 6, 7] ⟨n - (k + (k2 + 1)), by omega, k2 + 1, q, es', by omega, by omega, rfl, by omega, hl', drop_more g4 (by omega), ?_, ?_⟩
        ·rw [g5, hst]; simp [Nat.add_assoc]
        ·simp
      ·have hlt2' : ¬ k2 < n - k := by omega
       simp (implicitDefEqProofs := false) (disch := omega) [gz, hlt2', wrap64]
       subst hL2
       refine ⟨q, es', by omega, hl', ?_, at_mk (by simp) rfl⟩
       rw [g5, List.drop_eq_nil_of_le (by omega)]; simp [cmptF]
     ·rintro _ ⟨q, es', hq, hl', g5, sl, rfl⟩
      simp (implicitDefEqProofs := false) (disch := omega) [gz, wrap64, hl', hr]
      repeat' apply And.intro
      all_goals first | omega | skip
      have hq2 : (cmpt eqb es).length = q := by rw [g5, List.length_take]; omega
      obtain ⟨Z, hZ⟩ := splice_front (es'.map row) q (List.replicate (n - q)
       [D.v (Value.string { data := #[] }), D.v (Value.int IntKind.i64 0), D.v (Value.int IntKind.i64 0), D.v (Value.int IntKind.i64 0), D.v (Value.slice none 0 0), D.v (Value.int IntKind.i64 0),
       D.v (Value.string { data := #[] }), D.v (Value.int IntKind.i64 0), D.v (Value.string { data := #[] }), D.v (Value.int IntKind.i64 0), D.v (Value.bool false), D.v (Value.string { data := #[] }),
       D.v (Value.string { data := #[] }), D.v (Value.string { data := #[] }), D.v (Value.string { data := #[] }), D.v (Value.string { data := #[] }), D.v (Value.int IntKind.i64 0), D.v (Value.string { data := #[] })])
      rw [hZ]
      refine fin_weak (fweak_take (r := r) (sz := 18) (xs := (es'.map row).take q) (ys := Z) (by simp [hr]) (by simp)) (fin_here (by simp) ⟨by rw [hq2], by simp [g5, List.map_take]⟩)
    ·intro hneq
     rw [if_neg (by simp [hneq])] at hst
     subst hJ
     refine wk_keep [0, 1, 5] ⟨n - (k + 1), by omega, k + 1, by omega, by omega, rfl, ?_, ?_⟩
     ·rw [hc, hst, take_nth (by omega)]; simp
     ·simp
   ·have : k = n := by omega
    subst this
    simp (implicitDefEqProofs := false) (disch := omega) [gz, hlt, b45_3, b45_4, wrap64]
    have e : cmpt eqb es = es := by rw [hc, List.drop_eq_nil_of_le (by omega), List.take_of_length_le (by omega)]; simp [cmptF]
    rw [e, ← hn]
    exact fin_here (by simp) ⟨rfl, rfl⟩

end
instance : Inhabited Edit := ⟨⟨⟨⟨#[]⟩, 0⟩, 0, 0, [], 0, ⟨⟨#[]⟩, 0⟩, ⟨⟨#[]⟩, 0⟩, false, ⟨#[]⟩, ⟨#[]⟩, ⟨#[]⟩, ⟨#[]⟩, ⟨⟨#[]⟩, 0⟩, ⟨#[]⟩⟩⟩
theorem cmpI_pre : Pre cmpI := ⟨fun a b => by unfold cmpI; (repeat' split) <;> omega, fun a b c => by unfold cmpI; (repeat' split) <;> omega⟩
theorem cmpE_pre : Pre cmpE := by
 have key : ∀ x y : Int, (orI [x, y, 0] : Int) = if x ≠ 0 then x else y := fun x y => by simp only [orI]; (repeat' split) <;> simp_all
 constructor
 ·intro a b
  have h1 := cmpI_pre.sgn a.clock b.clock
  have h1' := cmpI_pre.sgn b.clock a.clock
  have h2 := cmpS_pre.sgn a.id.a b.id.a
  have h2' := cmpS_pre.sgn b.id.a a.id.a
  have h3 := cmpI_pre.sgn a.id.n b.id.n
  simp only [cmpE, orI]
  (repeat' split) <;> omega
 ·intro a b c h k
  have h1 := cmpI_pre.tr a.clock b.clock c.clock
  have h1' := cmpI_pre.sgn a.clock b.clock
  have h1a := cmpI_pre.sgn b.clock a.clock
  have h1b := cmpI_pre.sgn c.clock b.clock
  have h1c := cmpI_pre.sgn a.clock c.clock
  have h1d := cmpI_pre.sgn c.clock a.clock
  have h1e := cmpI_pre.sgn b.clock c.clock
  have h1f := cmpI_pre.tr c.clock b.clock a.clock
  have g1 := cmpI_pre.tr c.clock a.clock b.clock
  have g2 := cmpI_pre.tr b.clock c.clock a.clock
  have h2 := cmpS_pre.tr a.id.a b.id.a c.id.a
  have h2' := cmpS_pre.sgn a.id.a b.id.a
  have h2a := cmpS_pre.sgn b.id.a a.id.a
  have h2b := cmpS_pre.sgn c.id.a b.id.a
  have h2c := cmpS_pre.sgn a.id.a c.id.a
  have h2d := cmpS_pre.sgn c.id.a a.id.a
  have h2e := cmpS_pre.sgn b.id.a c.id.a
  have g3 := cmpS_pre.tr c.id.a a.id.a b.id.a
  have g4 := cmpS_pre.tr b.id.a c.id.a a.id.a
  have h3 := cmpI_pre.tr a.id.n b.id.n c.id.n
  simp only [cmpE, orI] at h k ⊢
  generalize cmpI a.clock b.clock = x1 at *
  generalize cmpI b.clock c.clock = x2 at *
  generalize cmpI a.clock c.clock = x3 at *
  generalize cmpS a.id.a b.id.a = y1 at *
  generalize cmpS b.id.a c.id.a = y2 at *
  generalize cmpS a.id.a c.id.a = y3 at *
  generalize cmpI a.id.n b.id.n = z1 at *
  generalize cmpI b.id.n c.id.n = z2 at *
  generalize cmpI a.id.n c.id.n = z3 at *
  generalize cmpI b.clock a.clock = x1' at *
  generalize cmpI c.clock b.clock = x2' at *
  generalize cmpI c.clock a.clock = x3' at *
  generalize cmpS b.id.a a.id.a = y1' at *
  generalize cmpS c.id.a b.id.a = y2' at *
  generalize cmpS c.id.a a.id.a = y3' at *
  (repeat' split at h) <;> (repeat' split at k) <;> (repeat' split) <;> omega
/-- Sort's result. -/
def sortE (l : List Edit) : List Edit := cmpt (fun a b => decide (cmpE a b = 0)) (ssort cmpE l)
def Edit.rows (l : List Edit) : List (List D) := l.map Edit.row
theorem k20 (es : List Edit) (hl : es.length < 68719476736) (H : List O) : ACalls Tryz.prog G0 57 [.c (.d (.sl (es.map Edit.row)))] H (Own H 18 ((sortE es).map Edit.row)) := by
 refine acallsX (X := []) trivial tab hmix Tryz.func57 c20 (by rfl) fun hw => ?_
 simp (implicitDefEqProofs := false) (disch := omega) [gz, ir20, b20]
 refine (k43 Edit.row erow es hl H).mono ?_
 rintro t H' ⟨rfl, rfl⟩
 have e0 : (es.map Edit.row).length = es.length := by simp
 rw [e0]
 simp (implicitDefEqProofs := false) (disch := omega) [gz, callK]
 have h1 := k44 Edit.row erow cmpE cmpE_pre 100 x21 kx21 rfl (by decide) (by decide) xg21 (H ++ [.row 18 []]) H.length (by simp) es (by omega)
 rw [set_snoc] at h1
 refine h1.mono ?_
 rintro t H' ⟨rfl, rfl⟩
 rw [set_snoc]
 simp (implicitDefEqProofs := false) (disch := omega) [gz, callK]
 have h2 := k45 Edit.row erow (fun a b => decide (cmpE a b = 0)) 102 x46 kx46 rfl xg46 (ssort cmpE es) (by rw [ssort_len]; omega) (H ++ [.row 18 []]) H.length (by simp)
 rw [set_snoc, ssort_len] at h2
 refine h2.mono ?_
 rintro t H' ⟨rfl, rfl⟩
 rw [set_snoc]
 simp (implicitDefEqProofs := false) (disch := omega) [gz, callK]
 exact fin_here (by simp) ⟨by simp [sortE], rfl⟩
end Go.Aw.Try

namespace Go.Aw
open Go
def V.lt (n : Nat) : V → Prop
 | .c x => x.lt n
 | .agg cs => ∀ c ∈ cs, c.lt n
 | .any => True
def T.lt (n : Nat) : T → Prop
 | .v x => x.lt n
 | .tup vs => ∀ v ∈ vs, v.lt n
theorem V.ren_id {φ : Nat → Option Nat} {n : Nat} (hφ : ∀ r, r < n → φ r = some r) {v : V} (h : v.lt n) : v.ren φ = v := by
 cases v with
 | c c => simp only [V.ren, C.ren_id hφ h]
 | agg cs =>
  simp only [V.ren]; congr 1
  conv => rhs; rw [← List.map_id cs]
  exact List.map_congr_left fun c hc => C.ren_id hφ (h c hc)
 | any => rfl
theorem T.ren_id {φ : Nat → Option Nat} {n : Nat} (hφ : ∀ r, r < n → φ r = some r) {t : T} (h : t.lt n) : t.ren φ = t := by
 cases t with
 | v v => simp only [T.ren, V.ren_id hφ h]
 | tup vs =>
  simp only [T.ren]; congr 1
  conv => rhs; rw [← List.map_id vs]
  exact List.map_congr_left fun c hc => V.ren_id hφ (h c hc)
section
variable {P : Program} {G : Gl} {N0 : Nat}
theorem phiP_low {n : Nat} {ids : List Nat} : ∀ r, r < n → phiP n ids r = some r := fun r h => by simp [phiP, h]
theorem wk_junk {A L : List O} {sl : Nat → T} {K : St → Prop} (vals : List (Nat × T)) (hw : Wf A) (hN : N0 = A.length) (hv : ∀ p ∈ vals, sl p.1 = p.2 ∧ p.2.lt A.length) (h : K ⟨ofL vals, A⟩) : wk P G N0 ⟨sl, A ++ L⟩ K := by
 subst hN
 refine wk_pre [] (vals.map (·.1)) hw rfl ?_
 have e : (vals.map (·.1)).map (fun t => (t, (sl t).ren (phiP A.length []))) = vals := by
  rw [List.map_map]
  conv => rhs; rw [← List.map_id vals]
  refine List.map_congr_left fun p hp => ?_
  obtain ⟨h1, h2⟩ := hv p hp
  simp only [Function.comp, h1, T.ren_id phiP_low h2, id]
 rw [e, List.map_nil, List.append_nil]
 exact h
theorem wf_row {H : List O} {r sz sz' : Nat} {xs ys : List (List D)} (h : Wf (H.set r (.row sz xs))) : Wf (H.set r (.row sz' ys)) := by
 intro o ho
 rw [List.length_set]
 obtain ⟨i, hi⟩ := List.getElem?_of_mem ho
 rw [List.getElem?_set] at hi
 by_cases e : r = i
 ·subst e
  simp at hi
  obtain ⟨_, rfl⟩ := hi
  trivial
 ·rw [if_neg e] at hi
  have : o ∈ H.set r (.row sz xs) := List.mem_of_getElem? (i := i) (by rw [List.getElem?_set, if_neg e]; exact hi)
  have := h o this
  rwa [List.length_set] at this
theorem RowOk.splz {sz : Nat} {y : List D} (h : RowOk sz y) {z : List C} (hz : z.length = sz) : splice z 0 (y.map .d) = y.map .d := by
 simp [splice, h.len, hz]
section
variable {H L : List O} {r : Nat} {o o' : O}
@[simp] theorem get_set_app (h : r < H.length) : (H.set r o ++ L)[r]? = some o := by
 rw [List.getElem?_append_left (by simpa using h), List.getElem?_set_self h]
@[simp] theorem get_set_app0 : (H.set r o ++ L)[H.length]? = L[0]? := by
 rw [List.getElem?_append_right (by simp), List.length_set, Nat.sub_self]
@[simp] theorem get_set_appk (k : Nat) : (H.set r o ++ L)[H.length + k]? = L[k]? := by
 rw [List.getElem?_append_right (by simp), List.length_set, Nat.add_sub_cancel_left]
@[simp] theorem set_set_app (h : r < H.length) : (H.set r o ++ L).set r o' = H.set r o' ++ L := by
 rw [List.set_append_left _ _ (by simpa using h), List.set_set]
@[simp] theorem set_set_app0 : (H.set r o ++ L).set H.length o' = H.set r o ++ L.set 0 o' := by
 rw [List.set_append_right _ _ (by simp), List.length_set, Nat.sub_self]
@[simp] theorem set_set_appk (k : Nat) : (H.set r o ++ L).set (H.length + k) o' = H.set r o ++ L.set k o' := by
 rw [List.set_append_right _ _ (by simp), List.length_set, Nat.add_sub_cancel_left]
end
/-- Captured cells, lent. -/
theorem mapO_ip {H : List O} : ∀ (cps : List (List D)), mapO (toBV H) (cps.map fun cs => V.c (.d (.ip cs))) = some (cps.map fun cs => PVo.c (.ip cs))
 | [] => rfl
 | c :: r => by simp [mapO, toBV, mapO_ip r]
theorem mapO_ipc {H : List O} (cps : List (List D)) : mapO (toBV H) (cps.map ((fun c => V.c (C.d c)) ∘ D.ip)) = some (cps.map fun cs => PVo.c (.ip cs)) := mapO_ip cps
end
end Go.Aw

namespace Go.Aw
section
variable {E : Type} [Inhabited E]
/-- The first that is so, counted from k on. -/
def idxF (pr : E → Bool) : Nat → List E → Int
 | _, [] => -1
 | k, x :: l => if pr x then k else idxF pr (k + 1) l
theorem idxF_step (pr : E → Bool) {l : List E} {k : Nat} (h : k < l.length) : idxF pr k (l.drop k) = if pr (nth l k) then (k : Int) else idxF pr (k + 1) (l.drop (k + 1)) := by
 rw [drop_nth h]; rfl
theorem idxF_none (pr : E → Bool) : ∀ {l : List E} {k : Nat}, idxF pr k l = -1 → ∀ x ∈ l, pr x = false
 | [], k, h, x, hx => by simp at hx
 | y :: l, k, h, x, hx => by
  simp only [idxF] at h
  split at h
  ·omega
  ·rename_i hy
   rcases List.mem_cons.1 hx with rfl | hx
   ·simpa using hy
   ·exact idxF_none pr h x hx
theorem idxF_some (pr : E → Bool) : ∀ {l : List E} {k : Nat}, idxF pr k l ≠ -1 → ∃ i : Nat, idxF pr k l = ((k + i : Nat) : Int) ∧ i < l.length ∧ pr (nth l i) = true ∧ ∀ x ∈ l.take i, pr x = false
 | [], k, h => by simp [idxF] at h
 | y :: l, k, h => by
  simp only [idxF] at h ⊢
  by_cases hy : pr y = true
  ·rw [if_pos hy]
   exact ⟨0, rfl, by simp, hy, by simp⟩
  ·rw [if_neg hy] at h ⊢
   obtain ⟨i, h1, h2, h3, h4⟩ := idxF_some pr h
   refine ⟨i + 1, by rw [h1]; congr 1; omega, by simpa using h2, h3, fun x hx => ?_⟩
   rw [List.take_succ_cons] at hx
   rcases List.mem_cons.1 hx with rfl | hx
   ·simpa using hy
   ·exact h4 x hx
end
end Go.Aw
namespace Go.Aw.Try
open Go Go.Proofs Go.Aw
set_option maxRecDepth 100000
set_option maxHeartbeats 4000000
section
variable {E : Type} [Inhabited E]
end
end Go.Aw.Try

namespace Go.Aw
open Go
section
variable {A B : Type} [DecidableEq A]
def alook : List (A × B) → A → Option B
 | [], _ => none
 | (k, v) :: r, a => if k = a then some v else alook r a
def aput : List (A × B) → A → B → List (A × B)
 | [], a, b => [(a, b)]
 | (k, v) :: r, a, b => if k = a then (a, b) :: r else (k, v) :: aput r a b
theorem alook_aput {a b : A} {v : B} : ∀ {m : List (A × B)}, alook (aput m a v) b = if a = b then some v else alook m b
 | [] => by simp [aput, alook]
 | (k, u) :: r => by
  simp only [aput]
  split
  ·rename_i h; subst h
   simp only [alook]
   split <;> simp_all
  ·rename_i h
   simp only [alook]
   rw [alook_aput (m := r)]
   by_cases h2 : k = b
   ·simp [h2]; intro h3; exact absurd (h2.trans h3.symm) h
   ·simp [h2]
def encM (ke : A → Value) (ve : B → PV) (m : List (A × B)) : List (Value × PV) := m.map fun p => (ke p.1, ve p.2)
theorem mfind_enc {ke : A → Value} {ve : B → PV} (hk : ∀ a b, keyB (ke a) (ke b) = decide (a = b)) (a : A) : ∀ (m : List (A × B)), mfind (encM ke ve m) (ke a) = (alook m a).map ve
 | [] => rfl
 | (k, v) :: r => by
  have ih := mfind_enc (ve := ve) hk a r
  simp only [encM, List.map_cons, mfind, alook, hk] at ih ⊢
  by_cases h : k = a
  ·subst h; simp
  ·have h' : ¬ a = k := fun e => h e.symm
   simp [h, h', ih]
theorem mput_enc {ke : A → Value} {ve : B → PV} (hk : ∀ a b, keyB (ke a) (ke b) = decide (a = b)) (a : A) (b : B) : ∀ (m : List (A × B)), mput (encM ke ve m) (ke a) (ve b) = encM ke ve (aput m a b)
 | [] => rfl
 | (k, v) :: r => by
  have ih := mput_enc (ve := ve) hk a b r
  simp only [encM, List.map_cons, mput, aput, hk] at ih ⊢
  by_cases h : k = a
  ·subst h; simp
  ·have h' : ¬ a = k := fun e => h e.symm
   simp [h, h', ih]
end
/-- From strings to whole numbers. -/
abbrev encSI (m : List (ByteArray × Int)) : List (Value × PV) := encM (fun s => .string s) (fun n => .c (.v (.int .i64 n))) m
theorem mfind_SI (a : ByteArray) (m : List (ByteArray × Int)) : mfind (encSI m) (.string a) = (alook m a).map fun n => PVo.c (.v (.int .i64 n)) := mfind_enc (ke := fun s => Value.string s) (fun a b => rfl) a m
theorem mput_SI (a : ByteArray) (n : Int) (m : List (ByteArray × Int)) : mput (encSI m) (.string a) (.c (.v (.int .i64 n))) = encSI (aput m a n) := mput_enc (ke := fun s => Value.string s) (ve := fun n => PVo.c (.v (.int .i64 n))) (fun a b => rfl) a n m

section
variable {P : Program} {G : Gl} {N0 : Nat}
end
end Go.Aw

namespace Go.Aw.Try
open Go Go.Proofs Go.Aw
set_option maxRecDepth 100000
set_option maxHeartbeats 4000000
structure Cutoff where
 who : ByteArray
 n : Int
 err : Int
def Cutoff.row (c : Cutoff) : List D := [.v (.string c.who), .v (.int .i64 c.n), .v (.int .i64 c.err)]
instance : Inhabited Cutoff := ⟨⟨⟨#[]⟩, 0, 0⟩⟩
abbrev ktS : KT := ⟨false, [.s]⟩
theorem cmptF_len {E : Type} (eqb : E → E → Bool) : ∀ (p : E) (l : List E), (cmptF eqb p l).length ≤ l.length
 | _, [] => Nat.le_refl _
 | p, x :: l => by
  have := cmptF_len eqb x l
  simp only [cmptF]; split <;> simp <;> omega
theorem cmpt_len {E : Type} (eqb : E → E → Bool) : ∀ (l : List E), (cmpt eqb l).length ≤ l.length
 | [] => Nat.le_refl _
 | x :: l => by have := cmptF_len eqb x l; simp [cmpt]; omega
theorem sortE_len (l : List Edit) : (sortE l).length ≤ l.length := by
 unfold sortE; have := cmpt_len (fun a b => decide (cmpE a b = 0)) (ssort cmpE l); rw [ssort_len] at this; exact this

end Go.Aw.Try

namespace Go.Aw
open Go
section
variable {P : Program} {G : Gl}

/-- A contract's result, seen otherwise. -/
theorem acalls_fin {f : Nat} {vs : List V} {H : List O} {R R' : T → List O → Prop} (h : ACalls P G f vs H R) (hf : Wf H → ∀ t H', R t H' → Fin P H.length R' t H') : ACalls P G f vs H R' := by
 refine ⟨h.1, fun ρ w args hH hG hv => (h.2 ρ w args hH hG hv).mono ?_⟩
 rintro e w' ⟨v, t, ρ', H', e1, e2, e3, e4, e5⟩
 obtain ⟨t2, H2, hw, hR⟩ := hf (wf_of hH) t H' e2
 obtain ⟨ρ2, a1, a2, a3, a4⟩ := hw.2 ρ' w' v e3 e4
 refine ⟨v, t2, ρ2, H2, e1, hR, a1, a2, ⟨fun r b hr => ?_, hw.1, ⟨fun b hb => a4 b (e5.step.sub b hb), e5.step.keep, e5.step.size, e5.step.shape, e5.step.os, e5.step.tape, e5.step.output⟩⟩⟩
 have hlt := (hH.small r b hr).1
 show ρ2 r = some b
 rw [a3 r hlt]; exact e5.ρ r b hr

/-- An own row, told as data. -/
theorem own_data {f : Nat} {vs : List V} {H : List O} {sz : Nat} {rows : List (List D)} (h : ACalls P G f vs H (Own H sz rows)) : ACalls P G f vs H fun t H' => t = .v (.c (.d (.sl rows))) ∧ H' = H := by
 refine acalls_fin h fun hw t H' ⟨h1, h2⟩ => ?_
 subst h1; subst h2
 refine fin_pre_pv (p := .c (.sl rows)) (L' := [.frow sz rows]) hw ?_ ?_ ⟨rfl, rfl⟩
 ·simp [toPV]
 ·simp [frz, frz1]
/-- A contract as a function of data: 'enc': the arguments, 'ok': what is asked, 'F': the result. -/
noncomputable def mkX {α : Type} (sc : Bool) (enc : α → List PV) (ok : α → Prop) (F : α → T) : XE := ⟨sc, fun ps => open Classical in if h : ∃ a, enc a = ps ∧ ok a then some (True, F (Classical.choose h)) else none⟩
theorem mkX_g {α : Type} {sc : Bool} {enc : α → List PV} {ok : α → Prop} {F : α → T} (inj : ∀ a b, enc a = enc b → a = b) (a : α) (h : ok a) : (mkX sc enc ok F).g (enc a) = some (True, F a) := by
 have hex : ∃ b, enc b = enc a ∧ ok b := ⟨a, rfl, h⟩
 show (open Classical in if h : ∃ b, enc b = enc a ∧ ok b then some (True, F (Classical.choose h)) else none) = _
 rw [dif_pos hex, inj _ _ (Classical.choose_spec hex).1]
theorem mkX_scal {α : Type} {enc : α → List PV} {ok : α → Prop} {F : α → T} {f : Nat} (hs : ∀ a, scT (F a) = true) (h : ∀ a, ok a → ACalls P G f ((enc a).map PV.toV) [] fun t H => t = F a ∧ H = []) : Contract P G f (mkX true enc ok F) := by
 intro ps ob t hg ho
 have hg : (open Classical in if h : ∃ b, enc b = ps ∧ ok b then some (True, F (Classical.choose h)) else none) = some (ob, t) := hg
 split at hg
 ·rename_i hex
  injection hg with hg; injection hg with h1 h2; subst h2
  have hs' := Classical.choose_spec hex
  show if true = true then _ else _
  rw [if_pos rfl]
  refine ⟨hs _, ?_⟩
  have := h _ hs'.2
  rw [hs'.1] at this; exact this
 ·cases hg
theorem mkX_data {α : Type} {enc : α → List PV} {ok : α → Prop} {F : α → T} {f : Nat} (h : ∀ a, ok a → ∀ H, ACalls P G f ((enc a).map PV.toV) H fun t H' => t = F a ∧ H' = H) : Contract P G f (mkX false enc ok F) := by
 intro ps ob t hg ho
 have hg : (open Classical in if h : ∃ b, enc b = ps ∧ ok b then some (True, F (Classical.choose h)) else none) = some (ob, t) := hg
 split at hg
 ·rename_i hex
  injection hg with hg; injection hg with h1 h2; subst h2
  have hs' := Classical.choose_spec hex
  show if false = true then _ else _
  rw [if_neg (by simp)]
  intro H
  have := h _ hs'.2 H
  rw [hs'.1] at this; exact this
 ·cases hg
end
end Go.Aw

namespace Go.Aw
section
variable {E : Type} {cmp : E → E → Int}
/-- Inserted, unless its place is taken. -/
def insR (cmp : E → E → Int) : List E → E → List E
 | [], e => [e]
 | y :: r, e => if cmp y e = 0 then y :: r else if 0 < cmp y e then e :: y :: r else y :: insR cmp r e
def refS (cmp : E → E → Int) (l : List E) : List E := l.foldl (insR cmp) []
def Sst (cmp : E → E → Int) (l : List E) : Prop := l.Pairwise fun a b => cmp a b < 0
theorem insR_mem {e x : E} : ∀ {m : List E}, x ∈ insR cmp m e → x = e ∨ x ∈ m
 | [], h => by simp [insR] at h; exact .inl h
 | y :: r, h => by
  simp only [insR] at h
  split at h
  ·exact .inr h
  ·split at h
   ·rcases List.mem_cons.1 h with h | h
    ·exact .inl h
    ·exact .inr h
   ·rcases List.mem_cons.1 h with h | h
    ·exact .inr (by simp [h])
    ·rcases insR_mem h with h | h
     ·exact .inl h
     ·exact .inr (List.mem_cons_of_mem _ h)
theorem insR_sst (hp : Pre cmp) {e : E} : ∀ {m : List E}, Sst cmp m → Sst cmp (insR cmp m e)
 | [], h => by simp [insR, Sst]
 | y :: r, h => by
  have ⟨h1, h2⟩ := List.pairwise_cons.1 h
  simp only [insR]
  split
  ·exact h
  ·split
   ·rename_i h3 h4
    have hey : cmp e y < 0 := by have := hp.sgn e y; omega
    refine List.pairwise_cons.2 ⟨fun z hz => ?_, h⟩
    rcases List.mem_cons.1 hz with rfl | hz
    ·exact hey
    ·exact hp.lt_le hey (by have := h1 z hz; omega)
   ·rename_i h3 h4
    refine List.pairwise_cons.2 ⟨fun z hz => ?_, insR_sst hp h2⟩
    rcases insR_mem hz with rfl | hz
    ·omega
    ·exact h1 z hz
theorem insR_cls (hp : Pre cmp) {e x : E} : ∀ {m : List E}, Sst cmp m → cls cmp x (insR cmp m e) = if cmp x e = 0 ∧ cls cmp x m = [] then [e] else cls cmp x m
 | [], h => by simp [insR, cls_cons, cls_nil]
 | y :: r, h => by
  have ⟨h1, h2⟩ := List.pairwise_cons.1 h
  simp only [insR]
  split
  ·rename_i h3
   rw [if_neg]
   rintro ⟨h4, h5⟩
   have : cmp x y = 0 := hp.eq_tr h4 (hp.eq_symm h3)
   rw [cls_cons, if_pos this] at h5; simp at h5
  ·split
   ·rename_i h3 h4
    have hey : cmp e y < 0 := by have := hp.sgn e y; omega
    rw [cls_cons]
    by_cases hx : cmp x e = 0
    ·have hn : cls cmp x (y :: r) = [] := cls_none fun z hz h0 => by
      have hez : cmp e z < 0 := by
       rcases List.mem_cons.1 hz with rfl | hz
       ·exact hey
       ·exact hp.lt_le hey (by have := h1 z hz; omega)
      have := hp.eq_tr (hp.eq_symm hx) h0
      omega
     rw [if_pos hx, if_pos ⟨hx, hn⟩, hn]
    ·rw [if_neg hx, if_neg (fun q => hx q.1)]
   ·rename_i h3 h4
    rw [cls_cons, cls_cons, insR_cls hp h2]
    by_cases hy : cmp x y = 0
    ·have hx : ¬ cmp x e = 0 := fun q => by
      have := hp.eq_tr (hp.eq_symm hy) q; omega
     rw [if_pos hy, if_pos hy, if_neg (fun q => hx q.1), if_neg (fun q => hx q.1)]
    ·rw [if_neg hy, if_neg hy]
theorem refS_spec (hp : Pre cmp) (l : List E) : Sst cmp (refS cmp l) ∧ ∀ x, cls cmp x (refS cmp l) = (cls cmp x l).take 1 := by
 have key : ∀ (l pre m : List E), Sst cmp m → (∀ x, cls cmp x m = (cls cmp x pre).take 1) → Sst cmp (l.foldl (insR cmp) m) ∧ ∀ x, cls cmp x (l.foldl (insR cmp) m) = (cls cmp x (pre ++ l)).take 1 := by
  intro l
  induction l with
  | nil => intro pre m h1 h2; exact ⟨h1, fun x => by simpa using h2 x⟩
  | cons e l ih =>
   intro pre m h1 h2
   rw [List.foldl_cons, show pre ++ e :: l = (pre ++ [e]) ++ l by simp]
   refine ih (pre ++ [e]) _ (insR_sst hp h1) fun x => ?_
   rw [insR_cls hp h1, h2 x, cls_app, cls_cons, cls_nil]
   cases hc : cls cmp x pre with
   | nil => by_cases hx : cmp x e = 0 <;> simp [hx]
   | cons z zs => simp
 exact key l [] [] List.Pairwise.nil fun x => by simp [cls_nil]
theorem Sst.srt {l : List E} (h : Sst cmp l) : Srt cmp l := h.imp fun h => by omega

theorem cmptF_sub (eqb : E → E → Bool) : ∀ (p : E) (l : List E), (cmptF eqb p l).Sublist l
 | _, [] => List.Sublist.refl _
 | p, x :: l => by
  simp only [cmptF]
  split
  ·exact (cmptF_sub eqb x l).cons x
  ·exact (cmptF_sub eqb x l).cons_cons x
theorem cmpt_sub (eqb : E → E → Bool) : ∀ (l : List E), (cmpt eqb l).Sublist l
 | [] => List.Sublist.refl _
 | x :: l => (cmptF_sub eqb x l).cons_cons x
theorem cmptF_cls (hp : Pre cmp) {x : E} : ∀ (l : List E) (p : E), Srt cmp (p :: l) → cls cmp x (cmptF (fun a b => decide (cmp a b = 0)) p l) = if cmp x p = 0 then [] else (cls cmp x l).take 1
 | [], p, h => by simp [cmptF, cls_nil]
 | y :: r, p, h => by
  have ⟨h1, h2⟩ := List.pairwise_cons.1 h
  have ih := cmptF_cls hp (x := x) r y h2
  simp only [cmptF]
  by_cases hyp : cmp y p = 0
  ·rw [if_pos (by simp [hyp]), ih]
   by_cases hx : cmp x p = 0
   ·rw [if_pos hx, if_pos (hp.eq_tr hx (hp.eq_symm hyp))]
   ·have hxy : ¬ cmp x y = 0 := fun q => hx (hp.eq_tr q hyp)
    rw [if_neg hx, if_neg hxy, cls_cons, if_neg hxy]
  ·rw [if_neg (by simp [hyp]), cls_cons, ih]
   by_cases hx : cmp x p = 0
   ·have hxy : ¬ cmp x y = 0 := fun q => hyp (hp.eq_tr (hp.eq_symm q) hx)
    have hpy : cmp p y < 0 := by
     have := h1 y List.mem_cons_self
     have : ¬ cmp p y = 0 := fun q => hyp (hp.eq_symm q)
     omega
    have hn : cls cmp x r = [] := cls_none fun z hz h0 => by
     have : cmp y z ≤ 0 := (List.pairwise_cons.1 h2).1 z hz
     have := hp.lt_le hpy this
     have := hp.eq_tr (hp.eq_symm hx) h0
     omega
    rw [if_pos hx, if_neg hxy, if_neg hxy, hn]; rfl
   ·by_cases hxy : cmp x y = 0
    ·rw [if_neg hx, if_pos hxy, if_pos hxy, cls_cons, if_pos hxy]; simp
    ·rw [if_neg hx, if_neg hxy, if_neg hxy, cls_cons, if_neg hxy]
theorem cmpt_cls (hp : Pre cmp) {x : E} : ∀ (l : List E), Srt cmp l → cls cmp x (cmpt (fun a b => decide (cmp a b = 0)) l) = (cls cmp x l).take 1
 | [], h => by simp [cmpt, cls_nil]
 | y :: r, h => by
  simp only [cmpt]
  rw [cls_cons, cmptF_cls hp r y h, cls_cons]
  by_cases hxy : cmp x y = 0
  ·simp [hxy]
  ·simp [hxy]
theorem refS_cmpt (hp : Pre cmp) (l : List E) : refS cmp l = cmpt (fun a b => decide (cmp a b = 0)) (ssort cmp l) := by
 obtain ⟨h1, h2⟩ := refS_spec hp l
 refine srt_flt_unique hp h1.srt ((ssort_srt hp l).sublist (cmpt_sub _ _)) fun x => ?_
 rw [h2, cmpt_cls hp _ (ssort_srt hp l), ssort_flt hp l x]
end
end Go.Aw
namespace Go.Aw.Try
open Go Go.Proofs Go.Aw
set_option maxRecDepth 100000
set_option maxHeartbeats 4000000
theorem sortE_refS (l : List Edit) : refS cmpE l = sortE l := refS_cmpt cmpE_pre l
theorem Id.row_inj {a b : Id} (h : a.row = b.row) : a = b := by
 cases a; cases b; simp [Id.row] at h; simp [h]
theorem map_inj {α β : Type} {f : α → β} (hf : ∀ a b, f a = f b → a = b) : ∀ {l l' : List α}, l.map f = l'.map f → l = l'
 | [], [], _ => rfl
 | [], _ :: _, h => by simp at h
 | _ :: _, [], h => by simp at h
 | a :: l, b :: l', h => by
  simp only [List.map_cons, List.cons.injEq] at h
  rw [hf _ _ h.1, map_inj hf h.2]
theorem Edit.row_inj {a b : Edit} (h : a.row = b.row) : a = b := by
 obtain ⟨⟨_, _⟩, _, _, d1, _, ⟨_, _⟩, ⟨_, _⟩, _, _, _, _, _, ⟨_, _⟩, _⟩ := a
 obtain ⟨⟨_, _⟩, _, _, d2, _, ⟨_, _⟩, ⟨_, _⟩, _, _, _, _, _, ⟨_, _⟩, _⟩ := b
 simp [Edit.row] at h
 obtain ⟨h1, h2, h3, h4, h5, h6, h7, h8, h9, h10, h11, h12, h13, h14, h15, h16, h17, h18⟩ := h
 have := map_inj (fun _ _ => Id.row_inj) h5
 subst this
 simp [*]
theorem Cutoff.row_inj {a b : Cutoff} (h : a.row = b.row) : a = b := by
 cases a; cases b; simp [Cutoff.row] at h; simp [h]
theorem rows_inj {l l' : List Edit} (h : l.map Edit.row = l'.map Edit.row) : l = l' := map_inj (fun _ _ => Edit.row_inj) h
theorem inj2 (a b : Edit × Edit) (h : [PVo.agg a.1.row, PVo.agg a.2.row] = [PVo.agg b.1.row, .agg b.2.row]) : a = b := by
 simp at h
 exact Prod.ext (Edit.row_inj h.1) (Edit.row_inj h.2)
end Go.Aw.Try

namespace Go.Aw.Try
open Go Go.Proofs Go.Aw
set_option maxRecDepth 100000
set_option maxHeartbeats 4000000
noncomputable def x20 : XE := mkX false (fun (p : List Edit) => [.c (.sl (p.map Edit.row))]) (fun p => p.length < 68719476736) (fun p => .v (.c (.d (.sl ((sortE p).map Edit.row)))))
theorem kx20 : Contract Tryz.prog G0 57 x20 := mkX_data fun p h H => own_data (k20 p h H)
theorem xg20 (l : List Edit) (h : l.length < 68719476736) : x20.g [.c (.sl (l.map Edit.row))] = some (True, .v (.c (.d (.sl ((sortE l).map Edit.row))))) := mkX_g (fun a b h => by simp at h; exact rows_inj h) l h

/-! ### equality -/
instance : DecidableEq Id := fun x y => decidable_of_iff (x.a = y.a ∧ x.n = y.n) ⟨fun h => by cases x; cases y; simp at h; simp [h], fun h => by subst h; exact ⟨rfl, rfl⟩⟩
def Edit.plain (e : Edit) : List Value := [.string e.id.a, .int .i64 e.id.n, .int .i64 e.clock, .int .i64 e.floor, .int .i64 e.kind, .string e.node.a, .int .i64 e.node.n, .string e.parent.a, .int .i64 e.parent.n, .bool e.neg, .string e.num, .string e.den, .string e.field, .string e.value, .string e.target.a, .int .i64 e.target.n, .string e.who]
instance : DecidableEq Edit := fun x y => decidable_of_iff (x.deps = y.deps ∧ (x.id = y.id ∧ x.clock = y.clock ∧ x.floor = y.floor ∧ x.kind = y.kind ∧ x.node = y.node ∧ x.parent = y.parent ∧ (x.neg = y.neg ∧ x.num = y.num ∧ x.den = y.den) ∧ x.field = y.field ∧ x.value = y.value ∧ x.target = y.target ∧ x.who = y.who))
 ⟨fun h => by cases x; cases y; simp at h; simp [h], fun h => by subst h; simp⟩
theorem Id.eq_iff (x y : Id) : x = y ↔ x.a = y.a ∧ x.n = y.n := ⟨fun h => by subst h; exact ⟨rfl, rfl⟩, fun h => by cases x; cases y; simp at h; simp [h]⟩
theorem Edit.eq_iff (x y : Edit) : x = y ↔ (x.deps = y.deps ∧ (x.id = y.id ∧ x.clock = y.clock ∧ x.floor = y.floor ∧ x.kind = y.kind ∧ x.node = y.node ∧ x.parent = y.parent ∧ (x.neg = y.neg ∧ x.num = y.num ∧ x.den = y.den) ∧ x.field = y.field ∧ x.value = y.value ∧ x.target = y.target ∧ x.who = y.who)) :=
 ⟨fun h => by subst h; simp, fun h => by cases x; cases y; simp at h; simp [h]⟩
instance : Inhabited Id := ⟨⟨⟨#[]⟩, 0⟩⟩
theorem list_eq_nth {α : Type} [Inhabited α] {l l' : List α} (hl : l.length = l'.length) (h : ∀ i, i < l.length → nth l i = nth l' i) : l = l' := by
 apply List.ext_getElem hl
 intro i h1 h2
 have := h i h1
 rw [nth_eq h1, nth_eq h2] at this; exact this
theorem k62 (a b : Edit) (ha : a.deps.length < 4611686018427387904) : ACalls Tryz.prog G0 56 [.agg (a.row.map .d), .agg (b.row.map .d)] [] fun t H => t = .bool (decide (a = b)) ∧ H = [] := by
 refine acallsX (X := []) trivial tab hmix Tryz.func56 c62 (by rfl) fun hw => ?_
 by_cases hlen : a.deps.length = b.deps.length
 ·have hlen' : (a.deps.length : Int) = b.deps.length := by omega
  simp (implicitDefEqProofs := false) (disch := omega) [gz, ir62, b62, b62_0, b62_1, b62_2, wrap64, Edit.row, hlen]
  refine loopE (fun k s => ∃ i, i ≤ b.deps.length ∧ k = b.deps.length - i ∧ (∀ c, c < i → nth a.deps c = nth b.deps c) ∧
    s = ⟨ofL [(2, .v (.c (.ptr 0 0))), (3, .v (.c (.ptr 1 0))), (15, .int .i64 b.deps.length), (16, .int .i64 i)], [.cells (a.row.map .d), .cells (b.row.map .d)]⟩)
   (fun s => a.deps = b.deps ∧ AtS [(2, .v (.c (.ptr 0 0))), (3, .v (.c (.ptr 1 0)))] [.cells (a.row.map .d), .cells (b.row.map .d)] s) ?_ ?_ ?_
  ·refine wk_keep [2, 3, 15, 16] ⟨_, 0, by omega, rfl, fun c h => by omega, ?_⟩
   simp [Edit.row]
  ·rintro J L hJ hL k s ⟨i, hi, rfl, hall, rfl⟩
   by_cases hlt : i < b.deps.length
   ·have hlt' : i < a.deps.length := by omega
    obtain ⟨x, hx⟩ : ∃ x, nth a.deps i = x := ⟨_, rfl⟩
    obtain ⟨y, hy⟩ : ∃ y, nth b.deps i = y := ⟨_, rfl⟩
    by_cases hxy : x = y
    ·subst hxy
     simp (implicitDefEqProofs := false) (disch := omega) [gz, hlt, hlt', wrap64, nth_map, hx, hy, Edit.row, Id.row, cellsEq, skEq]
     repeat' apply And.intro
     all_goals first | omega | kernel_rfl | skip
     subst hJ
     refine wk_keep [2, 3, 15, 16] ⟨b.deps.length - (i + 1), by omega, i + 1, by omega, rfl, fun c hc => ?_, ?_⟩
     ·by_cases hci : c = i
      ·subst hci; rw [hx, hy]
      ·exact hall c (by omega)
     ·simp [Edit.row]
    ·have hne : ¬ (a = b) := fun h => hxy (by rw [← hx, ← hy, h])
     have h1 : (decide (x.a = y.a) && decide (x.n = y.n)) = false := by
      rw [Id.eq_iff] at hxy; simp; intro h; exact fun q => hxy ⟨h, q⟩
     simp (implicitDefEqProofs := false) (disch := omega) [gz, hlt, hlt', wrap64, nth_map, hx, hy, Edit.row, Id.row, cellsEq, skEq]
     refine ⟨by kernel_rfl, ?_, fun q1 q2 => absurd ((Id.eq_iff x y).2 ⟨q1, q2⟩) hxy⟩
     intro _
     exact fin_nil ⟨by simp [hne], rfl⟩
   ·simp (implicitDefEqProofs := false) (disch := omega) [gz, hlt]
    subst hL
    exact ⟨list_eq_nth hlen fun c hc => hall c (by omega), at_mk (by simp) (by simp)⟩
  ·rintro _ ⟨hd, sl, rfl⟩
   by_cases h : a = b
   ·subst h
    simp (implicitDefEqProofs := false) (disch := omega) [gz, wrap64, Edit.row, b62_3, b62_4, cellsEq, skEq, binSF]
    exact fin_nil ⟨rfl, rfl⟩
   ·simp (implicitDefEqProofs := false) (disch := omega) [gz, wrap64, Edit.row, b62_3, b62_4, cellsEq, skEq, binSF]
    repeat' first | apply And.intro | intro _
    all_goals first
     | (refine fin_nil ⟨?_, rfl⟩; simp [h]; done)
     | (refine fin_nil ⟨?_, rfl⟩; simp [h]; intro q; exact h ((Edit.eq_iff _ _).2 (by simp [Id.eq_iff, *])))
 ·have hlen' : ¬ (a.deps.length : Int) = b.deps.length := by omega
  simp (implicitDefEqProofs := false) (disch := omega) [gz, ir62, b62, b62_0, b62_1, wrap64, Edit.row, hlen, hlen']
  exact fin_nil ⟨by simp; intro h; exact hlen (by rw [h]), rfl⟩

noncomputable def x62 : XE := mkX true (fun (p : Edit × Edit) => [.agg p.1.row, .agg p.2.row]) (fun p => p.1.deps.length < 4611686018427387904) (fun p => .bool (decide (p.1 = p.2)))
theorem kx62 : Contract Tryz.prog G0 56 x62 := mkX_scal (fun _ => rfl) fun p h => k62 p.1 p.2 h
theorem xg62 (a b : Edit) (h : a.deps.length < 4611686018427387904) : x62.g [.agg a.row, .agg b.row] = some (True, .bool (decide (a = b))) := mkX_g inj2 (a, b) h
theorem k37 (a b : Edit) (ha : a.deps.length < 4611686018427387904) : ACalls Tryz.prog G0 33 [.agg (a.row.map .d), .agg (b.row.map .d)] [] fun t H => t = .bool (decide (a = b)) ∧ H = [] := by
 refine acallsX (X := [(56, x62)]) ⟨kx62, trivial⟩ tab hmix Tryz.func33 c37 (by rfl) fun hw => ?_
 have hsc : x62.sc = true := rfl
 have hx := xg62 a b ha
 simp (implicitDefEqProofs := false) (disch := omega) [gz, ir37, b37, nth_map, (erow _).len, take_of_len, (erow _).mapO, (erow _).tk, (erow _).nrm, borRow, (erow _).cl, borV_map, osR_map, frz_map, nth_set_ne, (erow _).spl (erow _), hsc, hx]
 exact fin_nil ⟨rfl, rfl⟩
noncomputable def x37 : XE := mkX true (fun (p : Edit × Edit) => [.agg p.1.row, .agg p.2.row]) (fun p => p.1.deps.length < 4611686018427387904) (fun p => .bool (decide (p.1 = p.2)))
theorem kx37 : Contract Tryz.prog G0 33 x37 := mkX_scal (fun _ => rfl) fun p h => k37 p.1 p.2 h
theorem xg37 (a b : Edit) (h : a.deps.length < 4611686018427387904) : x37.g [.agg a.row, .agg b.row] = some (True, .bool (decide (a = b))) := mkX_g inj2 (a, b) h
theorem nth_mem {α : Type} [Inhabited α] {l : List α} {i : Nat} (h : i < l.length) : nth l i ∈ l := by rw [nth_eq h]; exact List.getElem_mem h
end Go.Aw.Try

namespace Go.Aw
open Go Go.Proofs Go.Sort
def lb (l : List UInt8) : ByteArray := ⟨l.toArray⟩
def srow (s : ByteArray) : List D := [.v (.string s)]
section
variable {P : Program} {G : Gl}
end
end Go.Aw

namespace Go.Aw
open Go
/-- Strictly ascending. -/
def AscS (l : List ByteArray) : Prop := l.Pairwise fun a b => cmpS a b < 0
end Go.Aw

namespace Go.Aw
open Go
section
variable {P : Program} {G : Gl} {N0 : Nat}
theorem nil_row_le {ρ : Nat → Option Nat} {H : List O} {w : World} {sz : Nat} (hsz : 0 < sz) (hH : HRel P ρ H w) : HRel P ρ (H ++ [.row sz []]) w ∧ (ctx ρ H w).le (ctx ρ (H ++ [.row sz []]) w) := by
 have hρ : ρ H.length = none := by
  cases h : ρ H.length with
  | none => rfl
  | some b => have := (hH.small _ _ h).1; omega
 have hst : ∀ b, stab ρ H w b ↔ stab ρ (H ++ [.row sz []]) w b := fun b => by
  constructor
  ·rintro ⟨h1, h2⟩
   refine ⟨h1, fun r o hr hl => ?_⟩
   rw [List.getElem?_append] at hr
   split at hr
   ·exact h2 r o hr hl
   ·have : r = H.length := by
     have := (List.getElem?_eq_some_iff.1 hr).1; simp at this; omega
    subst this; rw [hρ]; simp
  ·rintro ⟨h1, h2⟩
   refine ⟨h1, fun r o hr hl => h2 r o ?_ hl⟩
   rw [List.getElem?_append, if_pos (List.getElem?_eq_some_iff.1 hr).1]; exact hr
 have hle : (ctx ρ H w).le (ctx ρ (H ++ [.row sz []]) w) := ⟨fun _ _ h => h, by simp [ctx], ⟨fun b hb => (hst b).1 hb, fun _ _ => rfl, Nat.le_refl _, fun _ _ _ h => h, rfl, rfl, rfl⟩⟩
 refine ⟨⟨?_, ?_, ?_⟩, hle⟩
 ·intro r o hr
  rw [List.getElem?_append] at hr
  split at hr
  ·exact (hH.objs r o hr).mono hle fun _ a ha => rfl
  ·have : r = H.length := by
    have := (List.getElem?_eq_some_iff.1 hr).1; simp at this; omega
   subst this
   simp at hr; subst hr
   exact ⟨hsz, .inl ⟨hρ, rfl⟩⟩
 ·intro r r' o o' b hr hr' hl hl' h1 h2
  have lt : ∀ r b, ρ r = some b → r < H.length := fun r b h => (hH.small r b h).1
  rw [List.getElem?_append, if_pos (lt _ _ h1)] at hr
  rw [List.getElem?_append, if_pos (lt _ _ h2)] at hr'
  exact hH.inj r r' o o' b hr hr' hl hl' h1 h2
 ·intro r b h
  have := hH.small r b h
  exact ⟨by simp; omega, this.2⟩
theorem wk_nil_os {sl : Nat → T} {H : List O} {K : St → Prop} (t sz : Nat) (hsz : 0 < sz) (ht : sl t = .v (.c (.d (.v (.slice none 0 0))))) (h : wk P G N0 ⟨putS sl t (.v (.c (.os H.length sz 0 0))), H ++ [.row sz []]⟩ K) : wk P G N0 ⟨sl, H⟩ K := by
 refine wk_weak ?_ h
 intro n b ρ a w hb1 hb2 hs
 obtain ⟨g1, g2⟩ := nil_row_le hsz hs.heap
 refine ⟨ρ, g1, hs.size, hs.defers, fun i => ?_, hs.glob.mono g2.step, hs.le.trans g2⟩
 show TRel P _ (putS sl t _ i) _
 unfold putS
 split
 ·rename_i e
  subst e
  have := hs.slots i
  show TRel P _ _ _
  have h2 : TRel P (ctx ρ H w) (.v (.c (.d (.v (.slice none 0 0))))) (a.tmps.getD i undef) := by
   have h3 : TRel P (ctx ρ H w) (sl i) (a.tmps.getD i undef) := this
   rw [ht] at h3; exact h3
  rw [trel_val h2]
  exact ⟨by simp [ctx], .inl ⟨rfl, none, rfl⟩⟩
 ·exact (hs.slots i).mono g2
end
end Go.Aw

namespace Go.Aw.Try
open Go Go.Proofs Go.Aw
set_option maxRecDepth 100000
set_option maxHeartbeats 4000000
/-! ### strings in lists -/
theorem srow_inj {l l' : List ByteArray} (h : l.map srow = l'.map srow) : l = l' := map_inj (fun a b h => by simpa [srow] using h) h
theorem idxF_any {E : Type} (pr : E → Bool) (l : List E) (k : Nat) : (0 ≤ idxF pr k l) ↔ l.any pr = true := by
 induction l generalizing k with
 | nil => simp [idxF]
 | cons x l ih =>
  simp only [idxF, List.any_cons]
  by_cases h : pr x = true
  ·simp [h]
  ·have h' : pr x = false := by simpa using h
   simp [h', ih]
/-- slices.IndexFunc at ByteArray. -/
theorem k609 (pr : ByteArray → Bool) (g : Nat) (cps : List (List D)) (xg : XE) (hx : Contract Tryz.prog G0 g xg) (hsc : xg.sc = true)
  (hxg : ∀ e, xg.g (.c (.v (.string e)) :: cps.map fun cs => .c (.ip cs)) = some (True, .bool (pr e))) (es : List (ByteArray)) (hl : es.length < 4611686018427387904) :
  ACalls Tryz.prog G0 109 [.c (.d (.sl (es.map srow))), .c (.d (.fn g (cps.map .ip)))] [] fun t H => t = .int .i64 (idxF pr 0 es) ∧ H = [] := by
 refine acallsX (X := [(g, xg)]) ⟨hx, trivial⟩ tab hmix Tryz.func109 c609 (by rfl) fun hw => ?_
 simp (implicitDefEqProofs := false) (disch := omega) [gz, ir609, b609, wrap64]
 refine loopG (fun k s => ∃ i, i ≤ es.length ∧ k = es.length - i ∧ idxF pr 0 es = idxF pr i (es.drop i) ∧
  s = ⟨ofL [(0, .v (.c (.d (.sl (es.map srow))))), (1, .v (.c (.d (.fn g (cps.map .ip))))), (7, .int .i64 es.length), (8, .int .i64 i)], []⟩) ?_ ?_
 ·refine wk_keep [0, 1, 7, 8] ⟨_, 0, by omega, rfl, rfl, ?_⟩
  simp
 ·rintro J hJ k s ⟨i, hi, rfl, hid, rfl⟩
  by_cases hlt : i < es.length
  ·have hst := idxF_step pr hlt
   obtain ⟨e, he⟩ : ∃ e, nth es i = e := ⟨_, rfl⟩
   have hee : srow e = [.v (.string e)] := rfl
   have hxg := hxg e
   skip
   rw [he] at hst
   simp (implicitDefEqProofs := false) (disch := omega) [gz, hlt, wrap64, nth_map, he, hee, mapO_ipc, hsc, hxg]
   refine ⟨fun h => ?_, fun h => ?_⟩
   ·rw [if_pos h] at hst
    exact fin_nil ⟨by rw [hid, hst]; rfl, rfl⟩
   ·rw [if_neg (by simp [h])] at hst
    subst hJ
    refine wk_keep [0, 1, 7, 8] ⟨es.length - (i + 1), by omega, i + 1, by omega, rfl, by rw [hid, hst], ?_⟩
    simp
  ·simp (implicitDefEqProofs := false) (disch := omega) [gz, hlt]
   rw [hid, List.drop_eq_nil_of_le (by omega)]
   exact fin_nil ⟨rfl, rfl⟩
def x609 (pr : ByteArray → Bool) (g : Nat) (cps : List (List D)) (es : List (ByteArray)) : XE := ⟨true, fun ps => some (ps = [.c (.sl (es.map srow)), .c (.fn g (cps.map .ip))], .int .i64 (idxF pr 0 es))⟩
theorem kx609 (pr : ByteArray → Bool) (g : Nat) (cps : List (List D)) (xg : XE) (hx : Contract Tryz.prog G0 g xg) (hsc : xg.sc = true)
  (hxg : ∀ e, xg.g (.c (.v (.string e)) :: cps.map fun cs => .c (.ip cs)) = some (True, .bool (pr e))) (es : List (ByteArray)) (hl : es.length < 4611686018427387904) : Contract Tryz.prog G0 109 (x609 pr g cps es) := contract_sc fun ps ob t h ho => by
 injection h with h; injection h with h1 h2; subst h2; subst h1
 subst ho
 exact ⟨rfl, k609 pr g cps xg hx hsc hxg es hl⟩
/-- slices.ContainsFunc at ByteArray. -/
theorem k564 (pr : ByteArray → Bool) (g : Nat) (cps : List (List D)) (xg : XE) (hx : Contract Tryz.prog G0 g xg) (hsc : xg.sc = true)
  (hxg : ∀ e, xg.g (.c (.v (.string e)) :: cps.map fun cs => .c (.ip cs)) = some (True, .bool (pr e))) (es : List (ByteArray)) (hl : es.length < 4611686018427387904) :
  ACalls Tryz.prog G0 64 [.c (.d (.sl (es.map srow))), .c (.d (.fn g (cps.map .ip)))] [] fun t H => t = .bool (es.any pr) ∧ H = [] := by
 have h1 : (x609 pr g cps es).sc = true := rfl
 refine acallsX (X := [(109, x609 pr g cps es)]) ⟨kx609 pr g cps xg hx hsc hxg es hl, trivial⟩ tab hmix Tryz.func64 c564 (by rfl) fun hw => ?_
 have ha := idxF_any pr es 0
 by_cases h : 0 ≤ idxF pr 0 es
 ·rw [ha.1 h]
  simp (implicitDefEqProofs := false) (disch := omega) [gz, ir564, b564, h1, x609, h]
  exact fin_nil ⟨rfl, rfl⟩
 ·have : es.any pr = false := by
   cases hb : es.any pr
   ·rfl
   ·exact absurd (ha.2 hb) h
  rw [this]
  simp (implicitDefEqProofs := false) (disch := omega) [gz, ir564, b564, h1, x609, h]
  exact fin_nil ⟨rfl, rfl⟩
def x564 (pr : ByteArray → Bool) (g : Nat) (cps : List (List D)) (es : List (ByteArray)) : XE := ⟨true, fun ps => some (ps = [.c (.sl (es.map srow)), .c (.fn g (cps.map .ip))], .bool (es.any pr))⟩
theorem kx564 (pr : ByteArray → Bool) (g : Nat) (cps : List (List D)) (xg : XE) (hx : Contract Tryz.prog G0 g xg) (hsc : xg.sc = true)
  (hxg : ∀ e, xg.g (.c (.v (.string e)) :: cps.map fun cs => .c (.ip cs)) = some (True, .bool (pr e))) (es : List (ByteArray)) (hl : es.length < 4611686018427387904) : Contract Tryz.prog G0 64 (x564 pr g cps es) := contract_sc fun ps ob t h ho => by
 injection h with h; injection h with h1 h2; subst h2; subst h1
 subst ho
 exact ⟨rfl, k564 pr g cps xg hx hsc hxg es hl⟩
/-- slices.Index at strings. -/
theorem k618 (l : List ByteArray) (x : ByteArray) (hl : l.length < 4611686018427387904) :
  ACalls Tryz.prog G0 118 [.c (.d (.sl (l.map srow))), Sx x] [] fun t H => t = .int .i64 (idxF (fun y => decide (x = y)) 0 l) ∧ H = [] := by
 refine acallsX (X := []) trivial tab hmix Tryz.func118 c618 (by rfl) fun hw => ?_
 simp (implicitDefEqProofs := false) (disch := omega) [gz, ir618, b618, wrap64]
 refine loopG (fun k s => ∃ i, i ≤ l.length ∧ k = l.length - i ∧ idxF (fun y => decide (x = y)) 0 l = idxF (fun y => decide (x = y)) i (l.drop i) ∧
  s = ⟨ofL [(0, .v (.c (.d (.sl (l.map srow))))), (1, .str x), (7, .int .i64 l.length), (8, .int .i64 i)], []⟩) ?_ ?_
 ·refine wk_keep [0, 1, 7, 8] ⟨_, 0, by omega, rfl, rfl, ?_⟩
  simp
 ·rintro J hJ k s ⟨i, hi, rfl, hid, rfl⟩
  by_cases hlt : i < l.length
  ·have hst := idxF_step (fun y => decide (x = y)) hlt
   obtain ⟨e, he⟩ : ∃ e, nth l i = e := ⟨_, rfl⟩
   have hee : srow e = [.v (.string e)] := rfl
   rw [he] at hst
   by_cases q : x = e
   ·rw [if_pos (decide_eq_true q)] at hst
    simp (implicitDefEqProofs := false) (disch := omega) [gz, hlt, wrap64, nth_map, he, hee, binSF, q]
    exact fin_nil ⟨by rw [← q, hid, hst]; rfl, rfl⟩
   ·rw [if_neg (by simp [q])] at hst
    simp (implicitDefEqProofs := false) (disch := omega) [gz, hlt, wrap64, nth_map, he, hee, binSF, q]
    subst hJ
    refine wk_keep [0, 1, 7, 8] ⟨l.length - (i + 1), by omega, i + 1, by omega, rfl, by rw [hid, hst], ?_⟩
    simp
  ·simp (implicitDefEqProofs := false) (disch := omega) [gz, hlt]
   rw [hid, List.drop_eq_nil_of_le (by omega)]
   exact fin_nil ⟨rfl, rfl⟩
theorem injSS (a b : List ByteArray × ByteArray) (h : [PVo.c (D.sl (a.1.map srow)), PVo.c (.v (.string a.2))] = [PVo.c (.sl (b.1.map srow)), .c (.v (.string b.2))]) : a = b := by
 simp only [List.cons.injEq, PVo.c.injEq, D.sl.injEq, D.v.injEq, Value.string.injEq] at h
 exact Prod.ext (srow_inj h.1) h.2.1
noncomputable def x618 : XE := mkX true (fun (p : List ByteArray × ByteArray) => [.c (.sl (p.1.map srow)), .c (.v (.string p.2))]) (fun p => p.1.length < 4611686018427387904) (fun p => .int .i64 (idxF (fun y => decide (p.2 = y)) 0 p.1))
theorem kx618 : Contract Tryz.prog G0 118 x618 := mkX_scal (fun _ => rfl) fun p h => k618 p.1 p.2 h
theorem xg618 (l : List ByteArray) (x : ByteArray) (h : l.length < 4611686018427387904) : x618.g [.c (.sl (l.map srow)), .c (.v (.string x))] = some (True, .int .i64 (idxF (fun y => decide (x = y)) 0 l)) := mkX_g injSS (l, x) h
/-- Is the string in the list? -/
def hasS (l : List ByteArray) (x : ByteArray) : Bool := l.any fun y => decide (x = y)
theorem hasS_iff (l : List ByteArray) (x : ByteArray) : hasS l x = true ↔ x ∈ l := by
 unfold hasS
 rw [List.any_eq_true]
 constructor
 ·rintro ⟨y, hy, e⟩; rw [of_decide_eq_true e]; exact hy
 ·intro h; exact ⟨x, h, by simp⟩
theorem k577 (l : List ByteArray) (x : ByteArray) (hl : l.length < 4611686018427387904) :
  ACalls Tryz.prog G0 77 [.c (.d (.sl (l.map srow))), Sx x] [] fun t H => t = .bool (hasS l x) ∧ H = [] := by
 have h1 : x618.sc = true := rfl
 have g1 := xg618 l x hl
 refine acallsX (X := [(118, x618)]) ⟨kx618, trivial⟩ tab hmix Tryz.func77 c577 (by rfl) fun hw => ?_
 have ha := idxF_any (fun y => decide (x = y)) l 0
 by_cases h : 0 ≤ idxF (fun y => decide (x = y)) 0 l
 ·have hm : hasS l x = true := ha.1 h
  rw [hm]
  simp (implicitDefEqProofs := false) (disch := omega) [gz, ir577, b577, h1, g1, h]
  exact fin_nil ⟨rfl, rfl⟩
 ·have hm : hasS l x = false := by
   cases hb : hasS l x
   ·rfl
   ·exact absurd (ha.2 hb) h
  rw [hm]
  simp (implicitDefEqProofs := false) (disch := omega) [gz, ir577, b577, h1, g1, h]
  exact fin_nil ⟨rfl, rfl⟩
noncomputable def x577 : XE := mkX true (fun (p : List ByteArray × ByteArray) => [.c (.sl (p.1.map srow)), .c (.v (.string p.2))]) (fun p => p.1.length < 4611686018427387904) (fun p => .bool (hasS p.1 p.2))
theorem kx577 : Contract Tryz.prog G0 77 x577 := mkX_scal (fun _ => rfl) fun p h => k577 p.1 p.2 h
theorem xg577 (l : List ByteArray) (x : ByteArray) (h : l.length < 4611686018427387904) : x577.g [.c (.sl (l.map srow)), .c (.v (.string x))] = some (True, .bool (hasS l x)) := mkX_g injSS (l, x) h
/-- slices.Equal at strings. -/
theorem k569 (a b : List ByteArray) (hb : b.length < 4611686018427387904) :
  ACalls Tryz.prog G0 69 [.c (.d (.sl (a.map srow))), .c (.d (.sl (b.map srow)))] [] fun t H => t = .bool (decide (a = b)) ∧ H = [] := by
 refine acallsX (X := []) trivial tab hmix Tryz.func69 c569 (by rfl) fun hw => ?_
 by_cases hln : a.length = b.length
 ·simp (implicitDefEqProofs := false) (disch := omega) [gz, ir569, b569, hln, wrap64]
  refine loopE (fun k s => ∃ i, i ≤ b.length ∧ k = b.length - i ∧ (a.take i = b.take i) ∧
    s = ⟨ofL [(0, .v (.c (.d (.sl (a.map srow))))), (1, .v (.c (.d (.sl (b.map srow))))), (12, .int .i64 b.length), (13, .int .i64 i)], []⟩)
   (fun s => a = b ∧ AtS [] [] s) ?_ ?_ ?_
  ·refine wk_keep [0, 1, 12, 13] ⟨_, 0, by omega, rfl, by simp, ?_⟩
   simp
  ·rintro J L hJ hL k s ⟨i, hi, rfl, hq, rfl⟩
   by_cases hlt : i < b.length
   ·have hlt' : i < a.length := by omega
    obtain ⟨x, hx⟩ : ∃ e, nth a i = e := ⟨_, rfl⟩
    obtain ⟨y, hy⟩ : ∃ e, nth b i = e := ⟨_, rfl⟩
    have hxe : srow x = [.v (.string x)] := rfl
    have hye : srow y = [.v (.string y)] := rfl
    by_cases q : x = y
    ·have hn : a.take (i + 1) = b.take (i + 1) := by rw [take_nth hlt', take_nth hlt, hx, hy, hq, q]
     simp (implicitDefEqProofs := false) (disch := omega) [gz, hlt, hlt', wrap64, nth_map, hx, hy, hxe, hye, binSF, q]
     repeat' (with_reducible apply And.intro)
     all_goals first | omega | kernel_rfl | skip
     subst hJ
     refine wk_keep [0, 1, 12, 13] ⟨b.length - (i + 1), by omega, i + 1, by omega, rfl, hn, ?_⟩
     simp
    ·have hne : a ≠ b := fun e => q (by rw [← hx, ← hy, e])
     simp (implicitDefEqProofs := false) (disch := omega) [gz, hlt, hlt', wrap64, nth_map, hx, hy, hxe, hye, binSF, q]
     repeat' (with_reducible apply And.intro)
     all_goals first | omega | kernel_rfl | skip
     exact fin_nil ⟨by simp [hne], rfl⟩
   ·have : i = b.length := by omega
    subst this
    simp (implicitDefEqProofs := false) (disch := omega) [gz, hlt]
    subst hL
    rw [List.take_length, ← hln, List.take_length] at hq
    exact ⟨hq, at_mk (by simp) rfl⟩
  ·rintro _ ⟨hq, sl, rfl⟩
   simp (implicitDefEqProofs := false) (disch := omega) [gz, wrap64]
   exact fin_nil ⟨by simp [hq], rfl⟩
 ·have hne : a ≠ b := fun e => hln (by rw [e])
  have hln' : ¬ (a.length : Int) = b.length := by omega
  simp (implicitDefEqProofs := false) (disch := omega) [gz, ir569, b569, hln', hln, wrap64]
  exact fin_nil ⟨by simp [hne], rfl⟩
theorem injSL (a b : List ByteArray × List ByteArray) (h : [PVo.c (D.sl (a.1.map srow)), PVo.c (.sl (a.2.map srow))] = [PVo.c (.sl (b.1.map srow)), .c (.sl (b.2.map srow))]) : a = b := by
 simp only [List.cons.injEq, PVo.c.injEq, D.sl.injEq] at h
 exact Prod.ext (srow_inj h.1) (srow_inj h.2.1)
noncomputable def x569 : XE := mkX true (fun (p : List ByteArray × List ByteArray) => [.c (.sl (p.1.map srow)), .c (.sl (p.2.map srow))]) (fun p => p.2.length < 4611686018427387904) (fun p => .bool (decide (p.1 = p.2)))
theorem kx569 : Contract Tryz.prog G0 69 x569 := mkX_scal (fun _ => rfl) fun p h => k569 p.1 p.2 h
theorem xg569 (a b : List ByteArray) (hb : b.length < 4611686018427387904) : x569.g [.c (.sl (a.map srow)), .c (.sl (b.map srow))] = some (True, .bool (decide (a = b))) := mkX_g injSL (a, b) hb
/-- part: is the one list within the other? -/
def partS (a b : List ByteArray) : Bool := a.all fun s => hasS b s
noncomputable def x604 (b : List ByteArray) : XE := mkX true (fun (s : ByteArray) => [.c (.v (.string s)), .c (.ip [.sl (b.map srow)])]) (fun _ => b.length < 4611686018427387904) (fun s => .bool (!hasS b s))
theorem k604 (s : ByteArray) (b : List ByteArray) (hb : b.length < 4611686018427387904) : ACalls Tryz.prog G0 104 [Sx s, .c (.d (.ip [.sl (b.map srow)]))] [] fun t H => t = .bool (!hasS b s) ∧ H = [] := by
 have h1 : x577.sc = true := rfl
 have g1 := xg577 b s hb
 refine acallsX (X := [(77, x577)]) ⟨kx577, trivial⟩ tab hmix Tryz.func104 c604 (by rfl) fun hw => ?_
 simp (implicitDefEqProofs := false) (disch := omega) [gz, ir604, b604, h1, g1]
 exact fin_nil ⟨rfl, rfl⟩
theorem kx604 (b : List ByteArray) : Contract Tryz.prog G0 104 (x604 b) := mkX_scal (fun _ => rfl) fun s h => k604 s b h
theorem xg604 (b : List ByteArray) (hb : b.length < 4611686018427387904) (s : ByteArray) : (x604 b).g (.c (.v (.string s)) :: [[D.sl (b.map srow)]].map fun cs => .c (.ip cs)) = some (True, .bool (!hasS b s)) := mkX_g (fun a b h => by simp at h; exact h) s hb
theorem k559 (a b : List ByteArray) (ha : a.length < 4611686018427387904) (hb : b.length < 4611686018427387904) :
  ACalls Tryz.prog G0 59 [.c (.d (.sl (a.map srow))), .c (.d (.sl (b.map srow)))] [] fun t H => t = .bool (partS a b) ∧ H = [] := by
 have h1 : (x564 (fun s => !hasS b s) 104 [[D.sl (b.map srow)]] a).sc = true := rfl
 refine acallsX (X := [(64, x564 (fun s => !hasS b s) 104 [[D.sl (b.map srow)]] a)]) ⟨kx564 _ 104 _ (x604 b) (kx604 b) rfl (xg604 b hb) a ha, trivial⟩ tab hmix Tryz.func59 c559 (by rfl) fun hw => ?_
 have hp : partS a b = !(a.any fun s => !hasS b s) := by unfold partS; rw [List.not_any_eq_all_not]; simp
 rw [hp]
 obtain ⟨q, hq⟩ : ∃ q, q = a.any fun s => !hasS b s := ⟨_, rfl⟩
 rw [← hq]
 simp (implicitDefEqProofs := false) (disch := omega) [gz, ir559, b559, h1, x564, ← hq]
 exact fin_nil ⟨rfl, rfl⟩
noncomputable def x559 : XE := mkX true (fun (p : List ByteArray × List ByteArray) => [.c (.sl (p.1.map srow)), .c (.sl (p.2.map srow))]) (fun p => p.1.length < 4611686018427387904 ∧ p.2.length < 4611686018427387904) (fun p => .bool (partS p.1 p.2))
theorem kx559 : Contract Tryz.prog G0 59 x559 := mkX_scal (fun _ => rfl) fun p h => k559 p.1 p.2 h.1 h.2
theorem xg559 (a b : List ByteArray) (ha : a.length < 4611686018427387904) (hb : b.length < 4611686018427387904) : x559.g [.c (.sl (a.map srow)), .c (.sl (b.map srow))] = some (True, .bool (partS a b)) := mkX_g injSL (a, b) ⟨ha, hb⟩
end Go.Aw.Try

namespace Go.Aw.Try
open Go Go.Proofs Go.Aw
set_option maxRecDepth 100000
set_option maxHeartbeats 4000000
/-! ### version vectors -/
/-- slices.IndexFunc at Id. -/
theorem k619 (pr : Id → Bool) (g : Nat) (cps : List (List D)) (xg : XE) (hx : Contract Tryz.prog G0 g xg) (hsc : xg.sc = true)
  (hxg : ∀ e, xg.g (.agg (Id.row e) :: cps.map fun cs => .c (.ip cs)) = some (True, .bool (pr e))) (es : List (Id)) (hl : es.length < 4611686018427387904) :
  ACalls Tryz.prog G0 119 [.c (.d (.sl (es.map Id.row))), .c (.d (.fn g (cps.map .ip)))] [] fun t H => t = .int .i64 (idxF pr 0 es) ∧ H = [] := by
 refine acallsX (X := [(g, xg)]) ⟨hx, trivial⟩ tab hmix Tryz.func119 c619 (by rfl) fun hw => ?_
 simp (implicitDefEqProofs := false) (disch := omega) [gz, ir619, b619, wrap64]
 refine loopG (fun k s => ∃ i, i ≤ es.length ∧ k = es.length - i ∧ idxF pr 0 es = idxF pr i (es.drop i) ∧
  s = ⟨ofL [(0, .v (.c (.d (.sl (es.map Id.row))))), (1, .v (.c (.d (.fn g (cps.map .ip))))), (7, .int .i64 es.length), (8, .int .i64 i)], []⟩) ?_ ?_
 ·refine wk_keep [0, 1, 7, 8] ⟨_, 0, by omega, rfl, rfl, ?_⟩
  simp
 ·rintro J hJ k s ⟨i, hi, rfl, hid, rfl⟩
  by_cases hlt : i < es.length
  ·have hst := idxF_step pr hlt
   obtain ⟨e, he⟩ : ∃ e, nth es i = e := ⟨_, rfl⟩
   have hee : Id.row e = [.v (.string e.a), .v (.int .i64 e.n)] := rfl
   have hxg := hxg e
   rw [hee] at hxg
   rw [he] at hst
   simp (implicitDefEqProofs := false) (disch := omega) [gz, hlt, wrap64, nth_map, he, hee, mapO_ipc, hsc, hxg]
   refine ⟨fun h => ?_, fun h => ?_⟩
   ·rw [if_pos h] at hst
    exact fin_nil ⟨by rw [hid, hst]; rfl, rfl⟩
   ·rw [if_neg (by simp [h])] at hst
    subst hJ
    refine wk_keep [0, 1, 7, 8] ⟨es.length - (i + 1), by omega, i + 1, by omega, rfl, by rw [hid, hst], ?_⟩
    simp
  ·simp (implicitDefEqProofs := false) (disch := omega) [gz, hlt]
   rw [hid, List.drop_eq_nil_of_le (by omega)]
   exact fin_nil ⟨rfl, rfl⟩
def x619 (pr : Id → Bool) (g : Nat) (cps : List (List D)) (es : List (Id)) : XE := ⟨true, fun ps => some (ps = [.c (.sl (es.map Id.row)), .c (.fn g (cps.map .ip))], .int .i64 (idxF pr 0 es))⟩
theorem kx619 (pr : Id → Bool) (g : Nat) (cps : List (List D)) (xg : XE) (hx : Contract Tryz.prog G0 g xg) (hsc : xg.sc = true)
  (hxg : ∀ e, xg.g (.agg (Id.row e) :: cps.map fun cs => .c (.ip cs)) = some (True, .bool (pr e))) (es : List (Id)) (hl : es.length < 4611686018427387904) : Contract Tryz.prog G0 119 (x619 pr g cps es) := contract_sc fun ps ob t h ho => by
 injection h with h; injection h with h1 h2; subst h2; subst h1
 subst ho
 exact ⟨rfl, k619 pr g cps xg hx hsc hxg es hl⟩

def prA (a : ByteArray) (x : Id) : Bool := decide (x.a = a)
noncomputable def x620 (a : ByteArray) : XE := mkX true (fun (x : Id) => [.agg x.row, .c (.ip [.v (.string a)])]) (fun _ => True) (fun x => .bool (prA a x))
theorem k620 (x : Id) (a : ByteArray) : ACalls Tryz.prog G0 120 [.agg (x.row.map .d), .c (.d (.ip [.v (.string a)]))] [] fun t H => t = .bool (prA a x) ∧ H = [] := by
 refine acallsX (X := []) trivial tab hmix Tryz.func120 c620 (by rfl) fun hw => ?_
 have hxe : x.row = [.v (.string x.a), .v (.int .i64 x.n)] := rfl
 unfold prA
 simp (implicitDefEqProofs := false) (disch := omega) [gz, ir620, b620, hxe, binSF]
 exact fin_nil ⟨rfl, rfl⟩
theorem kx620 (a : ByteArray) : Contract Tryz.prog G0 120 (x620 a) := mkX_scal (fun _ => rfl) fun x _ => k620 x a
theorem xg620 (a : ByteArray) (x : Id) : (x620 a).g (.agg (Id.row x) :: [[D.v (.string a)]].map fun cs => .c (.ip cs)) = some (True, .bool (prA a x)) := mkX_g (fun a b h => by simp at h; exact Id.row_inj h) x trivial
/-- The number of an author in a vector, 0 if it is not there. -/
def hasN (v : List Id) (a : ByteArray) : Int := match v.find? (prA a) with | some x => x.n | none => 0
theorem idxF_find {E : Type} [Inhabited E] (pr : E → Bool) : ∀ (l : List E) (k : Nat), (idxF pr k l < 0 ∧ l.find? pr = none) ∨ ∃ i : Nat, idxF pr k l = ((k + i : Nat) : Int) ∧ i < l.length ∧ l.find? pr = some (nth l i)
 | [], k => .inl ⟨by simp [idxF], rfl⟩
 | x :: r, k => by
  simp only [idxF, List.find?_cons]
  by_cases h : pr x = true
  ·rw [if_pos h, h]; exact .inr ⟨0, by simp, by simp, rfl⟩
  ·rw [if_neg h]
   have h' : pr x = false := by simpa using h
   rw [h']
   rcases idxF_find pr r (k + 1) with ⟨h1, h2⟩ | ⟨i, h1, h2, h3⟩
   ·exact .inl ⟨h1, h2⟩
   ·exact .inr ⟨i + 1, by rw [h1]; congr 1; omega, by simp; omega, by rw [h3]; rfl⟩
theorem k579 (v : List Id) (a : ByteArray) (hl : v.length < 4611686018427387904) : ACalls Tryz.prog G0 79 [.c (.d (.sl (v.map Id.row))), Sx a] [] fun t H => t = .int .i64 (hasN v a) ∧ H = [] := by
 have h1 : (x619 (prA a) 120 [[D.v (.string a)]] v).sc = true := rfl
 refine acallsX (X := [(119, x619 (prA a) 120 [[D.v (.string a)]] v)]) ⟨kx619 _ 120 _ (x620 a) (kx620 a) rfl (xg620 a) v hl, trivial⟩ tab hmix Tryz.func79 c579 (by rfl) fun hw => ?_
 rcases idxF_find (prA a) v 0 with ⟨q1, q2⟩ | ⟨i, q1, q2, q3⟩
 ·have hN : hasN v a = 0 := by unfold hasN; rw [q2]
  rw [hN]
  simp (implicitDefEqProofs := false) (disch := omega) [gz, ir579, b579, h1, x619, q1]
  exact fin_nil ⟨rfl, rfl⟩
 ·obtain ⟨x, hx⟩ : ∃ x, nth v i = x := ⟨_, rfl⟩
  have hxe : x.row = [.v (.string x.a), .v (.int .i64 x.n)] := rfl
  have hN : hasN v a = x.n := by unfold hasN; rw [q3, hx]
  rw [hN]
  rw [Nat.zero_add] at q1
  simp (implicitDefEqProofs := false) (disch := omega) [gz, ir579, b579, h1, x619, q1, q2, nth_map, hx, hxe]
  exact ⟨fun h => by omega, fin_nil ⟨rfl, rfl⟩⟩
theorem injVS (a b : List Id × ByteArray) (h : [PVo.c (D.sl (a.1.map Id.row)), PVo.c (.v (.string a.2))] = [PVo.c (.sl (b.1.map Id.row)), .c (.v (.string b.2))]) : a = b := by
 simp only [List.cons.injEq, PVo.c.injEq, D.sl.injEq, D.v.injEq, Value.string.injEq] at h
 exact Prod.ext (map_inj (fun _ _ => Id.row_inj) h.1) h.2.1
noncomputable def x579 : XE := mkX true (fun (p : List Id × ByteArray) => [.c (.sl (p.1.map Id.row)), .c (.v (.string p.2))]) (fun p => p.1.length < 4611686018427387904) (fun p => .int .i64 (hasN p.1 p.2))
theorem kx579 : Contract Tryz.prog G0 79 x579 := mkX_scal (fun _ => rfl) fun p h => k579 p.1 p.2 h
theorem xg579 (v : List Id) (a : ByteArray) (h : v.length < 4611686018427387904) : x579.g [.c (.sl (v.map Id.row)), .c (.v (.string a))] = some (True, .int .i64 (hasN v a)) := mkX_g injVS (v, a) h
/-! the comparison, the search -/
theorem k585 (x : Id) (a : ByteArray) : ACalls Tryz.prog G0 85 [.agg (x.row.map .d), Sx a] [] fun t H => t = .int .i64 (cmpS x.a a) ∧ H = [] := by
 have h1 : x49.sc = true := rfl
 refine acallsX (X := [(86, x49)]) ⟨kx49, trivial⟩ tab hmix Tryz.func85 c585 (by rfl) fun hw => ?_
 have hxe : x.row = [.v (.string x.a), .v (.int .i64 x.n)] := rfl
 simp (implicitDefEqProofs := false) (disch := omega) [gz, ir585, b585, hxe, h1, x49]
 exact fin_nil ⟨rfl, rfl⟩
noncomputable def x585 : XE := mkX true (fun (p : Id × ByteArray) => [.agg p.1.row, .c (.v (.string p.2))]) (fun _ => True) (fun p => .int .i64 (cmpS p.1.a p.2))
theorem kx585 : Contract Tryz.prog G0 85 x585 := mkX_scal (fun _ => rfl) fun p _ => k585 p.1 p.2
theorem xg585 (x : Id) (a : ByteArray) : x585.g [.agg x.row, .c (.v (.string a))] = some (True, .int .i64 (cmpS x.a a)) := mkX_g (fun a b h => by
 simp only [List.cons.injEq, PVo.agg.injEq, PVo.c.injEq, D.v.injEq, Value.string.injEq] at h
 exact Prod.ext (Id.row_inj h.1) h.2.1) (x, a) trivial
/-- Authors strictly ascending. -/
def AscI (v : List Id) : Prop := v.Pairwise fun x y => cmpS x.a y.a < 0
/-- Where an author is or would be. -/
def lowB (v : List Id) (a : ByteArray) : Nat := (v.takeWhile fun x => decide (cmpS x.a a < 0)).length
theorem lowB_le (v : List Id) (a : ByteArray) : lowB v a ≤ v.length := (List.takeWhile_sublist _).length_le
theorem lowB_spec {v : List Id} (h : AscI v) (a : ByteArray) {i : Nat} (hi : i ≤ v.length) (h1 : ∀ j, j < i → cmpS (nth v j).a a < 0) (h2 : i < v.length → ¬ cmpS (nth v i).a a < 0) : lowB v a = i := by
 unfold lowB
 induction v generalizing i with
 | nil => simp at hi; subst hi; rfl
 | cons x v ih =>
  cases i with
  | zero =>
   have : ¬ cmpS x.a a < 0 := h2 (by simp)
   simp [List.takeWhile_cons, this]
  | succ i =>
   have : cmpS x.a a < 0 := h1 0 (by omega)
   have := ih (List.pairwise_cons.1 h).2 (i := i) (by simpa using hi) (fun j hj => h1 (j + 1) (by omega)) (fun hl => h2 (by simpa using hl))
   simp [List.takeWhile_cons, *]
theorem asc_lt {v : List Id} (h : AscI v) {i j : Nat} (hij : i < j) (hj : j < v.length) : cmpS (nth v i).a (nth v j).a < 0 := by
 rw [nth_eq (by omega), nth_eq hj]
 exact List.pairwise_iff_getElem.1 h i j (by omega) hj hij
theorem asc_low {v : List Id} (h : AscI v) {a : ByteArray} {i j : Nat} (hij : i ≤ j) (hj : j < v.length) (hc : cmpS (nth v j).a a < 0) : cmpS (nth v i).a a < 0 := by
 by_cases e : i = j
 ·subst e; exact hc
 ·have h1 := asc_lt h (show i < j by omega) hj
  have h2 := cmpS_pre.tr (nth v i).a (nth v j).a a (by omega) (by omega)
  by_cases q : cmpS (nth v i).a a = 0
  ·have e1 := (cmpS_eq _ _).1 q
   rw [e1] at h1
   have := cmpS_sgn a (nth v j).a
   omega
  ·omega
theorem k584 (v : List Id) (a : ByteArray) (ha : AscI v) (hl : v.length < 4611686018427387904) :
  ACalls Tryz.prog G0 84 [.c (.d (.sl (v.map Id.row))), Sx a, .c (.d (.fn 85 []))] [] fun t H => t = .tup [I (lowB v a), .c (.d (.v (.bool (decide (lowB v a < v.length ∧ (nth v (lowB v a)).a = a)))))] ∧ H = [] := by
 have h1 : x585.sc = true := rfl
 refine acallsX (X := [(85, x585)]) ⟨kx585, trivial⟩ tab hmix Tryz.func84 c584 (by rfl) fun hw => ?_
 simp (implicitDefEqProofs := false) (disch := omega) [gz, ir584, b584, wrap64]
 refine loopE (fun k s => ∃ i j : Nat, i ≤ j ∧ j ≤ v.length ∧ k = j - i ∧ (∀ c, c < i → cmpS (nth v c).a a < 0) ∧ (j < v.length → ¬ cmpS (nth v j).a a < 0) ∧
   s = ⟨ofL [(0, .v (.c (.d (.sl (v.map Id.row))))), (1, .str a), (2, .v (.c (.d (.fn 85 [])))), (8, .int .i64 v.length), (9, .int .i64 i), (10, .int .i64 j)], []⟩)
  (fun s => AtS [(0, .v (.c (.d (.sl (v.map Id.row))))), (1, .str a), (2, .v (.c (.d (.fn 85 [])))), (8, .int .i64 v.length), (9, .int .i64 (lowB v a))] [] s) ?_ ?_ ?_
 ·refine wk_keep [0, 1, 2, 8, 9, 10] ⟨_, 0, v.length, by omega, by omega, rfl, fun c h => by omega, fun h => by omega, ?_⟩
  simp
 ·rintro J L hJ hL k s ⟨i, j, hij, hj, rfl, g1, g2, rfl⟩
  by_cases hlt : i < j
  ·obtain ⟨m, hm⟩ : ∃ m, m = (i + j) / 2 := ⟨_, rfl⟩
   have hml : m < v.length := by omega
   obtain ⟨x, hx⟩ : ∃ x, nth v m = x := ⟨_, rfl⟩
   have hxe : x.row = [.v (.string x.a), .v (.int .i64 x.n)] := rfl
   have gx := xg585 x a
   rw [hxe] at gx
   have hh := half i j
   rw [← hm] at hh
   obtain ⟨q, hq⟩ : ∃ q, q = cmpS x.a a := ⟨_, rfl⟩
   rw [← hq] at gx
   have low : q < 0 → ∀ c, c < m + 1 → cmpS (nth v c).a a < 0 := fun h c hc => asc_low ha (show c ≤ m by omega) hml (by rw [hx, ← hq]; exact h)
   by_cases hc : q < 0
   ·simp (implicitDefEqProofs := false) (disch := omega) [gz, hlt, wrap64, wrapU64, hh, hml, nth_map, hx, hxe, h1, gx, hc]
    subst hJ
    refine wk_keep [0, 1, 2, 8, 9, 10] ⟨j - (m + 1), by omega, m + 1, j, by omega, by omega, rfl, low hc, g2, ?_⟩
    simp
   ·simp (implicitDefEqProofs := false) (disch := omega) [gz, hlt, wrap64, wrapU64, hh, hml, nth_map, hx, hxe, h1, gx, hc]
    subst hJ
    refine wk_keep [0, 1, 2, 8, 9, 10] ⟨m - i, by omega, i, m, by omega, by omega, rfl, g1, fun _ => by rw [hx, ← hq]; exact hc, ?_⟩
    simp
  ·have : i = j := by omega
   subst this
   have hb := lowB_spec ha a hj g1 g2
   simp (implicitDefEqProofs := false) (disch := omega) [gz, hlt]
   subst hL
   rw [hb]
   exact at_mk (by simp) rfl
 ·rintro _ ⟨sl, rfl⟩
  obtain ⟨i, hi⟩ : ∃ i, i = lowB v a := ⟨_, rfl⟩
  have hil : i ≤ v.length := by rw [hi]; exact lowB_le v a
  rw [← hi]
  by_cases hlt : i < v.length
  ·obtain ⟨x, hx⟩ : ∃ x, nth v i = x := ⟨_, rfl⟩
   have hxe : x.row = [.v (.string x.a), .v (.int .i64 x.n)] := rfl
   have gx := xg585 x a
   rw [hxe] at gx
   obtain ⟨q, hq⟩ : ∃ q, q = cmpS x.a a := ⟨_, rfl⟩
   have he := cmpS_eq x.a a
   rw [← hq] at gx he
   by_cases hc : q = 0
   ·simp (implicitDefEqProofs := false) (disch := omega) [gz, hlt, wrap64, nth_map, hx, hxe, h1, gx, hc]
    exact fin_nil ⟨by simp [he.1 hc, hx], rfl⟩
   ·have hne : ¬ x.a = a := fun e => hc (he.2 e)
    simp (implicitDefEqProofs := false) (disch := omega) [gz, hlt, wrap64, nth_map, hx, hxe, h1, gx, hc]
    exact fin_nil ⟨by simp [hx, hne], rfl⟩
  ·simp (implicitDefEqProofs := false) (disch := omega) [gz, hlt, wrap64]
   exact fin_nil ⟨by simp, rfl⟩
end Go.Aw.Try

namespace Go.Aw.Try
open Go Go.Proofs Go.Aw
set_option maxRecDepth 100000
set_option maxHeartbeats 4000000
theorem hasN_cons (x : Id) (v : List Id) (a : ByteArray) : hasN (x :: v) a = if x.a = a then x.n else hasN v a := by
 unfold hasN prA
 rw [List.find?_cons]
 by_cases e : x.a = a
 ·rw [decide_eq_true e, if_pos e]
 ·rw [decide_eq_false e, if_neg e]
theorem lowB_cons (x : Id) (v : List Id) (a : ByteArray) : lowB (x :: v) a = if cmpS x.a a < 0 then lowB v a + 1 else 0 := by
 unfold lowB
 rw [List.takeWhile_cons]
 by_cases e : cmpS x.a a < 0
 ·rw [decide_eq_true e, if_pos rfl, if_pos e]; rfl
 ·rw [decide_eq_false e, if_neg (by simp), if_neg e]; rfl
theorem hasN_none {v : List Id} {a : ByteArray} (h : ∀ y ∈ v, y.a ≠ a) : hasN v a = 0 := by
 induction v with
 | nil => rfl
 | cons x v ih => rw [hasN_cons, if_neg (h x List.mem_cons_self)]; exact ih fun y hy => h y (List.mem_cons_of_mem _ hy)
theorem hasN_low {v : List Id} (h : AscI v) (a : ByteArray) : hasN v a = if lowB v a < v.length ∧ (nth v (lowB v a)).a = a then (nth v (lowB v a)).n else 0 := by
 induction v with
 | nil => rfl
 | cons x v ih =>
  obtain ⟨h1, h2⟩ := List.pairwise_cons.1 h
  have ih := ih h2
  rw [hasN_cons, lowB_cons]
  by_cases hc : cmpS x.a a < 0
  ·have e : x.a ≠ a := fun q => by rw [(cmpS_eq _ _).2 q] at hc; omega
   rw [if_neg e, if_pos hc, ih]
   have e1 : nth (x :: v) (lowB v a + 1) = nth v (lowB v a) := rfl
   rw [e1]
   simp only [List.length_cons, Nat.add_lt_add_iff_right]
  ·rw [if_neg hc]
   have e0 : nth (x :: v) 0 = x := rfl
   rw [e0]
   by_cases e : x.a = a
   ·rw [if_pos e, if_pos ⟨by simp, e⟩]
   ·rw [if_neg e, if_neg fun q => e q.2]
    refine hasN_none fun y hy q => ?_
    have := h1 y hy
    rw [q] at this
    exact hc this
/-- Does a vector include an Id? -/
def conI (v : List Id) (x : Id) : Bool := decide (1 ≤ x.n) && decide (x.n ≤ hasN v x.a)
noncomputable def x584 : XE := mkX true (fun (p : List Id × ByteArray) => [.c (.sl (p.1.map Id.row)), .c (.v (.string p.2)), .c (.fn 85 [])]) (fun p => AscI p.1 ∧ p.1.length < 4611686018427387904) (fun p => .tup [I (lowB p.1 p.2), .c (.d (.v (.bool (decide (lowB p.1 p.2 < p.1.length ∧ (nth p.1 (lowB p.1 p.2)).a = p.2)))))])
theorem kx584 : Contract Tryz.prog G0 84 x584 := mkX_scal (fun _ => rfl) fun p h => k584 p.1 p.2 h.1 h.2
theorem xg584 (v : List Id) (a : ByteArray) (h1 : AscI v) (h : v.length < 4611686018427387904) : x584.g [.c (.sl (v.map Id.row)), .c (.v (.string a)), .c (.fn 85 [])] = some (True, .tup [I (lowB v a), .c (.d (.v (.bool (decide (lowB v a < v.length ∧ (nth v (lowB v a)).a = a)))))]) := mkX_g (fun a b h => by
 simp only [List.cons.injEq, PVo.c.injEq, D.sl.injEq, D.v.injEq, Value.string.injEq] at h
 exact Prod.ext (map_inj (fun _ _ => Id.row_inj) h.1) h.2.1) (v, a) ⟨h1, h⟩
theorem k547 (v : List Id) (a : ByteArray) (ha : AscI v) (hl : v.length < 4611686018427387904) :
  ACalls Tryz.prog G0 47 [.c (.d (.sl (v.map Id.row))), Sx a] [] fun t H => t = .tup [I (lowB v a), .c (.d (.v (.bool (decide (lowB v a < v.length ∧ (nth v (lowB v a)).a = a)))))] ∧ H = [] := by
 have h1 : x584.sc = true := rfl
 have g := xg584 v a ha hl
 obtain ⟨q, hq⟩ : ∃ q, q = decide (lowB v a < v.length ∧ (nth v (lowB v a)).a = a) := ⟨_, rfl⟩
 rw [← hq] at g ⊢
 refine acallsX (X := [(84, x584)]) ⟨kx584, trivial⟩ tab hmix Tryz.func47 c547 (by rfl) fun hw => ?_
 simp (implicitDefEqProofs := false) (disch := omega) [gz, ir547, b547, h1, g]
 exact fin_nil ⟨rfl, rfl⟩
noncomputable def x547 : XE := mkX true (fun (p : List Id × ByteArray) => [.c (.sl (p.1.map Id.row)), .c (.v (.string p.2))]) (fun p => AscI p.1 ∧ p.1.length < 4611686018427387904) (fun p => .tup [I (lowB p.1 p.2), .c (.d (.v (.bool (decide (lowB p.1 p.2 < p.1.length ∧ (nth p.1 (lowB p.1 p.2)).a = p.2)))))])
theorem kx547 : Contract Tryz.prog G0 47 x547 := mkX_scal (fun _ => rfl) fun p h => k547 p.1 p.2 h.1 h.2
theorem xg547 (v : List Id) (a : ByteArray) (h1 : AscI v) (h : v.length < 4611686018427387904) : x547.g [.c (.sl (v.map Id.row)), .c (.v (.string a))] = some (True, .tup [I (lowB v a), .c (.d (.v (.bool (decide (lowB v a < v.length ∧ (nth v (lowB v a)).a = a)))))]) := mkX_g injVS (v, a) ⟨h1, h⟩
theorem k517 (v : List Id) (x : Id) (ha : AscI v) (hl : v.length < 4611686018427387904) :
  ACalls Tryz.prog G0 17 [.c (.d (.sl (v.map Id.row))), .agg (x.row.map .d)] [] fun t H => t = .bool (conI v x) ∧ H = [] := by
 have h1 : x547.sc = true := rfl
 have hxe : x.row = [.v (.string x.a), .v (.int .i64 x.n)] := rfl
 have hN := hasN_low ha x.a
 have g := xg547 v x.a ha hl
 refine acallsX (X := [(47, x547)]) ⟨kx547, trivial⟩ tab hmix Tryz.func17 c517 (by rfl) fun hw => ?_
 rw [hxe]
 obtain ⟨i, hi⟩ : ∃ i, i = lowB v x.a := ⟨_, rfl⟩
 rw [← hi] at g hN
 unfold conI
 rw [hN]
 by_cases hf : i < v.length ∧ (nth v i).a = x.a
 ·obtain ⟨y, hy⟩ : ∃ y, nth v i = y := ⟨_, rfl⟩
  have hye : y.row = [.v (.string y.a), .v (.int .i64 y.n)] := rfl
  have hil := hf.1
  rw [if_pos hf, hy]
  rw [decide_eq_true hf] at g
  by_cases q1 : 1 ≤ x.n
  ·simp (implicitDefEqProofs := false) (disch := omega) [gz, ir517, b517, h1, g, hil, nth_map, hy, hye, q1]
   repeat' (with_reducible apply And.intro)
   all_goals first | omega | kernel_rfl | skip
   exact fin_nil ⟨by simp, rfl⟩
  ·simp (implicitDefEqProofs := false) (disch := omega) [gz, ir517, b517, h1, g, hil, nth_map, hy, hye, q1]
   repeat' (with_reducible apply And.intro)
   all_goals first | omega | kernel_rfl | skip
   exact fin_nil ⟨by simp, rfl⟩
 ·rw [if_neg hf]
  rw [decide_eq_false hf] at g
  have : (decide (1 ≤ x.n) && decide (x.n ≤ 0)) = false := by
   by_cases q : 1 ≤ x.n
   ·simp; omega
   ·simp; omega
  rw [this]
  simp (implicitDefEqProofs := false) (disch := omega) [gz, ir517, b517, h1, g]
  repeat' (with_reducible apply And.intro)
  all_goals first | omega | kernel_rfl | skip
  exact fin_nil ⟨by simp, rfl⟩
theorem injVI (a b : List Id × Id) (h : [PVo.c (D.sl (a.1.map Id.row)), PVo.agg a.2.row] = [PVo.c (.sl (b.1.map Id.row)), .agg b.2.row]) : a = b := by
 simp only [List.cons.injEq, PVo.c.injEq, PVo.agg.injEq, D.sl.injEq] at h
 exact Prod.ext (map_inj (fun _ _ => Id.row_inj) h.1) (Id.row_inj h.2.1)
noncomputable def x517 : XE := mkX true (fun (p : List Id × Id) => [.c (.sl (p.1.map Id.row)), .agg p.2.row]) (fun p => AscI p.1 ∧ p.1.length < 4611686018427387904) (fun p => .bool (conI p.1 p.2))
theorem kx517 : Contract Tryz.prog G0 17 x517 := mkX_scal (fun _ => rfl) fun p h => k517 p.1 p.2 h.1 h.2
theorem xg517 (v : List Id) (x : Id) (h1 : AscI v) (h : v.length < 4611686018427387904) : x517.g [.c (.sl (v.map Id.row)), .agg x.row] = some (True, .bool (conI v x)) := mkX_g injVI (v, x) ⟨h1, h⟩
/-! ### votes -/
structure Vote where
 e : Edit
 set : List ByteArray
instance : Inhabited Vote := ⟨⟨default, []⟩⟩
def Vote.row (v : Vote) : List D := v.e.row ++ [.sl (v.set.map srow)]
theorem Vote.row_eq (v : Vote) : v.row = [.v (.string v.e.id.a), .v (.int .i64 v.e.id.n), .v (.int .i64 v.e.clock), .v (.int .i64 v.e.floor), .sl (v.e.deps.map Id.row), .v (.int .i64 v.e.kind), .v (.string v.e.node.a), .v (.int .i64 v.e.node.n), .v (.string v.e.parent.a), .v (.int .i64 v.e.parent.n), .v (.bool v.e.neg), .v (.string v.e.num), .v (.string v.e.den), .v (.string v.e.field), .v (.string v.e.value), .v (.string v.e.target.a), .v (.int .i64 v.e.target.n), .v (.string v.e.who), .sl (v.set.map srow)] := rfl
theorem Vote.row_inj {a b : Vote} (h : a.row = b.row) : a = b := by
 unfold Vote.row at h
 have h1 : a.e.row.length = b.e.row.length := rfl
 obtain ⟨h2, h3⟩ := List.append_inj h h1
 cases a; cases b
 simp only [List.cons.injEq, D.sl.injEq] at h3
 have e1 := Edit.row_inj h2
 have e2 := srow_inj h3.1
 simp only at e1 e2
 rw [e1, e2]
/-- slices.IndexFunc at Vote. -/
theorem k608 (pr : Vote → Bool) (g : Nat) (cps : List (List D)) (xg : XE) (hx : Contract Tryz.prog G0 g xg) (hsc : xg.sc = true)
  (hxg : ∀ e, xg.g (.agg (Vote.row e) :: cps.map fun cs => .c (.ip cs)) = some (True, .bool (pr e))) (es : List (Vote)) (hl : es.length < 4611686018427387904) :
  ACalls Tryz.prog G0 108 [.c (.d (.sl (es.map Vote.row))), .c (.d (.fn g (cps.map .ip)))] [] fun t H => t = .int .i64 (idxF pr 0 es) ∧ H = [] := by
 refine acallsX (X := [(g, xg)]) ⟨hx, trivial⟩ tab hmix Tryz.func108 c608 (by rfl) fun hw => ?_
 simp (implicitDefEqProofs := false) (disch := omega) [gz, ir608, b608, wrap64]
 refine loopG (fun k s => ∃ i, i ≤ es.length ∧ k = es.length - i ∧ idxF pr 0 es = idxF pr i (es.drop i) ∧
  s = ⟨ofL [(0, .v (.c (.d (.sl (es.map Vote.row))))), (1, .v (.c (.d (.fn g (cps.map .ip))))), (7, .int .i64 es.length), (8, .int .i64 i)], []⟩) ?_ ?_
 ·refine wk_keep [0, 1, 7, 8] ⟨_, 0, by omega, rfl, rfl, ?_⟩
  simp
 ·rintro J hJ k s ⟨i, hi, rfl, hid, rfl⟩
  by_cases hlt : i < es.length
  ·have hst := idxF_step pr hlt
   obtain ⟨e, he⟩ : ∃ e, nth es i = e := ⟨_, rfl⟩
   have hee := Vote.row_eq e
   have hxg := hxg e
   rw [hee] at hxg
   rw [he] at hst
   simp (implicitDefEqProofs := false) (disch := omega) [gz, hlt, wrap64, nth_map, he, hee, mapO_ipc, hsc, hxg]
   refine ⟨fun h => ?_, fun h => ?_⟩
   ·rw [if_pos h] at hst
    exact fin_nil ⟨by rw [hid, hst]; rfl, rfl⟩
   ·rw [if_neg (by simp [h])] at hst
    subst hJ
    refine wk_keep [0, 1, 7, 8] ⟨es.length - (i + 1), by omega, i + 1, by omega, rfl, by rw [hid, hst], ?_⟩
    simp
  ·simp (implicitDefEqProofs := false) (disch := omega) [gz, hlt]
   rw [hid, List.drop_eq_nil_of_le (by omega)]
   exact fin_nil ⟨rfl, rfl⟩
def x608 (pr : Vote → Bool) (g : Nat) (cps : List (List D)) (es : List (Vote)) : XE := ⟨true, fun ps => some (ps = [.c (.sl (es.map Vote.row)), .c (.fn g (cps.map .ip))], .int .i64 (idxF pr 0 es))⟩
theorem kx608 (pr : Vote → Bool) (g : Nat) (cps : List (List D)) (xg : XE) (hx : Contract Tryz.prog G0 g xg) (hsc : xg.sc = true)
  (hxg : ∀ e, xg.g (.agg (Vote.row e) :: cps.map fun cs => .c (.ip cs)) = some (True, .bool (pr e))) (es : List (Vote)) (hl : es.length < 4611686018427387904) : Contract Tryz.prog G0 108 (x608 pr g cps es) := contract_sc fun ps ob t h ho => by
 injection h with h; injection h with h1 h2; subst h2; subst h1
 subst ho
 exact ⟨rfl, k608 pr g cps xg hx hsc hxg es hl⟩
/-- slices.ContainsFunc at Vote. -/
theorem k562 (pr : Vote → Bool) (g : Nat) (cps : List (List D)) (xg : XE) (hx : Contract Tryz.prog G0 g xg) (hsc : xg.sc = true)
  (hxg : ∀ e, xg.g (.agg (Vote.row e) :: cps.map fun cs => .c (.ip cs)) = some (True, .bool (pr e))) (es : List (Vote)) (hl : es.length < 4611686018427387904) :
  ACalls Tryz.prog G0 62 [.c (.d (.sl (es.map Vote.row))), .c (.d (.fn g (cps.map .ip)))] [] fun t H => t = .bool (es.any pr) ∧ H = [] := by
 have h1 : (x608 pr g cps es).sc = true := rfl
 refine acallsX (X := [(108, x608 pr g cps es)]) ⟨kx608 pr g cps xg hx hsc hxg es hl, trivial⟩ tab hmix Tryz.func62 c562 (by rfl) fun hw => ?_
 have ha := idxF_any pr es 0
 by_cases h : 0 ≤ idxF pr 0 es
 ·rw [ha.1 h]
  simp (implicitDefEqProofs := false) (disch := omega) [gz, ir562, b562, h1, x608, h]
  exact fin_nil ⟨rfl, rfl⟩
 ·have : es.any pr = false := by
   cases hb : es.any pr
   ·rfl
   ·exact absurd (ha.2 hb) h
  rw [this]
  simp (implicitDefEqProofs := false) (disch := omega) [gz, ir562, b562, h1, x608, h]
  exact fin_nil ⟨rfl, rfl⟩
def x562 (pr : Vote → Bool) (g : Nat) (cps : List (List D)) (es : List (Vote)) : XE := ⟨true, fun ps => some (ps = [.c (.sl (es.map Vote.row)), .c (.fn g (cps.map .ip))], .bool (es.any pr))⟩
theorem kx562 (pr : Vote → Bool) (g : Nat) (cps : List (List D)) (xg : XE) (hx : Contract Tryz.prog G0 g xg) (hsc : xg.sc = true)
  (hxg : ∀ e, xg.g (.agg (Vote.row e) :: cps.map fun cs => .c (.ip cs)) = some (True, .bool (pr e))) (es : List (Vote)) (hl : es.length < 4611686018427387904) : Contract Tryz.prog G0 62 (x562 pr g cps es) := contract_sc fun ps ob t h ho => by
 injection h with h; injection h with h1 h2; subst h2; subst h1
 subst ho
 exact ⟨rfl, k562 pr g cps xg hx hsc hxg es hl⟩

/-- Does a version vector contain all these votes? -/
def knowsV (d : List Id) (vs : List Vote) : Bool := vs.all fun v => conI d v.e.id
noncomputable def x617 (e : Edit) : XE := mkX true (fun (v : Vote) => [.agg v.row, .c (.ip e.row)]) (fun _ => AscI e.deps ∧ e.deps.length < 4611686018427387904) (fun v => .bool (!conI e.deps v.e.id))
theorem k617 (v : Vote) (f : Edit) (h : AscI f.deps) (hl : f.deps.length < 4611686018427387904) : ACalls Tryz.prog G0 117 [.agg (v.row.map .d), .c (.d (.ip f.row))] [] fun t H => t = .bool (!conI f.deps v.e.id) ∧ H = [] := by
 have h1 : x517.sc = true := rfl
 have g := xg517 f.deps v.e.id h hl
 have hxe : v.e.id.row = [.v (.string v.e.id.a), .v (.int .i64 v.e.id.n)] := rfl
 rw [hxe] at g
 refine acallsX (X := [(17, x517)]) ⟨kx517, trivial⟩ tab hmix Tryz.func117 c617 (by rfl) fun hw => ?_
 have hee := Vote.row_eq v
 have hfe := Edit.row_eq f
 simp (implicitDefEqProofs := false) (disch := omega) [gz, ir617, b617, hee, hfe, h1, g]
 exact fin_nil ⟨rfl, rfl⟩
theorem kx617 (e : Edit) : Contract Tryz.prog G0 117 (x617 e) := mkX_scal (fun _ => rfl) fun v h => k617 v e h.1 h.2
theorem xg617 (e : Edit) (h : AscI e.deps) (hl : e.deps.length < 4611686018427387904) (v : Vote) : (x617 e).g (.agg (Vote.row v) :: [e.row].map fun cs => .c (.ip cs)) = some (True, .bool (!conI e.deps v.e.id)) := mkX_g (fun a b h => by simp at h; exact Vote.row_inj h) v ⟨h, hl⟩
theorem k575 (f : Edit) (vs : List Vote) (h : AscI f.deps) (hl : f.deps.length < 4611686018427387904) (hv : vs.length < 4611686018427387904) :
  ACalls Tryz.prog G0 75 [.agg (f.row.map .d), .c (.d (.sl (vs.map Vote.row)))] [] fun t H => t = .bool (knowsV f.deps vs) ∧ H = [] := by
 obtain ⟨X0, hX0⟩ : ∃ X0, X0 = x562 (fun v => !conI f.deps v.e.id) 117 [f.row] vs := ⟨_, rfl⟩
 have hk : Contract Tryz.prog G0 62 X0 := by rw [hX0]; exact kx562 _ 117 _ (x617 f) (kx617 f) rfl (xg617 f h hl) vs hv
 have h1 : X0.sc = true := by rw [hX0]; rfl
 refine acallsX (X := [(62, X0)]) ⟨hk, trivial⟩ tab hmix Tryz.func75 c575 (by rfl) fun hw => ?_
 have hp : knowsV f.deps vs = !(vs.any fun v => !conI f.deps v.e.id) := by unfold knowsV; rw [List.not_any_eq_all_not]; simp
 rw [hp]
 obtain ⟨q, hq⟩ : ∃ q, q = vs.any fun v => !conI f.deps v.e.id := ⟨_, rfl⟩
 rw [← hq]
 have hfe := Edit.row_eq f
 have hx : ∀ ps, X0.g ps = some (ps = [.c (.sl (vs.map Vote.row)), .c (.fn 117 [.ip [.v (.string f.id.a), .v (.int .i64 f.id.n), .v (.int .i64 f.clock), .v (.int .i64 f.floor), .sl (f.deps.map Id.row), .v (.int .i64 f.kind), .v (.string f.node.a), .v (.int .i64 f.node.n), .v (.string f.parent.a), .v (.int .i64 f.parent.n), .v (.bool f.neg), .v (.string f.num), .v (.string f.den), .v (.string f.field), .v (.string f.value), .v (.string f.target.a), .v (.int .i64 f.target.n), .v (.string f.who)]])], .bool q) := fun ps => by rw [hX0, hq]; rfl
 simp (implicitDefEqProofs := false) (disch := omega) [gz, ir575, b575, h1, hfe, hx]
 exact fin_nil ⟨rfl, rfl⟩
theorem injEV (a b : Edit × List Vote) (h : [PVo.agg a.1.row, PVo.c (D.sl (a.2.map Vote.row))] = [PVo.agg b.1.row, .c (.sl (b.2.map Vote.row))]) : a = b := by
 simp only [List.cons.injEq, PVo.c.injEq, PVo.agg.injEq, D.sl.injEq] at h
 exact Prod.ext (Edit.row_inj h.1) (map_inj (fun _ _ => Vote.row_inj) h.2.1)
noncomputable def x575 : XE := mkX true (fun (p : Edit × List Vote) => [.agg p.1.row, .c (.sl (p.2.map Vote.row))]) (fun p => AscI p.1.deps ∧ p.1.deps.length < 4611686018427387904 ∧ p.2.length < 4611686018427387904) (fun p => .bool (knowsV p.1.deps p.2))
theorem kx575 : Contract Tryz.prog G0 75 x575 := mkX_scal (fun _ => rfl) fun p h => k575 p.1 p.2 h.1 h.2.1 h.2.2
theorem xg575 (f : Edit) (vs : List Vote) (h : AscI f.deps) (hl : f.deps.length < 4611686018427387904) (hv : vs.length < 4611686018427387904) : x575.g [.agg f.row, .c (.sl (vs.map Vote.row))] = some (True, .bool (knowsV f.deps vs)) := mkX_g injEV (f, vs) ⟨h, hl, hv⟩
end Go.Aw.Try

namespace Go.Aw.Try
open Go Go.Proofs Go.Aw
set_option maxRecDepth 100000
set_option maxHeartbeats 4000000
/-! ### votes and members chosen -/
theorem vrow (v : Vote) : RowOk 19 v.row := ⟨rfl, fun d hd c h => by subst h; simp [Vote.row, Edit.row] at hd⟩
theorem k606 (es : List Vote) (hl : es.length < 68719476736) (H : List O) :
  ACalls Tryz.prog G0 106 [.c (.d (.sl (es.map Vote.row)))] H (Own H 19 (es.map Vote.row)) := by
 refine acallsX (X := []) trivial tab hmix Tryz.func106 c606 (by rfl) fun hw => ?_
 simp (implicitDefEqProofs := false) (disch := omega) [gz, ir606, b606, wrap64, elems, maxLen47]
 refine ⟨⟨⟨by omega, fun e _ => (vrow e).len⟩, ?_⟩, ?_⟩
 ·exact fin_own (L := [O.dead, O.row 19 (es.map Vote.row)]) (k := 1) hw rfl (by simp)
 ·intro h
  subst h
  have := fin_own_nil (P := Tryz.prog) (H := H) (sz := 19) (L := []) hw (by omega)
  simpa using this
theorem k605 (pr : Vote → Bool) (g : Nat) (hg : (108 = g) = False) (caps : List (Nat × Nat)) (cps : List (List D)) (xg : XE) (hx : Contract Tryz.prog G0 g xg) (hsc : xg.sc = true)
  (hxg : ∀ e, xg.g (.agg (Vote.row e) :: cps.map fun cs => .c (.ip cs)) = some (True, .bool (pr e))) (es : List Vote) (hl : es.length < 4611686018427387904) (H : List O) (r : Nat) (hr : r < H.length)
  (hc1 : ∀ (xs : List (List D)), toB 8 (H.set r (.row 19 xs)) (.fn g caps) = some (.fn g (cps.map .ip)))
  (hc2 : ∀ (xs : List (List D)) (L : List O), mapO (toBV (H.set r (.row 19 xs) ++ L)) (caps.map fun c => V.c (.ptr c.1 c.2)) = some (cps.map fun cs => PVo.c (.ip cs))) (hc3 : ∀ p ∈ caps, p.1 < H.length) :
  ACalls Tryz.prog G0 105 [.c (.os r 19 0 es.length), .c (.fn g caps)] (H.set r (.row 19 (es.map Vote.row))) fun t H' => t = .v (.c (.os r 19 0 (es.filter fun e => !pr e).length)) ∧ H' = H.set r (.row 19 ((es.filter fun e => !pr e).map Vote.row)) := by
 have hxs : (x608 pr g cps es).sc = true := rfl
 refine acallsX (X := [(108, x608 pr g cps es), (g, xg)]) ⟨kx608 pr g cps xg hx hsc hxg es hl, hx, trivial⟩ tab hmix Tryz.func105 c605 (by rfl) fun hw => ?_
 obtain ⟨n, hn⟩ : ∃ n, n = es.length := ⟨_, rfl⟩
 rw [← hn]
 have e0 : (es.map Vote.row).take n = es.map Vote.row := List.take_of_length_le (by simp; omega)
 have hle : n ≤ es.length := by omega
 by_cases hi : idxF pr 0 es = -1
 ·have hall := idxF_none pr hi
  have hf : es.filter (fun e => !pr e) = es := List.filter_eq_self.2 fun x hx => by simp [hall x hx]
  rw [hf, ← hn]
  simp (implicitDefEqProofs := false) (disch := omega) [gz, ir605, b605, wrap64, hxs, hr, hc1, x608, e0, hle, hi]
  repeat' apply And.intro
  all_goals first | omega | skip
  exact fin_here (by simp) ⟨rfl, rfl⟩
 ·obtain ⟨i, h1, h2, h3, h4⟩ := idxF_some pr hi
  rw [Nat.zero_add] at h1
  have hf0 : (es.take i).filter (fun e => !pr e) = es.take i := List.filter_eq_self.2 fun x hx => by simp [h4 x hx]
  have hf : es.filter (fun e => !pr e) = es.take i ++ (es.drop (i + 1)).filter (fun e => !pr e) := by
   conv => lhs; rw [← List.take_append_drop i es]
   rw [List.filter_append, hf0, drop_nth h2, List.filter_cons, h3]; rfl
  have hi' : ¬ (i : Int) = -1 := by omega
  simp (implicitDefEqProofs := false) (disch := omega) [gz, ir605, b605, wrap64, hxs, hr, hc1, x608, e0, hle, h1, hi']
  repeat' apply And.intro
  all_goals first | omega | skip
  refine loopE (fun c s => ∃ (j q : Nat) (es' : List Vote), j ≤ n ∧ q < j ∧ c = n - j ∧ es'.length = n ∧ es'.drop j = es.drop j ∧ es.filter (fun e => !pr e) = es'.take q ++ (es.drop j).filter (fun e => !pr e) ∧
    s = ⟨ofL [(0, .v (.c (.os r 19 0 n))), (1, .v (.c (.fn g caps))), (5, .int .i64 q), (6, .int .i64 j)], H.set r (.row 19 (es'.map Vote.row))⟩)
   (fun s => ∃ (q : Nat) (es' : List Vote), q ≤ n ∧ es'.length = n ∧ es.filter (fun e => !pr e) = es'.take q ∧ AtS [(0, .v (.c (.os r 19 0 n))), (5, .int .i64 q)] (H.set r (.row 19 (es'.map Vote.row))) s) ?_ ?_ ?_
  ·refine wk_keep [0, 1, 5, 6] ⟨_, i + 1, i, es, by omega, by omega, rfl, hn.symm, rfl, hf, ?_⟩
   simp
  ·rintro J2 L2 hJ2 hL2 c s ⟨j, q, es', g1, g2, rfl, hl', g4, g5, rfl⟩
   by_cases hlt : j < n
   ·have hsp : ∀ (e : Vote) {z : List C} (hz : z.length = 19), splice z 0 ((Vote.row e).map .d) = (Vote.row e).map .d := fun e z hz => (vrow e).splz hz
    have hst : (es.drop j).filter (fun e => !pr e) = if pr (nth es j) then (es.drop (j + 1)).filter (fun e => !pr e) else nth es j :: (es.drop (j + 1)).filter (fun e => !pr e) := by
     rw [drop_nth (by omega), List.filter_cons]; cases pr (nth es j) <;> simp
    have e1 : nth es' j = nth es j := nth_of_drop g4 (Nat.le_refl _)
    simp (implicitDefEqProofs := false) (disch := first | omega | (simp only [List.length_cons, List.length_nil] <;> omega)) [gz, hlt, wrap64, hl', hg, hc2, e1, hsp, hr, nth_map, (vrow _).len, take_of_len, (vrow _).mapO, (vrow _).tk, (vrow _).nrm, borRow, (vrow _).cl, borV_map, osR_map, frz_map, nth_set_ne, (vrow _).spl (vrow _), hsc, hxg]
    repeat' apply And.intro
    all_goals first | omega | skip
    ·intro hb
     rw [if_neg (by simp [hb])] at hst
     repeat' apply And.intro
     all_goals first | omega | skip
     subst hJ2
     rw [← List.map_set]
     refine wk_junk [(0, .v (.c (.os r 19 0 n))), (1, .v (.c (.fn g caps))), (5, .int .i64 (q + 1 : Nat)), (6, .int .i64 (j + 1 : Nat))] (wf_row hw) (by simp) (by simp [T.lt, V.lt, C.lt, hr]; exact fun a b h => hc3 (a, b) h) ⟨n - (j + 1), by omega, j + 1, q + 1, es'.set q (nth es j), by omega, by omega, rfl, by simpa using hl', ?_, ?_, ?_⟩
     ·rw [List.drop_set_of_lt (by omega)]
      exact drop_more g4 (by omega)
     ·rw [take_set_nth (by omega), g5, hst]; simp
     ·simp
    ·intro hb
     rw [if_pos hb] at hst
     subst hJ2
     refine wk_junk [(0, .v (.c (.os r 19 0 n))), (1, .v (.c (.fn g caps))), (5, .int .i64 q), (6, .int .i64 (j + 1 : Nat))] (wf_row hw) (by simp) (by simp [T.lt, V.lt, C.lt, hr]; exact fun a b h => hc3 (a, b) h) ⟨n - (j + 1), by omega, j + 1, q, es', by omega, by omega, rfl, hl', drop_more g4 (by omega), by rw [g5, hst], ?_⟩
     simp
   ·simp (implicitDefEqProofs := false) (disch := omega) [gz, hlt, wrap64]
    subst hL2
    refine ⟨q, es', by omega, hl', ?_, at_mk (by simp) rfl⟩
    rw [g5, List.drop_eq_nil_of_le (by omega)]; simp
  ·rintro _ ⟨q, es', hq, hl', g5, sl, rfl⟩
   simp (implicitDefEqProofs := false) (disch := omega) [gz, wrap64, hl', hr]
   repeat' apply And.intro
   all_goals first | omega | skip
   have hq2 : (es.filter (fun e => !pr e)).length = q := by rw [g5, List.length_take]; omega
   obtain ⟨Z, hZ⟩ := splice_front (es'.map Vote.row) q (List.replicate (n - q)
    [D.v (Value.string { data := #[] }), D.v (Value.int IntKind.i64 0), D.v (Value.int IntKind.i64 0), D.v (Value.int IntKind.i64 0), D.v (Value.slice none 0 0), D.v (Value.int IntKind.i64 0),
    D.v (Value.string { data := #[] }), D.v (Value.int IntKind.i64 0), D.v (Value.string { data := #[] }), D.v (Value.int IntKind.i64 0), D.v (Value.bool false), D.v (Value.string { data := #[] }),
    D.v (Value.string { data := #[] }), D.v (Value.string { data := #[] }), D.v (Value.string { data := #[] }), D.v (Value.string { data := #[] }), D.v (Value.int IntKind.i64 0), D.v (Value.string { data := #[] }), D.v (Value.slice none 0 0)])
   rw [hZ]
   refine fin_weak (fweak_take (r := r) (sz := 19) (xs := (es'.map Vote.row).take q) (ys := Z) (by simp [hr]) (by simp)) (fin_here (by simp) ⟨by rw [hq2], by simp [g5, List.map_take]⟩)
theorem k611 (es : List ByteArray) (hl : es.length < 68719476736) (H : List O) :
  ACalls Tryz.prog G0 111 [.c (.d (.sl (es.map srow)))] H (Own H 1 (es.map srow)) := by
 refine acallsX (X := []) trivial tab hmix Tryz.func111 c611 (by rfl) fun hw => ?_
 simp (implicitDefEqProofs := false) (disch := omega) [gz, ir611, b611, wrap64, elems, maxLen47]
 refine ⟨⟨⟨by omega, fun e _ => rfl⟩, ?_⟩, ?_⟩
 ·exact fin_own (L := [O.dead, O.row 1 (es.map srow)]) (k := 1) hw rfl (by simp)
 ·intro h
  subst h
  have := fin_own_nil (P := Tryz.prog) (H := H) (sz := 1) (L := []) hw (by omega)
  simpa using this
theorem k610 (pr : ByteArray → Bool) (g : Nat) (hg : (109 = g) = False) (caps : List (Nat × Nat)) (cps : List (List D)) (xg : XE) (hx : Contract Tryz.prog G0 g xg) (hsc : xg.sc = true)
  (hxg : ∀ e, xg.g (.c (.v (.string e)) :: cps.map fun cs => .c (.ip cs)) = some (True, .bool (pr e))) (es : List ByteArray) (hl : es.length < 4611686018427387904) (H : List O) (r : Nat) (hr : r < H.length)
  (hc1 : ∀ (xs : List (List D)), toB 8 (H.set r (.row 1 xs)) (.fn g caps) = some (.fn g (cps.map .ip)))
  (hc2 : ∀ (xs : List (List D)) (L : List O), mapO (toBV (H.set r (.row 1 xs) ++ L)) (caps.map fun c => V.c (.ptr c.1 c.2)) = some (cps.map fun cs => PVo.c (.ip cs))) (hc3 : ∀ p ∈ caps, p.1 < H.length) :
  ACalls Tryz.prog G0 110 [.c (.os r 1 0 es.length), .c (.fn g caps)] (H.set r (.row 1 (es.map srow))) fun t H' => t = .v (.c (.os r 1 0 (es.filter fun e => !pr e).length)) ∧ H' = H.set r (.row 1 ((es.filter fun e => !pr e).map srow)) := by
 have hxs : (x609 pr g cps es).sc = true := rfl
 refine acallsX (X := [(109, x609 pr g cps es), (g, xg)]) ⟨kx609 pr g cps xg hx hsc hxg es hl, hx, trivial⟩ tab hmix Tryz.func110 c610 (by rfl) fun hw => ?_
 obtain ⟨n, hn⟩ : ∃ n, n = es.length := ⟨_, rfl⟩
 rw [← hn]
 have e0 : (es.map srow).take n = es.map srow := List.take_of_length_le (by simp; omega)
 have hle : n ≤ es.length := by omega
 by_cases hi : idxF pr 0 es = -1
 ·have hall := idxF_none pr hi
  have hf : es.filter (fun e => !pr e) = es := List.filter_eq_self.2 fun x hx => by simp [hall x hx]
  rw [hf, ← hn]
  simp (implicitDefEqProofs := false) (disch := omega) [gz, ir610, b610, wrap64, hxs, hr, hc1, x609, e0, hle, hi]
  repeat' apply And.intro
  all_goals first | omega | skip
  exact fin_here (by simp) ⟨rfl, rfl⟩
 ·obtain ⟨i, h1, h2, h3, h4⟩ := idxF_some pr hi
  rw [Nat.zero_add] at h1
  have hf0 : (es.take i).filter (fun e => !pr e) = es.take i := List.filter_eq_self.2 fun x hx => by simp [h4 x hx]
  have hf : es.filter (fun e => !pr e) = es.take i ++ (es.drop (i + 1)).filter (fun e => !pr e) := by
   conv => lhs; rw [← List.take_append_drop i es]
   rw [List.filter_append, hf0, drop_nth h2, List.filter_cons, h3]; rfl
  have hi' : ¬ (i : Int) = -1 := by omega
  simp (implicitDefEqProofs := false) (disch := omega) [gz, ir610, b610, wrap64, hxs, hr, hc1, x609, e0, hle, h1, hi']
  repeat' apply And.intro
  all_goals first | omega | skip
  refine loopE (fun c s => ∃ (j q : Nat) (es' : List ByteArray), j ≤ n ∧ q < j ∧ c = n - j ∧ es'.length = n ∧ es'.drop j = es.drop j ∧ es.filter (fun e => !pr e) = es'.take q ++ (es.drop j).filter (fun e => !pr e) ∧
    s = ⟨ofL [(0, .v (.c (.os r 1 0 n))), (1, .v (.c (.fn g caps))), (5, .int .i64 q), (6, .int .i64 j)], H.set r (.row 1 (es'.map srow))⟩)
   (fun s => ∃ (q : Nat) (es' : List ByteArray), q ≤ n ∧ es'.length = n ∧ es.filter (fun e => !pr e) = es'.take q ∧ AtS [(0, .v (.c (.os r 1 0 n))), (5, .int .i64 q)] (H.set r (.row 1 (es'.map srow))) s) ?_ ?_ ?_
  ·refine wk_keep [0, 1, 5, 6] ⟨_, i + 1, i, es, by omega, by omega, rfl, hn.symm, rfl, hf, ?_⟩
   simp
  ·rintro J2 L2 hJ2 hL2 c s ⟨j, q, es', g1, g2, rfl, hl', g4, g5, rfl⟩
   by_cases hlt : j < n
   ·have hc20 : ∀ xs : List (List D), mapO (toBV (H.set r (.row 1 xs))) (caps.map fun c => V.c (.ptr c.1 c.2)) = some (cps.map fun cs => PVo.c (.ip cs)) := fun xs => by simpa using hc2 xs []
    have hst : (es.drop j).filter (fun e => !pr e) = if pr (nth es j) then (es.drop (j + 1)).filter (fun e => !pr e) else nth es j :: (es.drop (j + 1)).filter (fun e => !pr e) := by
     rw [drop_nth (by omega), List.filter_cons]; cases pr (nth es j) <;> simp
    have e1 : nth es' j = nth es j := nth_of_drop g4 (Nat.le_refl _)
    obtain ⟨y, hy⟩ : ∃ y, nth es j = y := ⟨_, rfl⟩
    have hye : srow y = [.v (.string y)] := rfl
    rw [hy] at e1 hst
    simp (implicitDefEqProofs := false) (disch := first | omega | (simp only [List.length_cons, List.length_nil] <;> omega)) [gz, hlt, wrap64, hl', hg, hc2, e1, hye, hr, nth_map, splice, hc20, hsc, hxg]
    repeat' apply And.intro
    all_goals first | omega | skip
    ·intro hb
     rw [if_neg (by simp [hb])] at hst
     repeat' apply And.intro
     all_goals first | omega | skip
     subst hJ2
     have hset : D.v (.string y) :: (srow (nth es' q)).tail = srow y := rfl
     rw [hset, ← List.map_set]
     refine wk_keep [0, 1, 5, 6] ⟨n - (j + 1), by omega, j + 1, q + 1, es'.set q y, by omega, by omega, rfl, by simpa using hl', ?_, ?_, ?_⟩
     ·rw [List.drop_set_of_lt (by omega)]
      exact drop_more g4 (by omega)
     ·rw [take_set_nth (by omega), g5, hst]; simp
     ·simp
    ·intro hb
     rw [if_pos hb] at hst
     subst hJ2
     refine wk_keep [0, 1, 5, 6] ⟨n - (j + 1), by omega, j + 1, q, es', by omega, by omega, rfl, hl', drop_more g4 (by omega), by rw [g5, hst], ?_⟩
     simp
   ·simp (implicitDefEqProofs := false) (disch := omega) [gz, hlt, wrap64]
    subst hL2
    refine ⟨q, es', by omega, hl', ?_, at_mk (by simp) rfl⟩
    rw [g5, List.drop_eq_nil_of_le (by omega)]; simp
  ·rintro _ ⟨q, es', hq, hl', g5, sl, rfl⟩
   simp (implicitDefEqProofs := false) (disch := omega) [gz, wrap64, hl', hr]
   repeat' apply And.intro
   all_goals first | omega | skip
   have hq2 : (es.filter (fun e => !pr e)).length = q := by rw [g5, List.length_take]; omega
   obtain ⟨Z, hZ⟩ := splice_front (es'.map srow) q (List.replicate (n - q)
    [D.v (Value.string { data := #[] })])
   rw [hZ]
   refine fin_weak (fweak_take (r := r) (sz := 1) (xs := (es'.map srow).take q) (ys := Z) (by simp [hr]) (by simp)) (fin_here (by simp) ⟨by rw [hq2], by simp [g5, List.map_take]⟩)
end Go.Aw.Try

namespace Go.Aw.Try
open Go Go.Proofs Go.Aw
set_option maxRecDepth 100000
set_option maxHeartbeats 4000000
/-- Members, edits, votes that count. -/
structure Cn where
 mem : List ByteArray
 l : List Edit
 vs : List Vote
def Cn.cs (c : Cn) : List D := [.sl (c.mem.map srow), .sl (c.l.map Edit.row), .sl (c.vs.map Vote.row)]
/-- The votes for exactly this set. -/
def ofV (vs : List Vote) (set : List ByteArray) : List Vote := vs.filter fun v => decide (v.set = set)
def stayS (mem set : List ByteArray) : List ByteArray := mem.filter fun s => !hasS set s
noncomputable def x607 (set : List ByteArray) : XE := mkX true (fun (v : Vote) => [.agg v.row, .c (.ip [.sl (set.map srow)])]) (fun _ => set.length < 4611686018427387904) (fun v => .bool (!decide (v.set = set)))
theorem k607 (v : Vote) (set : List ByteArray) (h2 : set.length < 4611686018427387904) : ACalls Tryz.prog G0 107 [.agg (v.row.map .d), .c (.d (.ip [.sl (set.map srow)]))] [] fun t H => t = .bool (!decide (v.set = set)) ∧ H = [] := by
 have h : x569.sc = true := rfl
 have g := xg569 v.set set h2
 obtain ⟨q, hq⟩ : ∃ q, q = decide (v.set = set) := ⟨_, rfl⟩
 rw [← hq] at g ⊢
 refine acallsX (X := [(69, x569)]) ⟨kx569, trivial⟩ tab hmix Tryz.func107 c607 (by rfl) fun hw => ?_
 have hee := Vote.row_eq v
 simp (implicitDefEqProofs := false) (disch := omega) [gz, ir607, b607, hee, h, g]
 exact fin_nil ⟨rfl, rfl⟩
theorem kx607 (set : List ByteArray) : Contract Tryz.prog G0 107 (x607 set) := mkX_scal (fun _ => rfl) fun v h => k607 v set h
theorem xg607 (set : List ByteArray) (h : set.length < 4611686018427387904) (v : Vote) : (x607 set).g (.agg (Vote.row v) :: [[D.sl (set.map srow)]].map fun cs => .c (.ip cs)) = some (True, .bool (!decide (v.set = set))) := mkX_g (fun a b h => by simp at h; exact Vote.row_inj h) v h
theorem k612 (s : ByteArray) (set : List ByteArray) (h2 : set.length < 4611686018427387904) : ACalls Tryz.prog G0 112 [Sx s, .c (.d (.ip [.sl (set.map srow)]))] [] fun t H => t = .bool (hasS set s) ∧ H = [] := by
 have h : x577.sc = true := rfl
 have g := xg577 set s h2
 refine acallsX (X := [(77, x577)]) ⟨kx577, trivial⟩ tab hmix Tryz.func112 c612 (by rfl) fun hw => ?_
 simp (implicitDefEqProofs := false) (disch := omega) [gz, ir612, b612, h, g]
 exact fin_nil ⟨rfl, rfl⟩
noncomputable def x612 (set : List ByteArray) : XE := mkX true (fun (s : ByteArray) => [.c (.v (.string s)), .c (.ip [.sl (set.map srow)])]) (fun _ => set.length < 4611686018427387904) (fun s => .bool (hasS set s))
theorem kx612 (set : List ByteArray) : Contract Tryz.prog G0 112 (x612 set) := mkX_scal (fun _ => rfl) fun s h => k612 s set h
theorem xg612 (set : List ByteArray) (h : set.length < 4611686018427387904) (s : ByteArray) : (x612 set).g (.c (.v (.string s)) :: [[D.sl (set.map srow)]].map fun cs => .c (.ip cs)) = some (True, .bool (hasS set s)) := mkX_g (fun a b h => by simp at h; exact h) s h
theorem k565 (c : Cn) (set : List ByteArray) (h1 : c.mem.length < 68719476736) (h2 : set.length < 4611686018427387904) (H : List O) :
  ACalls Tryz.prog G0 65 [.c (.d (.ip c.cs)), .c (.d (.sl (set.map srow)))] H (Own H 1 ((stayS c.mem set).map srow)) := by
 refine acallsX (X := []) trivial tab hmix Tryz.func65 c565 (by rfl) fun hw => ?_
 have hce : c.cs = [.sl (c.mem.map srow), .sl (c.l.map Edit.row), .sl (c.vs.map Vote.row)] := rfl
 simp (implicitDefEqProofs := false) (disch := omega) [gz, ir565, b565, hce]
 obtain ⟨H2, hH2⟩ : ∃ H2, H2 = H ++ [O.cells [.d (.sl (set.map srow))]] := ⟨_, rfl⟩
 rw [← hH2]
 refine (k611 c.mem h1 H2).mono ?_
 rintro t H' ⟨rfl, rfl⟩
 simp only [callK]
 simp (implicitDefEqProofs := false) (disch := omega) [gz, wrap64]
 have hcaps : ∀ (L : List O), mapO (toBV (H2 ++ L)) ([(H.length, 0)].map fun c : Nat × Nat => V.c (.ptr c.1 c.2)) = some ([[D.sl (set.map srow)]].map fun cs => PVo.c (.ip cs)) := fun L => by
  rw [hH2]
  simp [mapO, toBV]
 have hl2 : H2.length = H.length + 1 := by rw [hH2]; simp
 have h2 := k610 (hasS set) 112 (by simp) [(H.length, 0)] [[D.sl (set.map srow)]] (x612 set) (kx612 set) rfl (xg612 set h2) c.mem (by omega) (H2 ++ [.row 1 []]) H2.length (by simp)
  (fun xs => by rw [set_snoc, hH2]; simp) (fun xs L => by rw [set_snoc, List.append_assoc]; exact hcaps _) (by simp; omega)
 rw [set_snoc] at h2
 have e0 : (c.mem.map srow).length = c.mem.length := by simp
 rw [e0] at *
 refine h2.mono ?_
 rintro t H' ⟨rfl, rfl⟩
 rw [set_snoc]
 simp only [callK]
 simp (implicitDefEqProofs := false) (disch := omega) [gz, wrap64]
 have hf : c.mem.filter (fun s => !hasS set s) = stayS c.mem set := rfl
 rw [hf, hl2, hH2]
 have := fin_own (P := Tryz.prog) (H := H) (L := [.cells [.d (.sl (set.map srow))], .row 1 ((stayS c.mem set).map srow)]) (k := 1) (n := (stayS c.mem set).length) hw rfl (by simp)
 simpa using this
theorem k560 (c : Cn) (set : List ByteArray) (h1 : c.vs.length < 68719476736) (h2 : set.length < 4611686018427387904) (H : List O) :
  ACalls Tryz.prog G0 60 [.c (.d (.ip c.cs)), .c (.d (.sl (set.map srow)))] H (Own H 19 ((ofV c.vs set).map Vote.row)) := by
 refine acallsX (X := []) trivial tab hmix Tryz.func60 c560 (by rfl) fun hw => ?_
 have hce : c.cs = [.sl (c.mem.map srow), .sl (c.l.map Edit.row), .sl (c.vs.map Vote.row)] := rfl
 simp (implicitDefEqProofs := false) (disch := omega) [gz, ir560, b560, hce]
 obtain ⟨H2, hH2⟩ : ∃ H2, H2 = H ++ [O.cells [.d (.sl (set.map srow))]] := ⟨_, rfl⟩
 rw [← hH2]
 refine (k606 c.vs h1 H2).mono ?_
 rintro t H' ⟨rfl, rfl⟩
 simp only [callK]
 simp (implicitDefEqProofs := false) (disch := omega) [gz, wrap64]
 have hcaps : ∀ (L : List O), mapO (toBV (H2 ++ L)) ([(H.length, 0)].map fun c : Nat × Nat => V.c (.ptr c.1 c.2)) = some ([[D.sl (set.map srow)]].map fun cs => PVo.c (.ip cs)) := fun L => by
  rw [hH2]
  simp [mapO, toBV]
 have hl2 : H2.length = H.length + 1 := by rw [hH2]; simp
 have h3 := k605 (fun v => !decide (v.set = set)) 107 (by simp) [(H.length, 0)] [[D.sl (set.map srow)]] (x607 set) (kx607 set) rfl (xg607 set h2) c.vs (by omega) (H2 ++ [.row 19 []]) H2.length (by simp)
  (fun xs => by rw [set_snoc, hH2]; simp) (fun xs L => by rw [set_snoc, List.append_assoc]; exact hcaps _) (by simp; omega)
 rw [set_snoc] at h3
 have e0 : (c.vs.map Vote.row).length = c.vs.length := by simp
 rw [e0] at *
 refine h3.mono ?_
 rintro t H' ⟨rfl, rfl⟩
 rw [set_snoc]
 simp only [callK]
 simp (implicitDefEqProofs := false) (disch := omega) [gz, wrap64]
 have hf : c.vs.filter (fun v => decide (v.set = set)) = ofV c.vs set := rfl
 rw [hf, hl2, hH2]
 have := fin_own (P := Tryz.prog) (H := H) (L := [.cells [.d (.sl (set.map srow))], .row 19 ((ofV c.vs set).map Vote.row)]) (k := 1) (n := (ofV c.vs set).length) hw rfl (by simp)
 simpa using this
theorem Cn.cs_inj {a b : Cn} (h : a.cs = b.cs) : a = b := by
 unfold Cn.cs at h
 simp only [List.cons.injEq, D.sl.injEq] at h
 cases a; cases b
 have e1 := srow_inj h.1
 have e2 := rows_inj h.2.1
 have e3 := map_inj (fun _ _ => Vote.row_inj) h.2.2.1
 simp only at e1 e2 e3
 rw [e1, e2, e3]
theorem injCS (a b : Cn × List ByteArray) (h : [PVo.c (D.ip a.1.cs), PVo.c (.sl (a.2.map srow))] = [PVo.c (.ip b.1.cs), .c (.sl (b.2.map srow))]) : a = b := by
 simp only [List.cons.injEq, PVo.c.injEq, D.ip.injEq, D.sl.injEq] at h
 exact Prod.ext (Cn.cs_inj h.1) (srow_inj h.2.1)
noncomputable def x565 : XE := mkX false (fun (p : Cn × List ByteArray) => [.c (.ip p.1.cs), .c (.sl (p.2.map srow))]) (fun p => p.1.mem.length < 68719476736 ∧ p.2.length < 4611686018427387904) (fun p => .v (.c (.d (.sl ((stayS p.1.mem p.2).map srow)))))
theorem kx565 : Contract Tryz.prog G0 65 x565 := mkX_data fun p h H => own_data (k565 p.1 p.2 h.1 h.2 H)
theorem xg565 (c : Cn) (set : List ByteArray) (h1 : c.mem.length < 68719476736) (h2 : set.length < 4611686018427387904) : x565.g [.c (.ip c.cs), .c (.sl (set.map srow))] = some (True, .v (.c (.d (.sl ((stayS c.mem set).map srow))))) := mkX_g injCS (c, set) ⟨h1, h2⟩
noncomputable def x560 : XE := mkX false (fun (p : Cn × List ByteArray) => [.c (.ip p.1.cs), .c (.sl (p.2.map srow))]) (fun p => p.1.vs.length < 68719476736 ∧ p.2.length < 4611686018427387904) (fun p => .v (.c (.d (.sl ((ofV p.1.vs p.2).map Vote.row)))))
theorem kx560 : Contract Tryz.prog G0 60 x560 := mkX_data fun p h H => own_data (k560 p.1 p.2 h.1 h.2 H)
theorem xg560 (c : Cn) (set : List ByteArray) (h1 : c.vs.length < 68719476736) (h2 : set.length < 4611686018427387904) : x560.g [.c (.ip c.cs), .c (.sl (set.map srow))] = some (True, .v (.c (.d (.sl ((ofV c.vs set).map Vote.row))))) := mkX_g injCS (c, set) ⟨h1, h2⟩
end Go.Aw.Try

namespace Go.Aw.Try
open Go Go.Proofs Go.Aw
set_option maxRecDepth 100000
set_option maxHeartbeats 4000000
/-! ### the closures of out -/
def setrow (s : List ByteArray) : List D := [.sl (s.map srow)]
theorem setrow_inj {a b : List ByteArray} (h : setrow a = setrow b) : a = b := by
 unfold setrow at h
 simp only [List.cons.injEq, D.sl.injEq] at h
 exact srow_inj h.1
theorem sets_inj {a b : List (List ByteArray)} (h : a.map setrow = b.map setrow) : a = b := map_inj (fun _ _ => setrow_inj) h
theorem votes_inj {a b : List Vote} (h : a.map Vote.row = b.map Vote.row) : a = b := map_inj (fun _ _ => Vote.row_inj) h
/-- slices.IndexFunc at List ByteArray. -/
theorem k613 (pr : List ByteArray → Bool) (g : Nat) (cps : List (List D)) (xg : XE) (hx : Contract Tryz.prog G0 g xg) (hsc : xg.sc = true)
  (hxg : ∀ e, xg.g (.c (.sl (e.map srow)) :: cps.map fun cs => .c (.ip cs)) = some (True, .bool (pr e))) (es : List (List ByteArray)) (hl : es.length < 4611686018427387904) :
  ACalls Tryz.prog G0 113 [.c (.d (.sl (es.map setrow))), .c (.d (.fn g (cps.map .ip)))] [] fun t H => t = .int .i64 (idxF pr 0 es) ∧ H = [] := by
 refine acallsX (X := [(g, xg)]) ⟨hx, trivial⟩ tab hmix Tryz.func113 c613 (by rfl) fun hw => ?_
 simp (implicitDefEqProofs := false) (disch := omega) [gz, ir613, b613, wrap64]
 refine loopG (fun k s => ∃ i, i ≤ es.length ∧ k = es.length - i ∧ idxF pr 0 es = idxF pr i (es.drop i) ∧
  s = ⟨ofL [(0, .v (.c (.d (.sl (es.map setrow))))), (1, .v (.c (.d (.fn g (cps.map .ip))))), (7, .int .i64 es.length), (8, .int .i64 i)], []⟩) ?_ ?_
 ·refine wk_keep [0, 1, 7, 8] ⟨_, 0, by omega, rfl, rfl, ?_⟩
  simp
 ·rintro J hJ k s ⟨i, hi, rfl, hid, rfl⟩
  by_cases hlt : i < es.length
  ·have hst := idxF_step pr hlt
   obtain ⟨e, he⟩ : ∃ e, nth es i = e := ⟨_, rfl⟩
   have hee : setrow e = [.sl (e.map srow)] := rfl
   have hxg := hxg e
   skip
   rw [he] at hst
   simp (implicitDefEqProofs := false) (disch := omega) [gz, hlt, wrap64, nth_map, he, hee, mapO_ipc, hsc, hxg]
   refine ⟨fun h => ?_, fun h => ?_⟩
   ·rw [if_pos h] at hst
    exact fin_nil ⟨by rw [hid, hst]; rfl, rfl⟩
   ·rw [if_neg (by simp [h])] at hst
    subst hJ
    refine wk_keep [0, 1, 7, 8] ⟨es.length - (i + 1), by omega, i + 1, by omega, rfl, by rw [hid, hst], ?_⟩
    simp
  ·simp (implicitDefEqProofs := false) (disch := omega) [gz, hlt]
   rw [hid, List.drop_eq_nil_of_le (by omega)]
   exact fin_nil ⟨rfl, rfl⟩
def x613 (pr : List ByteArray → Bool) (g : Nat) (cps : List (List D)) (es : List (List ByteArray)) : XE := ⟨true, fun ps => some (ps = [.c (.sl (es.map setrow)), .c (.fn g (cps.map .ip))], .int .i64 (idxF pr 0 es))⟩
theorem kx613 (pr : List ByteArray → Bool) (g : Nat) (cps : List (List D)) (xg : XE) (hx : Contract Tryz.prog G0 g xg) (hsc : xg.sc = true)
  (hxg : ∀ e, xg.g (.c (.sl (e.map srow)) :: cps.map fun cs => .c (.ip cs)) = some (True, .bool (pr e))) (es : List (List ByteArray)) (hl : es.length < 4611686018427387904) : Contract Tryz.prog G0 113 (x613 pr g cps es) := contract_sc fun ps ob t h ho => by
 injection h with h; injection h with h1 h2; subst h2; subst h1
 subst ho
 exact ⟨rfl, k613 pr g cps xg hx hsc hxg es hl⟩
/-- slices.ContainsFunc at List ByteArray. -/
theorem k567 (pr : List ByteArray → Bool) (g : Nat) (cps : List (List D)) (xg : XE) (hx : Contract Tryz.prog G0 g xg) (hsc : xg.sc = true)
  (hxg : ∀ e, xg.g (.c (.sl (e.map srow)) :: cps.map fun cs => .c (.ip cs)) = some (True, .bool (pr e))) (es : List (List ByteArray)) (hl : es.length < 4611686018427387904) :
  ACalls Tryz.prog G0 67 [.c (.d (.sl (es.map setrow))), .c (.d (.fn g (cps.map .ip)))] [] fun t H => t = .bool (es.any pr) ∧ H = [] := by
 have h1 : (x613 pr g cps es).sc = true := rfl
 refine acallsX (X := [(113, x613 pr g cps es)]) ⟨kx613 pr g cps xg hx hsc hxg es hl, trivial⟩ tab hmix Tryz.func67 c567 (by rfl) fun hw => ?_
 have ha := idxF_any pr es 0
 by_cases h : 0 ≤ idxF pr 0 es
 ·rw [ha.1 h]
  simp (implicitDefEqProofs := false) (disch := omega) [gz, ir567, b567, h1, x613, h]
  exact fin_nil ⟨rfl, rfl⟩
 ·have : es.any pr = false := by
   cases hb : es.any pr
   ·rfl
   ·exact absurd (ha.2 hb) h
  rw [this]
  simp (implicitDefEqProofs := false) (disch := omega) [gz, ir567, b567, h1, x613, h]
  exact fin_nil ⟨rfl, rfl⟩
/-- Has the member voted? -/
def saidB (vs : List Vote) (s : ByteArray) : Bool := vs.any fun v => decide (v.e.id.a = s)
noncomputable def x563 (s : ByteArray) : XE := mkX true (fun (v : Vote) => [.agg v.row, .c (.ip [.v (.string s)])]) (fun _ => True) (fun v => .bool (decide (v.e.id.a = s)))
theorem k563 (v : Vote) (s : ByteArray) : ACalls Tryz.prog G0 63 [.agg (v.row.map .d), .c (.d (.ip [.v (.string s)]))] [] fun t H => t = .bool (decide (v.e.id.a = s)) ∧ H = [] := by
 refine acallsX (X := []) trivial tab hmix Tryz.func63 c563 (by rfl) fun hw => ?_
 have hee := Vote.row_eq v
 simp (implicitDefEqProofs := false) (disch := omega) [gz, ir563, b563, hee, binSF]
 exact fin_nil ⟨rfl, rfl⟩
theorem kx563 (s : ByteArray) : Contract Tryz.prog G0 63 (x563 s) := mkX_scal (fun _ => rfl) fun v _ => k563 v s
theorem xg563 (s : ByteArray) (v : Vote) : (x563 s).g (.agg (Vote.row v) :: [[D.v (.string s)]].map fun cs => .c (.ip cs)) = some (True, .bool (decide (v.e.id.a = s))) := mkX_g (fun a b h => by simp at h; exact Vote.row_inj h) v trivial
noncomputable def x62a : XE := mkX true (fun (p : List Vote × ByteArray) => [.c (.sl (p.1.map Vote.row)), .c (.fn 63 [.ip [.v (.string p.2)]])]) (fun p => p.1.length < 4611686018427387904) (fun p => .bool (saidB p.1 p.2))
theorem kx62a : Contract Tryz.prog G0 62 x62a := mkX_scal (fun _ => rfl) fun p h => k562 (fun v => decide (v.e.id.a = p.2)) 63 [[D.v (.string p.2)]] (x563 p.2) (kx563 p.2) rfl (xg563 p.2) p.1 h
theorem xg62a (vs : List Vote) (s : ByteArray) (h : vs.length < 4611686018427387904) : x62a.g [.c (.sl (vs.map Vote.row)), .c (.fn 63 [.ip [.v (.string s)]])] = some (True, .bool (saidB vs s)) := mkX_g (fun a b h => by
 simp only [List.cons.injEq, PVo.c.injEq, D.sl.injEq, D.fn.injEq, D.ip.injEq, D.v.injEq, Value.string.injEq] at h
 exact Prod.ext (votes_inj h.1) h.2.1.2.1.1) (vs, s) h
theorem k561 (s : ByteArray) (vs : List Vote) (h : vs.length < 4611686018427387904) : ACalls Tryz.prog G0 61 [Sx s, .c (.d (.ip [.sl (vs.map Vote.row)]))] [] fun t H => t = .bool (saidB vs s) ∧ H = [] := by
 have h1 : x62a.sc = true := rfl
 have g := xg62a vs s h
 refine acallsX (X := [(62, x62a)]) ⟨kx62a, trivial⟩ tab hmix Tryz.func61 c561 (by rfl) fun hw => ?_
 simp (implicitDefEqProofs := false) (disch := omega) [gz, ir561, b561, h1, g]
 exact fin_nil ⟨rfl, rfl⟩
noncomputable def x561 (vs : List Vote) : XE := mkX true (fun (s : ByteArray) => [.c (.v (.string s)), .c (.ip [.sl (vs.map Vote.row)])]) (fun _ => vs.length < 4611686018427387904) (fun s => .bool (saidB vs s))
theorem kx561 (vs : List Vote) : Contract Tryz.prog G0 61 (x561 vs) := mkX_scal (fun _ => rfl) fun s h => k561 s vs h
theorem xg561 (vs : List Vote) (h : vs.length < 4611686018427387904) (s : ByteArray) : (x561 vs).g [.c (.v (.string s)), .c (.ip [.sl (vs.map Vote.row)])] = some (True, .bool (saidB vs s)) := mkX_g (fun a b h => by simp at h; exact h) s h
theorem k566 (s : ByteArray) (vs : List Vote) (h : vs.length < 4611686018427387904) : ACalls Tryz.prog G0 66 [Sx s, .c (.d (.ip [.fn 61 [.ip [.sl (vs.map Vote.row)]]]))] [] fun t H => t = .bool (!saidB vs s) ∧ H = [] := by
 have h1 : (x561 vs).sc = true := rfl
 have g := xg561 vs h s
 refine acallsX (X := [(61, x561 vs)]) ⟨kx561 vs, trivial⟩ tab hmix Tryz.func66 c566 (by rfl) fun hw => ?_
 simp (implicitDefEqProofs := false) (disch := omega) [gz, ir566, b566, h1, g]
 exact fin_nil ⟨rfl, rfl⟩
noncomputable def x566 (vs : List Vote) : XE := mkX true (fun (s : ByteArray) => [.c (.v (.string s)), .c (.ip [.fn 61 [.ip [.sl (vs.map Vote.row)]]])]) (fun _ => vs.length < 4611686018427387904) (fun s => .bool (!saidB vs s))
theorem kx566 (vs : List Vote) : Contract Tryz.prog G0 66 (x566 vs) := mkX_scal (fun _ => rfl) fun s h => k566 s vs h
theorem xg566 (vs : List Vote) (h : vs.length < 4611686018427387904) (s : ByteArray) : (x566 vs).g (.c (.v (.string s)) :: [[D.fn 61 [.ip [.sl (vs.map Vote.row)]]]].map fun cs => .c (.ip cs)) = some (True, .bool (!saidB vs s)) := mkX_g (fun a b h => by simp at h; exact h) s h
noncomputable def x64a : XE := mkX true (fun (p : List ByteArray × List Vote) => [.c (.sl (p.1.map srow)), .c (.fn 66 [.ip [.fn 61 [.ip [.sl (p.2.map Vote.row)]]]])]) (fun p => p.1.length < 4611686018427387904 ∧ p.2.length < 4611686018427387904) (fun p => .bool (p.1.any fun s => !saidB p.2 s))
theorem kx64a : Contract Tryz.prog G0 64 x64a := mkX_scal (fun _ => rfl) fun p h => k564 (fun s => !saidB p.2 s) 66 [[D.fn 61 [.ip [.sl (p.2.map Vote.row)]]]] (x566 p.2) (kx566 p.2) rfl (xg566 p.2 h.2) p.1 h.1
theorem xg64a (l : List ByteArray) (vs : List Vote) (h1 : l.length < 4611686018427387904) (h2 : vs.length < 4611686018427387904) : x64a.g [.c (.sl (l.map srow)), .c (.fn 66 [.ip [.fn 61 [.ip [.sl (vs.map Vote.row)]]]])] = some (True, .bool (l.any fun s => !saidB vs s)) := mkX_g (fun a b h => by
 simp only [List.cons.injEq, PVo.c.injEq, D.sl.injEq, D.fn.injEq, D.ip.injEq] at h
 exact Prod.ext (srow_inj h.1) (votes_inj h.2.1.2.1.1.2.1.1)) (l, vs) ⟨h1, h2⟩
noncomputable def x568 (v : Vote) : XE := mkX true (fun (x : List ByteArray) => [.c (.sl (x.map srow)), .c (.ip v.row)]) (fun _ => v.set.length < 4611686018427387904) (fun x => .bool (decide (x = v.set)))
theorem k568 (x : List ByteArray) (v : Vote) (h : v.set.length < 4611686018427387904) : ACalls Tryz.prog G0 68 [.c (.d (.sl (x.map srow))), .c (.d (.ip v.row))] [] fun t H => t = .bool (decide (x = v.set)) ∧ H = [] := by
 have h1 : x569.sc = true := rfl
 have g := xg569 x v.set h
 obtain ⟨q, hq⟩ : ∃ q, q = decide (x = v.set) := ⟨_, rfl⟩
 rw [← hq] at g ⊢
 refine acallsX (X := [(69, x569)]) ⟨kx569, trivial⟩ tab hmix Tryz.func68 c568 (by rfl) fun hw => ?_
 have hee := Vote.row_eq v
 simp (implicitDefEqProofs := false) (disch := omega) [gz, ir568, b568, hee, h1, g]
 exact fin_nil ⟨rfl, rfl⟩
theorem kx568 (v : Vote) : Contract Tryz.prog G0 68 (x568 v) := mkX_scal (fun _ => rfl) fun x h => k568 x v h
theorem xg568 (v : Vote) (h : v.set.length < 4611686018427387904) (x : List ByteArray) : (x568 v).g (.c (.sl (x.map srow)) :: [v.row].map fun cs => .c (.ip cs)) = some (True, .bool (decide (x = v.set))) := mkX_g (fun a b h => by simp at h; exact srow_inj h) x h
noncomputable def x67a : XE := mkX true (fun (p : List (List ByteArray) × Vote) => [.c (.sl (p.1.map setrow)), .c (.fn 68 [.ip p.2.row])]) (fun p => p.1.length < 4611686018427387904 ∧ p.2.set.length < 4611686018427387904) (fun p => .bool (p.1.any fun x => decide (x = p.2.set)))
theorem kx67a : Contract Tryz.prog G0 67 x67a := mkX_scal (fun _ => rfl) fun p h => k567 (fun x => decide (x = p.2.set)) 68 [p.2.row] (x568 p.2) (kx568 p.2) rfl (xg568 p.2 h.2) p.1 h.1
theorem xg67a (l : List (List ByteArray)) (v : Vote) (h1 : l.length < 4611686018427387904) (h2 : v.set.length < 4611686018427387904) : x67a.g [.c (.sl (l.map setrow)), .c (.fn 68 [.ip v.row])] = some (True, .bool (l.any fun x => decide (x = v.set))) := mkX_g (fun a b h => by
 simp only [List.cons.injEq, PVo.c.injEq, D.sl.injEq, D.fn.injEq, D.ip.injEq] at h
 exact Prod.ext (sets_inj h.1) (Vote.row_inj h.2.1.2.1)) (l, v) ⟨h1, h2⟩
end Go.Aw.Try

namespace Go.Aw.Try
open Go Go.Proofs Go.Aw
set_option maxRecDepth 100000
set_option maxHeartbeats 4000000
/-! ### sets, sorted by their size -/
/-- The sizes compared. -/
def cmpL (a b : List ByteArray) : Int := IntKind.i64.wrap ((a.length : Int) - b.length)
theorem k571' (a b : List ByteArray) : ACalls Tryz.prog G0 71 [.c (.d (.sl (a.map srow))), .c (.d (.sl (b.map srow)))] [] fun t H => t = .int .i64 (cmpL a b) ∧ H = [] := by
 refine acallsX (X := []) trivial tab hmix Tryz.func71 c571 (by rfl) fun hw => ?_
 unfold cmpL
 simp (implicitDefEqProofs := false) (disch := omega) [gz, ir571, b571]
 exact fin_nil ⟨rfl, rfl⟩
noncomputable def x571' : XE := mkX true (fun (p : List ByteArray × List ByteArray) => [.c (.sl (p.1.map srow)), .c (.sl (p.2.map srow))]) (fun _ => True) (fun p => .int .i64 (cmpL p.1 p.2))
theorem kx571' : Contract Tryz.prog G0 71 x571' := mkX_scal (fun _ => rfl) fun p _ => k571' p.1 p.2
theorem xg571' (a b : List ByteArray) : x571'.g [.c (.sl (a.map srow)), .c (.sl (b.map srow))] = some (True, .int .i64 (cmpL a b)) := mkX_g injSL (a, b) trivial
theorem k636 (cmp : (List ByteArray) → (List ByteArray) → Int) (f : Nat) (xf : XE) (hx : Contract Tryz.prog G0 f xf) (hsc : xf.sc = true)
  (hxg : ∀ a b, xf.g [.c (.sl (a.map srow)), .c (.sl (b.map srow))] = some (True, .int .i64 (cmp a b))) (es : List (List ByteArray)) (a b : Nat) (hab : a ≤ b) (hb : b ≤ es.length) (hl : es.length < 4611686018427387904)
  (H : List O) (r : Nat) (hr : r < H.length) :
  ACalls Tryz.prog G0 136 [.c (.os r 1 0 es.length), I a, I b, .c (.fn f [])] (H.set r (.row 1 (es.map setrow))) fun t H' => t = .tup [] ∧ H' = H.set r (.row 1 ((insN cmp a (b - (a + 1)) (a + 1) es).map setrow)) := by
 have hse : ∀ s, setrow s = [D.sl (s.map srow)] := fun _ => rfl
 refine acallsX (X := [(f, xf)]) ⟨hx, trivial⟩ tab hmix Tryz.func136 c636 (by rfl) fun hw => ?_
 simp (implicitDefEqProofs := false) (disch := omega) [gz, ir636, b636, wrap64]
 refine loopX (fun k s => ∃ i es', a < i ∧ (i ≤ b ∨ i = a + 1) ∧ k = b - i ∧ es'.length = es.length ∧ insN cmp a (b - i) i es' = insN cmp a (b - (a + 1)) (a + 1) es ∧
  s = ⟨ofL [(0, .v (.c (.os r 1 0 es.length))), (1, .int .i64 a), (2, .int .i64 b), (3, .v (.c (.fn f []))), (8, .int .i64 i)], H.set r (.row 1 (es'.map setrow))⟩) ?_ ?_
 ·refine wk_keep [0, 1, 2, 3, 8] ⟨_, a + 1, es, by omega, by omega, rfl, rfl, rfl, ?_⟩
  simp
 ·rintro k s ⟨i, es', hai, hib, rfl, hle, hins, rfl⟩
  by_cases hlt : i < b
  ·simp (implicitDefEqProofs := false) (disch := omega) [gz, hlt, wrap64]
   refine loopX (fun k s => ∃ j, a ≤ j ∧ j ≤ i ∧ k = j ∧ insP cmp es' a (nth es' i) i = insP cmp es' a (nth es' i) j ∧
    s = ⟨ofL [(0, .v (.c (.os r 1 0 es.length))), (1, .int .i64 a), (2, .int .i64 b), (3, .v (.c (.fn f []))), (8, .int .i64 i), (9, .int .i64 j)], H.set r (.row 1 ((mv es' i j).map setrow))⟩) ?_ ?_
   ·refine wk_keep [0, 1, 2, 3, 8, 9] ⟨_, i, by omega, by omega, rfl, rfl, ?_⟩
    simp [mv_self es' (show i < es'.length by omega)]
   ·rintro j s ⟨_, haj, hji, rfl, hp, rfl⟩
    by_cases hj : a < j
    ·have hil : i < es'.length := by omega
     have hml := mv_len es' hji hil
     have hjl : j < (mv es' i j).length := by omega
     have hjl' : j - 1 < (mv es' i j).length := by omega
     have e1 := mv_at es' hji hil
     have e2 := mv_pred es' hji hil (by omega)
     have eN : ((j : Int) - 1).toNat = j - 1 := by omega
     simp (implicitDefEqProofs := false) (disch := omega) [gz, hj, wrap64, hr, nth_map, hjl, hjl', e1, e2, eN, hse, splice, hsc, hxg]
     have htl : ∀ Z, (nth ((List.map setrow (mv es' i j)).set j Z) (j - 1)).tail = [] := fun Z => by rw [nth_set_ne (by omega), nth_map _ hjl']; rfl
     have hcast : ((j - 1 : Nat) : Int) = (j : Int) - 1 := by omega
     have hsw : (((mv es' i j).map setrow).set j [D.sl ((nth es' (j - 1)).map srow)]).set (j - 1) [D.sl ((nth es' i).map srow)] = (mv es' i (j - 1)).map setrow := by
      have q1 : [D.sl ((nth es' (j - 1)).map srow)] = setrow (nth es' (j - 1)) := rfl
      have q2 : [D.sl ((nth es' i).map srow)] = setrow (nth es' i) := rfl
      rw [q1, q2, ← List.map_set, ← List.map_set, mv_swap es' hji hil (by omega)]
     refine ⟨by kernel_rfl, by omega, by omega, fun hc => ?_, fun hc => ?_⟩
     ·repeat' apply And.intro
      all_goals first | omega | kernel_rfl | skip
      refine wk_keep [0, 1, 2, 3, 8, 9] ⟨j - 1, by omega, j - 1, by omega, by omega, rfl, ?_, ?_⟩
      ·rw [hp]
       obtain ⟨m, rfl⟩ : ∃ m, j = m + 1 := ⟨j - 1, by omega⟩
       simp only [insP]
       rw [if_pos ⟨hj, by simpa using hc⟩]; rfl
      ·simp [hcast, htl, hsw]
     ·have hpj : insP cmp es' a (nth es' i) i = j := by
       rw [hp]
       obtain ⟨m, rfl⟩ : ∃ m, j = m + 1 := ⟨j - 1, by omega⟩
       simp only [insP]
       rw [if_neg (fun q => absurd q.2 (by simpa using hc))]
      have e3 : b - i = (b - (i + 1)) + 1 := by omega
      refine wk_keep [0, 1, 2, 3, 8] ⟨b - (i + 1), by omega, i + 1, by omega, by omega, rfl, mv es' i j, by omega, ?_, ?_⟩
      ·rw [← hins, e3]; simp only [insN, hpj]
      ·simp
    ·have hil : i < es'.length := by omega
     have hml := mv_len es' hji hil
     simp (implicitDefEqProofs := false) (disch := omega) [gz, hj, wrap64]
     have hpj : insP cmp es' a (nth es' i) i = j := by
      rw [hp]
      cases j with
      | zero => rfl
      | succ m => simp only [insP]; rw [if_neg (fun q => hj q.1)]
     have e3 : b - i = (b - (i + 1)) + 1 := by omega
     refine ⟨by kernel_rfl, ?_⟩
     refine wk_keep [0, 1, 2, 3, 8] ⟨b - (i + 1), by omega, i + 1, by omega, by omega, rfl, mv es' i j, by omega, ?_, ?_⟩
     ·rw [← hins, e3]; simp only [insN, hpj]
     ·simp
  ·simp (implicitDefEqProofs := false) (disch := omega) [gz, hlt, wrap64]
   have e : b - i = 0 := by omega
   rw [e] at hins
   simp only [insN] at hins
   exact fin_here (by simp) ⟨rfl, by rw [hins]⟩
end Go.Aw.Try

namespace Go.Aw.Try
open Go Go.Proofs Go.Aw
set_option maxRecDepth 100000
set_option maxHeartbeats 4000000
theorem k94s (n : Nat) (hn : n ≤ 12) (H : List O) : ACalls Tryz.prog G0 145 [.c (.d (.v (.int .u64 n)))] H fun t H' => (∃ v, t = .int .i64 v) ∧ H' = H := by
 refine acallsX (X := []) trivial tab hmix Tryz.func145 c94 (by rfl) fun hw => ?_
 have h1 : ¬ (4294967296 : Int) ≤ n := by omega
 have h2 : ¬ (65536 : Int) ≤ n := by omega
 have h3 : ¬ (256 : Int) ≤ n := by omega
 have h4 : IntKind.u8.wrap n = n := by simp [IntKind.wrap, IntKind.bits, IntKind.signed]; omega
 simp (implicitDefEqProofs := false) (disch := omega) [gz, ir94, b94, wrap64, h1, h2, h3, h4]
 refine ⟨by simp [ByteArray.size]; omega, fin_here (by simp) ⟨⟨_, rfl⟩, rfl⟩⟩
theorem k75s (n : Nat) (hn : n ≤ 12) (H : List O) : ACalls Tryz.prog G0 115 [.c (.d (.v (.int .u64 n)))] H fun t H' => (∃ v, t = .int .i64 v) ∧ H' = H := by
 refine acallsX (X := []) trivial tab hmix Tryz.func115 c75 (by rfl) fun hw => ?_
 simp (implicitDefEqProofs := false) (disch := omega) [gz, ir75, b75, wrap64]
 refine (k94s n hn H).mono ?_
 rintro t H' ⟨⟨v, rfl⟩, rfl⟩
 simp (implicitDefEqProofs := false) (disch := omega) [gz, callK]
 exact fin_here (by simp) ⟨⟨_, rfl⟩, rfl⟩
theorem k614 (es : List (List ByteArray)) (hn : es.length ≤ 12) (v : Int) (H : List O) (r : Nat) (hr : r < H.length) :
  ACalls Tryz.prog G0 114 [.c (.os r 1 0 es.length), I 0, I es.length, I v, .c (.fn 71 [])] (H.set r (.row 1 (es.map setrow))) fun t H' => t = .tup [] ∧ H' = H.set r (.row 1 ((insN cmpL 0 (es.length - 1) 1 es).map setrow)) := by
 refine acallsX (X := []) trivial tab hmix Tryz.func114 c614 (by rfl) fun hw => ?_
 have h1 : (es.length : Int) ≤ 12 := by omega
 simp (implicitDefEqProofs := false) (disch := omega) [gz, ir614, b614, b614_0, b614_1, b614_2, wrap64]
 refine loopE (fun k s => s = ⟨ofL [(0, .v (.c (.os r 1 0 es.length))), (1, .int .i64 0), (2, .int .i64 es.length), (3, .int .i64 v), (4, .v (.c (.fn 71 [])))], H.set r (.row 1 (es.map setrow))⟩) (fun s => False) ?_ ?_ ?_
 ·refine wk_keep [0, 1, 2, 3, 4] ⟨0, ?_⟩
  simp
 ·rintro J L hJ hL k s rfl
  simp (implicitDefEqProofs := false) (disch := omega) [gz, wrap64, h1]
  refine (k636 cmpL 71 x571' kx571' rfl xg571' es 0 es.length (by omega) (by omega) (by omega) H r hr).mono ?_
  rintro t H' ⟨rfl, rfl⟩
  simp (implicitDefEqProofs := false) (disch := omega) [gz, callK]
  exact fin_here (by simp) ⟨rfl, rfl⟩
 ·rintro _ h
  exact h.elim
theorem k570 (es : List (List ByteArray)) (hn : es.length ≤ 12) (H : List O) (r : Nat) (hr : r < H.length) :
  ACalls Tryz.prog G0 70 [.c (.os r 1 0 es.length), .c (.fn 71 [])] (H.set r (.row 1 (es.map setrow))) fun t H' => t = .tup [] ∧ H' = H.set r (.row 1 ((insN cmpL 0 (es.length - 1) 1 es).map setrow)) := by
 refine acallsX (X := []) trivial tab hmix Tryz.func70 c570 (by rfl) fun hw => ?_
 have e0 : IntKind.u64.wrap (es.length : Int) = es.length := by simp [IntKind.wrap, IntKind.bits, IntKind.signed]; omega
 simp (implicitDefEqProofs := false) (disch := omega) [gz, ir570, b570, wrap64, e0]
 refine (k75s es.length hn _).mono ?_
 rintro t H' ⟨⟨v, rfl⟩, rfl⟩
 simp (implicitDefEqProofs := false) (disch := omega) [gz, callK]
 refine (k614 es hn v H r hr).mono ?_
 rintro t H' ⟨rfl, rfl⟩
 simp (implicitDefEqProofs := false) (disch := omega) [gz, callK]
 exact fin_here (by simp) ⟨rfl, rfl⟩
end Go.Aw.Try

namespace Go.Aw.Try
open Go Go.Proofs Go.Aw
set_option maxRecDepth 100000
set_option maxHeartbeats 4000000
/-! ### the sets that are voted out -/
def decB (mem : List ByteArray) (vs : List Vote) (set : List ByteArray) : Bool := !((stayS mem set).any fun s => !saidB (ofV vs set) s)
def outStep (mem : List ByteArray) (vs : List Vote) (sets : List (List ByteArray)) (v : Vote) : List (List ByteArray) := if decB mem vs v.set && !(sets.any fun x => decide (x = v.set)) then sets ++ [v.set] else sets
def outU (mem : List ByteArray) (vs : List Vote) (l : List Vote) : List (List ByteArray) := l.foldl (outStep mem vs) []
def sortL (es : List (List ByteArray)) : List (List ByteArray) := insN cmpL 0 (es.length - 1) 1 es
def outL (mem : List ByteArray) (vs : List Vote) : List (List ByteArray) := sortL (outU mem vs vs)
theorem outU_len (mem : List ByteArray) (vs l : List Vote) : (outU mem vs l).length ≤ l.length := by
 have key : ∀ (l : List Vote) (s : List (List ByteArray)), (l.foldl (outStep mem vs) s).length ≤ s.length + l.length := by
  intro l
  induction l with
  | nil => intro s; simp
  | cons v l ih =>
   intro s
   have := ih (outStep mem vs s v)
   have h2 : (outStep mem vs s v).length ≤ s.length + 1 := by unfold outStep; split <;> simp
   simp only [List.foldl_cons, List.length_cons]; omega
 have := key l []
 simpa [outU] using this
theorem outU_take (mem : List ByteArray) (vs : List Vote) {l : List Vote} {i : Nat} (h : i < l.length) : outU mem vs (l.take (i + 1)) = outStep mem vs (outU mem vs (l.take i)) (nth l i) := by
 unfold outU; rw [take_nth h, List.foldl_append]; rfl
theorem k535 (c : Cn) (h1 : c.vs.length < 34359738368) (h2 : c.mem.length < 34359738368) (h3 : ∀ v ∈ c.vs, v.set.length < 4611686018427387904) (h4 : (outU c.mem c.vs c.vs).length ≤ 12) (H : List O) :
  ACalls Tryz.prog G0 35 [.c (.d (.ip c.cs))] H fun t H' => t = .v (.c (.os H.length 1 0 (outU c.mem c.vs c.vs).length)) ∧ H' = H ++ [.row 1 ((outL c.mem c.vs).map setrow)] := by
 have s1 : x560.sc = false := rfl
 have s2 : x565.sc = false := rfl
 have s3 : x64a.sc = true := rfl
 have s4 : x67a.sc = true := rfl
 refine acallsX (X := [(60, x560), (65, x565), (64, x64a), (67, x67a)]) ⟨kx560, kx565, kx64a, kx67a, trivial⟩ tab hmix Tryz.func35 c535 (by rfl) fun hw => ?_
 have hce : c.cs = [.sl (c.mem.map srow), .sl (c.l.map Edit.row), .sl (c.vs.map Vote.row)] := rfl
 simp (implicitDefEqProofs := false) (disch := omega) [gz, ir535, b535, hce, wrap64]
 refine loopE (fun k st => ∃ i, i ≤ c.vs.length ∧ k = c.vs.length - i ∧
   st = ⟨ofL [(0, .v (.c (.d (.ip c.cs)))), (3, .v (.c (.os H.length 1 0 (outU c.mem c.vs (c.vs.take i)).length))), (12, .v (.c (.d (.sl (c.vs.map Vote.row))))), (13, .int .i64 c.vs.length), (14, .int .i64 i)], H ++ [.row 1 ((outU c.mem c.vs (c.vs.take i)).map setrow)]⟩)
  (fun st => AtS [(3, .v (.c (.os H.length 1 0 (outU c.mem c.vs c.vs).length)))] (H ++ [.row 1 ((outU c.mem c.vs c.vs).map setrow)]) st) ?_ ?_ ?_
 ·refine wk_nil_os 3 1 (by omega) (by simp) ?_
  refine wk_keep [0, 3, 12, 13, 14] ⟨_, 0, by omega, rfl, ?_⟩
  simp [outU, hce]
 ·rintro J L hJ hL k st ⟨i, hi, rfl, rfl⟩
  by_cases hlt : i < c.vs.length
  ·obtain ⟨v, hv⟩ : ∃ v, nth c.vs i = v := ⟨_, rfl⟩
   have hvm : v ∈ c.vs := by rw [← hv]; exact nth_mem hlt
   have hsl := h3 v hvm
   have hst := outU_take c.mem c.vs hlt
   rw [hv] at hst
   obtain ⟨S, hS⟩ : ∃ S, S = outU c.mem c.vs (c.vs.take i) := ⟨_, rfl⟩
   have hSl : S.length ≤ i := by rw [hS]; have := outU_len c.mem c.vs (c.vs.take i); simp at this; omega
   rw [← hS] at hst ⊢
   have hee := Vote.row_eq v
   have g1 := xg560 c v.set (by omega) hsl
   have g2 := xg565 c v.set (by omega) hsl
   have hol : (ofV c.vs v.set).length ≤ c.vs.length := List.length_filter_le _ _
   have hyl : (stayS c.mem v.set).length ≤ c.mem.length := List.length_filter_le _ _
   have g3 := xg64a (stayS c.mem v.set) (ofV c.vs v.set) (by omega) (by omega)
   have g4 := xg67a S v (by omega) hsl
   unfold outStep decB at hst
   obtain ⟨q, hq⟩ : ∃ q, q = (stayS c.mem v.set).any fun s => !saidB (ofV c.vs v.set) s := ⟨_, rfl⟩
   obtain ⟨p, hp⟩ : ∃ p, p = S.any fun x => decide (x = v.set) := ⟨_, rfl⟩
   rw [← hq] at g3 hst
   rw [← hp] at g4 hst
   rw [hee] at g4
   rw [hce] at g1 g2
   have tS : (S.map setrow).take S.length = S.map setrow := List.take_of_length_le (by simp)
   rw [hce]
   cases q
   ·cases p
    ·simp (implicitDefEqProofs := false) (disch := omega) [gz, hlt, wrap64, nth_map, hv, hee, splice, s1, g1, s2, g2, s3, g3, s4, g4, tS, toPVs, frzVs, osVs, toPV, fillC, Nat.add_assoc]
     refine ⟨by omega, ?_⟩
     subst hJ
     refine wk_pre [5] [0, 3, 12, 13, 14] hw rfl ⟨c.vs.length - (i + 1), by omega, i + 1, by omega, rfl, ?_⟩
     rw [hst]; simp [phi, O.ren, hce, setrow]
    ·simp (implicitDefEqProofs := false) (disch := omega) [gz, hlt, wrap64, nth_map, hv, hee, splice, s1, g1, s2, g2, s3, g3, s4, g4, tS, toPVs, frzVs, osVs, toPV, fillC, Nat.add_assoc]
     subst hJ
     refine wk_pre [0] [0, 3, 12, 13, 14] hw rfl ⟨c.vs.length - (i + 1), by omega, i + 1, by omega, rfl, ?_⟩
     rw [hst]; simp [phi, O.ren, hce]
   ·simp (implicitDefEqProofs := false) (disch := omega) [gz, hlt, wrap64, nth_map, hv, hee, splice, s1, g1, s2, g2, s3, g3, tS, toPVs, frzVs, osVs, toPV, fillC, Nat.add_assoc]
    subst hJ
    refine wk_pre [0] [0, 3, 12, 13, 14] hw rfl ⟨c.vs.length - (i + 1), by omega, i + 1, by omega, rfl, ?_⟩
    rw [hst]; simp [phi, O.ren, hce]
  ·have : i = c.vs.length := by omega
   subst this
   rw [List.take_length]
   simp (implicitDefEqProofs := false) (disch := omega) [gz, hlt]
   subst hL
   exact at_mk (by simp) rfl
 ·rintro _ ⟨sl, rfl⟩
  obtain ⟨U, hU⟩ : ∃ U, U = outU c.mem c.vs c.vs := ⟨_, rfl⟩
  have hoL : outL c.mem c.vs = sortL U := by rw [hU]; rfl
  rw [← hU] at h4 ⊢
  rw [hoL]
  simp (implicitDefEqProofs := false) (disch := omega) [gz, wrap64]
  have hk := k570 U h4 (H ++ [.row 1 []]) H.length (by simp)
  rw [set_snoc] at hk
  refine hk.mono ?_
  rintro t H' ⟨rfl, rfl⟩
  rw [set_snoc]
  simp (implicitDefEqProofs := false) (disch := omega) [gz, callK]
  exact fin_here (by simp) ⟨rfl, rfl⟩
end Go.Aw.Try

namespace Go.Aw.Try
open Go Go.Proofs Go.Aw
set_option maxRecDepth 100000
set_option maxHeartbeats 4000000
/-! ### final -/
def Good (l : List Edit) : Prop := ∀ e ∈ l, AscI e.deps ∧ e.deps.length < 4611686018427387904
/-- slices.IndexFunc at Edit. -/
theorem k60m (pr : Edit → Bool) (g : Nat) (cps : List (List D)) (xg : XE) (hx : Contract Tryz.prog G0 g xg) (hsc : xg.sc = true)
  (es : List (Edit)) (hxg : ∀ e ∈ es, xg.g (.agg (Edit.row e) :: cps.map fun cs => .c (.ip cs)) = some (True, .bool (pr e))) (hl : es.length < 4611686018427387904) :
  ACalls Tryz.prog G0 116 [.c (.d (.sl (es.map Edit.row))), .c (.d (.fn g (cps.map .ip)))] [] fun t H => t = .int .i64 (idxF pr 0 es) ∧ H = [] := by
 refine acallsX (X := [(g, xg)]) ⟨hx, trivial⟩ tab hmix Tryz.func116 c60 (by rfl) fun hw => ?_
 simp (implicitDefEqProofs := false) (disch := omega) [gz, ir60, b60, wrap64]
 refine loopG (fun k s => ∃ i, i ≤ es.length ∧ k = es.length - i ∧ idxF pr 0 es = idxF pr i (es.drop i) ∧
  s = ⟨ofL [(0, .v (.c (.d (.sl (es.map Edit.row))))), (1, .v (.c (.d (.fn g (cps.map .ip))))), (7, .int .i64 es.length), (8, .int .i64 i)], []⟩) ?_ ?_
 ·refine wk_keep [0, 1, 7, 8] ⟨_, 0, by omega, rfl, rfl, ?_⟩
  simp
 ·rintro J hJ k s ⟨i, hi, rfl, hid, rfl⟩
  by_cases hlt : i < es.length
  ·have hst := idxF_step pr hlt
   obtain ⟨e, he⟩ : ∃ e, nth es i = e := ⟨_, rfl⟩
   have hee := Edit.row_eq e
   have hxg := hxg e (by rw [← he]; exact nth_mem hlt)
   rw [hee] at hxg
   rw [he] at hst
   simp (implicitDefEqProofs := false) (disch := omega) [gz, hlt, wrap64, nth_map, he, hee, mapO_ipc, hsc, hxg]
   refine ⟨fun h => ?_, fun h => ?_⟩
   ·rw [if_pos h] at hst
    exact fin_nil ⟨by rw [hid, hst]; rfl, rfl⟩
   ·rw [if_neg (by simp [h])] at hst
    subst hJ
    refine wk_keep [0, 1, 7, 8] ⟨es.length - (i + 1), by omega, i + 1, by omega, rfl, by rw [hid, hst], ?_⟩
    simp
  ·simp (implicitDefEqProofs := false) (disch := omega) [gz, hlt]
   rw [hid, List.drop_eq_nil_of_le (by omega)]
   exact fin_nil ⟨rfl, rfl⟩
def x60m (pr : Edit → Bool) (g : Nat) (cps : List (List D)) (es : List (Edit)) : XE := ⟨true, fun ps => some (ps = [.c (.sl (es.map Edit.row)), .c (.fn g (cps.map .ip))], .int .i64 (idxF pr 0 es))⟩
theorem kx60m (pr : Edit → Bool) (g : Nat) (cps : List (List D)) (xg : XE) (hx : Contract Tryz.prog G0 g xg) (hsc : xg.sc = true)
  (es : List (Edit)) (hxg : ∀ e ∈ es, xg.g (.agg (Edit.row e) :: cps.map fun cs => .c (.ip cs)) = some (True, .bool (pr e))) (hl : es.length < 4611686018427387904) : Contract Tryz.prog G0 116 (x60m pr g cps es) := contract_sc fun ps ob t h ho => by
 injection h with h; injection h with h1 h2; subst h2; subst h1
 subst ho
 exact ⟨rfl, k60m pr g cps xg hx hsc es hxg hl⟩
/-- slices.ContainsFunc at Edit. -/
theorem k82m (pr : Edit → Bool) (g : Nat) (cps : List (List D)) (xg : XE) (hx : Contract Tryz.prog G0 g xg) (hsc : xg.sc = true)
  (es : List (Edit)) (hxg : ∀ e ∈ es, xg.g (.agg (Edit.row e) :: cps.map fun cs => .c (.ip cs)) = some (True, .bool (pr e))) (hl : es.length < 4611686018427387904) :
  ACalls Tryz.prog G0 73 [.c (.d (.sl (es.map Edit.row))), .c (.d (.fn g (cps.map .ip)))] [] fun t H => t = .bool (es.any pr) ∧ H = [] := by
 have h1 : (x60m pr g cps es).sc = true := rfl
 refine acallsX (X := [(116, x60m pr g cps es)]) ⟨kx60m pr g cps xg hx hsc es hxg hl, trivial⟩ tab hmix Tryz.func73 c82 (by rfl) fun hw => ?_
 have ha := idxF_any pr es 0
 by_cases h : 0 ≤ idxF pr 0 es
 ·rw [ha.1 h]
  simp (implicitDefEqProofs := false) (disch := omega) [gz, ir82, b82, h1, x60m, h]
  exact fin_nil ⟨rfl, rfl⟩
 ·have : es.any pr = false := by
   cases hb : es.any pr
   ·rfl
   ·exact absurd (ha.2 hb) h
  rw [this]
  simp (implicitDefEqProofs := false) (disch := omega) [gz, ir82, b82, h1, x60m, h]
  exact fin_nil ⟨rfl, rfl⟩
/-- slices.IndexFunc at Vote. -/
theorem k608m (pr : Vote → Bool) (g : Nat) (cps : List (List D)) (xg : XE) (hx : Contract Tryz.prog G0 g xg) (hsc : xg.sc = true)
  (es : List (Vote)) (hxg : ∀ e ∈ es, xg.g (.agg (Vote.row e) :: cps.map fun cs => .c (.ip cs)) = some (True, .bool (pr e))) (hl : es.length < 4611686018427387904) :
  ACalls Tryz.prog G0 108 [.c (.d (.sl (es.map Vote.row))), .c (.d (.fn g (cps.map .ip)))] [] fun t H => t = .int .i64 (idxF pr 0 es) ∧ H = [] := by
 refine acallsX (X := [(g, xg)]) ⟨hx, trivial⟩ tab hmix Tryz.func108 c608 (by rfl) fun hw => ?_
 simp (implicitDefEqProofs := false) (disch := omega) [gz, ir608, b608, wrap64]
 refine loopG (fun k s => ∃ i, i ≤ es.length ∧ k = es.length - i ∧ idxF pr 0 es = idxF pr i (es.drop i) ∧
  s = ⟨ofL [(0, .v (.c (.d (.sl (es.map Vote.row))))), (1, .v (.c (.d (.fn g (cps.map .ip))))), (7, .int .i64 es.length), (8, .int .i64 i)], []⟩) ?_ ?_
 ·refine wk_keep [0, 1, 7, 8] ⟨_, 0, by omega, rfl, rfl, ?_⟩
  simp
 ·rintro J hJ k s ⟨i, hi, rfl, hid, rfl⟩
  by_cases hlt : i < es.length
  ·have hst := idxF_step pr hlt
   obtain ⟨e, he⟩ : ∃ e, nth es i = e := ⟨_, rfl⟩
   have hee := Vote.row_eq e
   have hxg := hxg e (by rw [← he]; exact nth_mem hlt)
   rw [hee] at hxg
   rw [he] at hst
   simp (implicitDefEqProofs := false) (disch := omega) [gz, hlt, wrap64, nth_map, he, hee, mapO_ipc, hsc, hxg]
   refine ⟨fun h => ?_, fun h => ?_⟩
   ·rw [if_pos h] at hst
    exact fin_nil ⟨by rw [hid, hst]; rfl, rfl⟩
   ·rw [if_neg (by simp [h])] at hst
    subst hJ
    refine wk_keep [0, 1, 7, 8] ⟨es.length - (i + 1), by omega, i + 1, by omega, rfl, by rw [hid, hst], ?_⟩
    simp
  ·simp (implicitDefEqProofs := false) (disch := omega) [gz, hlt]
   rw [hid, List.drop_eq_nil_of_le (by omega)]
   exact fin_nil ⟨rfl, rfl⟩
def x608m (pr : Vote → Bool) (g : Nat) (cps : List (List D)) (es : List (Vote)) : XE := ⟨true, fun ps => some (ps = [.c (.sl (es.map Vote.row)), .c (.fn g (cps.map .ip))], .int .i64 (idxF pr 0 es))⟩
theorem kx608m (pr : Vote → Bool) (g : Nat) (cps : List (List D)) (xg : XE) (hx : Contract Tryz.prog G0 g xg) (hsc : xg.sc = true)
  (es : List (Vote)) (hxg : ∀ e ∈ es, xg.g (.agg (Vote.row e) :: cps.map fun cs => .c (.ip cs)) = some (True, .bool (pr e))) (hl : es.length < 4611686018427387904) : Contract Tryz.prog G0 108 (x608m pr g cps es) := contract_sc fun ps ob t h ho => by
 injection h with h; injection h with h1 h2; subst h2; subst h1
 subst ho
 exact ⟨rfl, k608m pr g cps xg hx hsc es hxg hl⟩
/-- slices.ContainsFunc at Vote. -/
theorem k562m (pr : Vote → Bool) (g : Nat) (cps : List (List D)) (xg : XE) (hx : Contract Tryz.prog G0 g xg) (hsc : xg.sc = true)
  (es : List (Vote)) (hxg : ∀ e ∈ es, xg.g (.agg (Vote.row e) :: cps.map fun cs => .c (.ip cs)) = some (True, .bool (pr e))) (hl : es.length < 4611686018427387904) :
  ACalls Tryz.prog G0 62 [.c (.d (.sl (es.map Vote.row))), .c (.d (.fn g (cps.map .ip)))] [] fun t H => t = .bool (es.any pr) ∧ H = [] := by
 have h1 : (x608m pr g cps es).sc = true := rfl
 refine acallsX (X := [(108, x608m pr g cps es)]) ⟨kx608m pr g cps xg hx hsc es hxg hl, trivial⟩ tab hmix Tryz.func62 c562 (by rfl) fun hw => ?_
 have ha := idxF_any pr es 0
 by_cases h : 0 ≤ idxF pr 0 es
 ·rw [ha.1 h]
  simp (implicitDefEqProofs := false) (disch := omega) [gz, ir562, b562, h1, x608m, h]
  exact fin_nil ⟨rfl, rfl⟩
 ·have : es.any pr = false := by
   cases hb : es.any pr
   ·rfl
   ·exact absurd (ha.2 hb) h
  rw [this]
  simp (implicitDefEqProofs := false) (disch := omega) [gz, ir562, b562, h1, x608m, h]
  exact fin_nil ⟨rfl, rfl⟩
def knewB (l : List Edit) (vs : List Vote) (s : ByteArray) : Bool := l.any fun e => decide (e.id.a = s) && knowsV e.deps vs
noncomputable def x574 (s : ByteArray) (vs : List Vote) : XE := mkX true (fun (e : Edit) => [.agg e.row, .c (.ip [.v (.string s)]), .c (.ip [.sl (vs.map Vote.row)])]) (fun e => AscI e.deps ∧ e.deps.length < 4611686018427387904 ∧ vs.length < 4611686018427387904) (fun e => .bool (decide (e.id.a = s) && knowsV e.deps vs))
theorem k574 (e : Edit) (s : ByteArray) (vs : List Vote) (h1 : AscI e.deps) (h2 : e.deps.length < 4611686018427387904) (h3 : vs.length < 4611686018427387904) :
  ACalls Tryz.prog G0 74 [.agg (e.row.map .d), .c (.d (.ip [.v (.string s)])), .c (.d (.ip [.sl (vs.map Vote.row)]))] [] fun t H => t = .bool (decide (e.id.a = s) && knowsV e.deps vs) ∧ H = [] := by
 have h : x575.sc = true := rfl
 have g := xg575 e vs h1 h2 h3
 have hee := Edit.row_eq e
 rw [hee] at g
 refine acallsX (X := [(75, x575)]) ⟨kx575, trivial⟩ tab hmix Tryz.func74 c574 (by rfl) fun hw => ?_
 by_cases q : e.id.a = s
 ·rw [q] at g
  simp (implicitDefEqProofs := false) (disch := omega) [gz, ir574, b574, hee, binSF, h, g, q]
  exact fin_nil ⟨by simp, rfl⟩
 ·simp (implicitDefEqProofs := false) (disch := omega) [gz, ir574, b574, hee, binSF, h, g, q]
  exact fin_nil ⟨by simp, rfl⟩
theorem kx574 (s : ByteArray) (vs : List Vote) : Contract Tryz.prog G0 74 (x574 s vs) := mkX_scal (fun _ => rfl) fun e h => k574 e s vs h.1 h.2.1 h.2.2
theorem xg574 (s : ByteArray) (vs : List Vote) (e : Edit) (h1 : AscI e.deps) (h2 : e.deps.length < 4611686018427387904) (h3 : vs.length < 4611686018427387904) : (x574 s vs).g (.agg (Edit.row e) :: [[D.v (.string s)], [D.sl (vs.map Vote.row)]].map fun cs => .c (.ip cs)) = some (True, .bool (decide (e.id.a = s) && knowsV e.deps vs)) := mkX_g (fun a b h => by simp at h; exact Edit.row_inj h) e ⟨h1, h2, h3⟩
noncomputable def x73a : XE := mkX true (fun (p : List Edit × ByteArray × List Vote) => [.c (.sl (p.1.map Edit.row)), .c (.fn 74 [.ip [.v (.string p.2.1)], .ip [.sl (p.2.2.map Vote.row)]])]) (fun p => Good p.1 ∧ p.1.length < 4611686018427387904 ∧ p.2.2.length < 4611686018427387904) (fun p => .bool (knewB p.1 p.2.2 p.2.1))
theorem kx73a : Contract Tryz.prog G0 73 x73a := mkX_scal (fun _ => rfl) fun p h => k82m (fun e => decide (e.id.a = p.2.1) && knowsV e.deps p.2.2) 74 [[D.v (.string p.2.1)], [D.sl (p.2.2.map Vote.row)]] (x574 p.2.1 p.2.2) (kx574 _ _) rfl p.1 (fun e he => xg574 _ _ e (h.1 e he).1 (h.1 e he).2 h.2.2) h.2.1
theorem xg73a (l : List Edit) (s : ByteArray) (vs : List Vote) (h1 : Good l) (h2 : l.length < 4611686018427387904) (h3 : vs.length < 4611686018427387904) : x73a.g [.c (.sl (l.map Edit.row)), .c (.fn 74 [.ip [.v (.string s)], .ip [.sl (vs.map Vote.row)]])] = some (True, .bool (knewB l vs s)) := mkX_g (fun a b h => by
 simp only [List.cons.injEq, PVo.c.injEq, D.sl.injEq, D.fn.injEq, D.ip.injEq, D.v.injEq, Value.string.injEq] at h
 exact Prod.ext (rows_inj h.1) (Prod.ext h.2.1.2.1.1 (votes_inj h.2.1.2.2.1.1))) (l, s, vs) ⟨h1, h2, h3⟩
theorem k572 (s : ByteArray) (c : Cn) (vs : List Vote) (h1 : Good c.l) (h2 : c.l.length < 4611686018427387904) (h3 : vs.length < 4611686018427387904) :
  ACalls Tryz.prog G0 72 [Sx s, .c (.d (.ip [.ip c.cs])), .c (.d (.ip [.sl (vs.map Vote.row)]))] [] fun t H => t = .bool (knewB c.l vs s) ∧ H = [] := by
 have h : x73a.sc = true := rfl
 have g := xg73a c.l s vs h1 h2 h3
 have hce : c.cs = [.sl (c.mem.map srow), .sl (c.l.map Edit.row), .sl (c.vs.map Vote.row)] := rfl
 refine acallsX (X := [(73, x73a)]) ⟨kx73a, trivial⟩ tab hmix Tryz.func72 c572 (by rfl) fun hw => ?_
 simp (implicitDefEqProofs := false) (disch := omega) [gz, ir572, b572, hce, h, g]
 exact fin_nil ⟨rfl, rfl⟩
noncomputable def x572 (c : Cn) (vs : List Vote) : XE := mkX true (fun (s : ByteArray) => [.c (.v (.string s)), .c (.ip [.ip c.cs]), .c (.ip [.sl (vs.map Vote.row)])]) (fun _ => Good c.l ∧ c.l.length < 4611686018427387904 ∧ vs.length < 4611686018427387904) (fun s => .bool (knewB c.l vs s))
theorem kx572 (c : Cn) (vs : List Vote) : Contract Tryz.prog G0 72 (x572 c vs) := mkX_scal (fun _ => rfl) fun s h => k572 s c vs h.1 h.2.1 h.2.2
theorem xg572 (c : Cn) (vs : List Vote) (h1 : Good c.l) (h2 : c.l.length < 4611686018427387904) (h3 : vs.length < 4611686018427387904) (s : ByteArray) : (x572 c vs).g [.c (.v (.string s)), .c (.ip [.ip c.cs]), .c (.ip [.sl (vs.map Vote.row)])] = some (True, .bool (knewB c.l vs s)) := mkX_g (fun a b h => by simp at h; exact h) s ⟨h1, h2, h3⟩
theorem k576 (s : ByteArray) (c : Cn) (vs : List Vote) (h1 : Good c.l) (h2 : c.l.length < 4611686018427387904) (h3 : vs.length < 4611686018427387904) :
  ACalls Tryz.prog G0 76 [Sx s, .c (.d (.ip [.fn 72 [.ip [.ip c.cs], .ip [.sl (vs.map Vote.row)]]]))] [] fun t H => t = .bool (!knewB c.l vs s) ∧ H = [] := by
 have h : (x572 c vs).sc = true := rfl
 have g := xg572 c vs h1 h2 h3 s
 refine acallsX (X := [(72, x572 c vs)]) ⟨kx572 c vs, trivial⟩ tab hmix Tryz.func76 c576 (by rfl) fun hw => ?_
 simp (implicitDefEqProofs := false) (disch := omega) [gz, ir576, b576, h, g]
 exact fin_nil ⟨rfl, rfl⟩
noncomputable def x576 (c : Cn) (vs : List Vote) : XE := mkX true (fun (s : ByteArray) => [.c (.v (.string s)), .c (.ip [.fn 72 [.ip [.ip c.cs], .ip [.sl (vs.map Vote.row)]]])]) (fun _ => Good c.l ∧ c.l.length < 4611686018427387904 ∧ vs.length < 4611686018427387904) (fun s => .bool (!knewB c.l vs s))
theorem kx576 (c : Cn) (vs : List Vote) : Contract Tryz.prog G0 76 (x576 c vs) := mkX_scal (fun _ => rfl) fun s h => k576 s c vs h.1 h.2.1 h.2.2
theorem xg576 (c : Cn) (vs : List Vote) (h1 : Good c.l) (h2 : c.l.length < 4611686018427387904) (h3 : vs.length < 4611686018427387904) (s : ByteArray) : (x576 c vs).g (.c (.v (.string s)) :: [[D.fn 72 [.ip [.ip c.cs], .ip [.sl (vs.map Vote.row)]]]].map fun cs => .c (.ip cs)) = some (True, .bool (!knewB c.l vs s)) := mkX_g (fun a b h => by simp at h; exact h) s ⟨h1, h2, h3⟩
noncomputable def x64b (c : Cn) (vs : List Vote) : XE := mkX true (fun (l : List ByteArray) => [.c (.sl (l.map srow)), .c (.fn 76 [.ip [.fn 72 [.ip [.ip c.cs], .ip [.sl (vs.map Vote.row)]]]])]) (fun l => l.length < 4611686018427387904 ∧ Good c.l ∧ c.l.length < 4611686018427387904 ∧ vs.length < 4611686018427387904) (fun l => .bool (l.any fun s => !knewB c.l vs s))
theorem kx64b (c : Cn) (vs : List Vote) : Contract Tryz.prog G0 64 (x64b c vs) := mkX_scal (fun _ => rfl) fun l h => k564 (fun s => !knewB c.l vs s) 76 [[D.fn 72 [.ip [.ip c.cs], .ip [.sl (vs.map Vote.row)]]]] (x576 c vs) (kx576 c vs) rfl (xg576 c vs h.2.1 h.2.2.1 h.2.2.2) l h.1
theorem xg64b (c : Cn) (vs : List Vote) (l : List ByteArray) (h0 : l.length < 4611686018427387904) (h1 : Good c.l) (h2 : c.l.length < 4611686018427387904) (h3 : vs.length < 4611686018427387904) : (x64b c vs).g [.c (.sl (l.map srow)), .c (.fn 76 [.ip [.fn 72 [.ip [.ip c.cs], .ip [.sl (vs.map Vote.row)]]]])] = some (True, .bool (l.any fun s => !knewB c.l vs s)) := mkX_g (fun a b h => by
 simp only [List.cons.injEq, PVo.c.injEq, D.sl.injEq] at h
 exact srow_inj h.1) l ⟨h0, h1, h2, h3⟩
def finalB (c : Cn) (set : List ByteArray) : Bool := !((stayS c.mem set).any fun s => !knewB c.l (ofV c.vs set) s)
theorem k536 (c : Cn) (set : List ByteArray) (h1 : c.vs.length < 34359738368) (h2 : c.mem.length < 34359738368) (h3 : set.length < 4611686018427387904) (h4 : Good c.l) (h5 : c.l.length < 4611686018427387904) :
  ACalls Tryz.prog G0 36 [.c (.d (.ip c.cs)), .c (.d (.sl (set.map srow)))] [] fun t H => t = .bool (finalB c set) ∧ H = [] := by
 have s1 : x560.sc = false := rfl
 have s2 : x565.sc = false := rfl
 obtain ⟨X0, hX0⟩ : ∃ X0, X0 = x64b c (ofV c.vs set) := ⟨_, rfl⟩
 have hk : Contract Tryz.prog G0 64 X0 := by rw [hX0]; exact kx64b _ _
 have s3 : X0.sc = true := by rw [hX0]; rfl
 have g1 := xg560 c set (by omega) h3
 have g2 := xg565 c set (by omega) h3
 have hol : (ofV c.vs set).length ≤ c.vs.length := List.length_filter_le _ _
 have hyl : (stayS c.mem set).length ≤ c.mem.length := List.length_filter_le _ _
 have g3 := xg64b c (ofV c.vs set) (stayS c.mem set) (by omega) h4 h5 (by omega)
 rw [← hX0] at g3
 unfold finalB
 obtain ⟨q, hq⟩ : ∃ q, q = (stayS c.mem set).any fun s => !knewB c.l (ofV c.vs set) s := ⟨_, rfl⟩
 rw [← hq] at g3 ⊢
 have hce : c.cs = [.sl (c.mem.map srow), .sl (c.l.map Edit.row), .sl (c.vs.map Vote.row)] := rfl
 rw [hce] at g1 g2 g3
 refine acallsX (X := [(60, x560), (65, x565), (64, X0)]) ⟨kx560, kx565, hk, trivial⟩ tab hmix Tryz.func36 c536 (by rfl) fun hw => ?_
 simp (implicitDefEqProofs := false) (disch := omega) [gz, ir536, b536, hce, s1, g1, s2, g2, s3, g3, splice, toPVs, frzVs, osVs, toPV]
 exact fin_nil ⟨rfl, rfl⟩
noncomputable def x536 : XE := mkX true (fun (p : Cn × List ByteArray) => [.c (.ip p.1.cs), .c (.sl (p.2.map srow))]) (fun p => p.1.vs.length < 34359738368 ∧ p.1.mem.length < 34359738368 ∧ p.2.length < 4611686018427387904 ∧ Good p.1.l ∧ p.1.l.length < 4611686018427387904) (fun p => .bool (finalB p.1 p.2))
theorem kx536 : Contract Tryz.prog G0 36 x536 := mkX_scal (fun _ => rfl) fun p h => k536 p.1 p.2 h.1 h.2.1 h.2.2.1 h.2.2.2.1 h.2.2.2.2
theorem xg536 (c : Cn) (set : List ByteArray) (h1 : c.vs.length < 34359738368) (h2 : c.mem.length < 34359738368) (h3 : set.length < 4611686018427387904) (h4 : Good c.l) (h5 : c.l.length < 4611686018427387904) : x536.g [.c (.ip c.cs), .c (.sl (set.map srow))] = some (True, .bool (finalB c set)) := mkX_g injCS (c, set) ⟨h1, h2, h3, h4, h5⟩
end Go.Aw.Try

namespace Go.Aw.Try
open Go Go.Proofs Go.Aw
set_option maxRecDepth 100000
set_option maxHeartbeats 4000000
/-! ### upto -/
def GoodV (vs : List Vote) : Prop := ∀ v ∈ vs, AscI v.e.deps ∧ v.e.deps.length < 4611686018427387904
def anyKnows (vs ahead : List Vote) : Bool := vs.any fun v => knowsV v.e.deps ahead
noncomputable def x578 (ahead : List Vote) : XE := mkX true (fun (v : Vote) => [.agg v.row, .c (.ip [.sl (ahead.map Vote.row)])]) (fun v => AscI v.e.deps ∧ v.e.deps.length < 4611686018427387904 ∧ ahead.length < 4611686018427387904) (fun v => .bool (knowsV v.e.deps ahead))
theorem k578 (v : Vote) (ahead : List Vote) (h1 : AscI v.e.deps) (h2 : v.e.deps.length < 4611686018427387904) (h3 : ahead.length < 4611686018427387904) : ACalls Tryz.prog G0 78 [.agg (v.row.map .d), .c (.d (.ip [.sl (ahead.map Vote.row)]))] [] fun t H => t = .bool (knowsV v.e.deps ahead) ∧ H = [] := by
 have h : x575.sc = true := rfl
 have g := xg575 v.e ahead h1 h2 h3
 have hfe := Edit.row_eq v.e
 rw [hfe] at g
 refine acallsX (X := [(75, x575)]) ⟨kx575, trivial⟩ tab hmix Tryz.func78 c578 (by rfl) fun hw => ?_
 have hee := Vote.row_eq v
 simp (implicitDefEqProofs := false) (disch := omega) [gz, ir578, b578, hee, h, g]
 exact fin_nil ⟨rfl, rfl⟩
theorem kx578 (ahead : List Vote) : Contract Tryz.prog G0 78 (x578 ahead) := mkX_scal (fun _ => rfl) fun v h => k578 v ahead h.1 h.2.1 h.2.2
theorem xg578 (ahead : List Vote) (v : Vote) (h1 : AscI v.e.deps) (h2 : v.e.deps.length < 4611686018427387904) (h3 : ahead.length < 4611686018427387904) : (x578 ahead).g (.agg (Vote.row v) :: [[D.sl (ahead.map Vote.row)]].map fun cs => .c (.ip cs)) = some (True, .bool (knowsV v.e.deps ahead)) := mkX_g (fun a b h => by simp at h; exact Vote.row_inj h) v ⟨h1, h2, h3⟩
noncomputable def x62b : XE := mkX true (fun (p : List Vote × List Vote) => [.c (.sl (p.1.map Vote.row)), .c (.fn 78 [.ip [.sl (p.2.map Vote.row)]])]) (fun p => GoodV p.1 ∧ p.1.length < 4611686018427387904 ∧ p.2.length < 4611686018427387904) (fun p => .bool (anyKnows p.1 p.2))
theorem kx62b : Contract Tryz.prog G0 62 x62b := mkX_scal (fun _ => rfl) fun p h => k562m (fun v => knowsV v.e.deps p.2) 78 [[D.sl (p.2.map Vote.row)]] (x578 p.2) (kx578 p.2) rfl p.1 (fun v hv => xg578 p.2 v (h.1 v hv).1 (h.1 v hv).2 h.2.2) h.2.1
theorem xg62b (vs ahead : List Vote) (h1 : GoodV vs) (h2 : vs.length < 4611686018427387904) (h3 : ahead.length < 4611686018427387904) : x62b.g [.c (.sl (vs.map Vote.row)), .c (.fn 78 [.ip [.sl (ahead.map Vote.row)]])] = some (True, .bool (anyKnows vs ahead)) := mkX_g (fun a b h => by
 simp only [List.cons.injEq, PVo.c.injEq, D.sl.injEq, D.fn.injEq, D.ip.injEq] at h
 exact Prod.ext (votes_inj h.1) (votes_inj h.2.1.2.1.1)) (vs, ahead) ⟨h1, h2, h3⟩
/-- Does the set with that index go ahead? -/
def leadB (vs : List Vote) (sets : List (List ByteArray)) (at' : Nat) (name : ByteArray) (i : Nat) : Bool := hasS (nth sets i) name && (partS (nth sets i) (nth sets at') && anyKnows (ofV vs (nth sets at')) (ofV vs (nth sets i)))
def pickI (vs : List Vote) (sets : List (List ByteArray)) (at' : Nat) (name : ByteArray) : Nat → Option Nat
 | 0 => none
 | i + 1 => if leadB vs sets at' name i then some i else pickI vs sets at' name i
theorem pickI_lt {vs : List Vote} {sets : List (List ByteArray)} {at' : Nat} {name : ByteArray} : ∀ {m i : Nat}, pickI vs sets at' name m = some i → i < m
 | 0, i, h => by cases h
 | m + 1, i, h => by
  simp only [pickI] at h
  split at h
  ·injection h with h; omega
  ·have := pickI_lt h; omega
def maxStep (name : ByteArray) (n : Int) (v : Vote) : Int := if n < hasN v.e.deps name then hasN v.e.deps name else n
def maxN (vs : List Vote) (name : ByteArray) : Int := vs.foldl (maxStep name) 0
def uptoF (vs : List Vote) (sets : List (List ByteArray)) (name : ByteArray) : Nat → Nat → Int
 | 0, _ => 0
 | f + 1, at' => match pickI vs sets at' name at' with
  | some i => uptoF vs sets name f i
  | none => maxN (ofV vs (nth sets at')) name
def uptoE (vs : List Vote) (sets : List (List ByteArray)) (name : ByteArray) (at' : Nat) : Int := uptoF vs sets name (at' + 1) at'
theorem uptoF_fuel (vs : List Vote) (sets : List (List ByteArray)) (name : ByteArray) : ∀ (f g at' : Nat), at' < f → at' < g → uptoF vs sets name f at' = uptoF vs sets name g at'
 | 0, _, _, h, _ => by omega
 | _ + 1, 0, _, _, h => by omega
 | f + 1, g + 1, at', h1, h2 => by
  simp only [uptoF]
  cases hp : pickI vs sets at' name at' with
  | none => rfl
  | some i => have := pickI_lt hp; exact uptoF_fuel vs sets name f g i (by omega) (by omega)
theorem uptoE_eq (vs : List Vote) (sets : List (List ByteArray)) (name : ByteArray) (at' : Nat) : uptoE vs sets name at' = match pickI vs sets at' name at' with
  | some i => uptoE vs sets name i
  | none => maxN (ofV vs (nth sets at')) name := by
 unfold uptoE
 conv => lhs; unfold uptoF
 cases hp : pickI vs sets at' name at' with
 | none => rfl
 | some i => have := pickI_lt hp; exact uptoF_fuel vs sets name _ _ i (by omega) (by omega)
def okU (c : Cn) (sets : List (List ByteArray)) : Prop := c.vs.length < 34359738368 ∧ GoodV c.vs ∧ sets.length < 34359738368 ∧ ∀ s ∈ sets, s.length < 4611686018427387904
structure UArg where
 c : Cn
 sets : List (List ByteArray)
 i : Nat
 name : ByteArray
noncomputable def x537 (n : Nat) : XE := mkX true (fun (p : UArg) => [.c (.ip p.c.cs), .c (.sl (p.sets.map setrow)), .c (.v (.int .i64 p.i)), .c (.v (.string p.name))]) (fun p => okU p.c p.sets ∧ p.i < p.sets.length ∧ p.i < n) (fun p => .int .i64 (uptoE p.c.vs p.sets p.name p.i))
theorem injU (a b : UArg) (h : [PVo.c (D.ip a.c.cs), PVo.c (D.sl (a.sets.map setrow)), PVo.c (D.v (.int .i64 (a.i : Int))), PVo.c (D.v (.string a.name))] = [PVo.c (D.ip b.c.cs), PVo.c (D.sl (b.sets.map setrow)), PVo.c (D.v (.int .i64 (b.i : Int))), PVo.c (D.v (.string b.name))]) : a = b := by
 simp only [List.cons.injEq, PVo.c.injEq, D.sl.injEq, D.ip.injEq, D.v.injEq, Value.int.injEq, Value.string.injEq] at h
 obtain ⟨h1, h2, ⟨_, h3⟩, h4, _⟩ := h
 cases a; cases b
 have e1 := Cn.cs_inj h1
 have e2 := sets_inj h2
 simp only at e1 e2 h3 h4
 have e3 := Int.ofNat.inj h3
 rw [e1, e2, e3, h4]
theorem xg537 (n : Nat) (c : Cn) (sets : List (List ByteArray)) (i : Nat) (name : ByteArray) (h : okU c sets) (hi : i < sets.length) (hn : i < n) : (x537 n).g [.c (.ip c.cs), .c (.sl (sets.map setrow)), .c (.v (.int .i64 i)), .c (.v (.string name))] = some (True, .int .i64 (uptoE c.vs sets name i)) := mkX_g injU (UArg.mk c sets i name) ⟨h, hi, hn⟩
theorem GoodV.of {vs : List Vote} (h : GoodV vs) (set : List ByteArray) : GoodV (ofV vs set) := fun v hv => h v (List.mem_filter.1 hv).1
theorem k537 (n : Nat) (hn : Contract Tryz.prog G0 37 (x537 n)) (c : Cn) (sets : List (List ByteArray)) (name : ByteArray) (h : okU c sets) (hi : n < sets.length) :
  ACalls Tryz.prog G0 37 [.c (.d (.ip c.cs)), .c (.d (.sl (sets.map setrow))), I n, Sx name] [] fun t H => t = .int .i64 (uptoE c.vs sets name n) ∧ H = [] := by
 have h0 := h
 obtain ⟨b1, b2, b3, b4⟩ := h
 have s1 : x560.sc = false := rfl
 have s2 : x577.sc = true := rfl
 have s3 : x559.sc = true := rfl
 have s4 : x62b.sc = true := rfl
 have s5 : (x537 n).sc = true := rfl
 have s6 : x579.sc = true := rfl
 refine acallsX (X := [(60, x560), (77, x577), (59, x559), (62, x62b), (37, x537 n), (79, x579)]) ⟨kx560, kx577, kx559, kx62b, hn, kx579, trivial⟩ tab hmix Tryz.func37 c537 (by rfl) fun hw => ?_
 have hce : c.cs = [.sl (c.mem.map srow), .sl (c.l.map Edit.row), .sl (c.vs.map Vote.row)] := rfl
 obtain ⟨set, hset⟩ : ∃ s, nth sets n = s := ⟨_, rfl⟩
 have hsl : set.length < 4611686018427387904 := b4 set (by rw [← hset]; exact nth_mem hi)
 have hse : ∀ s, setrow s = [D.sl (s.map srow)] := fun _ => rfl
 have g1 := xg560 c set (by omega) hsl
 have hol : (ofV c.vs set).length ≤ c.vs.length := List.length_filter_le _ _
 have hU := uptoE_eq c.vs sets name n
 rw [hset] at hU
 rw [hce] at g1
 simp (implicitDefEqProofs := false) (disch := omega) [gz, ir537, b537, b537_0, b537_1, b537_2, wrap64, hi, nth_map, hset, hse, hce, s1, g1, toPVs, frzVs, osVs, toPV]
 refine loopE (fun k st => ∃ m, m ≤ n ∧ k = m ∧ pickI c.vs sets n name n = pickI c.vs sets n name m ∧
   st = ⟨ofL [(0, .v (.c (.d (.ip c.cs)))), (1, .v (.c (.d (.sl (sets.map setrow))))), (2, .int .i64 n), (3, .v (.c (.d (.v (.string name))))), (9, .v (.c (.d (.sl ((ofV c.vs set).map Vote.row))))), (10, .int .i64 ((m : Int) - 1))], []⟩)
  (fun st => pickI c.vs sets n name n = none ∧ AtS [(3, .v (.c (.d (.v (.string name))))), (9, .v (.c (.d (.sl ((ofV c.vs set).map Vote.row)))))] [] st) ?_ ?_ ?_
 ·refine wk_nil [] [0, 1, 2, 3, 9, 10] rfl ⟨n, n, Nat.le_refl _, rfl, rfl, ?_⟩
  simp [hce]
 ·rintro J L hJ hL m st ⟨_, hm, rfl, hpk, rfl⟩
  by_cases hlt : m = 0
  ·subst hlt
   simp (implicitDefEqProofs := false) (disch := omega) [gz, wrap64]
   subst hL
   refine ⟨by rw [hpk]; rfl, at_mk (by simp) rfl⟩
  ·obtain ⟨m, rfl⟩ : ∃ j, m = j + 1 := ⟨m - 1, by omega⟩
   have hm' : m < sets.length := by omega
   obtain ⟨sm, hsm⟩ : ∃ s, nth sets m = s := ⟨_, rfl⟩
   have hsml : sm.length < 4611686018427387904 := b4 sm (by rw [← hsm]; exact nth_mem hm')
   have g2 := xg577 sm name hsml
   have g3 := xg559 sm set hsml hsl
   have g4 := xg560 c sm (by omega) hsml
   have hol2 : (ofV c.vs sm).length ≤ c.vs.length := List.length_filter_le _ _
   have g5 := xg62b (ofV c.vs set) (ofV c.vs sm) (GoodV.of b2 set) (by omega) (by omega)
   have g6 := xg537 n c sets m name h0 hm' (by omega)
   rw [hce] at g4 g6
   have hst : pickI c.vs sets n name (m + 1) = if leadB c.vs sets n name m then some m else pickI c.vs sets n name m := rfl
   unfold leadB at hst
   rw [hsm, hset] at hst
   have hm1 : ((m + 1 : Nat) : Int) - 1 = m := by omega
   rw [hm1, hce]
   obtain ⟨q1, hq1⟩ : ∃ q, q = hasS sm name := ⟨_, rfl⟩
   obtain ⟨q2, hq2⟩ : ∃ q, q = partS sm set := ⟨_, rfl⟩
   obtain ⟨q3, hq3⟩ : ∃ q, q = anyKnows (ofV c.vs set) (ofV c.vs sm) := ⟨_, rfl⟩
   rw [← hq1] at g2 hst
   rw [← hq2] at g3 hst
   rw [← hq3] at g5 hst
   cases q1
   ·simp (implicitDefEqProofs := false) (disch := omega) [gz, wrap64, hm', hi, nth_map, hsm, hset, hse, splice, s1, s2, s3, s4, s5, g2, g3, g4, g5, g6, toPVs, frzVs, osVs, toPV]
    repeat' (with_reducible apply And.intro)
    all_goals first | omega | kernel_rfl | exact fun _ _ => rfl | skip
    subst hJ
    refine wk_nil [] [0, 1, 2, 3, 9, 10] rfl ⟨m, by omega, m, by omega, rfl, by rw [hpk, hst]; rfl, ?_⟩
    simp [hce]
   ·cases q2
    ·simp (implicitDefEqProofs := false) (disch := omega) [gz, wrap64, hm', hi, nth_map, hsm, hset, hse, splice, s1, s2, s3, s4, s5, g2, g3, g4, g5, g6, toPVs, frzVs, osVs, toPV]
     repeat' (with_reducible apply And.intro)
     all_goals first | omega | kernel_rfl | exact fun _ _ => rfl | skip
     subst hJ
     refine wk_nil [] [0, 1, 2, 3, 9, 10] rfl ⟨m, by omega, m, by omega, rfl, by rw [hpk, hst]; rfl, ?_⟩
     simp [hce]
    ·cases q3
     ·simp (implicitDefEqProofs := false) (disch := omega) [gz, wrap64, hm', hi, nth_map, hsm, hset, hse, splice, s1, s2, s3, s4, s5, g2, g3, g4, g5, g6, toPVs, frzVs, osVs, toPV]
      repeat' (with_reducible apply And.intro)
      all_goals first | omega | kernel_rfl | exact fun _ _ => rfl | skip
      subst hJ
      refine wk_nil [] [0, 1, 2, 3, 9, 10] rfl ⟨m, by omega, m, by omega, rfl, by rw [hpk, hst]; rfl, ?_⟩
      simp [hce]
     ·rw [hpk, hst] at hU
      simp (implicitDefEqProofs := false) (disch := omega) [gz, wrap64, hm', hi, nth_map, hsm, hset, hse, splice, s1, s2, s3, s4, s5, g2, g3, g4, g5, g6, toPVs, frzVs, osVs, toPV]
      repeat' (with_reducible apply And.intro)
      all_goals first | omega | kernel_rfl | exact fun _ _ => rfl | skip
      exact fin_nil ⟨by rw [hU]; rfl, rfl⟩
 ·rintro _ ⟨hpn, sl, rfl⟩
  rw [hpn] at hU
  obtain ⟨W, hW⟩ : ∃ W, W = ofV c.vs set := ⟨_, rfl⟩
  have hWg : GoodV W := by rw [hW]; exact GoodV.of b2 set
  rw [← hW] at hU hol ⊢
  simp (implicitDefEqProofs := false) (disch := omega) [gz, b537_3, b537_4, b537_5, b537_6, wrap64]
  refine loopE (fun k st => ∃ i, i ≤ W.length ∧ k = W.length - i ∧
    st = ⟨ofL [(3, .v (.c (.d (.v (.string name))))), (12, .int .i64 (maxN (W.take i) name)), (60, .v (.c (.d (.sl (W.map Vote.row))))), (61, .int .i64 W.length), (62, .int .i64 i)], []⟩)
   (fun st => AtS [(12, .int .i64 (maxN W name))] [] st) ?_ ?_ ?_
  ·refine wk_nil [] [3, 12, 60, 61, 62] rfl ⟨_, 0, by omega, rfl, ?_⟩
   simp [maxN]
  ·rintro J L hJ hL k st ⟨i, hi', rfl, rfl⟩
   by_cases hlt : i < W.length
   ·obtain ⟨v, hv⟩ : ∃ v, nth W i = v := ⟨_, rfl⟩
    have hvm : v ∈ W := by rw [← hv]; exact nth_mem hlt
    have hst : maxN (W.take (i + 1)) name = maxStep name (maxN (W.take i) name) v := by
     unfold maxN; rw [take_nth hlt, List.foldl_append, hv]; rfl
    have hee := Vote.row_eq v
    have g7 := xg579 v.e.deps name (hWg v hvm).2
    unfold maxStep at hst
    obtain ⟨x, hx⟩ : ∃ x, x = maxN (W.take i) name := ⟨_, rfl⟩
    obtain ⟨y, hy⟩ : ∃ y, y = hasN v.e.deps name := ⟨_, rfl⟩
    rw [← hx, ← hy] at hst
    rw [← hy] at g7
    rw [← hx]
    simp (implicitDefEqProofs := false) (disch := omega) [gz, hlt, wrap64, nth_map, hv, hee, splice, s6, g7]
    subst hJ
    refine wk_nil [] [3, 12, 60, 61, 62] rfl ⟨W.length - (i + 1), by omega, i + 1, by omega, rfl, ?_⟩
    rw [hst]; simp [hce]
   ·have : i = W.length := by omega
    subst this
    rw [List.take_length]
    simp (implicitDefEqProofs := false) (disch := omega) [gz, hlt]
    subst hL
    exact at_mk (by simp) rfl
  ·rintro _ ⟨sl, rfl⟩
   simp (implicitDefEqProofs := false) (disch := omega) [gz, wrap64]
   exact fin_nil ⟨by rw [hU]; rfl, rfl⟩
theorem kx537 (n : Nat) : Contract Tryz.prog G0 37 (x537 n) := by
 induction n using Nat.strongRecOn with
 | _ n ih => exact mkX_scal (fun _ => rfl) fun p h => k537 p.i (ih p.i h.2.2) p.c p.sets p.name h.1 h.2.1
/-! ### sure -/
def sureStep (name : ByteArray) (x : Int) (v : Vote) : Int := if hasS v.set name && (decide (x < 0) || decide (hasN v.e.deps name < x)) then hasN v.e.deps name else x
def sureL (vs : List Vote) (name : ByteArray) : Int := vs.foldl (sureStep name) (-1)
def sureN (vs : List Vote) (name : ByteArray) : Int := if sureL vs name < 0 then 0 else sureL vs name
theorem k538 (c : Cn) (name : ByteArray) (h1 : c.vs.length < 34359738368) (h2 : GoodV c.vs) (h3 : ∀ v ∈ c.vs, v.set.length < 4611686018427387904) :
  ACalls Tryz.prog G0 38 [.c (.d (.ip c.cs)), Sx name] [] fun t H => t = .int .i64 (sureN c.vs name) ∧ H = [] := by
 have s2 : x577.sc = true := rfl
 have s6 : x579.sc = true := rfl
 refine acallsX (X := [(77, x577), (79, x579)]) ⟨kx577, kx579, trivial⟩ tab hmix Tryz.func38 c538 (by rfl) fun hw => ?_
 have hce : c.cs = [.sl (c.mem.map srow), .sl (c.l.map Edit.row), .sl (c.vs.map Vote.row)] := rfl
 simp (implicitDefEqProofs := false) (disch := omega) [gz, ir538, b538, hce, wrap64]
 obtain ⟨W, hW⟩ : ∃ W, W = c.vs := ⟨_, rfl⟩
 rw [← hW] at h1 h2 h3 ⊢
 refine loopE (fun k st => ∃ i, i ≤ W.length ∧ k = W.length - i ∧
   st = ⟨ofL [(1, .v (.c (.d (.v (.string name))))), (5, .int .i64 (sureL (W.take i) name)), (12, .v (.c (.d (.sl (W.map Vote.row))))), (13, .int .i64 W.length), (14, .int .i64 i)], []⟩)
  (fun st => AtS [(5, .int .i64 (sureL W name))] [] st) ?_ ?_ ?_
 ·refine wk_nil [] [1, 5, 12, 13, 14] rfl ⟨_, 0, by omega, rfl, ?_⟩
  simp [sureL, Sx, hW]
 ·rintro J L hJ hL k st ⟨i, hi', rfl, rfl⟩
  by_cases hlt : i < W.length
  ·obtain ⟨v, hv⟩ : ∃ v, nth W i = v := ⟨_, rfl⟩
   have hvm : v ∈ W := by rw [← hv]; exact nth_mem hlt
   have hst : sureL (W.take (i + 1)) name = sureStep name (sureL (W.take i) name) v := by
    unfold sureL; rw [take_nth hlt, List.foldl_append, hv]; rfl
   have hee := Vote.row_eq v
   have g7 := xg579 v.e.deps name (h2 v hvm).2
   have g2 := xg577 v.set name (h3 v hvm)
   unfold sureStep at hst
   obtain ⟨x, hx⟩ : ∃ x, x = sureL (W.take i) name := ⟨_, rfl⟩
   obtain ⟨y, hy⟩ : ∃ y, y = hasN v.e.deps name := ⟨_, rfl⟩
   obtain ⟨q, hq⟩ : ∃ q, q = hasS v.set name := ⟨_, rfl⟩
   rw [← hx, ← hy, ← hq] at hst
   rw [← hy] at g7
   rw [← hq] at g2
   rw [← hx]
   cases q
   ·simp (implicitDefEqProofs := false) (disch := omega) [gz, hlt, wrap64, nth_map, hv, hee, splice, s2, s6, g2, g7]
    subst hJ
    refine wk_nil [] [1, 5, 12, 13, 14] rfl ⟨W.length - (i + 1), by omega, i + 1, by omega, rfl, ?_⟩
    rw [hst]; simp
   ·by_cases p1 : x < 0
    ·simp (implicitDefEqProofs := false) (disch := omega) [gz, hlt, wrap64, nth_map, hv, hee, splice, s2, s6, g2, g7, p1]
     subst hJ
     refine wk_nil [] [1, 5, 12, 13, 14] rfl ⟨W.length - (i + 1), by omega, i + 1, by omega, rfl, ?_⟩
     rw [hst]; simp [p1]
    ·by_cases p2 : y < x
     ·simp (implicitDefEqProofs := false) (disch := omega) [gz, hlt, wrap64, nth_map, hv, hee, splice, s2, s6, g2, g7, p1, p2]
      subst hJ
      refine wk_nil [] [1, 5, 12, 13, 14] rfl ⟨W.length - (i + 1), by omega, i + 1, by omega, rfl, ?_⟩
      rw [hst]; simp [p1, p2]
     ·simp (implicitDefEqProofs := false) (disch := omega) [gz, hlt, wrap64, nth_map, hv, hee, splice, s2, s6, g2, g7, p1, p2]
      subst hJ
      refine wk_nil [] [1, 5, 12, 13, 14] rfl ⟨W.length - (i + 1), by omega, i + 1, by omega, rfl, ?_⟩
      rw [hst]; simp [p1, p2]
  ·have : i = W.length := by omega
   subst this
   rw [List.take_length]
   simp (implicitDefEqProofs := false) (disch := omega) [gz, hlt]
   subst hL
   exact at_mk (by simp) rfl
 ·rintro _ ⟨sl, rfl⟩
  simp (implicitDefEqProofs := false) (disch := omega) [gz, wrap64]
  exact fin_nil ⟨by simp [sureN], rfl⟩
noncomputable def x538 : XE := mkX true (fun (p : Cn × ByteArray) => [.c (.ip p.1.cs), .c (.v (.string p.2))]) (fun p => p.1.vs.length < 34359738368 ∧ GoodV p.1.vs ∧ ∀ v ∈ p.1.vs, v.set.length < 4611686018427387904) (fun p => .int .i64 (sureN p.1.vs p.2))
theorem kx538 : Contract Tryz.prog G0 38 x538 := mkX_scal (fun _ => rfl) fun p h => k538 p.1 p.2 h.1 h.2.1 h.2.2
theorem xg538 (c : Cn) (name : ByteArray) (h1 : c.vs.length < 34359738368) (h2 : GoodV c.vs) (h3 : ∀ v ∈ c.vs, v.set.length < 4611686018427387904) : x538.g [.c (.ip c.cs), .c (.v (.string name))] = some (True, .int .i64 (sureN c.vs name)) := mkX_g (fun a b h => by
 simp only [List.cons.injEq, PVo.c.injEq, D.ip.injEq, D.v.injEq, Value.string.injEq] at h
 exact Prod.ext (Cn.cs_inj h.1) h.2.1) (c, name) ⟨h1, h2, h3⟩
end Go.Aw.Try

namespace Go.Aw.Try
open Go Go.Proofs Go.Aw
set_option maxRecDepth 100000
set_option maxHeartbeats 4000000
/-! ### the library's functions, laid -/
/-- The numbers of the library's functions and types here. -/
def renS : Go.Shelf.Ren := ⟨fun n => match n with | 138 => 158 | 143 => 159 | 146 => 103 | 195 => 167 | 197 => 168 | 217 => 174 | 218 => 169 | 219 => 170 | 221 => 135 | 224 => 176 | 225 => 175 | 260 => 173 | 266 => 178 | 267 => 177 | 268 => 157 | 314 => 179 | _ => 0, fun n => match n with | 0 => 0 | 3 => 3 | 4 => 4 | 5 => 5 | 9 => 9 | 21 => 21 | 31 => 65 | 46 => 137 | 51 => 162 | 105 => 178 | 119 => 184 | 138 => 186 | 139 => 187 | 146 => 188 | _ => 0, fun n => match n with | 1 => 0 | 3 => 1 | 4 => 2 | _ => 0⟩
theorem ly146 : Lays.n146 Tryz.prog renS :=
  { mixed := hmix
    f138 := Tryz.func158.trans (by kernel_rfl)
    f143 := Tryz.func159.trans (by kernel_rfl)
    f146 := Tryz.func103.trans (by kernel_rfl)
    f195 := Tryz.func167.trans (by kernel_rfl)
    f197 := Tryz.func168.trans (by kernel_rfl)
    f217 := Tryz.func174.trans (by kernel_rfl)
    f218 := Tryz.func169.trans (by kernel_rfl)
    f219 := Tryz.func170.trans (by kernel_rfl)
    f221 := Tryz.func135.trans (by kernel_rfl)
    f224 := Tryz.func176.trans (by kernel_rfl)
    f225 := Tryz.func175.trans (by kernel_rfl)
    f260 := Tryz.func173.trans (by kernel_rfl)
    f266 := Tryz.func178.trans (by kernel_rfl)
    f267 := Tryz.func177.trans (by kernel_rfl)
    f268 := Tryz.func157.trans (by kernel_rfl)
    f314 := Tryz.func179.trans (by kernel_rfl)
    t0 := Tryz.underlying0
    a0 := Tryz.isAgg0
    z0 := Tryz.sizeOf0
    v0 := Tryz.zeroValue0
    t3 := Tryz.underlying3
    a3 := Tryz.isAgg3
    z3 := Tryz.sizeOf3
    v3 := Tryz.zeroValue3
    t4 := Tryz.underlying4
    a4 := Tryz.isAgg4
    z4 := Tryz.sizeOf4
    v4 := Tryz.zeroValue4
    t5 := Tryz.underlying5
    a5 := Tryz.isAgg5
    z5 := Tryz.sizeOf5
    v5 := Tryz.zeroValue5
    t9 := Tryz.underlying9
    a9 := Tryz.isAgg9
    z9 := Tryz.sizeOf9
    v9 := Tryz.zeroValue9
    t21 := Tryz.underlying21
    a21 := Tryz.isAgg21
    z21 := Tryz.sizeOf21
    v21 := Tryz.zeroValue21
    t31 := Tryz.underlying65
    a31 := Tryz.isAgg65
    z31 := Tryz.sizeOf65
    v31 := Tryz.zeroValue65
    t46 := Tryz.underlying137
    a46 := Tryz.isAgg137
    z46 := Tryz.sizeOf137
    v46 := Tryz.zeroValue137
    t51 := Tryz.underlying162
    a51 := Tryz.isAgg162
    z51 := Tryz.sizeOf162
    v51 := Tryz.zeroValue162
    t105 := Tryz.underlying178
    a105 := Tryz.isAgg178
    z105 := Tryz.sizeOf178
    v105 := Tryz.zeroValue178
    t119 := Tryz.underlying184
    a119 := Tryz.isAgg184
    z119 := Tryz.sizeOf184
    t138 := Tryz.underlying186
    a138 := Tryz.isAgg186
    z138 := Tryz.sizeOf186
    v138 := Tryz.zeroValue186
    t139 := Tryz.underlying187
    a139 := Tryz.isAgg187
    z139 := Tryz.sizeOf187
    v139 := Tryz.zeroValue187
    t146 := Tryz.underlying188
    a146 := Tryz.isAgg188
    z146 := Tryz.sizeOf188
    v146 := Tryz.zeroValue188
    g1 := by kernel_rfl
    g3 := by kernel_rfl
    g4 := by kernel_rfl }

theorem i9S : (Tryz.prog.info? (renS.t 9)).map (fun i => (i.zero, i.size, i.bytes)) = some (some (.string ByteArray.empty), 1, 16) := by kernel_rfl
/-- A hole behind the regions. -/
theorem hole_behind {P : Program} {ρ : Nat → Option Nat} {H : List O} {w : World} (h : HRel P ρ H w) : HRel P ρ (H ++ [.hole]) w ∧ (ctx ρ H w).le (ctx ρ (H ++ [.hole]) w) := by
 have hs : Sim P G0 0 { ρ0 := ρ, N0 := H.length, S0 := stab ρ H w, w0 := w } ρ ⟨fun _ => .v .any, H⟩ ⟨#[], []⟩ w :=
  ⟨h, rfl, rfl, fun _ => trivial, fun g cs hg => (nomatch hg), K.le.refl _⟩
 have := sim_holes hs 1
 exact ⟨this.heap, this.le⟩
/-- The variable internal/bytealg.MaxLen holds m. -/
def GM (m : Int) : Gl := fun g => if g = 0 then some [.v (.int .i64 m)] else none
theorem gm_cell {m : Int} {S : Nat → Prop} {w : World} (h : GRel (GM m) S w) : w.cell? ⟨renS.g 1, 0, none⟩ = some (.int .i64 m) := by
 obtain ⟨_, _, h3⟩ := h 0 [.v (.int .i64 m)] rfl
 obtain ⟨u, hu, hd⟩ := h3 0 _ rfl
 rw [drel_v hd] at hu
 exact hu
theorem two_args {vs : Array Value} (h : vs.size = 2) : ∃ u v, vs = #[u, v] := by
 obtain ⟨l⟩ := vs
 match l, h with
 | [u, v], _ => exact ⟨u, v, rfl⟩
/-- The parts of a text. -/
noncomputable def parts (s sep : ByteArray) : List ByteArray := Lib.splitB sep 0 (Lib.countB s sep) s
theorem parts_len (s sep : ByteArray) (h1 : 1 ≤ sep.size) : (parts s sep).length = Lib.countB s sep + 1 := Lib.splitB_all sep h1 0 _ s rfl
theorem kSplit (m : Int) (s sep : ByteArray) (hs : s.size < 4294967281) (h1 : 1 ≤ sep.size) (H : List O) :
  ACalls Tryz.prog (GM m) 103 [Sx s, Sx sep] H (Own H 1 ((parts s sep).map srow)) := by
 refine ⟨callable_of Tryz.func103 (by kernel_rfl) (by decide +kernel), fun ρ w vs hH hG hv => ?_⟩
 obtain ⟨u, v, rfl⟩ : ∃ u v, vs = #[u, v] := two_args hv.1
 have e1 : u = .string s := drel_v (hv.2 0 _ u rfl rfl)
 have e2 : v = .string sep := drel_v (hv.2 1 _ v rfl rfl)
 subst e1; subst e2
 have h := Any.strings_Split (ρ := renS) ly146 i9S s sep m w hs (gm_cell hG) h1
 refine Calls.mono h ?_
 rintro e1 w' ⟨rfl, rfl⟩
 obtain ⟨g1, le1⟩ := hole_behind hH
 have hid : (H ++ [O.hole])[H.length]? = some .hole := by simp
 have hset : (H ++ [O.hole]).set H.length (.row 1 ((parts s sep).map srow)) = H ++ [.row 1 ((parts s sep).map srow)] := set_snoc
 have le2 := g1.le_alloc hid (.cells ((parts s sep).map Value.string).toArray (renS.t 9) (0, 0)) (.row 1 ((parts s sep).map srow))
 have g2 := g1.alloc hid (.cells ((parts s sep).map Value.string).toArray (renS.t 9) (0, 0)) (.row 1 ((parts s sep).map srow)) ⟨by omega, .inr ⟨_, _, _, rfl, push_at _ _, ?_⟩⟩
 ·rw [hset] at g2 le2
  refine ⟨_, _, _, _, rfl, ⟨rfl, rfl⟩, g2, ?_, le1.trans le2⟩
  have hl := parts_len s sep h1
  have hlt : H.length < (H ++ [O.row 1 ((parts s sep).map srow)]).length := by simp
  refine ⟨hlt, .inr ⟨w.heap.size, Lib.countB s sep + 1, renS.t 9, ((parts s sep).map Value.string).toArray.size, upd_same _ _ _, ?_, ?_, ?_, ?_⟩⟩
  ·rw [List.length_map, hl]
  ·rw [List.length_map, hl]; exact Nat.le_refl _
  ·show World.shape? (pushO w _) w.heap.size = _
   rw [shape?_eq, push_at]; rfl
  ·simp [hl]
 ·refine ⟨by simp, fun x hx => ?_, fun i x j d hi hj => ?_⟩
  ·obtain ⟨y, _, rfl⟩ := List.mem_map.1 hx; rfl
  ·rw [List.getElem?_map] at hi
   cases hp : (parts s sep)[i]? with
   | none => rw [hp] at hi; cases hi
   | some y =>
    rw [hp] at hi; injection hi with hi; subst hi
    cases j with
    | zero =>
     injection hj with hj; subst hj
     exact ⟨.string y, by simp [hp], DRel.v _ rfl⟩
    | succ j => simp [srow] at hj
end Go.Aw.Try

namespace Go.Aw
open Go
section
variable {P : Program} {G : Gl} {N0 : Nat}
/-- A contract that uses no variable holds whatever the variables hold. -/
theorem ACalls.gm {f : Nat} {args : List V} {H : List O} {R : T → List O → Prop} (h : ACalls P Try.G0 f args H R) : ACalls P G f args H R :=
 ⟨h.1, fun ρ w vs a _ c => h.2 ρ w vs a (fun g cs hg => (nomatch hg)) c⟩
theorem Contract.gm {f : Nat} {x : XE} (h : Contract P Try.G0 f x) : Contract P G f x := by
 intro ps ob t hg ho
 have := h ps ob t hg ho
 split at this
 ·rename_i hs
  rw [if_pos hs]; exact ⟨this.1, this.2.gm⟩
 ·rename_i hs
  rw [if_neg hs]; exact fun H => (this H).gm
/-- A slot told as data, its rows frozen. -/
theorem wk_tell {sl : Nat → T} {H : List O} {K : St → Prop} (t : Nat) {u : V} {p : PV} (ht : sl t = .v u) (hp : toPV H u = some p) (h : wk P G N0 ⟨putS sl t (.v p.toV), frz H u.cells⟩ K) : wk P G N0 ⟨sl, H⟩ K := by
 refine wk_weak ?_ h
 intro n b ρ a w hb1 hb2 hs
 obtain ⟨h1, l1⟩ := frz_rel u.cells hs.heap
 refine ⟨ρ, h1, hs.size, hs.defers, fun i => ?_, hs.glob.mono l1.step, hs.le.trans l1⟩
 show TRel P _ (putS sl t _ i) _
 unfold putS
 split
 ·rename_i e
  subst e
  have h3 : TRel P (ctx ρ H w) (sl i) (a.tmps.getD i undef) := hs.slots i
  rw [ht] at h3
  exact pv_rel (P := P) (k := ctx ρ (frz H u.cells) w) (topv_rel hs.heap hp h3)
 ·exact (hs.slots i).mono l1
end
end Go.Aw
namespace Go.Aw.Try
open Go Go.Proofs Go.Aw
set_option maxRecDepth 100000
set_option maxHeartbeats 4000000
/-! ### names -/
def comma : ByteArray := ⟨#[44]⟩
theorem comma_size : 1 ≤ comma.size := by decide
theorem parts_le (s : ByteArray) : (parts s comma).length ≤ s.size + 1 := by
 rw [parts_len s comma comma_size]
 have := Lib.countB_le comma comma_size s.size s (Nat.le_refl _)
 omega
/-- That part cannot stand. -/
def badN (a : ByteArray) (mem l : List ByteArray) (i : Nat) : Bool := decide (nth l i = a) || (!hasS mem (nth l i) || (decide (0 < i) && !strLt (nth l (i - 1)) (nth l i)))
noncomputable def namesO (e : Edit) (mem : List ByteArray) : Option (List ByteArray) :=
 if e.kind = 5 ∧ hasS mem e.id.a = true ∧ 2 * (parts e.who comma).length < mem.length ∧ ∀ j, j < (parts e.who comma).length → badN e.id.a mem (parts e.who comma) j = false then some (parts e.who comma) else none
def namesT : Option (List ByteArray) → T
 | none => .tup [.c (.d (.v (.slice none 0 0))), .c (.d (.v (.bool false)))]
 | some l => .tup [.c (.d (.sl (l.map srow))), .c (.d (.v (.bool true)))]
theorem k558 (m : Int) (e : Edit) (mem : List ByteArray) (h1 : e.who.size < 4294967281) (h2 : mem.length < 34359738368) (H : List O) :
  ACalls Tryz.prog (GM m) 58 [.agg (e.row.map .d), .c (.d (.sl (mem.map srow)))] H fun t H' => t = namesT (namesO e mem) ∧ H' = H := by
 have s1 : x577.sc = true := rfl
 have g1 := xg577 mem e.id.a (by omega)
 refine acallsX (X := [(77, x577)]) ⟨kx577.gm, trivial⟩ tab hmix Tryz.func58 c558 (by rfl) fun hw => ?_
 have hee := Edit.row_eq e
 obtain ⟨L, hL⟩ : ∃ L, L = parts e.who comma := ⟨_, rfl⟩
 have hle := parts_le e.who
 have hno : ¬ (e.kind = 5 ∧ hasS mem e.id.a = true ∧ 2 * L.length < mem.length ∧ ∀ j, j < L.length → badN e.id.a mem L j = false) → namesO e mem = none := fun h => by
  unfold namesO; rw [← hL, if_neg h]
 have hyes : (e.kind = 5 ∧ hasS mem e.id.a = true ∧ 2 * L.length < mem.length ∧ ∀ j, j < L.length → badN e.id.a mem L j = false) → namesO e mem = some L := fun h => by
  unfold namesO; rw [← hL, if_pos h]
 rw [← hL] at hle
 simp (implicitDefEqProofs := false) (disch := omega) [gz, ir558, b558, b558_0, b558_1, hee, wrap64]
 have hk := kSplit m e.who comma h1 comma_size (H ++ [.cells ([.v (.string e.id.a), .v (.int .i64 e.id.n), .v (.int .i64 e.clock), .v (.int .i64 e.floor), .sl (e.deps.map Id.row), .v (.int .i64 e.kind), .v (.string e.node.a), .v (.int .i64 e.node.n), .v (.string e.parent.a), .v (.int .i64 e.parent.n), .v (.bool e.neg), .v (.string e.num), .v (.string e.den), .v (.string e.field), .v (.string e.value), .v (.string e.target.a), .v (.int .i64 e.target.n), .v (.string e.who)].map .d)])
 rw [← hL] at hk
 refine hk.mono ?_
 rintro t H' ⟨rfl, rfl⟩
 by_cases q1 : e.kind = 5
 ·obtain ⟨q, hq⟩ : ∃ q, q = hasS mem e.id.a := ⟨_, rfl⟩
  rw [← hq] at g1 hno hyes
  cases q
  ·rw [hno (fun h => by simp at h)]
   simp (implicitDefEqProofs := false) (disch := omega) [gz, callK, b558_2, b558_3, b558_4, b558_5, q1, s1, g1, hee, wrap64]
   exact fin_drop hw ⟨rfl, rfl⟩
  ·by_cases q2 : 2 * L.length < mem.length
   ·obtain ⟨R0, hR0⟩ : ∃ R0, R0 = namesO e mem := ⟨_, rfl⟩
    rw [← hR0] at hno hyes ⊢
    simp (implicitDefEqProofs := false) (disch := omega) [gz, callK, b558_2, b558_3, b558_4, b558_5, q1, s1, g1, hee, wrap64]
    refine ⟨fun h => absurd h (by omega), fun _ => ?_⟩
    refine loopE (fun k st => ∃ i, i ≤ L.length ∧ k = L.length - i ∧ (∀ j, j < i → badN e.id.a mem L j = false) ∧
      st = ⟨ofL [(1, .v (.c (.d (.sl (mem.map srow))))), (2, .v (.c (.ptr H.length 0))), (6, .v (.c (.d (.sl (L.map srow))))), (31, .v (.c (.d (.sl (L.map srow))))), (32, .int .i64 L.length), (33, .int .i64 i)], H ++ [.cells ([.v (.string e.id.a), .v (.int .i64 e.id.n), .v (.int .i64 e.clock), .v (.int .i64 e.floor), .sl (e.deps.map Id.row), .v (.int .i64 e.kind), .v (.string e.node.a), .v (.int .i64 e.node.n), .v (.string e.parent.a), .v (.int .i64 e.parent.n), .v (.bool e.neg), .v (.string e.num), .v (.string e.den), .v (.string e.field), .v (.string e.value), .v (.string e.target.a), .v (.int .i64 e.target.n), .v (.string e.who)].map .d)]⟩)
     (fun st => (∀ j, j < L.length → badN e.id.a mem L j = false) ∧ AtS [(6, .v (.c (.d (.sl (L.map srow)))))] (H ++ [.cells ([.v (.string e.id.a), .v (.int .i64 e.id.n), .v (.int .i64 e.clock), .v (.int .i64 e.floor), .sl (e.deps.map Id.row), .v (.int .i64 e.kind), .v (.string e.node.a), .v (.int .i64 e.node.n), .v (.string e.parent.a), .v (.int .i64 e.parent.n), .v (.bool e.neg), .v (.string e.num), .v (.string e.den), .v (.string e.field), .v (.string e.value), .v (.string e.target.a), .v (.int .i64 e.target.n), .v (.string e.who)].map .d)]) st) ?_ ?_ ?_
    ·refine wk_tell 6 (u := .c (.os (H.length + 1) 1 0 L.length)) (p := .c (.sl (L.map srow))) (by simp) (by simp [toPV, toD, take_of_len]) ?_
     refine wk_tell 31 (u := .c (.os (H.length + 1) 1 0 L.length)) (p := .c (.sl (L.map srow))) (by simp) (by simp [toPV, toD, frz, frz1, V.cells, take_of_len]) ?_
     have hf : frz (frz (H ++ [.cells ([.v (.string e.id.a), .v (.int .i64 e.id.n), .v (.int .i64 e.clock), .v (.int .i64 e.floor), .sl (e.deps.map Id.row), .v (.int .i64 e.kind), .v (.string e.node.a), .v (.int .i64 e.node.n), .v (.string e.parent.a), .v (.int .i64 e.parent.n), .v (.bool e.neg), .v (.string e.num), .v (.string e.den), .v (.string e.field), .v (.string e.value), .v (.string e.target.a), .v (.int .i64 e.target.n), .v (.string e.who)].map .d), .row 1 (L.map srow)]) [.os (H.length + 1) 1 0 L.length]) [.os (H.length + 1) 1 0 L.length] = H ++ [.cells ([.v (.string e.id.a), .v (.int .i64 e.id.n), .v (.int .i64 e.clock), .v (.int .i64 e.floor), .sl (e.deps.map Id.row), .v (.int .i64 e.kind), .v (.string e.node.a), .v (.int .i64 e.node.n), .v (.string e.parent.a), .v (.int .i64 e.parent.n), .v (.bool e.neg), .v (.string e.num), .v (.string e.den), .v (.string e.field), .v (.string e.value), .v (.string e.target.a), .v (.int .i64 e.target.n), .v (.string e.who)].map .d), .frow 1 (L.map srow)] := by
      simp [frz, frz1]
     rw [q1] at hf
     rw [show (V.c (.os (H.length + 1) 1 0 L.length)).cells = [.os (H.length + 1) 1 0 L.length] from rfl]
     simp only [List.map_cons, List.map_nil] at hf
     rw [hf]
     refine wk_pre [0] [1, 2, 6, 31, 32, 33] hw rfl ⟨_, 0, by omega, rfl, fun j hj => by omega, ?_⟩
     simp [phi, O.ren, phiP, q1, PV.toV]
    ·rintro J L' hJ hL' k st ⟨i, hi, rfl, hb, rfl⟩
     by_cases hlt : i < L.length
     ·obtain ⟨x, hx⟩ : ∃ x, nth L i = x := ⟨_, rfl⟩
      have g2 := xg577 mem x (by omega)
      obtain ⟨p, hp⟩ : ∃ p, p = hasS mem x := ⟨_, rfl⟩
      have hbd : badN e.id.a mem L i = (decide (x = e.id.a) || (!p || (decide (0 < i) && !strLt (nth L (i - 1)) x))) := by unfold badN; rw [hx, hp]
      rw [← hp] at g2
      by_cases c1 : x = e.id.a
      ·have hn : R0 = none := hno fun h => by
        have := h.2.2.2 i hlt
        rw [hbd] at this; simp [c1] at this
       rw [hn]
       simp (implicitDefEqProofs := false) (disch := omega) [gz, hlt, wrap64, nth_map, hx, srow, binSF, c1]
       exact fin_drop hw ⟨rfl, rfl⟩
      ·cases p
       ·have hn : R0 = none := hno fun h => by
         have := h.2.2.2 i hlt
         rw [hbd] at this; simp at this
        rw [hn]
        simp (implicitDefEqProofs := false) (disch := omega) [gz, hlt, wrap64, nth_map, hx, srow, binSF, s1, g2, c1]
        exact fin_drop hw ⟨rfl, rfl⟩
       ·by_cases c3 : 0 < i
        ·have hi1 : ((i : Int) - 1) = ((i - 1 : Nat) : Int) := by omega
         have hl1 : i - 1 < L.length := by omega
         obtain ⟨y, hy⟩ : ∃ y, nth L (i - 1) = y := ⟨_, rfl⟩
         rw [hy] at hbd
         obtain ⟨q, hq⟩ : ∃ q, strLt y x = q := ⟨_, rfl⟩
         rw [hq] at hbd
         cases q
         ·have hn : R0 = none := hno fun h => by
           have := h.2.2.2 i hlt
           rw [hbd] at this; simp [c3] at this
          rw [hn]
          simp (implicitDefEqProofs := false) (disch := omega) [gz, hlt, wrap64, nth_map, hx, srow, binSF, s1, g2, c1, c3, hi1, hl1, hy, hq]
          exact fin_drop hw ⟨rfl, rfl⟩
         ·simp (implicitDefEqProofs := false) (disch := omega) [gz, hlt, wrap64, nth_map, hx, srow, binSF, s1, g2, c1, c3, hi1, hl1, hy, hq]
          subst hJ
          refine wk_pre [0] [1, 2, 6, 31, 32, 33] hw rfl ⟨L.length - (i + 1), by omega, i + 1, by omega, rfl, fun j hj => ?_, ?_⟩
          ·by_cases e1 : j = i
           ·subst e1; rw [hbd]; simp [c1]
           ·exact hb j (by omega)
          ·simp [phi, O.ren, phiP]
        ·simp (implicitDefEqProofs := false) (disch := omega) [gz, hlt, wrap64, nth_map, hx, srow, binSF, s1, g2, c1, c3]
         subst hJ
         refine wk_pre [0] [1, 2, 6, 31, 32, 33] hw rfl ⟨L.length - (i + 1), by omega, i + 1, by omega, rfl, fun j hj => ?_, ?_⟩
         ·by_cases e1 : j = i
          ·subst e1; rw [hbd]; simp [c1, c3]
          ·exact hb j (by omega)
         ·simp [phi, O.ren, phiP]
     ·have : i = L.length := by omega
      subst this
      simp (implicitDefEqProofs := false) (disch := omega) [gz, hlt]
      subst hL'
      exact ⟨hb, at_mk (by simp) rfl⟩
    ·rintro _ ⟨hb, sl, rfl⟩
     rw [hyes ⟨q1, rfl, q2, hb⟩]
     simp (implicitDefEqProofs := false) (disch := omega) [gz, wrap64]
     exact fin_drop hw ⟨rfl, rfl⟩
   ·rw [hno (fun h => absurd h.2.2.1 q2)]
    simp (implicitDefEqProofs := false) (disch := omega) [gz, callK, b558_2, b558_3, b558_4, b558_5, q1, s1, g1, hee, wrap64]
    exact ⟨fun _ => fin_drop hw ⟨rfl, rfl⟩, fun h => absurd h (by omega)⟩
 ·rw [hno (fun h => absurd h.1 q1)]
  simp (implicitDefEqProofs := false) (disch := omega) [gz, callK, b558_2, b558_3, b558_4, b558_5, q1, hee, wrap64]
  exact fin_drop hw ⟨rfl, rfl⟩
end Go.Aw.Try

namespace Go.Aw
open Go
section
variable {P : Program} {G : Gl} {N0 : Nat}
theorem setB_again {w : World} {b : Nat} {o : Obj} (h : w.heap[b]? = some o) : setB w b o = w := by
 have : w.heap.setIfInBounds b o = w.heap := by
  apply Array.ext_getElem?
  intro i
  by_cases q : b = i
  ·subst q
   rw [Array.getElem?_setIfInBounds_self_of_lt (Array.getElem?_eq_some_iff.1 h).1, h]
  ·rw [Array.getElem?_setIfInBounds_ne q]
 show { w with heap := w.heap.setIfInBounds b o } = w
 rw [this]
/-- A region's cells, seen otherwise. -/
theorem HRel.seen {ρ : Nat → Option Nat} {H : List O} {w : World} {r : Nat} {cs cs' : List C} (hH : HRel P ρ H w) (hr : H[r]? = some (.cells cs)) (h : ∀ vs, CsRel P (ctx ρ H w) cs vs → CsRel P (ctx ρ H w) cs' vs) :
  HRel P ρ (H.set r (.cells cs')) w ∧ (ctx ρ H w).le (ctx ρ (H.set r (.cells cs')) w) := by
 obtain ⟨a, c, e, h1, h2, h3⟩ := hH.objs r _ hr
 have h2 : w.heap[a]? = some (.cells c e (0, 0)) := h2
 have le := HRel.le_setB (ρ := ρ) (w := w) hr rfl h1 h2 rfl (.cells cs') rfl
 rw [setB_again h2] at le
 have h4 := (h c h3).mono le
 have g := hH.setB hr rfl h1 h2 rfl (.cells cs') rfl ⟨a, c, e, rfl, by rw [setB_again h2]; exact h2, by rw [setB_again h2]; exact h4⟩
 rw [setB_again h2] at g
 exact ⟨g, le⟩
theorem CsRel.set {k : K} {cs : List C} {vs : Array Value} (h : CsRel P k cs vs) {j : Nat} {c c' : C} (hj : cs[j]? = some c) (hc : ∀ v, CRel P k c v → CRel P k c' v) : CsRel P k (cs.set j c') vs := by
 refine ⟨by rw [List.length_set]; exact h.1, fun i d v hd hv => ?_⟩
 rw [List.getElem?_set] at hd
 by_cases e : j = i
 ·subst e
  rw [if_pos rfl] at hd
  split at hd
  ·injection hd with hd; subst hd; exact hc v (h.2 j c v hj hv)
  ·cases hd
 ·rw [if_neg e] at hd; exact h.2 i d v hd hv
/-- A nil slice in a cell, seen as an own row without elements. -/
theorem wk_nil_cell {sl : Nat → T} {H : List O} {K : St → Prop} (r j sz : Nat) {cs : List C} (hsz : 0 < sz) (hr : H[r]? = some (.cells cs)) (hj : cs[j]? = some (.d (.v (.slice none 0 0))))
  (h : wk P G N0 ⟨sl, (H ++ [O.row sz []]).set r (.cells (cs.set j (.os H.length sz 0 0)))⟩ K) : wk P G N0 ⟨sl, H⟩ K := by
 refine wk_weak ?_ h
 intro n b ρ a w hb1 hb2 hs
 obtain ⟨g1, l1⟩ := nil_row_le hsz hs.heap
 have hr' : (H ++ [O.row sz []])[r]? = some (.cells cs) := by rw [List.getElem?_append, if_pos (lt_of_get hr)]; exact hr
 obtain ⟨g2, l2⟩ := g1.seen (cs' := cs.set j (.os H.length sz 0 0)) hr' fun vs hv => hv.set hj fun v hv => by
  rw [drel_v hv]
  exact ⟨by simp [ctx], .inl ⟨rfl, none, rfl⟩⟩
 have le := l1.trans l2
 exact ⟨ρ, g2, hs.size, hs.defers, fun i => (hs.slots i).mono le, hs.glob.mono le.step, hs.le.trans le⟩
/-- A cell told as data, its rows frozen. -/
theorem wk_tell_cell {sl : Nat → T} {H : List O} {K : St → Prop} (r j : Nat) {cs : List C} {c : C} {d : D} (hr : (frz1 H c)[r]? = some (.cells cs)) (hj : cs[j]? = some c) (hd : toD H c = some d)
  (h : wk P G N0 ⟨sl, (frz1 H c).set r (.cells (cs.set j (.d d)))⟩ K) : wk P G N0 ⟨sl, H⟩ K := by
 refine wk_weak ?_ h
 intro n b ρ a w hb1 hb2 hs
 obtain ⟨g1, l1⟩ := frz1_rel hs.heap c
 obtain ⟨g2, l2⟩ := g1.seen (cs' := cs.set j (.d d)) hr fun vs hv => hv.set hj fun v hv =>
  toD_rel g1 (fun r sz off len sz' xs e hr => frz_hz H [c] c (by simp) r sz off len sz' xs e hr) hd hv
 have le := l1.trans l2
 exact ⟨ρ, g2, hs.size, hs.defers, fun i => (hs.slots i).mono le, hs.glob.mono le.step, hs.le.trans le⟩
/-- A pointer to cells that are data is told as data; the region is no more. -/
theorem ip_rel {ρ : Nat → Option Nat} {H : List O} {w : World} {r : Nat} {ds : List D} (hH : HRel P ρ H w) (hr : H[r]? = some (.cells (ds.map .d))) {v : Value} (hv : CRel P (ctx ρ H w) (.ptr r 0) v) :
  HRel P ρ (H.set r .dead) w ∧ (ctx ρ H w).le (ctx ρ (H.set r .dead) w) ∧ DRel (stab ρ (H.set r .dead) w) w (.ip ds) v := by
 have le : (ctx ρ H w).le (ctx ρ (H.set r .dead) w) := le_drop r .dead rfl
 refine ⟨hH.drop r .dead rfl trivial, le, ?_⟩
 obtain ⟨_, b, hb, rfl⟩ := hv
 have hb : ρ r = some b := hb
 obtain ⟨a, c, e, h1, h2, h3⟩ := hH.objs r _ hr
 have h1 : ρ r = some a := h1
 have h2 : w.heap[a]? = some (.cells c e (0, 0)) := h2
 rw [hb] at h1; injection h1 with h1; subst h1
 have hcell : ∀ (j : Nat) (d : D), ds[j]? = some d → c[j]? = some (c.getD j undef) := fun j d hj => by
  have : j < c.size := by rw [h3.1, List.length_map]; exact lt_of_get hj
  rw [Array.getD_eq_getD_getElem?, Array.getElem?_eq_getElem this]; rfl
 refine .ip ds b 0 (fun j => c.getD j undef) ⟨(hH.small r b hb).2, fun r' o1 g1 l1 e1 => ?_⟩ (hH.small r b hb).2 (fun j d hj => ?_) (fun j d hj => ?_)
 ·rcases getElem?_set' _ _ _ _ _ g1 with ⟨rfl, rfl⟩ | ⟨n1, g1'⟩
  ·cases l1
  ·exact n1 (hH.inj r' r o1 _ b g1' hr l1 rfl e1 hb)
 ·rw [Nat.zero_add]
  have : w.cell? ⟨b, j, none⟩ = c[j]? := by simp [World.cell?, h2]
  rw [this]; exact hcell j d hj
 ·exact DRel.mono (h3.2 j (.d d) _ (by rw [List.getElem?_map, hj]; rfl) (hcell j d hj)) le.step
theorem fweak_tell_cell {t : T} {H : List O} (r j : Nat) {cs : List C} {c : C} {d : D} (hr : (frz1 H c)[r]? = some (.cells cs)) (hj : cs[j]? = some c) (hd : toD H c = some d) (hN : N0 ≤ H.length) :
  FWeak P N0 t H t ((frz1 H c).set r (.cells (cs.set j (.d d)))) := by
 have hl : (frz1 H c).length = H.length := by unfold frz1; split <;> (try split) <;> simp
 refine ⟨by rw [List.length_set, hl]; exact hN, fun ρ w v hH ht => ?_⟩
 obtain ⟨g1, l1⟩ := frz1_rel hH c
 obtain ⟨g2, l2⟩ := g1.seen (cs' := cs.set j (.d d)) hr fun vs hv => hv.set hj fun v hv =>
  toD_rel g1 (fun r sz off len sz' xs e hr => frz_hz H [c] c (by simp) r sz off len sz' xs e hr) hd hv
 have le := l1.trans l2
 exact ⟨ρ, g2, ht.mono le, fun _ _ => rfl, le.step.sub⟩
theorem fweak_ip {H : List O} {r : Nat} {ds : List D} (hr : H[r]? = some (.cells (ds.map .d))) (hN : N0 ≤ H.length) : FWeak P N0 (.v (.c (.ptr r 0))) H (.v (.c (.d (.ip ds)))) (H.set r .dead) := by
 refine ⟨by rw [List.length_set]; exact hN, fun ρ w v hH ht => ?_⟩
 obtain ⟨g, le, hd⟩ := ip_rel hH hr ht
 exact ⟨ρ, g, hd, fun _ _ => rfl, le.step.sub⟩
/-- A pointer to a struct with one own row is told as data. -/
theorem fin_ip1 {H L : List O} {R : T → List O → Prop} {r q j sz : Nat} {cs : List C} {ds : List D} {rows : List (List D)} (hw : Wf H) (hge : H.length ≤ r) (hge2 : H.length ≤ q) (hr : (H ++ L)[r]? = some (.cells cs)) (hq : (H ++ L)[q]? = some (.row sz rows))
  (hj : cs[j]? = some (.os q sz 0 rows.length)) (hds : cs.set j (.d (.sl rows)) = ds.map .d) (h : R (.v (.c (.d (.ip ds)))) H) : Fin P H.length R (.v (.c (.ptr r 0))) (H ++ L) := by
 have hne : q ≠ r := fun e => by subst e; rw [hr] at hq; cases hq
 have hf : frz1 (H ++ L) (.os q sz 0 rows.length) = (H ++ L).set q (.frow sz rows) := by simp only [frz1, hq]
 have hr' : (frz1 (H ++ L) (.os q sz 0 rows.length))[r]? = some (.cells cs) := by rw [hf, List.getElem?_set_ne hne]; exact hr
 have hd : toD (H ++ L) (.os q sz 0 rows.length) = some (.sl rows) := by simp [toD, hq]
 refine fin_weak (fweak_tell_cell r j hr' hj hd (by simp)) ?_
 rw [hds, hf]
 have hlt : r < (H ++ L).length := lt_of_get hr
 refine fin_weak (fweak_ip (ds := ds) (by rw [List.getElem?_set, if_pos rfl, List.length_set, if_pos hlt]) (by simp)) ?_
 rw [List.set_append_right _ _ hge2, List.set_append_right _ _ hge, List.set_append_right _ _ hge]
 exact fin_drop hw h
end
end Go.Aw

namespace Go.Aw.Try
open Go Go.Proofs Go.Aw
set_option maxRecDepth 100000
set_option maxHeartbeats 4000000
/-! ### gathered -/
structure Member where
 name : ByteArray
 key : ByteArray
def Member.row (c : Member) : List D := [.v (.string c.name), .v (.string c.key)]
instance : Inhabited Member := ⟨⟨⟨#[]⟩, ⟨#[]⟩⟩⟩
theorem take_foldl {α β : Type} [Inhabited α] (f : β → α → β) (b : β) {l : List α} {i : Nat} (h : i < l.length) : (l.take (i + 1)).foldl f b = f ((l.take i).foldl f b) (nth l i) := by
 rw [take_nth h, List.foldl_append]; rfl
noncomputable def x558 (m : Int) : XE := mkX false (fun (p : Edit × List ByteArray) => [.agg p.1.row, .c (.sl (p.2.map srow))]) (fun p => p.1.who.size < 4294967281 ∧ p.2.length < 34359738368) (fun p => namesT (namesO p.1 p.2))
theorem kx558 (m : Int) : Contract Tryz.prog (GM m) 58 (x558 m) := mkX_data fun p h H => k558 m p.1 p.2 h.1 h.2 H
theorem xg558 (m : Int) (e : Edit) (mem : List ByteArray) (h1 : e.who.size < 4294967281) (h2 : mem.length < 34359738368) : (x558 m).g [.agg e.row, .c (.sl (mem.map srow))] = some (True, namesT (namesO e mem)) := mkX_g (fun a b h => by
 simp only [List.cons.injEq, PVo.c.injEq, PVo.agg.injEq, D.sl.injEq] at h
 exact Prod.ext (Edit.row_inj h.1) (srow_inj h.2.1)) (e, mem) ⟨h1, h2⟩
abbrev encSS (m : List (ByteArray × List ByteArray)) : List (Value × PV) := encM (fun s => .string s) (fun l => .c (.sl (l.map srow))) m
theorem mfind_SS (a : ByteArray) (m : List (ByteArray × List ByteArray)) : mfind (encSS m) (.string a) = (alook m a).map fun l => PVo.c (.sl (l.map srow)) := mfind_enc (ke := fun s => Value.string s) (fun a b => rfl) a m
theorem mput_SS (a : ByteArray) (n : List ByteArray) (m : List (ByteArray × List ByteArray)) : mput (encSS m) (.string a) (.c (.sl (n.map srow))) = encSS (aput m a n) := mput_enc (ke := fun s => Value.string s) (ve := fun l => PVo.c (D.sl (l.map srow))) (fun a b => rfl) a n m
structure Gs where
 vs : List Vote
 m : List (ByteArray × List ByteArray)
/-- Does an earlier vote of that author stand against the set? -/
def blockB : Option (List ByteArray) → List ByteArray → Bool
 | none, _ => false
 | some A, S => !partS A S || decide (S.length ≤ A.length)
noncomputable def gatS (mem : List ByteArray) (g : Gs) (e : Edit) : Gs := match namesO e mem with
 | none => g
 | some S => if blockB (alook g.m e.id.a) S = true then g else ⟨g.vs ++ [⟨e, S⟩], aput g.m e.id.a S⟩
noncomputable def gatF (mem : List ByteArray) (l : List Edit) : Gs := l.foldl (gatS mem) ⟨[], []⟩
noncomputable def gatC (l : List Edit) (all : List Member) : Cn := ⟨all.map Member.name, l, (gatF (all.map Member.name) (sortE l)).vs⟩
theorem sortE_mem {l : List Edit} {e : Edit} (h : e ∈ sortE l) : e ∈ l := ((ssort_flt cmpE_pre l).mem cmpE_pre).1 ((cmpt_sub _ _).subset h)
theorem gatF_len (mem : List ByteArray) (l : List Edit) : (gatF mem l).vs.length ≤ l.length := by
 have key : ∀ (l : List Edit) (g : Gs), (l.foldl (gatS mem) g).vs.length ≤ g.vs.length + l.length := by
  intro l
  induction l with
  | nil => intro g; simp
  | cons e l ih =>
   intro g
   have := ih (gatS mem g e)
   have h2 : (gatS mem g e).vs.length ≤ g.vs.length + 1 := by
    unfold gatS; split
    ·omega
    ·split <;> simp
   simp only [List.foldl_cons, List.length_cons]; omega
 have := key l ⟨[], []⟩
 simpa [gatF] using this
theorem namesO_some {e : Edit} {mem T : List ByteArray} (h : namesO e mem = some T) : T = parts e.who comma ∧ e.kind = 5 ∧ hasS mem e.id.a = true ∧ 2 * T.length < mem.length ∧ ∀ j, j < T.length → badN e.id.a mem T j = false := by
 unfold namesO at h
 split at h
 ·rename_i hc
  injection h with h; subst h
  exact ⟨rfl, hc.1, hc.2.1, hc.2.2.1, hc.2.2.2⟩
 ·cases h
theorem gat_small {M : List ByteArray} {l : List Edit} (h : ∀ e ∈ l, e.who.size < 4294967281) : ∀ a A, alook (gatF M l).m a = some A → A.length < 4294967283 := by
 have key : ∀ (l : List Edit) (g : Gs), (∀ e ∈ l, e.who.size < 4294967281) → (∀ a A, alook g.m a = some A → A.length < 4294967283) → ∀ a A, alook (l.foldl (gatS M) g).m a = some A → A.length < 4294967283 := by
  intro l
  induction l with
  | nil => intro g _ hg; exact hg
  | cons e l ih =>
   intro g hl hg
   refine ih (gatS M g e) (fun x hx => hl x (List.mem_cons_of_mem _ hx)) ?_
   intro a A hA
   unfold gatS at hA
   split at hA
   ·exact hg a A hA
   ·rename_i T hT
    split at hA
    ·exact hg a A hA
    ·rw [alook_aput] at hA
     split at hA
     ·injection hA with hA; subst hA
      have h1 := (namesO_some hT).1
      have h2 := parts_le e.who
      have h3 := hl e (List.mem_cons_self ..)
      rw [h1]; omega
     ·exact hg a A hA
 exact key l ⟨[], []⟩ h (fun a A hA => by cases hA)
theorem k534 (m : Int) (l : List Edit) (all : List Member) (h1 : l.length < 34359738368) (h2 : all.length < 34359738368) (h3 : ∀ e ∈ l, e.who.size < 4294967281) (H : List O) :
  ACalls Tryz.prog (GM m) 34 [.c (.d (.sl (l.map Edit.row))), .c (.d (.sl (all.map Member.row)))] H fun t H' => t = .v (.c (.d (.ip (gatC l all).cs))) ∧ H' = H := by
 have s1 : x20.sc = false := rfl
 have s2 : (x558 m).sc = false := rfl
 have s3 : x559.sc = true := rfl
 have g1 := xg20 l (by omega)
 obtain ⟨M, hM⟩ : ∃ M, M = all.map Member.name := ⟨_, rfl⟩
 have hMl : M.length = all.length := by rw [hM, List.length_map]
 refine acallsX (X := [(57, x20), (58, x558 m), (59, x559)]) ⟨kx20.gm, kx558 m, kx559.gm, trivial⟩ tab hmix Tryz.func34 c534 (by rfl) fun hw => ?_
 simp (implicitDefEqProofs := false) (disch := omega) [gz, ir534, b534, b534_0, b534_1, b534_2, wrap64, splice, fillC]
 refine loopE (fun k st => ∃ i, i ≤ all.length ∧ k = all.length - i ∧
   st = ⟨ofL [(0, .v (.c (.d (.sl (l.map Edit.row))))), (5, .v (.c (.ptr H.length 0))), (18, .v (.c (.d (.sl (all.map Member.row))))), (19, .int .i64 all.length), (20, .int .i64 i)],
    H ++ [.cells [.os (H.length + 1) 1 0 i, .d (.sl (l.map Edit.row)), .d (.v (.slice none 0 0))], .row 1 ((M.take i).map srow)]⟩)
  (fun st => AtS [(0, .v (.c (.d (.sl (l.map Edit.row))))), (5, .v (.c (.ptr H.length 0)))] (H ++ [.cells [.os (H.length + 1) 1 0 all.length, .d (.sl (l.map Edit.row)), .d (.v (.slice none 0 0))], .row 1 (M.map srow)]) st) ?_ ?_ ?_
 ·refine wk_nil_cell H.length 0 1 (by omega) (cs := [.d (.v (.slice none 0 0)), .d (.sl (l.map Edit.row)), .d (.v (.slice none 0 0))]) (by simp) rfl ?_
  have hf : (H ++ [O.cells [.d (.v (.slice none 0 0)), .d (.sl (l.map Edit.row)), .d (.v (.slice none 0 0))]] ++ [O.row 1 []]).set H.length (O.cells ([C.d (.v (.slice none 0 0)), .d (.sl (l.map Edit.row)), .d (.v (.slice none 0 0))].set 0 (.os (H ++ [O.cells [.d (.v (.slice none 0 0)), .d (.sl (l.map Edit.row)), .d (.v (.slice none 0 0))]]).length 1 0 0))) = H ++ [.cells [.os (H.length + 1) 1 0 0, .d (.sl (l.map Edit.row)), .d (.v (.slice none 0 0))], .row 1 []] := by simp
  rw [hf]
  refine wk_pre [0, 1] [0, 5, 18, 19, 20] hw rfl ⟨_, 0, by omega, rfl, ?_⟩
  simp [phiP, phi, O.ren]
 ·rintro J L hJ hL k st ⟨i, hi, rfl, rfl⟩
  by_cases hlt : i < all.length
  ·obtain ⟨x, hx⟩ : ∃ x, nth all i = x := ⟨_, rfl⟩
   have hme : x.row = [.v (.string x.name), .v (.string x.key)] := rfl
   simp (implicitDefEqProofs := false) (disch := omega) [gz, hlt, wrap64, nth_map, hx, hme, splice, fillC, toPVs, frzVs, osVs, toPV, Nat.add_assoc]
   repeat' (with_reducible apply And.intro)
   all_goals first | omega | kernel_rfl | exact fun _ _ => rfl | skip
   have hst : M.take (i + 1) = M.take i ++ [x.name] := by
    rw [take_nth (by omega), hM, nth_map _ hlt, hx]
   subst hJ
   refine wk_pre [0, 4] [0, 5, 18, 19, 20] hw rfl ⟨all.length - (i + 1), by omega, i + 1, by omega, rfl, ?_⟩
   rw [hst]; simp [phiP, phi, O.ren, srow, show ¬ (H.length + 4 < H.length) from by omega]
  ·have : i = all.length := by omega
   subst this
   rw [List.take_of_length_le (by omega)]
   simp (implicitDefEqProofs := false) (disch := omega) [gz, hlt]
   subst hL
   exact at_mk (by simp) rfl
 ·rintro _ ⟨sl, rfl⟩
  obtain ⟨S, hS⟩ : ∃ S, S = sortE l := ⟨_, rfl⟩
  have hSl : S.length ≤ l.length := by rw [hS]; exact sortE_len l
  have hSm : ∀ e ∈ S, e.who.size < 4294967281 := fun e he => h3 e (by rw [hS] at he; exact sortE_mem he)
  have hc : gatC l all = ⟨M, l, (gatF M S).vs⟩ := by unfold gatC; rw [← hM, ← hS]
  rw [← hS] at g1
  rw [hc]
  simp (implicitDefEqProofs := false) (disch := omega) [gz, b534_3, b534_4, s1, g1, wrap64, toPVs, frzVs, osVs, toPV]
  refine loopE (fun k st => ∃ (i : Nat) (g : Gs), i ≤ S.length ∧ k = S.length - i ∧ g = gatF M (S.take i) ∧
    st = ⟨ofL [(5, .v (.c (.ptr H.length 0))), (8, .v (.c (.mp (H.length + 1)))), (38, .v (.c (.d (.sl (S.map Edit.row))))), (39, .int .i64 S.length), (40, .int .i64 i)],
     H ++ [.cells [.d (.sl (M.map srow)), .d (.sl (l.map Edit.row)), .os (H.length + 2) 19 0 g.vs.length], .map ktS (encSS g.m), .row 19 (g.vs.map Vote.row)]⟩)
   (fun st => ∃ g, g = gatF M S ∧ AtS [(5, .v (.c (.ptr H.length 0)))] (H ++ [.cells [.d (.sl (M.map srow)), .d (.sl (l.map Edit.row)), .os (H.length + 2) 19 0 g.vs.length], .map ktS (encSS g.m), .row 19 (g.vs.map Vote.row)]) st) ?_ ?_ ?_
  ·refine wk_tell_cell H.length 0 (cs := [.os (H.length + 1) 1 0 all.length, .d (.sl (l.map Edit.row)), .d (.v (.slice none 0 0))]) (c := .os (H.length + 1) 1 0 all.length) (d := .sl (M.map srow)) (by simp [frz1]) rfl (by simp [toD, hMl, take_of_len]) ?_
   have hf : (frz1 (H ++ [O.cells [.os (H.length + 1) 1 0 all.length, .d (.sl (l.map Edit.row)), .d (.v (.slice none 0 0))], .row 1 (M.map srow), .map ktS []]) (C.os (H.length + 1) 1 0 all.length)).set H.length (O.cells ([C.os (H.length + 1) 1 0 all.length, .d (.sl (l.map Edit.row)), .d (.v (.slice none 0 0))].set 0 (C.d (D.sl (M.map srow))))) =
     H ++ [O.cells [.d (.sl (M.map srow)), .d (.sl (l.map Edit.row)), .d (.v (.slice none 0 0))], .frow 1 (M.map srow), .map ktS []] := by simp [frz1]
   rw [hf]
   refine wk_nil_cell H.length 2 19 (by omega) (cs := [.d (.sl (M.map srow)), .d (.sl (l.map Edit.row)), .d (.v (.slice none 0 0))]) (by simp) rfl ?_
   have hf2 : (H ++ [O.cells [.d (.sl (M.map srow)), .d (.sl (l.map Edit.row)), .d (.v (.slice none 0 0))], .frow 1 (M.map srow), .map ktS []] ++ [O.row 19 []]).set H.length (O.cells ([C.d (.sl (M.map srow)), .d (.sl (l.map Edit.row)), .d (.v (.slice none 0 0))].set 2 (.os (H ++ [O.cells [.d (.sl (M.map srow)), .d (.sl (l.map Edit.row)), .d (.v (.slice none 0 0))], .frow 1 (M.map srow), .map ktS []]).length 19 0 0))) =
     H ++ [O.cells [.d (.sl (M.map srow)), .d (.sl (l.map Edit.row)), .os (H.length + 3) 19 0 0], .frow 1 (M.map srow), .map ktS [], .row 19 []] := by simp
   rw [hf2]
   refine wk_pre [0, 2, 3] [5, 8, 38, 39, 40] hw rfl ⟨_, 0, ⟨[], []⟩, by omega, rfl, rfl, ?_⟩
   simp [phiP, phi, O.ren, encM, show ¬ (H.length + 2 < H.length) from by omega, show ¬ (H.length + 3 < H.length) from by omega]
  ·rintro J L hJ hL k st ⟨i, g, hi, rfl, hg, rfl⟩
   by_cases hlt : i < S.length
   ·obtain ⟨e, he⟩ : ∃ e, nth S i = e := ⟨_, rfl⟩
    have hem : e ∈ S := by rw [← he]; exact nth_mem hlt
    have hst : gatF M (S.take (i + 1)) = gatS M g e := by rw [gatF, take_foldl _ _ hlt, he, hg]; rfl
    have g2 := xg558 m e M (hSm e hem) (by omega)
    have hsm := gat_small (M := M) (l := S.take i) (fun x hx => hSm x (List.mem_of_mem_take hx))
    rw [← hg] at hsm
    have hgl : g.vs.length ≤ i := by rw [hg]; have := gatF_len M (S.take i); simp at this; omega
    have hf := mfind_SS e.id.a g.m
    have hee := Edit.row_eq e
    obtain ⟨N, hN⟩ : ∃ N, N = namesO e M := ⟨_, rfl⟩
    unfold gatS at hst
    rw [← hN] at g2 hst
    rw [hee] at g2
    cases N with
    | none =>
     have hT : namesT none = .tup [.c (.d (.v (.slice none 0 0))), .c (.d (.v (.bool false)))] := rfl
     rw [hT] at g2
     cases ha : alook g.m e.id.a with
     | none =>
      rw [ha, Option.map_none] at hf
      simp (implicitDefEqProofs := false) (disch := omega) [gz, hlt, wrap64, nth_map, he, hee, s2, g2, hf, splice, fillC, toPVs, frzVs, osVs, toPV, Nat.add_assoc, conf, sksOk, skOk, PV.toV]
      repeat' (with_reducible apply And.intro)
      all_goals first | omega | kernel_rfl | exact fun _ _ => rfl | skip
      subst hJ
      refine wk_pre [0, 1, 2] [5, 8, 38, 39, 40] hw rfl ⟨S.length - (i + 1), by omega, i + 1, g, by omega, rfl, by rw [hst], ?_⟩
      simp [phiP, phi, O.ren, show ¬ (H.length + 1 < H.length) from by omega, show ¬ (H.length + 2 < H.length) from by omega]
     | some A =>
      rw [ha, Option.map_some] at hf
      simp (implicitDefEqProofs := false) (disch := omega) [gz, hlt, wrap64, nth_map, he, hee, s2, g2, hf, splice, fillC, toPVs, frzVs, osVs, toPV, Nat.add_assoc, conf, sksOk, skOk, PV.toV]
      repeat' (with_reducible apply And.intro)
      all_goals first | omega | kernel_rfl | exact fun _ _ => rfl | skip
      subst hJ
      refine wk_pre [0, 1, 2] [5, 8, 38, 39, 40] hw rfl ⟨S.length - (i + 1), by omega, i + 1, g, by omega, rfl, by rw [hst], ?_⟩
      simp [phiP, phi, O.ren, show ¬ (H.length + 1 < H.length) from by omega, show ¬ (H.length + 2 < H.length) from by omega]
    | some T =>
     have hT : namesT (some T) = .tup [.c (.d (.sl (T.map srow))), .c (.d (.v (.bool true)))] := rfl
     have hTl : T.length < 4294967283 := by
      rw [(namesO_some hN.symm).1]
      have h2 := parts_le e.who
      have h3 := hSm e hem
      omega
     rw [hT] at g2
     cases ha : alook g.m e.id.a with
     | none =>
      rw [ha, Option.map_none] at hf
      rw [ha] at hst
      simp (implicitDefEqProofs := false) (disch := omega) [gz, hlt, wrap64, nth_map, he, hee, s2, g2, hf, splice, fillC, toPVs, frzVs, osVs, toPV, Nat.add_assoc, conf, sksOk, skOk, PV.toV, toDs, mput_SS]
      repeat' (with_reducible apply And.intro)
      all_goals first | omega | kernel_rfl | exact fun _ _ => rfl | skip
      subst hJ
      refine wk_pre [0, 1, 5] [5, 8, 38, 39, 40] hw rfl ⟨S.length - (i + 1), by omega, i + 1, ⟨g.vs ++ [⟨e, T⟩], aput g.m e.id.a T⟩, by omega, rfl, by rw [hst]; simp [blockB], ?_⟩
      simp [phiP, phi, O.ren, Vote.row, Edit.row, show ¬ (H.length + 1 < H.length) from by omega, show ¬ (H.length + 2 < H.length) from by omega, show ¬ (H.length + 5 < H.length) from by omega]
     | some A =>
      rw [ha, Option.map_some] at hf
      rw [ha] at hst
      have hAl := hsm _ _ ha
      have g3 := xg559 A T (by omega) (by omega)
      obtain ⟨q, hq⟩ : ∃ q, q = partS A T := ⟨_, rfl⟩
      have hbl : blockB (some A) T = (!q || decide (T.length ≤ A.length)) := by rw [hq]; rfl
      rw [← hq] at g3
      cases q
      ·simp (implicitDefEqProofs := false) (disch := omega) [gz, hlt, wrap64, nth_map, he, hee, s2, g2, hf, splice, fillC, toPVs, frzVs, osVs, toPV, Nat.add_assoc, conf, sksOk, skOk, PV.toV, s3, g3]
       repeat' (with_reducible apply And.intro)
       all_goals first | omega | kernel_rfl | exact fun _ _ => rfl | skip
       subst hJ
       refine wk_pre [0, 1, 2] [5, 8, 38, 39, 40] hw rfl ⟨S.length - (i + 1), by omega, i + 1, g, by omega, rfl, by rw [hst]; simp [hbl], ?_⟩
       simp [phiP, phi, O.ren, show ¬ (H.length + 1 < H.length) from by omega, show ¬ (H.length + 2 < H.length) from by omega, show ¬ (H.length + 5 < H.length) from by omega]
      ·by_cases c : T.length ≤ A.length
       ·simp (implicitDefEqProofs := false) (disch := omega) [gz, hlt, wrap64, nth_map, he, hee, s2, g2, hf, splice, fillC, toPVs, frzVs, osVs, toPV, Nat.add_assoc, conf, sksOk, skOk, PV.toV, s3, g3, c]
        repeat' (with_reducible apply And.intro)
        all_goals first | omega | kernel_rfl | exact fun _ _ => rfl | skip
        subst hJ
        refine wk_pre [0, 1, 2] [5, 8, 38, 39, 40] hw rfl ⟨S.length - (i + 1), by omega, i + 1, g, by omega, rfl, by rw [hst]; simp [hbl, c], ?_⟩
        simp [phiP, phi, O.ren, show ¬ (H.length + 1 < H.length) from by omega, show ¬ (H.length + 2 < H.length) from by omega, show ¬ (H.length + 5 < H.length) from by omega]
       ·simp (implicitDefEqProofs := false) (disch := omega) [gz, hlt, wrap64, nth_map, he, hee, s2, g2, hf, splice, fillC, toPVs, frzVs, osVs, toPV, Nat.add_assoc, conf, sksOk, skOk, PV.toV, s3, g3, c, toDs, mput_SS]
        repeat' (with_reducible apply And.intro)
        all_goals first | omega | kernel_rfl | exact fun _ _ => rfl | skip
        subst hJ
        refine wk_pre [0, 1, 5] [5, 8, 38, 39, 40] hw rfl ⟨S.length - (i + 1), by omega, i + 1, ⟨g.vs ++ [⟨e, T⟩], aput g.m e.id.a T⟩, by omega, rfl, by rw [hst]; simp [hbl, c], ?_⟩
        simp [phiP, phi, O.ren, Vote.row, Edit.row, show ¬ (H.length + 1 < H.length) from by omega, show ¬ (H.length + 2 < H.length) from by omega, show ¬ (H.length + 5 < H.length) from by omega]
   ·have : i = S.length := by omega
    subst this
    rw [List.take_length] at hg
    simp (implicitDefEqProofs := false) (disch := omega) [gz, hlt]
    subst hL
    exact ⟨g, hg, at_mk (by simp) rfl⟩
  ·rintro _ ⟨g, rfl, sl, rfl⟩
   simp (implicitDefEqProofs := false) (disch := omega) [gz, b534_5, b534_6, wrap64]
   obtain ⟨V, hV⟩ : ∃ V, V = gatF M S := ⟨_, rfl⟩
   rw [← hV]
   exact fin_ip1 (r := H.length) (q := H.length + 2) (j := 2) (sz := 19) (rows := V.vs.map Vote.row) (cs := [.d (.sl (M.map srow)), .d (.sl (l.map Edit.row)), .os (H.length + 2) 19 0 V.vs.length]) (ds := [.sl (M.map srow), .sl (l.map Edit.row), .sl (V.vs.map Vote.row)]) hw (by omega) (by omega) (by simp) (by simp) (by simp) rfl ⟨rfl, rfl⟩
end Go.Aw.Try

namespace Go.Aw.Try
open Go Go.Proofs Go.Aw
set_option maxRecDepth 100000
set_option maxHeartbeats 4000000
/-! ### Cutoffs -/
noncomputable def x534 (m : Int) : XE := mkX false (fun (p : List Edit × List Member) => [.c (.sl (p.1.map Edit.row)), .c (.sl (p.2.map Member.row))]) (fun p => p.1.length < 34359738368 ∧ p.2.length < 34359738368 ∧ ∀ e ∈ p.1, e.who.size < 4294967281) (fun p => .v (.c (.d (.ip (gatC p.1 p.2).cs))))
theorem kx534 (m : Int) : Contract Tryz.prog (GM m) 34 (x534 m) := mkX_data fun p h H => k534 m p.1 p.2 h.1 h.2.1 h.2.2 H
theorem Member.row_inj {a b : Member} (h : a.row = b.row) : a = b := by
 cases a; cases b
 simp [Member.row] at h
 simp [h]
theorem mrows_inj {l l' : List Member} (h : l.map Member.row = l'.map Member.row) : l = l' := map_inj (fun a b => Member.row_inj) h
theorem xg534 (m : Int) (l : List Edit) (all : List Member) (h1 : l.length < 34359738368) (h2 : all.length < 34359738368) (h3 : ∀ e ∈ l, e.who.size < 4294967281) : (x534 m).g [.c (.sl (l.map Edit.row)), .c (.sl (all.map Member.row))] = some (True, .v (.c (.d (.ip (gatC l all).cs)))) := mkX_g (fun a b h => by
 simp only [List.cons.injEq, PVo.c.injEq, D.sl.injEq] at h
 exact Prod.ext (rows_inj h.1) (mrows_inj h.2.1)) (l, all) ⟨h1, h2, h3⟩
/-- The cutoffs of one evicted member. -/
def cutOf (c : Cn) (sets : List (List ByteArray)) (fin : Bool) (s : ByteArray) : List Cutoff := ⟨s, uptoE c.vs sets s (sets.length - 1), 22⟩ :: if fin = true then [] else [⟨s, sureN c.vs s, 19⟩]
def cutsC (c : Cn) (sets : List (List ByteArray)) : List Cutoff := if sets.length = 0 then [] else (nth sets (sets.length - 1)).flatMap (cutOf c sets (finalB c (nth sets (sets.length - 1))))
noncomputable def cutsE (l : List Edit) (all : List Member) : List Cutoff := cutsC (gatC l all) (outL (gatC l all).mem (gatC l all).vs)
structure okC (l : List Edit) (all : List Member) : Prop where
 len : l.length < 68719476
 mlen : all.length < 34359738368
 who : ∀ e ∈ l, e.who.size < 4294967281
 good : Good l
 out : (outU (gatC l all).mem (gatC l all).vs (gatC l all).vs).length ≤ 12
/-- Every vote counted is one of the edits, with the set that it names. -/
theorem gatF_mem {M : List ByteArray} {l : List Edit} {v : Vote} (h : v ∈ (gatF M l).vs) : v.e ∈ l ∧ namesO v.e M = some v.set := by
 have key : ∀ (l : List Edit) (g : Gs) (v : Vote), v ∈ (l.foldl (gatS M) g).vs → v ∈ g.vs ∨ (v.e ∈ l ∧ namesO v.e M = some v.set) := by
  intro l
  induction l with
  | nil => intro g v h; exact .inl h
  | cons e l ih =>
   intro g v h
   rcases ih (gatS M g e) v h with h1 | ⟨h1, h2⟩
   ·unfold gatS at h1
    split at h1
    ·exact .inl h1
    ·rename_i S hS
     split at h1
     ·exact .inl h1
     ·rcases List.mem_append.1 h1 with h1 | h1
      ·exact .inl h1
      ·simp only [List.mem_singleton] at h1; subst h1
       exact .inr ⟨List.mem_cons_self .., hS⟩
   ·exact .inr ⟨List.mem_cons_of_mem _ h1, h2⟩
 rcases key l ⟨[], []⟩ v h with h | h
 ·cases h
 ·exact h
theorem gatC_mem {l : List Edit} {all : List Member} {v : Vote} (h : v ∈ (gatC l all).vs) : v.e ∈ l ∧ namesO v.e (all.map Member.name) = some v.set :=
 ⟨sortE_mem (gatF_mem h).1, (gatF_mem h).2⟩
theorem gatC_len (l : List Edit) (all : List Member) : (gatC l all).vs.length ≤ l.length := Nat.le_trans (gatF_len _ _) (sortE_len l)
theorem outU_mem {mem : List ByteArray} {vs l : List Vote} {s : List ByteArray} (h : s ∈ outU mem vs l) : ∃ v ∈ l, v.set = s ∧ decB mem vs s = true := by
 have key : ∀ (l : List Vote) (a : List (List ByteArray)), s ∈ l.foldl (outStep mem vs) a → s ∈ a ∨ ∃ v ∈ l, v.set = s ∧ decB mem vs s = true := by
  intro l
  induction l with
  | nil => intro a h; exact .inl h
  | cons v l ih =>
   intro a h
   rcases ih _ h with h1 | ⟨u, hu, h2⟩
   ·unfold outStep at h1
    split at h1
    ·rename_i hc
     rcases List.mem_append.1 h1 with h1 | h1
     ·exact .inl h1
     ·simp only [List.mem_singleton] at h1
      simp at hc
      exact .inr ⟨v, List.mem_cons_self .., h1.symm, by rw [h1]; exact hc.1⟩
    ·exact .inl h1
   ·exact .inr ⟨u, List.mem_cons_of_mem _ hu, h2⟩
 rcases key l [] h with h | h
 ·cases h
 ·exact h
def cmpZ (a b : List ByteArray) : Int := (a.length : Int) - b.length
theorem cmpZ_pre : Pre cmpZ := ⟨fun a b => by simp only [cmpZ]; omega, fun a b c => by simp only [cmpZ]; omega⟩
theorem nth_q {α : Type} [Inhabited α] {Q : α → Prop} (hd : Q default) {l : List α} (h : ∀ x ∈ l, Q x) (i : Nat) : Q (nth l i) := by
 by_cases hi : i < l.length
 ·exact h _ (nth_mem hi)
 ·simp only [nth, List.getD_eq_getElem?_getD]
  rw [List.getElem?_eq_none (by omega)]; exact hd
theorem insP_congr {α : Type} [Inhabited α] {cmp cmp' : α → α → Int} {Q : α → Prop} (hd : Q default) (hc : ∀ a b, Q a → Q b → cmp a b = cmp' a b) {es : List α} (h : ∀ x ∈ es, Q x) (a : Nat) {v : α} (hv : Q v) : ∀ i, insP cmp es a v i = insP cmp' es a v i
 | 0 => rfl
 | j + 1 => by
  simp only [insP]
  rw [hc _ _ hv (nth_q hd h j), insP_congr hd hc h a hv j]
theorem insN_congr {α : Type} [Inhabited α] {cmp cmp' : α → α → Int} {Q : α → Prop} (hd : Q default) (hc : ∀ a b, Q a → Q b → cmp a b = cmp' a b) (a : Nat) : ∀ (n i : Nat) (es : List α), (∀ x ∈ es, Q x) → insN cmp a n i es = insN cmp' a n i es
 | 0, _, _, _ => rfl
 | n + 1, i, es, h => by
  simp only [insN]
  rw [insP_congr hd hc h a (nth_q hd h i) i]
  exact insN_congr hd hc a n (i + 1) _ (fun x hx => by
   unfold mv at hx
   rcases List.mem_append.1 hx with hx | hx
   ·exact h x (List.mem_of_mem_take hx)
   ·rcases List.mem_cons.1 hx with rfl | hx
    ·exact nth_q hd h i
    ·rcases List.mem_append.1 hx with hx | hx
     ·exact h x (List.mem_of_mem_drop (List.mem_of_mem_take hx))
     ·exact h x (List.mem_of_mem_drop hx))
def SmallS (s : List ByteArray) : Prop := s.length < 4611686018427387904
theorem sortL_spec {es : List (List ByteArray)} (h : ∀ s ∈ es, SmallS s) : Srt cmpZ (sortL es) ∧ Flt cmpZ (sortL es) es ∧ (sortL es).length = es.length := by
 have e : sortL es = insN cmpZ 0 (es.length - 1) 1 es := insN_congr (Q := SmallS) (by show (0 : Nat) < _; omega) (fun a b ha hb => by
  unfold cmpL cmpZ; unfold SmallS at ha hb
  exact wrap64 (by omega) (by omega)) 0 _ _ es h
 obtain ⟨w, h1, h2, h3, h4⟩ := ins_sorts cmpZ_pre (P := []) (u := es) (S := [])
 have : sortL es = w := by rw [e]; simpa using h1
 rw [this]; exact ⟨h2, h3, h4⟩
theorem outU_small {mem : List ByteArray} {vs : List Vote} (h : ∀ v ∈ vs, SmallS v.set) : ∀ s ∈ outU mem vs vs, SmallS s := fun s hs => by
 obtain ⟨v, hv, rfl, _⟩ := outU_mem hs; exact h v hv
theorem outL_mem {mem : List ByteArray} {vs : List Vote} (h : ∀ v ∈ vs, SmallS v.set) {s : List ByteArray} : s ∈ outL mem vs ↔ s ∈ outU mem vs vs := (sortL_spec (outU_small h)).2.1.mem cmpZ_pre
theorem outL_len {mem : List ByteArray} {vs : List Vote} (h : ∀ v ∈ vs, SmallS v.set) : (outL mem vs).length = (outU mem vs vs).length := (sortL_spec (outU_small h)).2.2
theorem k514o (m : Int) (l : List Edit) (all : List Member) (h : okC l all) (H : List O) :
  ACalls Tryz.prog (GM m) 14 [.c (.d (.sl (l.map Edit.row))), .c (.d (.sl (all.map Member.row)))] H (Own H 3 ((cutsE l all).map Cutoff.row)) := by
 have s1 : (x534 m).sc = false := rfl
 have s2 : x536.sc = true := rfl
 have s4 : x538.sc = true := rfl
 have hlen := h.len
 have g1 := xg534 m l all (by omega) h.mlen h.who
 obtain ⟨c, hc⟩ : ∃ c, c = gatC l all := ⟨_, rfl⟩
 have hcl : c.l = l := by rw [hc]; rfl
 have hcm : c.mem.length < 34359738368 := by rw [hc]; show (all.map Member.name).length < _; rw [List.length_map]; exact h.mlen
 have hcv : c.vs.length < 34359738368 := by rw [hc]; have := gatC_len l all; omega
 have hset : ∀ v ∈ c.vs, v.set.length < 4611686018427387904 := fun v hv => by
  rw [hc] at hv
  obtain ⟨q1, q2⟩ := gatC_mem hv
  rw [(namesO_some q2).1]
  have := parts_le v.e.who
  have := h.who v.e q1
  omega
 have hgv : GoodV c.vs := fun v hv => by
  rw [hc] at hv
  exact h.good v.e (gatC_mem hv).1
 have hgl : Good c.l := by rw [hcl]; exact h.good
 have hout : (outU c.mem c.vs c.vs).length ≤ 12 := by rw [hc]; exact h.out
 have hE : cutsE l all = cutsC c (outL c.mem c.vs) := by rw [hc]; rfl
 obtain ⟨sets, hsets⟩ : ∃ s, s = outL c.mem c.vs := ⟨_, rfl⟩
 have hsl : sets.length = (outU c.mem c.vs c.vs).length := by rw [hsets]; exact outL_len hset
 have hsm : ∀ s ∈ sets, s.length < 4611686018427387904 := fun s hs => by
  rw [hsets] at hs
  obtain ⟨v, hv, rfl, _⟩ := outU_mem ((outL_mem hset).1 hs)
  exact hset v hv
 obtain ⟨X0, hX0⟩ : ∃ X0, X0 = x537 sets.length := ⟨_, rfl⟩
 have hkX : Contract Tryz.prog (GM m) 37 X0 := by rw [hX0]; exact (kx537 _).gm
 have s3 : X0.sc = true := by rw [hX0]; rfl
 rw [← hc] at g1
 rw [hE, ← hsets]
 refine acallsX (X := [(34, x534 m), (36, x536), (37, X0), (38, x538)]) ⟨kx534 m, kx536.gm, hkX, kx538.gm, trivial⟩ tab hmix Tryz.func14 c514 (by rfl) fun hw => ?_
 simp (implicitDefEqProofs := false) (disch := omega) [gz, ir514, b514, b514_0, b514_1, b514_2, s1, g1, wrap64, toPVs, frzVs, osVs, toPV]
 have hk := (k535 c hcv hcm hset hout H).gm (G := GM m)
 rw [← hsets] at hk
 refine hk.mono ?_
 rintro t H' ⟨rfl, rfl⟩
 rw [← hsl]
 by_cases h0 : sets.length = 0
 ·have hce : cutsC c sets = [] := by unfold cutsC; rw [if_pos h0]
  rw [hce]
  simp (implicitDefEqProofs := false) (disch := omega) [gz, callK, b514_3, b514_4, b514_5, b514_6, b514_7, b514_8, b514_9, h0, wrap64]
  exact fin_own_nil hw (by omega)
 ·obtain ⟨n, hn⟩ : ∃ n, sets.length = n + 1 := ⟨sets.length - 1, by omega⟩
  have hn1 : n < sets.length := by omega
  obtain ⟨set, hst⟩ : ∃ s, nth sets n = s := ⟨_, rfl⟩
  have hstm : set ∈ sets := by rw [← hst]; exact nth_mem hn1
  have hstl := hsm set hstm
  have g2 := xg536 c set hcv hcm hstl hgl (by rw [hcl]; omega)
  obtain ⟨fin, hfin⟩ : ∃ b, b = finalB c set := ⟨_, rfl⟩
  rw [← hfin] at g2
  have hce : cutsC c sets = set.flatMap (cutOf c sets fin) := by
   unfold cutsC; rw [if_neg h0, show sets.length - 1 = n from by omega, hst, hfin]
  rw [hce]
  have hse : setrow set = [D.sl (set.map srow)] := rfl
  simp (implicitDefEqProofs := false) (disch := omega) [gz, callK, b514_3, b514_4, b514_5, b514_6, b514_7, b514_8, b514_9, hn, hn1, hst, hse, nth_map, s2, g2, wrap64]
  refine ⟨fun h => absurd h (by omega), fun _ => ⟨by omega, ?_⟩⟩
  have hstb : set.length < 4294967283 := by
   obtain ⟨v, hv, hv2, _⟩ := outU_mem ((outL_mem hset).1 (by rw [← hsets]; exact hstm))
   rw [hc] at hv
   obtain ⟨q1, q2⟩ := gatC_mem hv
   rw [← hv2, (namesO_some q2).1]
   have := parts_le v.e.who
   have := h.who v.e q1
   omega
  have hDl : ∀ x : List ByteArray, (x.flatMap (cutOf c sets fin)).length ≤ 2 * x.length := fun x => by
   induction x with
   | nil => simp
   | cons a x ih =>
    have : (cutOf c sets fin a).length ≤ 2 := by unfold cutOf; cases fin <;> simp
    simp only [List.flatMap_cons, List.length_append, List.length_cons]; omega
  have hu : okU c sets := ⟨hcv, hgv, by omega, hsm⟩
  refine loopE (fun k st => ∃ i, i ≤ set.length ∧ k = set.length - i ∧
    st = ⟨ofL [(5, .v (.c (.d (.ip c.cs)))), (6, .v (.c (.d (.sl (sets.map setrow))))), (7, .int .i64 n), (8, .bool fin), (9, .v (.c (.os H.length 3 0 ((set.take i).flatMap (cutOf c sets fin)).length))), (32, .v (.c (.d (.sl (set.map srow))))), (33, .int .i64 set.length), (34, .int .i64 i)],
     H ++ [.row 3 (((set.take i).flatMap (cutOf c sets fin)).map Cutoff.row)]⟩)
   (fun st => AtS [(9, .v (.c (.os H.length 3 0 (set.flatMap (cutOf c sets fin)).length)))] (H ++ [.row 3 ((set.flatMap (cutOf c sets fin)).map Cutoff.row)]) st) ?_ ?_ ?_
  ·refine wk_tell 6 (u := .c (.os H.length 1 0 (n + 1))) (p := .c (.sl (sets.map setrow))) (by simp) (by simp [toPV, toD, ← hn, take_of_len]) ?_
   have hf : frz (H ++ [.row 1 (sets.map setrow)]) (V.c (.os H.length 1 0 (n + 1))).cells = H ++ [.frow 1 (sets.map setrow)] := by simp [frz, frz1, V.cells]
   rw [hf]
   refine wk_nil_os 9 3 (by omega) (by simp) ?_
   rw [List.append_assoc]
   refine wk_pre [1] [5, 6, 7, 8, 9, 32, 33, 34] hw rfl ⟨_, 0, by omega, rfl, ?_⟩
   simp [phiP, phi, O.ren, PV.toV, show ¬ (H.length + 1 < H.length) from by omega]
  ·rintro J L hJ hL k st ⟨i, hi, rfl, rfl⟩
   by_cases hlt : i < set.length
   ·obtain ⟨s, hs⟩ : ∃ s, nth set i = s := ⟨_, rfl⟩
    have g3 := xg537 sets.length c sets n s hu hn1 (by omega)
    rw [← hX0] at g3
    have g4 := xg538 c s hcv hgv hset
    have hD : (set.take (i + 1)).flatMap (cutOf c sets fin) = (set.take i).flatMap (cutOf c sets fin) ++ cutOf c sets fin s := by
     rw [take_nth hlt, List.flatMap_append, hs]; simp
    obtain ⟨D0, hD0⟩ : ∃ D0, D0 = (set.take i).flatMap (cutOf c sets fin) := ⟨_, rfl⟩
    have hD0l : D0.length ≤ 2 * i := by rw [hD0]; have := hDl (set.take i); simp at this; simp; omega
    unfold cutOf at hD
    rw [show sets.length - 1 = n from by omega] at hD
    rw [← hD0] at ⊢
    have hD2 : (set.take i).flatMap (fun s => (⟨s, uptoE c.vs sets s n, 22⟩ : Cutoff) :: if fin = true then [] else [⟨s, sureN c.vs s, 19⟩]) = D0 := by
     rw [hD0]; unfold cutOf; rw [show sets.length - 1 = n from by omega]
    rw [hD2] at hD
    have hD1 : (set.take (i + 1)).flatMap (cutOf c sets fin) = (set.take (i + 1)).flatMap (fun s => (⟨s, uptoE c.vs sets s n, 22⟩ : Cutoff) :: if fin = true then [] else [⟨s, sureN c.vs s, 19⟩]) := by
     unfold cutOf; rw [show sets.length - 1 = n from by omega]
    obtain ⟨a1, ha1⟩ : ∃ a, a = uptoE c.vs sets s n := ⟨_, rfl⟩
    obtain ⟨a2, ha2⟩ : ∃ a, a = sureN c.vs s := ⟨_, rfl⟩
    rw [← ha1] at g3 hD
    rw [← ha2] at g4 hD
    have tS : (D0.map Cutoff.row).take D0.length = D0.map Cutoff.row := List.take_of_length_le (by simp)
    cases fin
    ·simp (implicitDefEqProofs := false) (disch := omega) [gz, hlt, wrap64, nth_map, hs, srow, splice, fillC, s3, s4, g3, g4, tS, toPVs, frzVs, osVs, toPV, toDs, Nat.add_assoc]
     repeat' (with_reducible apply And.intro)
     all_goals first | omega | kernel_rfl | exact fun _ _ => rfl | skip
     subst hJ
     refine wk_pre [4] [5, 6, 7, 8, 9, 32, 33, 34] hw rfl ⟨set.length - (i + 1), by omega, i + 1, by omega, rfl, ?_⟩
     rw [hD1, hD]; simp [phiP, phi, O.ren, Cutoff.row, show ¬ (H.length + 4 < H.length) from by omega]
    ·simp (implicitDefEqProofs := false) (disch := omega) [gz, hlt, wrap64, nth_map, hs, srow, splice, fillC, s3, s4, g3, g4, tS, toPVs, frzVs, osVs, toPV, toDs, Nat.add_assoc]
     repeat' (with_reducible apply And.intro)
     all_goals first | omega | kernel_rfl | exact fun _ _ => rfl | skip
     subst hJ
     refine wk_pre [2] [5, 6, 7, 8, 9, 32, 33, 34] hw rfl ⟨set.length - (i + 1), by omega, i + 1, by omega, rfl, ?_⟩
     rw [hD1, hD]; simp [phiP, phi, O.ren, Cutoff.row, show ¬ (H.length + 2 < H.length) from by omega]
   ·have : i = set.length := by omega
    subst this
    rw [List.take_length]
    simp (implicitDefEqProofs := false) (disch := omega) [gz, hlt]
    subst hL
    exact at_mk (by simp) rfl
  ·rintro _ ⟨sl, rfl⟩
   simp (implicitDefEqProofs := false) (disch := omega) [gz, wrap64]
   exact fin_own (k := 0) hw rfl (by simp)
theorem k514 (m : Int) (l : List Edit) (all : List Member) (h : okC l all) (H : List O) :
  ACalls Tryz.prog (GM m) 14 [.c (.d (.sl (l.map Edit.row))), .c (.d (.sl (all.map Member.row)))] H fun t H' => t = .v (.c (.d (.sl ((cutsE l all).map Cutoff.row)))) ∧ H' = H := own_data (k514o m l all h H)
end Go.Aw.Try

namespace Go.Aw.Try
open Go Go.Proofs Go.Aw
set_option maxRecDepth 100000
set_option maxHeartbeats 4000000
/-! ### names of authors -/
def byt (s : ByteArray) (i : Nat) : Int := ((s.data[i]?.getD 0).toNat : Int)
def badA (s : ByteArray) (i : Nat) : Bool := !(decide (97 ≤ byt s i) && decide (byt s i ≤ 122)) && (decide (i = 0) || (decide (byt s i < 48) || decide (57 < byt s i)))
def authB (s : ByteArray) : Bool := decide (∀ j, j < s.size → badA s j = false) && (decide (0 < s.size) && decide (s.size ≤ 24))
theorem k526 (s : ByteArray) (hs : s.size < 4611686018427387904) : ACalls Tryz.prog G0 26 [Sx s] [] fun t H => t = .bool (authB s) ∧ H = [] := by
 refine acallsX (X := []) trivial tab hmix Tryz.func26 c526 (by rfl) fun hw => ?_
 simp (implicitDefEqProofs := false) (disch := omega) [gz, ir526, b526, wrap64]
 refine loopE (fun k st => ∃ i, i ≤ s.size ∧ k = s.size - i ∧ (∀ j, j < i → badA s j = false) ∧
   st = ⟨ofL [(0, .v (.c (.d (.v (.string s))))), (3, .int .i64 i)], []⟩)
  (fun st => (∀ j, j < s.size → badA s j = false) ∧ AtS [(0, .v (.c (.d (.v (.string s)))))] [] st) ?_ ?_ ?_
 ·refine wk_keep [0, 3] ⟨_, 0, by omega, rfl, fun j hj => by omega, ?_⟩
  simp
 ·rintro J L hJ hL k st ⟨i, hi, rfl, hb, rfl⟩
  by_cases hlt : i < s.size
  ·have hby : ((s.data[i]?.getD 0).toNat : Int) = byt s i := rfl
   obtain ⟨b, hbb⟩ : ∃ b, b = byt s i := ⟨_, rfl⟩
   have hbad : badA s i = (!(decide (97 ≤ b) && decide (b ≤ 122)) && (decide (i = 0) || (decide (b < 48) || decide (57 < b)))) := by rw [hbb]; rfl
   rw [← hbb] at hby
   by_cases c1 : 97 ≤ b
   ·have c1' : ¬ b < 97 := by omega
    by_cases c2 : b ≤ 122
    ·have c2' : ¬ 122 < b := by omega
     simp (implicitDefEqProofs := false) (disch := omega) [gz, hlt, wrap64, hby, c1, c1', c2, c2']
     subst hJ
     refine wk_keep [0, 3] ⟨s.size - (i + 1), by omega, i + 1, by omega, rfl, fun j hj => ?_, ?_⟩
     ·by_cases e1 : j = i
      ·subst e1; rw [hbad]; simp [c1, c1', c2, c2']
      ·exact hb j (by omega)
     ·simp
    ·have c2' : 122 < b := by omega
     by_cases c3 : i = 0
     ·subst c3
      rw [show authB s = false from by unfold authB; rw [decide_eq_false (fun h => by have := h 0 hlt; rw [hbad] at this; simp [c1, c1', c2, c2'] at this), Bool.false_and]]
      simp (implicitDefEqProofs := false) (disch := omega) [gz, hlt, wrap64, hby, c1, c1', c2, c2']
      exact fin_nil ⟨rfl, rfl⟩
     ·have c4 : ¬ b < 48 := by omega
      have c4' : 48 ≤ b := by omega
      have c5 : 57 < b := by omega
      rw [show authB s = false from by unfold authB; rw [decide_eq_false (fun h => by have := h i hlt; rw [hbad] at this; simp [c1, c1', c2, c2', c3, c4, c4', c5] at this), Bool.false_and]]
      simp (implicitDefEqProofs := false) (disch := omega) [gz, hlt, wrap64, hby, c1, c1', c2, c2', c3, c4, c4', c5]
      exact fin_nil ⟨rfl, rfl⟩
   ·have c1' : b < 97 := by omega
    by_cases c3 : i = 0
    ·subst c3
     rw [show authB s = false from by unfold authB; rw [decide_eq_false (fun h => by have := h 0 hlt; rw [hbad] at this; simp [c1, c1'] at this), Bool.false_and]]
     simp (implicitDefEqProofs := false) (disch := omega) [gz, hlt, wrap64, hby, c1, c1']
     exact fin_nil ⟨rfl, rfl⟩
    ·by_cases c4 : b < 48
     ·have c4' : ¬ 48 ≤ b := by omega
      rw [show authB s = false from by unfold authB; rw [decide_eq_false (fun h => by have := h i hlt; rw [hbad] at this; simp [c1, c1', c3, c4, c4'] at this), Bool.false_and]]
      simp (implicitDefEqProofs := false) (disch := omega) [gz, hlt, wrap64, hby, c1, c1', c3, c4, c4']
      exact fin_nil ⟨rfl, rfl⟩
     ·have c4' : 48 ≤ b := by omega
      by_cases c5 : 57 < b
      ·have c5' : ¬ b ≤ 57 := by omega
       rw [show authB s = false from by unfold authB; rw [decide_eq_false (fun h => by have := h i hlt; rw [hbad] at this; simp [c1, c1', c3, c4, c4', c5, c5'] at this), Bool.false_and]]
       simp (implicitDefEqProofs := false) (disch := omega) [gz, hlt, wrap64, hby, c1, c1', c3, c4, c4', c5, c5']
       exact fin_nil ⟨rfl, rfl⟩
      ·have c5' : b ≤ 57 := by omega
       simp (implicitDefEqProofs := false) (disch := omega) [gz, hlt, wrap64, hby, c1, c1', c3, c4, c4', c5, c5']
       subst hJ
       refine wk_keep [0, 3] ⟨s.size - (i + 1), by omega, i + 1, by omega, rfl, fun j hj => ?_, ?_⟩
       ·by_cases e1 : j = i
        ·subst e1; rw [hbad]; simp [c1, c1', c3, c4, c4', c5, c5']
        ·exact hb j (by omega)
       ·simp
  ·have : i = s.size := by omega
   subst this
   simp (implicitDefEqProofs := false) (disch := omega) [gz, hlt]
   subst hL
   exact ⟨hb, at_mk (by simp) rfl⟩
 ·rintro _ ⟨hb, sl, rfl⟩
  simp (implicitDefEqProofs := false) (disch := omega) [gz, wrap64]
  have ha : authB s = (decide (0 < s.size) && decide (s.size ≤ 24)) := by unfold authB; rw [decide_eq_true hb, Bool.true_and]
  refine ⟨fun h => fin_nil ⟨?_, rfl⟩, fun h => fin_nil ⟨?_, rfl⟩⟩
  ·rw [ha, decide_eq_true h, Bool.true_and]
   have : decide ((s.size : Int) ≤ 24) = decide (s.size ≤ 24) := by
    by_cases q : s.size ≤ 24
    ·rw [decide_eq_true q, decide_eq_true (by omega)]
    ·rw [decide_eq_false q, decide_eq_false (by omega)]
   rw [this]; rfl
  ·rw [ha, h]; rfl
noncomputable def x526 : XE := mkX true (fun (s : ByteArray) => [.c (.v (.string s))]) (fun s => s.size < 4611686018427387904) (fun s => .bool (authB s))
theorem kx526 : Contract Tryz.prog G0 26 x526 := mkX_scal (fun _ => rfl) fun s h => k526 s h
theorem xg526 (s : ByteArray) (h : s.size < 4611686018427387904) : x526.g [.c (.v (.string s))] = some (True, .bool (authB s)) := mkX_g (fun a b h => by simp at h; exact h) s h
/-! ### Check -/
def codeI (v : List Id) (i : Nat) : Int := if authB (nth v i).a = false then 7 else if (nth v i).n < 1 then 2 else if 0 < i ∧ (nth v i).a = (nth v (i - 1)).a then 8 else if 0 < i ∧ strLt (nth v i).a (nth v (i - 1)).a = true then 3 else 0
def chkV (v : List Id) : Nat → Nat → Int
 | _, 0 => 0
 | i, k + 1 => if codeI v i ≠ 0 then codeI v i else chkV v (i + 1) k
theorem k528 (v : List Id) (hl : v.length < 4611686018427387904) (hs : ∀ x ∈ v, x.a.size < 4611686018427387904) : ACalls Tryz.prog G0 28 [.c (.d (.sl (v.map Id.row)))] [] fun t H => t = .int .i64 (chkV v 0 v.length) ∧ H = [] := by
 have s1 : x526.sc = true := rfl
 refine acallsX (X := [(26, x526)]) ⟨kx526, trivial⟩ tab hmix Tryz.func28 c528 (by rfl) fun hw => ?_
 simp (implicitDefEqProofs := false) (disch := omega) [gz, ir528, b528, b528_0, b528_1, b528_2, b528_3, wrap64]
 refine loopE (fun k st => ∃ i, i ≤ v.length ∧ k = v.length - i ∧ chkV v 0 v.length = chkV v i (v.length - i) ∧
   st = ⟨ofL [(0, .v (.c (.d (.sl (v.map Id.row))))), (3, .int .i64 i)], []⟩)
  (fun st => chkV v 0 v.length = 0 ∧ AtS [] [] st) ?_ ?_ ?_
 ·refine wk_keep [0, 3] ⟨_, 0, by omega, rfl, rfl, ?_⟩
  simp
 ·rintro J L hJ hL k st ⟨i, hi, rfl, hb, rfl⟩
  by_cases hlt : i < v.length
  ·obtain ⟨x, hx⟩ : ∃ x, nth v i = x := ⟨_, rfl⟩
   obtain ⟨y, hy⟩ : ∃ y, nth v (i - 1) = y := ⟨_, rfl⟩
   have hm : x ∈ v := by rw [← hx]; exact nth_mem hlt
   have hxr : x.row = [.v (.string x.a), .v (.int .i64 x.n)] := rfl
   have hyr : y.row = [.v (.string y.a), .v (.int .i64 y.n)] := rfl
   have g1 := xg526 x.a (hs x hm)
   have hk : v.length - i = (v.length - (i + 1)) + 1 := by omega
   rw [hk] at hb
   have hcd : codeI v i = if authB x.a = false then 7 else if x.n < 1 then 2 else if 0 < i ∧ x.a = y.a then 8 else if 0 < i ∧ strLt x.a y.a = true then 3 else 0 := by unfold codeI; rw [hx, hy]
   have hst : chkV v i (v.length - (i + 1) + 1) = if codeI v i ≠ 0 then codeI v i else chkV v (i + 1) (v.length - (i + 1)) := rfl
   rw [hcd] at hst
   obtain ⟨q, hq⟩ : ∃ q, q = authB x.a := ⟨_, rfl⟩
   rw [← hq] at g1 hst
   cases q
   ·rw [hb, hst]
    simp (implicitDefEqProofs := false) (disch := omega) [gz, hlt, wrap64, nth_map, hx, hxr, s1, g1]
    exact fin_nil ⟨rfl, rfl⟩
   ·by_cases c1 : x.n < 1
    ·rw [hb, hst]
     simp (implicitDefEqProofs := false) (disch := omega) [gz, hlt, wrap64, nth_map, hx, hxr, s1, g1, c1]
     exact fin_nil ⟨rfl, rfl⟩
    ·by_cases c2 : 0 < i
     ·have hi1 : ((i : Int) - 1) = ((i - 1 : Nat) : Int) := by omega
      have hl1 : i - 1 < v.length := by omega
      by_cases c3 : x.a = y.a
      ·rw [c3] at g1
       rw [hb, hst]
       simp (implicitDefEqProofs := false) (disch := omega) [gz, hlt, wrap64, nth_map, hx, hxr, hy, hyr, s1, g1, c1, c2, c3, hi1, hl1, binSF]
       repeat' (with_reducible apply And.intro)
       all_goals first | omega | kernel_rfl | exact fun _ _ => rfl | skip
       exact fin_nil ⟨rfl, rfl⟩
      ·obtain ⟨p, hp⟩ : ∃ p, p = strLt x.a y.a := ⟨_, rfl⟩
       rw [← hp] at hst
       cases p
       ·simp (implicitDefEqProofs := false) (disch := omega) [gz, hlt, wrap64, nth_map, hx, hxr, hy, hyr, s1, g1, c1, c2, c3, hi1, hl1, binSF, ← hp]
        repeat' (with_reducible apply And.intro)
        all_goals first | omega | kernel_rfl | exact fun _ _ => rfl | skip
        subst hJ
        refine wk_keep [0, 3] ⟨v.length - (i + 1), by omega, i + 1, by omega, rfl, ?_, ?_⟩
        ·rw [hb, hst]; simp [c1, c2, c3]
        ·simp
       ·rw [hb, hst]
        simp (implicitDefEqProofs := false) (disch := omega) [gz, hlt, wrap64, nth_map, hx, hxr, hy, hyr, s1, g1, c1, c2, c3, hi1, hl1, binSF, ← hp]
        repeat' (with_reducible apply And.intro)
        all_goals first | omega | kernel_rfl | exact fun _ _ => rfl | skip
        exact fin_nil ⟨rfl, rfl⟩
     ·have : i = 0 := by omega
      subst this
      simp (implicitDefEqProofs := false) (disch := omega) [gz, hlt, wrap64, nth_map, hx, hxr, s1, g1, c1]
      repeat' (with_reducible apply And.intro)
      all_goals first | omega | kernel_rfl | exact fun _ _ => rfl | skip
      subst hJ
      refine wk_keep [0, 3] ⟨v.length - (0 + 1), by omega, 0 + 1, by omega, rfl, ?_, ?_⟩
      ·rw [hb, hst]; simp [c1]
      ·simp
  ·have : i = v.length := by omega
   subst this
   simp (implicitDefEqProofs := false) (disch := omega) [gz, hlt]
   subst hL
   refine ⟨by rw [hb, Nat.sub_self]; rfl, at_mk (by simp) rfl⟩
 ·rintro _ ⟨hb, sl, rfl⟩
  rw [hb]
  simp (implicitDefEqProofs := false) (disch := omega) [gz, wrap64]
  exact fin_nil ⟨rfl, rfl⟩
noncomputable def x528 : XE := mkX true (fun (v : List Id) => [.c (.sl (v.map Id.row))]) (fun v => v.length < 4611686018427387904 ∧ ∀ x ∈ v, x.a.size < 4611686018427387904) (fun v => .int .i64 (chkV v 0 v.length))
theorem kx528 : Contract Tryz.prog G0 28 x528 := mkX_scal (fun _ => rfl) fun v h => k528 v h.1 h.2
theorem xg528 (v : List Id) (h1 : v.length < 4611686018427387904) (h2 : ∀ x ∈ v, x.a.size < 4611686018427387904) : x528.g [.c (.sl (v.map Id.row))] = some (True, .int .i64 (chkV v 0 v.length)) := mkX_g (fun a b h => by simp only [List.cons.injEq, PVo.c.injEq, D.sl.injEq] at h; exact map_inj (fun a b h => by cases a; cases b; simp [Id.row] at h; simp [h]) h.1) v ⟨h1, h2⟩
theorem chk_zero {v : List Id} : ∀ {k i : Nat}, chkV v i k = 0 → ∀ j, i ≤ j → j < i + k → codeI v j = 0
 | 0, i, _, j, h1, h2 => by omega
 | k + 1, i, h, j, h1, h2 => by
  simp only [chkV] at h
  split at h
  ·rename_i hn; exact absurd h hn
  ·rename_i hn
   by_cases e : j = i
   ·subst e; exact Classical.byContradiction fun q => hn q
   ·exact chk_zero h j (by omega) (by omega)
theorem cmpS_trans {a b c : ByteArray} (h1 : cmpS a b < 0) (h2 : cmpS b c < 0) : cmpS a c < 0 := by
 have h3 := cmpS_pre.tr a b c (by omega) (by omega)
 by_cases h : cmpS a c = 0
 ·have := (cmpS_eq a c).1 h
  subst this
  have := cmpS_sgn a b
  omega
 ·omega
theorem asc_of_adj {v : List Id} (h : ∀ j, 0 < j → j < v.length → cmpS (nth v (j - 1)).a (nth v j).a < 0) : AscI v := by
 have key : ∀ d i, i + d + 1 < v.length → cmpS (nth v i).a (nth v (i + d + 1)).a < 0 := by
  intro d
  induction d with
  | zero => intro i hi; exact h (i + 1) (by omega) hi
  | succ d ih =>
   intro i hi
   have h1 := ih i (by omega)
   have h2 := h (i + (d + 1) + 1) (by omega) hi
   exact cmpS_trans h1 h2
 unfold AscI
 rw [List.pairwise_iff_getElem]
 intro i j hi hj hij
 have := key (j - i - 1) i (by omega)
 rw [show i + (j - i - 1) + 1 = j from by omega, nth_eq hi, nth_eq hj] at this
 exact this
/-- A valid vector ascends. -/
theorem chk_asc {v : List Id} (h : chkV v 0 v.length = 0) : AscI v ∧ ∀ x ∈ v, 1 ≤ x.n := by
 have hc : ∀ j, j < v.length → codeI v j = 0 := fun j hj => chk_zero h j (by omega) (by omega)
 have hone : ∀ j, j < v.length → 1 ≤ (nth v j).n ∧ (0 < j → cmpS (nth v (j - 1)).a (nth v j).a < 0) := fun j hj => by
  have := hc j hj
  unfold codeI at this
  split at this
  ·simp at this
  ·split at this
   ·simp at this
   ·rename_i h2
    split at this
    ·simp at this
    ·rename_i h3
     split at this
     ·simp at this
     ·rename_i h4
      refine ⟨by omega, fun h0 => ?_⟩
      have h3 : (nth v j).a ≠ (nth v (j - 1)).a := fun e => h3 ⟨h0, e⟩
      have h4 : ¬ strLt (nth v j).a (nth v (j - 1)).a = true := fun e => h4 ⟨h0, e⟩
      rw [strLt_eq] at h4
      have h5 : ¬ cmpS (nth v j).a (nth v (j - 1)).a < 0 := fun q => h4 (decide_eq_true q)
      have h6 : cmpS (nth v j).a (nth v (j - 1)).a ≠ 0 := fun q => h3 ((cmpS_eq _ _).1 q)
      have := cmpS_sgn (nth v (j - 1)).a (nth v j).a
      omega
 refine ⟨asc_of_adj fun j h0 hj => (hone j hj).2 h0, fun x hx => ?_⟩
 obtain ⟨j, hj, rfl⟩ := List.mem_iff_getElem.1 hx
 have := (hone j hj).1
 rw [nth_eq hj] at this; exact this
end Go.Aw.Try
