/- An abstract machine over the model, and contracts of functions of this program on it (part 5): words and lemmas for the proof in the last text. -/
import Derived.Shelf.Lays
import Derived.Shelf.Strings.Split
import Derived.WalkKit
import Derived.ProofKit
import Derived.OpenShut
import Derived.JoinedCond
import Derived.Carry
import Derived.Test.YthgnlejjbhijfaaGreatDoorCards
import Derived.Test.YthgnlejjbhijfaaGreatDoorTie
import Derived.Deep.DeepHandedRow
import Derived.Shelf.Vars
import Derived.Lib.SplitLaws
import Derived.Test.YthgnlejjbhijfaaGreatDoorMD
set_option linter.unusedSimpArgs false
set_option linter.unusedVariables false
set_option linter.unusedSectionVars false

namespace Go.Aw.Try
open Go Go.Proofs Go.Aw
set_option maxRecDepth 100000
set_option maxHeartbeats 4000000
/-! ### the sets that are voted out -/
def decB (mem : List ByteArray) (vs : List Vote) (set : List ByteArray) : Bool := !((stayS mem set).any fun s => !saidB (ofV vs set) s)
def outStep (mem : List ByteArray) (vs : List Vote) (sets : List (List ByteArray)) (v : Vote) : List (List ByteArray) := if decB mem vs v.set && !(sets.any fun x => decide (x = v.set)) then sets ++ [v.set] else sets
def outU (mem : List ByteArray) (vs : List Vote) (l : List Vote) : List (List ByteArray) := l.foldl (outStep mem vs) []
def sortL (es : List (List ByteArray)) : List (List ByteArray) := insN cmpL 0 (es.length - 1) 1 es
def outL (mem : List ByteArray) (vs : List Vote) : List (List ByteArray) := sortL (outU mem vs vs)
theorem outU_len (mem : List ByteArray) (vs l : List Vote) : (outU mem vs l).length ≤ l.length := by
 have key : ∀ (l : List Vote) (s : List (List ByteArray)), (l.foldl (outStep mem vs) s).length ≤ s.length + l.length := by
  intro l
  induction l with
  | nil => intro s; simp
  | cons v l ih =>
   intro s
   have := ih (outStep mem vs s v)
   have h2 : (outStep mem vs s v).length ≤ s.length + 1 := by unfold outStep; split <;> simp
   simp only [List.foldl_cons, List.length_cons]; omega
 have := key l []
 simpa [outU] using this
theorem outU_take (mem : List ByteArray) (vs : List Vote) {l : List Vote} {i : Nat} (h : i < l.length) : outU mem vs (l.take (i + 1)) = outStep mem vs (outU mem vs (l.take i)) (nth l i) := by
 unfold outU; rw [take_nth h, List.foldl_append]; rfl
theorem k535 (c : Cn) (h1 : c.vs.length < 34359738368) (h2 : c.mem.length < 34359738368) (h3 : ∀ v ∈ c.vs, v.set.length < 4611686018427387904) (h4 : (outU c.mem c.vs c.vs).length ≤ 12) (H : List O) :
  ACalls Tryz.prog G0 35 [.c (.d (.ip c.cs))] H fun t H' => t = .v (.c (.os H.length 1 0 (outU c.mem c.vs c.vs).length)) ∧ H' = H ++ [.row 1 ((outL c.mem c.vs).map setrow)] := by
 have s1 : x560.sc = false := rfl
 have s2 : x565.sc = false := rfl
 have s3 : x64a.sc = true := rfl
 have s4 : x67a.sc = true := rfl
 refine acallsX (X := [(60, x560), (65, x565), (64, x64a), (67, x67a)]) ⟨kx560, kx565, kx64a, kx67a, trivial⟩ tab hmix Tryz.func35 c535 (by rfl) fun hw => ?_
 have hce : c.cs = [.sl (c.mem.map srow), .sl (c.l.map Edit.row), .sl (c.vs.map Vote.row)] := rfl
 simp (implicitDefEqProofs := false) (disch := omega) [gz, ir535, b535, hce, wrap64]
 refine loopE (fun k st => ∃ i, i ≤ c.vs.length ∧ k = c.vs.length - i ∧
   st = ⟨ofL [(0, .v (.c (.d (.ip c.cs)))), (3, .v (.c (.os H.length 1 0 (outU c.mem c.vs (c.vs.take i)).length))), (12, .v (.c (.d (.sl (c.vs.map Vote.row))))), (13, .int .i64 c.vs.length), (14, .int .i64 i)], H ++ [.row 1 ((outU c.mem c.vs (c.vs.take i)).map setrow)]⟩)
  (fun st => AtS [(3, .v (.c (.os H.length 1 0 (outU c.mem c.vs c.vs).length)))] (H ++ [.row 1 ((outU c.mem c.vs c.vs).map setrow)]) st) ?_ ?_ ?_
 ·refine wk_nil_os 3 1 (by omega) (by simp) ?_
  refine wk_keep [0, 3, 12, 13, 14] ⟨_, 0, by omega, rfl, ?_⟩
  simp [outU, hce]
 ·rintro J L hJ hL k st ⟨i, hi, rfl, rfl⟩
  by_cases hlt : i < c.vs.length
  ·obtain ⟨v, hv⟩ : ∃ v, nth c.vs i = v := ⟨_, rfl⟩
   have hvm : v ∈ c.vs := by rw [← hv]; exact nth_mem hlt
   have hsl := h3 v hvm
   have hst := outU_take c.mem c.vs hlt
   rw [hv] at hst
   obtain ⟨S, hS⟩ : ∃ S, S = outU c.mem c.vs (c.vs.take i) := ⟨_, rfl⟩
   have hSl : S.length ≤ i := by rw [hS]; have := outU_len c.mem c.vs (c.vs.take i); simp at this; omega
   rw [← hS] at hst ⊢
   have hee := Vote.row_eq v
   have g1 := xg560 c v.set (by omega) hsl
   have g2 := xg565 c v.set (by omega) hsl
   have hol : (ofV c.vs v.set).length ≤ c.vs.length := List.length_filter_le _ _
   have hyl : (stayS c.mem v.set).length ≤ c.mem.length := List.length_filter_le _ _
   have g3 := xg64a (stayS c.mem v.set) (ofV c.vs v.set) (by omega) (by omega)
   have g4 := xg67a S v (by omega) hsl
   unfold outStep decB at hst
   obtain ⟨q, hq⟩ : ∃ q, q = (stayS c.mem v.set).any fun s => !saidB (ofV c.vs v.set) s := ⟨_, rfl⟩
   obtain ⟨p, hp⟩ : ∃ p, p = S.any fun x => decide (x = v.set) := ⟨_, rfl⟩
   rw [← hq] at g3 hst
   rw [← hp] at g4 hst
   rw [hee] at g4
   rw [hce] at g1 g2
   have tS : (S.map setrow).take S.length = S.map setrow := List.take_of_length_le (by simp)
   rw [hce]
   cases q
   ·cases p
    ·simp (implicitDefEqProofs := false) (disch := omega) [gz, hlt, wrap64, nth_map, hv, hee, splice, s1, g1, s2, g2, s3, g3, s4, g4, tS, toPVs, frzVs, osVs, toPV, fillC, Nat.add_assoc]
     refine ⟨by omega, ?_⟩
     subst hJ
     refine wk_pre [5] [0, 3, 12, 13, 14] hw rfl ⟨c.vs.length - (i + 1), by omega, i + 1, by omega, rfl, ?_⟩
     rw [hst]; simp [phi, O.ren, hce, setrow]
    ·simp (implicitDefEqProofs := false) (disch := omega) [gz, hlt, wrap64, nth_map, hv, hee, splice, s1, g1, s2, g2, s3, g3, s4, g4, tS, toPVs, frzVs, osVs, toPV, fillC, Nat.add_assoc]
     subst hJ
     refine wk_pre [0] [0, 3, 12, 13, 14] hw rfl ⟨c.vs.length - (i + 1), by omega, i + 1, by omega, rfl, ?_⟩
     rw [hst]; simp [phi, O.ren, hce]
   ·simp (implicitDefEqProofs := false) (disch := omega) [gz, hlt, wrap64, nth_map, hv, hee, splice, s1, g1, s2, g2, s3, g3, tS, toPVs, frzVs, osVs, toPV, fillC, Nat.add_assoc]
    subst hJ
    refine wk_pre [0] [0, 3, 12, 13, 14] hw rfl ⟨c.vs.length - (i + 1), by omega, i + 1, by omega, rfl, ?_⟩
    rw [hst]; simp [phi, O.ren, hce]
  ·have : i = c.vs.length := by omega
   subst this
   rw [List.take_length]
   simp (implicitDefEqProofs := false) (disch := omega) [gz, hlt]
   subst hL
   exact at_mk (by simp) rfl
 ·rintro _ ⟨sl, rfl⟩
  obtain ⟨U, hU⟩ : ∃ U, U = outU c.mem c.vs c.vs := ⟨_, rfl⟩
  have hoL : outL c.mem c.vs = sortL U := by rw [hU]; rfl
  rw [← hU] at h4 ⊢
  rw [hoL]
  simp (implicitDefEqProofs := false) (disch := omega) [gz, wrap64]
  have hk := k570 U h4 (H ++ [.row 1 []]) H.length (by simp)
  rw [set_snoc] at hk
  refine hk.mono ?_
  rintro t H' ⟨rfl, rfl⟩
  rw [set_snoc]
  simp (implicitDefEqProofs := false) (disch := omega) [gz, callK]
  exact fin_here (by simp) ⟨rfl, rfl⟩
end Go.Aw.Try

namespace Go.Aw.Try
open Go Go.Proofs Go.Aw
set_option maxRecDepth 100000
set_option maxHeartbeats 4000000
/-! ### final -/
def Good (l : List Edit) : Prop := ∀ e ∈ l, AscI e.deps ∧ e.deps.length < 4611686018427387904
/-- slices.IndexFunc at Edit. -/
theorem k60m (pr : Edit → Bool) (g : Nat) (cps : List (List D)) (xg : XE) (hx : Contract Tryz.prog G0 g xg) (hsc : xg.sc = true)
  (es : List (Edit)) (hxg : ∀ e ∈ es, xg.g (.agg (Edit.row e) :: cps.map fun cs => .c (.ip cs)) = some (True, .bool (pr e))) (hl : es.length < 4611686018427387904) :
  ACalls Tryz.prog G0 116 [.c (.d (.sl (es.map Edit.row))), .c (.d (.fn g (cps.map .ip)))] [] fun t H => t = .int .i64 (idxF pr 0 es) ∧ H = [] := by
 refine acallsX (X := [(g, xg)]) ⟨hx, trivial⟩ tab hmix Tryz.func116 c60 (by rfl) fun hw => ?_
 simp (implicitDefEqProofs := false) (disch := omega) [gz, ir60, b60, wrap64]
 refine loopG (fun k s => ∃ i, i ≤ es.length ∧ k = es.length - i ∧ idxF pr 0 es = idxF pr i (es.drop i) ∧
  s = ⟨ofL [(0, .v (.c (.d (.sl (es.map Edit.row))))), (1, .v (.c (.d (.fn g (cps.map .ip))))), (7, .int .i64 es.length), (8, .int .i64 i)], []⟩) ?_ ?_
 ·refine wk_keep [0, 1, 7, 8] ⟨_, 0, by omega, rfl, rfl, ?_⟩
  simp
 ·rintro J hJ k s ⟨i, hi, rfl, hid, rfl⟩
  by_cases hlt : i < es.length
  ·have hst := idxF_step pr hlt
   obtain ⟨e, he⟩ : ∃ e, nth es i = e := ⟨_, rfl⟩
   have hee := Edit.row_eq e
   have hxg := hxg e (by rw [← he]; exact nth_mem hlt)
   rw [hee] at hxg
   rw [he] at hst
   simp (implicitDefEqProofs := false) (disch := omega) [gz, hlt, wrap64, nth_map, he, hee, mapO_ipc, hsc, hxg]
   refine ⟨fun h => ?_, fun h => ?_⟩
   ·rw [if_pos h] at hst
    exact fin_nil ⟨by rw [hid, hst]; rfl, rfl⟩
   ·rw [if_neg (by simp [h])] at hst
    subst hJ
    refine wk_keep [0, 1, 7, 8] ⟨es.length - (i + 1), by omega, i + 1, by omega, rfl, by rw [hid, hst], ?_⟩
    simp
  ·simp (implicitDefEqProofs := false) (disch := omega) [gz, hlt]
   rw [hid, List.drop_eq_nil_of_le (by omega)]
   exact fin_nil ⟨rfl, rfl⟩
def x60m (pr : Edit → Bool) (g : Nat) (cps : List (List D)) (es : List (Edit)) : XE := ⟨true, fun ps => some (ps = [.c (.sl (es.map Edit.row)), .c (.fn g (cps.map .ip))], .int .i64 (idxF pr 0 es))⟩
theorem kx60m (pr : Edit → Bool) (g : Nat) (cps : List (List D)) (xg : XE) (hx : Contract Tryz.prog G0 g xg) (hsc : xg.sc = true)
  (es : List (Edit)) (hxg : ∀ e ∈ es, xg.g (.agg (Edit.row e) :: cps.map fun cs => .c (.ip cs)) = some (True, .bool (pr e))) (hl : es.length < 4611686018427387904) : Contract Tryz.prog G0 116 (x60m pr g cps es) := contract_sc fun ps ob t h ho => by
 injection h with h; injection h with h1 h2; subst h2; subst h1
 subst ho
 exact ⟨rfl, k60m pr g cps xg hx hsc es hxg hl⟩
/-- slices.ContainsFunc at Edit. -/
theorem k82m (pr : Edit → Bool) (g : Nat) (cps : List (List D)) (xg : XE) (hx : Contract Tryz.prog G0 g xg) (hsc : xg.sc = true)
  (es : List (Edit)) (hxg : ∀ e ∈ es, xg.g (.agg (Edit.row e) :: cps.map fun cs => .c (.ip cs)) = some (True, .bool (pr e))) (hl : es.length < 4611686018427387904) :
  ACalls Tryz.prog G0 73 [.c (.d (.sl (es.map Edit.row))), .c (.d (.fn g (cps.map .ip)))] [] fun t H => t = .bool (es.any pr) ∧ H = [] := by
 have h1 : (x60m pr g cps es).sc = true := rfl
 refine acallsX (X := [(116, x60m pr g cps es)]) ⟨kx60m pr g cps xg hx hsc es hxg hl, trivial⟩ tab hmix Tryz.func73 c82 (by rfl) fun hw => ?_
 have ha := idxF_any pr es 0
 by_cases h : 0 ≤ idxF pr 0 es
 ·rw [ha.1 h]
  simp (implicitDefEqProofs := false) (disch := omega) [gz, ir82, b82, h1, x60m, h]
  exact fin_nil ⟨rfl, rfl⟩
 ·have : es.any pr = false := by
   cases hb : es.any pr
   ·rfl
   ·exact absurd (ha.2 hb) h
  rw [this]
  simp (implicitDefEqProofs := false) (disch := omega) [gz, ir82, b82, h1, x60m, h]
  exact fin_nil ⟨rfl, rfl⟩
/-- slices.IndexFunc at Vote. -/
theorem k608m (pr : Vote → Bool) (g : Nat) (cps : List (List D)) (xg : XE) (hx : Contract Tryz.prog G0 g xg) (hsc : xg.sc = true)
  (es : List (Vote)) (hxg : ∀ e ∈ es, xg.g (.agg (Vote.row e) :: cps.map fun cs => .c (.ip cs)) = some (True, .bool (pr e))) (hl : es.length < 4611686018427387904) :
  ACalls Tryz.prog G0 108 [.c (.d (.sl (es.map Vote.row))), .c (.d (.fn g (cps.map .ip)))] [] fun t H => t = .int .i64 (idxF pr 0 es) ∧ H = [] := by
 refine acallsX (X := [(g, xg)]) ⟨hx, trivial⟩ tab hmix Tryz.func108 c608 (by rfl) fun hw => ?_
 simp (implicitDefEqProofs := false) (disch := omega) [gz, ir608, b608, wrap64]
 refine loopG (fun k s => ∃ i, i ≤ es.length ∧ k = es.length - i ∧ idxF pr 0 es = idxF pr i (es.drop i) ∧
  s = ⟨ofL [(0, .v (.c (.d (.sl (es.map Vote.row))))), (1, .v (.c (.d (.fn g (cps.map .ip))))), (7, .int .i64 es.length), (8, .int .i64 i)], []⟩) ?_ ?_
 ·refine wk_keep [0, 1, 7, 8] ⟨_, 0, by omega, rfl, rfl, ?_⟩
  simp
 ·rintro J hJ k s ⟨i, hi, rfl, hid, rfl⟩
  by_cases hlt : i < es.length
  ·have hst := idxF_step pr hlt
   obtain ⟨e, he⟩ : ∃ e, nth es i = e := ⟨_, rfl⟩
   have hee := Vote.row_eq e
   have hxg := hxg e (by rw [← he]; exact nth_mem hlt)
   rw [hee] at hxg
   rw [he] at hst
   simp (implicitDefEqProofs := false) (disch := omega) [gz, hlt, wrap64, nth_map, he, hee, mapO_ipc, hsc, hxg]
   refine ⟨fun h => ?_, fun h => ?_⟩
   ·rw [if_pos h] at hst
    exact fin_nil ⟨by rw [hid, hst]; rfl, rfl⟩
   ·rw [if_neg (by simp [h])] at hst
    subst hJ
    refine wk_keep [0, 1, 7, 8] ⟨es.length - (i + 1), by omega, i + 1, by omega, rfl, by rw [hid, hst], ?_⟩
    simp
  ·simp (implicitDefEqProofs := false) (disch := omega) [gz, hlt]
   rw [hid, List.drop_eq_nil_of_le (by omega)]
   exact fin_nil ⟨rfl, rfl⟩
def x608m (pr : Vote → Bool) (g : Nat) (cps : List (List D)) (es : List (Vote)) : XE := ⟨true, fun ps => some (ps = [.c (.sl (es.map Vote.row)), .c (.fn g (cps.map .ip))], .int .i64 (idxF pr 0 es))⟩
theorem kx608m (pr : Vote → Bool) (g : Nat) (cps : List (List D)) (xg : XE) (hx : Contract Tryz.prog G0 g xg) (hsc : xg.sc = true)
  (es : List (Vote)) (hxg : ∀ e ∈ es, xg.g (.agg (Vote.row e) :: cps.map fun cs => .c (.ip cs)) = some (True, .bool (pr e))) (hl : es.length < 4611686018427387904) : Contract Tryz.prog G0 108 (x608m pr g cps es) := contract_sc fun ps ob t h ho => by
 injection h with h; injection h with h1 h2; subst h2; subst h1
 subst ho
 exact ⟨rfl, k608m pr g cps xg hx hsc es hxg hl⟩
/-- slices.ContainsFunc at Vote. -/
theorem k562m (pr : Vote → Bool) (g : Nat) (cps : List (List D)) (xg : XE) (hx : Contract Tryz.prog G0 g xg) (hsc : xg.sc = true)
  (es : List (Vote)) (hxg : ∀ e ∈ es, xg.g (.agg (Vote.row e) :: cps.map fun cs => .c (.ip cs)) = some (True, .bool (pr e))) (hl : es.length < 4611686018427387904) :
  ACalls Tryz.prog G0 62 [.c (.d (.sl (es.map Vote.row))), .c (.d (.fn g (cps.map .ip)))] [] fun t H => t = .bool (es.any pr) ∧ H = [] := by
 have h1 : (x608m pr g cps es).sc = true := rfl
 refine acallsX (X := [(108, x608m pr g cps es)]) ⟨kx608m pr g cps xg hx hsc es hxg hl, trivial⟩ tab hmix Tryz.func62 c562 (by rfl) fun hw => ?_
 have ha := idxF_any pr es 0
 by_cases h : 0 ≤ idxF pr 0 es
 ·rw [ha.1 h]
  simp (implicitDefEqProofs := false) (disch := omega) [gz, ir562, b562, h1, x608m, h]
  exact fin_nil ⟨rfl, rfl⟩
 ·have : es.any pr = false := by
   cases hb : es.any pr
   ·rfl
   ·exact absurd (ha.2 hb) h
  rw [this]
  simp (implicitDefEqProofs := false) (disch := omega) [gz, ir562, b562, h1, x608m, h]
  exact fin_nil ⟨rfl, rfl⟩
def knewB (l : List Edit) (vs : List Vote) (s : ByteArray) : Bool := l.any fun e => decide (e.id.a = s) && knowsV e.deps vs
noncomputable def x574 (s : ByteArray) (vs : List Vote) : XE := mkX true (fun (e : Edit) => [.agg e.row, .c (.ip [.v (.string s)]), .c (.ip [.sl (vs.map Vote.row)])]) (fun e => AscI e.deps ∧ e.deps.length < 4611686018427387904 ∧ vs.length < 4611686018427387904) (fun e => .bool (decide (e.id.a = s) && knowsV e.deps vs))
theorem k574 (e : Edit) (s : ByteArray) (vs : List Vote) (h1 : AscI e.deps) (h2 : e.deps.length < 4611686018427387904) (h3 : vs.length < 4611686018427387904) :
  ACalls Tryz.prog G0 74 [.agg (e.row.map .d), .c (.d (.ip [.v (.string s)])), .c (.d (.ip [.sl (vs.map Vote.row)]))] [] fun t H => t = .bool (decide (e.id.a = s) && knowsV e.deps vs) ∧ H = [] := by
 have h : x575.sc = true := rfl
 have g := xg575 e vs h1 h2 h3
 have hee := Edit.row_eq e
 rw [hee] at g
 refine acallsX (X := [(75, x575)]) ⟨kx575, trivial⟩ tab hmix Tryz.func74 c574 (by rfl) fun hw => ?_
 by_cases q : e.id.a = s
 ·rw [q] at g
  simp (implicitDefEqProofs := false) (disch := omega) [gz, ir574, b574, hee, binSF, h, g, q]
  exact fin_nil ⟨by simp, rfl⟩
 ·simp (implicitDefEqProofs := false) (disch := omega) [gz, ir574, b574, hee, binSF, h, g, q]
  exact fin_nil ⟨by simp, rfl⟩
theorem kx574 (s : ByteArray) (vs : List Vote) : Contract Tryz.prog G0 74 (x574 s vs) := mkX_scal (fun _ => rfl) fun e h => k574 e s vs h.1 h.2.1 h.2.2
theorem xg574 (s : ByteArray) (vs : List Vote) (e : Edit) (h1 : AscI e.deps) (h2 : e.deps.length < 4611686018427387904) (h3 : vs.length < 4611686018427387904) : (x574 s vs).g (.agg (Edit.row e) :: [[D.v (.string s)], [D.sl (vs.map Vote.row)]].map fun cs => .c (.ip cs)) = some (True, .bool (decide (e.id.a = s) && knowsV e.deps vs)) := mkX_g (fun a b h => by simp at h; exact Edit.row_inj h) e ⟨h1, h2, h3⟩
noncomputable def x73a : XE := mkX true (fun (p : List Edit × ByteArray × List Vote) => [.c (.sl (p.1.map Edit.row)), .c (.fn 74 [.ip [.v (.string p.2.1)], .ip [.sl (p.2.2.map Vote.row)]])]) (fun p => Good p.1 ∧ p.1.length < 4611686018427387904 ∧ p.2.2.length < 4611686018427387904) (fun p => .bool (knewB p.1 p.2.2 p.2.1))
theorem kx73a : Contract Tryz.prog G0 73 x73a := mkX_scal (fun _ => rfl) fun p h => k82m (fun e => decide (e.id.a = p.2.1) && knowsV e.deps p.2.2) 74 [[D.v (.string p.2.1)], [D.sl (p.2.2.map Vote.row)]] (x574 p.2.1 p.2.2) (kx574 _ _) rfl p.1 (fun e he => xg574 _ _ e (h.1 e he).1 (h.1 e he).2 h.2.2) h.2.1
theorem xg73a (l : List Edit) (s : ByteArray) (vs : List Vote) (h1 : Good l) (h2 : l.length < 4611686018427387904) (h3 : vs.length < 4611686018427387904) : x73a.g [.c (.sl (l.map Edit.row)), .c (.fn 74 [.ip [.v (.string s)], .ip [.sl (vs.map Vote.row)]])] = some (True, .bool (knewB l vs s)) := mkX_g (fun a b h => by
 simp only [List.cons.injEq, PVo.c.injEq, D.sl.injEq, D.fn.injEq, D.ip.injEq, D.v.injEq, Value.string.injEq] at h
 exact Prod.ext (rows_inj h.1) (Prod.ext h.2.1.2.1.1 (votes_inj h.2.1.2.2.1.1))) (l, s, vs) ⟨h1, h2, h3⟩
theorem k572 (s : ByteArray) (c : Cn) (vs : List Vote) (h1 : Good c.l) (h2 : c.l.length < 4611686018427387904) (h3 : vs.length < 4611686018427387904) :
  ACalls Tryz.prog G0 72 [Sx s, .c (.d (.ip [.ip c.cs])), .c (.d (.ip [.sl (vs.map Vote.row)]))] [] fun t H => t = .bool (knewB c.l vs s) ∧ H = [] := by
 have h : x73a.sc = true := rfl
 have g := xg73a c.l s vs h1 h2 h3
 have hce : c.cs = [.sl (c.mem.map srow), .sl (c.l.map Edit.row), .sl (c.vs.map Vote.row)] := rfl
 refine acallsX (X := [(73, x73a)]) ⟨kx73a, trivial⟩ tab hmix Tryz.func72 c572 (by rfl) fun hw => ?_
 simp (implicitDefEqProofs := false) (disch := omega) [gz, ir572, b572, hce, h, g]
 exact fin_nil ⟨rfl, rfl⟩
noncomputable def x572 (c : Cn) (vs : List Vote) : XE := mkX true (fun (s : ByteArray) => [.c (.v (.string s)), .c (.ip [.ip c.cs]), .c (.ip [.sl (vs.map Vote.row)])]) (fun _ => Good c.l ∧ c.l.length < 4611686018427387904 ∧ vs.length < 4611686018427387904) (fun s => .bool (knewB c.l vs s))
theorem kx572 (c : Cn) (vs : List Vote) : Contract Tryz.prog G0 72 (x572 c vs) := mkX_scal (fun _ => rfl) fun s h => k572 s c vs h.1 h.2.1 h.2.2
theorem xg572 (c : Cn) (vs : List Vote) (h1 : Good c.l) (h2 : c.l.length < 4611686018427387904) (h3 : vs.length < 4611686018427387904) (s : ByteArray) : (x572 c vs).g [.c (.v (.string s)), .c (.ip [.ip c.cs]), .c (.ip [.sl (vs.map Vote.row)])] = some (True, .bool (knewB c.l vs s)) := mkX_g (fun a b h => by simp at h; exact h) s ⟨h1, h2, h3⟩
theorem k576 (s : ByteArray) (c : Cn) (vs : List Vote) (h1 : Good c.l) (h2 : c.l.length < 4611686018427387904) (h3 : vs.length < 4611686018427387904) :
  ACalls Tryz.prog G0 76 [Sx s, .c (.d (.ip [.fn 72 [.ip [.ip c.cs], .ip [.sl (vs.map Vote.row)]]]))] [] fun t H => t = .bool (!knewB c.l vs s) ∧ H = [] := by
 have h : (x572 c vs).sc = true := rfl
 have g := xg572 c vs h1 h2 h3 s
 refine acallsX (X := [(72, x572 c vs)]) ⟨kx572 c vs, trivial⟩ tab hmix Tryz.func76 c576 (by rfl) fun hw => ?_
 simp (implicitDefEqProofs := false) (disch := omega) [gz, ir576, b576, h, g]
 exact fin_nil ⟨rfl, rfl⟩
noncomputable def x576 (c : Cn) (vs : List Vote) : XE := mkX true (fun (s : ByteArray) => [.c (.v (.string s)), .c (.ip [.fn 72 [.ip [.ip c.cs], .ip [.sl (vs.map Vote.row)]]])]) (fun _ => Good c.l ∧ c.l.length < 4611686018427387904 ∧ vs.length < 4611686018427387904) (fun s => .bool (!knewB c.l vs s))
theorem kx576 (c : Cn) (vs : List Vote) : Contract Tryz.prog G0 76 (x576 c vs) := mkX_scal (fun _ => rfl) fun s h => k576 s c vs h.1 h.2.1 h.2.2
theorem xg576 (c : Cn) (vs : List Vote) (h1 : Good c.l) (h2 : c.l.length < 4611686018427387904) (h3 : vs.length < 4611686018427387904) (s : ByteArray) : (x576 c vs).g (.c (.v (.string s)) :: [[D.fn 72 [.ip [.ip c.cs], .ip [.sl (vs.map Vote.row)]]]].map fun cs => .c (.ip cs)) = some (True, .bool (!knewB c.l vs s)) := mkX_g (fun a b h => by simp at h; exact h) s ⟨h1, h2, h3⟩
noncomputable def x64b (c : Cn) (vs : List Vote) : XE := mkX true (fun (l : List ByteArray) => [.c (.sl (l.map srow)), .c (.fn 76 [.ip [.fn 72 [.ip [.ip c.cs], .ip [.sl (vs.map Vote.row)]]]])]) (fun l => l.length < 4611686018427387904 ∧ Good c.l ∧ c.l.length < 4611686018427387904 ∧ vs.length < 4611686018427387904) (fun l => .bool (l.any fun s => !knewB c.l vs s))
theorem kx64b (c : Cn) (vs : List Vote) : Contract Tryz.prog G0 64 (x64b c vs) := mkX_scal (fun _ => rfl) fun l h => k564 (fun s => !knewB c.l vs s) 76 [[D.fn 72 [.ip [.ip c.cs], .ip [.sl (vs.map Vote.row)]]]] (x576 c vs) (kx576 c vs) rfl (xg576 c vs h.2.1 h.2.2.1 h.2.2.2) l h.1
theorem xg64b (c : Cn) (vs : List Vote) (l : List ByteArray) (h0 : l.length < 4611686018427387904) (h1 : Good c.l) (h2 : c.l.length < 4611686018427387904) (h3 : vs.length < 4611686018427387904) : (x64b c vs).g [.c (.sl (l.map srow)), .c (.fn 76 [.ip [.fn 72 [.ip [.ip c.cs], .ip [.sl (vs.map Vote.row)]]]])] = some (True, .bool (l.any fun s => !knewB c.l vs s)) := mkX_g (fun a b h => by
 simp only [List.cons.injEq, PVo.c.injEq, D.sl.injEq] at h
 exact srow_inj h.1) l ⟨h0, h1, h2, h3⟩
def finalB (c : Cn) (set : List ByteArray) : Bool := !((stayS c.mem set).any fun s => !knewB c.l (ofV c.vs set) s)
theorem k536 (c : Cn) (set : List ByteArray) (h1 : c.vs.length < 34359738368) (h2 : c.mem.length < 34359738368) (h3 : set.length < 4611686018427387904) (h4 : Good c.l) (h5 : c.l.length < 4611686018427387904) :
  ACalls Tryz.prog G0 36 [.c (.d (.ip c.cs)), .c (.d (.sl (set.map srow)))] [] fun t H => t = .bool (finalB c set) ∧ H = [] := by
 have s1 : x560.sc = false := rfl
 have s2 : x565.sc = false := rfl
 obtain ⟨X0, hX0⟩ : ∃ X0, X0 = x64b c (ofV c.vs set) := ⟨_, rfl⟩
 have hk : Contract Tryz.prog G0 64 X0 := by rw [hX0]; exact kx64b _ _
 have s3 : X0.sc = true := by rw [hX0]; rfl
 have g1 := xg560 c set (by omega) h3
 have g2 := xg565 c set (by omega) h3
 have hol : (ofV c.vs set).length ≤ c.vs.length := List.length_filter_le _ _
 have hyl : (stayS c.mem set).length ≤ c.mem.length := List.length_filter_le _ _
 have g3 := xg64b c (ofV c.vs set) (stayS c.mem set) (by omega) h4 h5 (by omega)
 rw [← hX0] at g3
 unfold finalB
 obtain ⟨q, hq⟩ : ∃ q, q = (stayS c.mem set).any fun s => !knewB c.l (ofV c.vs set) s := ⟨_, rfl⟩
 rw [← hq] at g3 ⊢
 have hce : c.cs = [.sl (c.mem.map srow), .sl (c.l.map Edit.row), .sl (c.vs.map Vote.row)] := rfl
 rw [hce] at g1 g2 g3
 refine acallsX (X := [(60, x560), (65, x565), (64, X0)]) ⟨kx560, kx565, hk, trivial⟩ tab hmix Tryz.func36 c536 (by rfl) fun hw => ?_
 simp (implicitDefEqProofs := false) (disch := omega) [gz, ir536, b536, hce, s1, g1, s2, g2, s3, g3, splice, toPVs, frzVs, osVs, toPV]
 exact fin_nil ⟨rfl, rfl⟩
noncomputable def x536 : XE := mkX true (fun (p : Cn × List ByteArray) => [.c (.ip p.1.cs), .c (.sl (p.2.map srow))]) (fun p => p.1.vs.length < 34359738368 ∧ p.1.mem.length < 34359738368 ∧ p.2.length < 4611686018427387904 ∧ Good p.1.l ∧ p.1.l.length < 4611686018427387904) (fun p => .bool (finalB p.1 p.2))
theorem kx536 : Contract Tryz.prog G0 36 x536 := mkX_scal (fun _ => rfl) fun p h => k536 p.1 p.2 h.1 h.2.1 h.2.2.1 h.2.2.2.1 h.2.2.2.2
theorem xg536 (c : Cn) (set : List ByteArray) (h1 : c.vs.length < 34359738368) (h2 : c.mem.length < 34359738368) (h3 : set.length < 4611686018427387904) (h4 : Good c.l) (h5 : c.l.length < 4611686018427387904) : x536.g [.c (.ip c.cs), .c (.sl (set.map srow))] = some (True, .bool (finalB c set)) := mkX_g injCS (c, set) ⟨h1, h2, h3, h4, h5⟩
end Go.Aw.Try

namespace Go.Aw.Try
open Go Go.Proofs Go.Aw
set_option maxRecDepth 100000
set_option maxHeartbeats 4000000
/-! ### upto -/
def GoodV (vs : List Vote) : Prop := ∀ v ∈ vs, AscI v.e.deps ∧ v.e.deps.length < 4611686018427387904
def anyKnows (vs ahead : List Vote) : Bool := vs.any fun v => knowsV v.e.deps ahead
noncomputable def x578 (ahead : List Vote) : XE := mkX true (fun (v : Vote) => [.agg v.row, .c (.ip [.sl (ahead.map Vote.row)])]) (fun v => AscI v.e.deps ∧ v.e.deps.length < 4611686018427387904 ∧ ahead.length < 4611686018427387904) (fun v => .bool (knowsV v.e.deps ahead))
theorem k578 (v : Vote) (ahead : List Vote) (h1 : AscI v.e.deps) (h2 : v.e.deps.length < 4611686018427387904) (h3 : ahead.length < 4611686018427387904) : ACalls Tryz.prog G0 78 [.agg (v.row.map .d), .c (.d (.ip [.sl (ahead.map Vote.row)]))] [] fun t H => t = .bool (knowsV v.e.deps ahead) ∧ H = [] := by
 have h : x575.sc = true := rfl
 have g := xg575 v.e ahead h1 h2 h3
 have hfe := Edit.row_eq v.e
 rw [hfe] at g
 refine acallsX (X := [(75, x575)]) ⟨kx575, trivial⟩ tab hmix Tryz.func78 c578 (by rfl) fun hw => ?_
 have hee := Vote.row_eq v
 simp (implicitDefEqProofs := false) (disch := omega) [gz, ir578, b578, hee, h, g]
 exact fin_nil ⟨rfl, rfl⟩
theorem kx578 (ahead : List Vote) : Contract Tryz.prog G0 78 (x578 ahead) := mkX_scal (fun _ => rfl) fun v h => k578 v ahead h.1 h.2.1 h.2.2
theorem xg578 (ahead : List Vote) (v : Vote) (h1 : AscI v.e.deps) (h2 : v.e.deps.length < 4611686018427387904) (h3 : ahead.length < 4611686018427387904) : (x578 ahead).g (.agg (Vote.row v) :: [[D.sl (ahead.map Vote.row)]].map fun cs => .c (.ip cs)) = some (True, .bool (knowsV v.e.deps ahead)) := mkX_g (fun a b h => by simp at h; exact Vote.row_inj h) v ⟨h1, h2, h3⟩
noncomputable def x62b : XE := mkX true (fun (p : List Vote × List Vote) => [.c (.sl (p.1.map Vote.row)), .c (.fn 78 [.ip [.sl (p.2.map Vote.row)]])]) (fun p => GoodV p.1 ∧ p.1.length < 4611686018427387904 ∧ p.2.length < 4611686018427387904) (fun p => .bool (anyKnows p.1 p.2))
theorem kx62b : Contract Tryz.prog G0 62 x62b := mkX_scal (fun _ => rfl) fun p h => k562m (fun v => knowsV v.e.deps p.2) 78 [[D.sl (p.2.map Vote.row)]] (x578 p.2) (kx578 p.2) rfl p.1 (fun v hv => xg578 p.2 v (h.1 v hv).1 (h.1 v hv).2 h.2.2) h.2.1
theorem xg62b (vs ahead : List Vote) (h1 : GoodV vs) (h2 : vs.length < 4611686018427387904) (h3 : ahead.length < 4611686018427387904) : x62b.g [.c (.sl (vs.map Vote.row)), .c (.fn 78 [.ip [.sl (ahead.map Vote.row)]])] = some (True, .bool (anyKnows vs ahead)) := mkX_g (fun a b h => by
 simp only [List.cons.injEq, PVo.c.injEq, D.sl.injEq, D.fn.injEq, D.ip.injEq] at h
 exact Prod.ext (votes_inj h.1) (votes_inj h.2.1.2.1.1)) (vs, ahead) ⟨h1, h2, h3⟩
/-- Does the set with that index go ahead? -/
def leadB (vs : List Vote) (sets : List (List ByteArray)) (at' : Nat) (name : ByteArray) (i : Nat) : Bool := hasS (nth sets i) name && (partS (nth sets i) (nth sets at') && anyKnows (ofV vs (nth sets at')) (ofV vs (nth sets i)))
def pickI (vs : List Vote) (sets : List (List ByteArray)) (at' : Nat) (name : ByteArray) : Nat → Option Nat
 | 0 => none
 | i + 1 => if leadB vs sets at' name i then some i else pickI vs sets at' name i
theorem pickI_lt {vs : List Vote} {sets : List (List ByteArray)} {at' : Nat} {name : ByteArray} : ∀ {m i : Nat}, pickI vs sets at' name m = some i → i < m
 | 0, i, h => by cases h
 | m + 1, i, h => by
  simp only [pickI] at h
  split at h
  ·injection h with h; omega
  ·have := pickI_lt h; omega
def maxStep (name : ByteArray) (n : Int) (v : Vote) : Int := if n < hasN v.e.deps name then hasN v.e.deps name else n
def maxN (vs : List Vote) (name : ByteArray) : Int := vs.foldl (maxStep name) 0
def uptoF (vs : List Vote) (sets : List (List ByteArray)) (name : ByteArray) : Nat → Nat → Int
 | 0, _ => 0
 | f + 1, at' => match pickI vs sets at' name at' with
  | some i => uptoF vs sets name f i
  | none => maxN (ofV vs (nth sets at')) name
def uptoE (vs : List Vote) (sets : List (List ByteArray)) (name : ByteArray) (at' : Nat) : Int := uptoF vs sets name (at' + 1) at'
theorem uptoF_fuel (vs : List Vote) (sets : List (List ByteArray)) (name : ByteArray) : ∀ (f g at' : Nat), at' < f → at' < g → uptoF vs sets name f at' = uptoF vs sets name g at'
 | 0, _, _, h, _ => by omega
 | _ + 1, 0, _, _, h => by omega
 | f + 1, g + 1, at', h1, h2 => by
  simp only [uptoF]
  cases hp : pickI vs sets at' name at' with
  | none => rfl
  | some i => have := pickI_lt hp; exact uptoF_fuel vs sets name f g i (by omega) (by omega)
theorem uptoE_eq (vs : List Vote) (sets : List (List ByteArray)) (name : ByteArray) (at' : Nat) : uptoE vs sets name at' = match pickI vs sets at' name at' with
  | some i => uptoE vs sets name i
  | none => maxN (ofV vs (nth sets at')) name := by
 unfold uptoE
 conv => lhs; unfold uptoF
 cases hp : pickI vs sets at' name at' with
 | none => rfl
 | some i => have := pickI_lt hp; exact uptoF_fuel vs sets name _ _ i (by omega) (by omega)
def okU (c : Cn) (sets : List (List ByteArray)) : Prop := c.vs.length < 34359738368 ∧ GoodV c.vs ∧ sets.length < 34359738368 ∧ ∀ s ∈ sets, s.length < 4611686018427387904
structure UArg where
 c : Cn
 sets : List (List ByteArray)
 i : Nat
 name : ByteArray
noncomputable def x537 (n : Nat) : XE := mkX true (fun (p : UArg) => [.c (.ip p.c.cs), .c (.sl (p.sets.map setrow)), .c (.v (.int .i64 p.i)), .c (.v (.string p.name))]) (fun p => okU p.c p.sets ∧ p.i < p.sets.length ∧ p.i < n) (fun p => .int .i64 (uptoE p.c.vs p.sets p.name p.i))
theorem injU (a b : UArg) (h : [PVo.c (D.ip a.c.cs), PVo.c (D.sl (a.sets.map setrow)), PVo.c (D.v (.int .i64 (a.i : Int))), PVo.c (D.v (.string a.name))] = [PVo.c (D.ip b.c.cs), PVo.c (D.sl (b.sets.map setrow)), PVo.c (D.v (.int .i64 (b.i : Int))), PVo.c (D.v (.string b.name))]) : a = b := by
 simp only [List.cons.injEq, PVo.c.injEq, D.sl.injEq, D.ip.injEq, D.v.injEq, Value.int.injEq, Value.string.injEq] at h
 obtain ⟨h1, h2, ⟨_, h3⟩, h4, _⟩ := h
 cases a; cases b
 have e1 := Cn.cs_inj h1
 have e2 := sets_inj h2
 simp only at e1 e2 h3 h4
 have e3 := Int.ofNat.inj h3
 rw [e1, e2, e3, h4]
theorem xg537 (n : Nat) (c : Cn) (sets : List (List ByteArray)) (i : Nat) (name : ByteArray) (h : okU c sets) (hi : i < sets.length) (hn : i < n) : (x537 n).g [.c (.ip c.cs), .c (.sl (sets.map setrow)), .c (.v (.int .i64 i)), .c (.v (.string name))] = some (True, .int .i64 (uptoE c.vs sets name i)) := mkX_g injU (UArg.mk c sets i name) ⟨h, hi, hn⟩
theorem GoodV.of {vs : List Vote} (h : GoodV vs) (set : List ByteArray) : GoodV (ofV vs set) := fun v hv => h v (List.mem_filter.1 hv).1
theorem k537 (n : Nat) (hn : Contract Tryz.prog G0 37 (x537 n)) (c : Cn) (sets : List (List ByteArray)) (name : ByteArray) (h : okU c sets) (hi : n < sets.length) :
  ACalls Tryz.prog G0 37 [.c (.d (.ip c.cs)), .c (.d (.sl (sets.map setrow))), I n, Sx name] [] fun t H => t = .int .i64 (uptoE c.vs sets name n) ∧ H = [] := by
 have h0 := h
 obtain ⟨b1, b2, b3, b4⟩ := h
 have s1 : x560.sc = false := rfl
 have s2 : x577.sc = true := rfl
 have s3 : x559.sc = true := rfl
 have s4 : x62b.sc = true := rfl
 have s5 : (x537 n).sc = true := rfl
 have s6 : x579.sc = true := rfl
 refine acallsX (X := [(60, x560), (77, x577), (59, x559), (62, x62b), (37, x537 n), (79, x579)]) ⟨kx560, kx577, kx559, kx62b, hn, kx579, trivial⟩ tab hmix Tryz.func37 c537 (by rfl) fun hw => ?_
 have hce : c.cs = [.sl (c.mem.map srow), .sl (c.l.map Edit.row), .sl (c.vs.map Vote.row)] := rfl
 obtain ⟨set, hset⟩ : ∃ s, nth sets n = s := ⟨_, rfl⟩
 have hsl : set.length < 4611686018427387904 := b4 set (by rw [← hset]; exact nth_mem hi)
 have hse : ∀ s, setrow s = [D.sl (s.map srow)] := fun _ => rfl
 have g1 := xg560 c set (by omega) hsl
 have hol : (ofV c.vs set).length ≤ c.vs.length := List.length_filter_le _ _
 have hU := uptoE_eq c.vs sets name n
 rw [hset] at hU
 rw [hce] at g1
 simp (implicitDefEqProofs := false) (disch := omega) [gz, ir537, b537, b537_0, b537_1, b537_2, wrap64, hi, nth_map, hset, hse, hce, s1, g1, toPVs, frzVs, osVs, toPV]
 refine loopE (fun k st => ∃ m, m ≤ n ∧ k = m ∧ pickI c.vs sets n name n = pickI c.vs sets n name m ∧
   st = ⟨ofL [(0, .v (.c (.d (.ip c.cs)))), (1, .v (.c (.d (.sl (sets.map setrow))))), (2, .int .i64 n), (3, .v (.c (.d (.v (.string name))))), (9, .v (.c (.d (.sl ((ofV c.vs set).map Vote.row))))), (10, .int .i64 ((m : Int) - 1))], []⟩)
  (fun st => pickI c.vs sets n name n = none ∧ AtS [(3, .v (.c (.d (.v (.string name))))), (9, .v (.c (.d (.sl ((ofV c.vs set).map Vote.row)))))] [] st) ?_ ?_ ?_
 ·refine wk_nil [] [0, 1, 2, 3, 9, 10] rfl ⟨n, n, Nat.le_refl _, rfl, rfl, ?_⟩
  simp [hce]
 ·rintro J L hJ hL m st ⟨_, hm, rfl, hpk, rfl⟩
  by_cases hlt : m = 0
  ·subst hlt
   simp (implicitDefEqProofs := false) (disch := omega) [gz, wrap64]
   subst hL
   refine ⟨by rw [hpk]; rfl, at_mk (by simp) rfl⟩
  ·obtain ⟨m, rfl⟩ : ∃ j, m = j + 1 := ⟨m - 1, by omega⟩
   have hm' : m < sets.length := by omega
   obtain ⟨sm, hsm⟩ : ∃ s, nth sets m = s := ⟨_, rfl⟩
   have hsml : sm.length < 4611686018427387904 := b4 sm (by rw [← hsm]; exact nth_mem hm')
   have g2 := xg577 sm name hsml
   have g3 := xg559 sm set hsml hsl
   have g4 := xg560 c sm (by omega) hsml
   have hol2 : (ofV c.vs sm).length ≤ c.vs.length := List.length_filter_le _ _
   have g5 := xg62b (ofV c.vs set) (ofV c.vs sm) (GoodV.of b2 set) (by omega) (by omega)
   have g6 := xg537 n c sets m name h0 hm' (by omega)
   rw [hce] at g4 g6
   have hst : pickI c.vs sets n name (m + 1) = if leadB c.vs sets n name m then some m else pickI c.vs sets n name m := rfl
   unfold leadB at hst
   rw [hsm, hset] at hst
   have hm1 : ((m + 1 : Nat) : Int) - 1 = m := by omega
   rw [hm1, hce]
   obtain ⟨q1, hq1⟩ : ∃ q, q = hasS sm name := ⟨_, rfl⟩
   obtain ⟨q2, hq2⟩ : ∃ q, q = partS sm set := ⟨_, rfl⟩
   obtain ⟨q3, hq3⟩ : ∃ q, q = anyKnows (ofV c.vs set) (ofV c.vs sm) := ⟨_, rfl⟩
   rw [← hq1] at g2 hst
   rw [← hq2] at g3 hst
   rw [← hq3] at g5 hst
   cases q1
   ·simp (implicitDefEqProofs := false) (disch := omega) [gz, wrap64, hm', hi, nth_map, hsm, hset, hse, splice, s1, s2, s3, s4, s5, g2, g3, g4, g5, g6, toPVs, frzVs, osVs, toPV]
    repeat' (with_reducible apply And.intro)
    all_goals first | omega | kernel_rfl | exact fun _ _ => rfl | skip
    subst hJ
    refine wk_nil [] [0, 1, 2, 3, 9, 10] rfl ⟨m, by omega, m, by omega, rfl, by rw [hpk, hst]; rfl, ?_⟩
    simp [hce]
   ·cases q2
    ·simp (implicitDefEqProofs := false) (disch := omega) [gz, wrap64, hm', hi, nth_map, hsm, hset, hse, splice, s1, s2, s3, s4, s5, g2, g3, g4, g5, g6, toPVs, frzVs, osVs, toPV]
     repeat' (with_reducible apply And.intro)
     all_goals first | omega | kernel_rfl | exact fun _ _ => rfl | skip
     subst hJ
     refine wk_nil [] [0, 1, 2, 3, 9, 10] rfl ⟨m, by omega, m, by omega, rfl, by rw [hpk, hst]; rfl, ?_⟩
     simp [hce]
    ·cases q3
     ·simp (implicitDefEqProofs := false) (disch := omega) [gz, wrap64, hm', hi, nth_map, hsm, hset, hse, splice, s1, s2, s3, s4, s5, g2, g3, g4, g5, g6, toPVs, frzVs, osVs, toPV]
      repeat' (with_reducible apply And.intro)
      all_goals first | omega | kernel_rfl | exact fun _ _ => rfl | skip
      subst hJ
      refine wk_nil [] [0, 1, 2, 3, 9, 10] rfl ⟨m, by omega, m, by omega, rfl, by rw [hpk, hst]; rfl, ?_⟩
      simp [hce]
     ·rw [hpk, hst] at hU
      simp (implicitDefEqProofs := false) (disch := omega) [gz, wrap64, hm', hi, nth_map, hsm, hset, hse, splice, s1, s2, s3, s4, s5, g2, g3, g4, g5, g6, toPVs, frzVs, osVs, toPV]
      repeat' (with_reducible apply And.intro)
      all_goals first | omega | kernel_rfl | exact fun _ _ => rfl | skip
      exact fin_nil ⟨by rw [hU]; rfl, rfl⟩
 ·rintro _ ⟨hpn, sl, rfl⟩
  rw [hpn] at hU
  obtain ⟨W, hW⟩ : ∃ W, W = ofV c.vs set := ⟨_, rfl⟩
  have hWg : GoodV W := by rw [hW]; exact GoodV.of b2 set
  rw [← hW] at hU hol ⊢
  simp (implicitDefEqProofs := false) (disch := omega) [gz, b537_3, b537_4, b537_5, b537_6, wrap64]
  refine loopE (fun k st => ∃ i, i ≤ W.length ∧ k = W.length - i ∧
    st = ⟨ofL [(3, .v (.c (.d (.v (.string name))))), (12, .int .i64 (maxN (W.take i) name)), (60, .v (.c (.d (.sl (W.map Vote.row))))), (61, .int .i64 W.length), (62, .int .i64 i)], []⟩)
   (fun st => AtS [(12, .int .i64 (maxN W name))] [] st) ?_ ?_ ?_
  ·refine wk_nil [] [3, 12, 60, 61, 62] rfl ⟨_, 0, by omega, rfl, ?_⟩
   simp [maxN]
  ·rintro J L hJ hL k st ⟨i, hi', rfl, rfl⟩
   by_cases hlt : i < W.length
   ·obtain ⟨v, hv⟩ : ∃ v, nth W i = v := ⟨_, rfl⟩
    have hvm : v ∈ W := by rw [← hv]; exact nth_mem hlt
    have hst : maxN (W.take (i + 1)) name = maxStep name (maxN (W.take i) name) v := by
     unfold maxN; rw [take_nth hlt, List.foldl_append, hv]; rfl
    have hee := Vote.row_eq v
    have g7 := xg579 v.e.deps name (hWg v hvm).2
    unfold maxStep at hst
    obtain ⟨x, hx⟩ : ∃ x, x = maxN (W.take i) name := ⟨_, rfl⟩
    obtain ⟨y, hy⟩ : ∃ y, y = hasN v.e.deps name := ⟨_, rfl⟩
    rw [← hx, ← hy] at hst
    rw [← hy] at g7
    rw [← hx]
    simp (implicitDefEqProofs := false) (disch := omega) [gz, hlt, wrap64, nth_map, hv, hee, splice, s6, g7]
    subst hJ
    refine wk_nil [] [3, 12, 60, 61, 62] rfl ⟨W.length - (i + 1), by omega, i + 1, by omega, rfl, ?_⟩
    rw [hst]; simp [hce]
   ·have : i = W.length := by omega
    subst this
    rw [List.take_length]
    simp (implicitDefEqProofs := false) (disch := omega) [gz, hlt]
    subst hL
    exact at_mk (by simp) rfl
  ·rintro _ ⟨sl, rfl⟩
   simp (implicitDefEqProofs := false) (disch := omega) [gz, wrap64]
   exact fin_nil ⟨by rw [hU]; rfl, rfl⟩
theorem kx537 (n : Nat) : Contract Tryz.prog G0 37 (x537 n) := by
 induction n using Nat.strongRecOn with
 | _ n ih => exact mkX_scal (fun _ => rfl) fun p h => k537 p.i (ih p.i h.2.2) p.c p.sets p.name h.1 h.2.1
/-! ### sure -/
def sureStep (name : ByteArray) (x : Int) (v : Vote) : Int := if hasS v.set name && (decide (x < 0) || decide (hasN v.e.deps name < x)) then hasN v.e.deps name else x
def sureL (vs : List Vote) (name : ByteArray) : Int := vs.foldl (sureStep name) (-1)
def sureN (vs : List Vote) (name : ByteArray) : Int := if sureL vs name < 0 then 0 else sureL vs name
theorem k538 (c : Cn) (name : ByteArray) (h1 : c.vs.length < 34359738368) (h2 : GoodV c.vs) (h3 : ∀ v ∈ c.vs, v.set.length < 4611686018427387904) :
  ACalls Tryz.prog G0 38 [.c (.d (.ip c.cs)), Sx name] [] fun t H => t = .int .i64 (sureN c.vs name) ∧ H = [] := by
 have s2 : x577.sc = true := rfl
 have s6 : x579.sc = true := rfl
 refine acallsX (X := [(77, x577), (79, x579)]) ⟨kx577, kx579, trivial⟩ tab hmix Tryz.func38 c538 (by rfl) fun hw => ?_
 have hce : c.cs = [.sl (c.mem.map srow), .sl (c.l.map Edit.row), .sl (c.vs.map Vote.row)] := rfl
 simp (implicitDefEqProofs := false) (disch := omega) [gz, ir538, b538, hce, wrap64]
 obtain ⟨W, hW⟩ : ∃ W, W = c.vs := ⟨_, rfl⟩
 rw [← hW] at h1 h2 h3 ⊢
 refine loopE (fun k st => ∃ i, i ≤ W.length ∧ k = W.length - i ∧
   st = ⟨ofL [(1, .v (.c (.d (.v (.string name))))), (5, .int .i64 (sureL (W.take i) name)), (12, .v (.c (.d (.sl (W.map Vote.row))))), (13, .int .i64 W.length), (14, .int .i64 i)], []⟩)
  (fun st => AtS [(5, .int .i64 (sureL W name))] [] st) ?_ ?_ ?_
 ·refine wk_nil [] [1, 5, 12, 13, 14] rfl ⟨_, 0, by omega, rfl, ?_⟩
  simp [sureL, Sx, hW]
 ·rintro J L hJ hL k st ⟨i, hi', rfl, rfl⟩
  by_cases hlt : i < W.length
  ·obtain ⟨v, hv⟩ : ∃ v, nth W i = v := ⟨_, rfl⟩
   have hvm : v ∈ W := by rw [← hv]; exact nth_mem hlt
   have hst : sureL (W.take (i + 1)) name = sureStep name (sureL (W.take i) name) v := by
    unfold sureL; rw [take_nth hlt, List.foldl_append, hv]; rfl
   have hee := Vote.row_eq v
   have g7 := xg579 v.e.deps name (h2 v hvm).2
   have g2 := xg577 v.set name (h3 v hvm)
   unfold sureStep at hst
   obtain ⟨x, hx⟩ : ∃ x, x = sureL (W.take i) name := ⟨_, rfl⟩
   obtain ⟨y, hy⟩ : ∃ y, y = hasN v.e.deps name := ⟨_, rfl⟩
   obtain ⟨q, hq⟩ : ∃ q, q = hasS v.set name := ⟨_, rfl⟩
   rw [← hx, ← hy, ← hq] at hst
   rw [← hy] at g7
   rw [← hq] at g2
   rw [← hx]
   cases q
   ·simp (implicitDefEqProofs := false) (disch := omega) [gz, hlt, wrap64, nth_map, hv, hee, splice, s2, s6, g2, g7]
    subst hJ
    refine wk_nil [] [1, 5, 12, 13, 14] rfl ⟨W.length - (i + 1), by omega, i + 1, by omega, rfl, ?_⟩
    rw [hst]; simp
   ·by_cases p1 : x < 0
    ·simp (implicitDefEqProofs := false) (disch := omega) [gz, hlt, wrap64, nth_map, hv, hee, splice, s2, s6, g2, g7, p1]
     subst hJ
     refine wk_nil [] [1, 5, 12, 13, 14] rfl ⟨W.length - (i + 1), by omega, i + 1, by omega, rfl, ?_⟩
     rw [hst]; simp [p1]
    ·by_cases p2 : y < x
     ·simp (implicitDefEqProofs := false) (disch := omega) [gz, hlt, wrap64, nth_map, hv, hee, splice, s2, s6, g2, g7, p1, p2]
      subst hJ
      refine wk_nil [] [1, 5, 12, 13, 14] rfl ⟨W.length - (i + 1), by omega, i + 1, by omega, rfl, ?_⟩
      rw [hst]; simp [p1, p2]
     ·simp (implicitDefEqProofs := false) (disch := omega) [gz, hlt, wrap64, nth_map, hv, hee, splice, s2, s6, g2, g7, p1, p2]
      subst hJ
      refine wk_nil [] [1, 5, 12, 13, 14] rfl ⟨W.length - (i + 1), by omega, i + 1, by omega, rfl, ?_⟩
      rw [hst]; simp [p1, p2]
  ·have : i = W.length := by omega
   subst this
   rw [List.take_length]
   simp (implicitDefEqProofs := false) (disch := omega) [gz, hlt]
   subst hL
   exact at_mk (by simp) rfl
 ·rintro _ ⟨sl, rfl⟩
  simp (implicitDefEqProofs := false) (disch := omega) [gz, wrap64]
  exact fin_nil ⟨by simp [sureN], rfl⟩
noncomputable def x538 : XE := mkX true (fun (p : Cn × ByteArray) => [.c (.ip p.1.cs), .c (.v (.string p.2))]) (fun p => p.1.vs.length < 34359738368 ∧ GoodV p.1.vs ∧ ∀ v ∈ p.1.vs, v.set.length < 4611686018427387904) (fun p => .int .i64 (sureN p.1.vs p.2))
theorem kx538 : Contract Tryz.prog G0 38 x538 := mkX_scal (fun _ => rfl) fun p h => k538 p.1 p.2 h.1 h.2.1 h.2.2
theorem xg538 (c : Cn) (name : ByteArray) (h1 : c.vs.length < 34359738368) (h2 : GoodV c.vs) (h3 : ∀ v ∈ c.vs, v.set.length < 4611686018427387904) : x538.g [.c (.ip c.cs), .c (.v (.string name))] = some (True, .int .i64 (sureN c.vs name)) := mkX_g (fun a b h => by
 simp only [List.cons.injEq, PVo.c.injEq, D.ip.injEq, D.v.injEq, Value.string.injEq] at h
 exact Prod.ext (Cn.cs_inj h.1) h.2.1) (c, name) ⟨h1, h2, h3⟩
end Go.Aw.Try

namespace Go.Aw.Try
open Go Go.Proofs Go.Aw
set_option maxRecDepth 100000
set_option maxHeartbeats 4000000
/-! ### the library's functions, laid -/
/-- The numbers of the library's functions and types here. -/
def renS : Go.Shelf.Ren := ⟨fun n => match n with | 138 => 158 | 143 => 159 | 146 => 103 | 195 => 167 | 197 => 168 | 217 => 174 | 218 => 169 | 219 => 170 | 221 => 135 | 224 => 176 | 225 => 175 | 260 => 173 | 266 => 178 | 267 => 177 | 268 => 157 | 314 => 179 | _ => 0, fun n => match n with | 0 => 0 | 3 => 3 | 4 => 4 | 5 => 5 | 9 => 9 | 21 => 21 | 31 => 65 | 46 => 137 | 51 => 162 | 105 => 178 | 119 => 184 | 138 => 186 | 139 => 187 | 146 => 188 | _ => 0, fun n => match n with | 1 => 0 | 3 => 1 | 4 => 2 | _ => 0⟩
theorem ly146 : Lays.n146 Tryz.prog renS :=
  { mixed := hmix
    f138 := Tryz.func158.trans (by kernel_rfl)
    f143 := Tryz.func159.trans (by kernel_rfl)
    f146 := Tryz.func103.trans (by kernel_rfl)
    f195 := Tryz.func167.trans (by kernel_rfl)
    f197 := Tryz.func168.trans (by kernel_rfl)
    f217 := Tryz.func174.trans (by kernel_rfl)
    f218 := Tryz.func169.trans (by kernel_rfl)
    f219 := Tryz.func170.trans (by kernel_rfl)
    f221 := Tryz.func135.trans (by kernel_rfl)
    f224 := Tryz.func176.trans (by kernel_rfl)
    f225 := Tryz.func175.trans (by kernel_rfl)
    f260 := Tryz.func173.trans (by kernel_rfl)
    f266 := Tryz.func178.trans (by kernel_rfl)
    f267 := Tryz.func177.trans (by kernel_rfl)
    f268 := Tryz.func157.trans (by kernel_rfl)
    f314 := Tryz.func179.trans (by kernel_rfl)
    t0 := Tryz.underlying0
    a0 := Tryz.isAgg0
    z0 := Tryz.sizeOf0
    v0 := Tryz.zeroValue0
    t3 := Tryz.underlying3
    a3 := Tryz.isAgg3
    z3 := Tryz.sizeOf3
    v3 := Tryz.zeroValue3
    t4 := Tryz.underlying4
    a4 := Tryz.isAgg4
    z4 := Tryz.sizeOf4
    v4 := Tryz.zeroValue4
    t5 := Tryz.underlying5
    a5 := Tryz.isAgg5
    z5 := Tryz.sizeOf5
    v5 := Tryz.zeroValue5
    t9 := Tryz.underlying9
    a9 := Tryz.isAgg9
    z9 := Tryz.sizeOf9
    v9 := Tryz.zeroValue9
    t21 := Tryz.underlying21
    a21 := Tryz.isAgg21
    z21 := Tryz.sizeOf21
    v21 := Tryz.zeroValue21
    t31 := Tryz.underlying65
    a31 := Tryz.isAgg65
    z31 := Tryz.sizeOf65
    v31 := Tryz.zeroValue65
    t46 := Tryz.underlying137
    a46 := Tryz.isAgg137
    z46 := Tryz.sizeOf137
    v46 := Tryz.zeroValue137
    t51 := Tryz.underlying162
    a51 := Tryz.isAgg162
    z51 := Tryz.sizeOf162
    v51 := Tryz.zeroValue162
    t105 := Tryz.underlying178
    a105 := Tryz.isAgg178
    z105 := Tryz.sizeOf178
    v105 := Tryz.zeroValue178
    t119 := Tryz.underlying184
    a119 := Tryz.isAgg184
    z119 := Tryz.sizeOf184
    t138 := Tryz.underlying186
    a138 := Tryz.isAgg186
    z138 := Tryz.sizeOf186
    v138 := Tryz.zeroValue186
    t139 := Tryz.underlying187
    a139 := Tryz.isAgg187
    z139 := Tryz.sizeOf187
    v139 := Tryz.zeroValue187
    t146 := Tryz.underlying188
    a146 := Tryz.isAgg188
    z146 := Tryz.sizeOf188
    v146 := Tryz.zeroValue188
    g1 := by kernel_rfl
    g3 := by kernel_rfl
    g4 := by kernel_rfl }

theorem i9S : (Tryz.prog.info? (renS.t 9)).map (fun i => (i.zero, i.size, i.bytes)) = some (some (.string ByteArray.empty), 1, 16) := by kernel_rfl
/-- A hole behind the regions. -/
theorem hole_behind {P : Program} {ρ : Nat → Option Nat} {H : List O} {w : World} (h : HRel P ρ H w) : HRel P ρ (H ++ [.hole]) w ∧ (ctx ρ H w).le (ctx ρ (H ++ [.hole]) w) := by
 have hs : Sim P G0 0 { ρ0 := ρ, N0 := H.length, S0 := stab ρ H w, w0 := w } ρ ⟨fun _ => .v .any, H⟩ ⟨#[], []⟩ w :=
  ⟨h, rfl, rfl, fun _ => trivial, fun g cs hg => (nomatch hg), K.le.refl _⟩
 have := sim_holes hs 1
 exact ⟨this.heap, this.le⟩
/-- The variable internal/bytealg.MaxLen holds m. -/
def GM (m : Int) : Gl := fun g => if g = 0 then some [.v (.int .i64 m)] else none
theorem gm_cell {m : Int} {S : Nat → Prop} {w : World} (h : GRel (GM m) S w) : w.cell? ⟨renS.g 1, 0, none⟩ = some (.int .i64 m) := by
 obtain ⟨_, _, h3⟩ := h 0 [.v (.int .i64 m)] rfl
 obtain ⟨u, hu, hd⟩ := h3 0 _ rfl
 rw [drel_v hd] at hu
 exact hu
theorem two_args {vs : Array Value} (h : vs.size = 2) : ∃ u v, vs = #[u, v] := by
 obtain ⟨l⟩ := vs
 match l, h with
 | [u, v], _ => exact ⟨u, v, rfl⟩
/-- The parts of a text. -/
noncomputable def parts (s sep : ByteArray) : List ByteArray := Lib.splitB sep 0 (Lib.countB s sep) s
theorem parts_len (s sep : ByteArray) (h1 : 1 ≤ sep.size) : (parts s sep).length = Lib.countB s sep + 1 := Lib.splitB_all sep h1 0 _ s rfl
theorem kSplit (m : Int) (s sep : ByteArray) (hs : s.size < 4294967281) (h1 : 1 ≤ sep.size) (H : List O) :
  ACalls Tryz.prog (GM m) 103 [Sx s, Sx sep] H (Own H 1 ((parts s sep).map srow)) := by
 refine ⟨callable_of Tryz.func103 (by kernel_rfl) (by decide +kernel), fun ρ w vs hH hG hv => ?_⟩
 obtain ⟨u, v, rfl⟩ : ∃ u v, vs = #[u, v] := two_args hv.1
 have e1 : u = .string s := drel_v (hv.2 0 _ u rfl rfl)
 have e2 : v = .string sep := drel_v (hv.2 1 _ v rfl rfl)
 subst e1; subst e2
 have h := Any.strings_Split (ρ := renS) ly146 i9S s sep m w hs (gm_cell hG) h1
 refine Calls.mono h ?_
 rintro e1 w' ⟨rfl, rfl⟩
 obtain ⟨g1, le1⟩ := hole_behind hH
 have hid : (H ++ [O.hole])[H.length]? = some .hole := by simp
 have hset : (H ++ [O.hole]).set H.length (.row 1 ((parts s sep).map srow)) = H ++ [.row 1 ((parts s sep).map srow)] := set_snoc
 have le2 := g1.le_alloc hid (.cells ((parts s sep).map Value.string).toArray (renS.t 9) (0, 0)) (.row 1 ((parts s sep).map srow))
 have g2 := g1.alloc hid (.cells ((parts s sep).map Value.string).toArray (renS.t 9) (0, 0)) (.row 1 ((parts s sep).map srow)) ⟨by omega, .inr ⟨_, _, _, rfl, push_at _ _, ?_⟩⟩
 ·rw [hset] at g2 le2
  refine ⟨_, _, _, _, rfl, ⟨rfl, rfl⟩, g2, ?_, le1.trans le2⟩
  have hl := parts_len s sep h1
  have hlt : H.length < (H ++ [O.row 1 ((parts s sep).map srow)]).length := by simp
  refine ⟨hlt, .inr ⟨w.heap.size, Lib.countB s sep + 1, renS.t 9, ((parts s sep).map Value.string).toArray.size, upd_same _ _ _, ?_, ?_, ?_, ?_⟩⟩
  ·rw [List.length_map, hl]
  ·rw [List.length_map, hl]; exact Nat.le_refl _
  ·show World.shape? (pushO w _) w.heap.size = _
   rw [shape?_eq, push_at]; rfl
  ·simp [hl]
 ·refine ⟨by simp, fun x hx => ?_, fun i x j d hi hj => ?_⟩
  ·obtain ⟨y, _, rfl⟩ := List.mem_map.1 hx; rfl
  ·rw [List.getElem?_map] at hi
   cases hp : (parts s sep)[i]? with
   | none => rw [hp] at hi; cases hi
   | some y =>
    rw [hp] at hi; injection hi with hi; subst hi
    cases j with
    | zero =>
     injection hj with hj; subst hj
     exact ⟨.string y, by simp [hp], DRel.v _ rfl⟩
    | succ j => simp [srow] at hj
end Go.Aw.Try

namespace Go.Aw
open Go
section
variable {P : Program} {G : Gl} {N0 : Nat}
/-- A contract that uses no variable holds whatever the variables hold. -/
theorem ACalls.gm {f : Nat} {args : List V} {H : List O} {R : T → List O → Prop} (h : ACalls P Try.G0 f args H R) : ACalls P G f args H R :=
 ⟨h.1, fun ρ w vs a _ c => h.2 ρ w vs a (fun g cs hg => (nomatch hg)) c⟩
theorem Contract.gm {f : Nat} {x : XE} (h : Contract P Try.G0 f x) : Contract P G f x := by
 intro ps ob t hg ho
 have := h ps ob t hg ho
 split at this
 ·rename_i hs
  rw [if_pos hs]; exact ⟨this.1, this.2.gm⟩
 ·rename_i hs
  rw [if_neg hs]; exact fun H => (this H).gm
/-- A slot told as data, its rows frozen. -/
theorem wk_tell {sl : Nat → T} {H : List O} {K : St → Prop} (t : Nat) {u : V} {p : PV} (ht : sl t = .v u) (hp : toPV H u = some p) (h : wk P G N0 ⟨putS sl t (.v p.toV), frz H u.cells⟩ K) : wk P G N0 ⟨sl, H⟩ K := by
 refine wk_weak ?_ h
 intro n b ρ a w hb1 hb2 hs
 obtain ⟨h1, l1⟩ := frz_rel u.cells hs.heap
 refine ⟨ρ, h1, hs.size, hs.defers, fun i => ?_, hs.glob.mono l1.step, hs.le.trans l1⟩
 show TRel P _ (putS sl t _ i) _
 unfold putS
 split
 ·rename_i e
  subst e
  have h3 : TRel P (ctx ρ H w) (sl i) (a.tmps.getD i undef) := hs.slots i
  rw [ht] at h3
  exact pv_rel (P := P) (k := ctx ρ (frz H u.cells) w) (topv_rel hs.heap hp h3)
 ·exact (hs.slots i).mono l1
end
end Go.Aw
namespace Go.Aw.Try
open Go Go.Proofs Go.Aw
set_option maxRecDepth 100000
set_option maxHeartbeats 4000000
/-! ### names -/
def comma : ByteArray := ⟨#[44]⟩
theorem comma_size : 1 ≤ comma.size := by decide
theorem parts_le (s : ByteArray) : (parts s comma).length ≤ s.size + 1 := by
 rw [parts_len s comma comma_size]
 have := Lib.countB_le comma comma_size s.size s (Nat.le_refl _)
 omega
/-- That part cannot stand. -/
def badN (a : ByteArray) (mem l : List ByteArray) (i : Nat) : Bool := decide (nth l i = a) || (!hasS mem (nth l i) || (decide (0 < i) && !strLt (nth l (i - 1)) (nth l i)))
noncomputable def namesO (e : Edit) (mem : List ByteArray) : Option (List ByteArray) :=
 if e.kind = 5 ∧ hasS mem e.id.a = true ∧ 2 * (parts e.who comma).length < mem.length ∧ ∀ j, j < (parts e.who comma).length → badN e.id.a mem (parts e.who comma) j = false then some (parts e.who comma) else none
def namesT : Option (List ByteArray) → T
 | none => .tup [.c (.d (.v (.slice none 0 0))), .c (.d (.v (.bool false)))]
 | some l => .tup [.c (.d (.sl (l.map srow))), .c (.d (.v (.bool true)))]
theorem k558 (m : Int) (e : Edit) (mem : List ByteArray) (h1 : e.who.size < 4294967281) (h2 : mem.length < 34359738368) (H : List O) :
  ACalls Tryz.prog (GM m) 58 [.agg (e.row.map .d), .c (.d (.sl (mem.map srow)))] H fun t H' => t = namesT (namesO e mem) ∧ H' = H := by
 have s1 : x577.sc = true := rfl
 have g1 := xg577 mem e.id.a (by omega)
 refine acallsX (X := [(77, x577)]) ⟨kx577.gm, trivial⟩ tab hmix Tryz.func58 c558 (by rfl) fun hw => ?_
 have hee := Edit.row_eq e
 obtain ⟨L, hL⟩ : ∃ L, L = parts e.who comma := ⟨_, rfl⟩
 have hle := parts_le e.who
 have hno : ¬ (e.kind = 5 ∧ hasS mem e.id.a = true ∧ 2 * L.length < mem.length ∧ ∀ j, j < L.length → badN e.id.a mem L j = false) → namesO e mem = none := fun h => by
  unfold namesO; rw [← hL, if_neg h]
 have hyes : (e.kind = 5 ∧ hasS mem e.id.a = true ∧ 2 * L.length < mem.length ∧ ∀ j, j < L.length → badN e.id.a mem L j = false) → namesO e mem = some L := fun h => by
  unfold namesO; rw [← hL, if_pos h]
 rw [← hL] at hle
 simp (implicitDefEqProofs := false) (disch := omega) [gz, ir558, b558, b558_0, b558_1, hee, wrap64]
 have hk := kSplit m e.who comma h1 comma_size (H ++ [.cells ([.v (.string e.id.a), .v (.int .i64 e.id.n), .v (.int .i64 e.clock), .v (.int .i64 e.floor), .sl (e.deps.map Id.row), .v (.int .i64 e.kind), .v (.string e.node.a), .v (.int .i64 e.node.n), .v (.string e.parent.a), .v (.int .i64 e.parent.n), .v (.bool e.neg), .v (.string e.num), .v (.string e.den), .v (.string e.field), .v (.string e.value), .v (.string e.target.a), .v (.int .i64 e.target.n), .v (.string e.who)].map .d)])
 rw [← hL] at hk
 refine hk.mono ?_
 rintro t H' ⟨rfl, rfl⟩
 by_cases q1 : e.kind = 5
 ·obtain ⟨q, hq⟩ : ∃ q, q = hasS mem e.id.a := ⟨_, rfl⟩
  rw [← hq] at g1 hno hyes
  cases q
  ·rw [hno (fun h => by simp at h)]
   simp (implicitDefEqProofs := false) (disch := omega) [gz, callK, b558_2, b558_3, b558_4, b558_5, q1, s1, g1, hee, wrap64]
   exact fin_drop hw ⟨rfl, rfl⟩
  ·by_cases q2 : 2 * L.length < mem.length
   ·obtain ⟨R0, hR0⟩ : ∃ R0, R0 = namesO e mem := ⟨_, rfl⟩
    rw [← hR0] at hno hyes ⊢
    simp (implicitDefEqProofs := false) (disch := omega) [gz, callK, b558_2, b558_3, b558_4, b558_5, q1, s1, g1, hee, wrap64]
    refine ⟨fun h => absurd h (by omega), fun _ => ?_⟩
    refine loopE (fun k st => ∃ i, i ≤ L.length ∧ k = L.length - i ∧ (∀ j, j < i → badN e.id.a mem L j = false) ∧
      st = ⟨ofL [(1, .v (.c (.d (.sl (mem.map srow))))), (2, .v (.c (.ptr H.length 0))), (6, .v (.c (.d (.sl (L.map srow))))), (31, .v (.c (.d (.sl (L.map srow))))), (32, .int .i64 L.length), (33, .int .i64 i)], H ++ [.cells ([.v (.string e.id.a), .v (.int .i64 e.id.n), .v (.int .i64 e.clock), .v (.int .i64 e.floor), .sl (e.deps.map Id.row), .v (.int .i64 e.kind), .v (.string e.node.a), .v (.int .i64 e.node.n), .v (.string e.parent.a), .v (.int .i64 e.parent.n), .v (.bool e.neg), .v (.string e.num), .v (.string e.den), .v (.string e.field), .v (.string e.value), .v (.string e.target.a), .v (.int .i64 e.target.n), .v (.string e.who)].map .d)]⟩)
     (fun st => (∀ j, j < L.length → badN e.id.a mem L j = false) ∧ AtS [(6, .v (.c (.d (.sl (L.map srow)))))] (H ++ [.cells ([.v (.string e.id.a), .v (.int .i64 e.id.n), .v (.int .i64 e.clock), .v (.int .i64 e.floor), .sl (e.deps.map Id.row), .v (.int .i64 e.kind), .v (.string e.node.a), .v (.int .i64 e.node.n), .v (.string e.parent.a), .v (.int .i64 e.parent.n), .v (.bool e.neg), .v (.string e.num), .v (.string e.den), .v (.string e.field), .v (.string e.value), .v (.string e.target.a), .v (.int .i64 e.target.n), .v (.string e.who)].map .d)]) st) ?_ ?_ ?_
    ·refine wk_tell 6 (u := .c (.os (H.length + 1) 1 0 L.length)) (p := .c (.sl (L.map srow))) (by simp) (by simp [toPV, toD, take_of_len]) ?_
     refine wk_tell 31 (u := .c (.os (H.length + 1) 1 0 L.length)) (p := .c (.sl (L.map srow))) (by simp) (by simp [toPV, toD, frz, frz1, V.cells, take_of_len]) ?_
     have hf : frz (frz (H ++ [.cells ([.v (.string e.id.a), .v (.int .i64 e.id.n), .v (.int .i64 e.clock), .v (.int .i64 e.floor), .sl (e.deps.map Id.row), .v (.int .i64 e.kind), .v (.string e.node.a), .v (.int .i64 e.node.n), .v (.string e.parent.a), .v (.int .i64 e.parent.n), .v (.bool e.neg), .v (.string e.num), .v (.string e.den), .v (.string e.field), .v (.string e.value), .v (.string e.target.a), .v (.int .i64 e.target.n), .v (.string e.who)].map .d), .row 1 (L.map srow)]) [.os (H.length + 1) 1 0 L.length]) [.os (H.length + 1) 1 0 L.length] = H ++ [.cells ([.v (.string e.id.a), .v (.int .i64 e.id.n), .v (.int .i64 e.clock), .v (.int .i64 e.floor), .sl (e.deps.map Id.row), .v (.int .i64 e.kind), .v (.string e.node.a), .v (.int .i64 e.node.n), .v (.string e.parent.a), .v (.int .i64 e.parent.n), .v (.bool e.neg), .v (.string e.num), .v (.string e.den), .v (.string e.field), .v (.string e.value), .v (.string e.target.a), .v (.int .i64 e.target.n), .v (.string e.who)].map .d), .frow 1 (L.map srow)] := by
      simp [frz, frz1]
     rw [q1] at hf
     rw [show (V.c (.os (H.length + 1) 1 0 L.length)).cells = [.os (H.length + 1) 1 0 L.length] from rfl]
     simp only [List.map_cons, List.map_nil] at hf
     rw [hf]
     refine wk_pre [0] [1, 2, 6, 31, 32, 33] hw rfl ⟨_, 0, by omega, rfl, fun j hj => by omega, ?_⟩
     simp [phi, O.ren, phiP, q1, PV.toV]
    ·rintro J L' hJ hL' k st ⟨i, hi, rfl, hb, rfl⟩
     by_cases hlt : i < L.length
     ·obtain ⟨x, hx⟩ : ∃ x, nth L i = x := ⟨_, rfl⟩
      have g2 := xg577 mem x (by omega)
      obtain ⟨p, hp⟩ : ∃ p, p = hasS mem x := ⟨_, rfl⟩
      have hbd : badN e.id.a mem L i = (decide (x = e.id.a) || (!p || (decide (0 < i) && !strLt (nth L (i - 1)) x))) := by unfold badN; rw [hx, hp]
      rw [← hp] at g2
      by_cases c1 : x = e.id.a
      ·have hn : R0 = none := hno fun h => by
        have := h.2.2.2 i hlt
        rw [hbd] at this; simp [c1] at this
       rw [hn]
       simp (implicitDefEqProofs := false) (disch := omega) [gz, hlt, wrap64, nth_map, hx, srow, binSF, c1]
       exact fin_drop hw ⟨rfl, rfl⟩
      ·cases p
       ·have hn : R0 = none := hno fun h => by
         have := h.2.2.2 i hlt
         rw [hbd] at this; simp at this
        rw [hn]
        simp (implicitDefEqProofs := false) (disch := omega) [gz, hlt, wrap64, nth_map, hx, srow, binSF, s1, g2, c1]
        exact fin_drop hw ⟨rfl, rfl⟩
       ·by_cases c3 : 0 < i
        ·have hi1 : ((i : Int) - 1) = ((i - 1 : Nat) : Int) := by omega
         have hl1 : i - 1 < L.length := by omega
         obtain ⟨y, hy⟩ : ∃ y, nth L (i - 1) = y := ⟨_, rfl⟩
         rw [hy] at hbd
         obtain ⟨q, hq⟩ : ∃ q, strLt y x = q := ⟨_, rfl⟩
         rw [hq] at hbd
         cases q
         ·have hn : R0 = none := hno fun h => by
           have := h.2.2.2 i hlt
           rw [hbd] at this; simp [c3] at this
          rw [hn]
          simp (implicitDefEqProofs := false) (disch := omega) [gz, hlt, wrap64, nth_map, hx, srow, binSF, s1, g2, c1, c3, hi1, hl1, hy, hq]
          exact fin_drop hw ⟨rfl, rfl⟩
         ·simp (implicitDefEqProofs := false) (disch := omega) [gz, hlt, wrap64, nth_map, hx, srow, binSF, s1, g2, c1, c3, hi1, hl1, hy, hq]
          subst hJ
          refine wk_pre [0] [1, 2, 6, 31, 32, 33] hw rfl ⟨L.length - (i + 1), by omega, i + 1, by omega, rfl, fun j hj => ?_, ?_⟩
          ·by_cases e1 : j = i
           ·subst e1; rw [hbd]; simp [c1]
           ·exact hb j (by omega)
          ·simp [phi, O.ren, phiP]
        ·simp (implicitDefEqProofs := false) (disch := omega) [gz, hlt, wrap64, nth_map, hx, srow, binSF, s1, g2, c1, c3]
         subst hJ
         refine wk_pre [0] [1, 2, 6, 31, 32, 33] hw rfl ⟨L.length - (i + 1), by omega, i + 1, by omega, rfl, fun j hj => ?_, ?_⟩
         ·by_cases e1 : j = i
          ·subst e1; rw [hbd]; simp [c1, c3]
          ·exact hb j (by omega)
         ·simp [phi, O.ren, phiP]
     ·have : i = L.length := by omega
      subst this
      simp (implicitDefEqProofs := false) (disch := omega) [gz, hlt]
      subst hL'
      exact ⟨hb, at_mk (by simp) rfl⟩
    ·rintro _ ⟨hb, sl, rfl⟩
     rw [hyes ⟨q1, rfl, q2, hb⟩]
     simp (implicitDefEqProofs := false) (disch := omega) [gz, wrap64]
     exact fin_drop hw ⟨rfl, rfl⟩
   ·rw [hno (fun h => absurd h.2.2.1 q2)]
    simp (implicitDefEqProofs := false) (disch := omega) [gz, callK, b558_2, b558_3, b558_4, b558_5, q1, s1, g1, hee, wrap64]
    exact ⟨fun _ => fin_drop hw ⟨rfl, rfl⟩, fun h => absurd h (by omega)⟩
 ·rw [hno (fun h => absurd h.1 q1)]
  simp (implicitDefEqProofs := false) (disch := omega) [gz, callK, b558_2, b558_3, b558_4, b558_5, q1, hee, wrap64]
  exact fin_drop hw ⟨rfl, rfl⟩
end Go.Aw.Try

namespace Go.Aw
open Go
section
variable {P : Program} {G : Gl} {N0 : Nat}
theorem setB_again {w : World} {b : Nat} {o : Obj} (h : w.heap[b]? = some o) : setB w b o = w := by
 have : w.heap.setIfInBounds b o = w.heap := by
  apply Array.ext_getElem?
  intro i
  by_cases q : b = i
  ·subst q
   rw [Array.getElem?_setIfInBounds_self_of_lt (Array.getElem?_eq_some_iff.1 h).1, h]
  ·rw [Array.getElem?_setIfInBounds_ne q]
 show { w with heap := w.heap.setIfInBounds b o } = w
 rw [this]
/-- A region's cells, seen otherwise. -/
theorem HRel.seen {ρ : Nat → Option Nat} {H : List O} {w : World} {r : Nat} {cs cs' : List C} (hH : HRel P ρ H w) (hr : H[r]? = some (.cells cs)) (h : ∀ vs, CsRel P (ctx ρ H w) cs vs → CsRel P (ctx ρ H w) cs' vs) :
  HRel P ρ (H.set r (.cells cs')) w ∧ (ctx ρ H w).le (ctx ρ (H.set r (.cells cs')) w) := by
 obtain ⟨a, c, e, h1, h2, h3⟩ := hH.objs r _ hr
 have h2 : w.heap[a]? = some (.cells c e (0, 0)) := h2
 have le := HRel.le_setB (ρ := ρ) (w := w) hr rfl h1 h2 rfl (.cells cs') rfl
 rw [setB_again h2] at le
 have h4 := (h c h3).mono le
 have g := hH.setB hr rfl h1 h2 rfl (.cells cs') rfl ⟨a, c, e, rfl, by rw [setB_again h2]; exact h2, by rw [setB_again h2]; exact h4⟩
 rw [setB_again h2] at g
 exact ⟨g, le⟩
theorem CsRel.set {k : K} {cs : List C} {vs : Array Value} (h : CsRel P k cs vs) {j : Nat} {c c' : C} (hj : cs[j]? = some c) (hc : ∀ v, CRel P k c v → CRel P k c' v) : CsRel P k (cs.set j c') vs := by
 refine ⟨by rw [List.length_set]; exact h.1, fun i d v hd hv => ?_⟩
 rw [List.getElem?_set] at hd
 by_cases e : j = i
 ·subst e
  rw [if_pos rfl] at hd
  split at hd
  ·injection hd with hd; subst hd; exact hc v (h.2 j c v hj hv)
  ·cases hd
 ·rw [if_neg e] at hd; exact h.2 i d v hd hv
/-- A nil slice in a cell, seen as an own row without elements. -/
theorem wk_nil_cell {sl : Nat → T} {H : List O} {K : St → Prop} (r j sz : Nat) {cs : List C} (hsz : 0 < sz) (hr : H[r]? = some (.cells cs)) (hj : cs[j]? = some (.d (.v (.slice none 0 0))))
  (h : wk P G N0 ⟨sl, (H ++ [O.row sz []]).set r (.cells (cs.set j (.os H.length sz 0 0)))⟩ K) : wk P G N0 ⟨sl, H⟩ K := by
 refine wk_weak ?_ h
 intro n b ρ a w hb1 hb2 hs
 obtain ⟨g1, l1⟩ := nil_row_le hsz hs.heap
 have hr' : (H ++ [O.row sz []])[r]? = some (.cells cs) := by rw [List.getElem?_append, if_pos (lt_of_get hr)]; exact hr
 obtain ⟨g2, l2⟩ := g1.seen (cs' := cs.set j (.os H.length sz 0 0)) hr' fun vs hv => hv.set hj fun v hv => by
  rw [drel_v hv]
  exact ⟨by simp [ctx], .inl ⟨rfl, none, rfl⟩⟩
 have le := l1.trans l2
 exact ⟨ρ, g2, hs.size, hs.defers, fun i => (hs.slots i).mono le, hs.glob.mono le.step, hs.le.trans le⟩
/-- A cell told as data, its rows frozen. -/
theorem wk_tell_cell {sl : Nat → T} {H : List O} {K : St → Prop} (r j : Nat) {cs : List C} {c : C} {d : D} (hr : (frz1 H c)[r]? = some (.cells cs)) (hj : cs[j]? = some c) (hd : toD H c = some d)
  (h : wk P G N0 ⟨sl, (frz1 H c).set r (.cells (cs.set j (.d d)))⟩ K) : wk P G N0 ⟨sl, H⟩ K := by
 refine wk_weak ?_ h
 intro n b ρ a w hb1 hb2 hs
 obtain ⟨g1, l1⟩ := frz1_rel hs.heap c
 obtain ⟨g2, l2⟩ := g1.seen (cs' := cs.set j (.d d)) hr fun vs hv => hv.set hj fun v hv =>
  toD_rel g1 (fun r sz off len sz' xs e hr => frz_hz H [c] c (by simp) r sz off len sz' xs e hr) hd hv
 have le := l1.trans l2
 exact ⟨ρ, g2, hs.size, hs.defers, fun i => (hs.slots i).mono le, hs.glob.mono le.step, hs.le.trans le⟩
/-- A pointer to cells that are data is told as data; the region is no more. -/
theorem ip_rel {ρ : Nat → Option Nat} {H : List O} {w : World} {r : Nat} {ds : List D} (hH : HRel P ρ H w) (hr : H[r]? = some (.cells (ds.map .d))) {v : Value} (hv : CRel P (ctx ρ H w) (.ptr r 0) v) :
  HRel P ρ (H.set r .dead) w ∧ (ctx ρ H w).le (ctx ρ (H.set r .dead) w) ∧ DRel (stab ρ (H.set r .dead) w) w (.ip ds) v := by
 have le : (ctx ρ H w).le (ctx ρ (H.set r .dead) w) := le_drop r .dead rfl
 refine ⟨hH.drop r .dead rfl trivial, le, ?_⟩
 obtain ⟨_, b, hb, rfl⟩ := hv
 have hb : ρ r = some b := hb
 obtain ⟨a, c, e, h1, h2, h3⟩ := hH.objs r _ hr
 have h1 : ρ r = some a := h1
 have h2 : w.heap[a]? = some (.cells c e (0, 0)) := h2
 rw [hb] at h1; injection h1 with h1; subst h1
 have hcell : ∀ (j : Nat) (d : D), ds[j]? = some d → c[j]? = some (c.getD j undef) := fun j d hj => by
  have : j < c.size := by rw [h3.1, List.length_map]; exact lt_of_get hj
  rw [Array.getD_eq_getD_getElem?, Array.getElem?_eq_getElem this]; rfl
 refine .ip ds b 0 (fun j => c.getD j undef) ⟨(hH.small r b hb).2, fun r' o1 g1 l1 e1 => ?_⟩ (hH.small r b hb).2 (fun j d hj => ?_) (fun j d hj => ?_)
 ·rcases getElem?_set' _ _ _ _ _ g1 with ⟨rfl, rfl⟩ | ⟨n1, g1'⟩
  ·cases l1
  ·exact n1 (hH.inj r' r o1 _ b g1' hr l1 rfl e1 hb)
 ·rw [Nat.zero_add]
  have : w.cell? ⟨b, j, none⟩ = c[j]? := by simp [World.cell?, h2]
  rw [this]; exact hcell j d hj
 ·exact DRel.mono (h3.2 j (.d d) _ (by rw [List.getElem?_map, hj]; rfl) (hcell j d hj)) le.step
theorem fweak_tell_cell {t : T} {H : List O} (r j : Nat) {cs : List C} {c : C} {d : D} (hr : (frz1 H c)[r]? = some (.cells cs)) (hj : cs[j]? = some c) (hd : toD H c = some d) (hN : N0 ≤ H.length) :
  FWeak P N0 t H t ((frz1 H c).set r (.cells (cs.set j (.d d)))) := by
 have hl : (frz1 H c).length = H.length := by unfold frz1; split <;> (try split) <;> simp
 refine ⟨by rw [List.length_set, hl]; exact hN, fun ρ w v hH ht => ?_⟩
 obtain ⟨g1, l1⟩ := frz1_rel hH c
 obtain ⟨g2, l2⟩ := g1.seen (cs' := cs.set j (.d d)) hr fun vs hv => hv.set hj fun v hv =>
  toD_rel g1 (fun r sz off len sz' xs e hr => frz_hz H [c] c (by simp) r sz off len sz' xs e hr) hd hv
 have le := l1.trans l2
 exact ⟨ρ, g2, ht.mono le, fun _ _ => rfl, le.step.sub⟩
theorem fweak_ip {H : List O} {r : Nat} {ds : List D} (hr : H[r]? = some (.cells (ds.map .d))) (hN : N0 ≤ H.length) : FWeak P N0 (.v (.c (.ptr r 0))) H (.v (.c (.d (.ip ds)))) (H.set r .dead) := by
 refine ⟨by rw [List.length_set]; exact hN, fun ρ w v hH ht => ?_⟩
 obtain ⟨g, le, hd⟩ := ip_rel hH hr ht
 exact ⟨ρ, g, hd, fun _ _ => rfl, le.step.sub⟩
/-- A pointer to a struct with one own row is told as data. -/
theorem fin_ip1 {H L : List O} {R : T → List O → Prop} {r q j sz : Nat} {cs : List C} {ds : List D} {rows : List (List D)} (hw : Wf H) (hge : H.length ≤ r) (hge2 : H.length ≤ q) (hr : (H ++ L)[r]? = some (.cells cs)) (hq : (H ++ L)[q]? = some (.row sz rows))
  (hj : cs[j]? = some (.os q sz 0 rows.length)) (hds : cs.set j (.d (.sl rows)) = ds.map .d) (h : R (.v (.c (.d (.ip ds)))) H) : Fin P H.length R (.v (.c (.ptr r 0))) (H ++ L) := by
 have hne : q ≠ r := fun e => by subst e; rw [hr] at hq; cases hq
 have hf : frz1 (H ++ L) (.os q sz 0 rows.length) = (H ++ L).set q (.frow sz rows) := by simp only [frz1, hq]
 have hr' : (frz1 (H ++ L) (.os q sz 0 rows.length))[r]? = some (.cells cs) := by rw [hf, List.getElem?_set_ne hne]; exact hr
 have hd : toD (H ++ L) (.os q sz 0 rows.length) = some (.sl rows) := by simp [toD, hq]
 refine fin_weak (fweak_tell_cell r j hr' hj hd (by simp)) ?_
 rw [hds, hf]
 have hlt : r < (H ++ L).length := lt_of_get hr
 refine fin_weak (fweak_ip (ds := ds) (by rw [List.getElem?_set, if_pos rfl, List.length_set, if_pos hlt]) (by simp)) ?_
 rw [List.set_append_right _ _ hge2, List.set_append_right _ _ hge, List.set_append_right _ _ hge]
 exact fin_drop hw h
end
end Go.Aw

namespace Go.Aw.Try
open Go Go.Proofs Go.Aw
set_option maxRecDepth 100000
set_option maxHeartbeats 4000000
/-! ### gathered -/
structure Member where
 name : ByteArray
 key : ByteArray
def Member.row (c : Member) : List D := [.v (.string c.name), .v (.string c.key)]
instance : Inhabited Member := ⟨⟨⟨#[]⟩, ⟨#[]⟩⟩⟩
theorem take_foldl {α β : Type} [Inhabited α] (f : β → α → β) (b : β) {l : List α} {i : Nat} (h : i < l.length) : (l.take (i + 1)).foldl f b = f ((l.take i).foldl f b) (nth l i) := by
 rw [take_nth h, List.foldl_append]; rfl
noncomputable def x558 (m : Int) : XE := mkX false (fun (p : Edit × List ByteArray) => [.agg p.1.row, .c (.sl (p.2.map srow))]) (fun p => p.1.who.size < 4294967281 ∧ p.2.length < 34359738368) (fun p => namesT (namesO p.1 p.2))
theorem kx558 (m : Int) : Contract Tryz.prog (GM m) 58 (x558 m) := mkX_data fun p h H => k558 m p.1 p.2 h.1 h.2 H
theorem xg558 (m : Int) (e : Edit) (mem : List ByteArray) (h1 : e.who.size < 4294967281) (h2 : mem.length < 34359738368) : (x558 m).g [.agg e.row, .c (.sl (mem.map srow))] = some (True, namesT (namesO e mem)) := mkX_g (fun a b h => by
 simp only [List.cons.injEq, PVo.c.injEq, PVo.agg.injEq, D.sl.injEq] at h
 exact Prod.ext (Edit.row_inj h.1) (srow_inj h.2.1)) (e, mem) ⟨h1, h2⟩
abbrev encSS (m : List (ByteArray × List ByteArray)) : List (Value × PV) := encM (fun s => .string s) (fun l => .c (.sl (l.map srow))) m
theorem mfind_SS (a : ByteArray) (m : List (ByteArray × List ByteArray)) : mfind (encSS m) (.string a) = (alook m a).map fun l => PVo.c (.sl (l.map srow)) := mfind_enc (ke := fun s => Value.string s) (fun a b => rfl) a m
theorem mput_SS (a : ByteArray) (n : List ByteArray) (m : List (ByteArray × List ByteArray)) : mput (encSS m) (.string a) (.c (.sl (n.map srow))) = encSS (aput m a n) := mput_enc (ke := fun s => Value.string s) (ve := fun l => PVo.c (D.sl (l.map srow))) (fun a b => rfl) a n m
structure Gs where
 vs : List Vote
 m : List (ByteArray × List ByteArray)
/-- Does an earlier vote of that author stand against the set? -/
def blockB : Option (List ByteArray) → List ByteArray → Bool
 | none, _ => false
 | some A, S => !partS A S || decide (S.length ≤ A.length)
noncomputable def gatS (mem : List ByteArray) (g : Gs) (e : Edit) : Gs := match namesO e mem with
 | none => g
 | some S => if blockB (alook g.m e.id.a) S = true then g else ⟨g.vs ++ [⟨e, S⟩], aput g.m e.id.a S⟩
noncomputable def gatF (mem : List ByteArray) (l : List Edit) : Gs := l.foldl (gatS mem) ⟨[], []⟩
noncomputable def gatC (l : List Edit) (all : List Member) : Cn := ⟨all.map Member.name, l, (gatF (all.map Member.name) (sortE l)).vs⟩
theorem sortE_mem {l : List Edit} {e : Edit} (h : e ∈ sortE l) : e ∈ l := ((ssort_flt cmpE_pre l).mem cmpE_pre).1 ((cmpt_sub _ _).subset h)
theorem gatF_len (mem : List ByteArray) (l : List Edit) : (gatF mem l).vs.length ≤ l.length := by
 have key : ∀ (l : List Edit) (g : Gs), (l.foldl (gatS mem) g).vs.length ≤ g.vs.length + l.length := by
  intro l
  induction l with
  | nil => intro g; simp
  | cons e l ih =>
   intro g
   have := ih (gatS mem g e)
   have h2 : (gatS mem g e).vs.length ≤ g.vs.length + 1 := by
    unfold gatS; split
    ·omega
    ·split <;> simp
   simp only [List.foldl_cons, List.length_cons]; omega
 have := key l ⟨[], []⟩
 simpa [gatF] using this
theorem namesO_some {e : Edit} {mem T : List ByteArray} (h : namesO e mem = some T) : T = parts e.who comma ∧ e.kind = 5 ∧ hasS mem e.id.a = true ∧ 2 * T.length < mem.length ∧ ∀ j, j < T.length → badN e.id.a mem T j = false := by
 unfold namesO at h
 split at h
 ·rename_i hc
  injection h with h; subst h
  exact ⟨rfl, hc.1, hc.2.1, hc.2.2.1, hc.2.2.2⟩
 ·cases h
theorem gat_small {M : List ByteArray} {l : List Edit} (h : ∀ e ∈ l, e.who.size < 4294967281) : ∀ a A, alook (gatF M l).m a = some A → A.length < 4294967283 := by
 have key : ∀ (l : List Edit) (g : Gs), (∀ e ∈ l, e.who.size < 4294967281) → (∀ a A, alook g.m a = some A → A.length < 4294967283) → ∀ a A, alook (l.foldl (gatS M) g).m a = some A → A.length < 4294967283 := by
  intro l
  induction l with
  | nil => intro g _ hg; exact hg
  | cons e l ih =>
   intro g hl hg
   refine ih (gatS M g e) (fun x hx => hl x (List.mem_cons_of_mem _ hx)) ?_
   intro a A hA
   unfold gatS at hA
   split at hA
   ·exact hg a A hA
   ·rename_i T hT
    split at hA
    ·exact hg a A hA
    ·rw [alook_aput] at hA
     split at hA
     ·injection hA with hA; subst hA
      have h1 := (namesO_some hT).1
      have h2 := parts_le e.who
      have h3 := hl e (List.mem_cons_self ..)
      rw [h1]; omega
     ·exact hg a A hA
 exact key l ⟨[], []⟩ h (fun a A hA => by cases hA)
theorem k534 (m : Int) (l : List Edit) (all : List Member) (h1 : l.length < 34359738368) (h2 : all.length < 34359738368) (h3 : ∀ e ∈ l, e.who.size < 4294967281) (H : List O) :
  ACalls Tryz.prog (GM m) 34 [.c (.d (.sl (l.map Edit.row))), .c (.d (.sl (all.map Member.row)))] H fun t H' => t = .v (.c (.d (.ip (gatC l all).cs))) ∧ H' = H := by
 have s1 : x20.sc = false := rfl
 have s2 : (x558 m).sc = false := rfl
 have s3 : x559.sc = true := rfl
 have g1 := xg20 l (by omega)
 obtain ⟨M, hM⟩ : ∃ M, M = all.map Member.name := ⟨_, rfl⟩
 have hMl : M.length = all.length := by rw [hM, List.length_map]
 refine acallsX (X := [(57, x20), (58, x558 m), (59, x559)]) ⟨kx20.gm, kx558 m, kx559.gm, trivial⟩ tab hmix Tryz.func34 c534 (by rfl) fun hw => ?_
 simp (implicitDefEqProofs := false) (disch := omega) [gz, ir534, b534, b534_0, b534_1, b534_2, wrap64, splice, fillC]
 refine loopE (fun k st => ∃ i, i ≤ all.length ∧ k = all.length - i ∧
   st = ⟨ofL [(0, .v (.c (.d (.sl (l.map Edit.row))))), (5, .v (.c (.ptr H.length 0))), (18, .v (.c (.d (.sl (all.map Member.row))))), (19, .int .i64 all.length), (20, .int .i64 i)],
    H ++ [.cells [.os (H.length + 1) 1 0 i, .d (.sl (l.map Edit.row)), .d (.v (.slice none 0 0))], .row 1 ((M.take i).map srow)]⟩)
  (fun st => AtS [(0, .v (.c (.d (.sl (l.map Edit.row))))), (5, .v (.c (.ptr H.length 0)))] (H ++ [.cells [.os (H.length + 1) 1 0 all.length, .d (.sl (l.map Edit.row)), .d (.v (.slice none 0 0))], .row 1 (M.map srow)]) st) ?_ ?_ ?_
 ·refine wk_nil_cell H.length 0 1 (by omega) (cs := [.d (.v (.slice none 0 0)), .d (.sl (l.map Edit.row)), .d (.v (.slice none 0 0))]) (by simp) rfl ?_
  have hf : (H ++ [O.cells [.d (.v (.slice none 0 0)), .d (.sl (l.map Edit.row)), .d (.v (.slice none 0 0))]] ++ [O.row 1 []]).set H.length (O.cells ([C.d (.v (.slice none 0 0)), .d (.sl (l.map Edit.row)), .d (.v (.slice none 0 0))].set 0 (.os (H ++ [O.cells [.d (.v (.slice none 0 0)), .d (.sl (l.map Edit.row)), .d (.v (.slice none 0 0))]]).length 1 0 0))) = H ++ [.cells [.os (H.length + 1) 1 0 0, .d (.sl (l.map Edit.row)), .d (.v (.slice none 0 0))], .row 1 []] := by simp
  rw [hf]
  refine wk_pre [0, 1] [0, 5, 18, 19, 20] hw rfl ⟨_, 0, by omega, rfl, ?_⟩
  simp [phiP, phi, O.ren]
 ·rintro J L hJ hL k st ⟨i, hi, rfl, rfl⟩
  by_cases hlt : i < all.length
  ·obtain ⟨x, hx⟩ : ∃ x, nth all i = x := ⟨_, rfl⟩
   have hme : x.row = [.v (.string x.name), .v (.string x.key)] := rfl
   simp (implicitDefEqProofs := false) (disch := omega) [gz, hlt, wrap64, nth_map, hx, hme, splice, fillC, toPVs, frzVs, osVs, toPV, Nat.add_assoc]
   repeat' (with_reducible apply And.intro)
   all_goals first | omega | kernel_rfl | exact fun _ _ => rfl | skip
   have hst : M.take (i + 1) = M.take i ++ [x.name] := by
    rw [take_nth (by omega), hM, nth_map _ hlt, hx]
   subst hJ
   refine wk_pre [0, 4] [0, 5, 18, 19, 20] hw rfl ⟨all.length - (i + 1), by omega, i + 1, by omega, rfl, ?_⟩
   rw [hst]; simp [phiP, phi, O.ren, srow, show ¬ (H.length + 4 < H.length) from by omega]
  ·have : i = all.length := by omega
   subst this
   rw [List.take_of_length_le (by omega)]
   simp (implicitDefEqProofs := false) (disch := omega) [gz, hlt]
   subst hL
   exact at_mk (by simp) rfl
 ·rintro _ ⟨sl, rfl⟩
  obtain ⟨S, hS⟩ : ∃ S, S = sortE l := ⟨_, rfl⟩
  have hSl : S.length ≤ l.length := by rw [hS]; exact sortE_len l
  have hSm : ∀ e ∈ S, e.who.size < 4294967281 := fun e he => h3 e (by rw [hS] at he; exact sortE_mem he)
  have hc : gatC l all = ⟨M, l, (gatF M S).vs⟩ := by unfold gatC; rw [← hM, ← hS]
  rw [← hS] at g1
  rw [hc]
  simp (implicitDefEqProofs := false) (disch := omega) [gz, b534_3, b534_4, s1, g1, wrap64, toPVs, frzVs, osVs, toPV]
  refine loopE (fun k st => ∃ (i : Nat) (g : Gs), i ≤ S.length ∧ k = S.length - i ∧ g = gatF M (S.take i) ∧
    st = ⟨ofL [(5, .v (.c (.ptr H.length 0))), (8, .v (.c (.mp (H.length + 1)))), (38, .v (.c (.d (.sl (S.map Edit.row))))), (39, .int .i64 S.length), (40, .int .i64 i)],
     H ++ [.cells [.d (.sl (M.map srow)), .d (.sl (l.map Edit.row)), .os (H.length + 2) 19 0 g.vs.length], .map ktS (encSS g.m), .row 19 (g.vs.map Vote.row)]⟩)
   (fun st => ∃ g, g = gatF M S ∧ AtS [(5, .v (.c (.ptr H.length 0)))] (H ++ [.cells [.d (.sl (M.map srow)), .d (.sl (l.map Edit.row)), .os (H.length + 2) 19 0 g.vs.length], .map ktS (encSS g.m), .row 19 (g.vs.map Vote.row)]) st) ?_ ?_ ?_
  ·refine wk_tell_cell H.length 0 (cs := [.os (H.length + 1) 1 0 all.length, .d (.sl (l.map Edit.row)), .d (.v (.slice none 0 0))]) (c := .os (H.length + 1) 1 0 all.length) (d := .sl (M.map srow)) (by simp [frz1]) rfl (by simp [toD, hMl, take_of_len]) ?_
   have hf : (frz1 (H ++ [O.cells [.os (H.length + 1) 1 0 all.length, .d (.sl (l.map Edit.row)), .d (.v (.slice none 0 0))], .row 1 (M.map srow), .map ktS []]) (C.os (H.length + 1) 1 0 all.length)).set H.length (O.cells ([C.os (H.length + 1) 1 0 all.length, .d (.sl (l.map Edit.row)), .d (.v (.slice none 0 0))].set 0 (C.d (D.sl (M.map srow))))) =
     H ++ [O.cells [.d (.sl (M.map srow)), .d (.sl (l.map Edit.row)), .d (.v (.slice none 0 0))], .frow 1 (M.map srow), .map ktS []] := by simp [frz1]
   rw [hf]
   refine wk_nil_cell H.length 2 19 (by omega) (cs := [.d (.sl (M.map srow)), .d (.sl (l.map Edit.row)), .d (.v (.slice none 0 0))]) (by simp) rfl ?_
   have hf2 : (H ++ [O.cells [.d (.sl (M.map srow)), .d (.sl (l.map Edit.row)), .d (.v (.slice none 0 0))], .frow 1 (M.map srow), .map ktS []] ++ [O.row 19 []]).set H.length (O.cells ([C.d (.sl (M.map srow)), .d (.sl (l.map Edit.row)), .d (.v (.slice none 0 0))].set 2 (.os (H ++ [O.cells [.d (.sl (M.map srow)), .d (.sl (l.map Edit.row)), .d (.v (.slice none 0 0))], .frow 1 (M.map srow), .map ktS []]).length 19 0 0))) =
     H ++ [O.cells [.d (.sl (M.map srow)), .d (.sl (l.map Edit.row)), .os (H.length + 3) 19 0 0], .frow 1 (M.map srow), .map ktS [], .row 19 []] := by simp
   rw [hf2]
   refine wk_pre [0, 2, 3] [5, 8, 38, 39, 40] hw rfl ⟨_, 0, ⟨[], []⟩, by omega, rfl, rfl, ?_⟩
   simp [phiP, phi, O.ren, encM, show ¬ (H.length + 2 < H.length) from by omega, show ¬ (H.length + 3 < H.length) from by omega]
  ·rintro J L hJ hL k st ⟨i, g, hi, rfl, hg, rfl⟩
   by_cases hlt : i < S.length
   ·obtain ⟨e, he⟩ : ∃ e, nth S i = e := ⟨_, rfl⟩
    have hem : e ∈ S := by rw [← he]; exact nth_mem hlt
    have hst : gatF M (S.take (i + 1)) = gatS M g e := by rw [gatF, take_foldl _ _ hlt, he, hg]; rfl
    have g2 := xg558 m e M (hSm e hem) (by omega)
    have hsm := gat_small (M := M) (l := S.take i) (fun x hx => hSm x (List.mem_of_mem_take hx))
    rw [← hg] at hsm
    have hgl : g.vs.length ≤ i := by rw [hg]; have := gatF_len M (S.take i); simp at this; omega
    have hf := mfind_SS e.id.a g.m
    have hee := Edit.row_eq e
    obtain ⟨N, hN⟩ : ∃ N, N = namesO e M := ⟨_, rfl⟩
    unfold gatS at hst
    rw [← hN] at g2 hst
    rw [hee] at g2
    cases N with
    | none =>
     have hT : namesT none = .tup [.c (.d (.v (.slice none 0 0))), .c (.d (.v (.bool false)))] := rfl
     rw [hT] at g2
     cases ha : alook g.m e.id.a with
     | none =>
      rw [ha, Option.map_none] at hf
      simp (implicitDefEqProofs := false) (disch := omega) [gz, hlt, wrap64, nth_map, he, hee, s2, g2, hf, splice, fillC, toPVs, frzVs, osVs, toPV, Nat.add_assoc, conf, sksOk, skOk, PV.toV]
      repeat' (with_reducible apply And.intro)
      all_goals first | omega | kernel_rfl | exact fun _ _ => rfl | skip
      subst hJ
      refine wk_pre [0, 1, 2] [5, 8, 38, 39, 40] hw rfl ⟨S.length - (i + 1), by omega, i + 1, g, by omega, rfl, by rw [hst], ?_⟩
      simp [phiP, phi, O.ren, show ¬ (H.length + 1 < H.length) from by omega, show ¬ (H.length + 2 < H.length) from by omega]
     | some A =>
      rw [ha, Option.map_some] at hf
      simp (implicitDefEqProofs := false) (disch := omega) [gz, hlt, wrap64, nth_map, he, hee, s2, g2, hf, splice, fillC, toPVs, frzVs, osVs, toPV, Nat.add_assoc, conf, sksOk, skOk, PV.toV]
      repeat' (with_reducible apply And.intro)
      all_goals first | omega | kernel_rfl | exact fun _ _ => rfl | skip
      subst hJ
      refine wk_pre [0, 1, 2] [5, 8, 38, 39, 40] hw rfl ⟨S.length - (i + 1), by omega, i + 1, g, by omega, rfl, by rw [hst], ?_⟩
      simp [phiP, phi, O.ren, show ¬ (H.length + 1 < H.length) from by omega, show ¬ (H.length + 2 < H.length) from by omega]
    | some T =>
     have hT : namesT (some T) = .tup [.c (.d (.sl (T.map srow))), .c (.d (.v (.bool true)))] := rfl
     have hTl : T.length < 4294967283 := by
      rw [(namesO_some hN.symm).1]
      have h2 := parts_le e.who
      have h3 := hSm e hem
      omega
     rw [hT] at g2
     cases ha : alook g.m e.id.a with
     | none =>
      rw [ha, Option.map_none] at hf
      rw [ha] at hst
      simp (implicitDefEqProofs := false) (disch := omega) [gz, hlt, wrap64, nth_map, he, hee, s2, g2, hf, splice, fillC, toPVs, frzVs, osVs, toPV, Nat.add_assoc, conf, sksOk, skOk, PV.toV, toDs, mput_SS]
      repeat' (with_reducible apply And.intro)
      all_goals first | omega | kernel_rfl | exact fun _ _ => rfl | skip
      subst hJ
      refine wk_pre [0, 1, 5] [5, 8, 38, 39, 40] hw rfl ⟨S.length - (i + 1), by omega, i + 1, ⟨g.vs ++ [⟨e, T⟩], aput g.m e.id.a T⟩, by omega, rfl, by rw [hst]; simp [blockB], ?_⟩
      simp [phiP, phi, O.ren, Vote.row, Edit.row, show ¬ (H.length + 1 < H.length) from by omega, show ¬ (H.length + 2 < H.length) from by omega, show ¬ (H.length + 5 < H.length) from by omega]
     | some A =>
      rw [ha, Option.map_some] at hf
      rw [ha] at hst
      have hAl := hsm _ _ ha
      have g3 := xg559 A T (by omega) (by omega)
      obtain ⟨q, hq⟩ : ∃ q, q = partS A T := ⟨_, rfl⟩
      have hbl : blockB (some A) T = (!q || decide (T.length ≤ A.length)) := by rw [hq]; rfl
      rw [← hq] at g3
      cases q
      ·simp (implicitDefEqProofs := false) (disch := omega) [gz, hlt, wrap64, nth_map, he, hee, s2, g2, hf, splice, fillC, toPVs, frzVs, osVs, toPV, Nat.add_assoc, conf, sksOk, skOk, PV.toV, s3, g3]
       repeat' (with_reducible apply And.intro)
       all_goals first | omega | kernel_rfl | exact fun _ _ => rfl | skip
       subst hJ
       refine wk_pre [0, 1, 2] [5, 8, 38, 39, 40] hw rfl ⟨S.length - (i + 1), by omega, i + 1, g, by omega, rfl, by rw [hst]; simp [hbl], ?_⟩
       simp [phiP, phi, O.ren, show ¬ (H.length + 1 < H.length) from by omega, show ¬ (H.length + 2 < H.length) from by omega, show ¬ (H.length + 5 < H.length) from by omega]
      ·by_cases c : T.length ≤ A.length
       ·simp (implicitDefEqProofs := false) (disch := omega) [gz, hlt, wrap64, nth_map, he, hee, s2, g2, hf, splice, fillC, toPVs, frzVs, osVs, toPV, Nat.add_assoc, conf, sksOk, skOk, PV.toV, s3, g3, c]
        repeat' (with_reducible apply And.intro)
        all_goals first | omega | kernel_rfl | exact fun _ _ => rfl | skip
        subst hJ
        refine wk_pre [0, 1, 2] [5, 8, 38, 39, 40] hw rfl ⟨S.length - (i + 1), by omega, i + 1, g, by omega, rfl, by rw [hst]; simp [hbl, c], ?_⟩
        simp [phiP, phi, O.ren, show ¬ (H.length + 1 < H.length) from by omega, show ¬ (H.length + 2 < H.length) from by omega, show ¬ (H.length + 5 < H.length) from by omega]
       ·simp (implicitDefEqProofs := false) (disch := omega) [gz, hlt, wrap64, nth_map, he, hee, s2, g2, hf, splice, fillC, toPVs, frzVs, osVs, toPV, Nat.add_assoc, conf, sksOk, skOk, PV.toV, s3, g3, c, toDs, mput_SS]
        repeat' (with_reducible apply And.intro)
        all_goals first | omega | kernel_rfl | exact fun _ _ => rfl | skip
        subst hJ
        refine wk_pre [0, 1, 5] [5, 8, 38, 39, 40] hw rfl ⟨S.length - (i + 1), by omega, i + 1, ⟨g.vs ++ [⟨e, T⟩], aput g.m e.id.a T⟩, by omega, rfl, by rw [hst]; simp [hbl, c], ?_⟩
        simp [phiP, phi, O.ren, Vote.row, Edit.row, show ¬ (H.length + 1 < H.length) from by omega, show ¬ (H.length + 2 < H.length) from by omega, show ¬ (H.length + 5 < H.length) from by omega]
   ·have : i = S.length := by omega
    subst this
    rw [List.take_length] at hg
    simp (implicitDefEqProofs := false) (disch := omega) [gz, hlt]
    subst hL
    exact ⟨g, hg, at_mk (by simp) rfl⟩
  ·rintro _ ⟨g, rfl, sl, rfl⟩
   simp (implicitDefEqProofs := false) (disch := omega) [gz, b534_5, b534_6, wrap64]
   obtain ⟨V, hV⟩ : ∃ V, V = gatF M S := ⟨_, rfl⟩
   rw [← hV]
   exact fin_ip1 (r := H.length) (q := H.length + 2) (j := 2) (sz := 19) (rows := V.vs.map Vote.row) (cs := [.d (.sl (M.map srow)), .d (.sl (l.map Edit.row)), .os (H.length + 2) 19 0 V.vs.length]) (ds := [.sl (M.map srow), .sl (l.map Edit.row), .sl (V.vs.map Vote.row)]) hw (by omega) (by omega) (by simp) (by simp) (by simp) rfl ⟨rfl, rfl⟩
end Go.Aw.Try

namespace Go.Aw.Try
open Go Go.Proofs Go.Aw
set_option maxRecDepth 100000
set_option maxHeartbeats 4000000
/-! ### Cutoffs -/
noncomputable def x534 (m : Int) : XE := mkX false (fun (p : List Edit × List Member) => [.c (.sl (p.1.map Edit.row)), .c (.sl (p.2.map Member.row))]) (fun p => p.1.length < 34359738368 ∧ p.2.length < 34359738368 ∧ ∀ e ∈ p.1, e.who.size < 4294967281) (fun p => .v (.c (.d (.ip (gatC p.1 p.2).cs))))
theorem kx534 (m : Int) : Contract Tryz.prog (GM m) 34 (x534 m) := mkX_data fun p h H => k534 m p.1 p.2 h.1 h.2.1 h.2.2 H
theorem Member.row_inj {a b : Member} (h : a.row = b.row) : a = b := by
 cases a; cases b
 simp [Member.row] at h
 simp [h]
theorem mrows_inj {l l' : List Member} (h : l.map Member.row = l'.map Member.row) : l = l' := map_inj (fun a b => Member.row_inj) h
theorem xg534 (m : Int) (l : List Edit) (all : List Member) (h1 : l.length < 34359738368) (h2 : all.length < 34359738368) (h3 : ∀ e ∈ l, e.who.size < 4294967281) : (x534 m).g [.c (.sl (l.map Edit.row)), .c (.sl (all.map Member.row))] = some (True, .v (.c (.d (.ip (gatC l all).cs)))) := mkX_g (fun a b h => by
 simp only [List.cons.injEq, PVo.c.injEq, D.sl.injEq] at h
 exact Prod.ext (rows_inj h.1) (mrows_inj h.2.1)) (l, all) ⟨h1, h2, h3⟩
/-- The cutoffs of one evicted member. -/
def cutOf (c : Cn) (sets : List (List ByteArray)) (fin : Bool) (s : ByteArray) : List Cutoff := ⟨s, uptoE c.vs sets s (sets.length - 1), 22⟩ :: if fin = true then [] else [⟨s, sureN c.vs s, 19⟩]
def cutsC (c : Cn) (sets : List (List ByteArray)) : List Cutoff := if sets.length = 0 then [] else (nth sets (sets.length - 1)).flatMap (cutOf c sets (finalB c (nth sets (sets.length - 1))))
noncomputable def cutsE (l : List Edit) (all : List Member) : List Cutoff := cutsC (gatC l all) (outL (gatC l all).mem (gatC l all).vs)
structure okC (l : List Edit) (all : List Member) : Prop where
 len : l.length < 68719476
 mlen : all.length < 34359738368
 who : ∀ e ∈ l, e.who.size < 4294967281
 good : Good l
 out : (outU (gatC l all).mem (gatC l all).vs (gatC l all).vs).length ≤ 12
/-- Every vote counted is one of the edits, with the set that it names. -/
theorem gatF_mem {M : List ByteArray} {l : List Edit} {v : Vote} (h : v ∈ (gatF M l).vs) : v.e ∈ l ∧ namesO v.e M = some v.set := by
 have key : ∀ (l : List Edit) (g : Gs) (v : Vote), v ∈ (l.foldl (gatS M) g).vs → v ∈ g.vs ∨ (v.e ∈ l ∧ namesO v.e M = some v.set) := by
  intro l
  induction l with
  | nil => intro g v h; exact .inl h
  | cons e l ih =>
   intro g v h
   rcases ih (gatS M g e) v h with h1 | ⟨h1, h2⟩
   ·unfold gatS at h1
    split at h1
    ·exact .inl h1
    ·rename_i S hS
     split at h1
     ·exact .inl h1
     ·rcases List.mem_append.1 h1 with h1 | h1
      ·exact .inl h1
      ·simp only [List.mem_singleton] at h1; subst h1
       exact .inr ⟨List.mem_cons_self .., hS⟩
   ·exact .inr ⟨List.mem_cons_of_mem _ h1, h2⟩
 rcases key l ⟨[], []⟩ v h with h | h
 ·cases h
 ·exact h
theorem gatC_mem {l : List Edit} {all : List Member} {v : Vote} (h : v ∈ (gatC l all).vs) : v.e ∈ l ∧ namesO v.e (all.map Member.name) = some v.set :=
 ⟨sortE_mem (gatF_mem h).1, (gatF_mem h).2⟩
theorem gatC_len (l : List Edit) (all : List Member) : (gatC l all).vs.length ≤ l.length := Nat.le_trans (gatF_len _ _) (sortE_len l)
theorem outU_mem {mem : List ByteArray} {vs l : List Vote} {s : List ByteArray} (h : s ∈ outU mem vs l) : ∃ v ∈ l, v.set = s ∧ decB mem vs s = true := by
 have key : ∀ (l : List Vote) (a : List (List ByteArray)), s ∈ l.foldl (outStep mem vs) a → s ∈ a ∨ ∃ v ∈ l, v.set = s ∧ decB mem vs s = true := by
  intro l
  induction l with
  | nil => intro a h; exact .inl h
  | cons v l ih =>
   intro a h
   rcases ih _ h with h1 | ⟨u, hu, h2⟩
   ·unfold outStep at h1
    split at h1
    ·rename_i hc
     rcases List.mem_append.1 h1 with h1 | h1
     ·exact .inl h1
     ·simp only [List.mem_singleton] at h1
      simp at hc
      exact .inr ⟨v, List.mem_cons_self .., h1.symm, by rw [h1]; exact hc.1⟩
    ·exact .inl h1
   ·exact .inr ⟨u, List.mem_cons_of_mem _ hu, h2⟩
 rcases key l [] h with h | h
 ·cases h
 ·exact h
def cmpZ (a b : List ByteArray) : Int := (a.length : Int) - b.length
theorem cmpZ_pre : Pre cmpZ := ⟨fun a b => by simp only [cmpZ]; omega, fun a b c => by simp only [cmpZ]; omega⟩
theorem nth_q {α : Type} [Inhabited α] {Q : α → Prop} (hd : Q default) {l : List α} (h : ∀ x ∈ l, Q x) (i : Nat) : Q (nth l i) := by
 by_cases hi : i < l.length
 ·exact h _ (nth_mem hi)
 ·simp only [nth, List.getD_eq_getElem?_getD]
  rw [List.getElem?_eq_none (by omega)]; exact hd
theorem insP_congr {α : Type} [Inhabited α] {cmp cmp' : α → α → Int} {Q : α → Prop} (hd : Q default) (hc : ∀ a b, Q a → Q b → cmp a b = cmp' a b) {es : List α} (h : ∀ x ∈ es, Q x) (a : Nat) {v : α} (hv : Q v) : ∀ i, insP cmp es a v i = insP cmp' es a v i
 | 0 => rfl
 | j + 1 => by
  simp only [insP]
  rw [hc _ _ hv (nth_q hd h j), insP_congr hd hc h a hv j]
theorem insN_congr {α : Type} [Inhabited α] {cmp cmp' : α → α → Int} {Q : α → Prop} (hd : Q default) (hc : ∀ a b, Q a → Q b → cmp a b = cmp' a b) (a : Nat) : ∀ (n i : Nat) (es : List α), (∀ x ∈ es, Q x) → insN cmp a n i es = insN cmp' a n i es
 | 0, _, _, _ => rfl
 | n + 1, i, es, h => by
  simp only [insN]
  rw [insP_congr hd hc h a (nth_q hd h i) i]
  exact insN_congr hd hc a n (i + 1) _ (fun x hx => by
   unfold mv at hx
   rcases List.mem_append.1 hx with hx | hx
   ·exact h x (List.mem_of_mem_take hx)
   ·rcases List.mem_cons.1 hx with rfl | hx
    ·exact nth_q hd h i
    ·rcases List.mem_append.1 hx with hx | hx
     ·exact h x (List.mem_of_mem_drop (List.mem_of_mem_take hx))
     ·exact h x (List.mem_of_mem_drop hx))
def SmallS (s : List ByteArray) : Prop := s.length < 4611686018427387904
theorem sortL_spec {es : List (List ByteArray)} (h : ∀ s ∈ es, SmallS s) : Srt cmpZ (sortL es) ∧ Flt cmpZ (sortL es) es ∧ (sortL es).length = es.length := by
 have e : sortL es = insN cmpZ 0 (es.length - 1) 1 es := insN_congr (Q := SmallS) (by show (0 : Nat) < _; omega) (fun a b ha hb => by
  unfold cmpL cmpZ; unfold SmallS at ha hb
  exact wrap64 (by omega) (by omega)) 0 _ _ es h
 obtain ⟨w, h1, h2, h3, h4⟩ := ins_sorts cmpZ_pre (P := []) (u := es) (S := [])
 have : sortL es = w := by rw [e]; simpa using h1
 rw [this]; exact ⟨h2, h3, h4⟩
theorem outU_small {mem : List ByteArray} {vs : List Vote} (h : ∀ v ∈ vs, SmallS v.set) : ∀ s ∈ outU mem vs vs, SmallS s := fun s hs => by
 obtain ⟨v, hv, rfl, _⟩ := outU_mem hs; exact h v hv
theorem outL_mem {mem : List ByteArray} {vs : List Vote} (h : ∀ v ∈ vs, SmallS v.set) {s : List ByteArray} : s ∈ outL mem vs ↔ s ∈ outU mem vs vs := (sortL_spec (outU_small h)).2.1.mem cmpZ_pre
theorem outL_len {mem : List ByteArray} {vs : List Vote} (h : ∀ v ∈ vs, SmallS v.set) : (outL mem vs).length = (outU mem vs vs).length := (sortL_spec (outU_small h)).2.2
theorem k514o (m : Int) (l : List Edit) (all : List Member) (h : okC l all) (H : List O) :
  ACalls Tryz.prog (GM m) 14 [.c (.d (.sl (l.map Edit.row))), .c (.d (.sl (all.map Member.row)))] H (Own H 3 ((cutsE l all).map Cutoff.row)) := by
 have s1 : (x534 m).sc = false := rfl
 have s2 : x536.sc = true := rfl
 have s4 : x538.sc = true := rfl
 have hlen := h.len
 have g1 := xg534 m l all (by omega) h.mlen h.who
 obtain ⟨c, hc⟩ : ∃ c, c = gatC l all := ⟨_, rfl⟩
 have hcl : c.l = l := by rw [hc]; rfl
 have hcm : c.mem.length < 34359738368 := by rw [hc]; show (all.map Member.name).length < _; rw [List.length_map]; exact h.mlen
 have hcv : c.vs.length < 34359738368 := by rw [hc]; have := gatC_len l all; omega
 have hset : ∀ v ∈ c.vs, v.set.length < 4611686018427387904 := fun v hv => by
  rw [hc] at hv
  obtain ⟨q1, q2⟩ := gatC_mem hv
  rw [(namesO_some q2).1]
  have := parts_le v.e.who
  have := h.who v.e q1
  omega
 have hgv : GoodV c.vs := fun v hv => by
  rw [hc] at hv
  exact h.good v.e (gatC_mem hv).1
 have hgl : Good c.l := by rw [hcl]; exact h.good
 have hout : (outU c.mem c.vs c.vs).length ≤ 12 := by rw [hc]; exact h.out
 have hE : cutsE l all = cutsC c (outL c.mem c.vs) := by rw [hc]; rfl
 obtain ⟨sets, hsets⟩ : ∃ s, s = outL c.mem c.vs := ⟨_, rfl⟩
 have hsl : sets.length = (outU c.mem c.vs c.vs).length := by rw [hsets]; exact outL_len hset
 have hsm : ∀ s ∈ sets, s.length < 4611686018427387904 := fun s hs => by
  rw [hsets] at hs
  obtain ⟨v, hv, rfl, _⟩ := outU_mem ((outL_mem hset).1 hs)
  exact hset v hv
 obtain ⟨X0, hX0⟩ : ∃ X0, X0 = x537 sets.length := ⟨_, rfl⟩
 have hkX : Contract Tryz.prog (GM m) 37 X0 := by rw [hX0]; exact (kx537 _).gm
 have s3 : X0.sc = true := by rw [hX0]; rfl
 rw [← hc] at g1
 rw [hE, ← hsets]
 refine acallsX (X := [(34, x534 m), (36, x536), (37, X0), (38, x538)]) ⟨kx534 m, kx536.gm, hkX, kx538.gm, trivial⟩ tab hmix Tryz.func14 c514 (by rfl) fun hw => ?_
 simp (implicitDefEqProofs := false) (disch := omega) [gz, ir514, b514, b514_0, b514_1, b514_2, s1, g1, wrap64, toPVs, frzVs, osVs, toPV]
 have hk := (k535 c hcv hcm hset hout H).gm (G := GM m)
 rw [← hsets] at hk
 refine hk.mono ?_
 rintro t H' ⟨rfl, rfl⟩
 rw [← hsl]
 by_cases h0 : sets.length = 0
 ·have hce : cutsC c sets = [] := by unfold cutsC; rw [if_pos h0]
  rw [hce]
  simp (implicitDefEqProofs := false) (disch := omega) [gz, callK, b514_3, b514_4, b514_5, b514_6, b514_7, b514_8, b514_9, h0, wrap64]
  exact fin_own_nil hw (by omega)
 ·obtain ⟨n, hn⟩ : ∃ n, sets.length = n + 1 := ⟨sets.length - 1, by omega⟩
  have hn1 : n < sets.length := by omega
  obtain ⟨set, hst⟩ : ∃ s, nth sets n = s := ⟨_, rfl⟩
  have hstm : set ∈ sets := by rw [← hst]; exact nth_mem hn1
  have hstl := hsm set hstm
  have g2 := xg536 c set hcv hcm hstl hgl (by rw [hcl]; omega)
  obtain ⟨fin, hfin⟩ : ∃ b, b = finalB c set := ⟨_, rfl⟩
  rw [← hfin] at g2
  have hce : cutsC c sets = set.flatMap (cutOf c sets fin) := by
   unfold cutsC; rw [if_neg h0, show sets.length - 1 = n from by omega, hst, hfin]
  rw [hce]
  have hse : setrow set = [D.sl (set.map srow)] := rfl
  simp (implicitDefEqProofs := false) (disch := omega) [gz, callK, b514_3, b514_4, b514_5, b514_6, b514_7, b514_8, b514_9, hn, hn1, hst, hse, nth_map, s2, g2, wrap64]
  refine ⟨fun h => absurd h (by omega), fun _ => ⟨by omega, ?_⟩⟩
  have hstb : set.length < 4294967283 := by
   obtain ⟨v, hv, hv2, _⟩ := outU_mem ((outL_mem hset).1 (by rw [← hsets]; exact hstm))
   rw [hc] at hv
   obtain ⟨q1, q2⟩ := gatC_mem hv
   rw [← hv2, (namesO_some q2).1]
   have := parts_le v.e.who
   have := h.who v.e q1
   omega
  have hDl : ∀ x : List ByteArray, (x.flatMap (cutOf c sets fin)).length ≤ 2 * x.length := fun x => by
   induction x with
   | nil => simp
   | cons a x ih =>
    have : (cutOf c sets fin a).length ≤ 2 := by unfold cutOf; cases fin <;> simp
    simp only [List.flatMap_cons, List.length_append, List.length_cons]; omega
  have hu : okU c sets := ⟨hcv, hgv, by omega, hsm⟩
  refine loopE (fun k st => ∃ i, i ≤ set.length ∧ k = set.length - i ∧
    st = ⟨ofL [(5, .v (.c (.d (.ip c.cs)))), (6, .v (.c (.d (.sl (sets.map setrow))))), (7, .int .i64 n), (8, .bool fin), (9, .v (.c (.os H.length 3 0 ((set.take i).flatMap (cutOf c sets fin)).length))), (32, .v (.c (.d (.sl (set.map srow))))), (33, .int .i64 set.length), (34, .int .i64 i)],
     H ++ [.row 3 (((set.take i).flatMap (cutOf c sets fin)).map Cutoff.row)]⟩)
   (fun st => AtS [(9, .v (.c (.os H.length 3 0 (set.flatMap (cutOf c sets fin)).length)))] (H ++ [.row 3 ((set.flatMap (cutOf c sets fin)).map Cutoff.row)]) st) ?_ ?_ ?_
  ·refine wk_tell 6 (u := .c (.os H.length 1 0 (n + 1))) (p := .c (.sl (sets.map setrow))) (by simp) (by simp [toPV, toD, ← hn, take_of_len]) ?_
   have hf : frz (H ++ [.row 1 (sets.map setrow)]) (V.c (.os H.length 1 0 (n + 1))).cells = H ++ [.frow 1 (sets.map setrow)] := by simp [frz, frz1, V.cells]
   rw [hf]
   refine wk_nil_os 9 3 (by omega) (by simp) ?_
   rw [List.append_assoc]
   refine wk_pre [1] [5, 6, 7, 8, 9, 32, 33, 34] hw rfl ⟨_, 0, by omega, rfl, ?_⟩
   simp [phiP, phi, O.ren, PV.toV, show ¬ (H.length + 1 < H.length) from by omega]
  ·rintro J L hJ hL k st ⟨i, hi, rfl, rfl⟩
   by_cases hlt : i < set.length
   ·obtain ⟨s, hs⟩ : ∃ s, nth set i = s := ⟨_, rfl⟩
    have g3 := xg537 sets.length c sets n s hu hn1 (by omega)
    rw [← hX0] at g3
    have g4 := xg538 c s hcv hgv hset
    have hD : (set.take (i + 1)).flatMap (cutOf c sets fin) = (set.take i).flatMap (cutOf c sets fin) ++ cutOf c sets fin s := by
     rw [take_nth hlt, List.flatMap_append, hs]; simp
    obtain ⟨D0, hD0⟩ : ∃ D0, D0 = (set.take i).flatMap (cutOf c sets fin) := ⟨_, rfl⟩
    have hD0l : D0.length ≤ 2 * i := by rw [hD0]; have := hDl (set.take i); simp at this; simp; omega
    unfold cutOf at hD
    rw [show sets.length - 1 = n from by omega] at hD
    rw [← hD0] at ⊢
    have hD2 : (set.take i).flatMap (fun s => (⟨s, uptoE c.vs sets s n, 22⟩ : Cutoff) :: if fin = true then [] else [⟨s, sureN c.vs s, 19⟩]) = D0 := by
     rw [hD0]; unfold cutOf; rw [show sets.length - 1 = n from by omega]
    rw [hD2] at hD
    have hD1 : (set.take (i + 1)).flatMap (cutOf c sets fin) = (set.take (i + 1)).flatMap (fun s => (⟨s, uptoE c.vs sets s n, 22⟩ : Cutoff) :: if fin = true then [] else [⟨s, sureN c.vs s, 19⟩]) := by
     unfold cutOf; rw [show sets.length - 1 = n from by omega]
    obtain ⟨a1, ha1⟩ : ∃ a, a = uptoE c.vs sets s n := ⟨_, rfl⟩
    obtain ⟨a2, ha2⟩ : ∃ a, a = sureN c.vs s := ⟨_, rfl⟩
    rw [← ha1] at g3 hD
    rw [← ha2] at g4 hD
    have tS : (D0.map Cutoff.row).take D0.length = D0.map Cutoff.row := List.take_of_length_le (by simp)
    cases fin
    ·simp (implicitDefEqProofs := false) (disch := omega) [gz, hlt, wrap64, nth_map, hs, srow, splice, fillC, s3, s4, g3, g4, tS, toPVs, frzVs, osVs, toPV, toDs, Nat.add_assoc]
     repeat' (with_reducible apply And.intro)
     all_goals first | omega | kernel_rfl | exact fun _ _ => rfl | skip
     subst hJ
     refine wk_pre [4] [5, 6, 7, 8, 9, 32, 33, 34] hw rfl ⟨set.length - (i + 1), by omega, i + 1, by omega, rfl, ?_⟩
     rw [hD1, hD]; simp [phiP, phi, O.ren, Cutoff.row, show ¬ (H.length + 4 < H.length) from by omega]
    ·simp (implicitDefEqProofs := false) (disch := omega) [gz, hlt, wrap64, nth_map, hs, srow, splice, fillC, s3, s4, g3, g4, tS, toPVs, frzVs, osVs, toPV, toDs, Nat.add_assoc]
     repeat' (with_reducible apply And.intro)
     all_goals first | omega | kernel_rfl | exact fun _ _ => rfl | skip
     subst hJ
     refine wk_pre [2] [5, 6, 7, 8, 9, 32, 33, 34] hw rfl ⟨set.length - (i + 1), by omega, i + 1, by omega, rfl, ?_⟩
     rw [hD1, hD]; simp [phiP, phi, O.ren, Cutoff.row, show ¬ (H.length + 2 < H.length) from by omega]
   ·have : i = set.length := by omega
    subst this
    rw [List.take_length]
    simp (implicitDefEqProofs := false) (disch := omega) [gz, hlt]
    subst hL
    exact at_mk (by simp) rfl
  ·rintro _ ⟨sl, rfl⟩
   simp (implicitDefEqProofs := false) (disch := omega) [gz, wrap64]
   exact fin_own (k := 0) hw rfl (by simp)
theorem k514 (m : Int) (l : List Edit) (all : List Member) (h : okC l all) (H : List O) :
  ACalls Tryz.prog (GM m) 14 [.c (.d (.sl (l.map Edit.row))), .c (.d (.sl (all.map Member.row)))] H fun t H' => t = .v (.c (.d (.sl ((cutsE l all).map Cutoff.row)))) ∧ H' = H := own_data (k514o m l all h H)
end Go.Aw.Try

namespace Go.Aw.Try
open Go Go.Proofs Go.Aw
set_option maxRecDepth 100000
set_option maxHeartbeats 4000000
/-! ### names of authors -/
def byt (s : ByteArray) (i : Nat) : Int := ((s.data[i]?.getD 0).toNat : Int)
def badA (s : ByteArray) (i : Nat) : Bool := !(decide (97 ≤ byt s i) && decide (byt s i ≤ 122)) && (decide (i = 0) || (decide (byt s i < 48) || decide (57 < byt s i)))
def authB (s : ByteArray) : Bool := decide (∀ j, j < s.size → badA s j = false) && (decide (0 < s.size) && decide (s.size ≤ 24))
theorem k526 (s : ByteArray) (hs : s.size < 4611686018427387904) : ACalls Tryz.prog G0 26 [Sx s] [] fun t H => t = .bool (authB s) ∧ H = [] := by
 refine acallsX (X := []) trivial tab hmix Tryz.func26 c526 (by rfl) fun hw => ?_
 simp (implicitDefEqProofs := false) (disch := omega) [gz, ir526, b526, wrap64]
 refine loopE (fun k st => ∃ i, i ≤ s.size ∧ k = s.size - i ∧ (∀ j, j < i → badA s j = false) ∧
   st = ⟨ofL [(0, .v (.c (.d (.v (.string s))))), (3, .int .i64 i)], []⟩)
  (fun st => (∀ j, j < s.size → badA s j = false) ∧ AtS [(0, .v (.c (.d (.v (.string s)))))] [] st) ?_ ?_ ?_
 ·refine wk_keep [0, 3] ⟨_, 0, by omega, rfl, fun j hj => by omega, ?_⟩
  simp
 ·rintro J L hJ hL k st ⟨i, hi, rfl, hb, rfl⟩
  by_cases hlt : i < s.size
  ·have hby : ((s.data[i]?.getD 0).toNat : Int) = byt s i := rfl
   obtain ⟨b, hbb⟩ : ∃ b, b = byt s i := ⟨_, rfl⟩
   have hbad : badA s i = (!(decide (97 ≤ b) && decide (b ≤ 122)) && (decide (i = 0) || (decide (b < 48) || decide (57 < b)))) := by rw [hbb]; rfl
   rw [← hbb] at hby
   by_cases c1 : 97 ≤ b
   ·have c1' : ¬ b < 97 := by omega
    by_cases c2 : b ≤ 122
    ·have c2' : ¬ 122 < b := by omega
     simp (implicitDefEqProofs := false) (disch := omega) [gz, hlt, wrap64, hby, c1, c1', c2, c2']
     subst hJ
     refine wk_keep [0, 3] ⟨s.size - (i + 1), by omega, i + 1, by omega, rfl, fun j hj => ?_, ?_⟩
     ·by_cases e1 : j = i
      ·subst e1; rw [hbad]; simp [c1, c1', c2, c2']
      ·exact hb j (by omega)
     ·simp
    ·have c2' : 122 < b := by omega
     by_cases c3 : i = 0
     ·subst c3
      rw [show authB s = false from by unfold authB; rw [decide_eq_false (fun h => by have := h 0 hlt; rw [hbad] at this; simp [c1, c1', c2, c2'] at this), Bool.false_and]]
      simp (implicitDefEqProofs := false) (disch := omega) [gz, hlt, wrap64, hby, c1, c1', c2, c2']
      exact fin_nil ⟨rfl, rfl⟩
     ·have c4 : ¬ b < 48 := by omega
      have c4' : 48 ≤ b := by omega
      have c5 : 57 < b := by omega
      rw [show authB s = false from by unfold authB; rw [decide_eq_false (fun h => by have := h i hlt; rw [hbad] at this; simp [c1, c1', c2, c2', c3, c4, c4', c5] at this), Bool.false_and]]
      simp (implicitDefEqProofs := false) (disch := omega) [gz, hlt, wrap64, hby, c1, c1', c2, c2', c3, c4, c4', c5]
      exact fin_nil ⟨rfl, rfl⟩
   ·have c1' : b < 97 := by omega
    by_cases c3 : i = 0
    ·subst c3
     rw [show authB s = false from by unfold authB; rw [decide_eq_false (fun h => by have := h 0 hlt; rw [hbad] at this; simp [c1, c1'] at this), Bool.false_and]]
     simp (implicitDefEqProofs := false) (disch := omega) [gz, hlt, wrap64, hby, c1, c1']
     exact fin_nil ⟨rfl, rfl⟩
    ·by_cases c4 : b < 48
     ·have c4' : ¬ 48 ≤ b := by omega
      rw [show authB s = false from by unfold authB; rw [decide_eq_false (fun h => by have := h i hlt; rw [hbad] at this; simp [c1, c1', c3, c4, c4'] at this), Bool.false_and]]
      simp (implicitDefEqProofs := false) (disch := omega) [gz, hlt, wrap64, hby, c1, c1', c3, c4, c4']
      exact fin_nil ⟨rfl, rfl⟩
     ·have c4' : 48 ≤ b := by omega
      by_cases c5 : 57 < b
      ·have c5' : ¬ b ≤ 57 := by omega
       rw [show authB s = false from by unfold authB; rw [decide_eq_false (fun h => by have := h i hlt; rw [hbad] at this; simp [c1, c1', c3, c4, c4', c5, c5'] at this), Bool.false_and]]
       simp (implicitDefEqProofs := false) (disch := omega) [gz, hlt, wrap64, hby, c1, c1', c3, c4, c4', c5, c5']
       exact fin_nil ⟨rfl, rfl⟩
      ·have c5' : b ≤ 57 := by omega
       simp (implicitDefEqProofs := false) (disch := omega) [gz, hlt, wrap64, hby, c1, c1', c3, c4, c4', c5, c5']
       subst hJ
       refine wk_keep [0, 3] ⟨s.size - (i + 1), by omega, i + 1, by omega, rfl, fun j hj => ?_, ?_⟩
       ·by_cases e1 : j = i
        ·subst e1; rw [hbad]; simp [c1, c1', c3, c4, c4', c5, c5']
        ·exact hb j (by omega)
       ·simp
  ·have : i = s.size := by omega
   subst this
   simp (implicitDefEqProofs := false) (disch := omega) [gz, hlt]
   subst hL
   exact ⟨hb, at_mk (by simp) rfl⟩
 ·rintro _ ⟨hb, sl, rfl⟩
  simp (implicitDefEqProofs := false) (disch := omega) [gz, wrap64]
  have ha : authB s = (decide (0 < s.size) && decide (s.size ≤ 24)) := by unfold authB; rw [decide_eq_true hb, Bool.true_and]
  refine ⟨fun h => fin_nil ⟨?_, rfl⟩, fun h => fin_nil ⟨?_, rfl⟩⟩
  ·rw [ha, decide_eq_true h, Bool.true_and]
   have : decide ((s.size : Int) ≤ 24) = decide (s.size ≤ 24) := by
    by_cases q : s.size ≤ 24
    ·rw [decide_eq_true q, decide_eq_true (by omega)]
    ·rw [decide_eq_false q, decide_eq_false (by omega)]
   rw [this]; rfl
  ·rw [ha, h]; rfl
noncomputable def x526 : XE := mkX true (fun (s : ByteArray) => [.c (.v (.string s))]) (fun s => s.size < 4611686018427387904) (fun s => .bool (authB s))
theorem kx526 : Contract Tryz.prog G0 26 x526 := mkX_scal (fun _ => rfl) fun s h => k526 s h
theorem xg526 (s : ByteArray) (h : s.size < 4611686018427387904) : x526.g [.c (.v (.string s))] = some (True, .bool (authB s)) := mkX_g (fun a b h => by simp at h; exact h) s h
/-! ### Check -/
def codeI (v : List Id) (i : Nat) : Int := if authB (nth v i).a = false then 7 else if (nth v i).n < 1 then 2 else if 0 < i ∧ (nth v i).a = (nth v (i - 1)).a then 8 else if 0 < i ∧ strLt (nth v i).a (nth v (i - 1)).a = true then 3 else 0
def chkV (v : List Id) : Nat → Nat → Int
 | _, 0 => 0
 | i, k + 1 => if codeI v i ≠ 0 then codeI v i else chkV v (i + 1) k
theorem k528 (v : List Id) (hl : v.length < 4611686018427387904) (hs : ∀ x ∈ v, x.a.size < 4611686018427387904) : ACalls Tryz.prog G0 28 [.c (.d (.sl (v.map Id.row)))] [] fun t H => t = .int .i64 (chkV v 0 v.length) ∧ H = [] := by
 have s1 : x526.sc = true := rfl
 refine acallsX (X := [(26, x526)]) ⟨kx526, trivial⟩ tab hmix Tryz.func28 c528 (by rfl) fun hw => ?_
 simp (implicitDefEqProofs := false) (disch := omega) [gz, ir528, b528, b528_0, b528_1, b528_2, b528_3, wrap64]
 refine loopE (fun k st => ∃ i, i ≤ v.length ∧ k = v.length - i ∧ chkV v 0 v.length = chkV v i (v.length - i) ∧
   st = ⟨ofL [(0, .v (.c (.d (.sl (v.map Id.row))))), (3, .int .i64 i)], []⟩)
  (fun st => chkV v 0 v.length = 0 ∧ AtS [] [] st) ?_ ?_ ?_
 ·refine wk_keep [0, 3] ⟨_, 0, by omega, rfl, rfl, ?_⟩
  simp
 ·rintro J L hJ hL k st ⟨i, hi, rfl, hb, rfl⟩
  by_cases hlt : i < v.length
  ·obtain ⟨x, hx⟩ : ∃ x, nth v i = x := ⟨_, rfl⟩
   obtain ⟨y, hy⟩ : ∃ y, nth v (i - 1) = y := ⟨_, rfl⟩
   have hm : x ∈ v := by rw [← hx]; exact nth_mem hlt
   have hxr : x.row = [.v (.string x.a), .v (.int .i64 x.n)] := rfl
   have hyr : y.row = [.v (.string y.a), .v (.int .i64 y.n)] := rfl
   have g1 := xg526 x.a (hs x hm)
   have hk : v.length - i = (v.length - (i + 1)) + 1 := by omega
   rw [hk] at hb
   have hcd : codeI v i = if authB x.a = false then 7 else if x.n < 1 then 2 else if 0 < i ∧ x.a = y.a then 8 else if 0 < i ∧ strLt x.a y.a = true then 3 else 0 := by unfold codeI; rw [hx, hy]
   have hst : chkV v i (v.length - (i + 1) + 1) = if codeI v i ≠ 0 then codeI v i else chkV v (i + 1) (v.length - (i + 1)) := rfl
   rw [hcd] at hst
   obtain ⟨q, hq⟩ : ∃ q, q = authB x.a := ⟨_, rfl⟩
   rw [← hq] at g1 hst
   cases q
   ·rw [hb, hst]
    simp (implicitDefEqProofs := false) (disch := omega) [gz, hlt, wrap64, nth_map, hx, hxr, s1, g1]
    exact fin_nil ⟨rfl, rfl⟩
   ·by_cases c1 : x.n < 1
    ·rw [hb, hst]
     simp (implicitDefEqProofs := false) (disch := omega) [gz, hlt, wrap64, nth_map, hx, hxr, s1, g1, c1]
     exact fin_nil ⟨rfl, rfl⟩
    ·by_cases c2 : 0 < i
     ·have hi1 : ((i : Int) - 1) = ((i - 1 : Nat) : Int) := by omega
      have hl1 : i - 1 < v.length := by omega
      by_cases c3 : x.a = y.a
      ·rw [c3] at g1
       rw [hb, hst]
       simp (implicitDefEqProofs := false) (disch := omega) [gz, hlt, wrap64, nth_map, hx, hxr, hy, hyr, s1, g1, c1, c2, c3, hi1, hl1, binSF]
       repeat' (with_reducible apply And.intro)
       all_goals first | omega | kernel_rfl | exact fun _ _ => rfl | skip
       exact fin_nil ⟨rfl, rfl⟩
      ·obtain ⟨p, hp⟩ : ∃ p, p = strLt x.a y.a := ⟨_, rfl⟩
       rw [← hp] at hst
       cases p
       ·simp (implicitDefEqProofs := false) (disch := omega) [gz, hlt, wrap64, nth_map, hx, hxr, hy, hyr, s1, g1, c1, c2, c3, hi1, hl1, binSF, ← hp]
        repeat' (with_reducible apply And.intro)
        all_goals first | omega | kernel_rfl | exact fun _ _ => rfl | skip
        subst hJ
        refine wk_keep [0, 3] ⟨v.length - (i + 1), by omega, i + 1, by omega, rfl, ?_, ?_⟩
        ·rw [hb, hst]; simp [c1, c2, c3]
        ·simp
       ·rw [hb, hst]
        simp (implicitDefEqProofs := false) (disch := omega) [gz, hlt, wrap64, nth_map, hx, hxr, hy, hyr, s1, g1, c1, c2, c3, hi1, hl1, binSF, ← hp]
        repeat' (with_reducible apply And.intro)
        all_goals first | omega | kernel_rfl | exact fun _ _ => rfl | skip
        exact fin_nil ⟨rfl, rfl⟩
     ·have : i = 0 := by omega
      subst this
      simp (implicitDefEqProofs := false) (disch := omega) [gz, hlt, wrap64, nth_map, hx, hxr, s1, g1, c1]
      repeat' (with_reducible apply And.intro)
      all_goals first | omega | kernel_rfl | exact fun _ _ => rfl | skip
      subst hJ
      refine wk_keep [0, 3] ⟨v.length - (0 + 1), by omega, 0 + 1, by omega, rfl, ?_, ?_⟩
      ·rw [hb, hst]; simp [c1]
      ·simp
  ·have : i = v.length := by omega
   subst this
   simp (implicitDefEqProofs := false) (disch := omega) [gz, hlt]
   subst hL
   refine ⟨by rw [hb, Nat.sub_self]; rfl, at_mk (by simp) rfl⟩
 ·rintro _ ⟨hb, sl, rfl⟩
  rw [hb]
  simp (implicitDefEqProofs := false) (disch := omega) [gz, wrap64]
  exact fin_nil ⟨rfl, rfl⟩
noncomputable def x528 : XE := mkX true (fun (v : List Id) => [.c (.sl (v.map Id.row))]) (fun v => v.length < 4611686018427387904 ∧ ∀ x ∈ v, x.a.size < 4611686018427387904) (fun v => .int .i64 (chkV v 0 v.length))
theorem kx528 : Contract Tryz.prog G0 28 x528 := mkX_scal (fun _ => rfl) fun v h => k528 v h.1 h.2
theorem xg528 (v : List Id) (h1 : v.length < 4611686018427387904) (h2 : ∀ x ∈ v, x.a.size < 4611686018427387904) : x528.g [.c (.sl (v.map Id.row))] = some (True, .int .i64 (chkV v 0 v.length)) := mkX_g (fun a b h => by simp only [List.cons.injEq, PVo.c.injEq, D.sl.injEq] at h; exact map_inj (fun a b h => by cases a; cases b; simp [Id.row] at h; simp [h]) h.1) v ⟨h1, h2⟩
theorem chk_zero {v : List Id} : ∀ {k i : Nat}, chkV v i k = 0 → ∀ j, i ≤ j → j < i + k → codeI v j = 0
 | 0, i, _, j, h1, h2 => by omega
 | k + 1, i, h, j, h1, h2 => by
  simp only [chkV] at h
  split at h
  ·rename_i hn; exact absurd h hn
  ·rename_i hn
   by_cases e : j = i
   ·subst e; exact Classical.byContradiction fun q => hn q
   ·exact chk_zero h j (by omega) (by omega)
theorem cmpS_trans {a b c : ByteArray} (h1 : cmpS a b < 0) (h2 : cmpS b c < 0) : cmpS a c < 0 := by
 have h3 := cmpS_pre.tr a b c (by omega) (by omega)
 by_cases h : cmpS a c = 0
 ·have := (cmpS_eq a c).1 h
  subst this
  have := cmpS_sgn a b
  omega
 ·omega
theorem asc_of_adj {v : List Id} (h : ∀ j, 0 < j → j < v.length → cmpS (nth v (j - 1)).a (nth v j).a < 0) : AscI v := by
 have key : ∀ d i, i + d + 1 < v.length → cmpS (nth v i).a (nth v (i + d + 1)).a < 0 := by
  intro d
  induction d with
  | zero => intro i hi; exact h (i + 1) (by omega) hi
  | succ d ih =>
   intro i hi
   have h1 := ih i (by omega)
   have h2 := h (i + (d + 1) + 1) (by omega) hi
   exact cmpS_trans h1 h2
 unfold AscI
 rw [List.pairwise_iff_getElem]
 intro i j hi hj hij
 have := key (j - i - 1) i (by omega)
 rw [show i + (j - i - 1) + 1 = j from by omega, nth_eq hi, nth_eq hj] at this
 exact this
/-- A valid vector ascends. -/
theorem chk_asc {v : List Id} (h : chkV v 0 v.length = 0) : AscI v ∧ ∀ x ∈ v, 1 ≤ x.n := by
 have hc : ∀ j, j < v.length → codeI v j = 0 := fun j hj => chk_zero h j (by omega) (by omega)
 have hone : ∀ j, j < v.length → 1 ≤ (nth v j).n ∧ (0 < j → cmpS (nth v (j - 1)).a (nth v j).a < 0) := fun j hj => by
  have := hc j hj
  unfold codeI at this
  split at this
  ·simp at this
  ·split at this
   ·simp at this
   ·rename_i h2
    split at this
    ·simp at this
    ·rename_i h3
     split at this
     ·simp at this
     ·rename_i h4
      refine ⟨by omega, fun h0 => ?_⟩
      have h3 : (nth v j).a ≠ (nth v (j - 1)).a := fun e => h3 ⟨h0, e⟩
      have h4 : ¬ strLt (nth v j).a (nth v (j - 1)).a = true := fun e => h4 ⟨h0, e⟩
      rw [strLt_eq] at h4
      have h5 : ¬ cmpS (nth v j).a (nth v (j - 1)).a < 0 := fun q => h4 (decide_eq_true q)
      have h6 : cmpS (nth v j).a (nth v (j - 1)).a ≠ 0 := fun q => h3 ((cmpS_eq _ _).1 q)
      have := cmpS_sgn (nth v (j - 1)).a (nth v j).a
      omega
 refine ⟨asc_of_adj fun j h0 hj => (hone j hj).2 h0, fun x hx => ?_⟩
 obtain ⟨j, hj, rfl⟩ := List.mem_iff_getElem.1 hx
 have := (hone j hj).1
 rw [nth_eq hj] at this; exact this
end Go.Aw.Try

namespace Go.Aw.Try
open Go Go.Proofs Go.Aw
set_option maxRecDepth 100000
set_option maxHeartbeats 4000000
/-! ### Right -/
instance : Inhabited Edit := ⟨⟨⟨⟨#[]⟩, 0⟩, 0, 0, [], 0, ⟨⟨#[]⟩, 0⟩, ⟨⟨#[]⟩, 0⟩, false, ⟨#[]⟩, ⟨#[]⟩, ⟨#[]⟩, ⟨#[]⟩, ⟨⟨#[]⟩, 0⟩, ⟨#[]⟩⟩⟩
def okE (e : Edit) : Prop := chkV e.deps 0 e.deps.length = 0 ∧ e.deps.length ≤ 12 ∧ e.who.size ≤ 300 ∧ 1 ≤ e.id.n ∧ 0 ≤ e.clock
/-- What Right asks. -/
def OkR (l : List Edit) (all : List Member) : Prop := l.length ≤ 40 ∧ all.length ≤ 8 ∧
 (∀ i, i < all.length → authB (nth all i).name = true ∧ ∀ j, j < i → (nth all j).name ≠ (nth all i).name) ∧
 ∀ i, i < l.length → okE (nth l i) ∧ ∀ j, j < i → (nth l j).id = (nth l i).id → nth l j = nth l i
noncomputable def rightN (l : List Edit) (all : List Member) : Int := open Classical in if OkR l all then 1 else 0
theorem right_no {l : List Edit} {all : List Member} (h : ¬ OkR l all) : rightN l all = 0 := by unfold rightN; rw [if_neg h]
theorem right_yes {l : List Edit} {all : List Member} (h : OkR l all) : rightN l all = 1 := by unfold rightN; rw [if_pos h]
def szE (e : Edit) : Prop := e.deps.length < 4611686018427387904 ∧ (∀ x ∈ e.deps, x.a.size < 4611686018427387904)
theorem k512 (l : List Edit) (all : List Member) (h1 : l.length < 4611686018427387904) (h2 : all.length < 4611686018427387904) (h3 : ∀ m ∈ all, m.name.size < 4611686018427387904) (h4 : ∀ e ∈ l, szE e) :
  ACalls Tryz.prog G0 12 [.c (.d (.sl (l.map Edit.row))), .c (.d (.sl (all.map Member.row)))] [] fun t H => t = .int .i64 (rightN l all) ∧ H = [] := by
 have s1 : x526.sc = true := rfl
 have s2 : x528.sc = true := rfl
 have s3 : x37.sc = true := rfl
 refine acallsX (X := [(26, x526), (28, x528), (33, x37)]) ⟨kx526, kx528, kx37, trivial⟩ tab hmix Tryz.func12 c512 (by rfl) fun hw => ?_
 have no : ¬ OkR l all → ∀ Z, Fin Tryz.prog 0 (fun t H => t = .int .i64 (rightN l all) ∧ H = []) (.int .i64 0) Z := fun h Z => fin_nil ⟨by rw [right_no h]; rfl, rfl⟩
 obtain ⟨R0, hR0⟩ : ∃ r, r = rightN l all := ⟨_, rfl⟩
 have hno := @right_no l all
 have hyes := @right_yes l all
 rw [← hR0] at no hno hyes ⊢
 simp (implicitDefEqProofs := false) (disch := omega) [gz, ir512, b512, b512_0, b512_1, wrap64]
 refine ⟨fun c1 => ⟨fun c2 => no (fun h => by have := h.2.1; omega) _, fun c2 => ?_⟩, fun c1 => no (fun h => by have := h.1; omega) _⟩
 simp (implicitDefEqProofs := false) (disch := omega) [gz, b512_2, wrap64]
 refine loopE (fun k st => ∃ i, i ≤ all.length ∧ k = all.length - i ∧ (∀ q, q < i → authB (nth all q).name = true ∧ ∀ j, j < q → (nth all j).name ≠ (nth all q).name) ∧
   st = ⟨ofL [(0, .v (.c (.d (.sl (l.map Edit.row))))), (1, .v (.c (.d (.sl (all.map Member.row))))), (21, .v (.c (.d (.sl (all.map Member.row))))), (22, .int .i64 all.length), (23, .int .i64 i)], []⟩)
  (fun st => (∀ q, q < all.length → authB (nth all q).name = true ∧ ∀ j, j < q → (nth all j).name ≠ (nth all q).name) ∧ AtS [(0, .v (.c (.d (.sl (l.map Edit.row)))))] [] st) ?_ ?_ ?_
 ·refine wk_keep [0, 1, 21, 22, 23] ⟨_, 0, by omega, rfl, fun q hq => by omega, ?_⟩
  simp
 ·rintro J L hJ hL k st ⟨i, hi, rfl, hA, rfl⟩
  by_cases hlt : i < all.length
  ·obtain ⟨x, hx⟩ : ∃ x, nth all i = x := ⟨_, rfl⟩
   have hm : x ∈ all := by rw [← hx]; exact nth_mem hlt
   have hxr : x.row = [.v (.string x.name), .v (.string x.key)] := rfl
   have g1 := xg526 x.name (h3 x hm)
   obtain ⟨q, hq⟩ : ∃ q, q = authB x.name := ⟨_, rfl⟩
   rw [← hq] at g1
   cases q
   ·simp (implicitDefEqProofs := false) (disch := omega) [gz, hlt, wrap64, nth_map, hx, hxr, s1, g1, splice, fillC]
    exact no (fun h => by have := (h.2.2.1 i hlt).1; rw [hx, ← hq] at this; cases this) _
   ·simp (implicitDefEqProofs := false) (disch := omega) [gz, hlt, wrap64, nth_map, hx, hxr, s1, g1, splice, fillC]
    refine ⟨hi, ?_⟩
    obtain ⟨T, hT⟩ : ∃ T, T = all.take i := ⟨_, rfl⟩
    have hTl : T.length = i := by rw [hT, List.length_take]; omega
    have hTn : ∀ j, j < i → nth T j = nth all j := fun j hj => by rw [hT]; simp [nth, List.getD_eq_getElem?_getD, List.getElem?_take, hj]
    refine loopE (fun k st => ∃ j, j ≤ i ∧ k = i - j ∧ (∀ p, p < j → (nth all p).name ≠ x.name) ∧
      st = ⟨ofL [(0, .v (.c (.d (.sl (l.map Edit.row))))), (1, .v (.c (.d (.sl (all.map Member.row))))), (21, .v (.c (.d (.sl (all.map Member.row))))), (22, .int .i64 all.length), (23, .int .i64 i), (6, .v (.c (.ptr 0 0))), (34, .v (.c (.d (.sl (T.map Member.row))))), (35, .int .i64 i), (36, .int .i64 j)], [.cells [.d (.v (.string x.name)), .d (.v (.string x.key))]]⟩)
     (fun st => (∀ p, p < i → (nth all p).name ≠ x.name) ∧ AtS [(0, .v (.c (.d (.sl (l.map Edit.row))))), (1, .v (.c (.d (.sl (all.map Member.row))))), (21, .v (.c (.d (.sl (all.map Member.row))))), (22, .int .i64 all.length), (23, .int .i64 i)] [.cells [.d (.v (.string x.name)), .d (.v (.string x.key))]] st) ?_ ?_ ?_
    ·refine wk_keep [0, 1, 21, 22, 23, 6, 34, 35, 36] ⟨_, 0, by omega, rfl, fun p hp => by omega, ?_⟩
     simp [hT]
    ·rintro J2 L2 hJ2 hL2 k2 st ⟨j, hj, rfl, hB, rfl⟩
     by_cases hjl : j < i
     ·obtain ⟨y, hy⟩ : ∃ y, nth T j = y := ⟨_, rfl⟩
      have hy' : nth all j = y := by rw [← hTn j hjl]; exact hy
      have hyr : y.row = [.v (.string y.name), .v (.string y.key)] := rfl
      have hjT : j < T.length := by omega
      by_cases c3 : y.name = x.name
      ·simp (implicitDefEqProofs := false) (disch := omega) [gz, hjl, hjT, hTl, wrap64, nth_map, hy, hyr, splice, fillC, binSF, c3]
       exact no (fun h => (h.2.2.1 i hlt).2 j hjl (by rw [hy', hx]; exact c3)) _
      ·simp (implicitDefEqProofs := false) (disch := omega) [gz, hjl, hjT, hTl, wrap64, nth_map, hy, hyr, splice, fillC, binSF, c3]
       subst hJ2
       refine wk_nil [0] [0, 1, 21, 22, 23, 6, 34, 35, 36] rfl ⟨i - (j + 1), by omega, j + 1, by omega, rfl, fun p hp => ?_, ?_⟩
       ·by_cases e1 : p = j
        ·subst e1; rw [hy']; exact c3
        ·exact hB p (by omega)
       ·simp [phi, O.ren]
     ·have : j = i := by omega
      subst this
      simp (implicitDefEqProofs := false) (disch := omega) [gz, hjl]
      subst hL2
      exact ⟨hB, at_mk (by simp) rfl⟩
    ·rintro _ ⟨hB, sl, rfl⟩
     simp (implicitDefEqProofs := false) (disch := omega) [gz, wrap64]
     subst hJ
     refine wk_nil [] [0, 1, 21, 22, 23] rfl ⟨all.length - (i + 1), by omega, i + 1, by omega, rfl, fun p hp => ?_, ?_⟩
     ·by_cases e1 : p = i
      ·subst e1; rw [hx]; exact ⟨hq.symm, hB⟩
      ·exact hA p (by omega)
     ·simp
  ·have : i = all.length := by omega
   subst this
   simp (implicitDefEqProofs := false) (disch := omega) [gz, hlt]
   subst hL
   exact ⟨hA, at_mk (by simp) rfl⟩
 ·rintro _ ⟨hA, sl, rfl⟩
  simp (implicitDefEqProofs := false) (disch := omega) [gz, b512_3, wrap64]
  refine loopE (fun k st => ∃ i, i ≤ l.length ∧ k = l.length - i ∧ (∀ q, q < i → okE (nth l q) ∧ ∀ j, j < q → (nth l j).id = (nth l q).id → nth l j = nth l q) ∧
    st = ⟨ofL [(0, .v (.c (.d (.sl (l.map Edit.row))))), (47, .v (.c (.d (.sl (l.map Edit.row))))), (48, .int .i64 l.length), (49, .int .i64 i)], []⟩)
   (fun st => (∀ q, q < l.length → okE (nth l q) ∧ ∀ j, j < q → (nth l j).id = (nth l q).id → nth l j = nth l q) ∧ AtS [] [] st) ?_ ?_ ?_
  ·refine wk_keep [0, 47, 48, 49] ⟨_, 0, by omega, rfl, fun q hq => by omega, ?_⟩
   simp
  ·rintro J L hJ hL k st ⟨i, hi, rfl, hE, rfl⟩
   by_cases hlt : i < l.length
   ·obtain ⟨e, he⟩ : ∃ e, nth l i = e := ⟨_, rfl⟩
    have hm : e ∈ l := by rw [← he]; exact nth_mem hlt
    have hee := Edit.row_eq e
    obtain ⟨z1, z2⟩ := h4 e hm
    have g2 := xg528 e.deps z1 z2
    obtain ⟨q, hq⟩ : ∃ q, q = chkV e.deps 0 e.deps.length := ⟨_, rfl⟩
    rw [← hq] at g2
    simp (implicitDefEqProofs := false) (disch := omega) [gz, hlt, wrap64, nth_map, he, hee, s2, g2, splice, fillC]
    have hnoE : ¬ okE e → ∀ Z, Fin Tryz.prog 0 (fun t H => t = .int .i64 R0 ∧ H = []) (.int .i64 0) Z := fun q Z => no (fun h => q (by have := (h.2.2.2 i hlt).1; rw [he] at this; exact this)) Z
    refine ⟨fun d1 => ⟨fun d2 => ⟨fun d3 => ⟨fun d4 => ⟨fun d5 => ?_, fun d5 => ⟨hi, ?_⟩⟩, fun d4 => ?_⟩, fun d3 => ?_⟩, fun d2 => ?_⟩, fun d1 => ?_⟩
    ·exact hnoE (fun ⟨b1, b2, b3, b4, b5⟩ => by omega) _
    ·have hokE : okE e := ⟨by omega, by omega, by omega, by omega, by omega⟩
     obtain ⟨T, hT⟩ : ∃ T, T = l.take i := ⟨_, rfl⟩
     have hTl : T.length = i := by rw [hT, List.length_take]; omega
     have hTn : ∀ j, j < i → nth T j = nth l j := fun j hj => by rw [hT]; simp [nth, List.getD_eq_getElem?_getD, List.getElem?_take, hj]
     refine loopE (fun k st => ∃ j, j ≤ i ∧ k = i - j ∧ (∀ p, p < j → (nth l p).id = e.id → nth l p = e) ∧
       st = ⟨ofL [(0, .v (.c (.d (.sl (l.map Edit.row))))), (47, .v (.c (.d (.sl (l.map Edit.row))))), (48, .int .i64 l.length), (49, .int .i64 i), (10, .v (.c (.ptr 0 0))), (83, .v (.c (.d (.sl (T.map Edit.row))))), (84, .int .i64 i), (85, .int .i64 j)], [.cells ([.v (.string e.id.a), .v (.int .i64 e.id.n), .v (.int .i64 e.clock), .v (.int .i64 e.floor), .sl (e.deps.map Id.row), .v (.int .i64 e.kind), .v (.string e.node.a), .v (.int .i64 e.node.n), .v (.string e.parent.a), .v (.int .i64 e.parent.n), .v (.bool e.neg), .v (.string e.num), .v (.string e.den), .v (.string e.field), .v (.string e.value), .v (.string e.target.a), .v (.int .i64 e.target.n), .v (.string e.who)].map .d)]⟩)
      (fun st => (∀ p, p < i → (nth l p).id = e.id → nth l p = e) ∧ AtS [(0, .v (.c (.d (.sl (l.map Edit.row))))), (47, .v (.c (.d (.sl (l.map Edit.row))))), (48, .int .i64 l.length), (49, .int .i64 i)] [.cells ([.v (.string e.id.a), .v (.int .i64 e.id.n), .v (.int .i64 e.clock), .v (.int .i64 e.floor), .sl (e.deps.map Id.row), .v (.int .i64 e.kind), .v (.string e.node.a), .v (.int .i64 e.node.n), .v (.string e.parent.a), .v (.int .i64 e.parent.n), .v (.bool e.neg), .v (.string e.num), .v (.string e.den), .v (.string e.field), .v (.string e.value), .v (.string e.target.a), .v (.int .i64 e.target.n), .v (.string e.who)].map .d)] st) ?_ ?_ ?_
     ·refine wk_keep [0, 47, 48, 49, 10, 83, 84, 85] ⟨_, 0, by omega, rfl, fun p hp => by omega, ?_⟩
      simp [hT]
     ·rintro J2 L2 hJ2 hL2 k2 st ⟨j, hj, rfl, hB, rfl⟩
      by_cases hjl : j < i
      ·obtain ⟨f, hf⟩ : ∃ f, nth T j = f := ⟨_, rfl⟩
       have hf' : nth l j = f := by rw [← hTn j hjl]; exact hf
       have hfm : f ∈ l := by rw [← hf']; exact nth_mem (by omega)
       have hfr := Edit.row_eq f
       have hjT : j < T.length := by omega
       have g3 := xg37 f e (h4 f hfm).1
       rw [hfr, hee] at g3
       obtain ⟨p, hp⟩ : ∃ p, p = decide (f = e) := ⟨_, rfl⟩
       rw [← hp] at g3
       have hid : f.id = e.id ↔ f.id.a = e.id.a ∧ f.id.n = e.id.n := by
        constructor
        ·intro h; rw [h]; exact ⟨rfl, rfl⟩
        ·intro h; cases hx : f.id; cases hy : e.id; rw [hx, hy] at h; simp at h; simp [h]
       by_cases c3 : f.id.a = e.id.a
       ·by_cases c4 : f.id.n = e.id.n
        ·cases p
         ·rw [c3, c4] at g3
          simp (implicitDefEqProofs := false) (disch := omega) [gz, hjl, hjT, hTl, wrap64, nth_map, hf, hfr, splice, fillC, c3, c4, cellsEq, skEq, s3, g3]
          exact no (fun h => by
           have h5 := (h.2.2.2 i hlt).2 j hjl (by rw [hf', he]; exact hid.2 ⟨c3, c4⟩)
           rw [hf', he] at h5
           rw [decide_eq_true h5] at hp; cases hp) _
         ·rw [c3, c4] at g3
          simp (implicitDefEqProofs := false) (disch := omega) [gz, hjl, hjT, hTl, wrap64, nth_map, hf, hfr, splice, fillC, c3, c4, cellsEq, skEq, s3, g3]
          subst hJ2
          refine wk_nil [0] [0, 47, 48, 49, 10, 83, 84, 85] rfl ⟨i - (j + 1), by omega, j + 1, by omega, rfl, fun p' hp' => ?_, ?_⟩
          ·by_cases e1 : p' = j
           ·subst e1; rw [hf']; exact fun _ => of_decide_eq_true hp.symm
           ·exact hB p' (by omega)
          ·simp [phi, O.ren]
        ·simp (implicitDefEqProofs := false) (disch := omega) [gz, hjl, hjT, hTl, wrap64, nth_map, hf, hfr, splice, fillC, c3, c4, cellsEq, skEq]
         subst hJ2
         refine wk_nil [0] [0, 47, 48, 49, 10, 83, 84, 85] rfl ⟨i - (j + 1), by omega, j + 1, by omega, rfl, fun p' hp' => ?_, ?_⟩
         ·by_cases e1 : p' = j
          ·subst e1; rw [hf']; exact fun h => absurd (hid.1 h).2 c4
          ·exact hB p' (by omega)
         ·simp [phi, O.ren]
       ·simp (implicitDefEqProofs := false) (disch := omega) [gz, hjl, hjT, hTl, wrap64, nth_map, hf, hfr, splice, fillC, c3, cellsEq, skEq]
        subst hJ2
        refine wk_nil [0] [0, 47, 48, 49, 10, 83, 84, 85] rfl ⟨i - (j + 1), by omega, j + 1, by omega, rfl, fun p' hp' => ?_, ?_⟩
        ·by_cases e1 : p' = j
         ·subst e1; rw [hf']; exact fun h => absurd (hid.1 h).1 c3
         ·exact hB p' (by omega)
        ·simp [phi, O.ren]
      ·have : j = i := by omega
       subst this
       simp (implicitDefEqProofs := false) (disch := omega) [gz, hjl]
       subst hL2
       exact ⟨hB, at_mk (by simp) rfl⟩
     ·rintro _ ⟨hB, sl, rfl⟩
      simp (implicitDefEqProofs := false) (disch := omega) [gz, wrap64]
      subst hJ
      refine wk_nil [] [0, 47, 48, 49] rfl ⟨l.length - (i + 1), by omega, i + 1, by omega, rfl, fun p hp => ?_, ?_⟩
      ·by_cases e1 : p = i
       ·subst e1; rw [he]; exact ⟨hokE, hB⟩
       ·exact hE p (by omega)
      ·simp
    ·exact hnoE (fun ⟨b1, b2, b3, b4, b5⟩ => by omega) _
    ·exact hnoE (fun ⟨b1, b2, b3, b4, b5⟩ => by omega) _
    ·exact hnoE (fun ⟨b1, b2, b3, b4, b5⟩ => by omega) _
    ·exact hnoE (fun ⟨b1, b2, b3, b4, b5⟩ => by omega) _
   ·have : i = l.length := by omega
    subst this
    simp (implicitDefEqProofs := false) (disch := omega) [gz, hlt]
    subst hL
    exact ⟨hE, at_mk (by simp) rfl⟩
  ·rintro _ ⟨hE, sl, rfl⟩
   rw [hyes ⟨by omega, by omega, hA, hE⟩]
   simp (implicitDefEqProofs := false) (disch := omega) [gz, b512_4, b512_5, wrap64]
   exact fin_nil ⟨rfl, rfl⟩
noncomputable def x512 : XE := mkX true (fun (p : List Edit × List Member) => [.c (.sl (p.1.map Edit.row)), .c (.sl (p.2.map Member.row))]) (fun p => p.1.length < 4611686018427387904 ∧ p.2.length < 4611686018427387904 ∧ (∀ m ∈ p.2, m.name.size < 4611686018427387904) ∧ ∀ e ∈ p.1, szE e) (fun p => .int .i64 (rightN p.1 p.2))
theorem kx512 : Contract Tryz.prog G0 12 x512 := mkX_scal (fun _ => rfl) fun p h => k512 p.1 p.2 h.1 h.2.1 h.2.2.1 h.2.2.2
theorem injLM (a b : List Edit × List Member) (h : [PVo.c (D.sl (a.1.map Edit.row)), PVo.c (D.sl (a.2.map Member.row))] = [PVo.c (D.sl (b.1.map Edit.row)), PVo.c (D.sl (b.2.map Member.row))]) : a = b := by
 simp only [List.cons.injEq, PVo.c.injEq, D.sl.injEq] at h
 exact Prod.ext (rows_inj h.1) (mrows_inj h.2.1)
theorem xg512 (l : List Edit) (all : List Member) (h1 : l.length < 4611686018427387904) (h2 : all.length < 4611686018427387904) (h3 : ∀ m ∈ all, m.name.size < 4611686018427387904) (h4 : ∀ e ∈ l, szE e) : x512.g [.c (.sl (l.map Edit.row)), .c (.sl (all.map Member.row))] = some (True, .int .i64 (rightN l all)) := mkX_g injLM (l, all) ⟨h1, h2, h3, h4⟩
/-! ### Same, cut -/
instance : DecidableEq Cutoff := fun a b => if h : a.who = b.who ∧ a.n = b.n ∧ a.err = b.err then isTrue (by cases a; cases b; simp at h; simp [h]) else isFalse (fun e => h (by rw [e]; exact ⟨rfl, rfl, rfl⟩))
noncomputable def x514 (m : Int) : XE := mkX false (fun (p : List Edit × List Member) => [.c (.sl (p.1.map Edit.row)), .c (.sl (p.2.map Member.row))]) (fun p => okC p.1 p.2) (fun p => .v (.c (.d (.sl ((cutsE p.1 p.2).map Cutoff.row)))))
theorem kx514 (m : Int) : Contract Tryz.prog (GM m) 14 (x514 m) := mkX_data fun p h H => k514 m p.1 p.2 h H
theorem xg514 (m : Int) (l : List Edit) (all : List Member) (h : okC l all) : (x514 m).g [.c (.sl (l.map Edit.row)), .c (.sl (all.map Member.row))] = some (True, .v (.c (.d (.sl ((cutsE l all).map Cutoff.row))))) := mkX_g injLM (l, all) h
end Go.Aw.Try

namespace Go.Aw
open Go

/-- Shapes of cells. -/
inductive Sh where
 | i (k : IntKind)
 | b
 | s
 | sl (es : List Sh)

mutual
def okSh : Sh → D → Prop
 | .i k, d => ∃ n, d = .v (.int k n) ∧ (Lit.int k n).wf = true
 | .b, d => ∃ x, d = .v (.bool x)
 | .s, d => ∃ x, d = .v (.string x)
 | .sl es, d => ∃ xs, d = .sl xs ∧ ∀ x ∈ xs, okShs es x
def okShs : List Sh → List D → Prop
 | [], l => l = []
 | e :: es, l => ∃ d r, l = d :: r ∧ okSh e d ∧ okShs es r
end

theorem okShs_len : ∀ {es : List Sh} {l : List D}, okShs es l → l.length = es.length
 | [], l, h => by simp only [okShs] at h; subst h; rfl
 | e :: es, l, h => by
  simp only [okShs] at h
  obtain ⟨d, r, rfl, _, h⟩ := h
  simp [okShs_len h]
theorem okShs_app : ∀ {es es' : List Sh} {l l' : List D}, okShs es l → okShs es' l' → okShs (es ++ es') (l ++ l')
 | [], es', l, l', h, h' => by simp only [okShs] at h; subst h; exact h'
 | e :: es, es', l, l', h, h' => by
  simp only [okShs] at h
  obtain ⟨d, r, rfl, h1, h⟩ := h
  simp only [List.cons_append, okShs]
  exact ⟨d, r ++ l', rfl, h1, okShs_app h h'⟩

section
variable (P : Program)
mutual
def shT : Nat → TypeId → Option (List Sh)
 | 0, _ => none
 | n + 1, t => match P.underlying t with
  | some .bool => some [.b]
  | some (.int k) => some [.i k]
  | some .string => some [.s]
  | some (.slice e) => match shT n e with
   | some es => if P.cellsOf e = es.length ∧ 0 < es.length then some [.sl es] else none
   | none => none
  | some (.struct fs) => match shF n 0 fs.toList with
   | some es => if P.cellsOf t = es.length then some es else none
   | none => none
  | _ => none
def shF : Nat → Nat → List Field → Option (List Sh)
 | _, _, [] => some []
 | 0, _, _ => none
 | n + 1, run, f :: r => if f.offset = run then match shT n f.type with
  | some es => if P.cellsOf f.type = es.length then match shF n (run + es.length) r with
   | some l => some (es ++ l)
   | none => none else none
  | none => none else none
end
end

section
variable {H : Type}
mutual
def datD : DataW H → List D
 | .lit (.int k n) => [.v (.int k n)]
 | .lit (.bool b) => [.v (.bool b)]
 | .lit (.string bs) => [.v (.string ⟨bs.toArray⟩)]
 | .nil => [.sl []]
 | .slice es _ => [.sl (datDs es)]
 | .agg ps => datF ps
 | _ => []
def datDs : List (DataW H) → List (List D)
 | [] => []
 | d :: r => datD d :: datDs r
def datF : List (DataW H) → List D
 | [] => []
 | d :: r => datD d ++ datF r
end
theorem datDs_len : ∀ l : List (DataW H), (datDs l).length = l.length
 | [] => rfl
 | d :: r => by simp [datDs, datDs_len r]
theorem datDs_get : ∀ (l : List (DataW H)) (i : Nat), (datDs l)[i]? = (l[i]?).map datD
 | [], i => by simp [datDs]
 | d :: r, 0 => by simp [datDs]
 | d :: r, i + 1 => by simp [datDs, datDs_get r i]
end

theorem mapM_some {α β : Type} {f : α → Option β} : ∀ {l : List α} {r : List β}, l.mapM f = some r → r.length = l.length ∧ ∀ (i : Nat) x, l[i]? = some x → ∃ y, r[i]? = some y ∧ f x = some y
 | [], r, h => by simp at h; subst h; simp
 | a :: l, r, h => by
  rw [List.mapM_cons] at h
  cases hf : f a with
  | none => rw [hf] at h; cases h
  | some b =>
   rw [hf] at h
   cases hm : l.mapM f with
   | none => rw [hm] at h; cases h
   | some r' =>
    rw [hm] at h
    have h : some (b :: r') = some r := h
    injection h with h; subst h
    obtain ⟨h1, h2⟩ := mapM_some hm
    refine ⟨by simp [h1], fun i x hx => ?_⟩
    cases i with
    | zero => simp at hx; subst hx; exact ⟨b, by simp, hf⟩
    | succ i => simp at hx; obtain ⟨y, hy, hz⟩ := h2 i x hx; exact ⟨y, by simpa using hy, hz⟩

/-- Cells that are read as data. -/
def Rd (w : World) (es : List Sh) (cs : List Value) (ds : List D) : Prop :=
 okShs es ds ∧ cs.length = es.length ∧ ∀ (i : Nat) d v, ds[i]? = some d → cs[i]? = some v → DRel (fun b => b < w.heap.size) w d v
theorem Rd.one {w : World} {e : Sh} {v : Value} {d : D} (h : okSh e d) (hd : DRel (fun b => b < w.heap.size) w d v) : Rd w [e] [v] [d] :=
 ⟨by simp only [okShs]; exact ⟨d, [], rfl, h, rfl⟩, rfl, fun i d' v' h1 h2 => by
  cases i with
  | zero => simp at h1 h2; subst h1; subst h2; exact hd
  | succ i => simp at h1⟩
theorem Rd.app {w : World} {es es' : List Sh} {cs cs' : List Value} {ds ds' : List D} (h : Rd w es cs ds) (k : Rd w es' cs' ds') : Rd w (es ++ es') (cs ++ cs') (ds ++ ds') := by
 have l1 := okShs_len h.1
 refine ⟨okShs_app h.1 k.1, by simp [h.2.1, k.2.1], fun i d v h1 h2 => ?_⟩
 rw [List.getElem?_append] at h1 h2
 rw [l1] at h1
 rw [h.2.1] at h2
 split at h1
 ·rename_i hi; rw [if_pos hi] at h2; exact h.2.2 i d v h1 h2
 ·rename_i hi; rw [if_neg hi] at h2; exact k.2.2 _ d v h1 h2

theorem cells_get {w : World} {a : Addr} {n : Nat} {cs : List Value} (h : w.cells? 0 a n = some cs) : cs.length = n ∧ ∀ (j : Nat) v, cs[j]? = some v → w.cell? (a.add j) = some v := by
 unfold World.cells? at h
 rw [if_pos (Nat.zero_le _)] at h
 obtain ⟨h1, h2⟩ := mapM_some h
 rw [List.length_range] at h1
 refine ⟨h1, fun j v hv => ?_⟩
 have hj : j < n := by
  have := (List.getElem?_eq_some_iff.1 hv).1; omega
 obtain ⟨y, hy, hz⟩ := h2 j j (by simp [hj])
 rw [hv] at hy; injection hy with hy; subst hy
 exact hz
theorem cell_spot {w : World} {a : Addr} {v : Value} (h : w.cell? a = some v) : a.spot = none ∧ a.block < w.heap.size := by
 unfold World.cell? at h
 split at h
 ·rename_i c _ _ hb
  refine ⟨?_, (Array.getElem?_eq_some_iff.1 hb).1⟩
  cases hs : a.spot with
  | none => rfl
  | some x => rw [hs] at h; simp at h
 ·cases h

section
variable {H : Type} {enc : TypeId × Value → H} {P : Program} {w : World} {sp : Nat → Bool} {held : Bool}
theorem trod_fields {fuel : Nat} (ih : ∀ (n : Nat) (t : TypeId) (es : List Sh) (cs : List Value) (d : DataW H) (ps : List MemPlace), shT P n t = some es → DataW.trod enc P w 0 sp held fuel t cs = some (d, ps) → Rd w es cs (datD d)) :
  ∀ (fs : List Field) (n run : Nat) (es : List Sh) (cs : List Value) (xs : List (DataW H × List MemPlace)), shF P n run fs = some es →
   fs.mapM (fun f => DataW.trod enc P w 0 sp held fuel f.type ((cs.drop f.offset).take (P.cellsOf f.type))) = some xs → run + es.length ≤ cs.length → Rd w es ((cs.drop run).take es.length) (datF (xs.map (·.1)))
 | [], n, run, es, cs, xs, h, hm, hl => by
  have : es = [] := by cases n <;> · simp only [shF] at h; injection h with h; exact h.symm
  subst this
  simp at hm; subst hm
  exact ⟨by simp [datF, okShs], by simp, fun i d v h1 => by simp [datF] at h1⟩
 | f :: fs, 0, run, es, cs, xs, h, hm, hl => by simp [shF] at h
 | f :: fs, n + 1, run, es, cs, xs, h, hm, hl => by
  simp only [shF] at h
  split at h
  ·rename_i ho
   split at h
   ·rename_i es1 h1
    split at h
    ·rename_i hc
     split at h
     ·rename_i l h2
      injection h with h; subst h
      rw [List.mapM_cons] at hm
      cases hf : DataW.trod enc P w 0 sp held fuel f.type ((cs.drop f.offset).take (P.cellsOf f.type)) with
      | none => rw [hf] at hm; cases hm
      | some x =>
       rw [hf] at hm
       cases hr : fs.mapM (fun f => DataW.trod enc P w 0 sp held fuel f.type ((cs.drop f.offset).take (P.cellsOf f.type))) with
       | none => rw [hr] at hm; cases hm
       | some xs' =>
        rw [hr] at hm
        have hm : some (x :: xs') = some xs := hm
        injection hm with hm; subst hm
        simp only [List.length_append] at hl
        have g1 := ih n f.type es1 _ x.1 x.2 h1 hf
        have g2 := trod_fields ih fs n (run + es1.length) l cs xs' h2 hr (by omega)
        rw [ho, hc] at g1
        have e : (cs.drop run).take (es1 ++ l).length = (cs.drop run).take es1.length ++ (cs.drop (run + es1.length)).take l.length := by
         rw [List.length_append, List.take_add, List.drop_drop]
        rw [e]
        exact g1.app g2
     ·cases h
    ·cases h
   ·cases h
  ·cases h

theorem trod_rd : ∀ (fuel n : Nat) (t : TypeId) (es : List Sh) (cs : List Value) (d : DataW H) (ps : List MemPlace), shT P n t = some es → DataW.trod enc P w 0 sp held fuel t cs = some (d, ps) → Rd w es cs (datD d)
 | 0, n, t, es, cs, d, ps, hs, h => by simp [DataW.trod] at h
 | fuel + 1, 0, t, es, cs, d, ps, hs, h => by simp [shT] at hs
 | fuel + 1, n + 1, t, es, cs, d, ps, hs, h => by
  have ih := trod_rd fuel
  cases hu : P.underlying t with
  | none => simp [shT, hu] at hs
  | some td =>
   unfold DataW.trod at h
   simp only [shT, hu] at hs
   rw [hu] at h
   cases td <;> simp only at hs <;> first | (cases hs; done) | skip
   case bool =>
    injection hs with hs; subst hs
    split at h <;> first | (rename_i e; cases e; done) | (rename_i e _; cases e; done) | (rename_i e _ _; cases e; done) | skip
    ·injection h with h; injection h with h1 h2; subst h1
     exact Rd.one ⟨_, rfl⟩ (.v _ rfl)
    ·cases h
   case int k =>
    injection hs with hs; subst hs
    split at h <;> first | (rename_i e; cases e; done) | (rename_i e _; cases e; done) | (rename_i e _ _; cases e; done) | skip
    ·rename_i e
     injection e with e; injection e with e; subst e
     split at h
     ·rename_i hk
      obtain ⟨rfl, hw⟩ := hk
      injection h with h; injection h with h1 h2; subst h1
      exact Rd.one ⟨_, rfl, hw⟩ (.v _ rfl)
     ·cases h
    ·cases h
   case string =>
    injection hs with hs; subst hs
    split at h <;> first | (rename_i e; cases e; done) | (rename_i e _; cases e; done) | (rename_i e _ _; cases e; done) | skip
    ·rename_i s0 e
     split at h
     ·injection h with h; injection h with h1 h2; subst h1
      exact Rd.one ⟨_, rfl⟩ (by simpa [datD] using DRel.v (.string s0) rfl)
     ·cases h
    ·cases h
   case slice e =>
    split at hs
    ·rename_i es1 h1
     split at hs
     ·rename_i hc
      injection hs with hs; subst hs
      split at h <;> first | (rename_i e; cases e; done) | (rename_i e _; cases e; done) | (rename_i e _ _; cases e; done) | skip
      ·injection h with h; injection h with h1 h2; subst h1
       exact Rd.one ⟨[], rfl, by simp⟩ (.nil none 0)
      ·rename_i e' a len cap heq
       injection heq with heq; injection heq with heq; subst heq
       simp only at h
       split at h
       ·rename_i hcap
        cases hm : (List.range len).mapM (fun i => (w.cells? 0 (a.add (i * P.cellsOf e)) (P.cellsOf e)).bind (DataW.trod enc P w 0 sp held fuel e)) with
        | none => rw [hm] at h; cases h
        | some elems =>
         rw [hm] at h
         simp only [Option.bind_some, Option.map_eq_some_iff] at h
         obtain ⟨rest, _, h⟩ := h
         injection h with h2 h3; subst h2
         obtain ⟨hlen, hget⟩ := mapM_some hm
         rw [List.length_range] at hlen
         have hel : ∀ (i : Nat) x, elems[i]? = some x → ∃ cs, w.cells? 0 (a.add (i * es1.length)) es1.length = some cs ∧ Rd w es1 cs (datD x.1) := fun i x hx => by
          have hi : i < len := by have := (List.getElem?_eq_some_iff.1 hx).1; omega
          obtain ⟨y, hy, hz⟩ := hget i i (by simp [hi])
          rw [hx] at hy; injection hy with hy; subst hy
          simp only [Option.bind_eq_some_iff] at hz
          obtain ⟨cs, hcs, hz⟩ := hz
          rw [hc.1] at hcs
          exact ⟨cs, hcs, ih n e es1 cs x.1 x.2 h1 hz⟩
         have hget' : ∀ (i : Nat) y, (datDs (elems.map (·.1)))[i]? = some y → ∃ x, elems[i]? = some x ∧ y = datD x.1 := fun i y hy => by
          rw [datDs_get, List.getElem?_map] at hy
          cases hx : elems[i]? with
          | none => rw [hx] at hy; cases hy
          | some x => rw [hx] at hy; simp at hy; exact ⟨x, rfl, hy.symm⟩
         have hok : ∀ y ∈ datDs (elems.map (·.1)), okShs es1 y := fun y hy => by
          obtain ⟨i, hi⟩ := List.getElem?_of_mem hy
          obtain ⟨x, hx, rfl⟩ := hget' i y hi
          obtain ⟨cs, _, hr⟩ := hel i x hx
          exact hr.1
         refine Rd.one ⟨_, rfl, hok⟩ ?_
         by_cases hl0 : len = 0
         ·have : elems = [] := List.length_eq_zero_iff.1 (by omega)
          subst this; subst hl0
          exact .nil _ _
         ·obtain ⟨x0, hx0⟩ : ∃ x0, elems[0]? = some x0 := ⟨elems[0]'(by omega), by simp⟩
          obtain ⟨cs0, hcs0, hr0⟩ := hel 0 x0 hx0
          obtain ⟨g1, g2⟩ := cells_get hcs0
          obtain ⟨v0, hv0⟩ : ∃ v0, cs0[0]? = some v0 := ⟨cs0[0]'(by omega), by simp⟩
          have hsp := cell_spot (g2 0 v0 hv0)
          have ha0 : (a.add (0 * es1.length)).add 0 = a := by simp [Addr.add]
          rw [ha0] at hsp
          have hadd : ∀ i j, (a.add (i * es1.length)).add j = ⟨a.block, a.off + i * es1.length + j, none⟩ := fun i j => by
           cases a with
           | mk b o sp0 =>
            have : sp0 = none := hsp.1
            subst this
            unfold Addr.add
            split
            ·split
             ·rename_i q1 q2; simp [q1, q2]
             ·rename_i q1 q2; simp [q1]
            ·split
             ·rename_i q1 q2; simp [q2]
             ·rfl
          obtain ⟨b, o, sp0⟩ := a
          have : sp0 = none := hsp.1
          subst this
          have hlen' : (datDs (elems.map (·.1))).length = len := by rw [datDs_len, List.length_map, hlen]
          have hcell : ∀ (i : Nat) (y : List D) (j : Nat) (d : D), (datDs (elems.map (·.1)))[i]? = some y → y[j]? = some d → ∃ v, w.cell? ⟨b, o + i * es1.length + j, none⟩ = some v ∧ DRel (fun b => b < w.heap.size) w d v := fun i y j d hy hd => by
           obtain ⟨x, hx, rfl⟩ := hget' i y hy
           obtain ⟨cs, hcs, hr⟩ := hel i x hx
           obtain ⟨q1, q2⟩ := cells_get hcs
           have hj : j < cs.length := by
            have := (List.getElem?_eq_some_iff.1 hd).1
            rw [okShs_len hr.1] at this; omega
           have hv : cs[j]? = some cs[j] := by simp [hj]
           refine ⟨cs[j], ?_, hr.2.2 j d _ hd hv⟩
           have := q2 j _ hv
           rw [hadd] at this; exact this
          have := DRel.sl (S := fun b => b < w.heap.size) (w := w) (datDs (elems.map (·.1))) b o cap es1.length (fun i j => (w.cell? ⟨b, o + i * es1.length + j, none⟩).getD undef) hsp.2 hsp.2 (by rw [hlen']; exact hcap.2.1)
           (fun i x hx => by
            obtain ⟨x', hx', rfl⟩ := hget' i x hx
            obtain ⟨cs, _, hr⟩ := hel i x' hx'
            exact okShs_len hr.1)
           (fun i x j d hi hj => by obtain ⟨v, hv, _⟩ := hcell i x j d hi hj; rw [hv]; rfl)
           (fun i x j d hi hj => by obtain ⟨v, hv, hr⟩ := hcell i x j d hi hj; rw [hv]; exact hr)
          rw [hlen'] at this
          exact this
       ·cases h
      ·cases h
     ·cases hs
    ·cases hs
   case struct fs =>
    split at hs
    ·rename_i es1 h1
     split at hs
     ·rename_i hc
      injection hs with hs; subst hs
      split at h <;> first | (rename_i e; cases e; done) | (rename_i e _; cases e; done) | (rename_i e _ _; cases e; done) | skip
      ·rename_i fs' heq
       injection heq with heq; injection heq with heq; subst heq
       split at h
       ·rename_i hlen
        simp only [Option.map_eq_some_iff] at h
        obtain ⟨xs, hm, h⟩ := h
        injection h with h2 h3; subst h2
        have := trod_fields ih fs.toList n 0 es1 _ xs h1 hm (by omega)
        rw [List.drop_zero, List.take_of_length_le (by omega)] at this
        exact this
       ·cases h
      ·exact (‹∀ fs_1, some (TypeDesc.struct fs) = some (TypeDesc.struct fs_1) → False› fs rfl).elim
     ·cases hs
    ·cases hs

theorem vals_of_trod : ∀ {ts : List TypeId} {vs : List Value} {ds : List (DataW H)} {ps : List MemPlace}, DataW.TrodAll enc P w 0 sp held ts vs ds ps →
  ∀ (n : Nat) (ess : List (List Sh)), ts.map (shT P n) = ess.map some → vs.length = ts.length ∧ ds.length = ts.length ∧
   ∀ (i : Nat) es v d, ess[i]? = some es → vs[i]? = some v → ds[i]? = some d → Rd w es v.cells.toList (datD d)
 | [], [], [], ps, h, n, ess, he => by
  have : ess = [] := by cases ess <;> simp_all
  subst this
  simp
 | t :: ts, v :: vs, d :: ds, ps, h, n, ess, he => by
  obtain ⟨p, q, ⟨fuel, h1⟩, h2, _⟩ := h
  match ess, he with
  | es :: ess, he =>
   simp only [List.map_cons, List.cons.injEq] at he
   obtain ⟨g1, g2, g3⟩ := vals_of_trod h2 n ess he.2
   refine ⟨by simp [g1], by simp [g2], fun i es' v' d' hi hv hd => ?_⟩
   cases i with
   | zero => simp at hi hv hd; subst hi; subst hv; subst hd; exact trod_rd fuel n t es _ _ _ he.1 h1
   | succ i => simp at hi hv hd; exact g3 i es' v' d' hi hv hd
 | [], _ :: _, _, _, h, _, _, _ => by cases h
 | [], [], _ :: _, _, h, _, _, _ => by cases h
 | _ :: _, [], _, _, h, _, _, _ => by cases h
 | _ :: _, _ :: _, [], _, h, _, _, _ => by cases h

/-- What the cells give as an argument: one cell, or a struct. -/
def argV (agg : Bool) (ds : List D) : V := if agg then .agg (ds.map .d) else match ds with | [d] => .c (.d d) | _ => .any
theorem argV_rel {k : K} (hS : k.S = fun b => b < k.w.heap.size) {es : List Sh} {v : Value} {ds : List D} {agg : Bool} (h : Rd k.w es v.cells.toList ds) (ha : agg = true → ∃ cs, v = .agg cs) (hna : agg = false → v.cells = #[v] ∧ es.length = 1) :
  VRel P k (argV agg ds) v := by
 cases agg with
 | true =>
  obtain ⟨cs, rfl⟩ := ha rfl
  have hl := okShs_len h.1
  have h2 := h.2.1
  refine ⟨cs, rfl, ?_, fun i c v hc hv => ?_⟩
  ·simp [Value.cells] at h2; simp [hl, h2]
  ·rw [List.getElem?_map] at hc
   cases hd : ds[i]? with
   | none => rw [hd] at hc; cases hc
   | some d =>
    rw [hd] at hc; simp at hc; subst hc
    have := h.2.2 i d v hd (by simpa [Value.cells] using hv)
    show DRel k.S k.w d v
    rw [hS]; exact this
 | false =>
  obtain ⟨hc, he⟩ := hna rfl
  have hl := okShs_len h.1
  match ds, hl with
  | [d], _ =>
   have := h.2.2 0 d v rfl (by rw [hc]; rfl)
   show DRel k.S k.w d v
   rw [hS]; exact this
  | [], hl => rw [he] at hl; cases hl
  | _ :: _ :: _, hl => rw [he] at hl; simp at hl

theorem stab_nil0 (w : World) : (ctx (fun _ => none) [] w).S = fun b => b < w.heap.size := by
 funext b
 apply propext
 constructor
 ·intro h; exact h.1
 ·intro h; exact ⟨h, fun r o hr => by simp at hr⟩
theorem hrel_nil (w : World) : HRel P (fun _ => none) [] w := ⟨fun r o hr => by simp at hr, fun r r' o o' b hr => by simp at hr, fun r b hr => by cases hr⟩

/-- What a law's contract gives for its row. -/
theorem post_of_acalls {G0 : Gl} (hl : laidOutB P = true) {f : Nat} {fn : Func} {s : ChangeSpec} {W : World} (hG0 : GRel G0 (stab (fun _ => none) [] W) W) {args : Array Value} {ds gs : List (DataW H)} {before : List MemPlace} {us : List V} {R : T → List O → Prop} {apart handsOn : Bool} {tb : TypeId}
  (hres : fn.resultTypes = #[tb]) (hb : P.underlying tb = some .bool) (hvars : s.vars = []) (hspec : s.fn H (ds ++ gs) = { results := [.lit (.bool true)], args := ds })
  (hparams : ∀ t ∈ fn.params.toList, P.readableRec t = true ∧ t < P.types.size)
  (hW : DataW.Whole enc P fn.params.toList s.vars apart W args.toList ds gs before)
  (hv : VsRel P (ctx (fun _ => none) [] W) us args) (h : ACalls P G0 f us [] R) (hR : ∀ t H, R t H → t = .bool true) :
  Calls P f args W fun e W' => ∃ v, e = .returned v ∧ s.post enc P fn apart true handsOn false W args v W' := by
 refine (h.2 (fun _ => none) W args (hrel_nil W) hG0 hv).mono ?_
 rintro e W' ⟨v, t, ρ', H', rfl, hRt, hH, ht, le⟩
 have := hR t H' hRt
 subst this
 have hvt : v = .bool true := drel_v ht
 subst hvt
 have hstep := le.step
 rw [stab_nil0] at hstep
 have hkeep : ∀ b, b < W.heap.size → W'.heap[b]? = W.heap[b]? := hstep.keep
 obtain ⟨p, q, hA, hV, hpq, hz, hn⟩ := id hW
 have hlt : ∀ x ∈ before, x.block < W.heap.size := fun x hx => by simpa using hW.lt x hx
 have hq : q = [] := by rw [hvars] at hV; cases gs <;> simp [DataW.TrodVars] at hV; exact hV
 subst hq
 rw [List.append_nil] at hpq
 have hbelow : Go.RowKit.Below W.heap.size W W' := ⟨hstep.os, hstep.tape, hstep.output, hstep.size, hkeep⟩
 have hargs : ∀ (ts : List TypeId) (vs : List Value) (ds : List (DataW H)) (ps : List MemPlace), (∀ t ∈ ts, P.readableRec t = true ∧ t < P.types.size) → (∀ x ∈ ps, x.block < W.heap.size) → DataW.TrodAll enc P W 0 (fun _ => true) true ts vs ds ps →
   DataW.TrodAll enc P W' 0 (fun b => decide (b < W.heap.size)) true ts vs ds ps := by
  intro ts
  induction ts with
  | nil => intro vs ds ps _ _ h; cases vs <;> cases ds <;> exact h
  | cons t ts ih =>
   intro vs ds ps hp hlt h
   cases vs with
   | nil => cases h
   | cons v vs =>
    cases ds with
    | nil => cases h
    | cons d ds =>
     obtain ⟨p, q, h1, h2, rfl⟩ := h
     have ht := hp t List.mem_cons_self
     exact ⟨p, q, Go.RowKit.Below.trod hl ht.1 ht.2 h1 hbelow (fun x hx => hlt x (List.mem_append_left _ hx)), ih vs ds q (fun t ht => hp t (List.mem_cons_of_mem _ ht)) (fun x hx => hlt x (List.mem_append_right _ hx)) h2, rfl⟩
 refine ⟨_, rfl, ds, gs, before, [], before, [], hW, ?_, ?_, ?_, ?_, fun h => by cases h⟩
 ·rw [hspec, hres]
  exact ⟨[], [], Go.RowKit.shut_bool hb true, rfl, rfl⟩
 ·rw [hspec]; exact hargs _ _ _ _ hparams hlt (hpq ▸ hA)
 ·rw [hspec, hvars]; simp [DataW.TrodVars]
 ·refine ⟨hstep.os, hstep.output, fun i hi => ?_⟩
  rw [hkeep i hi]
  cases W.heap[i]? with
  | none => simp
  | some o => cases o <;> simp
end
end Go.Aw

namespace Go.Aw
open Go
section
variable {P : Program} {w : World}
def aggT (P : Program) (t : TypeId) : Bool := match P.underlying t with
 | some (.struct _) => true
 | some (.array _ _) => true
 | _ => false
theorem okWide_one {r : Reach} {base : Nat} {t : TypeId} {v : Value} (ha : aggT P t = false) (h : Value.okWide P w r base t v) : v.cells = #[v] := by
 unfold aggT at ha
 unfold Value.okWide at h
 cases hu : P.underlying t with
 | none =>
  rw [hu] at h
  cases v <;> first | rfl | (simp [Cell.okWide, Cell.ok, hu] at h)
 | some td =>
  rw [hu] at h ha
  cases td <;> first | (cases ha; done) | (cases v <;> first | rfl | (simp [Cell.okWide, Cell.ok, hu] at h))
theorem okWide_agg {r : Reach} {base : Nat} {t : TypeId} {v : Value} (ha : aggT P t = true) (h : Value.okWide P w r base t v) : ∃ cs, v = .agg cs := by
 unfold aggT at ha
 unfold Value.okWide at h
 cases hu : P.underlying t with
 | none => rw [hu] at ha; cases ha
 | some td =>
  rw [hu] at h ha
  cases td <;> first | (cases ha; done) | (obtain ⟨cs, e, _⟩ := h; exact ⟨cs, e⟩)
theorem shT_one {n : Nat} {t : TypeId} {es : List Sh} (ha : aggT P t = false) (h : shT P n t = some es) : es.length = 1 := by
 cases n with
 | zero => simp [shT] at h
 | succ n =>
  unfold aggT at ha
  cases hu : P.underlying t with
  | none => simp [shT, hu] at h
  | some td =>
   rw [hu] at ha
   simp only [shT, hu] at h
   cases td <;> simp only at h <;> first | (cases h; done) | (cases ha; done) | (injection h with h; subst h; rfl) | skip
   split at h
   ·split at h
    ·injection h with h; subst h; rfl
    ·cases h
   ·cases h

variable {H : Type} {enc : TypeId × Value → H}
theorem law_calls {G0 : Gl} (hl : laidOutB P = true) {f : Nat} {fn : Func} {s : ChangeSpec} {W : World} (hG0 : GRel G0 (stab (fun _ => none) [] W) W) {base : Nat} {args : Array Value} {ds gs : List (DataW H)} {before : List MemPlace} {apart handsOn : Bool} {tb : TypeId}
  {n : Nat} {ess : List (List Sh)} {aggs : List Bool} (hts : fn.params.toList.map (shT P n) = ess.map some) (hag : fn.params.toList.map (aggT P) = aggs)
  (hres : fn.resultTypes = #[tb]) (hb : P.underlying tb = some .bool) (hvars : s.vars = []) (hspec : ∀ ds : List (DataW H), ds.length = fn.params.toList.length → s.fn H ds = { results := [.lit (.bool true)], args := ds })
  (hparams : fn.params.toList.all (fun t => P.readableRec t && decide (t < P.types.size)) = true)
  (hval : ∀ (j : Nat) t v, fn.params[j]? = some t → args[j]? = some v → Value.okWide P W .any base t v)
  (hW : DataW.Whole enc P fn.params.toList s.vars apart W args.toList ds gs before)
  (h : (ds.map datD).length = ess.length → (∀ (i : Nat) es u, ess[i]? = some es → (ds.map datD)[i]? = some u → okShs es u) → gs = [] → ACalls P G0 f (List.zipWith argV aggs (ds.map datD)) [] fun t _ => t = .bool true) :
  Calls P f args W fun e W' => ∃ v, e = .returned v ∧ s.post enc P fn apart true handsOn false W args v W' := by
 obtain ⟨p, q, hA, hV, hpq, hz, hn⟩ := id hW
 have hgs : gs = [] := by rw [hvars] at hV; cases gs <;> simp [DataW.TrodVars] at hV; rfl
 subst hgs
 obtain ⟨l1, l2, hr⟩ := vals_of_trod hA n ess hts
 have hel : ess.length = fn.params.toList.length := by have := congrArg List.length hts; simpa using this.symm
 have hal : aggs.length = fn.params.toList.length := by rw [← hag]; simp
 have hok := h (by simp [l2, hel]) (fun i es u he hu => by
  rw [List.getElem?_map] at hu
  cases hd : ds[i]? with
  | none => rw [hd] at hu; cases hu
  | some d =>
   rw [hd] at hu; simp at hu; subst hu
   have hi : i < args.toList.length := by rw [l1, ← l2]; exact (List.getElem?_eq_some_iff.1 hd).1
   exact (hr i es _ d he (List.getElem?_eq_getElem hi) hd).1) rfl
 refine post_of_acalls hl hG0 (ds := ds) (gs := []) hres hb hvars (by rw [List.append_nil]; exact hspec ds l2) (fun t ht => ?_) hW ?_ hok (fun t H h => h)
 ·have := List.all_eq_true.1 hparams t ht
  simp at this; exact this
 ·refine ⟨by simp [hal, l2]; simpa using l1, fun i c v hc hv => ?_⟩
  rw [List.getElem?_zipWith] at hc
  have hv' : args.toList[i]? = some v := by simpa using hv
  have hi : i < fn.params.toList.length := by rw [← l1]; exact (List.getElem?_eq_some_iff.1 hv').1
  have hp : fn.params.toList[i]? = some fn.params.toList[i] := List.getElem?_eq_getElem hi
  obtain ⟨t, ht⟩ : ∃ t, fn.params.toList[i]? = some t := ⟨_, hp⟩
  have hga : aggs[i]? = some (aggT P t) := by rw [← hag, List.getElem?_map, ht]; rfl
  have hsh : ∃ es, ess[i]? = some es ∧ shT P n t = some es := by
   have h1 : (fn.params.toList.map (shT P n))[i]? = some (shT P n t) := by rw [List.getElem?_map, ht]; rfl
   rw [hts, List.getElem?_map] at h1
   cases he : ess[i]? with
   | none => rw [he] at h1; cases h1
   | some es => rw [he] at h1; simp at h1; exact ⟨es, rfl, h1.symm⟩
  obtain ⟨es, he, hse⟩ := hsh
  have hdi : i < ds.length := by rw [l2]; exact hi
  have hd : ds[i]? = some ds[i] := List.getElem?_eq_getElem hdi
  have hdm : (ds.map datD)[i]? = some (datD ds[i]) := by rw [List.getElem?_map, hd]; rfl
  rw [hga, hdm] at hc
  simp at hc
  subst hc
  have hrd := hr i es v ds[i] he hv' hd
  have hok' := hval i t v (by simpa using ht) hv
  exact argV_rel (k := ctx (fun _ => none) [] W) (stab_nil0 W) hrd (fun ha => okWide_agg ha hok') (fun ha => ⟨okWide_one ha hok', shT_one ha hse⟩)

/-! ### weights -/
mutual
def wD : D → Nat
 | .v (.string s) => s.size + 1
 | .sl xs => wDss xs + 1
 | _ => 1
def wDs : List D → Nat
 | [] => 0
 | d :: r => wD d + wDs r
def wDss : List (List D) → Nat
 | [] => 0
 | x :: r => wDs x + wDss r
end
theorem wDs_app : ∀ (a b : List D), wDs (a ++ b) = wDs a + wDs b
 | [], b => by simp [wDs]
 | d :: a, b => by simp only [List.cons_append, wDs, wDs_app a b]; omega
end
end Go.Aw

namespace Go.Aw.Try
open Go Go.Proofs Go.Proofs.YthgnlejjbhijfaaGreatDoor Go.Aw
set_option maxRecDepth 100000
/-! ### what came in, as data of this program -/
abbrev idSh : List Sh := [.s, .i .i64]
abbrev editSh : List Sh := [.s, .i .i64, .i .i64, .i .i64, .sl idSh, .i .i64, .s, .i .i64, .s, .i .i64, .b, .s, .s, .s, .s, .s, .i .i64, .s]
theorem dec_id {l : List D} (h : okShs idSh l) : ∃ x : Id, l = x.row := by
 simp only [idSh, okShs, okSh] at h
 obtain ⟨_, _, rfl, ⟨a, rfl⟩, _, _, rfl, ⟨n, rfl, _⟩, rfl⟩ := h
 exact ⟨⟨a, n⟩, rfl⟩
theorem dec_list {α : Type} {row : α → List D} {sh : List Sh} (hd : ∀ l, okShs sh l → ∃ x, l = row x) : ∀ {xs : List (List D)}, (∀ x ∈ xs, okShs sh x) → ∃ l : List α, xs = l.map row
 | [], _ => ⟨[], rfl⟩
 | x :: xs, h => by
  obtain ⟨a, rfl⟩ := hd x (h x List.mem_cons_self)
  obtain ⟨l, rfl⟩ := dec_list hd (fun y hy => h y (List.mem_cons_of_mem _ hy))
  exact ⟨a :: l, rfl⟩
theorem dec_edit {l : List D} (h : okShs editSh l) : ∃ e : Edit, l = e.row := by
 simp only [editSh, okShs, okSh] at h
 obtain ⟨_, _, rfl, ⟨a1, rfl⟩, _, _, rfl, ⟨a2, rfl, _⟩, _, _, rfl, ⟨a3, rfl, _⟩, _, _, rfl, ⟨a4, rfl, _⟩, _, _, rfl, ⟨a5, rfl, h5⟩, _, _, rfl, ⟨a6, rfl, _⟩, _, _, rfl, ⟨a7, rfl⟩, _, _, rfl, ⟨a8, rfl, _⟩, _, _, rfl, ⟨a9, rfl⟩, _, _, rfl, ⟨a10, rfl, _⟩,
  _, _, rfl, ⟨a11, rfl⟩, _, _, rfl, ⟨a12, rfl⟩, _, _, rfl, ⟨a13, rfl⟩, _, _, rfl, ⟨a14, rfl⟩, _, _, rfl, ⟨a15, rfl⟩, _, _, rfl, ⟨a16, rfl⟩, _, _, rfl, ⟨a17, rfl, _⟩, _, _, rfl, ⟨a18, rfl⟩, rfl⟩ := h
 obtain ⟨ds, rfl⟩ := dec_list (row := Id.row) (fun l h => dec_id h) h5
 exact ⟨⟨⟨a1, a2⟩, a3, a4, ds, a6, ⟨a7, a8⟩, ⟨a9, a10⟩, a11, a12, a13, a14, a15, ⟨a16, a17⟩, a18⟩, rfl⟩
theorem dec_edits {l : List D} (h : okShs [.sl editSh] l) : ∃ es : List Edit, l = [.sl (es.map Edit.row)] := by
 simp only [okShs, okSh] at h
 obtain ⟨_, _, rfl, ⟨xs, rfl, h⟩, rfl⟩ := h
 obtain ⟨es, rfl⟩ := dec_list (row := Edit.row) (fun l h => dec_edit h) h
 exact ⟨es, rfl⟩
theorem wrows {α : Type} {row : α → List D} (h : ∀ x, row x ≠ []) : ∀ l : List α, l.length ≤ wDss (l.map row)
 | [] => by simp
 | x :: l => by
  have := wrows h l
  have h1 : 1 ≤ wDs (row x) := by
   cases hx : row x with
   | nil => exact absurd hx (h x)
   | cons d r =>
    have : 1 ≤ wD d := by unfold wD; split <;> omega
    simp only [wDs]; omega
  simp only [List.map_cons, wDss, List.length_cons]; omega
section
variable {H : Type}
mutual
theorem bulk_D : ∀ d : DataW H, wDs (datD d) ≤ Rows.uptoBulk d
 | .lit l => by cases l <;> simp [datD, wDs, wD, Rows.uptoBulk, ByteArray.size]
 | .nil => by simp [datD, wDs, wD, wDss, Rows.uptoBulk]
 | .ptr d => by simp [datD, wDs]
 | .slice es sp => by
  have := bulk_Ds es
  simp only [datD, wDs, wD, Rows.uptoBulk]; omega
 | .agg ps => by
  have := bulk_F ps
  simp only [datD, Rows.uptoBulk]; omega
 | .iface t d => by simp [datD, wDs]
 | .map es => by simp [datD, wDs]
 | .held h => by simp [datD, wDs]
theorem bulk_Ds : ∀ l : List (DataW H), wDss (datDs l) ≤ Rows.uptoBulkAll l
 | [] => by simp [datDs, wDss]
 | d :: r => by
  have h1 := bulk_D d
  have h2 := bulk_Ds r
  simp only [datDs, wDss, Rows.uptoBulkAll]; omega
theorem bulk_F : ∀ l : List (DataW H), wDs (datF l) ≤ Rows.uptoBulkAll l
 | [] => by simp [datF, wDs]
 | d :: r => by
  have h1 := bulk_D d
  have h2 := bulk_F r
  simp only [datF, Rows.uptoBulkAll]; rw [wDs_app]; omega
end
/-- The bound, argument by argument. -/
theorem bulk_args {ds : List (DataW H)} (hk : Rows.uptoSmall H ds = true) : ∀ (i : Nat) u, (ds.map datD)[i]? = some u → wDs u ≤ 1048576 := by
 have h : Rows.uptoBulkAll ds ≤ 1048576 := of_decide_eq_true hk
 intro i u hu
 have key : ∀ (ds : List (DataW H)) (i : Nat) u, (ds.map datD)[i]? = some u → wDs u ≤ Rows.uptoBulkAll ds := by
  intro ds
  induction ds with
  | nil => intro i u hu; simp at hu
  | cons d r ih =>
   intro i u hu
   cases i with
   | zero => simp at hu; subst hu; have := bulk_D d; simp only [Rows.uptoBulkAll]; omega
   | succ i => simp at hu; have := ih i u (by simpa using hu); simp only [Rows.uptoBulkAll]; omega
 exact Nat.le_trans (key ds i u hu) h
end
theorem own : ownKnob Tryz.prog.godebug = none := by kernel_rfl
theorem laid : laidOutB Tryz.prog = true := by kernel_rfl
abbrev memSh : List Sh := [.s, .s]
theorem dec_mem {l : List D} (h : okShs memSh l) : ∃ x : Member, l = x.row := by
 simp only [memSh, okShs, okSh] at h
 obtain ⟨_, _, rfl, ⟨a, rfl⟩, _, _, rfl, ⟨n, rfl⟩, rfl⟩ := h
 exact ⟨⟨a, n⟩, rfl⟩
theorem dec_members {l : List D} (h : okShs [.sl memSh] l) : ∃ es : List Member, l = [.sl (es.map Member.row)] := by
 simp only [okShs, okSh] at h
 obtain ⟨_, _, rfl, ⟨xs, rfl, h⟩, rfl⟩ := h
 obtain ⟨es, rfl⟩ := dec_list (row := Member.row) (fun l h => dec_mem h) h
 exact ⟨es, rfl⟩
theorem wmem {α : Type} {row : α → List D} : ∀ {l : List α} {x : α}, x ∈ l → wDs (row x) ≤ wDss (l.map row)
 | [], x, h => by cases h
 | y :: l, x, h => by
  simp only [List.map_cons, wDss]
  rcases List.mem_cons.1 h with rfl | h
  ·omega
  ·have := wmem (row := row) h; omega
/-- What the bound says of edits. -/
theorem b_edits {l : List Edit} (h : wDs [.sl (l.map Edit.row)] ≤ 1048576) : l.length ≤ 1048576 ∧ ∀ e ∈ l, szE e := by
 simp only [wDs, wD] at h
 have h1 := wrows (row := Edit.row) (fun x => by simp [Edit.row]) l
 refine ⟨by omega, fun e he => ?_⟩
 have h2 := wmem (row := Edit.row) he
 have h3 : wDss (e.deps.map Id.row) ≤ wDs e.row := by simp only [Edit.row, wDs, wD]; omega
 have h4 := wrows (row := Id.row) (fun x => by simp [Id.row]) e.deps
 refine ⟨by omega, fun x hx => ?_⟩
 have h5 := wmem (row := Id.row) hx
 have h6 : x.a.size ≤ wDs (Id.row x) := by simp only [Id.row, wDs, wD]; omega
 omega
theorem b_members {l : List Member} (h : wDs [.sl (l.map Member.row)] ≤ 1048576) : l.length ≤ 1048576 ∧ ∀ m ∈ l, m.name.size < 4611686018427387904 := by
 simp only [wDs, wD] at h
 have h1 := wrows (row := Member.row) (fun x => by simp [Member.row]) l
 refine ⟨by omega, fun e he => ?_⟩
 have h2 := wmem (row := Member.row) he
 have h6 : e.name.size ≤ wDs (Member.row e) := by simp only [Member.row, wDs, wD]; omega
 omega
/-- internal/bytealg.MaxLen holds an int: of the world's shape. -/
theorem maxlen {W : World} (h : W.ShapedOpen Tryz.prog) : ∃ m, GRel (GM m) (stab (fun _ => none) [] W) W := by
 obtain ⟨m, hm⟩ := cell_of_shapedOpen_int (P := Tryz.prog) (g := 0) (t := 3) (zero := #[.int .i64 0]) h (of_decide_eq_true (by kernel_rfl)) (by kernel_rfl) rfl (by kernel_rfl) (by kernel_rfl) Tryz.underlying3
 refine ⟨m, fun g cs hg => ?_⟩
 unfold GM at hg
 split at hg
 ·rename_i h0
  subst h0
  injection hg with hg; subst hg
  have hlt : 0 < W.heap.size := World.block_lt_of_cell? _ _ hm
  refine ⟨⟨hlt, fun r o hr => by simp at hr⟩, hlt, fun j d hj => ?_⟩
  cases j with
  | zero => injection hj with hj; subst hj; exact ⟨_, hm, DRel.v _ rfl⟩
  | succ j => simp at hj
 ·cases hg
/-! ### the witness's world -/
def litV : DataW Unit → Value
 | .lit (.int k n) => .int k n
 | _ => undef
def aggV : DataW Unit → List Value
 | .agg xs => xs.flatMap fun d => match d with
  | .agg ys => ys.map litV
  | d => [litV d]
 | _ => []
def layO (cs : Array Value) : Obj → Obj
 | .cells _ t fz => .cells cs t fz
 | o => o
noncomputable def laidWorld (os : Os) : World :=
  { World.holding Tryz.prog os ⟨#[], #[], []⟩ with heap := ((World.holding Tryz.prog os ⟨#[], #[], []⟩).heap.modify 1 (layO (aggV Go.Pinned.utf8First).toArray)).modify 2 (layO (aggV (Rows.laid_unicode_utf8_acceptRanges (H := Unit))).toArray) }
end Go.Aw.Try

namespace Go.Aw.Try
open Go Go.Proofs Go.Aw
set_option maxRecDepth 100000
set_option maxHeartbeats 4000000
def sCid : ByteArray := ⟨#[99, 105, 100]⟩
def sAnn : ByteArray := ⟨#[97, 110, 110]⟩
def sBob : ByteArray := ⟨#[98, 111, 98]⟩
structure VArg where
 a : ByteArray
 n : Int
 c : Int
 who : ByteArray
 deps : List Id
theorem ids_inj {a b : List Id} (h : a.map Id.row = b.map Id.row) : a = b := map_inj (fun a b h => by cases a; cases b; simp [Id.row] at h; simp [h]) h
structure NArg where
 a : ByteArray
 x : Id
 y : Id
end Go.Aw.Try

namespace Go.Aw.Try
open Go Go.Proofs Go.Aw
set_option maxRecDepth 100000
set_option maxHeartbeats 4000000
/-! ### votes, and the sets that are decided -/
theorem pw_of_adj {α : Type} [Inhabited α] {R : α → α → Prop} (tr : ∀ a b c, R a b → R b c → R a c) {v : List α} (h : ∀ j, 0 < j → j < v.length → R (nth v (j - 1)) (nth v j)) : v.Pairwise R := by
 have key : ∀ d i, i + d + 1 < v.length → R (nth v i) (nth v (i + d + 1)) := by
  intro d
  induction d with
  | zero => intro i hi; exact h (i + 1) (by omega) hi
  | succ d ih =>
   intro i hi
   exact tr _ _ _ (ih i (by omega)) (h (i + (d + 1) + 1) (by omega) hi)
 rw [List.pairwise_iff_getElem]
 intro i j hi hj hij
 have := key (j - i - 1) i (by omega)
 rw [show i + (j - i - 1) + 1 = j from by omega, nth_eq hi, nth_eq hj] at this
 exact this
theorem nodup_len {α : Type} [DecidableEq α] : ∀ {M A : List α}, M.Nodup → (∀ x ∈ M, x ∈ A) → M.length ≤ A.length
 | [], _, _, _ => Nat.zero_le _
 | x :: r, A, hn, hs => by
  obtain ⟨h1, h2⟩ := List.nodup_cons.1 hn
  have hx : x ∈ A := hs x (List.mem_cons_self ..)
  have := nodup_len (A := A.erase x) h2 fun y hy => (List.mem_erase_of_ne (fun e => h1 (by rw [← e]; exact hy))).2 (hs y (List.mem_cons_of_mem _ hy))
  rw [List.length_erase_of_mem hx] at this
  have : 0 < A.length := List.length_pos_of_mem hx
  simp only [List.length_cons]; omega
theorem nodup_out {α : Type} [DecidableEq α] {M A : List α} (hn : M.Nodup) (h : A.length < M.length) : ∃ s ∈ M, s ∉ A := by
 refine Classical.byContradiction fun hc => ?_
 have := nodup_len hn (A := A) fun x hx => Classical.byContradiction fun hq => hc ⟨x, hx, hq⟩
 omega
theorem partS_iff {a b : List ByteArray} : partS a b = true ↔ ∀ s ∈ a, s ∈ b := by
 unfold partS
 rw [List.all_eq_true]
 exact ⟨fun h s hs => (hasS_iff b s).1 (h s hs), fun h s hs => (hasS_iff b s).2 (h s hs)⟩
/-- A vote that is well formed. -/
structure VOk (M : List ByteArray) (v : Vote) : Prop where
 kind : v.e.kind = 5
 mem : v.e.id.a ∈ M
 half : 2 * v.set.length < M.length
 asc : AscS v.set
 sub : ∀ s ∈ v.set, s ∈ M
 self : v.e.id.a ∉ v.set
 pos : 1 ≤ v.set.length
 who : v.set = parts v.e.who comma
theorem vok_of {M S : List ByteArray} {e : Edit} (h : namesO e M = some S) : VOk M ⟨e, S⟩ := by
 obtain ⟨h1, h2, h3, h4, h5⟩ := namesO_some h
 have hj : ∀ j, j < S.length → nth S j ≠ e.id.a ∧ nth S j ∈ M ∧ (0 < j → cmpS (nth S (j - 1)) (nth S j) < 0) := fun j hj => by
  have := h5 j hj
  unfold badN at this
  simp only [Bool.or_eq_false_iff, Bool.and_eq_false_iff, decide_eq_false_iff_not, Bool.not_eq_false'] at this
  refine ⟨this.1, (hasS_iff _ _).1 this.2.1, fun h0 => ?_⟩
  rcases this.2.2 with q | q
  ·exact absurd h0 q
  ·rw [strLt_eq] at q; exact of_decide_eq_true q
 refine ⟨h2, (hasS_iff _ _).1 h3, h4, pw_of_adj (R := fun a b => cmpS a b < 0) (fun a b c => cmpS_trans) fun j h0 h => (hj j h).2.2 h0, fun s hs => ?_, fun hs => ?_, ?_, h1⟩
 ·obtain ⟨i, hi, rfl⟩ := List.mem_iff_getElem.1 hs
  have := (hj i hi).2.1
  rw [nth_eq hi] at this; exact this
 ·obtain ⟨i, hi, he⟩ := List.mem_iff_getElem.1 hs
  have := (hj i hi).1
  rw [nth_eq hi] at this; exact this he
 ·show 1 ≤ S.length
  rw [h1, parts_len _ _ comma_size]; omega
/-- Votes of one author grow. -/
def ChainV (vs : List Vote) : Prop := vs.Pairwise fun u v => u.e.id.a = v.e.id.a → (∀ s ∈ u.set, s ∈ v.set) ∧ u.set.length < v.set.length
theorem gatF_chain (M : List ByteArray) (l : List Edit) : ChainV (gatF M l).vs := by
 have key : ∀ (l : List Edit) (g : Gs), ChainV g.vs → (∀ u ∈ g.vs, ∃ A, alook g.m u.e.id.a = some A ∧ (∀ s ∈ u.set, s ∈ A) ∧ u.set.length ≤ A.length) → ChainV (l.foldl (gatS M) g).vs := by
  intro l
  induction l with
  | nil => intro g h _; exact h
  | cons e l ih =>
   intro g h1 h2
   rw [List.foldl_cons]
   unfold gatS
   cases hN : namesO e M with
   | none => exact ih g h1 h2
   | some S =>
    by_cases hb : blockB (alook g.m e.id.a) S = true
    ·simp only [if_pos hb]; exact ih g h1 h2
    ·simp only [if_neg hb]
     have hA : ∀ A, alook g.m e.id.a = some A → (∀ s ∈ A, s ∈ S) ∧ A.length < S.length := fun A ha => by
      rw [ha] at hb
      unfold blockB at hb
      simp only [Bool.or_eq_true, Bool.not_eq_true', decide_eq_true_eq, not_or] at hb
      refine ⟨partS_iff.1 ?_, by omega⟩
      cases hq : partS A S
      ·exact absurd hq hb.1
      ·rfl
     refine ih _ ?_ ?_
     ·show ChainV (g.vs ++ [⟨e, S⟩])
      unfold ChainV
      rw [List.pairwise_append]
      refine ⟨h1, List.pairwise_singleton _ _, fun u hu v hv he => ?_⟩
      rw [List.mem_singleton] at hv; subst hv
      obtain ⟨A, ha, h3, h4⟩ := h2 u hu
      rw [he] at ha
      obtain ⟨h5, h6⟩ := hA A ha
      exact ⟨fun s hs => h5 s (h3 s hs), by show _ < S.length; omega⟩
     ·intro u hu
      show ∃ A, alook (aput g.m e.id.a S) u.e.id.a = some A ∧ _
      rw [alook_aput]
      rcases List.mem_append.1 hu with hu | hu
      ·obtain ⟨A, ha, h3, h4⟩ := h2 u hu
       by_cases q : e.id.a = u.e.id.a
       ·rw [if_pos q]
        rw [← q] at ha
        obtain ⟨h5, h6⟩ := hA A ha
        exact ⟨S, rfl, fun s hs => h5 s (h3 s hs), by omega⟩
       ·rw [if_neg q]; exact ⟨A, ha, h3, h4⟩
      ·rw [List.mem_singleton] at hu; subst hu
       rw [if_pos rfl]; exact ⟨S, rfl, fun s hs => hs, Nat.le_refl _⟩
 exact key l ⟨[], []⟩ List.Pairwise.nil (fun u hu => by cases hu)
theorem saidB_iff {vs : List Vote} {S : List ByteArray} {s : ByteArray} : saidB (ofV vs S) s = true ↔ ∃ v ∈ vs, v.set = S ∧ v.e.id.a = s := by
 unfold saidB ofV
 rw [List.any_eq_true]
 constructor
 ·rintro ⟨v, hv, he⟩
  rw [List.mem_filter] at hv
  exact ⟨v, hv.1, of_decide_eq_true hv.2, of_decide_eq_true he⟩
 ·rintro ⟨v, hv, h1, h2⟩
  exact ⟨v, List.mem_filter.2 ⟨hv, decide_eq_true h1⟩, decide_eq_true h2⟩
theorem mem_stay {M S : List ByteArray} {s : ByteArray} : s ∈ stayS M S ↔ s ∈ M ∧ s ∉ S := by
 unfold stayS
 rw [List.mem_filter, Bool.not_eq_true']
 constructor
 ·rintro ⟨h1, h2⟩
  exact ⟨h1, fun q => by rw [(hasS_iff S s).2 q] at h2; cases h2⟩
 ·rintro ⟨h1, h2⟩
  refine ⟨h1, ?_⟩
  cases hq : hasS S s
  ·rfl
  ·exact absurd ((hasS_iff S s).1 hq) h2
theorem decB_iff {M : List ByteArray} {vs : List Vote} {S : List ByteArray} : decB M vs S = true ↔ ∀ s ∈ M, s ∉ S → ∃ v ∈ vs, v.set = S ∧ v.e.id.a = s := by
 unfold decB
 rw [Bool.not_eq_true', List.any_eq_false]
 constructor
 ·intro h s hs hn
  have := h s (mem_stay.2 ⟨hs, hn⟩)
  rw [Bool.not_eq_true, Bool.not_eq_false'] at this
  exact saidB_iff.1 this
 ·intro h s hs
  obtain ⟨h1, h2⟩ := mem_stay.1 hs
  rw [Bool.not_eq_true, Bool.not_eq_false']
  exact saidB_iff.2 (h s h1 h2)
/-- Votes as they are gathered. -/
structure VsOk (M : List ByteArray) (vs : List Vote) : Prop where
 nod : M.Nodup
 ok : ∀ v ∈ vs, VOk M v
 chain : ChainV vs
theorem chain_cmp {M : List ByteArray} {vs : List Vote} (h : VsOk M vs) {u v : Vote} (hu : u ∈ vs) (hv : v ∈ vs) (he : u.e.id.a = v.e.id.a) :
  u.set = v.set ∨ ((∀ s ∈ u.set, s ∈ v.set) ∧ u.set.length < v.set.length) ∨ ((∀ s ∈ v.set, s ∈ u.set) ∧ v.set.length < u.set.length) := by
 obtain ⟨i, hi, rfl⟩ := List.mem_iff_getElem.1 hu
 obtain ⟨j, hj, rfl⟩ := List.mem_iff_getElem.1 hv
 have hc := List.pairwise_iff_getElem.1 h.chain
 rcases Nat.lt_trichotomy i j with q | q | q
 ·exact .inr (.inl (hc i j hi hj q he))
 ·subst q; exact .inl rfl
 ·exact .inr (.inr (hc j i hj hi q he.symm))
/-- A set that is decided. -/
def Dcd (M : List ByteArray) (vs : List Vote) (S : List ByteArray) : Prop := (∃ v ∈ vs, v.set = S) ∧ decB M vs S = true
theorem dcd_of_out {M : List ByteArray} {vs : List Vote} {S : List ByteArray} (h : S ∈ outU M vs vs) : Dcd M vs S := by
 obtain ⟨v, hv, rfl, hd⟩ := outU_mem h
 exact ⟨⟨v, hv, rfl⟩, hd⟩
/-- Of two decided sets one is part of the other. -/
theorem dcd_cmp {M : List ByteArray} {vs : List Vote} (h : VsOk M vs) {S T : List ByteArray} (hS : Dcd M vs S) (hT : Dcd M vs T) :
  S = T ∨ ((∀ s ∈ S, s ∈ T) ∧ S.length < T.length) ∨ ((∀ s ∈ T, s ∈ S) ∧ T.length < S.length) := by
 obtain ⟨⟨u, hu, rfl⟩, d1⟩ := hS
 obtain ⟨⟨v, hv, rfl⟩, d2⟩ := hT
 have h1 := (h.ok u hu).half
 have h2 := (h.ok v hv).half
 obtain ⟨s, hs, hn⟩ := nodup_out h.nod (A := u.set ++ v.set) (by rw [List.length_append]; omega)
 rw [List.mem_append, not_or] at hn
 obtain ⟨u', hu', e1, e2⟩ := decB_iff.1 d1 s hs hn.1
 obtain ⟨v', hv', e3, e4⟩ := decB_iff.1 d2 s hs hn.2
 rw [← e1, ← e3]
 exact chain_cmp h hu' hv' (by rw [e2, e4])
theorem dcd_len {M : List ByteArray} {vs : List Vote} (h : VsOk M vs) {S T : List ByteArray} (hS : Dcd M vs S) (hT : Dcd M vs T) (e : S.length = T.length) : S = T := by
 rcases dcd_cmp h hS hT with q | q | q
 ·exact q
 ·omega
 ·omega
theorem outU_nodup (M : List ByteArray) (vs l : List Vote) : (outU M vs l).Nodup := by
 have key : ∀ (l : List Vote) (a : List (List ByteArray)), a.Nodup → (l.foldl (outStep M vs) a).Nodup := by
  intro l
  induction l with
  | nil => intro a h; exact h
  | cons v l ih =>
   intro a h
   refine ih _ ?_
   unfold outStep
   split
   ·rename_i hc
    simp only [Bool.and_eq_true, Bool.not_eq_true', List.any_eq_false, decide_eq_true_eq] at hc
    unfold List.Nodup
    rw [List.pairwise_append]
    refine ⟨h, List.pairwise_singleton _ _, fun x hx y hy => ?_⟩
    rw [List.mem_singleton] at hy; subst hy
    exact hc.2 x hx
   ·exact h
 exact key l [] List.Pairwise.nil
theorem nodup_small {l : List Nat} (n : Nat) (h : l.Nodup) (hb : ∀ x ∈ l, x < n) : l.length ≤ n := by
 have := nodup_len (A := List.range n) h fun x hx => List.mem_range.2 (hb x hx)
 simpa using this
theorem outU_few {M : List ByteArray} {vs : List Vote} (h : VsOk M vs) (h8 : M.length ≤ 8) : (outU M vs vs).length ≤ 12 := by
 have h1 : ((outU M vs vs).map List.length).Nodup := by
  unfold List.Nodup
  rw [List.pairwise_map]
  refine List.Pairwise.imp_of_mem (R := fun a b => a ≠ b) (fun {a b} ha hb hne e => hne ?_) (outU_nodup M vs vs)
  exact dcd_len h (dcd_of_out ha) (dcd_of_out hb) e
 have := nodup_small 4 h1 fun x hx => by
  obtain ⟨S, hS, rfl⟩ := List.mem_map.1 hx
  obtain ⟨⟨v, hv, rfl⟩, _⟩ := dcd_of_out hS
  have := (h.ok v hv).half
  omega
 rw [List.length_map] at this
 omega
theorem OkR.nod {l : List Edit} {all : List Member} (h : OkR l all) : (all.map Member.name).Nodup := by
 unfold List.Nodup
 rw [List.pairwise_map, List.pairwise_iff_getElem]
 intro i j hi hj hij
 have := (h.2.2.1 j hj).2 i hij
 rw [nth_eq hi, nth_eq hj] at this; exact this
theorem OkR.okE {l : List Edit} {all : List Member} (h : OkR l all) {e : Edit} (he : e ∈ l) : okE e := by
 obtain ⟨i, hi, rfl⟩ := List.mem_iff_getElem.1 he
 have := (h.2.2.2 i hi).1
 rw [nth_eq hi] at this; exact this
theorem OkR.vs {l : List Edit} {all : List Member} (h : OkR l all) : VsOk (all.map Member.name) (gatC l all).vs :=
 ⟨h.nod, fun v hv => vok_of (gatC_mem hv).2, gatF_chain _ _⟩
theorem OkR.okC {l : List Edit} {all : List Member} (h : OkR l all) : okC l all := by
 have h1 := h.1
 have h2 := h.2.1
 refine ⟨by omega, by omega, fun e he => ?_, fun e he => ?_, outU_few h.vs (by show (all.map Member.name).length ≤ 8; rw [List.length_map]; exact h2)⟩
 ·have := (h.okE he).2.2.1; omega
 ·have hk := h.okE he
  exact ⟨(chk_asc hk.1).1, by have := hk.2.1; omega⟩
theorem hasN_nonneg {v : List Id} (h : ∀ x ∈ v, 1 ≤ x.n) (a : ByteArray) : 0 ≤ hasN v a := by
 unfold hasN
 cases hf : v.find? (prA a) with
 | none => exact Int.le_refl _
 | some x => have := h x (List.mem_of_find?_eq_some hf); show 0 ≤ x.n; omega
end Go.Aw.Try

namespace Go.Aw.Try
open Go Go.Proofs Go.Aw
set_option maxRecDepth 100000
set_option maxHeartbeats 4000000
/-! ### EvictMinority: the walk -/
/-- Lists of a size that fits. -/
structure Sz (l : List Edit) (all : List Member) : Prop where
 sl : l.length < 4611686018427387904
 sa : all.length < 4611686018427387904
 sn : ∀ m ∈ all, m.name.size < 4611686018427387904
 se : ∀ e ∈ l, szE e
/-! ### EvictMinority: the law -/
theorem sure_fold {s : ByteArray} : ∀ {l : List Vote} {x : Int}, (∀ v ∈ l, 0 ≤ hasN v.e.deps s) →
  (0 ≤ x → 0 ≤ l.foldl (sureStep s) x ∧ l.foldl (sureStep s) x ≤ x) ∧ ∀ v ∈ l, s ∈ v.set → 0 ≤ l.foldl (sureStep s) x ∧ l.foldl (sureStep s) x ≤ hasN v.e.deps s
 | [], x, _ => ⟨fun h => ⟨h, Int.le_refl _⟩, fun v hv => by cases hv⟩
 | v :: l, x, h => by
  have hv := h v (List.mem_cons_self ..)
  have ih := sure_fold (s := s) (l := l) (x := sureStep s x v) fun u hu => h u (List.mem_cons_of_mem _ hu)
  rw [List.foldl_cons]
  have hx : 0 ≤ x → 0 ≤ sureStep s x v ∧ sureStep s x v ≤ x := fun h0 => by
   unfold sureStep
   split
   ·rename_i hc
    simp only [Bool.and_eq_true, Bool.or_eq_true, decide_eq_true_eq] at hc
    exact ⟨hv, by omega⟩
   ·exact ⟨h0, Int.le_refl _⟩
  have hin : s ∈ v.set → 0 ≤ sureStep s x v ∧ sureStep s x v ≤ hasN v.e.deps s := fun hs => by
   unfold sureStep
   rw [(hasS_iff v.set s).2 hs, Bool.true_and]
   split
   ·exact ⟨hv, Int.le_refl _⟩
   ·rename_i hc
    simp only [Bool.or_eq_true, decide_eq_true_eq, not_or] at hc
    exact ⟨by omega, by omega⟩
  refine ⟨fun h0 => ?_, fun u hu hs => ?_⟩
  ·obtain ⟨a, b⟩ := hx h0
   obtain ⟨c, d⟩ := ih.1 a
   exact ⟨c, by omega⟩
  ·rcases List.mem_cons.1 hu with rfl | hu
   ·obtain ⟨a, b⟩ := hin hs
    obtain ⟨c, d⟩ := ih.1 a
    exact ⟨c, by omega⟩
   ·exact ih.2 u hu hs
theorem sureN_le {vs : List Vote} {s : ByteArray} (h : ∀ v ∈ vs, 0 ≤ hasN v.e.deps s) {v : Vote} (hv : v ∈ vs) (hs : s ∈ v.set) : sureN vs s ≤ hasN v.e.deps s := by
 obtain ⟨h1, h2⟩ := (sure_fold (x := -1) h).2 v hv hs
 unfold sureN sureL
 rw [if_neg (by omega)]; exact h2
theorem max_fold {s : ByteArray} : ∀ {l : List Vote} {x : Int}, x ≤ l.foldl (maxStep s) x ∧ ∀ v ∈ l, hasN v.e.deps s ≤ l.foldl (maxStep s) x
 | [], x => ⟨Int.le_refl _, fun v hv => by cases hv⟩
 | v :: l, x => by
  have ih := max_fold (s := s) (l := l) (x := maxStep s x v)
  rw [List.foldl_cons]
  have h1 : x ≤ maxStep s x v ∧ hasN v.e.deps s ≤ maxStep s x v := by unfold maxStep; split <;> omega
  refine ⟨by omega, fun u hu => ?_⟩
  rcases List.mem_cons.1 hu with rfl | hu
  ·omega
  ·exact ih.2 u hu
theorem maxN_ge {vs : List Vote} {s : ByteArray} {v : Vote} (hv : v ∈ vs) : hasN v.e.deps s ≤ maxN vs s := max_fold.2 v hv
theorem pw_ext {α : Type} {R : α → α → Prop} (asy : ∀ a b, R a b → ¬ R b a) (ir : ∀ a, ¬ R a a) : ∀ {l l' : List α}, l.Pairwise R → l'.Pairwise R → (∀ x, x ∈ l ↔ x ∈ l') → l = l'
 | [], [], _, _, _ => rfl
 | [], y :: l', _, _, h => by have := (h y).2 List.mem_cons_self; cases this
 | x :: l, [], _, _, h => by have := (h x).1 List.mem_cons_self; cases this
 | x :: l, y :: l', h1, h2, h => by
  obtain ⟨a1, a2⟩ := List.pairwise_cons.1 h1
  obtain ⟨b1, b2⟩ := List.pairwise_cons.1 h2
  have exy : x = y := by
   rcases List.mem_cons.1 ((h x).1 List.mem_cons_self) with e | hx
   ·exact e
   ·rcases List.mem_cons.1 ((h y).2 List.mem_cons_self) with e | hy
    ·exact e.symm
    ·exact absurd (b1 x hx) (asy _ _ (a1 y hy))
  subst exy
  rw [pw_ext asy ir a2 b2 fun z => ?_]
  constructor
  ·intro hz
   rcases List.mem_cons.1 ((h z).1 (List.mem_cons_of_mem _ hz)) with e | hz'
   ·subst e; exact absurd (a1 z hz) (ir z)
   ·exact hz'
  ·intro hz
   rcases List.mem_cons.1 ((h z).2 (List.mem_cons_of_mem _ hz)) with e | hz'
   ·subst e; exact absurd (b1 z hz) (ir z)
   ·exact hz'
theorem finalB_iff {c : Cn} {S : List ByteArray} : finalB c S = true ↔ ∀ s ∈ c.mem, s ∉ S → knewB c.l (ofV c.vs S) s = true := by
 unfold finalB
 rw [Bool.not_eq_true', List.any_eq_false]
 constructor
 ·intro h s hs hn
  have := h s (mem_stay.2 ⟨hs, hn⟩)
  rw [Bool.not_eq_true, Bool.not_eq_false'] at this; exact this
 ·intro h s hs
  obtain ⟨h1, h2⟩ := mem_stay.1 hs
  rw [Bool.not_eq_true, Bool.not_eq_false']; exact h s h1 h2
/-! ### EvictOrder: the law -/
theorem bool_ext {a b : Bool} (h : a = true ↔ b = true) : a = b := by
 cases a <;> cases b <;> simp at h ⊢
/-! ### the decided sets, by size; the set that goes ahead -/
theorem outU_has {M : List ByteArray} {vs : List Vote} {S : List ByteArray} (h : Dcd M vs S) : S ∈ outU M vs vs := by
 have key : ∀ (l : List Vote) (a : List (List ByteArray)), (∀ s ∈ a, s ∈ l.foldl (outStep M vs) a) ∧ ∀ v ∈ l, decB M vs v.set = true → v.set ∈ l.foldl (outStep M vs) a := by
  intro l
  induction l with
  | nil => intro a; exact ⟨fun s hs => hs, fun v hv => by cases hv⟩
  | cons v l ih =>
   intro a
   obtain ⟨h1, h2⟩ := ih (outStep M vs a v)
   have hin : ∀ s ∈ a, s ∈ outStep M vs a v := fun s hs => by
    unfold outStep; split
    ·exact List.mem_append_left _ hs
    ·exact hs
   refine ⟨fun s hs => h1 s (hin s hs), fun u hu hd => ?_⟩
   rcases List.mem_cons.1 hu with rfl | hu
   ·refine h1 _ ?_
    unfold outStep
    split
    ·exact List.mem_append_right _ (List.mem_singleton.2 rfl)
    ·rename_i hc
     rw [hd, Bool.true_and, Bool.not_eq_true'] at hc
     have hc : (a.any fun x => decide (x = u.set)) = true := by
      cases hq : a.any fun x => decide (x = u.set)
      ·exact absurd hq hc
      ·rfl
     rw [List.any_eq_true] at hc
     obtain ⟨y, hy, he⟩ := hc
     rw [← of_decide_eq_true he]; exact hy
   ·exact h2 u hu hd
 obtain ⟨⟨v, hv, rfl⟩, hd⟩ := h
 exact (key vs []).2 v hv hd
theorem vs_small {M : List ByteArray} {vs : List Vote} (h : VsOk M vs) (h8 : M.length ≤ 8) : ∀ v ∈ vs, SmallS v.set := fun v hv => by
 have := (h.ok v hv).half
 show v.set.length < _; omega
theorem mem_out {M : List ByteArray} {vs : List Vote} (h : VsOk M vs) (h8 : M.length ≤ 8) {S : List ByteArray} : S ∈ outL M vs ↔ Dcd M vs S := by
 rw [outL_mem (vs_small h h8)]
 exact ⟨dcd_of_out, outU_has⟩
theorem out_sorted {M : List ByteArray} {vs : List Vote} (h : VsOk M vs) (h8 : M.length ≤ 8) : (outL M vs).Pairwise fun a b => a.length < b.length := by
 obtain ⟨s1, s2, _⟩ := sortL_spec (outU_small (mem := M) (vs_small h h8))
 rw [List.pairwise_iff_forall_sublist]
 intro a b hab
 have hle := (List.pairwise_iff_forall_sublist.1 s1) hab
 unfold cmpZ at hle
 by_cases hq : a.length = b.length
 ·exfalso
  have e1 : decide (cmpZ a a = 0) = true := decide_eq_true (by unfold cmpZ; omega)
  have e2 : decide (cmpZ a b = 0) = true := decide_eq_true (by unfold cmpZ; omega)
  have h1 : [a, b].filter (fun y => decide (cmpZ a y = 0)) = [a, b] := by
   rw [List.filter_cons, if_pos e1, List.filter_cons, if_pos e2]; rfl
  have h2 : [a, b].Sublist (cls cmpZ a (sortL (outU M vs vs))) := by
   rw [← h1]; exact hab.filter _
  rw [s2 a] at h2
  have h3 : [a, b].Sublist (outU M vs vs) := h2.trans List.filter_sublist
  have hne := (List.pairwise_iff_forall_sublist.1 (outU_nodup M vs vs)) h3
  have ha : a ∈ outU M vs vs := h3.subset (by simp)
  have hb : b ∈ outU M vs vs := h3.subset (by simp)
  exact hne (dcd_len h (dcd_of_out ha) (dcd_of_out hb) hq)
 ·omega
theorem knowsV_ext {d : List Id} {a b : List Vote} (h : ∀ v, v ∈ a ↔ v ∈ b) : knowsV d a = knowsV d b := by
 refine bool_ext ?_
 unfold knowsV
 rw [List.all_eq_true, List.all_eq_true]
 exact ⟨fun q v hv => q v ((h v).2 hv), fun q v hv => q v ((h v).1 hv)⟩
theorem anyKnows_ext {a b c d : List Vote} (h : ∀ v, v ∈ a ↔ v ∈ b) (k : ∀ v, v ∈ c ↔ v ∈ d) : anyKnows a c = anyKnows b d := by
 refine bool_ext ?_
 unfold anyKnows
 rw [List.any_eq_true, List.any_eq_true]
 constructor
 ·rintro ⟨v, hv, hk⟩; exact ⟨v, (h v).1 hv, by rw [← knowsV_ext k]; exact hk⟩
 ·rintro ⟨v, hv, hk⟩; exact ⟨v, (h v).2 hv, by rw [knowsV_ext k]; exact hk⟩
theorem max_fold_le {s : ByteArray} {b : Int} : ∀ {l : List Vote} {x : Int}, x ≤ b → (∀ v ∈ l, hasN v.e.deps s ≤ b) → l.foldl (maxStep s) x ≤ b
 | [], x, hx, _ => hx
 | v :: l, x, hx, h => by
  rw [List.foldl_cons]
  refine max_fold_le ?_ fun u hu => h u (List.mem_cons_of_mem _ hu)
  have := h v (List.mem_cons_self ..)
  unfold maxStep; split <;> omega
theorem maxN_ext {a b : List Vote} {s : ByteArray} (h : ∀ v, v ∈ a ↔ v ∈ b) : maxN a s = maxN b s := by
 have key : ∀ {a b : List Vote}, (∀ v, v ∈ a → v ∈ b) → maxN a s ≤ maxN b s := fun {a b} h =>
  max_fold_le (max_fold (l := b) (x := 0)).1 fun v hv => maxN_ge (h v hv)
 exact Int.le_antisymm (key fun v hv => (h v).1 hv) (key fun v hv => (h v).2 hv)
end Go.Aw.Try

namespace Go.Aw.Try
open Go Go.Proofs Go.Aw
set_option maxRecDepth 100000
set_option maxHeartbeats 4000000
/-! ### the reference's small functions -/
theorem hasS_no {l : List ByteArray} {x : ByteArray} (h : ∀ j, j < l.length → nth l j ≠ x) : hasS l x = false := by
 cases hq : hasS l x
 ·rfl
 ·obtain ⟨j, hj, e⟩ := List.mem_iff_getElem.1 ((hasS_iff l x).1 hq)
  exact absurd (by rw [nth_eq hj]; exact e) (h j hj)
theorem k581 (all : List Member) (nm : ByteArray) (h1 : all.length < 4611686018427387904) : ACalls Tryz.prog G0 81 [.c (.d (.sl (all.map Member.row))), Sx nm] [] fun t H => t = .bool (hasS (all.map Member.name) nm) ∧ H = [] := by
 refine acallsX (X := []) trivial tab hmix Tryz.func81 c581 (by rfl) fun hw => ?_
 obtain ⟨M, hM⟩ : ∃ M, M = all.map Member.name := ⟨_, rfl⟩
 have hMl : M.length = all.length := by rw [hM, List.length_map]
 rw [← hM]
 simp (implicitDefEqProofs := false) (disch := omega) [gz, ir581, b581, wrap64]
 refine loopE (fun k st => ∃ i, i ≤ all.length ∧ k = all.length - i ∧ (∀ j, j < i → nth M j ≠ nm) ∧
   st = ⟨ofL [(1, .v (.c (.d (.v (.string nm))))), (7, .v (.c (.d (.sl (all.map Member.row))))), (8, .int .i64 all.length), (9, .int .i64 i)], []⟩)
  (fun st => (∀ j, j < all.length → nth M j ≠ nm) ∧ AtS [] [] st) ?_ ?_ ?_
 ·refine wk_nil [] [1, 7, 8, 9] rfl ⟨_, 0, by omega, rfl, fun j hj => by omega, ?_⟩
  simp [Sx]
 ·rintro J L hJ hL k st ⟨i, hi, rfl, hb, rfl⟩
  by_cases hlt : i < all.length
  ·obtain ⟨x, hx⟩ : ∃ x, nth all i = x := ⟨_, rfl⟩
   have hxr : x.row = [.v (.string x.name), .v (.string x.key)] := rfl
   have hMi : nth M i = x.name := by rw [hM, nth_map _ hlt, hx]
   by_cases c1 : x.name = nm
   ·have : hasS M nm = true := (hasS_iff _ _).2 (by rw [← c1, ← hMi]; exact nth_mem (by omega))
    rw [this]
    simp (implicitDefEqProofs := false) (disch := omega) [gz, hlt, wrap64, nth_map, hx, hxr, splice, fillC, binSF, c1]
    exact fin_nil ⟨rfl, rfl⟩
   ·simp (implicitDefEqProofs := false) (disch := omega) [gz, hlt, wrap64, nth_map, hx, hxr, splice, fillC, binSF, c1]
    subst hJ
    refine wk_nil [] [1, 7, 8, 9] rfl ⟨all.length - (i + 1), by omega, i + 1, by omega, rfl, fun j hj => ?_, ?_⟩
    ·by_cases e1 : j = i
     ·subst e1; rw [hMi]; exact c1
     ·exact hb j (by omega)
    ·simp
  ·have : i = all.length := by omega
   subst this
   simp (implicitDefEqProofs := false) (disch := omega) [gz, hlt]
   subst hL
   exact ⟨hb, at_mk (by simp) rfl⟩
 ·rintro _ ⟨hb, sl, rfl⟩
  rw [hasS_no (fun j hj => hb j (by omega))]
  simp (implicitDefEqProofs := false) (disch := omega) [gz, wrap64]
  exact fin_nil ⟨rfl, rfl⟩
noncomputable def x581 : XE := mkX true (fun (p : List Member × ByteArray) => [.c (.sl (p.1.map Member.row)), .c (.v (.string p.2))]) (fun p => p.1.length < 4611686018427387904) (fun p => .bool (hasS (p.1.map Member.name) p.2))
theorem kx581 : Contract Tryz.prog G0 81 x581 := mkX_scal (fun _ => rfl) fun p h => k581 p.1 p.2 h
theorem xg581 (all : List Member) (nm : ByteArray) (h : all.length < 4611686018427387904) : x581.g [.c (.sl (all.map Member.row)), .c (.v (.string nm))] = some (True, .bool (hasS (all.map Member.name) nm)) := mkX_g (fun a b h => by
 simp only [List.cons.injEq, PVo.c.injEq, D.sl.injEq, D.v.injEq, Value.string.injEq] at h
 exact Prod.ext (mrows_inj h.1) h.2.1) (all, nm) h
theorem k546 (l : List ByteArray) (nm : ByteArray) (h1 : l.length < 4611686018427387904) : ACalls Tryz.prog G0 46 [.c (.d (.sl (l.map srow))), Sx nm] [] fun t H => t = .bool (hasS l nm) ∧ H = [] := by
 refine acallsX (X := []) trivial tab hmix Tryz.func46 c546 (by rfl) fun hw => ?_
 simp (implicitDefEqProofs := false) (disch := omega) [gz, ir546, b546, wrap64]
 refine loopE (fun k st => ∃ i, i ≤ l.length ∧ k = l.length - i ∧ (∀ j, j < i → nth l j ≠ nm) ∧
   st = ⟨ofL [(1, .v (.c (.d (.v (.string nm))))), (7, .v (.c (.d (.sl (l.map srow))))), (8, .int .i64 l.length), (9, .int .i64 i)], []⟩)
  (fun st => (∀ j, j < l.length → nth l j ≠ nm) ∧ AtS [] [] st) ?_ ?_ ?_
 ·refine wk_nil [] [1, 7, 8, 9] rfl ⟨_, 0, by omega, rfl, fun j hj => by omega, ?_⟩
  simp [Sx]
 ·rintro J L hJ hL k st ⟨i, hi, rfl, hb, rfl⟩
  by_cases hlt : i < l.length
  ·obtain ⟨x, hx⟩ : ∃ x, nth l i = x := ⟨_, rfl⟩
   by_cases c1 : x = nm
   ·have : hasS l nm = true := (hasS_iff _ _).2 (by rw [← c1, ← hx]; exact nth_mem hlt)
    rw [this]
    simp (implicitDefEqProofs := false) (disch := omega) [gz, hlt, wrap64, nth_map, hx, srow, binSF, c1]
    exact fin_nil ⟨rfl, rfl⟩
   ·simp (implicitDefEqProofs := false) (disch := omega) [gz, hlt, wrap64, nth_map, hx, srow, binSF, c1]
    subst hJ
    refine wk_nil [] [1, 7, 8, 9] rfl ⟨l.length - (i + 1), by omega, i + 1, by omega, rfl, fun j hj => ?_, ?_⟩
    ·by_cases e1 : j = i
     ·subst e1; rw [hx]; exact c1
     ·exact hb j (by omega)
    ·simp
  ·have : i = l.length := by omega
   subst this
   simp (implicitDefEqProofs := false) (disch := omega) [gz, hlt]
   subst hL
   exact ⟨hb, at_mk (by simp) rfl⟩
 ·rintro _ ⟨hb, sl, rfl⟩
  rw [hasS_no hb]
  simp (implicitDefEqProofs := false) (disch := omega) [gz, wrap64]
  exact fin_nil ⟨rfl, rfl⟩
noncomputable def x546 : XE := mkX true (fun (p : List ByteArray × ByteArray) => [.c (.sl (p.1.map srow)), .c (.v (.string p.2))]) (fun p => p.1.length < 4611686018427387904) (fun p => .bool (hasS p.1 p.2))
theorem kx546 : Contract Tryz.prog G0 46 x546 := mkX_scal (fun _ => rfl) fun p h => k546 p.1 p.2 h
theorem xg546 (l : List ByteArray) (x : ByteArray) (h : l.length < 4611686018427387904) : x546.g [.c (.sl (l.map srow)), .c (.v (.string x))] = some (True, .bool (hasS l x)) := mkX_g injSS (l, x) h
theorem k582 (a b : List ByteArray) (h1 : a.length < 4611686018427387904) (h2 : b.length < 4611686018427387904) : ACalls Tryz.prog G0 82 [.c (.d (.sl (a.map srow))), .c (.d (.sl (b.map srow)))] [] fun t H => t = .bool (partS a b) ∧ H = [] := by
 have s1 : x546.sc = true := rfl
 refine acallsX (X := [(46, x546)]) ⟨kx546, trivial⟩ tab hmix Tryz.func82 c582 (by rfl) fun hw => ?_
 simp (implicitDefEqProofs := false) (disch := omega) [gz, ir582, b582, wrap64]
 refine loopE (fun k st => ∃ i, i ≤ a.length ∧ k = a.length - i ∧ (∀ j, j < i → nth a j ∈ b) ∧
   st = ⟨ofL [(1, .v (.c (.d (.sl (b.map srow))))), (7, .v (.c (.d (.sl (a.map srow))))), (8, .int .i64 a.length), (9, .int .i64 i)], []⟩)
  (fun st => (∀ j, j < a.length → nth a j ∈ b) ∧ AtS [] [] st) ?_ ?_ ?_
 ·refine wk_nil [] [1, 7, 8, 9] rfl ⟨_, 0, by omega, rfl, fun j hj => by omega, ?_⟩
  simp
 ·rintro J L hJ hL k st ⟨i, hi, rfl, hb, rfl⟩
  by_cases hlt : i < a.length
  ·obtain ⟨x, hx⟩ : ∃ x, nth a i = x := ⟨_, rfl⟩
   have hxa : x ∈ a := by rw [← hx]; exact nth_mem hlt
   have g1 := xg546 b x h2
   obtain ⟨q, hq⟩ : ∃ q, q = hasS b x := ⟨_, rfl⟩
   rw [← hq] at g1
   cases q
   ·have : partS a b = false := by
     cases hp : partS a b
     ·rfl
     ·have := (hasS_iff b x).2 (partS_iff.1 hp x hxa); rw [← hq] at this; cases this
    rw [this]
    simp (implicitDefEqProofs := false) (disch := omega) [gz, hlt, wrap64, nth_map, hx, srow, s1, g1]
    exact fin_nil ⟨rfl, rfl⟩
   ·simp (implicitDefEqProofs := false) (disch := omega) [gz, hlt, wrap64, nth_map, hx, srow, s1, g1]
    subst hJ
    refine wk_nil [] [1, 7, 8, 9] rfl ⟨a.length - (i + 1), by omega, i + 1, by omega, rfl, fun j hj => ?_, ?_⟩
    ·by_cases e1 : j = i
     ·subst e1; rw [hx]; exact (hasS_iff b x).1 hq.symm
     ·exact hb j (by omega)
    ·simp
  ·have : i = a.length := by omega
   subst this
   simp (implicitDefEqProofs := false) (disch := omega) [gz, hlt]
   subst hL
   exact ⟨hb, at_mk (by simp) rfl⟩
 ·rintro _ ⟨hb, sl, rfl⟩
  have : partS a b = true := partS_iff.2 fun s hs => by
   obtain ⟨j, hj, rfl⟩ := List.mem_iff_getElem.1 hs
   have := hb j hj; rw [nth_eq hj] at this; exact this
  rw [this]
  simp (implicitDefEqProofs := false) (disch := omega) [gz, wrap64]
  exact fin_nil ⟨rfl, rfl⟩
noncomputable def x582 : XE := mkX true (fun (p : List ByteArray × List ByteArray) => [.c (.sl (p.1.map srow)), .c (.sl (p.2.map srow))]) (fun p => p.1.length < 4611686018427387904 ∧ p.2.length < 4611686018427387904) (fun p => .bool (partS p.1 p.2))
theorem kx582 : Contract Tryz.prog G0 82 x582 := mkX_scal (fun _ => rfl) fun p h => k582 p.1 p.2 h.1 h.2
theorem xg582 (a b : List ByteArray) (ha : a.length < 4611686018427387904) (hb : b.length < 4611686018427387904) : x582.g [.c (.sl (a.map srow)), .c (.sl (b.map srow))] = some (True, .bool (partS a b)) := mkX_g injSL (a, b) ⟨ha, hb⟩
theorem hasN_step (x : Id) (r : List Id) (a : ByteArray) : hasN (x :: r) a = if x.a = a then x.n else hasN r a := by
 unfold hasN
 rw [List.find?_cons]
 by_cases h : x.a = a
 ·have : prA a x = true := by simp [prA, h]
  rw [this, if_pos h]
 ·have : prA a x = false := by simp [prA, h]
  rw [this, if_neg h]
theorem k545 (v : List Id) (nm : ByteArray) (h1 : v.length < 4611686018427387904) : ACalls Tryz.prog G0 45 [.c (.d (.sl (v.map Id.row))), Sx nm] [] fun t H => t = .int .i64 (hasN v nm) ∧ H = [] := by
 refine acallsX (X := []) trivial tab hmix Tryz.func45 c545 (by rfl) fun hw => ?_
 simp (implicitDefEqProofs := false) (disch := omega) [gz, ir545, b545, wrap64]
 refine loopE (fun k st => ∃ i, i ≤ v.length ∧ k = v.length - i ∧ hasN v nm = hasN (v.drop i) nm ∧
   st = ⟨ofL [(1, .v (.c (.d (.v (.string nm))))), (7, .v (.c (.d (.sl (v.map Id.row))))), (8, .int .i64 v.length), (9, .int .i64 i)], []⟩)
  (fun st => hasN v nm = 0 ∧ AtS [] [] st) ?_ ?_ ?_
 ·refine wk_nil [] [1, 7, 8, 9] rfl ⟨_, 0, by omega, rfl, rfl, ?_⟩
  simp [Sx]
 ·rintro J L hJ hL k st ⟨i, hi, rfl, hb, rfl⟩
  by_cases hlt : i < v.length
  ·obtain ⟨x, hx⟩ : ∃ x, nth v i = x := ⟨_, rfl⟩
   have hxr : x.row = [.v (.string x.a), .v (.int .i64 x.n)] := rfl
   have hd : v.drop i = x :: v.drop (i + 1) := by rw [List.drop_eq_getElem_cons hlt, ← nth_eq hlt, hx]
   rw [hd, hasN_step] at hb
   by_cases c1 : x.a = nm
   ·rw [hb, if_pos c1]
    simp (implicitDefEqProofs := false) (disch := omega) [gz, hlt, wrap64, nth_map, hx, hxr, splice, fillC, binSF, c1]
    exact fin_nil ⟨rfl, rfl⟩
   ·rw [if_neg c1] at hb
    simp (implicitDefEqProofs := false) (disch := omega) [gz, hlt, wrap64, nth_map, hx, hxr, splice, fillC, binSF, c1]
    subst hJ
    refine wk_nil [] [1, 7, 8, 9] rfl ⟨v.length - (i + 1), by omega, i + 1, by omega, rfl, hb, ?_⟩
    simp
  ·have : i = v.length := by omega
   subst this
   simp (implicitDefEqProofs := false) (disch := omega) [gz, hlt]
   subst hL
   exact ⟨by rw [hb, List.drop_length]; rfl, at_mk (by simp) rfl⟩
 ·rintro _ ⟨hb, sl, rfl⟩
  rw [hb]
  simp (implicitDefEqProofs := false) (disch := omega) [gz, wrap64]
  exact fin_nil ⟨rfl, rfl⟩
noncomputable def x545 : XE := mkX true (fun (p : List Id × ByteArray) => [.c (.sl (p.1.map Id.row)), .c (.v (.string p.2))]) (fun p => p.1.length < 4611686018427387904) (fun p => .int .i64 (hasN p.1 p.2))
theorem kx545 : Contract Tryz.prog G0 45 x545 := mkX_scal (fun _ => rfl) fun p h => k545 p.1 p.2 h
theorem xg545 (v : List Id) (a : ByteArray) (h : v.length < 4611686018427387904) : x545.g [.c (.sl (v.map Id.row)), .c (.v (.string a))] = some (True, .int .i64 (hasN v a)) := mkX_g injVS (v, a) h
theorem k647 (v : List Id) (nm : ByteArray) (h1 : v.length < 4611686018427387904) : ACalls Tryz.prog G0 147 [.c (.d (.sl (v.map Id.row))), Sx nm] [] fun t H => t = .int .i64 (hasN v nm) ∧ H = [] := by
 refine acallsX (X := []) trivial tab hmix Tryz.func147 c647 (by rfl) fun hw => ?_
 simp (implicitDefEqProofs := false) (disch := omega) [gz, ir647, b647, wrap64]
 refine loopE (fun k st => ∃ i, i ≤ v.length ∧ k = v.length - i ∧ hasN v nm = hasN (v.drop i) nm ∧
   st = ⟨ofL [(0, .v (.c (.d (.sl (v.map Id.row))))), (1, .v (.c (.d (.v (.string nm))))), (5, .int .i64 i)], []⟩)
  (fun st => hasN v nm = 0 ∧ AtS [] [] st) ?_ ?_ ?_
 ·refine wk_nil [] [0, 1, 5] rfl ⟨_, 0, by omega, rfl, rfl, ?_⟩
  simp [Sx]
 ·rintro J L hJ hL k st ⟨i, hi, rfl, hb, rfl⟩
  by_cases hlt : i < v.length
  ·obtain ⟨x, hx⟩ : ∃ x, nth v i = x := ⟨_, rfl⟩
   have hxr : x.row = [.v (.string x.a), .v (.int .i64 x.n)] := rfl
   have hd : v.drop i = x :: v.drop (i + 1) := by rw [List.drop_eq_getElem_cons hlt, ← nth_eq hlt, hx]
   rw [hd, hasN_step] at hb
   by_cases c1 : x.a = nm
   ·rw [hb, if_pos c1]
    simp (implicitDefEqProofs := false) (disch := omega) [gz, hlt, wrap64, nth_map, hx, hxr, splice, fillC, binSF, c1]
    exact fin_nil ⟨rfl, rfl⟩
   ·rw [if_neg c1] at hb
    simp (implicitDefEqProofs := false) (disch := omega) [gz, hlt, wrap64, nth_map, hx, hxr, splice, fillC, binSF, c1]
    subst hJ
    refine wk_nil [] [0, 1, 5] rfl ⟨v.length - (i + 1), by omega, i + 1, by omega, rfl, hb, ?_⟩
    simp
  ·have : i = v.length := by omega
   subst this
   simp (implicitDefEqProofs := false) (disch := omega) [gz, hlt]
   subst hL
   exact ⟨by rw [hb, List.drop_length]; rfl, at_mk (by simp) rfl⟩
 ·rintro _ ⟨hb, sl, rfl⟩
  rw [hb]
  simp (implicitDefEqProofs := false) (disch := omega) [gz, wrap64]
  exact fin_nil ⟨rfl, rfl⟩
noncomputable def x647 : XE := mkX true (fun (p : List Id × ByteArray) => [.c (.sl (p.1.map Id.row)), .c (.v (.string p.2))]) (fun p => p.1.length < 4611686018427387904) (fun p => .int .i64 (hasN p.1 p.2))
theorem kx647 : Contract Tryz.prog G0 147 x647 := mkX_scal (fun _ => rfl) fun p h => k647 p.1 p.2 h
theorem xg647 (v : List Id) (a : ByteArray) (h : v.length < 4611686018427387904) : x647.g [.c (.sl (v.map Id.row)), .c (.v (.string a))] = some (True, .int .i64 (hasN v a)) := mkX_g injVS (v, a) h
theorem k622 (v : List Id) (x : Id) (h1 : v.length < 4611686018427387904) : ACalls Tryz.prog G0 122 [.c (.d (.sl (v.map Id.row))), .agg (x.row.map .d)] [] fun t H => t = .bool (conI v x) ∧ H = [] := by
 have s1 : x647.sc = true := rfl
 have g1 := xg647 v x.a h1
 have hxr : x.row = [.v (.string x.a), .v (.int .i64 x.n)] := rfl
 refine acallsX (X := [(147, x647)]) ⟨kx647, trivial⟩ tab hmix Tryz.func122 c622 (by rfl) fun hw => ?_
 obtain ⟨n, hn⟩ : ∃ n, n = hasN v x.a := ⟨_, rfl⟩
 have hc : conI v x = (decide (1 ≤ x.n) && decide (x.n ≤ n)) := by rw [hn]; rfl
 rw [← hn] at g1
 rw [hc]
 by_cases c1 : 1 ≤ x.n
 ·simp (implicitDefEqProofs := false) (disch := omega) [gz, ir622, b622, hxr, s1, g1, c1]
  repeat' (with_reducible apply And.intro)
  all_goals first | omega | kernel_rfl | exact fun _ _ => rfl | skip
  exact fin_nil ⟨rfl, rfl⟩
 ·simp (implicitDefEqProofs := false) (disch := omega) [gz, ir622, b622, hxr, s1, g1, c1]
  repeat' (with_reducible apply And.intro)
  all_goals first | omega | kernel_rfl | exact fun _ _ => rfl | skip
  exact fin_nil ⟨rfl, rfl⟩
noncomputable def x622 : XE := mkX true (fun (p : List Id × Id) => [.c (.sl (p.1.map Id.row)), .agg p.2.row]) (fun p => p.1.length < 4611686018427387904) (fun p => .bool (conI p.1 p.2))
theorem kx622 : Contract Tryz.prog G0 122 x622 := mkX_scal (fun _ => rfl) fun p h => k622 p.1 p.2 h
theorem xg622 (v : List Id) (x : Id) (h : v.length < 4611686018427387904) : x622.g [.c (.sl (v.map Id.row)), .agg x.row] = some (True, .bool (conI v x)) := mkX_g injVI (v, x) h
def knowsE (v : List Id) (l : List Edit) : Bool := l.all fun e => conI v e.id
theorem k583 (v : List Id) (l : List Edit) (h1 : v.length < 4611686018427387904) (h2 : l.length < 4611686018427387904) : ACalls Tryz.prog G0 83 [.c (.d (.sl (v.map Id.row))), .c (.d (.sl (l.map Edit.row)))] [] fun t H => t = .bool (knowsE v l) ∧ H = [] := by
 have s1 : x622.sc = true := rfl
 refine acallsX (X := [(122, x622)]) ⟨kx622, trivial⟩ tab hmix Tryz.func83 c583 (by rfl) fun hw => ?_
 simp (implicitDefEqProofs := false) (disch := omega) [gz, ir583, b583, wrap64]
 refine loopE (fun k st => ∃ i, i ≤ l.length ∧ k = l.length - i ∧ knowsE v l = knowsE v (l.drop i) ∧
   st = ⟨ofL [(0, .v (.c (.d (.sl (v.map Id.row))))), (7, .v (.c (.d (.sl (l.map Edit.row))))), (8, .int .i64 l.length), (9, .int .i64 i)], []⟩)
  (fun st => knowsE v l = true ∧ AtS [] [] st) ?_ ?_ ?_
 ·refine wk_nil [] [0, 7, 8, 9] rfl ⟨_, 0, by omega, rfl, rfl, ?_⟩
  simp
 ·rintro J L hJ hL k st ⟨i, hi, rfl, hb, rfl⟩
  by_cases hlt : i < l.length
  ·obtain ⟨e, he⟩ : ∃ x, nth l i = x := ⟨_, rfl⟩
   have hee := Edit.row_eq e
   have hd : l.drop i = e :: l.drop (i + 1) := by rw [List.drop_eq_getElem_cons hlt, ← nth_eq hlt, he]
   have g1 := xg622 v e.id h1
   have hir : e.id.row = [.v (.string e.id.a), .v (.int .i64 e.id.n)] := rfl
   rw [hir] at g1
   obtain ⟨q, hq⟩ : ∃ q, q = conI v e.id := ⟨_, rfl⟩
   rw [← hq] at g1
   have hb2 : knowsE v l = (q && knowsE v (l.drop (i + 1))) := by rw [hb, hd, hq]; rfl
   cases q
   ·rw [hb2, Bool.false_and]
    simp (implicitDefEqProofs := false) (disch := omega) [gz, hlt, wrap64, nth_map, he, hee, splice, fillC, s1, g1]
    exact fin_nil ⟨rfl, rfl⟩
   ·rw [Bool.true_and] at hb2
    simp (implicitDefEqProofs := false) (disch := omega) [gz, hlt, wrap64, nth_map, he, hee, splice, fillC, s1, g1]
    subst hJ
    refine wk_nil [] [0, 7, 8, 9] rfl ⟨l.length - (i + 1), by omega, i + 1, by omega, rfl, hb2, ?_⟩
    simp
  ·have : i = l.length := by omega
   subst this
   simp (implicitDefEqProofs := false) (disch := omega) [gz, hlt]
   subst hL
   exact ⟨by rw [hb, List.drop_length]; rfl, at_mk (by simp) rfl⟩
 ·rintro _ ⟨hb, sl, rfl⟩
  rw [hb]
  simp (implicitDefEqProofs := false) (disch := omega) [gz, wrap64]
  exact fin_nil ⟨rfl, rfl⟩
noncomputable def x583 : XE := mkX true (fun (p : List Id × List Edit) => [.c (.sl (p.1.map Id.row)), .c (.sl (p.2.map Edit.row))]) (fun p => p.1.length < 4611686018427387904 ∧ p.2.length < 4611686018427387904) (fun p => .bool (knowsE p.1 p.2))
theorem kx583 : Contract Tryz.prog G0 83 x583 := mkX_scal (fun _ => rfl) fun p h => k583 p.1 p.2 h.1 h.2
theorem xg583 (v : List Id) (l : List Edit) (h1 : v.length < 4611686018427387904) (h2 : l.length < 4611686018427387904) : x583.g [.c (.sl (v.map Id.row)), .c (.sl (l.map Edit.row))] = some (True, .bool (knowsE v l)) := mkX_g (fun a b h => by
 simp only [List.cons.injEq, PVo.c.injEq, D.sl.injEq] at h
 exact Prod.ext (ids_inj h.1) (rows_inj h.2.1)) (v, l) ⟨h1, h2⟩
end Go.Aw.Try

namespace Go.Aw.Try
open Go Go.Proofs Go.Aw
set_option maxRecDepth 100000
set_option maxHeartbeats 4000000
/-! ### parts, letter by letter -/
def tl (s : ByteArray) : List UInt8 := s.data.toList
theorem tl_inj {a b : ByteArray} (h : tl a = tl b) : a = b := by
 obtain ⟨⟨x⟩⟩ := a
 obtain ⟨⟨y⟩⟩ := b
 have h : x = y := h
 rw [h]
theorem tl_len (s : ByteArray) : (tl s).length = s.size := rfl
def splC : List UInt8 → List UInt8 → List (List UInt8)
 | cur, [] => [cur]
 | cur, c :: r => if c = 44 then cur :: splC [] r else splC (cur ++ [c]) r
def preL (a : List UInt8) : List (List UInt8) → List (List UInt8)
 | [] => []
 | h :: t => (a ++ h) :: t
theorem splC_pre (a : List UInt8) : ∀ (s cur : List UInt8), splC (a ++ cur) s = preL a (splC cur s)
 | [], cur => rfl
 | c :: r, cur => by
  unfold splC
  by_cases h : c = 44
  ·rw [if_pos h, if_pos h]; rfl
  ·rw [if_neg h, if_neg h, List.append_assoc]; exact splC_pre a r (cur ++ [c])
theorem ix_ne {b : UInt8} {l : List UInt8} (h : b ≠ 44) : Lib.index (b :: l) [44] = if Lib.index l [44] == -1 then -1 else Lib.index l [44] + 1 := by
 have hp : ([44] : List UInt8).isPrefixOf (b :: l) = false := by simp [List.isPrefixOf, Ne.symm h]
 rw [Lib.index, hp]; simp
theorem ix_eq (l : List UInt8) : Lib.index (44 :: l) [44] = 0 := by rw [Lib.index]; simp [List.isPrefixOf]
theorem splK_ne {c : UInt8} (h : c ≠ 44) (r : List UInt8) (k : Nat) : Lib.splitK [44] 0 k (c :: r) = preL [c] (Lib.splitK [44] 0 k r) := by
 cases k with
 | zero => rfl
 | succ k =>
  simp only [Lib.splitK, ix_ne h]
  by_cases hm : Lib.index r [44] = -1
  ·rw [hm]; rfl
  ·have hge := Lib.index_ge r [44]
   obtain ⟨j, hj⟩ : ∃ j : Nat, Lib.index r [44] = j := ⟨(Lib.index r [44]).toNat, by omega⟩
   rw [hj]
   have e1 : ((j : Int) == -1) = false := by
    cases q : ((j : Int) == -1)
    ·rfl
    ·have := beq_iff_eq.1 q; omega
   rw [e1]
   have e2 : ((j : Int) + 1 == -1) = false := by
    cases q : ((j : Int) + 1 == -1)
    ·rfl
    ·have := beq_iff_eq.1 q; omega
   simp only [Bool.false_eq_true, if_false, e2]
   have e3 : ((j : Int) + 1).toNat = j + 1 := by omega
   rw [e3]
   simp [preL]
theorem spl_eq : ∀ s : List UInt8, Lib.splitK [44] 0 (Lib.count s [44]) s = splC [] s
 | [] => by rw [Lib.count_one]; rfl
 | c :: r => by
  have ih := spl_eq r
  by_cases h : c = 44
  ·subst h
   rw [Lib.count_cons_eq, Nat.add_comm]
   simp only [Lib.splitK, ix_eq]
   simp [splC, ih]
  ·rw [Lib.count_cons_ne c 44 r h, splK_ne h, ih]
   have hs : splC [] (c :: r) = splC ([] ++ [c]) r := by rw [splC, if_neg h]
   rw [hs]
   exact (splC_pre [c] r []).symm
theorem parts_spl (s : ByteArray) : (parts s comma).map tl = splC [] (tl s) := by
 have h := Lib.splitB_data comma 0 (Lib.countB s comma) s
 have e : Lib.countB s comma = Lib.count s.data.toList [44] := rfl
 have e2 : comma.data.toList = [44] := rfl
 rw [e2] at h
 unfold parts
 rw [show tl = fun s => s.data.toList from rfl, h, e]
 exact spl_eq _
/-- What is known of the parts when the text up to i has been read. -/
def InvP (P : List ByteArray) (w : List UInt8) (i : Nat) (out : List ByteArray) (name : ByteArray) : Prop :=
 (i ≤ w.length ∧ P.map tl = out.map tl ++ splC (tl name) (w.drop i) ∧ name.size ≤ i) ∨ (i = w.length + 1 ∧ P = out ∧ name.size = 0)
theorem map_pre {P out : List ByteArray} {name : ByteArray} {X : List (List UInt8)} (h : P.map tl = out.map tl ++ (tl name :: X)) : ∃ Y, P = out ++ (name :: Y) ∧ Y.map tl = X := by
 obtain ⟨l1, l2, rfl, h1, h2⟩ := List.map_eq_append_iff.1 h
 obtain ⟨n, Y, rfl, h3, h4⟩ := List.map_eq_cons_iff.1 h2
 have e1 : l1 = out := map_inj (fun a b => tl_inj) h1
 exact ⟨Y, by rw [e1, tl_inj h3], h4⟩
/-! ### Names -/
noncomputable def refN (e : Edit) (M : List ByteArray) : Option (List ByteArray) := if ∀ j, j < (parts e.who comma).length → badN e.id.a M (parts e.who comma) j = false then some (parts e.who comma) else none
def refT (M : List ByteArray) : Option (List ByteArray) → T
 | none => .tup [.c (.d (.v (.slice none 0 0))), .c (.d (.v (.bool false)))]
 | some P => .tup [.c (.d (.sl (P.map srow))), .c (.d (.v (.bool (decide (2 * P.length < M.length)))))]
theorem tl_app (a b : ByteArray) : tl (a ++ b) = tl a ++ tl b := by simp [tl]
theorem tl_ext (s : ByteArray) {i : Nat} {b : UInt8} (h : (tl s)[i]? = some b) : tl (s.extract i (i + 1)) = [b] := by
 have hi : i < (tl s).length := (List.getElem?_eq_some_iff.1 h).1
 have e : (tl s)[i] = b := (List.getElem?_eq_some_iff.1 h).2
 have : tl (s.extract i (i + 1)) = ((tl s).take (i + 1)).drop i := by
  simp [tl, List.drop_take]
 rw [this, List.take_succ_eq_append_getElem hi, e]
 rw [List.drop_append_of_le_length (by simp; omega)]
 simp
theorem tl_empty : tl (⟨#[]⟩ : ByteArray) = [] := rfl
theorem k542 (e : Edit) (all : List Member) (h1 : e.who.size < 4294967281) (h2 : all.length < 34359738368) (H : List O) :
  ACalls Tryz.prog G0 42 [.agg (e.row.map .d), .c (.d (.sl (all.map Member.row)))] H fun t H' => t = refT (all.map Member.name) (refN e (all.map Member.name)) ∧ H' = H := by
 have s1 : x581.sc = true := rfl
 refine acallsX (X := [(81, x581)]) ⟨kx581, trivial⟩ tab hmix Tryz.func42 c542 (by rfl) fun hw => ?_
 have hee := Edit.row_eq e
 obtain ⟨M, hM⟩ : ∃ M, M = all.map Member.name := ⟨_, rfl⟩
 have hMl : M.length = all.length := by rw [hM, List.length_map]
 rw [← hM]
 obtain ⟨P, hP⟩ : ∃ P, P = parts e.who comma := ⟨_, rfl⟩
 have hsp : P.map tl = splC [] (tl e.who) := by rw [hP]; exact parts_spl _
 have hPl : P.length ≤ e.who.size + 1 := by rw [hP]; exact parts_le _
 have hno : ¬ (∀ j, j < P.length → badN e.id.a M P j = false) → refN e M = none := fun h => by unfold refN; rw [← hP, if_neg h]
 have hyes : (∀ j, j < P.length → badN e.id.a M P j = false) → refN e M = some P := fun h => by unfold refN; rw [← hP, if_pos h]
 obtain ⟨R0, hR0⟩ : ∃ R0, R0 = refN e M := ⟨_, rfl⟩
 rw [← hR0] at hno hyes ⊢
 obtain ⟨t, ht⟩ : ∃ t, t = e.who ++ (⟨#[44]⟩ : ByteArray) := ⟨_, rfl⟩
 have htl : tl t = tl e.who ++ [44] := by rw [ht]; show (e.who ++ (⟨#[44]⟩ : ByteArray)).data.toList = _; simp [tl]
 have hts : t.size = e.who.size + 1 := by rw [← tl_len, htl, List.length_append, tl_len]; rfl
 simp (implicitDefEqProofs := false) (disch := omega) [gz, ir542, b542, b542_0, b542_1, b542_2, b542_3, b542_4, hee, wrap64, binSF, ← ht]
 refine ⟨by show e.who.size + 1 ≤ _; omega, ?_⟩
 refine loopE (fun k st => ∃ (i : Nat) (out : List ByteArray) (name : ByteArray), i ≤ e.who.size + 1 ∧ k = e.who.size + 1 - i ∧ InvP P (tl e.who) i out name ∧ (∀ j, j < out.length → badN e.id.a M P j = false) ∧
   st = ⟨ofL [(1, .v (.c (.d (.sl (all.map Member.row))))), (2, .v (.c (.ptr H.length 0))), (6, .v (.c (.os (H.length + 1) 1 0 out.length))), (7, .v (.c (.d (.v (.string name))))), (8, .v (.c (.d (.v (.string t))))), (9, .int .i64 i)], H ++ [.cells ([.v (.string e.id.a), .v (.int .i64 e.id.n), .v (.int .i64 e.clock), .v (.int .i64 e.floor), .sl (e.deps.map Id.row), .v (.int .i64 e.kind), .v (.string e.node.a), .v (.int .i64 e.node.n), .v (.string e.parent.a), .v (.int .i64 e.parent.n), .v (.bool e.neg), .v (.string e.num), .v (.string e.den), .v (.string e.field), .v (.string e.value), .v (.string e.target.a), .v (.int .i64 e.target.n), .v (.string e.who)].map .d), .row 1 (out.map srow)]⟩)
  (fun st => (∀ j, j < P.length → badN e.id.a M P j = false) ∧ AtS [(1, .v (.c (.d (.sl (all.map Member.row))))), (6, .v (.c (.os (H.length + 1) 1 0 P.length)))] (H ++ [.cells ([.v (.string e.id.a), .v (.int .i64 e.id.n), .v (.int .i64 e.clock), .v (.int .i64 e.floor), .sl (e.deps.map Id.row), .v (.int .i64 e.kind), .v (.string e.node.a), .v (.int .i64 e.node.n), .v (.string e.parent.a), .v (.int .i64 e.parent.n), .v (.bool e.neg), .v (.string e.num), .v (.string e.den), .v (.string e.field), .v (.string e.value), .v (.string e.target.a), .v (.int .i64 e.target.n), .v (.string e.who)].map .d), .row 1 (P.map srow)]) st) ?_ ?_ ?_
 ·refine wk_pre [0, 1] [1, 2, 6, 7, 8, 9] hw rfl ⟨_, 0, [], ⟨#[]⟩, by omega, rfl, .inl ⟨by omega, by rw [hsp]; rfl, Nat.le_refl _⟩, fun j hj => by simp at hj, ?_⟩
  simp [phiP, phi, O.ren, show ¬ (H.length + 1 < H.length) from by omega]
 ·rintro J L hJ hL k st ⟨i, out, name, hi, rfl, hinv, hgood, rfl⟩
  have hkeep : ∀ (sl : Nat → T) (out' : List ByteArray) (name' : ByteArray) (ids : List Nat) (Z : List O), ids = [0, 1] ∧ Z = [O.cells ([.v (.string e.id.a), .v (.int .i64 e.id.n), .v (.int .i64 e.clock), .v (.int .i64 e.floor), .sl (e.deps.map Id.row), .v (.int .i64 e.kind), .v (.string e.node.a), .v (.int .i64 e.node.n), .v (.string e.parent.a), .v (.int .i64 e.parent.n), .v (.bool e.neg), .v (.string e.num), .v (.string e.den), .v (.string e.field), .v (.string e.value), .v (.string e.target.a), .v (.int .i64 e.target.n), .v (.string e.who)].map .d), .row 1 (out'.map srow)] → (∀ p ∈ [(1, T.v (.c (.d (.sl (all.map Member.row))))), (2, .v (.c (.ptr H.length 0))), (6, .v (.c (.os (H.length + 1) 1 0 out'.length))), (7, .v (.c (.d (.v (.string name'))))), (8, .v (.c (.d (.v (.string t))))), (9, .int .i64 (i + 1 : Nat))], sl p.1 = p.2) →
    i + 1 ≤ e.who.size + 1 → InvP P (tl e.who) (i + 1) out' name' → (∀ j, j < out'.length → badN e.id.a M P j = false) → wk Tryz.prog G0 H.length ⟨sl, H ++ Z⟩ (fun s'' => ∃ k', k' < e.who.size + 1 - i ∧ J k' s'') := by
   rintro sl out' name' ids Z ⟨rfl, rfl⟩ hsl q1 q2 q3
   subst hJ
   refine wk_pre [0, 1] [1, 2, 6, 7, 8, 9] hw rfl ⟨e.who.size + 1 - (i + 1), by omega, i + 1, out', name', q1, rfl, q2, q3, ?_⟩
   simp at hsl
   simp [hsl, phiP, phi, O.ren, show ¬ (H.length + 1 < H.length) from by omega]
  by_cases hlt : i < t.size
  ·obtain ⟨b, hb⟩ : ∃ b, (tl t)[i]? = some b := ⟨_, List.getElem?_eq_getElem (by rw [tl_len]; exact hlt)⟩
   have hby : t.data[i]?.getD 0 = b := by
    have : t.data[i]? = some b := by rw [← hb]; simp [tl]
    rw [this]; rfl
   have hout : out.length ≤ P.length := by
    rcases hinv with ⟨_, q, _⟩ | ⟨_, q, _⟩
    ·have := congrArg List.length q; rw [List.length_append, List.length_map, List.length_map] at this; omega
    ·rw [q]; exact Nat.le_refl _
   have hnm : name.size ≤ i := by rcases hinv with ⟨_, _, q⟩ | ⟨_, _, q⟩ <;> omega
   have hl2 : out.length < 4294967290 := by omega
   by_cases cb : b = 44
   ·subst cb
    have hbn : (((44 : UInt8).toNat : Nat) : Int) = 44 := rfl
    have hX : ∃ X, P.map tl = out.map tl ++ (tl name :: X) ∧ ((i < e.who.size ∧ X = splC [] ((tl e.who).drop (i + 1))) ∨ (i = e.who.size ∧ X = [])) := by
     rcases hinv with ⟨q1, q2, q3⟩ | ⟨q1, _, _⟩
     ·by_cases q : i = e.who.size
      ·refine ⟨[], ?_, .inr ⟨q, rfl⟩⟩
       rw [q2, List.drop_eq_nil_of_le (by rw [tl_len]; omega)]; rfl
      ·have hin : i < (tl e.who).length := by rw [tl_len]; omega
       have hb2 : (tl e.who)[i]? = some 44 := by rw [htl, List.getElem?_append_left hin] at hb; exact hb
       have hd : (tl e.who).drop i = 44 :: (tl e.who).drop (i + 1) := by
        rw [List.drop_eq_getElem_cons hin, (List.getElem?_eq_some_iff.1 hb2).2]
       refine ⟨splC [] ((tl e.who).drop (i + 1)), ?_, .inl ⟨by omega, rfl⟩⟩
       rw [q2, hd, splC, if_pos rfl]
     ·rw [tl_len] at q1; omega
    obtain ⟨X, hX1, hX2⟩ := hX
    obtain ⟨Y, hPY, hYX⟩ := map_pre hX1
    have hPn : nth P out.length = name := by rw [hPY, nth_app_r (Nat.le_refl _), Nat.sub_self]; rfl
    have hPlt : out.length < P.length := by rw [hPY]; simp
    obtain ⟨u, hu⟩ : ∃ u, u = hasS M name := ⟨_, rfl⟩
    have g1 := xg581 all name (by omega)
    rw [← hM, ← hu] at g1
    obtain ⟨pr, hpr⟩ : ∃ pr, nth out (out.length - 1) = pr := ⟨_, rfl⟩
    have hPp : 0 < out.length → nth P (out.length - 1) = pr := fun h0 => by rw [hPY, nth_app_l (by omega), hpr]
    obtain ⟨w, hw2⟩ : ∃ w, w = strLt pr name := ⟨_, rfl⟩
    have hbad : badN e.id.a M P out.length = (decide (name = e.id.a) || (!u || (decide (0 < out.length) && !w))) := by
     unfold badN
     rw [hPn, hu]
     by_cases h0 : 0 < out.length
     ·rw [hPp h0, hw2]
     ·rw [decide_eq_false h0, Bool.false_and, Bool.false_and]
    have tS : (out.map srow).take out.length = out.map srow := List.take_of_length_le (by simp)
    have hnone : badN e.id.a M P out.length = true → R0 = none := fun q => hno fun h => by rw [h _ hPlt] at q; cases q
    have hgo : badN e.id.a M P out.length = false → InvP P (tl e.who) (i + 1) (out ++ [name]) ⟨#[]⟩ ∧ ∀ j, j < (out ++ [name]).length → badN e.id.a M P j = false := fun q => by
     refine ⟨?_, fun j hj => ?_⟩
     ·rcases hX2 with ⟨q1, q2⟩ | ⟨q1, q2⟩
      ·refine .inl ⟨by rw [tl_len]; omega, ?_, Nat.zero_le _⟩
       rw [hPY, List.map_append, List.map_cons, hYX, q2, List.map_append, tl_empty]; simp
      ·refine .inr ⟨by rw [tl_len]; omega, ?_, rfl⟩
       rw [q2] at hYX
       have : Y = [] := List.map_eq_nil_iff.1 hYX
       rw [hPY, this]
     ·rw [List.length_append, List.length_singleton] at hj
      by_cases e1 : j = out.length
      ·rw [e1]; exact q
      ·exact hgood j (by omega)
    by_cases h0 : 0 < out.length
    ·have hi1 : ((out.length : Int) - 1) = ((out.length - 1 : Nat) : Int) := by omega
     have hl1 : out.length - 1 < out.length := by omega
     cases w
     ·rw [hnone (by rw [hbad]; simp [h0])]
      simp (implicitDefEqProofs := false) (disch := omega) [gz, hlt, wrap64, hby, hbn, binSF, nth_map, srow, s1, g1, hi1, hl1, hpr, h0, ← hw2]
      exact fin_drop hw ⟨rfl, rfl⟩
     ·by_cases ce : name = e.id.a
      ·rw [ce] at hw2 g1 ⊢
       rw [hnone (by rw [hbad]; simp [ce, h0])]
       simp (implicitDefEqProofs := false) (disch := omega) [gz, hlt, wrap64, hby, hbn, binSF, nth_map, srow, s1, g1, hi1, hl1, hpr, h0, ← hw2, ce]
       exact fin_drop hw ⟨rfl, rfl⟩
      ·cases u
       ·rw [hnone (by rw [hbad]; simp [h0])]
        simp (implicitDefEqProofs := false) (disch := omega) [gz, hlt, wrap64, hby, hbn, binSF, nth_map, srow, s1, g1, hi1, hl1, hpr, h0, ← hw2, ce]
        exact fin_drop hw ⟨rfl, rfl⟩
       ·have hq : badN e.id.a M P out.length = false := by rw [hbad]; simp [h0, ce]
        simp (implicitDefEqProofs := false) (disch := omega) [gz, hlt, wrap64, hby, hbn, binSF, nth_map, srow, s1, g1, splice, fillC, toDs, toD, tS, Nat.add_assoc, hi1, hl1, hpr, h0, ← hw2, ce]
        repeat' (with_reducible apply And.intro)
        all_goals first | omega | kernel_rfl | exact fun _ _ => rfl | skip
        subst hJ
        refine wk_pre [0, 3] [1, 2, 6, 7, 8, 9] hw rfl ⟨e.who.size + 1 - (i + 1), by omega, i + 1, out ++ [name], ⟨#[]⟩, by omega, rfl, (hgo hq).1, (hgo hq).2, ?_⟩
        simp [phiP, phi, O.ren, srow, show ¬ (H.length + 3 < H.length) from by omega]
    ·have h00 : out.length = 0 := by omega
     by_cases ce : name = e.id.a
     ·rw [ce] at g1 ⊢
      rw [hnone (by rw [hbad]; simp [ce, h0])]
      simp (implicitDefEqProofs := false) (disch := omega) [gz, hlt, wrap64, hby, hbn, binSF, nth_map, srow, s1, g1, h00, ce]
      exact fin_drop hw ⟨rfl, rfl⟩
     ·cases u
      ·rw [hnone (by rw [hbad]; simp [h0])]
       simp (implicitDefEqProofs := false) (disch := omega) [gz, hlt, wrap64, hby, hbn, binSF, nth_map, srow, s1, g1, h00, ce]
       exact fin_drop hw ⟨rfl, rfl⟩
      ·have hq : badN e.id.a M P out.length = false := by rw [hbad]; simp [h0, ce]
       simp (implicitDefEqProofs := false) (disch := omega) [gz, hlt, wrap64, hby, hbn, binSF, nth_map, srow, s1, g1, splice, fillC, toDs, toD, tS, Nat.add_assoc, h00, ce]
       repeat' (with_reducible apply And.intro)
       all_goals first | omega | kernel_rfl | exact fun _ _ => rfl | skip
       subst hJ
       refine wk_pre [0, 3] [1, 2, 6, 7, 8, 9] hw rfl ⟨e.who.size + 1 - (i + 1), by omega, i + 1, out ++ [name], ⟨#[]⟩, by omega, rfl, (hgo hq).1, (hgo hq).2, ?_⟩
       simp [phiP, phi, O.ren, srow, h00, show ¬ (H.length + 3 < H.length) from by omega]
   ·have hbn : ¬ (b.toNat : Int) = 44 := fun h => by
     have h2 : b.toNat = (44 : UInt8).toNat := by show b.toNat = 44; omega
     exact cb (UInt8.toNat_inj.1 h2)
    simp (implicitDefEqProofs := false) (disch := omega) [gz, hlt, wrap64, hby, hbn, binSF]
    have hin : i < (tl e.who).length := by
     rw [tl_len]
     by_cases q : i = e.who.size
     ·exfalso
      rw [htl, List.getElem?_append_right (by rw [tl_len]; omega), tl_len, q, Nat.sub_self] at hb
      injection hb with hb
      exact cb hb.symm
     ·omega
    have hb2 : (tl e.who)[i]? = some b := by rw [htl, List.getElem?_append_left hin] at hb; exact hb
    have hd : (tl e.who).drop i = b :: (tl e.who).drop (i + 1) := by
     rw [List.drop_eq_getElem_cons hin, (List.getElem?_eq_some_iff.1 hb2).2]
    have hex := tl_ext t hb
    refine ⟨by omega, by omega, ?_⟩
    refine hkeep _ out (name ++ t.extract i (i + 1)) [0, 1] _ ⟨rfl, rfl⟩ (by simp) (by omega) ?_ hgood
    rcases hinv with ⟨q1, q2, q3⟩ | ⟨q1, _, _⟩
    ·refine .inl ⟨by omega, ?_, ?_⟩
     ·rw [q2, hd, splC, if_neg cb, tl_app, hex]
     ·have : (name ++ t.extract i (i + 1)).size = name.size + 1 := by rw [← tl_len, tl_app, hex, List.length_append, tl_len]; rfl
      omega
    ·rw [tl_len] at q1; omega
  ·have hiN : i = e.who.size + 1 := by omega
   simp (implicitDefEqProofs := false) (disch := omega) [gz, hlt]
   subst hL
   have hPo : P = out := by
    rcases hinv with ⟨q, _, _⟩ | ⟨_, q, _⟩
    ·rw [tl_len] at q; omega
    ·exact q
   subst hPo
   exact ⟨hgood, at_mk (by simp) rfl⟩
 ·rintro _ ⟨hg, sl, rfl⟩
  rw [hyes hg]
  simp (implicitDefEqProofs := false) (disch := omega) [gz, b542_5, b542_6, wrap64]
  have hdc : decide (2 * (P.length : Int) < (all.length : Int)) = decide (2 * P.length < M.length) := by
   rw [hMl]
   by_cases q : 2 * P.length < all.length
   ·rw [decide_eq_true q, decide_eq_true (by omega)]
   ·rw [decide_eq_false q, decide_eq_false (by omega)]
  rw [hdc]
  exact fin_pre_pvs (ps := [.c (.sl (P.map srow)), .c (.v (.bool (decide (2 * P.length < M.length))))]) (L' := [.cells ([.v (.string e.id.a), .v (.int .i64 e.id.n), .v (.int .i64 e.clock), .v (.int .i64 e.floor), .sl (e.deps.map Id.row), .v (.int .i64 e.kind), .v (.string e.node.a), .v (.int .i64 e.node.n), .v (.string e.parent.a), .v (.int .i64 e.parent.n), .v (.bool e.neg), .v (.string e.num), .v (.string e.den), .v (.string e.field), .v (.string e.value), .v (.string e.target.a), .v (.int .i64 e.target.n), .v (.string e.who)].map .d), .frow 1 (P.map srow)]) hw (by simp [toPVs, toPV, toD, take_of_len]) (by simp [frzVs, frz, frz1, V.cells]) ⟨rfl, rfl⟩
theorem edits_agg_inj {a b : Edit × List Member} (h : [PVo.agg a.1.row, PVo.c (D.sl (a.2.map Member.row))] = [PVo.agg b.1.row, PVo.c (D.sl (b.2.map Member.row))]) : a = b := by
 simp only [List.cons.injEq, PVo.c.injEq, PVo.agg.injEq, D.sl.injEq] at h
 exact Prod.ext (Edit.row_inj h.1) (mrows_inj h.2.1)
noncomputable def x542 : XE := mkX false (fun (p : Edit × List Member) => [.agg p.1.row, .c (.sl (p.2.map Member.row))]) (fun p => p.1.who.size < 4294967281 ∧ p.2.length < 34359738368) (fun p => refT (p.2.map Member.name) (refN p.1 (p.2.map Member.name)))
theorem kx542 : Contract Tryz.prog G0 42 x542 := mkX_data fun p h H => k542 p.1 p.2 h.1 h.2 H
theorem xg542 (e : Edit) (all : List Member) (h1 : e.who.size < 4294967281) (h2 : all.length < 34359738368) : x542.g [.agg e.row, .c (.sl (all.map Member.row))] = some (True, refT (all.map Member.name) (refN e (all.map Member.name))) := mkX_g (fun a b h => edits_agg_inj h) (e, all) ⟨h1, h2⟩
/-- A counted vote, as the reference names it. -/
theorem refN_of {M S : List ByteArray} {e : Edit} (h : namesO e M = some S) : refN e M = some S := by
 obtain ⟨h1, _, _, _, h5⟩ := namesO_some h
 unfold refN
 rw [← h1, if_pos h5]
theorem namesO_ref {M : List ByteArray} {e : Edit} : namesO e M = match refN e M with
  | none => none
  | some P => if e.kind = 5 ∧ hasS M e.id.a = true ∧ 2 * P.length < M.length then some P else none := by
 unfold refN namesO
 by_cases h : ∀ j, j < (parts e.who comma).length → badN e.id.a M (parts e.who comma) j = false
 ·rw [if_pos h]
  by_cases q : e.kind = 5 ∧ hasS M e.id.a = true ∧ 2 * (parts e.who comma).length < M.length
  ·simp only [if_pos q]; rw [if_pos ⟨q.1, q.2.1, q.2.2, h⟩]
  ·simp only [if_neg q]; rw [if_neg (fun z => q ⟨z.1, z.2.1, z.2.2.1⟩)]
 ·rw [if_neg h, if_neg (fun z => h z.2.2.2)]
end Go.Aw.Try

namespace Go.Aw.Try
open Go Go.Proofs Go.Aw
set_option maxRecDepth 100000
set_option maxHeartbeats 4000000
/-! ### Votes -/
def edV (vs : List Vote) : List Edit := vs.map Vote.e
def lastV (a : ByteArray) (vs : List Vote) : List ByteArray := vs.foldl (fun s v => if v.e.id.a = a then v.set else s) []
theorem gat_last (M : List ByteArray) (l : List Edit) (a : ByteArray) : lastV a (gatF M l).vs = (alook (gatF M l).m a).getD [] := by
 have key : ∀ (l : List Edit) (g : Gs), lastV a g.vs = (alook g.m a).getD [] → lastV a (l.foldl (gatS M) g).vs = (alook (l.foldl (gatS M) g).m a).getD [] := by
  intro l
  induction l with
  | nil => intro g h; exact h
  | cons e l ih =>
   intro g h
   rw [List.foldl_cons]
   refine ih _ ?_
   unfold gatS
   cases namesO e M with
   | none => exact h
   | some S =>
    by_cases q : blockB (alook g.m e.id.a) S = true
    ·simp only [if_pos q]; exact h
    ·simp only [if_neg q]
     rw [alook_aput]
     unfold lastV at h ⊢
     rw [List.foldl_append]
     by_cases c : e.id.a = a
     ·rw [if_pos c]; simp [c]
     ·rw [if_neg c]; simp [c]; exact h
 exact key l ⟨[], []⟩ rfl
theorem block_last {M : List ByteArray} {l : List Edit} {a : ByteArray} {S : List ByteArray} (hS : 1 ≤ S.length) :
  blockB (alook (gatF M l).m a) S = !(partS (lastV a (gatF M l).vs) S && decide ((lastV a (gatF M l).vs).length < S.length)) := by
 rw [gat_last]
 cases alook (gatF M l).m a with
 | none =>
  show false = !(partS [] S && decide (0 < S.length))
  rw [decide_eq_true (by omega)]; rfl
 | some A =>
  show (!partS A S || decide (S.length ≤ A.length)) = !(partS A S && decide (A.length < S.length))
  cases partS A S
  ·rfl
  ·by_cases q : A.length < S.length
   ·rw [decide_eq_true q, decide_eq_false (by omega)]; rfl
   ·rw [decide_eq_false q, decide_eq_true (by omega)]; rfl
theorem k539 (l : List Edit) (all : List Member) (h1 : l.length < 34359738368) (h2 : all.length < 34359738368) (h3 : ∀ e ∈ l, e.who.size < 4294967281) (H : List O) :
  ACalls Tryz.prog G0 39 [.c (.d (.sl (l.map Edit.row))), .c (.d (.sl (all.map Member.row)))] H (Own H 18 ((edV (gatF (all.map Member.name) (sortE l)).vs).map Edit.row)) := by
 have s1 : x38.sc = false := rfl
 have s2 : x542.sc = false := rfl
 have s3 : x581.sc = true := rfl
 have s4 : x582.sc = true := rfl
 have g1 := xg38 l (by omega)
 refine acallsX (X := [(80, x38), (42, x542), (81, x581), (82, x582)]) ⟨kx38, kx542, kx581, kx582, trivial⟩ tab hmix Tryz.func39 c539 (by rfl) fun hw => ?_
 obtain ⟨M, hM⟩ : ∃ M, M = all.map Member.name := ⟨_, rfl⟩
 have hMl : M.length = all.length := by rw [hM, List.length_map]
 obtain ⟨S, hS⟩ : ∃ S, S = sortE l := ⟨_, rfl⟩
 have hSl : S.length ≤ l.length := by rw [hS]; exact sortE_len l
 have hSm : ∀ e ∈ S, e.who.size < 4294967281 := fun e he => h3 e (by rw [hS] at he; exact sortE_mem he)
 rw [← hS] at g1
 rw [← hM, ← hS]
 simp (implicitDefEqProofs := false) (disch := omega) [gz, ir539, b539, b539_0, b539_1, b539_2, s1, g1, wrap64, toPVs, frzVs, osVs, toPV]
 refine loopE (fun k st => ∃ (i : Nat) (g : Gs), i ≤ S.length ∧ k = S.length - i ∧ g = gatF M (S.take i) ∧ st = ⟨ofL [(1, .v (.c (.d (.sl (all.map Member.row))))), (5, .v (.c (.os H.length 18 0 g.vs.length))), (15, .v (.c (.d (.sl (S.map Edit.row))))), (16, .int .i64 S.length), (17, .int .i64 i)], H ++ [.row 18 ((edV g.vs).map Edit.row)]⟩)
  (fun st => ∃ g, g = gatF M S ∧ AtS [(5, .v (.c (.os H.length 18 0 g.vs.length)))] (H ++ [.row 18 ((edV g.vs).map Edit.row)]) st) ?_ ?_ ?_
 ·refine wk_pre [0] [1, 5, 15, 16, 17] hw rfl ⟨_, 0, ⟨[], []⟩, by omega, rfl, rfl, ?_⟩
  simp [phiP, phi, O.ren, edV]
 ·rintro J L hJ hL k st ⟨i, g, hi, rfl, hg, rfl⟩
  by_cases hlt : i < S.length
  ·obtain ⟨e, he⟩ : ∃ e, nth S i = e := ⟨_, rfl⟩
   have hem : e ∈ S := by rw [← he]; exact nth_mem hlt
   have hst : gatF M (S.take (i + 1)) = gatS M g e := by rw [gatF, take_foldl _ _ hlt, he, hg]; rfl
   have hgl : g.vs.length ≤ i := by rw [hg]; have := gatF_len M (S.take i); simp at this; omega
   have hgm : ∀ v ∈ g.vs, namesO v.e M = some v.set ∧ v.e.who.size < 4294967281 := fun v hv => by
    rw [hg] at hv
    obtain ⟨q1, q2⟩ := gatF_mem hv
    exact ⟨q2, hSm v.e (List.mem_of_mem_take q1)⟩
   have hee := Edit.row_eq e
   have g2 := xg542 e all (hSm e hem) h2
   have g3 := xg581 all e.id.a (by omega)
   rw [← hM] at g2 g3
   obtain ⟨u, hu⟩ : ∃ u, u = hasS M e.id.a := ⟨_, rfl⟩
   obtain ⟨N, hN⟩ : ∃ N, N = refN e M := ⟨_, rfl⟩
   have hno := namesO_ref (M := M) (e := e)
   rw [← hN, ← hu] at hno
   rw [← hu] at g3
   rw [← hN, hee] at g2
   unfold gatS at hst
   have hout : (edV g.vs).length = g.vs.length := by unfold edV; rw [List.length_map]
   obtain ⟨W, hW⟩ : ∃ W, W = edV g.vs := ⟨_, rfl⟩
   rw [← hW] at hout ⊢
   have tS : (W.map Edit.row).take g.vs.length = W.map Edit.row := List.take_of_length_le (by simp [hout])
   have keep : ∀ (sl : Nat → T) (o : O), namesO e M = none → (∀ p ∈ [(1, .v (.c (.d (.sl (all.map Member.row))))), (5, .v (.c (.os H.length 18 0 g.vs.length))), (15, .v (.c (.d (.sl (S.map Edit.row))))), (16, .int .i64 S.length), (17, .int .i64 (i + 1 : Nat))], sl p.1 = p.2) → wk Tryz.prog G0 H.length ⟨sl, H ++ [.row 18 (W.map Edit.row), o]⟩ (fun s'' => ∃ k', k' < S.length - i ∧ J k' s'') := fun sl o hnn hsl => by
    rw [hnn] at hst
    subst hJ
    refine wk_pre [0] [1, 5, 15, 16, 17] hw rfl ⟨S.length - (i + 1), by omega, i + 1, g, by omega, rfl, hst.symm, ?_⟩
    simp at hsl
    simp [hsl, phiP, phi, O.ren, ← hW]
   cases N with
   | none =>
    have hT : refT M none = .tup [.c (.d (.v (.slice none 0 0))), .c (.d (.v (.bool false)))] := rfl
    rw [hT] at g2
    simp (implicitDefEqProofs := false) (disch := omega) [gz, hlt, wrap64, nth_map, he, hee, splice, fillC, s2, g2, toPVs, frzVs, osVs, toPV, Nat.add_assoc]
    exact ⟨fun _ => keep _ _ hno (by simp), fun _ => keep _ _ hno (by simp)⟩
   | some P =>
    have hT : refT M (some P) = .tup [.c (.d (.sl (P.map srow))), .c (.d (.v (.bool (decide (2 * P.length < M.length)))))] := rfl
    rw [hT] at g2
    obtain ⟨b, hb⟩ : ∃ b, b = decide (2 * P.length < M.length) := ⟨_, rfl⟩
    rw [← hb] at g2
    by_cases q1 : e.kind = 5
    ·rw [q1] at g2
     cases b
     ·have hnn : namesO e M = none := by
       rw [hno]; simp only; rw [if_neg]
       rintro ⟨_, _, q⟩
       rw [decide_eq_true q] at hb; cases hb
      simp (implicitDefEqProofs := false) (disch := omega) [gz, hlt, wrap64, nth_map, he, hee, splice, fillC, s2, s3, g2, g3, toPVs, frzVs, osVs, toPV, Nat.add_assoc, q1]
      exact keep _ _ hnn (by simp)
     ·cases u
      ·have hnn : namesO e M = none := by
        rw [hno]; simp only; rw [if_neg]
        rintro ⟨_, q, _⟩
        cases q
       simp (implicitDefEqProofs := false) (disch := omega) [gz, hlt, wrap64, nth_map, he, hee, splice, fillC, s2, s3, g2, g3, toPVs, frzVs, osVs, toPV, Nat.add_assoc, q1]
       exact keep _ _ hnn (by simp)
      ·have hnn : namesO e M = some P := by
        rw [hno]; simp only; rw [if_pos ⟨q1, trivial, of_decide_eq_true hb.symm⟩]
       rw [hnn] at hst
       replace hst : gatF M (S.take (i + 1)) = if blockB (alook g.m e.id.a) P = true then g else ⟨g.vs ++ [⟨e, P⟩], aput g.m e.id.a P⟩ := hst
       have hvk := vok_of hnn
       have hP1 : 1 ≤ P.length := hvk.pos
       have hPs : P.length < 4294967283 := by
        rw [(namesO_some hnn).1]; have := parts_le e.who; have := hSm e hem; omega
       have hbl := block_last (M := M) (l := S.take i) (a := e.id.a) hP1
       rw [← hg] at hbl
       simp (implicitDefEqProofs := false) (disch := omega) [gz, hlt, wrap64, nth_map, he, hee, splice, fillC, s2, s3, g2, g3, toPVs, frzVs, osVs, toPV, Nat.add_assoc, q1]
       refine loopE (fun k st => ∃ j, j ≤ g.vs.length ∧ k = g.vs.length - j ∧
         st = ⟨ofL [(1, .v (.c (.d (.sl (all.map Member.row))))), (5, .v (.c (.os H.length 18 0 g.vs.length))), (15, .v (.c (.d (.sl (S.map Edit.row))))), (16, .int .i64 S.length), (17, .int .i64 i), (7, .v (.c (.ptr (H.length + 1) 0))), (8, .v (.c (.d (.sl (P.map srow))))), (10, .v (.c (.d (.sl ((lastV e.id.a (g.vs.take j)).map srow))))), (43, .v (.c (.os H.length 18 0 g.vs.length))), (44, .int .i64 g.vs.length), (45, .int .i64 j)], H ++ [.row 18 (W.map Edit.row), .cells ([.v (.string e.id.a), .v (.int .i64 e.id.n), .v (.int .i64 e.clock), .v (.int .i64 e.floor), .sl (e.deps.map Id.row), .v (.int .i64 e.kind), .v (.string e.node.a), .v (.int .i64 e.node.n), .v (.string e.parent.a), .v (.int .i64 e.parent.n), .v (.bool e.neg), .v (.string e.num), .v (.string e.den), .v (.string e.field), .v (.string e.value), .v (.string e.target.a), .v (.int .i64 e.target.n), .v (.string e.who)].map .d)]⟩)
        (fun st => AtS [(1, .v (.c (.d (.sl (all.map Member.row))))), (5, .v (.c (.os H.length 18 0 g.vs.length))), (15, .v (.c (.d (.sl (S.map Edit.row))))), (16, .int .i64 S.length), (17, .int .i64 i), (7, .v (.c (.ptr (H.length + 1) 0))), (8, .v (.c (.d (.sl (P.map srow))))), (10, .v (.c (.d (.sl ((lastV e.id.a g.vs).map srow)))))] (H ++ [.row 18 (W.map Edit.row), .cells ([.v (.string e.id.a), .v (.int .i64 e.id.n), .v (.int .i64 e.clock), .v (.int .i64 e.floor), .sl (e.deps.map Id.row), .v (.int .i64 e.kind), .v (.string e.node.a), .v (.int .i64 e.node.n), .v (.string e.parent.a), .v (.int .i64 e.parent.n), .v (.bool e.neg), .v (.string e.num), .v (.string e.den), .v (.string e.field), .v (.string e.value), .v (.string e.target.a), .v (.int .i64 e.target.n), .v (.string e.who)].map .d)]) st) ?_ ?_ ?_
       ·refine wk_tell 10 (u := .c (.os (H.length + 2) 1 0 0)) (p := .c (.sl [])) (by simp) (by simp [toPV, toD]) ?_
        simp only [V.cells, frz, frz1, List.foldl_cons, List.foldl_nil]
        simp [PV.toV]
        refine wk_pre [0, 1] [1, 5, 15, 16, 17, 7, 8, 10, 43, 44, 45] hw rfl ⟨_, 0, by omega, rfl, ?_⟩
        simp [phiP, phi, O.ren, lastV, q1, PV.toV]
       ·rintro J2 L2 hJ2 hL2 k2 st ⟨j, hj, rfl, rfl⟩
        by_cases hjl : j < g.vs.length
        ·obtain ⟨v, hv⟩ : ∃ v, nth g.vs j = v := ⟨_, rfl⟩
         have hvm : v ∈ g.vs := by rw [← hv]; exact nth_mem hjl
         obtain ⟨f, hf⟩ : ∃ f, f = v.e := ⟨_, rfl⟩
         have hWj : nth W j = f := by rw [hW, hf, ← hv]; unfold edV; rw [nth_map _ hjl]
         have hjW : j < W.length := by omega
         have hst2 : lastV e.id.a (g.vs.take (j + 1)) = if f.id.a = e.id.a then v.set else lastV e.id.a (g.vs.take j) := by
          unfold lastV; rw [take_foldl _ _ hjl, hv, hf]
         obtain ⟨n1, n2⟩ := hgm v hvm
         have g5 := xg542 f all (by rw [hf]; exact n2) h2
         rw [← hM, hf, refN_of n1] at g5
         have hT2 : refT M (some v.set) = .tup [.c (.d (.sl (v.set.map srow))), .c (.d (.v (.bool (decide (2 * v.set.length < M.length)))))] := rfl
         rw [hT2, ← hf] at g5
         have hfe := Edit.row_eq f
         rw [hfe] at g5
         obtain ⟨z, hz⟩ : ∃ z, z = lastV e.id.a (g.vs.take j) := ⟨_, rfl⟩
         rw [← hz] at hst2 ⊢
         by_cases c1 : f.id.a = e.id.a
         ·rw [if_pos c1] at hst2
          rw [c1] at g5
          simp (implicitDefEqProofs := false) (disch := omega) [gz, hjl, hjW, wrap64, nth_map, hWj, hfe, splice, fillC, binSF, c1, s2, g5, toPVs, frzVs, osVs, toPV, Nat.add_assoc]
          subst hJ2
          refine wk_pre [0, 1] [1, 5, 15, 16, 17, 7, 8, 10, 43, 44, 45] hw rfl ⟨g.vs.length - (j + 1), by omega, j + 1, by omega, rfl, ?_⟩
          rw [hst2]
          simp [phiP, phi, O.ren]
         ·rw [if_neg c1] at hst2
          simp (implicitDefEqProofs := false) (disch := omega) [gz, hjl, hjW, wrap64, nth_map, hWj, hfe, splice, fillC, binSF, c1, Nat.add_assoc]
          subst hJ2
          refine wk_pre [0, 1] [1, 5, 15, 16, 17, 7, 8, 10, 43, 44, 45] hw rfl ⟨g.vs.length - (j + 1), by omega, j + 1, by omega, rfl, ?_⟩
          rw [hst2]
          simp [phiP, phi, O.ren]
        ·have : j = g.vs.length := by omega
         subst this
         rw [List.take_length]
         simp (implicitDefEqProofs := false) (disch := omega) [gz, hjl]
         subst hL2
         exact at_mk (by simp) rfl
       ·rintro _ ⟨sl, rfl⟩
        obtain ⟨z, hz⟩ : ∃ z, z = lastV e.id.a g.vs := ⟨_, rfl⟩
        rw [← hz] at hbl ⊢
        have hzs : z.length < 4294967283 := by
         rw [hz, hg, gat_last]
         cases hq : alook (gatF M (S.take i)).m e.id.a with
         | none => simp
         | some A => exact gat_small (fun e he => hSm e (List.mem_of_mem_take he)) _ _ hq
        have g6 := xg582 z P (by omega) (by omega)
        obtain ⟨pz, hpz⟩ : ∃ pz, pz = partS z P := ⟨_, rfl⟩
        rw [← hpz] at g6 hbl
        by_cases hc : z.length < P.length
        ·rw [decide_eq_true hc] at hbl
         cases pz
         ·simp at hbl
          simp (implicitDefEqProofs := false) (disch := omega) [gz, s4, g6, wrap64, toPVs, frzVs, osVs, toPV, hc, splice, fillC, Nat.add_assoc]
          rw [if_pos hbl] at hst
          subst hJ
          refine wk_pre [0] [1, 5, 15, 16, 17] hw rfl ⟨S.length - (i + 1), by omega, i + 1, g, by omega, rfl, hst.symm, ?_⟩
          simp [phiP, phi, O.ren, ← hW]
         ·simp at hbl
          simp (implicitDefEqProofs := false) (disch := omega) [gz, s4, g6, wrap64, toPVs, frzVs, osVs, toPV, hc, splice, fillC, Nat.add_assoc]
          refine ⟨⟨hout.symm, by have := gatF_len M (S.take i); rw [← hg] at this; simp at this; omega⟩, ?_⟩
          rw [if_neg (by simp [hbl])] at hst
          subst hJ
          refine wk_pre [3] [1, 5, 15, 16, 17] hw rfl ⟨S.length - (i + 1), by omega, i + 1, ⟨g.vs ++ [⟨e, P⟩], aput g.m e.id.a P⟩, by omega, rfl, hst.symm, ?_⟩
          have hW2 : (edV (g.vs ++ [(⟨e, P⟩ : Vote)])) = W ++ [e] := by rw [hW]; simp [edV]
          rw [hW2]
          simp [phiP, phi, O.ren, hee, hout, show ¬ (H.length + 3 < H.length) from by omega]
        ·rw [decide_eq_false hc] at hbl
         cases pz
         ·simp at hbl
          simp (implicitDefEqProofs := false) (disch := omega) [gz, s4, g6, wrap64, toPVs, frzVs, osVs, toPV, hc, splice, fillC, Nat.add_assoc]
          rw [if_pos hbl] at hst
          subst hJ
          refine wk_pre [0] [1, 5, 15, 16, 17] hw rfl ⟨S.length - (i + 1), by omega, i + 1, g, by omega, rfl, hst.symm, ?_⟩
          simp [phiP, phi, O.ren, ← hW]
         ·simp at hbl
          simp (implicitDefEqProofs := false) (disch := omega) [gz, s4, g6, wrap64, toPVs, frzVs, osVs, toPV, hc, splice, fillC, Nat.add_assoc]
          rw [if_pos hbl] at hst
          subst hJ
          refine wk_pre [0] [1, 5, 15, 16, 17] hw rfl ⟨S.length - (i + 1), by omega, i + 1, g, by omega, rfl, hst.symm, ?_⟩
          simp [phiP, phi, O.ren, ← hW]
    ·have hnn : namesO e M = none := by
      rw [hno]; simp only; rw [if_neg (fun q => q1 q.1)]
     simp (implicitDefEqProofs := false) (disch := omega) [gz, hlt, wrap64, nth_map, he, hee, splice, fillC, s2, s3, g2, g3, toPVs, frzVs, osVs, toPV, Nat.add_assoc, q1]
     exact keep _ _ hnn (by simp)
  ·have : i = S.length := by omega
   subst this
   rw [List.take_length] at hg
   simp (implicitDefEqProofs := false) (disch := omega) [gz, hlt]
   subst hL
   exact ⟨g, hg, at_mk (by simp) rfl⟩
 ·rintro _ ⟨g, rfl, sl, rfl⟩
  simp (implicitDefEqProofs := false) (disch := omega) [gz, b539_3, b539_4, wrap64]
  exact fin_own (k := 0) hw rfl (by simp [edV])
end Go.Aw.Try

namespace Go.Aw.Try
open Go Go.Proofs Go.Aw
set_option maxRecDepth 100000
set_option maxHeartbeats 4000000
/-! ### the reference's votes of a set, and its decided sets -/
def joinC : List (List UInt8) → List UInt8
 | [] => []
 | [x] => x
 | x :: y :: r => x ++ 44 :: joinC (y :: r)
theorem splC_cons : ∀ (s cur : List UInt8), ∃ h t, splC cur s = h :: t
 | [], cur => ⟨cur, [], rfl⟩
 | c :: r, cur => by
  unfold splC
  by_cases h : c = 44
  ·rw [if_pos h]; exact ⟨_, _, rfl⟩
  ·rw [if_neg h]; exact splC_cons r _
theorem joinC_spl : ∀ (s cur : List UInt8), joinC (splC cur s) = cur ++ s
 | [], cur => by simp [splC, joinC]
 | c :: r, cur => by
  unfold splC
  by_cases h : c = 44
  ·rw [if_pos h]
   obtain ⟨a, t, e⟩ := splC_cons r []
   have := joinC_spl r []
   rw [e] at this ⊢
   show cur ++ 44 :: joinC (a :: t) = _
   rw [this, h]; rfl
  ·rw [if_neg h, joinC_spl r (cur ++ [c])]; simp
theorem parts_inj {a b : ByteArray} (h : parts a comma = parts b comma) : a = b := by
 have h1 := congrArg (fun l => joinC (l.map tl)) h
 simp only [parts_spl, joinC_spl, List.nil_append] at h1
 exact tl_inj h1
noncomputable def vsOf (W : List Edit) : List Vote := W.map fun e => ⟨e, parts e.who comma⟩
theorem vsOf_ed {M : List ByteArray} {vs : List Vote} (h : ∀ v ∈ vs, VOk M v) : vsOf (edV vs) = vs := by
 unfold vsOf edV
 rw [List.map_map]
 refine (List.map_congr_left (g := id) fun v hv => ?_).trans (List.map_id vs)
 show (⟨v.e, parts v.e.who comma⟩ : Vote) = v
 rw [← (h v hv).who]
theorem mem_vsOf {W : List Edit} {v : Vote} : v ∈ vsOf W ↔ v.e ∈ W ∧ v.set = parts v.e.who comma := by
 unfold vsOf
 rw [List.mem_map]
 constructor
 ·rintro ⟨e, he, rfl⟩; exact ⟨he, rfl⟩
 ·rintro ⟨h1, h2⟩; exact ⟨v.e, h1, by rw [← h2]⟩
/-- The edit that stands for a set alone. -/
def wE (who : ByteArray) : Edit := ⟨⟨⟨#[]⟩, 0⟩, 0, 0, [], 0, ⟨⟨#[]⟩, 0⟩, ⟨⟨#[]⟩, 0⟩, false, ⟨#[]⟩, ⟨#[]⟩, ⟨#[]⟩, ⟨#[]⟩, ⟨⟨#[]⟩, 0⟩, who⟩
/-- The votes that count, as the reference has them. -/
structure OkW (all : List Member) (W : List Edit) : Prop where
 nod : (all.map Member.name).Nodup
 nm : ∀ e ∈ W, namesO e (all.map Member.name) = some (parts e.who comma)
 chain : ChainV (vsOf W)
 len : W.length ≤ 40
 mlen : all.length ≤ 8
 sm : ∀ e ∈ W, e.who.size ≤ 300 ∧ AscI e.deps ∧ e.deps.length ≤ 12 ∧ ∀ a, 0 ≤ hasN e.deps a
 ne : ∀ m ∈ all, m.name ≠ ⟨#[]⟩
theorem OkW.vs {all : List Member} {W : List Edit} (h : OkW all W) : VsOk (all.map Member.name) (vsOf W) :=
 ⟨h.nod, fun v hv => by
  obtain ⟨h1, h2⟩ := mem_vsOf.1 hv
  have := vok_of (h.nm v.e h1)
  rw [← h2] at this; exact this, h.chain⟩
theorem OkW.h8 {all : List Member} {W : List Edit} (h : OkW all W) : (all.map Member.name).length ≤ 8 := by rw [List.length_map]; exact h.mlen
theorem hasS_false {l : List ByteArray} {x : ByteArray} (h : x ∉ l) : hasS l x = false := by
 cases hq : hasS l x
 ·rfl
 ·exact absurd ((hasS_iff l x).1 hq) h
theorem ref_wE {M : List ByteArray} {e : Edit} (h : namesO e M = some (parts e.who comma)) (hn : ⟨#[]⟩ ∉ M) : refN (wE e.who) M = some (parts e.who comma) := by
 obtain ⟨_, _, _, _, h5⟩ := namesO_some h
 unfold refN
 show (if ∀ j, j < (parts e.who comma).length → badN ⟨#[]⟩ M (parts e.who comma) j = false then some (parts e.who comma) else none) = _
 rw [if_pos]
 intro j hj
 have := h5 j hj
 unfold badN at this ⊢
 simp only [Bool.or_eq_false_iff, decide_eq_false_iff_not] at this ⊢
 refine ⟨fun q => hn ?_, this.2⟩
 rw [← q]
 exact (hasS_iff _ _).1 (by simpa using this.2.1)
theorem OkW.wE {all : List Member} {W : List Edit} (h : OkW all W) {who : ByteArray} (hw : ∃ e ∈ W, e.who = who) : refN (wE who) (all.map Member.name) = some (parts who comma) := by
 obtain ⟨e, he, rfl⟩ := hw
 refine ref_wE (h.nm e he) fun q => ?_
 obtain ⟨m, hm, e1⟩ := List.mem_map.1 q
 exact h.ne m hm e1
def firstV (W : List Edit) (a who : ByteArray) : Option Edit := W.find? fun e => decide (e.id.a = a) && decide (e.who = who)
def ofStep (W : List Edit) (who : ByteArray) (S : List ByteArray) (acc : Option (List Edit)) (m : Member) : Option (List Edit) := match acc with
 | none => none
 | some out => if hasS S m.name = true then some out else match firstV W m.name who with
  | none => none
  | some e => some (out ++ [e])
noncomputable def ofR (all : List Member) (W : List Edit) (who : ByteArray) : Option (List Edit) := all.foldl (ofStep W who (parts who comma)) (some [])
theorem ofStep_none (W : List Edit) (who : ByteArray) (S : List ByteArray) : ∀ l : List Member, l.foldl (ofStep W who S) none = none
 | [] => rfl
 | m :: l => ofStep_none W who S l
theorem firstV_some {W : List Edit} {a who : ByteArray} {e : Edit} (h : firstV W a who = some e) : e ∈ W ∧ e.id.a = a ∧ e.who = who := by
 have h1 := List.find?_some h
 simp at h1
 exact ⟨List.mem_of_find?_eq_some h, h1⟩
theorem firstV_none {W : List Edit} {a who : ByteArray} (h : firstV W a who = none) : ∀ e ∈ W, ¬ (e.id.a = a ∧ e.who = who) := by
 intro e he
 have := List.find?_eq_none.1 h e he
 simpa using this
theorem ofR_key (W : List Edit) (who : ByteArray) (S : List ByteArray) : ∀ (l : List Member) (out : List Edit), match l.foldl (ofStep W who S) (some out) with
  | none => ∃ m ∈ l, m.name ∉ S ∧ firstV W m.name who = none
  | some r => (∀ e, e ∈ r ↔ e ∈ out ∨ ∃ m ∈ l, m.name ∉ S ∧ firstV W m.name who = some e) ∧ (∀ m ∈ l, m.name ∉ S → firstV W m.name who ≠ none) ∧ r.length ≤ out.length + l.length
 | [], out => by
  simp only [List.foldl_nil]
  exact ⟨fun e => by simp, (by simp), (by simp)⟩
 | m :: l, out => by
  rw [List.foldl_cons]
  by_cases hS : m.name ∈ S
  ·have e1 : ofStep W who S (some out) m = some out := by unfold ofStep; simp only; rw [if_pos ((hasS_iff S _).2 hS)]
   rw [e1]
   have ih := ofR_key W who S l out
   cases hr : l.foldl (ofStep W who S) (some out) with
   | none => rw [hr] at ih; obtain ⟨m', h1, h2⟩ := ih; exact ⟨m', List.mem_cons_of_mem _ h1, h2⟩
   | some r =>
    rw [hr] at ih
    obtain ⟨h1, h2, h3⟩ := ih
    refine ⟨fun e => ?_, fun m' hm' hn => ?_, by simp only [List.length_cons]; omega⟩
    ·rw [h1 e]
     constructor
     ·rintro (q | ⟨m', q1, q2⟩)
      ·exact .inl q
      ·exact .inr ⟨m', List.mem_cons_of_mem _ q1, q2⟩
     ·rintro (q | ⟨m', q1, q2⟩)
      ·exact .inl q
      ·rcases List.mem_cons.1 q1 with rfl | q1
       ·exact absurd hS q2.1
       ·exact .inr ⟨m', q1, q2⟩
    ·rcases List.mem_cons.1 hm' with rfl | q1
     ·exact absurd hS hn
     ·exact h2 m' q1 hn
  ·cases hf : firstV W m.name who with
   | none =>
    have e1 : ofStep W who S (some out) m = none := by unfold ofStep; simp only; rw [if_neg (by rw [hasS_false hS]; simp), hf]
    rw [e1, ofStep_none]
    exact ⟨m, List.mem_cons_self .., hS, hf⟩
   | some f =>
    have e1 : ofStep W who S (some out) m = some (out ++ [f]) := by unfold ofStep; simp only; rw [if_neg (by rw [hasS_false hS]; simp), hf]
    rw [e1]
    have ih := ofR_key W who S l (out ++ [f])
    cases hr : l.foldl (ofStep W who S) (some (out ++ [f])) with
    | none => rw [hr] at ih; obtain ⟨m', h1, h2⟩ := ih; exact ⟨m', List.mem_cons_of_mem _ h1, h2⟩
    | some r =>
     rw [hr] at ih
     obtain ⟨h1, h2, h3⟩ := ih
     refine ⟨fun e => ?_, fun m' hm' hn => ?_, by simp only [List.length_cons, List.length_append, List.length_nil] at h3 ⊢; omega⟩
     ·rw [h1 e, List.mem_append, List.mem_singleton]
      constructor
      ·rintro ((q | rfl) | ⟨m', q1, q2⟩)
       ·exact .inl q
       ·exact .inr ⟨m, List.mem_cons_self .., hS, hf⟩
       ·exact .inr ⟨m', List.mem_cons_of_mem _ q1, q2⟩
      ·rintro (q | ⟨m', q1, q2⟩)
       ·exact .inl (.inl q)
       ·rcases List.mem_cons.1 q1 with rfl | q1
        ·rw [hf] at q2; exact .inl (.inr (Option.some.inj q2.2).symm)
        ·exact .inr ⟨m', q1, q2⟩
     ·rcases List.mem_cons.1 hm' with rfl | q1
      ·rw [hf]; exact fun q => by cases q
      ·exact h2 m' q1 hn
/-- One author votes once for a set. -/
theorem OkW.one {all : List Member} {W : List Edit} (h : OkW all W) {e f : Edit} (he : e ∈ W) (hf : f ∈ W) (ha : e.id.a = f.id.a) (hw : e.who = f.who) : e = f := by
 obtain ⟨i, hi, rfl⟩ := List.mem_iff_getElem.1 he
 obtain ⟨j, hj, rfl⟩ := List.mem_iff_getElem.1 hf
 have hc := List.pairwise_iff_getElem.1 h.chain
 have hl : (vsOf W).length = W.length := List.length_map ..
 have hg : ∀ k (hk : k < W.length), (vsOf W)[k]'(by rw [hl]; exact hk) = ⟨W[k], parts W[k].who comma⟩ := fun k hk => by simp [vsOf]
 rcases Nat.lt_trichotomy i j with q | q | q
 ·have := (hc i j (by omega) (by omega) q (by rw [hg i hi, hg j hj]; exact ha)).2
  rw [hg i hi, hg j hj] at this
  simp only [hw] at this; omega
 ·subst q; rfl
 ·have := (hc j i (by omega) (by omega) q (by rw [hg i hi, hg j hj]; exact ha.symm)).2
  rw [hg i hi, hg j hj] at this
  simp only [hw] at this; omega
theorem OkW.of_some {all : List Member} {W : List Edit} (h : OkW all W) {who : ByteArray} {own : List Edit} (ho : ofR all W who = some own) :
  (∀ e, e ∈ own ↔ e ∈ W ∧ e.who = who) ∧ decB (all.map Member.name) (vsOf W) (parts who comma) = true ∧ own.length ≤ 8 := by
 have key := ofR_key W who (parts who comma) all []
 unfold ofR at ho
 rw [ho] at key
 obtain ⟨h1, h2, h3⟩ := key
 refine ⟨fun e => ?_, decB_iff.2 fun s hs hn => ?_, by have := h.mlen; simp at h3; omega⟩
 ·rw [h1 e]
  constructor
  ·rintro (q | ⟨m, _, _, q⟩)
   ·cases q
   ·obtain ⟨q1, _, q3⟩ := firstV_some q; exact ⟨q1, q3⟩
  ·rintro ⟨q1, q2⟩
   have hv := vok_of (h.nm e q1)
   obtain ⟨m, hm, e1⟩ := List.mem_map.1 hv.mem
   have hns : m.name ∉ parts who comma := by rw [e1, ← q2]; exact hv.self
   refine .inr ⟨m, hm, hns, ?_⟩
   cases hf : firstV W m.name who with
   | none => exact absurd hf (h2 m hm hns)
   | some f =>
    obtain ⟨r1, r2, r3⟩ := firstV_some hf
    rw [h.one r1 q1 (by rw [r2, e1]) (by rw [r3, q2])]
 ·obtain ⟨m, hm, rfl⟩ := List.mem_map.1 hs
  cases hf : firstV W m.name who with
  | none => exact absurd hf (h2 m hm hn)
  | some f =>
   obtain ⟨r1, r2, r3⟩ := firstV_some hf
   exact ⟨⟨f, parts f.who comma⟩, mem_vsOf.2 ⟨r1, rfl⟩, by rw [r3], r2⟩
theorem OkW.of_none {all : List Member} {W : List Edit} (h : OkW all W) {who : ByteArray} (ho : ofR all W who = none) :
  decB (all.map Member.name) (vsOf W) (parts who comma) = false := by
 have key := ofR_key W who (parts who comma) all []
 unfold ofR at ho
 rw [ho] at key
 obtain ⟨m, hm, hn, hf⟩ := key
 cases hd : decB (all.map Member.name) (vsOf W) (parts who comma)
 ·rfl
 ·obtain ⟨v, hv, h1, h2⟩ := decB_iff.1 hd m.name (List.mem_map.2 ⟨m, hm, rfl⟩) hn
  obtain ⟨h3, h4⟩ := mem_vsOf.1 hv
  exact absurd ⟨h2, parts_inj (h4.symm.trans h1)⟩ (firstV_none hf v.e h3)
theorem OkW.of_mem {all : List Member} {W : List Edit} (h : OkW all W) {who : ByteArray} {own : List Edit} (ho : ofR all W who = some own) (v : Vote) :
  v ∈ vsOf own ↔ v ∈ ofV (vsOf W) (parts who comma) := by
 rw [mem_vsOf]
 unfold ofV
 rw [List.mem_filter, mem_vsOf, decide_eq_true_eq, (h.of_some ho).1]
 constructor
 ·rintro ⟨⟨h1, h2⟩, h3⟩; exact ⟨⟨h1, h3⟩, by rw [h3, h2]⟩
 ·rintro ⟨⟨h1, h2⟩, h3⟩; exact ⟨⟨h1, parts_inj (h2.symm.trans h3)⟩, h2⟩
/-- The decided sets, as the reference lists them. -/
noncomputable def outsStep (all : List Member) (W : List Edit) (size : Nat) (out : List ByteArray) (v : Edit) : List ByteArray :=
 if ((ofR all W v.who).isSome && (decide ((parts v.who comma).length = size) && !hasS out v.who)) = true then out ++ [v.who] else out
noncomputable def outsR (all : List Member) (W : List Edit) (n : Nat) : List ByteArray := (List.range n).foldl (fun out k => W.foldl (outsStep all W (k + 1)) out) []
noncomputable def plen (w : ByteArray) : Nat := (parts w comma).length
structure OutI (all : List Member) (W : List Edit) (size : Nat) (out : List ByteArray) : Prop where
 pw : out.Pairwise fun a b => plen a < plen b
 mem : ∀ w ∈ out, (∃ e ∈ W, e.who = w) ∧ ofR all W w ≠ none ∧ plen w ≤ size
 has : ∀ e ∈ W, ofR all W e.who ≠ none → plen e.who < size → e.who ∈ out
theorem OkW.len_one {all : List Member} {W : List Edit} (h : OkW all W) {e f : Edit} (he : e ∈ W) (hf : f ∈ W) (h1 : ofR all W e.who ≠ none) (h2 : ofR all W f.who ≠ none) (hl : plen e.who = plen f.who) : e.who = f.who := by
 have dc : ∀ {e : Edit}, e ∈ W → ofR all W e.who ≠ none → Dcd (all.map Member.name) (vsOf W) (parts e.who comma) := fun {e} he hn => by
  cases ho : ofR all W e.who with
  | none => exact absurd ho hn
  | some own => exact ⟨⟨⟨e, parts e.who comma⟩, mem_vsOf.2 ⟨he, rfl⟩, rfl⟩, (h.of_some ho).2.1⟩
 exact parts_inj (dcd_len h.vs (dc he h1) (dc hf h2) hl)
theorem OkW.outs_in {all : List Member} {W : List Edit} (h : OkW all W) (size : Nat) : ∀ (l : List Edit) (out : List ByteArray), (∀ e ∈ l, e ∈ W) → OutI all W size out →
  OutI all W size (l.foldl (outsStep all W size) out) ∧ (∀ w ∈ out, w ∈ l.foldl (outsStep all W size) out) ∧ ∀ e ∈ l, ofR all W e.who ≠ none → plen e.who = size → e.who ∈ l.foldl (outsStep all W size) out
 | [], out, _, hi => ⟨hi, fun w hw => hw, fun e he => by cases he⟩
 | v :: l, out, hs, hi => by
  rw [List.foldl_cons]
  have hv := hs v (List.mem_cons_self ..)
  have step : OutI all W size (outsStep all W size out v) ∧ (∀ w ∈ out, w ∈ outsStep all W size out v) ∧ (ofR all W v.who ≠ none → plen v.who = size → v.who ∈ outsStep all W size out v) := by
   unfold outsStep
   split
   ·rename_i hc
    simp only [Bool.and_eq_true, decide_eq_true_eq, Bool.not_eq_true'] at hc
    obtain ⟨c1, c2, c3⟩ := hc
    have hn : ofR all W v.who ≠ none := fun q => by rw [q] at c1; cases c1
    have hni : v.who ∉ out := fun q => by rw [(hasS_iff _ _).2 q] at c3; cases c3
    refine ⟨⟨?_, fun w hw => ?_, fun e he q1 q2 => List.mem_append_left _ (hi.has e he q1 q2)⟩, fun w hw => List.mem_append_left _ hw, fun _ _ => by simp⟩
    ·rw [List.pairwise_append]
     refine ⟨hi.pw, List.pairwise_singleton _ _, fun a ha b hb => ?_⟩
     rw [List.mem_singleton] at hb; subst hb
     obtain ⟨⟨f, hf, rfl⟩, q2, q3⟩ := hi.mem a ha
     have : plen f.who ≠ plen v.who := fun q => hni (by rw [← h.len_one hf hv q2 hn q]; exact ha)
     have e2 : plen v.who = size := c2
     omega
    ·rcases List.mem_append.1 hw with hw | hw
     ·exact hi.mem w hw
     ·rw [List.mem_singleton] at hw; subst hw
      exact ⟨⟨v, hv, rfl⟩, hn, Nat.le_of_eq c2⟩
   ·rename_i hc
    refine ⟨hi, fun w hw => hw, fun q1 q2 => ?_⟩
    cases ho : ofR all W v.who with
    | none => exact absurd ho q1
    | some own =>
     have e2 : (parts v.who comma).length = size := q2
     rw [ho, e2] at hc
     simp at hc
     exact (hasS_iff _ _).1 hc
  obtain ⟨s1, s2, s3⟩ := step
  obtain ⟨r1, r2, r3⟩ := OkW.outs_in h size l _ (fun e he => hs e (List.mem_cons_of_mem _ he)) s1
  refine ⟨r1, fun w hw => r2 w (s2 w hw), fun e he q1 q2 => ?_⟩
  rcases List.mem_cons.1 he with rfl | he
  ·exact r2 _ (s3 q1 q2)
  ·exact r3 e he q1 q2
theorem OkW.outs_all {all : List Member} {W : List Edit} (h : OkW all W) : ∀ n, OutI all W (n + 1) (outsR all W n)
 | 0 => ⟨List.Pairwise.nil, fun w hw => (by cases hw), fun e he _ q => by
   have : 1 ≤ (parts e.who comma).length := (vok_of (h.nm e he)).pos
   unfold plen at q; omega⟩
 | n + 1 => by
  have ih := OkW.outs_all h n
  obtain ⟨r1, r2, r3⟩ := h.outs_in (n + 1) W _ (fun e he => he) ih
  have e : outsR all W (n + 1) = W.foldl (outsStep all W (n + 1)) (outsR all W n) := by
   unfold outsR; rw [List.range_succ, List.foldl_append]; rfl
  rw [e]
  refine ⟨r1.pw, fun w hw => ?_, fun e he q1 q2 => ?_⟩
  ·obtain ⟨a, b, c⟩ := r1.mem w hw; exact ⟨a, b, by omega⟩
  ·by_cases q : plen e.who = n + 1
   ·exact r3 e he q1 q
   ·exact r1.has e he q1 (by omega)
theorem OkW.outs_eq {all : List Member} {W : List Edit} (h : OkW all W) : (outsR all W all.length).map (fun w => parts w comma) = outL (all.map Member.name) (vsOf W) := by
 have hI := h.outs_all all.length
 refine pw_ext (R := fun a b : List ByteArray => a.length < b.length) (fun a b q => by omega) (fun a => by omega) ?_ (out_sorted h.vs h.h8) fun S => ?_
 ·rw [List.pairwise_map]; exact hI.pw
 ·rw [mem_out h.vs h.h8, List.mem_map]
  constructor
  ·rintro ⟨w, hw, rfl⟩
   obtain ⟨⟨e, he, rfl⟩, hn, _⟩ := hI.mem w hw
   cases ho : ofR all W e.who with
   | none => exact absurd ho hn
   | some own => exact ⟨⟨⟨e, parts e.who comma⟩, mem_vsOf.2 ⟨he, rfl⟩, rfl⟩, (h.of_some ho).2.1⟩
  ·rintro ⟨⟨v, hv, rfl⟩, hd⟩
   obtain ⟨h1, h2⟩ := mem_vsOf.1 hv
   refine ⟨v.e.who, hI.has v.e h1 (fun q => ?_) ?_, h2.symm⟩
   ·rw [h2, h.of_none q] at hd; cases hd
   ·have := (h.vs.ok v hv).half
    rw [h2, List.length_map] at this
    unfold plen; omega
end Go.Aw.Try

namespace Go.Aw.Try
open Go Go.Proofs Go.Aw
set_option maxRecDepth 100000
set_option maxHeartbeats 4000000
/-! ### Of -/
def ofT : Option (List Edit) → T
 | none => .tup [.c (.d (.v (.slice none 0 0))), .c (.d (.v (.bool false)))]
 | some own => .tup [.c (.d (.sl (own.map Edit.row))), .c (.d (.v (.bool true)))]
theorem firstV_take {W : List Edit} {a who : ByteArray} {j : Nat} (h : j < W.length) : firstV (W.take (j + 1)) a who = match firstV (W.take j) a who with
  | some f => some f
  | none => if (nth W j).id.a = a ∧ (nth W j).who = who then some (nth W j) else none := by
 unfold firstV
 rw [take_nth h, List.find?_append]
 cases (W.take j).find? fun e => decide (e.id.a = a) && decide (e.who = who) with
 | some f => rfl
 | none =>
  by_cases q : (nth W j).id.a = a ∧ (nth W j).who = who
  ·rw [if_pos q]; simp [q.1, q.2]
  ·rw [if_neg q]; simp; simpa using q
theorem wE_row (who : ByteArray) : (wE who).row = [.v (.string ⟨#[]⟩), .v (.int .i64 0), .v (.int .i64 0), .v (.int .i64 0), .sl [], .v (.int .i64 0), .v (.string ⟨#[]⟩), .v (.int .i64 0), .v (.string ⟨#[]⟩), .v (.int .i64 0), .v (.bool false), .v (.string ⟨#[]⟩), .v (.string ⟨#[]⟩), .v (.string ⟨#[]⟩), .v (.string ⟨#[]⟩), .v (.string ⟨#[]⟩), .v (.int .i64 0), .v (.string who)] := rfl
theorem ref_T {all : List Member} {W : List Edit} (h : OkW all W) {who : ByteArray} (hw : ∃ e ∈ W, e.who = who) : x542.g [.agg (wE who).row, .c (.sl (all.map Member.row))] = some (True, .tup [.c (.d (.sl ((parts who comma).map srow))), .c (.d (.v (.bool (decide (2 * (parts who comma).length < (all.map Member.name).length)))))]) := by
 obtain ⟨e, he, rfl⟩ := hw
 have := xg542 (wE e.who) all (by have := (h.sm e he).1; show e.who.size < _; omega) (by have := h.mlen; omega)
 rw [this, h.wE ⟨e, he, rfl⟩]; rfl
theorem ref_Te {all : List Member} {W : List Edit} (h : OkW all W) {e : Edit} (he : e ∈ W) : x542.g [.agg e.row, .c (.sl (all.map Member.row))] = some (True, .tup [.c (.d (.sl ((parts e.who comma).map srow))), .c (.d (.v (.bool (decide (2 * (parts e.who comma).length < (all.map Member.name).length)))))]) := by
 have := xg542 e all (by have := (h.sm e he).1; omega) (by have := h.mlen; omega)
 rw [this, refN_of (h.nm e he)]; rfl
theorem OkW.pln {all : List Member} {W : List Edit} (h : OkW all W) {who : ByteArray} (hw : ∃ e ∈ W, e.who = who) : (parts who comma).length ≤ 8 ∧ 1 ≤ (parts who comma).length := by
 obtain ⟨e, he, rfl⟩ := hw
 have hv := vok_of (h.nm e he)
 have h1 := hv.half
 have h2 := hv.pos
 have h3 := h.h8
 simp only at h1 h2
 omega
theorem k541 (who : ByteArray) (W : List Edit) (all : List Member) (h : OkW all W) (hwho : ∃ e ∈ W, e.who = who) (H : List O) :
  ACalls Tryz.prog G0 41 [Sx who, .c (.d (.sl (W.map Edit.row))), .c (.d (.sl (all.map Member.row)))] H fun t H' => t = ofT (ofR all W who) ∧ H' = H := by
 have s1 : x542.sc = false := rfl
 have s2 : x546.sc = true := rfl
 have g1 := ref_T h hwho
 rw [wE_row] at g1
 have hal := h.mlen
 have hWl := h.len
 obtain ⟨pl, _⟩ := h.pln hwho
 refine acallsX (X := [(42, x542), (46, x546)]) ⟨kx542, kx546, trivial⟩ tab hmix Tryz.func41 c541 (by rfl) fun hw => ?_
 unfold ofR
 obtain ⟨S, hS⟩ : ∃ S, S = parts who comma := ⟨_, rfl⟩
 rw [← hS] at g1 pl ⊢
 simp (implicitDefEqProofs := false) (disch := omega) [gz, ir541, b541, b541_0, b541_1, b541_2, b541_3, Sx, splice, fillC, s1, g1, wrap64, toPVs, frzVs, osVs, toPV]
 refine loopE (fun k st => ∃ (i : Nat) (out : List Edit), i ≤ all.length ∧ k = all.length - i ∧ all.foldl (ofStep W who S) (some []) = (all.drop i).foldl (ofStep W who S) (some out) ∧ out.length ≤ i ∧
   st = ⟨ofL [(0, .v (.c (.d (.v (.string who))))), (1, .v (.c (.d (.sl (W.map Edit.row))))), (8, .v (.c (.d (.sl (S.map srow))))), (24, .v (.c (.d (.sl (all.map Member.row))))), (25, .int .i64 all.length), (26, .int .i64 i), (10, .v (.c (.os H.length 18 0 out.length)))], H ++ [.row 18 (out.map Edit.row)]⟩)
  (fun st => ∃ out, all.foldl (ofStep W who S) (some []) = some out ∧ AtS [(10, .v (.c (.os H.length 18 0 out.length)))] (H ++ [.row 18 (out.map Edit.row)]) st) ?_ ?_ ?_
 ·refine wk_pre [0] [0, 1, 8, 24, 25, 26, 10] hw rfl ⟨_, 0, [], by omega, rfl, rfl, Nat.le_refl _, ?_⟩
  simp [phiP, phi, O.ren, Sx]
 ·rintro J L hJ hL k st ⟨i, out, hi, rfl, hfo, hol, rfl⟩
  by_cases hlt : i < all.length
  ·obtain ⟨m, hm⟩ : ∃ m, nth all i = m := ⟨_, rfl⟩
   have hmr : m.row = [.v (.string m.name), .v (.string m.key)] := rfl
   have hd : all.drop i = m :: all.drop (i + 1) := by rw [List.drop_eq_getElem_cons hlt, ← nth_eq hlt, hm]
   rw [hd, List.foldl_cons] at hfo
   have g2 := xg546 S m.name (by omega)
   obtain ⟨u, hu⟩ : ∃ u, u = hasS S m.name := ⟨_, rfl⟩
   have hstep : ofStep W who S (some out) m = if u = true then some out else match firstV W m.name who with
     | none => none
     | some e => some (out ++ [e]) := by rw [hu]; rfl
   rw [← hu] at g2
   cases u
   ·rw [if_neg (by simp)] at hstep
    simp (implicitDefEqProofs := false) (disch := omega) [gz, hlt, wrap64, nth_map, hm, hmr, splice, fillC, s2, g2, Nat.add_assoc]
    refine loopE (fun k st => ∃ (j : Nat) (r : Option Edit), j ≤ W.length ∧ k = W.length - j ∧ r = firstV (W.take j) m.name who ∧
      st = ⟨ofL [(0, .v (.c (.d (.v (.string who))))), (1, .v (.c (.d (.sl (W.map Edit.row))))), (8, .v (.c (.d (.sl (S.map srow))))), (24, .v (.c (.d (.sl (all.map Member.row))))), (25, .int .i64 all.length), (26, .int .i64 i), (12, .v (.c (.ptr (H.length + 1) 0))), (34, .v (.c (.d (.sl (W.map Edit.row))))), (35, .int .i64 W.length), (36, .int .i64 j), (13, .bool r.isSome), (10, .v (.c (.os H.length 18 0 (out ++ r.toList).length)))], H ++ [.row 18 ((out ++ r.toList).map Edit.row), .cells ([.v (.string m.name), .v (.string m.key)].map .d)]⟩)
     (fun st => ∃ r, r = firstV W m.name who ∧ AtS [(0, .v (.c (.d (.v (.string who))))), (1, .v (.c (.d (.sl (W.map Edit.row))))), (8, .v (.c (.d (.sl (S.map srow))))), (24, .v (.c (.d (.sl (all.map Member.row))))), (25, .int .i64 all.length), (26, .int .i64 i), (13, .bool r.isSome), (10, .v (.c (.os H.length 18 0 (out ++ r.toList).length)))] (H ++ [.row 18 ((out ++ r.toList).map Edit.row), .cells ([.v (.string m.name), .v (.string m.key)].map .d)]) st) ?_ ?_ ?_
    ·refine wk_pre [0, 1] [0, 1, 8, 24, 25, 26, 12, 34, 35, 36, 13, 10] hw rfl ⟨_, 0, none, by omega, rfl, rfl, ?_⟩
     simp [phiP, phi, O.ren]
    ·rintro J2 L2 hJ2 hL2 k2 st ⟨j, r, hj, rfl, hr, rfl⟩
     by_cases hjl : j < W.length
     ·obtain ⟨e, he⟩ : ∃ e, nth W j = e := ⟨_, rfl⟩
      have hee := Edit.row_eq e
      have hft := firstV_take (a := m.name) (who := who) hjl
      rw [← hr, he] at hft
      have keep : ∀ (sl : Nat → T) (o : O), firstV (W.take (j + 1)) m.name who = r → (∀ p ∈ [(0, .v (.c (.d (.v (.string who))))), (1, .v (.c (.d (.sl (W.map Edit.row))))), (8, .v (.c (.d (.sl (S.map srow))))), (24, .v (.c (.d (.sl (all.map Member.row))))), (25, .int .i64 all.length), (26, .int .i64 i), (12, T.v (.c (.ptr (H.length + 1) 0))), (34, .v (.c (.d (.sl (W.map Edit.row))))), (35, .int .i64 W.length), (36, .int .i64 (j + 1 : Nat)), (13, .bool r.isSome), (10, .v (.c (.os H.length 18 0 (out ++ r.toList).length)))], sl p.1 = p.2) → wk Tryz.prog G0 H.length ⟨sl, H ++ [.row 18 ((out ++ r.toList).map Edit.row), .cells ([.v (.string m.name), .v (.string m.key)].map .d), o]⟩ (fun s'' => ∃ k', k' < W.length - j ∧ J2 k' s'') := fun sl o hnn hsl => by
       subst hJ2
       refine wk_pre [0, 1] [0, 1, 8, 24, 25, 26, 12, 34, 35, 36, 13, 10] hw rfl ⟨W.length - (j + 1), by omega, j + 1, r, by omega, rfl, hnn.symm, ?_⟩
       simp at hsl
       simp [hsl, phiP, phi, O.ren]
      obtain ⟨Z, hZ⟩ : ∃ Z, Z = out ++ r.toList := ⟨_, rfl⟩
      have hZl : Z.length ≤ i + 1 := by rw [hZ]; cases r <;> simp <;> omega
      have tS : (Z.map Edit.row).take Z.length = Z.map Edit.row := List.take_of_length_le (by simp)
      by_cases c1 : e.id.a = m.name
      ·by_cases c2 : e.who = who
       ·cases r with
        | some f =>
         simp only at hft
         rw [← hZ] at keep ⊢
         simp (implicitDefEqProofs := false) (disch := omega) [gz, hjl, wrap64, nth_map, he, hee, splice, fillC, binSF, c1, c2, Nat.add_assoc]
         exact keep _ _ hft (by simp)
        | none =>
         simp only at hft
         rw [if_pos ⟨c1, c2⟩] at hft
         have hZo : Z = out := by rw [hZ]; simp
         rw [← hZ]
         simp (implicitDefEqProofs := false) (disch := omega) [gz, hjl, wrap64, nth_map, he, hee, splice, fillC, binSF, c1, c2, toDs, toD, tS, Nat.add_assoc]
         repeat' (with_reducible apply And.intro)
         all_goals first | omega | kernel_rfl | exact fun _ _ => rfl | skip
         subst hJ2
         refine wk_pre [4, 1] [0, 1, 8, 24, 25, 26, 12, 34, 35, 36, 13, 10] hw rfl ⟨W.length - (j + 1), by omega, j + 1, some e, by omega, rfl, hft.symm, ?_⟩
         rw [hZo]
         simp [phiP, phi, O.ren, hee, c1, c2, show ¬ (H.length + 4 < H.length) from by omega]
       ·have hkk : firstV (W.take (j + 1)) m.name who = r := by
         rw [hft]; cases r
         ·simp only; rw [if_neg (fun q => c2 q.2)]
         ·rfl
        rw [← hZ] at keep ⊢
        simp (implicitDefEqProofs := false) (disch := omega) [gz, hjl, wrap64, nth_map, he, hee, splice, fillC, binSF, c1, c2, Nat.add_assoc]
        exact keep _ _ hkk (by simp)
      ·have hkk : firstV (W.take (j + 1)) m.name who = r := by
        rw [hft]; cases r
        ·simp only; rw [if_neg (fun q => c1 q.1)]
        ·rfl
       rw [← hZ] at keep ⊢
       simp (implicitDefEqProofs := false) (disch := omega) [gz, hjl, wrap64, nth_map, he, hee, splice, fillC, binSF, c1, Nat.add_assoc]
       exact keep _ _ hkk (by simp)
     ·have : j = W.length := by omega
      subst this
      rw [List.take_length] at hr
      simp (implicitDefEqProofs := false) (disch := omega) [gz, hjl]
      subst hL2
      exact ⟨r, hr, at_mk (by simp) (by simp)⟩
    ·rintro _ ⟨r, hr, sl, rfl⟩
     rw [← hr] at hstep
     cases r with
     | none =>
      simp only at hstep
      rw [hstep, ofStep_none] at hfo
      rw [hfo]
      simp (implicitDefEqProofs := false) (disch := omega) [gz, wrap64]
      exact fin_drop hw ⟨rfl, rfl⟩
     | some f =>
      simp only at hstep
      rw [hstep] at hfo
      simp (implicitDefEqProofs := false) (disch := omega) [gz, wrap64]
      subst hJ
      refine wk_pre [0] [0, 1, 8, 24, 25, 26, 10] hw rfl ⟨all.length - (i + 1), by omega, i + 1, out ++ [f], by omega, rfl, hfo, by simp; omega, ?_⟩
      simp [phiP, phi, O.ren]
   ·rw [if_pos rfl] at hstep
    rw [hstep] at hfo
    simp (implicitDefEqProofs := false) (disch := omega) [gz, hlt, wrap64, nth_map, hm, hmr, splice, fillC, s2, g2, Nat.add_assoc]
    subst hJ
    refine wk_pre [0] [0, 1, 8, 24, 25, 26, 10] hw rfl ⟨all.length - (i + 1), by omega, i + 1, out, by omega, rfl, hfo, by omega, ?_⟩
    simp [phiP, phi, O.ren]
  ·have : i = all.length := by omega
   subst this
   rw [List.drop_length] at hfo
   simp (implicitDefEqProofs := false) (disch := omega) [gz, hlt]
   subst hL
   exact ⟨out, hfo, at_mk (by simp) rfl⟩
 ·rintro _ ⟨out, hout, sl, rfl⟩
  rw [hout]
  simp (implicitDefEqProofs := false) (disch := omega) [gz, b541_4, b541_5, wrap64]
  exact fin_pre_pvs (ps := [.c (.sl (out.map Edit.row)), .c (.v (.bool true))]) (L' := [.frow 18 (out.map Edit.row)]) hw (by simp [toPVs, toPV, toD, take_of_len]) (by simp [frzVs, frz, frz1, V.cells]) ⟨rfl, rfl⟩
noncomputable def x541 : XE := mkX false (fun (p : ByteArray × List Edit × List Member) => [.c (.v (.string p.1)), .c (.sl (p.2.1.map Edit.row)), .c (.sl (p.2.2.map Member.row))]) (fun p => OkW p.2.2 p.2.1 ∧ ∃ e ∈ p.2.1, e.who = p.1) (fun p => ofT (ofR p.2.2 p.2.1 p.1))
theorem kx541 : Contract Tryz.prog G0 41 x541 := mkX_data fun p h H => k541 p.1 p.2.1 p.2.2 h.1 h.2 H
theorem xg541 (who : ByteArray) (W : List Edit) (all : List Member) (h : OkW all W) (hw : ∃ e ∈ W, e.who = who) : x541.g [.c (.v (.string who)), .c (.sl (W.map Edit.row)), .c (.sl (all.map Member.row))] = some (True, ofT (ofR all W who)) := mkX_g (fun a b h => by
 simp only [List.cons.injEq, PVo.c.injEq, D.sl.injEq, D.v.injEq, Value.string.injEq] at h
 exact Prod.ext h.1 (Prod.ext (rows_inj h.2.1) (mrows_inj h.2.2.1))) (who, W, all) ⟨h, hw⟩
end Go.Aw.Try
