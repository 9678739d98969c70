/- An abstract machine over the model, and contracts of functions of this program on it (part 6): words and lemmas for the proof in the last text. -/
import Derived.Test.YtocddjiebigmgaaGreatDoorCards
import Derived.Test.YtocddjiebigmgaaGreatDoorTie
import Derived.Deep.DeepHandedRow
import Derived.Shelf.Vars
import Derived.Test.YtocddjiebigmgaaGreatDoorCE
set_option linter.unusedVariables false
set_option linter.unusedSimpArgs false
set_option linter.unusedSectionVars false

namespace Go.Aw
open Go
section
variable {P : Program} {w : World}
def aggT (P : Program) (t : TypeId) : Bool := match P.underlying t with
 | some (.struct _) => true
 | some (.array _ _) => true
 | _ => false
theorem okWide_one {r : Reach} {base : Nat} {t : TypeId} {v : Value} (ha : aggT P t = false) (h : Value.okWide P w r base t v) : v.cells = #[v] := by
 unfold aggT at ha
 unfold Value.okWide at h
 cases hu : P.underlying t with
 | none =>
  rw [hu] at h
  cases v <;> first | rfl | (simp [Cell.okWide, Cell.ok, hu] at h)
 | some td =>
  rw [hu] at h ha
  cases td <;> first | (cases ha; done) | (cases v <;> first | rfl | (simp [Cell.okWide, Cell.ok, hu] at h))
theorem okWide_agg {r : Reach} {base : Nat} {t : TypeId} {v : Value} (ha : aggT P t = true) (h : Value.okWide P w r base t v) : ∃ cs, v = .agg cs := by
 unfold aggT at ha
 unfold Value.okWide at h
 cases hu : P.underlying t with
 | none => rw [hu] at ha; cases ha
 | some td =>
  rw [hu] at h ha
  cases td <;> first | (cases ha; done) | (obtain ⟨cs, e, _⟩ := h; exact ⟨cs, e⟩)
theorem shT_one {n : Nat} {t : TypeId} {es : List Sh} (ha : aggT P t = false) (h : shT P n t = some es) : es.length = 1 := by
 cases n with
 | zero => simp [shT] at h
 | succ n =>
  unfold aggT at ha
  cases hu : P.underlying t with
  | none => simp [shT, hu] at h
  | some td =>
   rw [hu] at ha
   simp only [shT, hu] at h
   cases td <;> simp only at h <;> first | (cases h; done) | (cases ha; done) | (injection h with h; subst h; rfl) | skip
   split at h
   ·split at h
    ·injection h with h; subst h; rfl
    ·cases h
   ·cases h

variable {H : Type} {enc : TypeId × Value → H}
theorem law_calls {G0 : Gl} (hl : laidOutB P = true) {f : Nat} {fn : Func} {s : ChangeSpec} {W : World} (hG0 : GRel G0 (stab (fun _ => none) [] W) W) {base : Nat} {args : Array Value} {ds gs : List (DataW H)} {before : List MemPlace} {apart handsOn : Bool} {tb : TypeId}
  {n : Nat} {ess : List (List Sh)} {aggs : List Bool} (hts : fn.params.toList.map (shT P n) = ess.map some) (hag : fn.params.toList.map (aggT P) = aggs)
  (hres : fn.resultTypes = #[tb]) (hb : P.underlying tb = some .bool) (hvars : s.vars = []) (hspec : ∀ ds : List (DataW H), ds.length = fn.params.toList.length → s.fn H ds = { results := [.lit (.bool true)], args := ds })
  (hparams : fn.params.toList.all (fun t => P.readableRec t && decide (t < P.types.size)) = true)
  (hval : ∀ (j : Nat) t v, fn.params[j]? = some t → args[j]? = some v → Value.okWide P W .any base t v)
  (hW : DataW.Whole enc P fn.params.toList s.vars apart W args.toList ds gs before)
  (h : (ds.map datD).length = ess.length → (∀ (i : Nat) es u, ess[i]? = some es → (ds.map datD)[i]? = some u → okShs es u) → gs = [] → ACalls P G0 f (List.zipWith argV aggs (ds.map datD)) [] fun t _ => t = .bool true) :
  Calls P f args W fun e W' => ∃ v, e = .returned v ∧ s.post enc P fn apart true handsOn false W args v W' := by
 obtain ⟨p, q, hA, hV, hpq, hz, hn⟩ := id hW
 have hgs : gs = [] := by rw [hvars] at hV; cases gs <;> simp [DataW.TrodVars] at hV; rfl
 subst hgs
 obtain ⟨l1, l2, hr⟩ := vals_of_trod hA n ess hts
 have hel : ess.length = fn.params.toList.length := by have := congrArg List.length hts; simpa using this.symm
 have hal : aggs.length = fn.params.toList.length := by rw [← hag]; simp
 have hok := h (by simp [l2, hel]) (fun i es u he hu => by
  rw [List.getElem?_map] at hu
  cases hd : ds[i]? with
  | none => rw [hd] at hu; cases hu
  | some d =>
   rw [hd] at hu; simp at hu; subst hu
   have hi : i < args.toList.length := by rw [l1, ← l2]; exact (List.getElem?_eq_some_iff.1 hd).1
   exact (hr i es _ d he (List.getElem?_eq_getElem hi) hd).1) rfl
 refine post_of_acalls hl hG0 (ds := ds) (gs := []) hres hb hvars (by rw [List.append_nil]; exact hspec ds l2) (fun t ht => ?_) hW ?_ hok (fun t H h => h)
 ·have := List.all_eq_true.1 hparams t ht
  simp at this; exact this
 ·refine ⟨by simp [hal, l2]; simpa using l1, fun i c v hc hv => ?_⟩
  rw [List.getElem?_zipWith] at hc
  have hv' : args.toList[i]? = some v := by simpa using hv
  have hi : i < fn.params.toList.length := by rw [← l1]; exact (List.getElem?_eq_some_iff.1 hv').1
  have hp : fn.params.toList[i]? = some fn.params.toList[i] := List.getElem?_eq_getElem hi
  obtain ⟨t, ht⟩ : ∃ t, fn.params.toList[i]? = some t := ⟨_, hp⟩
  have hga : aggs[i]? = some (aggT P t) := by rw [← hag, List.getElem?_map, ht]; rfl
  have hsh : ∃ es, ess[i]? = some es ∧ shT P n t = some es := by
   have h1 : (fn.params.toList.map (shT P n))[i]? = some (shT P n t) := by rw [List.getElem?_map, ht]; rfl
   rw [hts, List.getElem?_map] at h1
   cases he : ess[i]? with
   | none => rw [he] at h1; cases h1
   | some es => rw [he] at h1; simp at h1; exact ⟨es, rfl, h1.symm⟩
  obtain ⟨es, he, hse⟩ := hsh
  have hdi : i < ds.length := by rw [l2]; exact hi
  have hd : ds[i]? = some ds[i] := List.getElem?_eq_getElem hdi
  have hdm : (ds.map datD)[i]? = some (datD ds[i]) := by rw [List.getElem?_map, hd]; rfl
  rw [hga, hdm] at hc
  simp at hc
  subst hc
  have hrd := hr i es v ds[i] he hv' hd
  have hok' := hval i t v (by simpa using ht) hv
  exact argV_rel (k := ctx (fun _ => none) [] W) (stab_nil0 W) hrd (fun ha => okWide_agg ha hok') (fun ha => ⟨okWide_one ha hok', shT_one ha hse⟩)

/-! ### weights -/
mutual
def wD : D → Nat
 | .v (.string s) => s.size + 1
 | .sl xs => wDss xs + 1
 | _ => 1
def wDs : List D → Nat
 | [] => 0
 | d :: r => wD d + wDs r
def wDss : List (List D) → Nat
 | [] => 0
 | x :: r => wDs x + wDss r
end
theorem wDs_app : ∀ (a b : List D), wDs (a ++ b) = wDs a + wDs b
 | [], b => by simp [wDs]
 | d :: a, b => by simp only [List.cons_append, wDs, wDs_app a b]; omega
end
end Go.Aw

namespace Go.Aw.Try
open Go Go.Proofs Go.Proofs.YtocddjiebigmgaaGreatDoor Go.Aw
set_option maxRecDepth 100000
/-! ### what came in, as data of this program -/
abbrev idSh : List Sh := [.s, .i .i64]
abbrev editSh : List Sh := [.s, .i .i64, .i .i64, .i .i64, .sl idSh, .i .i64, .s, .i .i64, .s, .i .i64, .b, .s, .s, .s, .s, .s, .i .i64, .s]
theorem dec_id {l : List D} (h : okShs idSh l) : ∃ x : Id, l = x.row := by
 simp only [idSh, okShs, okSh] at h
 obtain ⟨_, _, rfl, ⟨a, rfl⟩, _, _, rfl, ⟨n, rfl, _⟩, rfl⟩ := h
 exact ⟨⟨a, n⟩, rfl⟩
theorem dec_list {α : Type} {row : α → List D} {sh : List Sh} (hd : ∀ l, okShs sh l → ∃ x, l = row x) : ∀ {xs : List (List D)}, (∀ x ∈ xs, okShs sh x) → ∃ l : List α, xs = l.map row
 | [], _ => ⟨[], rfl⟩
 | x :: xs, h => by
  obtain ⟨a, rfl⟩ := hd x (h x List.mem_cons_self)
  obtain ⟨l, rfl⟩ := dec_list hd (fun y hy => h y (List.mem_cons_of_mem _ hy))
  exact ⟨a :: l, rfl⟩
theorem dec_edit {l : List D} (h : okShs editSh l) : ∃ e : Edit, l = e.row := by
 simp only [editSh, okShs, okSh] at h
 obtain ⟨_, _, rfl, ⟨a1, rfl⟩, _, _, rfl, ⟨a2, rfl, _⟩, _, _, rfl, ⟨a3, rfl, _⟩, _, _, rfl, ⟨a4, rfl, _⟩, _, _, rfl, ⟨a5, rfl, h5⟩, _, _, rfl, ⟨a6, rfl, _⟩, _, _, rfl, ⟨a7, rfl⟩, _, _, rfl, ⟨a8, rfl, _⟩, _, _, rfl, ⟨a9, rfl⟩, _, _, rfl, ⟨a10, rfl, _⟩,
  _, _, rfl, ⟨a11, rfl⟩, _, _, rfl, ⟨a12, rfl⟩, _, _, rfl, ⟨a13, rfl⟩, _, _, rfl, ⟨a14, rfl⟩, _, _, rfl, ⟨a15, rfl⟩, _, _, rfl, ⟨a16, rfl⟩, _, _, rfl, ⟨a17, rfl, _⟩, _, _, rfl, ⟨a18, rfl⟩, rfl⟩ := h
 obtain ⟨ds, rfl⟩ := dec_list (row := Id.row) (fun l h => dec_id h) h5
 exact ⟨⟨⟨a1, a2⟩, a3, a4, ds, a6, ⟨a7, a8⟩, ⟨a9, a10⟩, a11, a12, a13, a14, a15, ⟨a16, a17⟩, a18⟩, rfl⟩
theorem dec_edits {l : List D} (h : okShs [.sl editSh] l) : ∃ es : List Edit, l = [.sl (es.map Edit.row)] := by
 simp only [okShs, okSh] at h
 obtain ⟨_, _, rfl, ⟨xs, rfl, h⟩, rfl⟩ := h
 obtain ⟨es, rfl⟩ := dec_list (row := Edit.row) (fun l h => dec_edit h) h
 exact ⟨es, rfl⟩
theorem wrows {α : Type} {row : α → List D} (h : ∀ x, row x ≠ []) : ∀ l : List α, l.length ≤ wDss (l.map row)
 | [] => by simp
 | x :: l => by
  have := wrows h l
  have h1 : 1 ≤ wDs (row x) := by
   cases hx : row x with
   | nil => exact absurd hx (h x)
   | cons d r =>
    have : 1 ≤ wD d := by unfold wD; split <;> omega
    simp only [wDs]; omega
  simp only [List.map_cons, wDss, List.length_cons]; omega
section
variable {H : Type}
mutual
theorem bulk_D : ∀ d : DataW H, wDs (datD d) ≤ Rows.uptoBulk d
 | .lit l => by cases l <;> simp [datD, wDs, wD, Rows.uptoBulk, ByteArray.size]
 | .nil => by simp [datD, wDs, wD, wDss, Rows.uptoBulk]
 | .ptr d => by simp [datD, wDs]
 | .slice es sp => by
  have := bulk_Ds es
  simp only [datD, wDs, wD, Rows.uptoBulk]; omega
 | .agg ps => by
  have := bulk_F ps
  simp only [datD, Rows.uptoBulk]; omega
 | .iface t d => by simp [datD, wDs]
 | .map es => by simp [datD, wDs]
 | .held h => by simp [datD, wDs]
theorem bulk_Ds : ∀ l : List (DataW H), wDss (datDs l) ≤ Rows.uptoBulkAll l
 | [] => by simp [datDs, wDss]
 | d :: r => by
  have h1 := bulk_D d
  have h2 := bulk_Ds r
  simp only [datDs, wDss, Rows.uptoBulkAll]; omega
theorem bulk_F : ∀ l : List (DataW H), wDs (datF l) ≤ Rows.uptoBulkAll l
 | [] => by simp [datF, wDs]
 | d :: r => by
  have h1 := bulk_D d
  have h2 := bulk_F r
  simp only [datF, Rows.uptoBulkAll]; rw [wDs_app]; omega
end
/-- The bound, argument by argument. -/
theorem bulk_args {ds : List (DataW H)} (hk : Rows.uptoSmall H ds = true) : ∀ (i : Nat) u, (ds.map datD)[i]? = some u → wDs u ≤ 1048576 := by
 have h : Rows.uptoBulkAll ds ≤ 1048576 := of_decide_eq_true hk
 intro i u hu
 have key : ∀ (ds : List (DataW H)) (i : Nat) u, (ds.map datD)[i]? = some u → wDs u ≤ Rows.uptoBulkAll ds := by
  intro ds
  induction ds with
  | nil => intro i u hu; simp at hu
  | cons d r ih =>
   intro i u hu
   cases i with
   | zero => simp at hu; subst hu; have := bulk_D d; simp only [Rows.uptoBulkAll]; omega
   | succ i => simp at hu; have := ih i u (by simpa using hu); simp only [Rows.uptoBulkAll]; omega
 exact Nat.le_trans (key ds i u hu) h
end
theorem own : ownKnob Tryz.prog.godebug = none := by kernel_rfl
theorem laid : laidOutB Tryz.prog = true := by kernel_rfl
theorem wmem {α : Type} {row : α → List D} : ∀ {l : List α} {x : α}, x ∈ l → wDs (row x) ≤ wDss (l.map row)
 | [], x, h => by cases h
 | y :: l, x, h => by
  simp only [List.map_cons, wDss]
  rcases List.mem_cons.1 h with rfl | h
  ·omega
  ·have := wmem (row := row) h; omega
/-- internal/bytealg.MaxLen holds an int: of the world's shape. -/
theorem maxlen {W : World} (h : W.ShapedOpen Tryz.prog) : ∃ m, GRel (GM m) (stab (fun _ => none) [] W) W := by
 obtain ⟨m, hm⟩ := cell_of_shapedOpen_int (P := Tryz.prog) (g := 0) (t := 3) (zero := #[.int .i64 0]) h (of_decide_eq_true (by kernel_rfl)) (by kernel_rfl) rfl (by kernel_rfl) (by kernel_rfl) Tryz.underlying3
 refine ⟨m, fun g cs hg => ?_⟩
 unfold GM at hg
 split at hg
 ·rename_i h0
  subst h0
  injection hg with hg; subst hg
  have hlt : 0 < W.heap.size := World.block_lt_of_cell? _ _ hm
  refine ⟨⟨hlt, fun r o hr => by simp at hr⟩, hlt, fun j d hj => ?_⟩
  cases j with
  | zero => injection hj with hj; subst hj; exact ⟨_, hm, DRel.v _ rfl⟩
  | succ j => simp at hj
 ·cases hg
/-! ### the witness's world -/
def litV : DataW Unit → Value
 | .lit (.int k n) => .int k n
 | _ => undef
def aggV : DataW Unit → List Value
 | .agg xs => xs.flatMap fun d => match d with
  | .agg ys => ys.map litV
  | d => [litV d]
 | _ => []
def layO (cs : Array Value) : Obj → Obj
 | .cells _ t fz => .cells cs t fz
 | o => o
noncomputable def laidWorld (os : Os) : World :=
  { World.holding Tryz.prog os ⟨#[], #[], []⟩ with heap := ((World.holding Tryz.prog os ⟨#[], #[], []⟩).heap.modify 1 (layO (aggV Go.Pinned.utf8First).toArray)).modify 2 (layO (aggV (Rows.laid_unicode_utf8_acceptRanges (H := Unit))).toArray) }
theorem dec_ids {l : List D} (h : okShs [.sl idSh] l) : ∃ es : List Id, l = [.sl (es.map Id.row)] := by
 simp only [okShs, okSh] at h
 obtain ⟨_, _, rfl, ⟨xs, rfl, h⟩, rfl⟩ := h
 obtain ⟨es, rfl⟩ := dec_list (row := Id.row) (fun l h => dec_id h) h
 exact ⟨es, rfl⟩
theorem b_ids {l : List Id} (h : wDs [.sl (l.map Id.row)] ≤ 1048576) : l.length < 1152921504606846976 ∧ ∀ x ∈ l, x.a.size < 1152921504606846976 := by
 simp only [wDs, wD] at h
 have h1 := wrows (row := Id.row) (fun x => by simp [Id.row]) l
 refine ⟨by omega, fun e he => ?_⟩
 have h2 := wmem (row := Id.row) he
 have h6 : e.a.size ≤ wDs (Id.row e) := by simp only [Id.row, wDs, wD]; omega
 omega
theorem b_edits {l : List Edit} (h : wDs [.sl (l.map Edit.row)] ≤ 1048576) : l.length < 1152921504606846976 ∧ ∀ e ∈ l, Siz e := by
 simp only [wDs, wD] at h
 have h1 := wrows (row := Edit.row) (fun x => by simp [Edit.row]) l
 refine ⟨by omega, fun e he => ?_⟩
 have h2 := wmem (row := Edit.row) he
 have h4 := wrows (row := Id.row) (fun x => by simp [Id.row]) e.deps
 have h5 : wDs e.row ≤ 1048576 := by omega
 simp only [Edit.row, wDs, wD] at h5
 exact ⟨by omega, by omega, by omega, by omega, by omega, by omega, by omega, by omega, by omega, by omega⟩
theorem okA {v : List Id} {l : List Edit} (hv : v.length < 1152921504606846976 ∧ ∀ x ∈ v, x.a.size < 1152921504606846976) (hl : l.length < 1152921504606846976 ∧ ∀ e ∈ l, Siz e) : OkA v l := ⟨hv.1, hv.2, hl.1, hl.2⟩
end Go.Aw.Try

namespace Go.Aw.Try
open Go Go.Proofs Go.Aw
set_option maxRecDepth 100000
set_option maxHeartbeats 4000000
/-! ### logs received under the bounds -/
structure OkR (v : List Id) (l : List Edit) : Prop where
 asc : AscI v
 pos : PosI v
 vl : v.length ≤ 8
 ll : l.length ≤ 1000
 ee : ∀ e ∈ l, OkE e ∧ e.deps.length ≤ 12
theorem okE_small {e : Edit} (h : bigB e = false) : OkE e ∧ e.deps.length ≤ 12 := by
 unfold bigB at h
 simp only [Bool.or_eq_false_iff, decide_eq_false_iff_not, List.any_eq_false, decide_eq_true_eq] at h
 obtain ⟨h1, h2, h3, h4, h5⟩ := h
 exact ⟨⟨by omega, by omega, by omega, by omega, by omega, by omega, by omega, by omega, by omega, by omega, fun x hx => by have := h5 x hx; omega⟩, by omega⟩
theorem few_ok {v : List Id} {l : List Edit} (h : fewB v l = true) : OkR v l := by
 unfold fewB at h
 simp only [Bool.and_eq_true, decide_eq_true_eq, List.all_eq_true, Bool.not_eq_true'] at h
 obtain ⟨h1, h2, h3, h4⟩ := h
 obtain ⟨a, b⟩ := chk_asc h3
 exact ⟨a, b, h1, by omega, fun e he => okE_small (h4 e he)⟩
theorem foldS_len : ∀ (l : List Edit) (s : List Id), (foldS s l).length ≤ s.length + l.length
 | [], s => by simp [foldS]
 | e :: l, s => by
  have h1 := addI_len s e.id
  have h2 := foldS_len l (addI s e.id)
  show (foldS (addI s e.id) l).length ≤ _
  rw [List.length_cons]; omega
theorem okL {v : List Id} {l m : List Edit} {A : LogE} (h : OkR v l) (hr : Rec chkE v m A) (hm : ∀ e ∈ m, e ∈ l) : OkL A ∧ A.pen.length ≤ 1000 ∧ A.del.length ≤ 1000 ∧ ∀ p ∈ A.pen, p.deps.length ≤ 12 := by
 have hd : A.del.length ≤ l.length := by
  refine nodup_le ?_ fun e he => hm e (hr.dv e he).2
  exact (ord_ids A.del v h.asc h.pos hr.c.inv.ord fun e he => chkE_val (hr.dv e he).1).imp fun hne heq => hne (by rw [heq])
 have hp : A.pen.length ≤ l.length := by
  refine nodup_le ?_ fun e he => hm e (hr.pv e he).2
  exact hr.so.imp fun {a b} hlt heq => by
   subst heq
   have := cmpE_pre.rf a
   omega
 have hll := h.ll
 have hsl := foldS_len A.del v
 rw [← hr.c.inv.sn] at hsl
 have hvl := h.vl
 refine ⟨⟨by omega, by omega, by omega, hr.c.inv.asc, hr.so, fun e he => ?_, fun e he => ?_⟩, by omega, by omega, fun e he => ?_⟩
 ·have := (h.ee e (hm e (hr.dv e he).2)).2; omega
 ·have := (h.ee e (hm e (hr.pv e he).2)).2; omega
 ·exact (h.ee e (hm e (hr.pv e he).2)).2
noncomputable abbrev recV (v : List Id) (l : List Edit) : LogE := recA chkE ⟨[], [], v⟩ l
theorem recV_rec {v : List Id} {l : List Edit} (h0 : AscI v) (p0 : PosI v) (m : List Edit) : Rec chkE v m (recV v m) := by
 have := rec_all (chk := chkE) (fun e => chkE_val) m (rec_nil (chk := chkE) h0 p0)
 rwa [List.nil_append] at this
theorem recA_take {L : LogE} {l : List Edit} {i : Nat} (h : i < l.length) : recA chkE L (l.take (i + 1)) = (delE chkE (recA chkE L (l.take i)) (nth l i)).1 := by
 rw [take_nth h]
 unfold recA
 rw [List.foldl_append]; rfl
/-! the chapter's example -/
def annE : Edit := noteE sAnn 1 1
def bobE : Edit := { noteE sBob 1 2 with deps := [⟨sAnn, 1⟩] }
theorem chk_ann : chkE annE = 0 := by decide +kernel
theorem chk_bob : chkE bobE = 0 := by decide +kernel
theorem del1 : delE chkE ⟨[], [], []⟩ bobE = (⟨[], [bobE], []⟩, 19) := by
 unfold delE
 rw [if_neg (by rw [chk_bob]; simp), if_neg (by simp [forkB]), if_neg (by simp [hasId, conI, hasN, bobE, noteE]), if_pos (by decide +kernel)]
 rfl
theorem del2 : delE chkE ⟨[], [bobE], []⟩ annE = (⟨[annE, bobE], [], [⟨sAnn, 1⟩, ⟨sBob, 1⟩]⟩, 0) := by
 have hne : bobE.id ≠ annE.id := by decide +kernel
 have h1 : conI [] annE.id = false := by decide +kernel
 have h2 : hasId [bobE] annE.id = false := by simp [hasId, hne]
 unfold delE
 rw [if_neg (by rw [chk_ann]; simp), if_neg (by simp [forkB, List.find?, hne]), if_neg (by rw [h1, h2]; simp), if_neg (by decide +kernel)]
 have : runL 1 ⟨[], [bobE], []⟩ annE = ⟨[annE, bobE], [], [⟨sAnn, 1⟩, ⟨sBob, 1⟩]⟩ := by kernel_rfl
 show (runL 1 ⟨[], [bobE], []⟩ annE, (0 : Int)) = _
 rw [this]
theorem mis1 : missL ⟨[], [bobE], []⟩ = [⟨sAnn, 1⟩] := by kernel_rfl
theorem nth_0 {x : List D} {l : List (List D)} : nth (x :: l) 0 = x := rfl
theorem nth_1 {x y : List D} {l : List (List D)} : nth (x :: y :: l) 1 = y := rfl
theorem k1010 (m : Int) : ACalls Tryz.prog (GM m) 10 [] [] fun t H => t = .bool true ∧ H = [] := by
 have s1 : (x1011 m).sc = false := rfl
 have s2 : x1015.sc = false := rfl
 have okA : OkE annE := (okE_small (by decide +kernel)).1
 have okB : OkE bobE := (okE_small (by decide +kernel)).1
 have o1 : OkL ⟨[], [], []⟩ := ⟨by simp, by simp, by simp, List.Pairwise.nil, List.Pairwise.nil, fun e h => (nomatch h), fun e h => (nomatch h)⟩
 have o2 : OkL ⟨[], [bobE], []⟩ := ⟨by simp, by simp, by simp, List.Pairwise.nil, List.pairwise_singleton _ _, fun e h => (nomatch h), fun e h => by
  rcases List.mem_singleton.1 h with rfl; decide +kernel⟩
 have g1 := xg1011 m _ _ o1 okB
 rw [del1] at g1
 have g2 := xg1011 m _ _ o2 okA
 rw [del2] at g2
 have g3 := xg1015 ⟨[], [bobE], []⟩ List.Pairwise.nil (by simp) (by simp) (fun p hp => by rcases List.mem_singleton.1 hp with rfl; decide +kernel)
 rw [mis1] at g3
 have hb : bobE.row = [.v (.string ⟨#[98, 111, 98]⟩), .v (.int .i64 1), .v (.int .i64 2), .v (.int .i64 0), .sl [[.v (.string ⟨#[97, 110, 110]⟩), .v (.int .i64 1)]], .v (.int .i64 6), .v (.string ⟨#[]⟩), .v (.int .i64 0), .v (.string ⟨#[]⟩), .v (.int .i64 0), .v (.bool false), .v (.string ⟨#[]⟩), .v (.string ⟨#[]⟩), .v (.string ⟨#[]⟩), .v (.string ⟨#[]⟩), .v (.string ⟨#[]⟩), .v (.int .i64 0), .v (.string ⟨#[]⟩)] := rfl
 have ha : annE.row = [.v (.string ⟨#[97, 110, 110]⟩), .v (.int .i64 1), .v (.int .i64 1), .v (.int .i64 0), .sl [], .v (.int .i64 6), .v (.string ⟨#[]⟩), .v (.int .i64 0), .v (.string ⟨#[]⟩), .v (.int .i64 0), .v (.bool false), .v (.string ⟨#[]⟩), .v (.string ⟨#[]⟩), .v (.string ⟨#[]⟩), .v (.string ⟨#[]⟩), .v (.string ⟨#[]⟩), .v (.int .i64 0), .v (.string ⟨#[]⟩)] := rfl
 have i1 : (⟨sAnn, 1⟩ : Id).row = [.v (.string ⟨#[97, 110, 110]⟩), .v (.int .i64 1)] := rfl
 have i2 : (⟨sBob, 1⟩ : Id).row = [.v (.string ⟨#[98, 111, 98]⟩), .v (.int .i64 1)] := rfl
 simp only [logD, List.map_cons, List.map_nil, hb, ha, i1, i2] at g1 g2 g3
 refine acallsX (X := [(11, x1011 m), (15, x1015)]) ⟨kx1011 m, kx1015.gm, trivial⟩ tab hmix Tryz.func10 c1010 (by rfl) fun hw => ?_
 simp (implicitDefEqProofs := false) (disch := omega) [gz, ir1010, b1010, b1010_0, b1010_1, b1010_2, b1010_3, b1010_4, b1010_5, b1010_6, b1010_7, s1, g1, s2, g3, g2, fillC, splice, fillR, toPVs, frzVs, osVs, toPV, wrap64, cellsEq, skEq, nth_0, nth_1]
 repeat' (with_reducible apply And.intro)
 all_goals first | omega | kernel_rfl | skip
 exact fin_nil ⟨rfl, rfl⟩
noncomputable def x1010 : XE := mkX true (fun (_ : Unit) => []) (fun _ => True) (fun _ => .bool true)
theorem kx1010 (m : Int) : Contract Tryz.prog (GM m) 10 x1010 := mkX_scal (fun _ => rfl) fun _ _ => k1010 m
theorem xg1010 : x1010.g [] = some (True, .bool true) := mkX_g (fun a b h => rfl) () trivial
end Go.Aw.Try

namespace Go.Aw.Try
open Go Go.Proofs Go.Aw
set_option maxRecDepth 100000
set_option maxHeartbeats 4000000
/-! ### receiving only adds -/
theorem cov_self {v : List Id} (h : AscI v) (p : PosI v) : covB v v = true := by
 unfold covB
 rw [List.all_eq_true]
 intro x hx
 unfold conI
 rw [hasN_mem h hx]
 simp [p x hx]
theorem runL_cov {d : List Id} : ∀ (n : Nat) {L : LogE} {e : Edit}, AscI L.seen → PosI L.seen → 1 ≤ e.id.n → (∀ p ∈ L.pen, 1 ≤ p.id.n) → covB L.seen d = true → covB (runL n L e).seen d = true
 | 0, L, e, h1, h2, h3, h4, h5 => cov_mono h1 h2 h3 h5
 | n + 1, L, e, h1, h2, h3, h4, h5 => by
  unfold runL
  split
  ·exact cov_mono h1 h2 h3 h5
  ·rename_i i hi
   have hil : i < L.pen.length := (List.findIdx?_eq_some_iff_getElem.1 hi).1
   exact runL_cov n (addI_asc h1 _) (addI_pos h2 h3) (h4 _ (nth_mem hil)) (fun p hp => h4 p (List.mem_of_mem_eraseIdx hp)) (cov_mono h1 h2 h3 h5)
theorem delE_more {chk : Edit → Int} (hv : ∀ e, chk e = 0 → ValE e) {s0 : List Id} {L : LogE} (h : CInv s0 L) (e : Edit) :
  L.del.length ≤ (delE chk L e).1.del.length ∧ (delE chk L e).1.del.take L.del.length = L.del ∧ covB (delE chk L e).1.seen L.seen = true := by
 have hs := cov_self h.inv.asc h.inv.pos
 have same : L.del.length ≤ L.del.length ∧ L.del.take L.del.length = L.del ∧ covB L.seen L.seen = true := ⟨Nat.le_refl _, List.take_length, hs⟩
 unfold delE
 split
 ·exact same
 ·rename_i h1
  split
  ·exact same
  ·split
   ·exact same
   ·split
    ·exact same
    ·obtain ⟨X, hX, _⟩ := runL_del L.pen.length L e
     have hval := hv e (Classical.byContradiction h1)
     refine ⟨?_, ?_, runL_cov _ h.inv.asc h.inv.pos hval.one (fun p hp => (h.inv.pv p hp).one) hs⟩
     ·show L.del.length ≤ (runL L.pen.length L e).del.length
      rw [hX]; simp
     ·show (runL L.pen.length L e).del.take L.del.length = L.del
      rw [hX]; simp
theorem k1008 (m : Int) (v : List Id) (l : List Edit) (h : OkA v l) : ACalls Tryz.prog (GM m) 8 [.c (.d (.sl (v.map Id.row))), .c (.d (.sl (l.map Edit.row)))] [] fun t H => t = .bool true ∧ H = [] := by
 have s1 : x1009.sc = true := rfl
 have s2 : x1010.sc = true := rfl
 have s3 : (x1011 m).sc = false := rfl
 have s4 : x1022.sc = true := rfl
 have s5 : x1018.sc = true := rfl
 have g1 := xg1009 v l h
 have g2 := xg1010
 refine acallsX (X := [(9, x1009), (10, x1010), (11, x1011 m), (22, x1022), (18, x1018)]) ⟨kx1009.gm, kx1010 m, kx1011 m, kx1022.gm, kx1018.gm, trivial⟩ tab hmix Tryz.func8 c1008 (by rfl) fun hw => ?_
 cases hf : fewB v l
 ·rw [hf] at g1
  simp (implicitDefEqProofs := false) (disch := omega) [gz, ir1008, b1008, b1008_0, b1008_1, s1, g1, s2, g2]
  exact fin_nil ⟨rfl, rfl⟩
 ·rw [hf] at g1
  have hr := few_ok hf
  have hll := hr.ll
  simp (implicitDefEqProofs := false) (disch := omega) [gz, ir1008, b1008, b1008_0, b1008_1, b1008_2, b1008_3, s1, g1, fillC, splice]
  refine loopE (fun k st => ∃ i, i ≤ l.length ∧ k = l.length - i ∧
    st = ⟨ofL [(1, .v (.c (.d (.sl (l.map Edit.row))))), (5, .v (.c (.ptr 0 0))), (17, .int .i64 l.length), (18, .int .i64 i)], [.cells ((logD (recV v (l.take i))).map .d)]⟩)
   (fun st => True) ?_ ?_ ?_
  ·refine wk_tell_cell 0 0 (cs := [.d (.v (.slice none 0 0)), .d (.v (.slice none 0 0)), .d (.sl (v.map Id.row))]) (c := .d (.v (.slice none 0 0))) (d := .sl []) (by simp [frz1]) rfl (by simp) ?_
   refine wk_tell_cell 0 1 (cs := [.d (.sl []), .d (.v (.slice none 0 0)), .d (.sl (v.map Id.row))]) (c := .d (.v (.slice none 0 0))) (d := .sl []) (by simp [frz1]) rfl (by simp) ?_
   simp only [frz1]
   refine wk_nil [0] [1, 5, 17, 18] rfl ⟨_, 0, by omega, rfl, ?_⟩
   simp [phi, O.ren, C.ren, recA]
  ·rintro J M hJ hM k st ⟨i, hi, rfl, rfl⟩
   by_cases hlt : i < l.length
   ·have hrec := recV_rec (l := l) hr.asc hr.pos (l.take i)
    have hrec2 := recV_rec (l := l) hr.asc hr.pos (l.take (i + 1))
    obtain ⟨A, hA⟩ : ∃ A, A = recV v (l.take i) := ⟨_, rfl⟩
    obtain ⟨B, hB⟩ : ∃ B, B = recV v (l.take (i + 1)) := ⟨_, rfl⟩
    have hnext : B = (delE chkE A (nth l i)).1 := by rw [hA, hB]; exact recA_take hlt
    have hmore := delE_more (chk := chkE) (fun e => chkE_val) hrec.c (nth l i)
    rw [← hA] at hrec hmore
    rw [← hB] at hrec2
    have okA := (okL hr hrec fun e he => List.mem_of_mem_take he).1
    have okB := (okL hr hrec2 fun e he => List.mem_of_mem_take he).1
    have g3 := xg1011 m A (nth l i) okA (hr.ee _ (nth_mem hlt)).1
    rw [← hnext] at g3 hmore
    obtain ⟨m1, m2, m3⟩ := hmore
    have g4 := xg1022 (B.del.take A.del.length) A.del (by rw [m2]; have := okA.dl; omega) (fun e he => by rw [m2] at he; have := okA.dd e he; omega)
    rw [decide_eq_true m2, List.map_take] at g4
    have g5 := xg1018 B.seen A.seen okB.asc (by have := okB.sl; omega) (by have := okA.sl; omega)
    rw [m3] at g5
    have n1 : ¬ (B.del.length : Int) < (A.del.length : Int) := by omega
    rw [← hA]
    simp (implicitDefEqProofs := false) (disch := omega) [gz, hlt, wrap64, nth_map, (erow _).len, take_of_len, (erow _).mapO, (erow _).tk, (erow _).nrm, borRow, (erow _).cl, borV_map, osR_map, frz_map, nth_set_ne, (erow _).spl (erow _), s3, g3, s4, g4, s5, g5, n1, m1, fillC, splice, toPVs, frzVs, osVs, toPV]
    repeat' (with_reducible apply And.intro)
    all_goals first | omega | kernel_rfl | skip
    subst hJ
    refine wk_nil [0] [1, 5, 17, 18] rfl ⟨l.length - (i + 1), by omega, i + 1, by omega, rfl, ?_⟩
    simp [phi, O.ren, C.ren, ← hB]
   ·simp (implicitDefEqProofs := false) (disch := omega) [gz, hlt]
    subst hM
    trivial
  ·intro st _
   simp (implicitDefEqProofs := false) (disch := omega) [gz, b1008_4, b1008_5, s2, g2]
   exact fin_nil ⟨rfl, rfl⟩
end Go.Aw.Try
