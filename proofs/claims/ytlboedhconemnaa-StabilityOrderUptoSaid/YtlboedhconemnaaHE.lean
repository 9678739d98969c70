/- An abstract machine over the model, and contracts of functions of this program on it (part 5): words and lemmas for the proof in the last text. -/
import Derived.Test.YtlboedhconemnaaRows
import Derived.Test.YtlboedhconemnaaHD
set_option linter.unusedVariables false
set_option linter.unusedSimpArgs false

/- A law's contract gives its row; the weight of what came in. -/
namespace Go.Aw
open Go
section
variable {P : Program} {w : World}
def aggT (P : Program) (t : TypeId) : Bool := match P.underlying t with
  | some (.struct _) => true
  | some (.array _ _) => true
  | _ => false
theorem okWide_one {r : Reach} {base : Nat} {t : TypeId} {v : Value} (ha : aggT P t = false) (h : Value.okWide P w r base t v) : v.cells = #[v] := by
  unfold aggT at ha
  unfold Value.okWide at h
  cases hu : P.underlying t with
  | none =>
    rw [hu] at h
    cases v <;> first | rfl | (simp [Cell.okWide, Cell.ok, hu] at h)
  | some td =>
    rw [hu] at h ha
    cases td <;> first | (cases ha; done) | (cases v <;> first | rfl | (simp [Cell.okWide, Cell.ok, hu] at h))
theorem okWide_agg {r : Reach} {base : Nat} {t : TypeId} {v : Value} (ha : aggT P t = true) (h : Value.okWide P w r base t v) : ∃ cs, v = .agg cs := by
  unfold aggT at ha
  unfold Value.okWide at h
  cases hu : P.underlying t with
  | none => rw [hu] at ha; cases ha
  | some td =>
    rw [hu] at h ha
    cases td <;> first | (cases ha; done) | (obtain ⟨cs, e, _⟩ := h; exact ⟨cs, e⟩)
theorem shT_one {n : Nat} {t : TypeId} {es : List Sh} (ha : aggT P t = false) (h : shT P n t = some es) : es.length = 1 := by
  cases n with
  | zero => simp [shT] at h
  | succ n =>
    unfold aggT at ha
    cases hu : P.underlying t with
    | none => simp [shT, hu] at h
    | some td =>
      rw [hu] at ha
      simp only [shT, hu] at h
      cases td <;> simp only at h <;> first | (cases h; done) | (cases ha; done) | (injection h with h; subst h; rfl) | skip
      split at h
      · split at h
        · injection h with h; subst h; rfl
        · cases h
      · cases h

variable {H : Type} {enc : TypeId × Value → H}
theorem law_calls {G0 : Gl} (hG0 : ∀ g, G0 g = none) (hl : laidOutB P = true) {f : Nat} {fn : Func} {s : ChangeSpec} {W : World} {base : Nat} {args : Array Value} {ds gs : List (DataW H)} {before : List MemPlace} {apart handsOn : Bool} {tb : TypeId}
    {n : Nat} {ess : List (List Sh)} {aggs : List Bool} (hts : fn.params.toList.map (shT P n) = ess.map some) (hag : fn.params.toList.map (aggT P) = aggs)
    (hres : fn.resultTypes = #[tb]) (hb : P.underlying tb = some .bool) (hvars : s.vars = []) (hspec : ∀ ds : List (DataW H), ds.length = fn.params.toList.length → s.fn H ds = { results := [.lit (.bool true)], args := ds })
    (hparams : fn.params.toList.all (fun t => P.readableRec t && decide (t < P.types.size)) = true)
    (hval : ∀ (j : Nat) t v, fn.params[j]? = some t → args[j]? = some v → Value.okWide P W .any base t v)
    (hW : DataW.Whole enc P fn.params.toList s.vars apart W args.toList ds gs before)
    (h : (ds.map datD).length = ess.length → (∀ (i : Nat) es u, ess[i]? = some es → (ds.map datD)[i]? = some u → okShs es u) → gs = [] → ACalls P G0 f (List.zipWith argV aggs (ds.map datD)) [] fun t _ => t = .bool true) :
    Calls P f args W fun e W' => ∃ v, e = .returned v ∧ s.post enc P fn apart true handsOn false W args v W' := by
  obtain ⟨p, q, hA, hV, hpq, hz, hn⟩ := id hW
  have hgs : gs = [] := by rw [hvars] at hV; cases gs <;> simp [DataW.TrodVars] at hV; rfl
  subst hgs
  obtain ⟨l1, l2, hr⟩ := vals_of_trod hA n ess hts
  have hel : ess.length = fn.params.toList.length := by have := congrArg List.length hts; simpa using this.symm
  have hal : aggs.length = fn.params.toList.length := by rw [← hag]; simp
  have hok := h (by simp [l2, hel]) (fun i es u he hu => by
    rw [List.getElem?_map] at hu
    cases hd : ds[i]? with
    | none => rw [hd] at hu; cases hu
    | some d =>
      rw [hd] at hu; simp at hu; subst hu
      have hi : i < args.toList.length := by rw [l1, ← l2]; exact (List.getElem?_eq_some_iff.1 hd).1
      exact (hr i es _ d he (List.getElem?_eq_getElem hi) hd).1) rfl
  refine post_of_acalls hG0 hl (ds := ds) (gs := []) hres hb hvars (by rw [List.append_nil]; exact hspec ds l2) (fun t ht => ?_) hW ?_ hok (fun t H h => h)
  · have := List.all_eq_true.1 hparams t ht
    simp at this; exact this
  · refine ⟨by simp [hal, l2]; simpa using l1, fun i c v hc hv => ?_⟩
    rw [List.getElem?_zipWith] at hc
    have hv' : args.toList[i]? = some v := by simpa using hv
    have hi : i < fn.params.toList.length := by rw [← l1]; exact (List.getElem?_eq_some_iff.1 hv').1
    have hp : fn.params.toList[i]? = some fn.params.toList[i] := List.getElem?_eq_getElem hi
    obtain ⟨t, ht⟩ : ∃ t, fn.params.toList[i]? = some t := ⟨_, hp⟩
    have hga : aggs[i]? = some (aggT P t) := by rw [← hag, List.getElem?_map, ht]; rfl
    have hsh : ∃ es, ess[i]? = some es ∧ shT P n t = some es := by
      have h1 : (fn.params.toList.map (shT P n))[i]? = some (shT P n t) := by rw [List.getElem?_map, ht]; rfl
      rw [hts, List.getElem?_map] at h1
      cases he : ess[i]? with
      | none => rw [he] at h1; cases h1
      | some es => rw [he] at h1; simp at h1; exact ⟨es, rfl, h1.symm⟩
    obtain ⟨es, he, hse⟩ := hsh
    have hdi : i < ds.length := by rw [l2]; exact hi
    have hd : ds[i]? = some ds[i] := List.getElem?_eq_getElem hdi
    have hdm : (ds.map datD)[i]? = some (datD ds[i]) := by rw [List.getElem?_map, hd]; rfl
    rw [hga, hdm] at hc
    simp at hc
    subst hc
    have hrd := hr i es v ds[i] he hv' hd
    have hok' := hval i t v (by simpa using ht) hv
    exact argV_rel (k := ctx (fun _ => none) [] W) (stab_nil0 W) hrd (fun ha => okWide_agg ha hok') (fun ha => ⟨okWide_one ha hok', shT_one ha hse⟩)

/-! ### weights -/
mutual
def wD : D → Nat
  | .v (.string s) => s.size + 1
  | .sl xs => wDss xs + 1
  | _ => 1
def wDs : List D → Nat
  | [] => 0
  | d :: r => wD d + wDs r
def wDss : List (List D) → Nat
  | [] => 0
  | x :: r => wDs x + wDss r
end
theorem wDs_app : ∀ (a b : List D), wDs (a ++ b) = wDs a + wDs b
  | [], b => by simp [wDs]
  | d :: a, b => by simp only [List.cons_append, wDs, wDs_app a b]; omega
end
end Go.Aw

namespace Go.Aw.Try
open Go Go.Proofs Go.Proofs.Ytlboedhconemnaa Go.Aw
set_option maxRecDepth 100000
/-! ### what came in, as data of this program -/
abbrev idSh : List Sh := [.s, .i .i64]
abbrev editSh : List Sh := [.s, .i .i64, .i .i64, .i .i64, .sl idSh, .i .i64, .s, .i .i64, .s, .i .i64, .b, .s, .s, .s, .s, .s, .i .i64, .s]
abbrev cutSh : List Sh := [.s, .i .i64, .i .i64]
theorem dec_id {l : List D} (h : okShs idSh l) : ∃ x : Id, l = x.row := by
  simp only [idSh, okShs, okSh] at h
  obtain ⟨_, _, rfl, ⟨a, rfl⟩, _, _, rfl, ⟨n, rfl, _⟩, rfl⟩ := h
  exact ⟨⟨a, n⟩, rfl⟩
theorem dec_cut {l : List D} (h : okShs cutSh l) : ∃ x : Cutoff, l = x.row := by
  simp only [cutSh, okShs, okSh] at h
  obtain ⟨_, _, rfl, ⟨a, rfl⟩, _, _, rfl, ⟨n, rfl, _⟩, _, _, rfl, ⟨m, rfl, _⟩, rfl⟩ := h
  exact ⟨⟨a, n, m⟩, rfl⟩
theorem dec_list {α : Type} {row : α → List D} {sh : List Sh} (hd : ∀ l, okShs sh l → ∃ x, l = row x) : ∀ {xs : List (List D)}, (∀ x ∈ xs, okShs sh x) → ∃ l : List α, xs = l.map row
  | [], _ => ⟨[], rfl⟩
  | x :: xs, h => by
    obtain ⟨a, rfl⟩ := hd x (h x List.mem_cons_self)
    obtain ⟨l, rfl⟩ := dec_list hd (fun y hy => h y (List.mem_cons_of_mem _ hy))
    exact ⟨a :: l, rfl⟩
theorem dec_edit {l : List D} (h : okShs editSh l) : ∃ e : Edit, l = e.row := by
  simp only [editSh, okShs, okSh] at h
  obtain ⟨_, _, rfl, ⟨a1, rfl⟩, _, _, rfl, ⟨a2, rfl, _⟩, _, _, rfl, ⟨a3, rfl, _⟩, _, _, rfl, ⟨a4, rfl, _⟩, _, _, rfl, ⟨a5, rfl, h5⟩, _, _, rfl, ⟨a6, rfl, _⟩, _, _, rfl, ⟨a7, rfl⟩, _, _, rfl, ⟨a8, rfl, _⟩, _, _, rfl, ⟨a9, rfl⟩, _, _, rfl, ⟨a10, rfl, _⟩,
    _, _, rfl, ⟨a11, rfl⟩, _, _, rfl, ⟨a12, rfl⟩, _, _, rfl, ⟨a13, rfl⟩, _, _, rfl, ⟨a14, rfl⟩, _, _, rfl, ⟨a15, rfl⟩, _, _, rfl, ⟨a16, rfl⟩, _, _, rfl, ⟨a17, rfl, _⟩, _, _, rfl, ⟨a18, rfl⟩, rfl⟩ := h
  obtain ⟨ds, rfl⟩ := dec_list (row := Id.row) (fun l h => dec_id h) h5
  exact ⟨⟨⟨a1, a2⟩, a3, a4, ds, a6, ⟨a7, a8⟩, ⟨a9, a10⟩, a11, a12, a13, a14, a15, ⟨a16, a17⟩, a18⟩, rfl⟩
theorem dec_edits {l : List D} (h : okShs [.sl editSh] l) : ∃ es : List Edit, l = [.sl (es.map Edit.row)] := by
  simp only [okShs, okSh] at h
  obtain ⟨_, _, rfl, ⟨xs, rfl, h⟩, rfl⟩ := h
  obtain ⟨es, rfl⟩ := dec_list (row := Edit.row) (fun l h => dec_edit h) h
  exact ⟨es, rfl⟩
theorem dec_cuts {l : List D} (h : okShs [.sl cutSh] l) : ∃ es : List Cutoff, l = [.sl (es.map Cutoff.row)] := by
  simp only [okShs, okSh] at h
  obtain ⟨_, _, rfl, ⟨xs, rfl, h⟩, rfl⟩ := h
  obtain ⟨es, rfl⟩ := dec_list (row := Cutoff.row) (fun l h => dec_cut h) h
  exact ⟨es, rfl⟩
theorem wdeps : ∀ l : List Id, dsz l + 2 * l.length ≤ wDss (l.map Id.row)
  | [] => by simp [dsz, wDss]
  | x :: l => by
    have := wdeps l
    simp only [List.map_cons, wDss, Id.row, wDs, wD, dsz, List.sum_cons, List.length_cons] at *; omega
theorem wedit (e : Edit) : gsz e ≤ 5 * wDs e.row := by
  have := wdeps e.deps
  simp only [Edit.row, wDs, wD, gsz]; omega
theorem wedits : ∀ l : List Edit, gtot l ≤ 5 * wDss (l.map Edit.row)
  | [] => by simp [gtot, wDss]
  | e :: l => by
    have h1 := wedits l
    have h2 := wedit e
    simp only [List.map_cons, wDss, gtot, List.sum_cons] at *; omega
theorem wrows {α : Type} {row : α → List D} (h : ∀ x, row x ≠ []) : ∀ l : List α, l.length ≤ wDss (l.map row)
  | [] => by simp
  | x :: l => by
    have := wrows h l
    have h1 : 1 ≤ wDs (row x) := by
      cases hx : row x with
      | nil => exact absurd hx (h x)
      | cons d r =>
        have : 1 ≤ wD d := by unfold wD; split <;> omega
        simp only [wDs]; omega
    simp only [List.map_cons, wDss, List.length_cons]; omega
section
variable {H : Type}
mutual
theorem bulk_D : ∀ d : DataW H, wDs (datD d) ≤ Rows.uptoBulk d
  | .lit l => by cases l <;> simp [datD, wDs, wD, Rows.uptoBulk, ByteArray.size]
  | .nil => by simp [datD, wDs, wD, wDss, Rows.uptoBulk]
  | .ptr d => by simp [datD, wDs]
  | .slice es sp => by
    have := bulk_Ds es
    simp only [datD, wDs, wD, Rows.uptoBulk]; omega
  | .agg ps => by
    have := bulk_F ps
    simp only [datD, Rows.uptoBulk]; omega
  | .iface t d => by simp [datD, wDs]
  | .map es => by simp [datD, wDs]
  | .held h => by simp [datD, wDs]
theorem bulk_Ds : ∀ l : List (DataW H), wDss (datDs l) ≤ Rows.uptoBulkAll l
  | [] => by simp [datDs, wDss]
  | d :: r => by
    have h1 := bulk_D d
    have h2 := bulk_Ds r
    simp only [datDs, wDss, Rows.uptoBulkAll]; omega
theorem bulk_F : ∀ l : List (DataW H), wDs (datF l) ≤ Rows.uptoBulkAll l
  | [] => by simp [datF, wDs]
  | d :: r => by
    have h1 := bulk_D d
    have h2 := bulk_F r
    simp only [datF, Rows.uptoBulkAll]; rw [wDs_app]; omega
end
/-- The bound, argument by argument. -/
theorem bulk_args {ds : List (DataW H)} (hk : Rows.uptoSmall H ds = true) : ∀ (i : Nat) u, (ds.map datD)[i]? = some u → wDs u ≤ 1048576 := by
  have h : Rows.uptoBulkAll ds ≤ 1048576 := of_decide_eq_true hk
  intro i u hu
  have key : ∀ (ds : List (DataW H)) (i : Nat) u, (ds.map datD)[i]? = some u → wDs u ≤ Rows.uptoBulkAll ds := by
    intro ds
    induction ds with
    | nil => intro i u hu; simp at hu
    | cons d r ih =>
      intro i u hu
      cases i with
      | zero => simp at hu; subst hu; have := bulk_D d; simp only [Rows.uptoBulkAll]; omega
      | succ i => simp at hu; have := ih i u (by simpa using hu); simp only [Rows.uptoBulkAll]; omega
  exact Nat.le_trans (key ds i u hu) h
end
theorem own : ownKnob Try.prog.godebug = none := by kernel_rfl
theorem laid : laidOutB Try.prog = true := by kernel_rfl
end Go.Aw.Try
