/- StabilityLimits returns true and leaves its arguments as they were, for all arguments that are together of bulk at most 1048576 (the row's own conditions, and no others). -/
import Derived.Test.YtlboedhconemnaaHK
set_option linter.unusedSimpArgs false
set_option linter.unusedVariables false

namespace Go.Proofs.Ytlboedhconemnaa
open Go Go.Aw Go.Aw.Try
set_option maxRecDepth 100000
theorem L11_contract (H : Type) (enc : TypeId × Value → H) (W : World) (base : Nat) (args : Array Value) (ds gs : List (DataW H)) (before : List MemPlace)
    (hval : ∀ (j : Nat) t v, Try.f11.params[j]? = some t → args[j]? = some v → Value.okWide Try.prog W .any base t v)
    (hW : DataW.Whole enc Try.prog Try.f11.params.toList Rows.stabilityLimitsSpec.vars false W args.toList ds gs before) (hk : Rows.uptoSmall H (ds ++ gs) = true) :
    Calls Try.prog 11 args W fun e W' => ∃ v, e = .returned v ∧ Rows.stabilityLimitsSpec.post enc Try.prog Try.f11 false true false false W args v W' := by
  refine law_calls (G0 := G0) (P := Try.prog) (n := 20) (ess := [[.sl editSh], [.sl memSh], cutSh]) (aggs := [false, false, true]) (tb := 4) (fun _ => rfl) laid (by kernel_rfl) (by kernel_rfl) (by kernel_rfl) (by kernel_rfl) rfl ?_ (by kernel_rfl) hval hW ?_
  · intro ds hl
    match ds, hl with
    | [_, _, _], _ => rfl
  · intro hl hs hgs
    subst hgs
    rw [List.append_nil] at hk
    have hb := bulk_args hk
    match hds : ds.map datD, hl with
    | [u0, u1, u2], _ =>
      rw [hds] at hs hb
      obtain ⟨a0, rfl⟩ := dec_edits (hs 0 _ _ rfl rfl)
      obtain ⟨a1, rfl⟩ := dec_members (hs 1 _ _ rfl rfl)
      obtain ⟨a2, rfl⟩ := dec_cut1 (hs 2 _ _ rfl rfl)
      have b0 := hb 0 _ rfl
      have w0 := wedits a0
      have b1 := hb 1 _ rfl
      have w1 := wrows (row := Member.row) (fun x => by simp [Member.row]) a1
      have b2 := hb 2 _ rfl
      have w2 := Nat.le_refl 0
      simp only [wDs, wD] at b0 b1 b2
      exact (k11 a0 a1 a2 (by omega) (by omega)).mono fun t H h => h.1
theorem L11_lifted (os : Os) (started : os.Started) (H : Type) (enc : TypeId × Value → H) (F : Stop.Interp) :
    ReturnsInHanded {} Try.checked os 11 .any ((Rows.OpenSpec.upto Rows.stabilityLimitsSpec).pre6 enc Try.prog Try.f11 Rows.stabilityLimitsUptoRow.domain false) (((Rows.OpenSpec.upto Rows.stabilityLimitsSpec).at F).post enc Try.prog Try.f11 false true false false) := by
  refine returnsInHanded_of_cond (C := Try.checked) (s := Rows.OpenSpec.upto Rows.stabilityLimitsSpec) (k := Rows.uptoSmall) rfl own started (by kernel_rfl) Try.func11
    (OpenSpec.witness (enc := enc) (C := Try.checked) (s := Rows.OpenSpec.upto Rows.stabilityLimitsSpec) (k := Rows.uptoSmall) rfl false ⟨#[], #[.slice none 0 0, .slice none 0 0, .agg #[.string .empty, .int .i64 0, .int .i64 0]], []⟩ 8 (by kernel_rfl) (by kernel_rfl) (by kernel_rfl)
      (x := ([.nil, .nil, .agg [.lit (.string []), .lit (.int .i64 0), .lit (.int .i64 0)]], [], [])) (by kernel_rfl) rfl (by kernel_rfl)) ?_
  intro W base args ds gs before hval hW _ hk _
  exact L11_contract H enc W base args ds gs before hval hW hk
theorem stabilityLimits_holds : Rows.StabilityLimitsUptoSaid :=
  OpenClaim.holds_of_cond 11 Try.f11 rfl rfl rfl rfl rfl rfl rfl ⟨rfl, rfl, rfl, rfl, rfl⟩ rfl rfl rfl rfl rfl (by kernel_rfl) Try.func11 (by kernel_rfl)
    (of_decide_eq_true (by kernel_rfl)) (by unfold Func.isWrapper; first | (rw [if_pos (by decide +kernel)]; kernel_rfl) | (rw [if_neg (by decide +kernel)]; exact ⟨rfl, rfl⟩))
    (fun os started H enc _ F => L11_lifted os started H enc F)
end Go.Proofs.Ytlboedhconemnaa
