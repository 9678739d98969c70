/- OplogSetSemantics returns true and leaves its arguments as they were, for all arguments that are together of bulk at most 1048576 (the row's own conditions, and no others). -/
import Derived.Test.YtlboedhconemnaaHM
set_option linter.unusedSimpArgs false
set_option linter.unusedVariables false

namespace Go.Proofs.Ytlboedhconemnaa
open Go Go.Aw Go.Aw.Try
set_option maxRecDepth 100000
theorem L12_contract (H : Type) (enc : TypeId × Value → H) (W : World) (base : Nat) (args : Array Value) (ds gs : List (DataW H)) (before : List MemPlace)
    (hval : ∀ (j : Nat) t v, Try.f12.params[j]? = some t → args[j]? = some v → Value.okWide Try.prog W .any base t v)
    (hW : DataW.Whole enc Try.prog Try.f12.params.toList Rows.oplogSetSemanticsSpec.vars false W args.toList ds gs before) (hk : Rows.uptoSmall H (ds ++ gs) = true) :
    Calls Try.prog 12 args W fun e W' => ∃ v, e = .returned v ∧ Rows.oplogSetSemanticsSpec.post enc Try.prog Try.f12 false true false false W args v W' := by
  refine law_calls (G0 := G0) (P := Try.prog) (n := 20) (ess := [[.sl editSh], [.sl cutSh], [.i .u8]]) (aggs := [false, false, false]) (tb := 4) (fun _ => rfl) laid (by kernel_rfl) (by kernel_rfl) (by kernel_rfl) (by kernel_rfl) rfl ?_ (by kernel_rfl) hval hW ?_
  · intro ds hl
    match ds, hl with
    | [_, _, _], _ => rfl
  · intro hl hs hgs
    subst hgs
    rw [List.append_nil] at hk
    have hb := bulk_args hk
    match hds : ds.map datD, hl with
    | [u0, u1, u2], _ =>
      rw [hds] at hs hb
      obtain ⟨a0, rfl⟩ := dec_edits (hs 0 _ _ rfl rfl)
      obtain ⟨a1, rfl⟩ := dec_cuts (hs 1 _ _ rfl rfl)
      obtain ⟨a2, rfl, r2⟩ := dec_u8 (hs 2 _ _ rfl rfl)
      have b0 := hb 0 _ rfl
      have w0 := wedits a0
      have b1 := hb 1 _ rfl
      have w1 := wrows (row := Cutoff.row) (fun x => by simp [Cutoff.row]) a1
      have b2 := hb 2 _ rfl
      have w2 := Nat.le_refl 0
      simp only [wDs, wD] at b0 b1 b2
      exact (k12 a0 a1 a2 (by omega) (by omega) (by omega) (by omega)).mono fun t H h => h.1
theorem L12_lifted (os : Os) (started : os.Started) (H : Type) (enc : TypeId × Value → H) (F : Stop.Interp) :
    ReturnsInHanded {} Try.checked os 12 .any ((Rows.OpenSpec.upto Rows.oplogSetSemanticsSpec).pre6 enc Try.prog Try.f12 Rows.oplogSetSemanticsUptoRow.domain false) (((Rows.OpenSpec.upto Rows.oplogSetSemanticsSpec).at F).post enc Try.prog Try.f12 false true false false) := by
  refine returnsInHanded_of_cond (C := Try.checked) (s := Rows.OpenSpec.upto Rows.oplogSetSemanticsSpec) (k := Rows.uptoSmall) rfl own started (by kernel_rfl) Try.func12
    (OpenSpec.witness (enc := enc) (C := Try.checked) (s := Rows.OpenSpec.upto Rows.oplogSetSemanticsSpec) (k := Rows.uptoSmall) rfl false ⟨#[], #[.slice none 0 0, .slice none 0 0, .int .u8 0], []⟩ 8 (by kernel_rfl) (by kernel_rfl) (by kernel_rfl)
      (x := ([.nil, .nil, .lit (.int .u8 0)], [], [])) (by kernel_rfl) rfl (by kernel_rfl)) ?_
  intro W base args ds gs before hval hW _ hk _
  exact L12_contract H enc W base args ds gs before hval hW hk
theorem oplogSetSemantics_holds : Rows.OplogSetSemanticsUptoSaid :=
  OpenClaim.holds_of_cond 12 Try.f12 rfl rfl rfl rfl rfl rfl rfl ⟨rfl, rfl, rfl, rfl, rfl⟩ rfl rfl rfl rfl rfl (by kernel_rfl) Try.func12 (by kernel_rfl)
    (of_decide_eq_true (by kernel_rfl)) (by unfold Func.isWrapper; first | (rw [if_pos (by decide +kernel)]; kernel_rfl) | (rw [if_neg (by decide +kernel)]; exact ⟨rfl, rfl⟩))
    (fun os started H enc _ F => L12_lifted os started H enc F)
end Go.Proofs.Ytlboedhconemnaa
