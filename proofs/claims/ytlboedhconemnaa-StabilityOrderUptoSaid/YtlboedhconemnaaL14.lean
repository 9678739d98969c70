/- StabilityOrder returns true and leaves its arguments as they were, for all arguments that are together of bulk at most 1048576 (the row's own conditions, and no others). -/
import Derived.Test.YtlboedhconemnaaHN
set_option linter.unusedSimpArgs false
set_option linter.unusedVariables false

namespace Go.Proofs.Ytlboedhconemnaa
open Go Go.Aw Go.Aw.Try
set_option maxRecDepth 100000
theorem L14_contract (H : Type) (enc : TypeId × Value → H) (W : World) (base : Nat) (args : Array Value) (ds gs : List (DataW H)) (before : List MemPlace)
    (hval : ∀ (j : Nat) t v, Try.f14.params[j]? = some t → args[j]? = some v → Value.okWide Try.prog W .any base t v)
    (hW : DataW.Whole enc Try.prog Try.f14.params.toList Rows.stabilityOrderSpec.vars false W args.toList ds gs before) (hk : Rows.uptoSmall H (ds ++ gs) = true) :
    Calls Try.prog 14 args W fun e W' => ∃ v, e = .returned v ∧ Rows.stabilityOrderSpec.post enc Try.prog Try.f14 false true false false W args v W' := by
  refine law_calls (G0 := G0) (P := Try.prog) (n := 20) (ess := [[.sl editSh], [.sl memSh], [.sl cutSh]]) (aggs := [false, false, false]) (tb := 4) (fun _ => rfl) laid (by kernel_rfl) (by kernel_rfl) (by kernel_rfl) (by kernel_rfl) rfl ?_ (by kernel_rfl) hval hW ?_
  · intro ds hl
    match ds, hl with
    | [_, _, _], _ => rfl
  · intro hl hs hgs
    subst hgs
    rw [List.append_nil] at hk
    have hb := bulk_args hk
    match hds : ds.map datD, hl with
    | [u0, u1, u2], _ =>
      rw [hds] at hs hb
      obtain ⟨a0, rfl⟩ := dec_edits (hs 0 _ _ rfl rfl)
      obtain ⟨a1, rfl⟩ := dec_members (hs 1 _ _ rfl rfl)
      obtain ⟨a2, rfl⟩ := dec_cuts (hs 2 _ _ rfl rfl)
      have b0 := hb 0 _ rfl
      have w0 := wedits a0
      have b1 := hb 1 _ rfl
      have w1 := wrows (row := Member.row) (fun x => by simp [Member.row]) a1
      have b2 := hb 2 _ rfl
      have w2 := wrows (row := Cutoff.row) (fun x => by simp [Cutoff.row]) a2
      simp only [wDs, wD] at b0 b1 b2
      exact (k14 a0 a1 a2 (by omega) (by omega) (by omega)).mono fun t H h => h.1
theorem L14_lifted (os : Os) (started : os.Started) (H : Type) (enc : TypeId × Value → H) (F : Stop.Interp) :
    ReturnsInHanded {} Try.checked os 14 .any ((Rows.OpenSpec.upto Rows.stabilityOrderSpec).pre6 enc Try.prog Try.f14 Rows.stabilityOrderUptoRow.domain false) (((Rows.OpenSpec.upto Rows.stabilityOrderSpec).at F).post enc Try.prog Try.f14 false true false false) := by
  refine returnsInHanded_of_cond (C := Try.checked) (s := Rows.OpenSpec.upto Rows.stabilityOrderSpec) (k := Rows.uptoSmall) rfl own started (by kernel_rfl) Try.func14
    (OpenSpec.witness (enc := enc) (C := Try.checked) (s := Rows.OpenSpec.upto Rows.stabilityOrderSpec) (k := Rows.uptoSmall) rfl false ⟨#[], #[.slice none 0 0, .slice none 0 0, .slice none 0 0], []⟩ 8 (by kernel_rfl) (by kernel_rfl) (by kernel_rfl)
      (x := ([.nil, .nil, .nil], [], [])) (by kernel_rfl) rfl (by kernel_rfl)) ?_
  intro W base args ds gs before hval hW _ hk _
  exact L14_contract H enc W base args ds gs before hval hW hk
theorem stabilityOrder_holds : Rows.StabilityOrderUptoSaid :=
  OpenClaim.holds_of_cond 14 Try.f14 rfl rfl rfl rfl rfl rfl rfl ⟨rfl, rfl, rfl, rfl, rfl⟩ rfl rfl rfl rfl rfl (by kernel_rfl) Try.func14 (by kernel_rfl)
    (of_decide_eq_true (by kernel_rfl)) (by unfold Func.isWrapper; first | (rw [if_pos (by decide +kernel)]; kernel_rfl) | (rw [if_neg (by decide +kernel)]; exact ⟨rfl, rfl⟩))
    (fun os started H enc _ F => L14_lifted os started H enc F)
end Go.Proofs.Ytlboedhconemnaa
