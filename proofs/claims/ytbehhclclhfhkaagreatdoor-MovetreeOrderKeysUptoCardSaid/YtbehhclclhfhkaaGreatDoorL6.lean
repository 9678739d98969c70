/- A node that is added with an order key stands at the index for which OrderKey reckoned it, and OrderKey agrees with the reference. -/
import Derived.SevenTiedAt
import Derived.Test.YtbehhclclhfhkaaGreatDoorCF
set_option linter.unusedSimpArgs false
set_option linter.unusedVariables false

namespace Go.Proofs.YtbehhclclhfhkaaGreatDoor
open Go Go.Aw Go.Aw.Try
set_option maxRecDepth 100000
theorem L6_contract (H:Type) (enc:TypeId×Value→H) (W:World) (base:Nat) (args:Array Value) (ds gs:List (DataW H)) (before:List MemPlace)
    (hval:∀ (j:Nat) t v,Tryz.f6.params[j]? = some t→args[j]? = some v→Value.okWide Tryz.prog W .any base t v)
    (hW:DataW.Whole enc Tryz.prog Tryz.f6.params.toList Rows.movetreeOrderKeysSpec.vars false W args.toList ds gs before) (hk:Rows.uptoSmall H (ds ++ gs)=true) (hsh:W.ShapedOpen Tryz.prog) (hL:laidMetH Tryz.prog Rows.movetreeBatchesUptoRow.laid W) :
    Calls Tryz.prog 6 args W fun e W'=>∃ v,e = .returned v∧Rows.movetreeOrderKeysSpec.post enc Tryz.prog Tryz.f6 false true false false W args v W':=by
  have hG:=trash hL
  refine law_calls (G0:=GM 0) (P:=Tryz.prog) (n:=20) (ess:=[[.sl tnSh],idSh,[.i .i64]]) (aggs:=[false,true,false]) (tb:=4) Try.laid hG (by kernel_rfl) (by kernel_rfl) (by kernel_rfl) (by kernel_rfl) rfl ?_ (by kernel_rfl) hval hW ?_
  · intro ds hl
    match ds,hl with
    | [_,_,_],_=>rfl
  · intro hl hs hgs
    subst hgs
    rw [List.append_nil] at hk
    have hb:=bulk_args hk
    match hds:ds.map datD,hl with
    | [u0,u1,u2],_ =>
      rw [hds] at hs hb
      obtain ⟨a0,rfl⟩:=dec_tns (hs 0 _ _ rfl rfl)
      obtain ⟨a1,rfl⟩:=dec_idA (hs 1 _ _ rfl rfl)
      obtain ⟨a2,rfl,r2⟩:=dec_i64 (hs 2 _ _ rfl rfl)
      have z0:=b_tns (hb 0 _ rfl)
      exact (k2006 a0 a1 a2 z0.1 z0.2 r2).mono fun t H h=>h.1
theorem L6_laid (os:Os):laidMet Tryz.prog Rows.movetreeOrderKeysUptoRow.laid ((laidWorld os).forCall (fun _ _=>0) ⟨#[],#[.slice none 0 0,.agg #[.string .empty,.int .i64 0],.int .i64 0],[]⟩).memory :=
  laidMet_of_run' 40 (by kernel_rfl) (by kernel_rfl)
theorem L6_reads (os:Os) {H:Type} (enc:TypeId×Value→H):∃ places,DataW.whole enc Tryz.prog ((laidWorld os).forCall (fun _ _=>0) ⟨#[],#[.slice none 0 0,.agg #[.string .empty,.int .i64 0],.int .i64 0],[]⟩).memory Tryz.f6.params.toList Rows.movetreeOrderKeysSpec.vars false #[.slice none 0 0,.agg #[.string .empty,.int .i64 0],.int .i64 0].toList 8=some ([.nil,.agg [.lit (.string []),.lit (.int .i64 0)],.lit (.int .i64 0)],[],places) :=
  ⟨[],by kernel_rfl⟩
theorem L6_lifted (os:Os) (started:os.Started) (H:Type) (enc:TypeId×Value→H) (F:Stop.Interp) :
    ReturnsInHanded {} Tryz.checked os 6 .any ((Rows.OpenSpec.upto Rows.movetreeOrderKeysSpec).preRow enc Tryz.prog Tryz.f6 Rows.movetreeOrderKeysUptoRow.domain false Rows.movetreeOrderKeysUptoRow.laid) (((Rows.OpenSpec.upto Rows.movetreeOrderKeysSpec).at F).post enc Tryz.prog Tryz.f6 false true false false):=by
  obtain ⟨places,hx⟩:=L6_reads os enc
  refine returnsInHanded_of_row (C:=Tryz.checked) (s:=Rows.OpenSpec.upto Rows.movetreeOrderKeysSpec) own started (by kernel_rfl) Tryz.func6
    (witness_row_at (enc:=enc) (C:=Tryz.checked) false (laidWorld os) #[.slice none 0 0,.agg #[.string .empty,.int .i64 0],.int .i64 0] rfl (by kernel_rfl) (by kernel_rfl) (by kernel_rfl)
      (OpenSpec.preRow_of_cond 8 hx (by kernel_rfl) (fun k hk=>by cases hk; kernel_rfl) (by kernel_rfl) (L6_laid os))) ?_
  intro W base args ds gs before hval hW _ hcond _ hL hsh _
  exact L6_contract H enc W base args ds gs before hval hW (hcond _ rfl) hsh hL
theorem L6_said:Rows.MovetreeOrderKeysUptoSaid :=
  OpenClaim.holds_of_cond 6 Tryz.f6 rfl rfl rfl rfl rfl rfl rfl ⟨rfl,rfl,rfl,rfl,rfl⟩ rfl rfl rfl rfl rfl (by kernel_rfl) Tryz.func6 (by kernel_rfl)
    (of_decide_eq_true (by kernel_rfl)) (by unfold Func.isWrapper; first | (rw [if_pos (by decide +kernel)]; kernel_rfl) | (rw [if_neg (by decide +kernel)]; exact ⟨rfl,rfl⟩))
    (fun os started H enc _ F=>by rw [OpenClaim.pre_eq_preRow]; exact L6_lifted os started H enc F)
theorem L6_plain (f:FuncId) (fn:Func) (hf:Tryz.pinned.checked.prog.funcNamed "voussoir/voussoirlaw41.MovetreeOrderKeys" = some f) (hfn:Tryz.pinned.checked.prog.funcs[f]? = some fn) :
    false=Tryz.pinned.checked.prog.looks []∧∀ (j:Nat) t,fn.params[j]? = some t→Tryz.pinned.checked.prog.wantsStandIn t=false:=by
  obtain rfl:f=6:=Option.some.inj ((show Tryz.prog.funcNamed "voussoir/voussoirlaw41.MovetreeOrderKeys" = some 6 by kernel_rfl).symm.trans hf) |>.symm
  obtain rfl:fn=Tryz.f6:=(Option.some.inj (Tryz.func6.symm.trans hfn)).symm
  refine ⟨by kernel_rfl,fun j t ht=>?_⟩
  have hall:(Tryz.f6.params.toList.all fun u=>!Tryz.prog.wantsStandIn u)=true:=by kernel_rfl
  have hm:t∈Tryz.f6.params.toList:=by simpa using Array.mem_of_getElem? ht
  exact (show Tryz.prog.wantsStandIn t=false by simpa using List.all_eq_true.1 hall t hm)
theorem movetreeOrderKeys_holds:Rows.MovetreeOrderKeysUptoCardSaid :=
  Claim7.holds_tied_plain_at .later [] _ _ _ _ L6_said (fun _ h=>by cases h) (by kernel_rfl) (fun _ h=>by cases h) movetreeOrderKeysUpto_row_tie rfl ⟨rfl,rfl⟩ (by kernel_rfl) rfl L6_plain (by kernel_rfl)
end Go.Proofs.YtbehhclclhfhkaaGreatDoor
