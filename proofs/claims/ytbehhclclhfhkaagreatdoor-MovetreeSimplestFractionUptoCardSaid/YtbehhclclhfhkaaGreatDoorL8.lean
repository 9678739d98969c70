/- No fraction between two places has a smaller denominator than the one that OrderKey returns. -/
import Derived.SevenTiedAt
import Derived.Test.YtbehhclclhfhkaaGreatDoorBE
set_option linter.unusedSimpArgs false
set_option linter.unusedVariables false

namespace Go.Proofs.YtbehhclclhfhkaaGreatDoor
open Go Go.Aw Go.Aw.Try
set_option maxRecDepth 100000
theorem L8_contract (H:Type) (enc:TypeId×Value→H) (W:World) (base:Nat) (args:Array Value) (ds gs:List (DataW H)) (before:List MemPlace)
    (hval:∀ (j:Nat) t v,Tryz.f8.params[j]? = some t→args[j]? = some v→Value.okWide Tryz.prog W .any base t v)
    (hW:DataW.Whole enc Tryz.prog Tryz.f8.params.toList Rows.movetreeSimplestFractionSpec.vars false W args.toList ds gs before) (hk:Rows.uptoSmall H (ds ++ gs)=true) (hsh:W.ShapedOpen Tryz.prog) (hL:laidMetH Tryz.prog Rows.movetreeBatchesUptoRow.laid W) :
    Calls Tryz.prog 8 args W fun e W'=>∃ v,e = .returned v∧Rows.movetreeSimplestFractionSpec.post enc Tryz.prog Tryz.f8 false true false false W args v W':=by
  have hG:=trash hL
  refine law_calls (G0:=GM 0) (P:=Tryz.prog) (n:=20) (ess:=[[.i .i8],[.i .i8],[.i .u8],[.i .u8]]) (aggs:=[false,false,false,false]) (tb:=4) Try.laid hG (by kernel_rfl) (by kernel_rfl) (by kernel_rfl) (by kernel_rfl) rfl ?_ (by kernel_rfl) hval hW ?_
  · intro ds hl
    match ds,hl with
    | [_,_,_,_],_=>rfl
  · intro hl hs hgs
    subst hgs
    rw [List.append_nil] at hk
    have hb:=bulk_args hk
    match hds:ds.map datD,hl with
    | [u0,u1,u2,u3],_ =>
      rw [hds] at hs hb
      obtain ⟨a0,rfl,r0⟩:=dec_i8 (hs 0 _ _ rfl rfl)
      obtain ⟨a1,rfl,r1⟩:=dec_i8 (hs 1 _ _ rfl rfl)
      obtain ⟨a2,rfl,r2⟩:=dec_u8 (hs 2 _ _ rfl rfl)
      obtain ⟨a3,rfl,r3⟩:=dec_u8 (hs 3 _ _ rfl rfl)
      exact (k2008 a0 a1 a2 a3 r0 r1 (by omega) (by omega)).mono fun t H h=>h.1
theorem L8_laid (os:Os):laidMet Tryz.prog Rows.movetreeSimplestFractionUptoRow.laid ((laidWorld os).forCall (fun _ _=>0) ⟨#[],#[.int .i8 0,.int .i8 0,.int .u8 0,.int .u8 0],[]⟩).memory :=
  laidMet_of_run' 40 (by kernel_rfl) (by kernel_rfl)
theorem L8_reads (os:Os) {H:Type} (enc:TypeId×Value→H):∃ places,DataW.whole enc Tryz.prog ((laidWorld os).forCall (fun _ _=>0) ⟨#[],#[.int .i8 0,.int .i8 0,.int .u8 0,.int .u8 0],[]⟩).memory Tryz.f8.params.toList Rows.movetreeSimplestFractionSpec.vars false #[.int .i8 0,.int .i8 0,.int .u8 0,.int .u8 0].toList 8=some ([.lit (.int .i8 0),.lit (.int .i8 0),.lit (.int .u8 0),.lit (.int .u8 0)],[],places) :=
  ⟨[],by kernel_rfl⟩
theorem L8_lifted (os:Os) (started:os.Started) (H:Type) (enc:TypeId×Value→H) (F:Stop.Interp) :
    ReturnsInHanded {} Tryz.checked os 8 .any ((Rows.OpenSpec.upto Rows.movetreeSimplestFractionSpec).preRow enc Tryz.prog Tryz.f8 Rows.movetreeSimplestFractionUptoRow.domain false Rows.movetreeSimplestFractionUptoRow.laid) (((Rows.OpenSpec.upto Rows.movetreeSimplestFractionSpec).at F).post enc Tryz.prog Tryz.f8 false true false false):=by
  obtain ⟨places,hx⟩:=L8_reads os enc
  refine returnsInHanded_of_row (C:=Tryz.checked) (s:=Rows.OpenSpec.upto Rows.movetreeSimplestFractionSpec) own started (by kernel_rfl) Tryz.func8
    (witness_row_at (enc:=enc) (C:=Tryz.checked) false (laidWorld os) #[.int .i8 0,.int .i8 0,.int .u8 0,.int .u8 0] rfl (by kernel_rfl) (by kernel_rfl) (by kernel_rfl)
      (OpenSpec.preRow_of_cond 8 hx (by kernel_rfl) (fun k hk=>by cases hk; kernel_rfl) (by kernel_rfl) (L8_laid os))) ?_
  intro W base args ds gs before hval hW _ hcond _ hL hsh _
  exact L8_contract H enc W base args ds gs before hval hW (hcond _ rfl) hsh hL
theorem L8_said:Rows.MovetreeSimplestFractionUptoSaid :=
  OpenClaim.holds_of_cond 8 Tryz.f8 rfl rfl rfl rfl rfl rfl rfl ⟨rfl,rfl,rfl,rfl,rfl⟩ rfl rfl rfl rfl rfl (by kernel_rfl) Tryz.func8 (by kernel_rfl)
    (of_decide_eq_true (by kernel_rfl)) (by unfold Func.isWrapper; first | (rw [if_pos (by decide +kernel)]; kernel_rfl) | (rw [if_neg (by decide +kernel)]; exact ⟨rfl,rfl⟩))
    (fun os started H enc _ F=>by rw [OpenClaim.pre_eq_preRow]; exact L8_lifted os started H enc F)
theorem L8_plain (f:FuncId) (fn:Func) (hf:Tryz.pinned.checked.prog.funcNamed "voussoir/voussoirlaw41.MovetreeSimplestFraction" = some f) (hfn:Tryz.pinned.checked.prog.funcs[f]? = some fn) :
    false=Tryz.pinned.checked.prog.looks []∧∀ (j:Nat) t,fn.params[j]? = some t→Tryz.pinned.checked.prog.wantsStandIn t=false:=by
  obtain rfl:f=8:=Option.some.inj ((show Tryz.prog.funcNamed "voussoir/voussoirlaw41.MovetreeSimplestFraction" = some 8 by kernel_rfl).symm.trans hf) |>.symm
  obtain rfl:fn=Tryz.f8:=(Option.some.inj (Tryz.func8.symm.trans hfn)).symm
  refine ⟨by kernel_rfl,fun j t ht=>?_⟩
  have hall:(Tryz.f8.params.toList.all fun u=>!Tryz.prog.wantsStandIn u)=true:=by kernel_rfl
  have hm:t∈Tryz.f8.params.toList:=by simpa using Array.mem_of_getElem? ht
  exact (show Tryz.prog.wantsStandIn t=false by simpa using List.all_eq_true.1 hall t hm)
theorem movetreeSimplestFraction_holds:Rows.MovetreeSimplestFractionUptoCardSaid :=
  Claim7.holds_tied_plain_at .later [] _ _ _ _ L8_said (fun _ h=>by cases h) (by kernel_rfl) (fun _ h=>by cases h) movetreeSimplestFractionUpto_row_tie rfl ⟨rfl,rfl⟩ (by kernel_rfl) rfl L8_plain (by kernel_rfl)
end Go.Proofs.YtbehhclclhfhkaaGreatDoor
