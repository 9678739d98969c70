/-
  NARROWER THAN 'FOR EVERY INPUT', by the rows' own cells (each row's printed sentence says how): CausalDelivery: laid · CausalOrder: laid · CausalConfluence: laid · CausalCompleteness: laid · CausalDuplicates: laid · CausalMonotonicity: laid.
  DERIVED. THE GIVEN ROWS OF THIS SEAT. 6 by the template 'for every input the law returns true; each argument reads behind the call as it read before'; 0 by the template 'total and deterministic' (their statements: YtocddjiebigmgaaGreatDoorTotals.lean).
  GIVEN WITH THE SEED: the statements are not yours to turn. If you find one false, say at which input.
  Laid BY PROGRAM, IN A SANDBOX (cutbox-rows.mjs): the forced cells as the released guide's own fill.sh prints them over the translation 52d74aff8ab87170… (all of the seat's roots in one cut). By AI agents, Wed Nov 11 2026. No macro, syntax, notation, axiom, sorry.
-/
import Derived.Test.YtocddjiebigmgaaGreatDoorChecked
import GoSem.PinnedTables
import GoSem.Claim
import GoSem.ClaimJoined
import GoSem.ClaimMapViews
import Derived.JoinedTies
import Derived.KernelRfl
namespace Go.Proofs.YtocddjiebigmgaaGreatDoor
/- THE CELL 'sum', in the pinned program and in every row, IS THE sha256 OF THE DUMP (.gsa) THAT YtocddjiebigmgaaGreatDoorProg.lean LOADS. Nothing in Lean hashes anything: it is a label: what it is worth is what the hold of that sum in a sandbox is worth. -/
noncomputable def Tryz.pinned : Pinned := { name := "ytocddjiebigmgaagreatdoor", sum := "52d74aff8ab87170ffdab5dbf63210d3c5099ede4d0d99537a7aa32bcb8ae9cc", checked := Tryz.checked }
namespace Rows
def none {H : Type} : Left H := { results := [], args := [] }

/- WHAT THE LISTED PACKAGE-LEVEL VARIABLES READ AS WHEN THE CALL BEGINS. Each datum BY PROGRAM (the guide's laid-datum.mjs) off the statement by which the dump's own 'gosem.cut.vars' lays the variable. In a bare row this is a premise. The card (YtocddjiebigmgaaGreatDoorCards.lean) ties it to the program's text. -/
def laid_unicode_utf8_acceptRanges {H : Type} : DataW H := .agg [.agg [.lit (.int .u8 128), .lit (.int .u8 191)], .agg [.lit (.int .u8 160), .lit (.int .u8 191)], .agg [.lit (.int .u8 128), .lit (.int .u8 159)], .agg [.lit (.int .u8 144), .lit (.int .u8 191)], .agg [.lit (.int .u8 128), .lit (.int .u8 143)], .agg [.lit (.int .u8 0), .lit (.int .u8 0)], .agg [.lit (.int .u8 0), .lit (.int .u8 0)], .agg [.lit (.int .u8 0), .lit (.int .u8 0)], .agg [.lit (.int .u8 0), .lit (.int .u8 0)], .agg [.lit (.int .u8 0), .lit (.int .u8 0)], .agg [.lit (.int .u8 0), .lit (.int .u8 0)], .agg [.lit (.int .u8 0), .lit (.int .u8 0)], .agg [.lit (.int .u8 0), .lit (.int .u8 0)], .agg [.lit (.int .u8 0), .lit (.int .u8 0)], .agg [.lit (.int .u8 0), .lit (.int .u8 0)], .agg [.lit (.int .u8 0), .lit (.int .u8 0)]]
/-- One of Go's own tables, pinned by name: the form's constant. -/
def laid_unicode_utf8_first : DataW Unit := Go.Pinned.utf8First

/-- 'voussoirlaw44.CausalDelivery': WHATEVER THE INPUT: true; the input reads as it did. -/
def causalDeliverySpec : ChangeSpec := { name := "causalDelivery", fn := fun _ => fun
  | [d1, d2] => { results := [.lit (.bool true)], args := [d1, d2] }
  | _ => none }
def causalDeliveryRow : OpenClaim := { program := "ytocddjiebigmgaagreatdoor", sum := "52d74aff8ab87170ffdab5dbf63210d3c5099ede4d0d99537a7aa32bcb8ae9cc", func := "voussoir/voussoirlaw44.CausalDelivery", spec := "causalDelivery", inPlace := ["internal/bytealg.IndexByteString", "internal/bytealg.IndexString", "internal/bytealg.CountString", "internal/bytealg.abigen_runtime_cmpstring", "slices.overlaps[voussoir/api.Id]"], unfollowed := true, recurses := true, named := ["unicode/utf8.first", "unicode/utf8.acceptRanges", "math/bits.overflowError", "internal/bytealg.MaxLen"], apart := false, laid := [("unicode/utf8.acceptRanges", laid_unicode_utf8_acceptRanges), ("unicode/utf8.first", laid_unicode_utf8_first)] }
def CausalDeliverySaid : Prop := causalDeliveryRow.holds Tryz.pinned (OpenSpec.ofChange causalDeliverySpec)

/-- ITS FALSE NEIGHBOUR: 'it returns false'. Refute it at one input. -/
def causalDeliveryWrong : ChangeSpec := { name := "causalDelivery", fn := fun _ => fun
  | [d1, d2] => { results := [.lit (.bool false)], args := [d1, d2] }
  | _ => none }
def CausalDeliveryWrongFalsely : Prop := causalDeliveryRow.holds Tryz.pinned (OpenSpec.ofChange causalDeliveryWrong)

/-- 'voussoirlaw44.CausalOrder': WHATEVER THE INPUT: true; the input reads as it did. -/
def causalOrderSpec : ChangeSpec := { name := "causalOrder", fn := fun _ => fun
  | [d1, d2] => { results := [.lit (.bool true)], args := [d1, d2] }
  | _ => none }
def causalOrderRow : OpenClaim := { program := "ytocddjiebigmgaagreatdoor", sum := "52d74aff8ab87170ffdab5dbf63210d3c5099ede4d0d99537a7aa32bcb8ae9cc", func := "voussoir/voussoirlaw44.CausalOrder", spec := "causalOrder", inPlace := ["internal/bytealg.IndexByteString", "internal/bytealg.IndexString", "internal/bytealg.CountString", "internal/bytealg.abigen_runtime_cmpstring", "slices.overlaps[voussoir/api.Id]"], unfollowed := true, recurses := true, named := ["unicode/utf8.first", "unicode/utf8.acceptRanges", "math/bits.overflowError", "internal/bytealg.MaxLen"], apart := false, laid := [("unicode/utf8.acceptRanges", laid_unicode_utf8_acceptRanges), ("unicode/utf8.first", laid_unicode_utf8_first)] }
def CausalOrderSaid : Prop := causalOrderRow.holds Tryz.pinned (OpenSpec.ofChange causalOrderSpec)

/-- ITS FALSE NEIGHBOUR: 'it returns false'. Refute it at one input. -/
def causalOrderWrong : ChangeSpec := { name := "causalOrder", fn := fun _ => fun
  | [d1, d2] => { results := [.lit (.bool false)], args := [d1, d2] }
  | _ => none }
def CausalOrderWrongFalsely : Prop := causalOrderRow.holds Tryz.pinned (OpenSpec.ofChange causalOrderWrong)

/-- 'voussoirlaw44.CausalConfluence': WHATEVER THE INPUT: true; the input reads as it did. -/
def causalConfluenceSpec : ChangeSpec := { name := "causalConfluence", fn := fun _ => fun
  | [d1, d2, d3] => { results := [.lit (.bool true)], args := [d1, d2, d3] }
  | _ => none }
def causalConfluenceRow : OpenClaim := { program := "ytocddjiebigmgaagreatdoor", sum := "52d74aff8ab87170ffdab5dbf63210d3c5099ede4d0d99537a7aa32bcb8ae9cc", func := "voussoir/voussoirlaw44.CausalConfluence", spec := "causalConfluence", inPlace := ["internal/bytealg.IndexByteString", "internal/bytealg.IndexString", "internal/bytealg.CountString", "internal/bytealg.abigen_runtime_cmpstring", "slices.overlaps[voussoir/api.Id]"], unfollowed := true, recurses := true, named := ["unicode/utf8.first", "unicode/utf8.acceptRanges", "math/bits.overflowError", "internal/bytealg.MaxLen"], apart := false, laid := [("unicode/utf8.acceptRanges", laid_unicode_utf8_acceptRanges), ("unicode/utf8.first", laid_unicode_utf8_first)] }
def CausalConfluenceSaid : Prop := causalConfluenceRow.holds Tryz.pinned (OpenSpec.ofChange causalConfluenceSpec)

/-- ITS FALSE NEIGHBOUR: 'it returns false'. Refute it at one input. -/
def causalConfluenceWrong : ChangeSpec := { name := "causalConfluence", fn := fun _ => fun
  | [d1, d2, d3] => { results := [.lit (.bool false)], args := [d1, d2, d3] }
  | _ => none }
def CausalConfluenceWrongFalsely : Prop := causalConfluenceRow.holds Tryz.pinned (OpenSpec.ofChange causalConfluenceWrong)

/-- 'voussoirlaw44.CausalCompleteness': WHATEVER THE INPUT: true; the input reads as it did. -/
def causalCompletenessSpec : ChangeSpec := { name := "causalCompleteness", fn := fun _ => fun
  | [d1, d2, d3] => { results := [.lit (.bool true)], args := [d1, d2, d3] }
  | _ => none }
def causalCompletenessRow : OpenClaim := { program := "ytocddjiebigmgaagreatdoor", sum := "52d74aff8ab87170ffdab5dbf63210d3c5099ede4d0d99537a7aa32bcb8ae9cc", func := "voussoir/voussoirlaw44.CausalCompleteness", spec := "causalCompleteness", inPlace := ["internal/bytealg.IndexByteString", "internal/bytealg.IndexString", "internal/bytealg.CountString", "internal/bytealg.abigen_runtime_cmpstring", "slices.overlaps[voussoir/api.Id]"], unfollowed := true, recurses := true, named := ["unicode/utf8.first", "unicode/utf8.acceptRanges", "math/bits.overflowError", "internal/bytealg.MaxLen"], apart := false, laid := [("unicode/utf8.acceptRanges", laid_unicode_utf8_acceptRanges), ("unicode/utf8.first", laid_unicode_utf8_first)] }
def CausalCompletenessSaid : Prop := causalCompletenessRow.holds Tryz.pinned (OpenSpec.ofChange causalCompletenessSpec)

/-- ITS FALSE NEIGHBOUR: 'it returns false'. Refute it at one input. -/
def causalCompletenessWrong : ChangeSpec := { name := "causalCompleteness", fn := fun _ => fun
  | [d1, d2, d3] => { results := [.lit (.bool false)], args := [d1, d2, d3] }
  | _ => none }
def CausalCompletenessWrongFalsely : Prop := causalCompletenessRow.holds Tryz.pinned (OpenSpec.ofChange causalCompletenessWrong)

/-- 'voussoirlaw44.CausalDuplicates': WHATEVER THE INPUT: true; the input reads as it did. -/
def causalDuplicatesSpec : ChangeSpec := { name := "causalDuplicates", fn := fun _ => fun
  | [d1, d2, d3] => { results := [.lit (.bool true)], args := [d1, d2, d3] }
  | _ => none }
def causalDuplicatesRow : OpenClaim := { program := "ytocddjiebigmgaagreatdoor", sum := "52d74aff8ab87170ffdab5dbf63210d3c5099ede4d0d99537a7aa32bcb8ae9cc", func := "voussoir/voussoirlaw44.CausalDuplicates", spec := "causalDuplicates", inPlace := ["internal/bytealg.IndexByteString", "internal/bytealg.IndexString", "internal/bytealg.CountString", "internal/bytealg.abigen_runtime_cmpstring", "slices.overlaps[voussoir/api.Id]"], unfollowed := true, recurses := true, named := ["unicode/utf8.first", "unicode/utf8.acceptRanges", "math/bits.overflowError", "internal/bytealg.MaxLen"], apart := false, laid := [("unicode/utf8.acceptRanges", laid_unicode_utf8_acceptRanges), ("unicode/utf8.first", laid_unicode_utf8_first)] }
def CausalDuplicatesSaid : Prop := causalDuplicatesRow.holds Tryz.pinned (OpenSpec.ofChange causalDuplicatesSpec)

/-- ITS FALSE NEIGHBOUR: 'it returns false'. Refute it at one input. -/
def causalDuplicatesWrong : ChangeSpec := { name := "causalDuplicates", fn := fun _ => fun
  | [d1, d2, d3] => { results := [.lit (.bool false)], args := [d1, d2, d3] }
  | _ => none }
def CausalDuplicatesWrongFalsely : Prop := causalDuplicatesRow.holds Tryz.pinned (OpenSpec.ofChange causalDuplicatesWrong)

/-- 'voussoirlaw44.CausalMonotonicity': WHATEVER THE INPUT: true; the input reads as it did. -/
def causalMonotonicitySpec : ChangeSpec := { name := "causalMonotonicity", fn := fun _ => fun
  | [d1, d2] => { results := [.lit (.bool true)], args := [d1, d2] }
  | _ => none }
def causalMonotonicityRow : OpenClaim := { program := "ytocddjiebigmgaagreatdoor", sum := "52d74aff8ab87170ffdab5dbf63210d3c5099ede4d0d99537a7aa32bcb8ae9cc", func := "voussoir/voussoirlaw44.CausalMonotonicity", spec := "causalMonotonicity", inPlace := ["internal/bytealg.IndexByteString", "internal/bytealg.IndexString", "internal/bytealg.CountString", "internal/bytealg.abigen_runtime_cmpstring", "slices.overlaps[voussoir/api.Id]"], unfollowed := true, recurses := true, named := ["unicode/utf8.first", "unicode/utf8.acceptRanges", "math/bits.overflowError", "internal/bytealg.MaxLen"], apart := false, laid := [("unicode/utf8.acceptRanges", laid_unicode_utf8_acceptRanges), ("unicode/utf8.first", laid_unicode_utf8_first)] }
def CausalMonotonicitySaid : Prop := causalMonotonicityRow.holds Tryz.pinned (OpenSpec.ofChange causalMonotonicitySpec)

/-- ITS FALSE NEIGHBOUR: 'it returns false'. Refute it at one input. -/
def causalMonotonicityWrong : ChangeSpec := { name := "causalMonotonicity", fn := fun _ => fun
  | [d1, d2] => { results := [.lit (.bool false)], args := [d1, d2] }
  | _ => none }
def CausalMonotonicityWrongFalsely : Prop := causalMonotonicityRow.holds Tryz.pinned (OpenSpec.ofChange causalMonotonicityWrong)

/- THE SECOND FORM. 'bulk': how many values and letters a reading holds, each counted each time it is reached (what is shared counts as often as it is met; a slice's spare places count too). A statement '..UptoSaid' is the law's where the arguments, and the package variables that the reading takes, are together of bulk at most 1048576: NARROWER than '..Said'. Prove '..Said' where nothing that the law and all that it calls make is longer than what came in: it says more and counts as full. Else prove '..UptoSaid'. A law counts once. -/
mutual
def uptoBulk {H : Type} : DataW H → Nat
  | .lit (.string bytes) => bytes.length + 1
  | .lit _ => 1
  | .nil => 1
  | .ptr d => uptoBulk d + 1
  | .slice elems spare => uptoBulkAll elems + uptoBulkAll spare + 1
  | .agg parts => uptoBulkAll parts + 1
  | .iface _ d => uptoBulk d + 1
  | .map entries => uptoBulkEntries entries + 1
  | .held _ => 1
def uptoBulkAll {H : Type} : List (DataW H) → Nat
  | [] => 0
  | d :: r => uptoBulk d + uptoBulkAll r
def uptoBulkEntries {H : Type} : List (Lit × DataW H) → Nat
  | [] => 0
  | x :: r => uptoBulkEntry x + uptoBulkEntries r
def uptoBulkEntry {H : Type} : Lit × DataW H → Nat
  | (.string bytes, d) => bytes.length + uptoBulk d + 1
  | (_, d) => uptoBulk d + 1
 end
def uptoSmall : (H : Type) → List (DataW H) → Bool := fun _ ds => decide (uptoBulkAll ds ≤ 1048576)
def OpenSpec.upto (s : _root_.Go.ChangeSpec) : _root_.Go.OpenSpec := { _root_.Go.OpenSpec.ofChange s with cond := some uptoSmall }

/-- 'voussoirlaw44.CausalDelivery', WHERE WHAT IT READS IS OF BULK AT MOST 1048576: true; the input reads as it did. -/
def causalDeliveryUptoRow : OpenClaim := { program := "ytocddjiebigmgaagreatdoor", sum := "52d74aff8ab87170ffdab5dbf63210d3c5099ede4d0d99537a7aa32bcb8ae9cc", func := "voussoir/voussoirlaw44.CausalDelivery", spec := "causalDelivery", inPlace := ["internal/bytealg.IndexByteString", "internal/bytealg.IndexString", "internal/bytealg.CountString", "internal/bytealg.abigen_runtime_cmpstring", "slices.overlaps[voussoir/api.Id]"], unfollowed := true, recurses := true, named := ["unicode/utf8.first", "unicode/utf8.acceptRanges", "math/bits.overflowError", "internal/bytealg.MaxLen"], apart := false, laid := [("unicode/utf8.acceptRanges", laid_unicode_utf8_acceptRanges), ("unicode/utf8.first", laid_unicode_utf8_first)], narrowed := true }
def CausalDeliveryUptoSaid : Prop := causalDeliveryUptoRow.holds Tryz.pinned (OpenSpec.upto causalDeliverySpec)

/-- 'voussoirlaw44.CausalOrder', WHERE WHAT IT READS IS OF BULK AT MOST 1048576: true; the input reads as it did. -/
def causalOrderUptoRow : OpenClaim := { program := "ytocddjiebigmgaagreatdoor", sum := "52d74aff8ab87170ffdab5dbf63210d3c5099ede4d0d99537a7aa32bcb8ae9cc", func := "voussoir/voussoirlaw44.CausalOrder", spec := "causalOrder", inPlace := ["internal/bytealg.IndexByteString", "internal/bytealg.IndexString", "internal/bytealg.CountString", "internal/bytealg.abigen_runtime_cmpstring", "slices.overlaps[voussoir/api.Id]"], unfollowed := true, recurses := true, named := ["unicode/utf8.first", "unicode/utf8.acceptRanges", "math/bits.overflowError", "internal/bytealg.MaxLen"], apart := false, laid := [("unicode/utf8.acceptRanges", laid_unicode_utf8_acceptRanges), ("unicode/utf8.first", laid_unicode_utf8_first)], narrowed := true }
def CausalOrderUptoSaid : Prop := causalOrderUptoRow.holds Tryz.pinned (OpenSpec.upto causalOrderSpec)

/-- 'voussoirlaw44.CausalConfluence', WHERE WHAT IT READS IS OF BULK AT MOST 1048576: true; the input reads as it did. -/
def causalConfluenceUptoRow : OpenClaim := { program := "ytocddjiebigmgaagreatdoor", sum := "52d74aff8ab87170ffdab5dbf63210d3c5099ede4d0d99537a7aa32bcb8ae9cc", func := "voussoir/voussoirlaw44.CausalConfluence", spec := "causalConfluence", inPlace := ["internal/bytealg.IndexByteString", "internal/bytealg.IndexString", "internal/bytealg.CountString", "internal/bytealg.abigen_runtime_cmpstring", "slices.overlaps[voussoir/api.Id]"], unfollowed := true, recurses := true, named := ["unicode/utf8.first", "unicode/utf8.acceptRanges", "math/bits.overflowError", "internal/bytealg.MaxLen"], apart := false, laid := [("unicode/utf8.acceptRanges", laid_unicode_utf8_acceptRanges), ("unicode/utf8.first", laid_unicode_utf8_first)], narrowed := true }
def CausalConfluenceUptoSaid : Prop := causalConfluenceUptoRow.holds Tryz.pinned (OpenSpec.upto causalConfluenceSpec)

/-- 'voussoirlaw44.CausalCompleteness', WHERE WHAT IT READS IS OF BULK AT MOST 1048576: true; the input reads as it did. -/
def causalCompletenessUptoRow : OpenClaim := { program := "ytocddjiebigmgaagreatdoor", sum := "52d74aff8ab87170ffdab5dbf63210d3c5099ede4d0d99537a7aa32bcb8ae9cc", func := "voussoir/voussoirlaw44.CausalCompleteness", spec := "causalCompleteness", inPlace := ["internal/bytealg.IndexByteString", "internal/bytealg.IndexString", "internal/bytealg.CountString", "internal/bytealg.abigen_runtime_cmpstring", "slices.overlaps[voussoir/api.Id]"], unfollowed := true, recurses := true, named := ["unicode/utf8.first", "unicode/utf8.acceptRanges", "math/bits.overflowError", "internal/bytealg.MaxLen"], apart := false, laid := [("unicode/utf8.acceptRanges", laid_unicode_utf8_acceptRanges), ("unicode/utf8.first", laid_unicode_utf8_first)], narrowed := true }
def CausalCompletenessUptoSaid : Prop := causalCompletenessUptoRow.holds Tryz.pinned (OpenSpec.upto causalCompletenessSpec)

/-- 'voussoirlaw44.CausalDuplicates', WHERE WHAT IT READS IS OF BULK AT MOST 1048576: true; the input reads as it did. -/
def causalDuplicatesUptoRow : OpenClaim := { program := "ytocddjiebigmgaagreatdoor", sum := "52d74aff8ab87170ffdab5dbf63210d3c5099ede4d0d99537a7aa32bcb8ae9cc", func := "voussoir/voussoirlaw44.CausalDuplicates", spec := "causalDuplicates", inPlace := ["internal/bytealg.IndexByteString", "internal/bytealg.IndexString", "internal/bytealg.CountString", "internal/bytealg.abigen_runtime_cmpstring", "slices.overlaps[voussoir/api.Id]"], unfollowed := true, recurses := true, named := ["unicode/utf8.first", "unicode/utf8.acceptRanges", "math/bits.overflowError", "internal/bytealg.MaxLen"], apart := false, laid := [("unicode/utf8.acceptRanges", laid_unicode_utf8_acceptRanges), ("unicode/utf8.first", laid_unicode_utf8_first)], narrowed := true }
def CausalDuplicatesUptoSaid : Prop := causalDuplicatesUptoRow.holds Tryz.pinned (OpenSpec.upto causalDuplicatesSpec)

/-- 'voussoirlaw44.CausalMonotonicity', WHERE WHAT IT READS IS OF BULK AT MOST 1048576: true; the input reads as it did. -/
def causalMonotonicityUptoRow : OpenClaim := { program := "ytocddjiebigmgaagreatdoor", sum := "52d74aff8ab87170ffdab5dbf63210d3c5099ede4d0d99537a7aa32bcb8ae9cc", func := "voussoir/voussoirlaw44.CausalMonotonicity", spec := "causalMonotonicity", inPlace := ["internal/bytealg.IndexByteString", "internal/bytealg.IndexString", "internal/bytealg.CountString", "internal/bytealg.abigen_runtime_cmpstring", "slices.overlaps[voussoir/api.Id]"], unfollowed := true, recurses := true, named := ["unicode/utf8.first", "unicode/utf8.acceptRanges", "math/bits.overflowError", "internal/bytealg.MaxLen"], apart := false, laid := [("unicode/utf8.acceptRanges", laid_unicode_utf8_acceptRanges), ("unicode/utf8.first", laid_unicode_utf8_first)], narrowed := true }
def CausalMonotonicityUptoSaid : Prop := causalMonotonicityUptoRow.holds Tryz.pinned (OpenSpec.upto causalMonotonicitySpec)

end Rows
end Go.Proofs.YtocddjiebigmgaaGreatDoor
