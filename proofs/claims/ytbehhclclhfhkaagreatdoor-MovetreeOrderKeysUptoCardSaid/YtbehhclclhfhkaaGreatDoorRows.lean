/-
  NARROWER THAN 'FOR EVERY INPUT', by the rows' own cells (each row's printed sentence says how): MovetreeApplication: laid · MovetreeValidity: laid · MovetreeBatches: laid · MovetreeOrderKeys: laid · MovetreeDeletion: laid · MovetreeSimplestFraction: laid.
  DERIVED. THE GIVEN ROWS OF THIS SEAT. 6 by the template 'for every input the law returns true; each argument reads behind the call as it read before'; 0 by the template 'total and deterministic' (their statements: YtbehhclclhfhkaaGreatDoorTotals.lean).
  GIVEN WITH THE SEED: the statements are not yours to turn. If you find one false, say at which input.
  Laid BY PROGRAM, IN A SANDBOX (cutbox-rows.mjs): the forced cells as the released guide's own fill.sh prints them over the translation 19d63b8e9d339be2… (all of the seat's roots in one cut). By AI agents, Wed Nov 11 2026. No macro, syntax, notation, axiom, sorry.
-/
import Derived.Test.YtbehhclclhfhkaaGreatDoorChecked
import GoSem.PinnedTables
import GoSem.Claim
import GoSem.ClaimJoined
import GoSem.ClaimMapViews
import Derived.JoinedTies
import Derived.KernelRfl
namespace Go.Proofs.YtbehhclclhfhkaaGreatDoor
/- THE CELL 'sum', in the pinned program and in every row, IS THE sha256 OF THE DUMP (.gsa) THAT YtbehhclclhfhkaaGreatDoorProg.lean LOADS. Nothing in Lean hashes anything: it is a label: what it is worth is what the hold of that sum in a sandbox is worth. -/
noncomputable def Tryz.pinned : Pinned := { name := "ytbehhclclhfhkaagreatdoor", sum := "19d63b8e9d339be2944900b0fa7abfba67ef2316e7f0aed36b56dec443923803", checked := Tryz.checked }
namespace Rows
def none {H : Type} : Left H := { results := [], args := [] }

/- WHAT THE LISTED PACKAGE-LEVEL VARIABLES READ AS WHEN THE CALL BEGINS. Each datum BY PROGRAM (the guide's laid-datum.mjs) off the statement by which the dump's own 'gosem.cut.vars' lays the variable. In a bare row this is a premise. The card (YtbehhclclhfhkaaGreatDoorCards.lean) ties it to the program's text. -/
def laid_unicode_utf8_acceptRanges {H : Type} : DataW H := .agg [.agg [.lit (.int .u8 128), .lit (.int .u8 191)], .agg [.lit (.int .u8 160), .lit (.int .u8 191)], .agg [.lit (.int .u8 128), .lit (.int .u8 159)], .agg [.lit (.int .u8 144), .lit (.int .u8 191)], .agg [.lit (.int .u8 128), .lit (.int .u8 143)], .agg [.lit (.int .u8 0), .lit (.int .u8 0)], .agg [.lit (.int .u8 0), .lit (.int .u8 0)], .agg [.lit (.int .u8 0), .lit (.int .u8 0)], .agg [.lit (.int .u8 0), .lit (.int .u8 0)], .agg [.lit (.int .u8 0), .lit (.int .u8 0)], .agg [.lit (.int .u8 0), .lit (.int .u8 0)], .agg [.lit (.int .u8 0), .lit (.int .u8 0)], .agg [.lit (.int .u8 0), .lit (.int .u8 0)], .agg [.lit (.int .u8 0), .lit (.int .u8 0)], .agg [.lit (.int .u8 0), .lit (.int .u8 0)], .agg [.lit (.int .u8 0), .lit (.int .u8 0)]]
def laid_voussoir_movetree_trash {H : Type} : DataW H := .agg [.lit (.string [45]), .lit (.int .i64 0)]
/-- One of Go's own tables, pinned by name: the form's constant. -/
def laid_unicode_utf8_first : DataW Unit := Go.Pinned.utf8First

/-- 'voussoirlaw41.MovetreeApplication': WHATEVER THE INPUT: true; the input reads as it did. -/
def movetreeApplicationSpec : ChangeSpec := { name := "movetreeApplication", fn := fun _ => fun
  | [d1, d2, d3] => { results := [.lit (.bool true)], args := [d1, d2, d3] }
  | _ => none }
def movetreeApplicationRow : OpenClaim := { program := "ytbehhclclhfhkaagreatdoor", sum := "19d63b8e9d339be2944900b0fa7abfba67ef2316e7f0aed36b56dec443923803", func := "voussoir/voussoirlaw41.MovetreeApplication", spec := "movetreeApplication", inPlace := ["internal/bytealg.IndexByteString", "internal/bytealg.IndexString"], unfollowed := true, recurses := true, named := ["unicode/utf8.first", "unicode/utf8.acceptRanges", "math/bits.overflowError", "voussoir/movetree.trash", "internal/bytealg.MaxLen"], plainKeys := false, apart := false, laid := [("unicode/utf8.acceptRanges", laid_unicode_utf8_acceptRanges), ("voussoir/movetree.trash", laid_voussoir_movetree_trash), ("unicode/utf8.first", laid_unicode_utf8_first)] }
def MovetreeApplicationSaid : Prop := movetreeApplicationRow.holds Tryz.pinned (OpenSpec.ofChange movetreeApplicationSpec)

/-- ITS FALSE NEIGHBOUR: 'it returns false'. Refute it at one input. -/
def movetreeApplicationWrong : ChangeSpec := { name := "movetreeApplication", fn := fun _ => fun
  | [d1, d2, d3] => { results := [.lit (.bool false)], args := [d1, d2, d3] }
  | _ => none }
def MovetreeApplicationWrongFalsely : Prop := movetreeApplicationRow.holds Tryz.pinned (OpenSpec.ofChange movetreeApplicationWrong)

/-- 'voussoirlaw41.MovetreeValidity': WHATEVER THE INPUT: true; the input reads as it did. -/
def movetreeValiditySpec : ChangeSpec := { name := "movetreeValidity", fn := fun _ => fun
  | [d1, d2] => { results := [.lit (.bool true)], args := [d1, d2] }
  | _ => none }
def movetreeValidityRow : OpenClaim := { program := "ytbehhclclhfhkaagreatdoor", sum := "19d63b8e9d339be2944900b0fa7abfba67ef2316e7f0aed36b56dec443923803", func := "voussoir/voussoirlaw41.MovetreeValidity", spec := "movetreeValidity", inPlace := ["internal/bytealg.IndexByteString", "internal/bytealg.IndexString"], unfollowed := true, recurses := true, named := ["unicode/utf8.first", "unicode/utf8.acceptRanges", "math/bits.overflowError", "voussoir/movetree.trash", "internal/bytealg.MaxLen"], plainKeys := false, apart := false, laid := [("unicode/utf8.acceptRanges", laid_unicode_utf8_acceptRanges), ("voussoir/movetree.trash", laid_voussoir_movetree_trash), ("unicode/utf8.first", laid_unicode_utf8_first)] }
def MovetreeValiditySaid : Prop := movetreeValidityRow.holds Tryz.pinned (OpenSpec.ofChange movetreeValiditySpec)

/-- ITS FALSE NEIGHBOUR: 'it returns false'. Refute it at one input. -/
def movetreeValidityWrong : ChangeSpec := { name := "movetreeValidity", fn := fun _ => fun
  | [d1, d2] => { results := [.lit (.bool false)], args := [d1, d2] }
  | _ => none }
def MovetreeValidityWrongFalsely : Prop := movetreeValidityRow.holds Tryz.pinned (OpenSpec.ofChange movetreeValidityWrong)

/-- 'voussoirlaw41.MovetreeBatches': WHATEVER THE INPUT: true; the input reads as it did. -/
def movetreeBatchesSpec : ChangeSpec := { name := "movetreeBatches", fn := fun _ => fun
  | [d1, d2, d3] => { results := [.lit (.bool true)], args := [d1, d2, d3] }
  | _ => none }
def movetreeBatchesRow : OpenClaim := { program := "ytbehhclclhfhkaagreatdoor", sum := "19d63b8e9d339be2944900b0fa7abfba67ef2316e7f0aed36b56dec443923803", func := "voussoir/voussoirlaw41.MovetreeBatches", spec := "movetreeBatches", inPlace := ["internal/bytealg.IndexByteString", "internal/bytealg.IndexString"], unfollowed := true, recurses := true, named := ["unicode/utf8.first", "unicode/utf8.acceptRanges", "math/bits.overflowError", "voussoir/movetree.trash", "internal/bytealg.MaxLen"], plainKeys := false, apart := false, laid := [("unicode/utf8.acceptRanges", laid_unicode_utf8_acceptRanges), ("voussoir/movetree.trash", laid_voussoir_movetree_trash), ("unicode/utf8.first", laid_unicode_utf8_first)] }
def MovetreeBatchesSaid : Prop := movetreeBatchesRow.holds Tryz.pinned (OpenSpec.ofChange movetreeBatchesSpec)

/-- ITS FALSE NEIGHBOUR: 'it returns false'. Refute it at one input. -/
def movetreeBatchesWrong : ChangeSpec := { name := "movetreeBatches", fn := fun _ => fun
  | [d1, d2, d3] => { results := [.lit (.bool false)], args := [d1, d2, d3] }
  | _ => none }
def MovetreeBatchesWrongFalsely : Prop := movetreeBatchesRow.holds Tryz.pinned (OpenSpec.ofChange movetreeBatchesWrong)

/-- 'voussoirlaw41.MovetreeOrderKeys': WHATEVER THE INPUT: true; the input reads as it did. -/
def movetreeOrderKeysSpec : ChangeSpec := { name := "movetreeOrderKeys", fn := fun _ => fun
  | [d1, d2, d3] => { results := [.lit (.bool true)], args := [d1, d2, d3] }
  | _ => none }
def movetreeOrderKeysRow : OpenClaim := { program := "ytbehhclclhfhkaagreatdoor", sum := "19d63b8e9d339be2944900b0fa7abfba67ef2316e7f0aed36b56dec443923803", func := "voussoir/voussoirlaw41.MovetreeOrderKeys", spec := "movetreeOrderKeys", inPlace := ["internal/bytealg.IndexByteString", "internal/bytealg.IndexString"], unfollowed := true, recurses := true, named := ["unicode/utf8.first", "unicode/utf8.acceptRanges", "math/bits.overflowError", "voussoir/movetree.trash", "internal/bytealg.MaxLen"], plainKeys := false, apart := false, laid := [("unicode/utf8.acceptRanges", laid_unicode_utf8_acceptRanges), ("voussoir/movetree.trash", laid_voussoir_movetree_trash), ("unicode/utf8.first", laid_unicode_utf8_first)] }
def MovetreeOrderKeysSaid : Prop := movetreeOrderKeysRow.holds Tryz.pinned (OpenSpec.ofChange movetreeOrderKeysSpec)

/-- ITS FALSE NEIGHBOUR: 'it returns false'. Refute it at one input. -/
def movetreeOrderKeysWrong : ChangeSpec := { name := "movetreeOrderKeys", fn := fun _ => fun
  | [d1, d2, d3] => { results := [.lit (.bool false)], args := [d1, d2, d3] }
  | _ => none }
def MovetreeOrderKeysWrongFalsely : Prop := movetreeOrderKeysRow.holds Tryz.pinned (OpenSpec.ofChange movetreeOrderKeysWrong)

/-- 'voussoirlaw41.MovetreeDeletion': WHATEVER THE INPUT: true; the input reads as it did. -/
def movetreeDeletionSpec : ChangeSpec := { name := "movetreeDeletion", fn := fun _ => fun
  | [d1, d2] => { results := [.lit (.bool true)], args := [d1, d2] }
  | _ => none }
def movetreeDeletionRow : OpenClaim := { program := "ytbehhclclhfhkaagreatdoor", sum := "19d63b8e9d339be2944900b0fa7abfba67ef2316e7f0aed36b56dec443923803", func := "voussoir/voussoirlaw41.MovetreeDeletion", spec := "movetreeDeletion", inPlace := ["internal/bytealg.IndexByteString", "internal/bytealg.IndexString"], unfollowed := true, recurses := true, named := ["unicode/utf8.first", "unicode/utf8.acceptRanges", "math/bits.overflowError", "voussoir/movetree.trash", "internal/bytealg.MaxLen"], plainKeys := false, apart := false, laid := [("unicode/utf8.acceptRanges", laid_unicode_utf8_acceptRanges), ("voussoir/movetree.trash", laid_voussoir_movetree_trash), ("unicode/utf8.first", laid_unicode_utf8_first)] }
def MovetreeDeletionSaid : Prop := movetreeDeletionRow.holds Tryz.pinned (OpenSpec.ofChange movetreeDeletionSpec)

/-- ITS FALSE NEIGHBOUR: 'it returns false'. Refute it at one input. -/
def movetreeDeletionWrong : ChangeSpec := { name := "movetreeDeletion", fn := fun _ => fun
  | [d1, d2] => { results := [.lit (.bool false)], args := [d1, d2] }
  | _ => none }
def MovetreeDeletionWrongFalsely : Prop := movetreeDeletionRow.holds Tryz.pinned (OpenSpec.ofChange movetreeDeletionWrong)

/-- 'voussoirlaw41.MovetreeSimplestFraction': WHATEVER THE INPUT: true; the input reads as it did. -/
def movetreeSimplestFractionSpec : ChangeSpec := { name := "movetreeSimplestFraction", fn := fun _ => fun
  | [d1, d2, d3, d4] => { results := [.lit (.bool true)], args := [d1, d2, d3, d4] }
  | _ => none }
def movetreeSimplestFractionRow : OpenClaim := { program := "ytbehhclclhfhkaagreatdoor", sum := "19d63b8e9d339be2944900b0fa7abfba67ef2316e7f0aed36b56dec443923803", func := "voussoir/voussoirlaw41.MovetreeSimplestFraction", spec := "movetreeSimplestFraction", inPlace := ["internal/bytealg.IndexByteString", "internal/bytealg.IndexString"], unfollowed := true, recurses := true, named := ["unicode/utf8.first", "unicode/utf8.acceptRanges", "math/bits.overflowError", "voussoir/movetree.trash", "internal/bytealg.MaxLen"], plainKeys := false, apart := false, laid := [("unicode/utf8.acceptRanges", laid_unicode_utf8_acceptRanges), ("voussoir/movetree.trash", laid_voussoir_movetree_trash), ("unicode/utf8.first", laid_unicode_utf8_first)] }
def MovetreeSimplestFractionSaid : Prop := movetreeSimplestFractionRow.holds Tryz.pinned (OpenSpec.ofChange movetreeSimplestFractionSpec)

/-- ITS FALSE NEIGHBOUR: 'it returns false'. Refute it at one input. -/
def movetreeSimplestFractionWrong : ChangeSpec := { name := "movetreeSimplestFraction", fn := fun _ => fun
  | [d1, d2, d3, d4] => { results := [.lit (.bool false)], args := [d1, d2, d3, d4] }
  | _ => none }
def MovetreeSimplestFractionWrongFalsely : Prop := movetreeSimplestFractionRow.holds Tryz.pinned (OpenSpec.ofChange movetreeSimplestFractionWrong)

/- THE SECOND FORM. 'bulk': how many values and letters a reading holds, each counted each time it is reached (what is shared counts as often as it is met; a slice's spare places count too). A statement '..UptoSaid' is the law's where the arguments, and the package variables that the reading takes, are together of bulk at most 1048576: NARROWER than '..Said'. Prove '..Said' where nothing that the law and all that it calls make is longer than what came in: it says more and counts as full. Else prove '..UptoSaid'. A law counts once. -/
mutual
def uptoBulk {H : Type} : DataW H → Nat
  | .lit (.string bytes) => bytes.length + 1
  | .lit _ => 1
  | .nil => 1
  | .ptr d => uptoBulk d + 1
  | .slice elems spare => uptoBulkAll elems + uptoBulkAll spare + 1
  | .agg parts => uptoBulkAll parts + 1
  | .iface _ d => uptoBulk d + 1
  | .map entries => uptoBulkEntries entries + 1
  | .held _ => 1
def uptoBulkAll {H : Type} : List (DataW H) → Nat
  | [] => 0
  | d :: r => uptoBulk d + uptoBulkAll r
def uptoBulkEntries {H : Type} : List (Lit × DataW H) → Nat
  | [] => 0
  | x :: r => uptoBulkEntry x + uptoBulkEntries r
def uptoBulkEntry {H : Type} : Lit × DataW H → Nat
  | (.string bytes, d) => bytes.length + uptoBulk d + 1
  | (_, d) => uptoBulk d + 1
 end
def uptoSmall : (H : Type) → List (DataW H) → Bool := fun _ ds => decide (uptoBulkAll ds ≤ 1048576)
def OpenSpec.upto (s : _root_.Go.ChangeSpec) : _root_.Go.OpenSpec := { _root_.Go.OpenSpec.ofChange s with cond := some uptoSmall }

/-- 'voussoirlaw41.MovetreeApplication', WHERE WHAT IT READS IS OF BULK AT MOST 1048576: true; the input reads as it did. -/
def movetreeApplicationUptoRow : OpenClaim := { program := "ytbehhclclhfhkaagreatdoor", sum := "19d63b8e9d339be2944900b0fa7abfba67ef2316e7f0aed36b56dec443923803", func := "voussoir/voussoirlaw41.MovetreeApplication", spec := "movetreeApplication", inPlace := ["internal/bytealg.IndexByteString", "internal/bytealg.IndexString"], unfollowed := true, recurses := true, named := ["unicode/utf8.first", "unicode/utf8.acceptRanges", "math/bits.overflowError", "voussoir/movetree.trash", "internal/bytealg.MaxLen"], plainKeys := false, apart := false, laid := [("unicode/utf8.acceptRanges", laid_unicode_utf8_acceptRanges), ("voussoir/movetree.trash", laid_voussoir_movetree_trash), ("unicode/utf8.first", laid_unicode_utf8_first)], narrowed := true }
def MovetreeApplicationUptoSaid : Prop := movetreeApplicationUptoRow.holds Tryz.pinned (OpenSpec.upto movetreeApplicationSpec)

/-- 'voussoirlaw41.MovetreeValidity', WHERE WHAT IT READS IS OF BULK AT MOST 1048576: true; the input reads as it did. -/
def movetreeValidityUptoRow : OpenClaim := { program := "ytbehhclclhfhkaagreatdoor", sum := "19d63b8e9d339be2944900b0fa7abfba67ef2316e7f0aed36b56dec443923803", func := "voussoir/voussoirlaw41.MovetreeValidity", spec := "movetreeValidity", inPlace := ["internal/bytealg.IndexByteString", "internal/bytealg.IndexString"], unfollowed := true, recurses := true, named := ["unicode/utf8.first", "unicode/utf8.acceptRanges", "math/bits.overflowError", "voussoir/movetree.trash", "internal/bytealg.MaxLen"], plainKeys := false, apart := false, laid := [("unicode/utf8.acceptRanges", laid_unicode_utf8_acceptRanges), ("voussoir/movetree.trash", laid_voussoir_movetree_trash), ("unicode/utf8.first", laid_unicode_utf8_first)], narrowed := true }
def MovetreeValidityUptoSaid : Prop := movetreeValidityUptoRow.holds Tryz.pinned (OpenSpec.upto movetreeValiditySpec)

/-- 'voussoirlaw41.MovetreeBatches', WHERE WHAT IT READS IS OF BULK AT MOST 1048576: true; the input reads as it did. -/
def movetreeBatchesUptoRow : OpenClaim := { program := "ytbehhclclhfhkaagreatdoor", sum := "19d63b8e9d339be2944900b0fa7abfba67ef2316e7f0aed36b56dec443923803", func := "voussoir/voussoirlaw41.MovetreeBatches", spec := "movetreeBatches", inPlace := ["internal/bytealg.IndexByteString", "internal/bytealg.IndexString"], unfollowed := true, recurses := true, named := ["unicode/utf8.first", "unicode/utf8.acceptRanges", "math/bits.overflowError", "voussoir/movetree.trash", "internal/bytealg.MaxLen"], plainKeys := false, apart := false, laid := [("unicode/utf8.acceptRanges", laid_unicode_utf8_acceptRanges), ("voussoir/movetree.trash", laid_voussoir_movetree_trash), ("unicode/utf8.first", laid_unicode_utf8_first)], narrowed := true }
def MovetreeBatchesUptoSaid : Prop := movetreeBatchesUptoRow.holds Tryz.pinned (OpenSpec.upto movetreeBatchesSpec)

/-- 'voussoirlaw41.MovetreeOrderKeys', WHERE WHAT IT READS IS OF BULK AT MOST 1048576: true; the input reads as it did. -/
def movetreeOrderKeysUptoRow : OpenClaim := { program := "ytbehhclclhfhkaagreatdoor", sum := "19d63b8e9d339be2944900b0fa7abfba67ef2316e7f0aed36b56dec443923803", func := "voussoir/voussoirlaw41.MovetreeOrderKeys", spec := "movetreeOrderKeys", inPlace := ["internal/bytealg.IndexByteString", "internal/bytealg.IndexString"], unfollowed := true, recurses := true, named := ["unicode/utf8.first", "unicode/utf8.acceptRanges", "math/bits.overflowError", "voussoir/movetree.trash", "internal/bytealg.MaxLen"], plainKeys := false, apart := false, laid := [("unicode/utf8.acceptRanges", laid_unicode_utf8_acceptRanges), ("voussoir/movetree.trash", laid_voussoir_movetree_trash), ("unicode/utf8.first", laid_unicode_utf8_first)], narrowed := true }
def MovetreeOrderKeysUptoSaid : Prop := movetreeOrderKeysUptoRow.holds Tryz.pinned (OpenSpec.upto movetreeOrderKeysSpec)

/-- 'voussoirlaw41.MovetreeDeletion', WHERE WHAT IT READS IS OF BULK AT MOST 1048576: true; the input reads as it did. -/
def movetreeDeletionUptoRow : OpenClaim := { program := "ytbehhclclhfhkaagreatdoor", sum := "19d63b8e9d339be2944900b0fa7abfba67ef2316e7f0aed36b56dec443923803", func := "voussoir/voussoirlaw41.MovetreeDeletion", spec := "movetreeDeletion", inPlace := ["internal/bytealg.IndexByteString", "internal/bytealg.IndexString"], unfollowed := true, recurses := true, named := ["unicode/utf8.first", "unicode/utf8.acceptRanges", "math/bits.overflowError", "voussoir/movetree.trash", "internal/bytealg.MaxLen"], plainKeys := false, apart := false, laid := [("unicode/utf8.acceptRanges", laid_unicode_utf8_acceptRanges), ("voussoir/movetree.trash", laid_voussoir_movetree_trash), ("unicode/utf8.first", laid_unicode_utf8_first)], narrowed := true }
def MovetreeDeletionUptoSaid : Prop := movetreeDeletionUptoRow.holds Tryz.pinned (OpenSpec.upto movetreeDeletionSpec)

/-- 'voussoirlaw41.MovetreeSimplestFraction', WHERE WHAT IT READS IS OF BULK AT MOST 1048576: true; the input reads as it did. -/
def movetreeSimplestFractionUptoRow : OpenClaim := { program := "ytbehhclclhfhkaagreatdoor", sum := "19d63b8e9d339be2944900b0fa7abfba67ef2316e7f0aed36b56dec443923803", func := "voussoir/voussoirlaw41.MovetreeSimplestFraction", spec := "movetreeSimplestFraction", inPlace := ["internal/bytealg.IndexByteString", "internal/bytealg.IndexString"], unfollowed := true, recurses := true, named := ["unicode/utf8.first", "unicode/utf8.acceptRanges", "math/bits.overflowError", "voussoir/movetree.trash", "internal/bytealg.MaxLen"], plainKeys := false, apart := false, laid := [("unicode/utf8.acceptRanges", laid_unicode_utf8_acceptRanges), ("voussoir/movetree.trash", laid_voussoir_movetree_trash), ("unicode/utf8.first", laid_unicode_utf8_first)], narrowed := true }
def MovetreeSimplestFractionUptoSaid : Prop := movetreeSimplestFractionUptoRow.holds Tryz.pinned (OpenSpec.upto movetreeSimplestFractionSpec)

end Rows
end Go.Proofs.YtbehhclclhfhkaaGreatDoor
