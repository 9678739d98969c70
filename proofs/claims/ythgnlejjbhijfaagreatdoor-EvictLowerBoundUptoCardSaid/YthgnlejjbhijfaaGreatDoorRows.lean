/-
  NARROWER THAN 'FOR EVERY INPUT', by the rows' own cells (each row's printed sentence says how): EvictCutoffs: laid · EvictMinority: laid · EvictLate: laid · EvictNotes: laid · EvictOrder: laid · StabilityCutoffs: laid · EvictFinal: laid · EvictLowerBound: laid.
  DERIVED. THE GIVEN ROWS OF THIS SEAT. 8 by the template 'for every input the law returns true; each argument reads behind the call as it read before'; 0 by the template 'total and deterministic' (their statements: YthgnlejjbhijfaaGreatDoorTotals.lean).
  GIVEN WITH THE SEED: the statements are not yours to turn. If you find one false, say at which input.
  Laid BY PROGRAM, IN A SANDBOX (cutbox-rows.mjs): the forced cells as the released guide's own fill.sh prints them over the translation 88f688a8c248782d… (all of the seat's roots in one cut). By AI agents, Wed Nov 11 2026. No macro, syntax, notation, axiom, sorry.
-/
import Derived.Test.YthgnlejjbhijfaaGreatDoorChecked
import GoSem.PinnedTables
import GoSem.Claim
import GoSem.ClaimJoined
import GoSem.ClaimMapViews
import Derived.JoinedTies
import Derived.KernelRfl
namespace Go.Proofs.YthgnlejjbhijfaaGreatDoor
/- THE CELL 'sum', in the pinned program and in every row, IS THE sha256 OF THE DUMP (.gsa) THAT YthgnlejjbhijfaaGreatDoorProg.lean LOADS. Nothing in Lean hashes anything: it is a label: what it is worth is what the hold of that sum in a sandbox is worth. -/
noncomputable def Tryz.pinned : Pinned := { name := "ythgnlejjbhijfaagreatdoor", sum := "88f688a8c248782d4c102cea26ad215c4972952dc4b0315945acdeaf5e17607d", checked := Tryz.checked }
namespace Rows
def none {H : Type} : Left H := { results := [], args := [] }

/- WHAT THE LISTED PACKAGE-LEVEL VARIABLES READ AS WHEN THE CALL BEGINS. Each datum BY PROGRAM (the guide's laid-datum.mjs) off the statement by which the dump's own 'gosem.cut.vars' lays the variable. In a bare row this is a premise. The card (YthgnlejjbhijfaaGreatDoorCards.lean) ties it to the program's text. -/
def laid_unicode_utf8_acceptRanges {H : Type} : DataW H := .agg [.agg [.lit (.int .u8 128), .lit (.int .u8 191)], .agg [.lit (.int .u8 160), .lit (.int .u8 191)], .agg [.lit (.int .u8 128), .lit (.int .u8 159)], .agg [.lit (.int .u8 144), .lit (.int .u8 191)], .agg [.lit (.int .u8 128), .lit (.int .u8 143)], .agg [.lit (.int .u8 0), .lit (.int .u8 0)], .agg [.lit (.int .u8 0), .lit (.int .u8 0)], .agg [.lit (.int .u8 0), .lit (.int .u8 0)], .agg [.lit (.int .u8 0), .lit (.int .u8 0)], .agg [.lit (.int .u8 0), .lit (.int .u8 0)], .agg [.lit (.int .u8 0), .lit (.int .u8 0)], .agg [.lit (.int .u8 0), .lit (.int .u8 0)], .agg [.lit (.int .u8 0), .lit (.int .u8 0)], .agg [.lit (.int .u8 0), .lit (.int .u8 0)], .agg [.lit (.int .u8 0), .lit (.int .u8 0)], .agg [.lit (.int .u8 0), .lit (.int .u8 0)]]
/-- One of Go's own tables, pinned by name: the form's constant. -/
def laid_unicode_utf8_first : DataW Unit := Go.Pinned.utf8First

/-- 'voussoirlaw46.EvictCutoffs': WHATEVER THE INPUT: true; the input reads as it did. -/
def evictCutoffsSpec : ChangeSpec := { name := "evictCutoffs", fn := fun _ => fun
  | [d1, d2] => { results := [.lit (.bool true)], args := [d1, d2] }
  | _ => none }
def evictCutoffsRow : OpenClaim := { program := "ythgnlejjbhijfaagreatdoor", sum := "88f688a8c248782d4c102cea26ad215c4972952dc4b0315945acdeaf5e17607d", func := "voussoir/voussoirlaw46.EvictCutoffs", spec := "evictCutoffs", inPlace := ["internal/bytealg.abigen_runtime_cmpstring", "internal/bytealg.CountString", "internal/bytealg.IndexByteString", "internal/bytealg.IndexString"], unfollowed := true, recurses := true, named := ["unicode/utf8.first", "unicode/utf8.acceptRanges", "internal/bytealg.MaxLen"], apart := false, laid := [("unicode/utf8.acceptRanges", laid_unicode_utf8_acceptRanges), ("unicode/utf8.first", laid_unicode_utf8_first)] }
def EvictCutoffsSaid : Prop := evictCutoffsRow.holds Tryz.pinned (OpenSpec.ofChange evictCutoffsSpec)

/-- ITS FALSE NEIGHBOUR: 'it returns false'. Refute it at one input. -/
def evictCutoffsWrong : ChangeSpec := { name := "evictCutoffs", fn := fun _ => fun
  | [d1, d2] => { results := [.lit (.bool false)], args := [d1, d2] }
  | _ => none }
def EvictCutoffsWrongFalsely : Prop := evictCutoffsRow.holds Tryz.pinned (OpenSpec.ofChange evictCutoffsWrong)

/-- 'voussoirlaw46.EvictMinority': WHATEVER THE INPUT: true; the input reads as it did. -/
def evictMinoritySpec : ChangeSpec := { name := "evictMinority", fn := fun _ => fun
  | [d1, d2] => { results := [.lit (.bool true)], args := [d1, d2] }
  | _ => none }
def evictMinorityRow : OpenClaim := { program := "ythgnlejjbhijfaagreatdoor", sum := "88f688a8c248782d4c102cea26ad215c4972952dc4b0315945acdeaf5e17607d", func := "voussoir/voussoirlaw46.EvictMinority", spec := "evictMinority", inPlace := ["internal/bytealg.abigen_runtime_cmpstring", "internal/bytealg.CountString", "internal/bytealg.IndexByteString", "internal/bytealg.IndexString"], unfollowed := true, recurses := true, named := ["unicode/utf8.first", "unicode/utf8.acceptRanges", "internal/bytealg.MaxLen"], apart := false, laid := [("unicode/utf8.acceptRanges", laid_unicode_utf8_acceptRanges), ("unicode/utf8.first", laid_unicode_utf8_first)] }
def EvictMinoritySaid : Prop := evictMinorityRow.holds Tryz.pinned (OpenSpec.ofChange evictMinoritySpec)

/-- ITS FALSE NEIGHBOUR: 'it returns false'. Refute it at one input. -/
def evictMinorityWrong : ChangeSpec := { name := "evictMinority", fn := fun _ => fun
  | [d1, d2] => { results := [.lit (.bool false)], args := [d1, d2] }
  | _ => none }
def EvictMinorityWrongFalsely : Prop := evictMinorityRow.holds Tryz.pinned (OpenSpec.ofChange evictMinorityWrong)

/-- 'voussoirlaw46.EvictLate': WHATEVER THE INPUT: true; the input reads as it did. -/
def evictLateSpec : ChangeSpec := { name := "evictLate", fn := fun _ => fun
  | [d1, d2, d3] => { results := [.lit (.bool true)], args := [d1, d2, d3] }
  | _ => none }
def evictLateRow : OpenClaim := { program := "ythgnlejjbhijfaagreatdoor", sum := "88f688a8c248782d4c102cea26ad215c4972952dc4b0315945acdeaf5e17607d", func := "voussoir/voussoirlaw46.EvictLate", spec := "evictLate", inPlace := ["internal/bytealg.abigen_runtime_cmpstring", "internal/bytealg.CountString", "internal/bytealg.IndexByteString", "internal/bytealg.IndexString"], unfollowed := true, recurses := true, named := ["unicode/utf8.first", "unicode/utf8.acceptRanges", "internal/bytealg.MaxLen"], apart := false, laid := [("unicode/utf8.acceptRanges", laid_unicode_utf8_acceptRanges), ("unicode/utf8.first", laid_unicode_utf8_first)] }
def EvictLateSaid : Prop := evictLateRow.holds Tryz.pinned (OpenSpec.ofChange evictLateSpec)

/-- ITS FALSE NEIGHBOUR: 'it returns false'. Refute it at one input. -/
def evictLateWrong : ChangeSpec := { name := "evictLate", fn := fun _ => fun
  | [d1, d2, d3] => { results := [.lit (.bool false)], args := [d1, d2, d3] }
  | _ => none }
def EvictLateWrongFalsely : Prop := evictLateRow.holds Tryz.pinned (OpenSpec.ofChange evictLateWrong)

/-- 'voussoirlaw46.EvictNotes': WHATEVER THE INPUT: true; the input reads as it did. -/
def evictNotesSpec : ChangeSpec := { name := "evictNotes", fn := fun _ => fun
  | [d1, d2, d3] => { results := [.lit (.bool true)], args := [d1, d2, d3] }
  | _ => none }
def evictNotesRow : OpenClaim := { program := "ythgnlejjbhijfaagreatdoor", sum := "88f688a8c248782d4c102cea26ad215c4972952dc4b0315945acdeaf5e17607d", func := "voussoir/voussoirlaw46.EvictNotes", spec := "evictNotes", inPlace := ["internal/bytealg.abigen_runtime_cmpstring", "internal/bytealg.CountString", "internal/bytealg.IndexByteString", "internal/bytealg.IndexString"], unfollowed := true, recurses := true, named := ["unicode/utf8.first", "unicode/utf8.acceptRanges", "internal/bytealg.MaxLen"], apart := false, laid := [("unicode/utf8.acceptRanges", laid_unicode_utf8_acceptRanges), ("unicode/utf8.first", laid_unicode_utf8_first)] }
def EvictNotesSaid : Prop := evictNotesRow.holds Tryz.pinned (OpenSpec.ofChange evictNotesSpec)

/-- ITS FALSE NEIGHBOUR: 'it returns false'. Refute it at one input. -/
def evictNotesWrong : ChangeSpec := { name := "evictNotes", fn := fun _ => fun
  | [d1, d2, d3] => { results := [.lit (.bool false)], args := [d1, d2, d3] }
  | _ => none }
def EvictNotesWrongFalsely : Prop := evictNotesRow.holds Tryz.pinned (OpenSpec.ofChange evictNotesWrong)

/-- 'voussoirlaw46.EvictOrder': WHATEVER THE INPUT: true; the input reads as it did. -/
def evictOrderSpec : ChangeSpec := { name := "evictOrder", fn := fun _ => fun
  | [d1, d2] => { results := [.lit (.bool true)], args := [d1, d2] }
  | _ => none }
def evictOrderRow : OpenClaim := { program := "ythgnlejjbhijfaagreatdoor", sum := "88f688a8c248782d4c102cea26ad215c4972952dc4b0315945acdeaf5e17607d", func := "voussoir/voussoirlaw46.EvictOrder", spec := "evictOrder", inPlace := ["internal/bytealg.abigen_runtime_cmpstring", "internal/bytealg.CountString", "internal/bytealg.IndexByteString", "internal/bytealg.IndexString"], unfollowed := true, recurses := true, named := ["unicode/utf8.first", "unicode/utf8.acceptRanges", "internal/bytealg.MaxLen"], apart := false, laid := [("unicode/utf8.acceptRanges", laid_unicode_utf8_acceptRanges), ("unicode/utf8.first", laid_unicode_utf8_first)] }
def EvictOrderSaid : Prop := evictOrderRow.holds Tryz.pinned (OpenSpec.ofChange evictOrderSpec)

/-- ITS FALSE NEIGHBOUR: 'it returns false'. Refute it at one input. -/
def evictOrderWrong : ChangeSpec := { name := "evictOrder", fn := fun _ => fun
  | [d1, d2] => { results := [.lit (.bool false)], args := [d1, d2] }
  | _ => none }
def EvictOrderWrongFalsely : Prop := evictOrderRow.holds Tryz.pinned (OpenSpec.ofChange evictOrderWrong)

/-- 'voussoirlaw47.StabilityCutoffs': WHATEVER THE INPUT: true; the input reads as it did. -/
def stabilityCutoffsSpec : ChangeSpec := { name := "stabilityCutoffs", fn := fun _ => fun
  | [d1, d2] => { results := [.lit (.bool true)], args := [d1, d2] }
  | _ => none }
def stabilityCutoffsRow : OpenClaim := { program := "ythgnlejjbhijfaagreatdoor", sum := "88f688a8c248782d4c102cea26ad215c4972952dc4b0315945acdeaf5e17607d", func := "voussoir/voussoirlaw47.StabilityCutoffs", spec := "stabilityCutoffs", inPlace := ["internal/bytealg.abigen_runtime_cmpstring", "internal/bytealg.CountString", "internal/bytealg.IndexByteString", "internal/bytealg.IndexString"], unfollowed := true, recurses := true, named := ["unicode/utf8.first", "unicode/utf8.acceptRanges", "internal/bytealg.MaxLen"], apart := false, laid := [("unicode/utf8.acceptRanges", laid_unicode_utf8_acceptRanges), ("unicode/utf8.first", laid_unicode_utf8_first)] }
def StabilityCutoffsSaid : Prop := stabilityCutoffsRow.holds Tryz.pinned (OpenSpec.ofChange stabilityCutoffsSpec)

/-- ITS FALSE NEIGHBOUR: 'it returns false'. Refute it at one input. -/
def stabilityCutoffsWrong : ChangeSpec := { name := "stabilityCutoffs", fn := fun _ => fun
  | [d1, d2] => { results := [.lit (.bool false)], args := [d1, d2] }
  | _ => none }
def StabilityCutoffsWrongFalsely : Prop := stabilityCutoffsRow.holds Tryz.pinned (OpenSpec.ofChange stabilityCutoffsWrong)

/-- 'voussoirlaw46.EvictFinal': WHATEVER THE INPUT: true; the input reads as it did. -/
def evictFinalSpec : ChangeSpec := { name := "evictFinal", fn := fun _ => fun
  | [d1, d2, d3] => { results := [.lit (.bool true)], args := [d1, d2, d3] }
  | _ => none }
def evictFinalRow : OpenClaim := { program := "ythgnlejjbhijfaagreatdoor", sum := "88f688a8c248782d4c102cea26ad215c4972952dc4b0315945acdeaf5e17607d", func := "voussoir/voussoirlaw46.EvictFinal", spec := "evictFinal", inPlace := ["internal/bytealg.abigen_runtime_cmpstring", "internal/bytealg.CountString", "internal/bytealg.IndexByteString", "internal/bytealg.IndexString", "slices.overlaps[voussoir/api.Id]"], unfollowed := true, recurses := true, named := ["unicode/utf8.first", "unicode/utf8.acceptRanges", "internal/bytealg.MaxLen"], apart := false, laid := [("unicode/utf8.acceptRanges", laid_unicode_utf8_acceptRanges), ("unicode/utf8.first", laid_unicode_utf8_first)] }
def EvictFinalSaid : Prop := evictFinalRow.holds Tryz.pinned (OpenSpec.ofChange evictFinalSpec)

/-- ITS FALSE NEIGHBOUR: 'it returns false'. Refute it at one input. -/
def evictFinalWrong : ChangeSpec := { name := "evictFinal", fn := fun _ => fun
  | [d1, d2, d3] => { results := [.lit (.bool false)], args := [d1, d2, d3] }
  | _ => none }
def EvictFinalWrongFalsely : Prop := evictFinalRow.holds Tryz.pinned (OpenSpec.ofChange evictFinalWrong)

/-- 'voussoirlaw46.EvictLowerBound': WHATEVER THE INPUT: true; the input reads as it did. -/
def evictLowerBoundSpec : ChangeSpec := { name := "evictLowerBound", fn := fun _ => fun
  | [d1, d2, d3] => { results := [.lit (.bool true)], args := [d1, d2, d3] }
  | _ => none }
def evictLowerBoundRow : OpenClaim := { program := "ythgnlejjbhijfaagreatdoor", sum := "88f688a8c248782d4c102cea26ad215c4972952dc4b0315945acdeaf5e17607d", func := "voussoir/voussoirlaw46.EvictLowerBound", spec := "evictLowerBound", inPlace := ["internal/bytealg.abigen_runtime_cmpstring", "internal/bytealg.CountString", "internal/bytealg.IndexByteString", "internal/bytealg.IndexString", "slices.overlaps[voussoir/api.Id]"], unfollowed := true, recurses := true, named := ["unicode/utf8.first", "unicode/utf8.acceptRanges", "internal/bytealg.MaxLen"], apart := false, laid := [("unicode/utf8.acceptRanges", laid_unicode_utf8_acceptRanges), ("unicode/utf8.first", laid_unicode_utf8_first)] }
def EvictLowerBoundSaid : Prop := evictLowerBoundRow.holds Tryz.pinned (OpenSpec.ofChange evictLowerBoundSpec)

/-- ITS FALSE NEIGHBOUR: 'it returns false'. Refute it at one input. -/
def evictLowerBoundWrong : ChangeSpec := { name := "evictLowerBound", fn := fun _ => fun
  | [d1, d2, d3] => { results := [.lit (.bool false)], args := [d1, d2, d3] }
  | _ => none }
def EvictLowerBoundWrongFalsely : Prop := evictLowerBoundRow.holds Tryz.pinned (OpenSpec.ofChange evictLowerBoundWrong)

/- THE SECOND FORM. 'bulk': how many values and letters a reading holds, each counted each time it is reached (what is shared counts as often as it is met; a slice's spare places count too). A statement '..UptoSaid' is the law's where the arguments, and the package variables that the reading takes, are together of bulk at most 1048576: NARROWER than '..Said'. Prove '..Said' where nothing that the law and all that it calls make is longer than what came in: it says more and counts as full. Else prove '..UptoSaid'. A law counts once. -/
mutual
def uptoBulk {H : Type} : DataW H → Nat
  | .lit (.string bytes) => bytes.length + 1
  | .lit _ => 1
  | .nil => 1
  | .ptr d => uptoBulk d + 1
  | .slice elems spare => uptoBulkAll elems + uptoBulkAll spare + 1
  | .agg parts => uptoBulkAll parts + 1
  | .iface _ d => uptoBulk d + 1
  | .map entries => uptoBulkEntries entries + 1
  | .held _ => 1
def uptoBulkAll {H : Type} : List (DataW H) → Nat
  | [] => 0
  | d :: r => uptoBulk d + uptoBulkAll r
def uptoBulkEntries {H : Type} : List (Lit × DataW H) → Nat
  | [] => 0
  | x :: r => uptoBulkEntry x + uptoBulkEntries r
def uptoBulkEntry {H : Type} : Lit × DataW H → Nat
  | (.string bytes, d) => bytes.length + uptoBulk d + 1
  | (_, d) => uptoBulk d + 1
 end
def uptoSmall : (H : Type) → List (DataW H) → Bool := fun _ ds => decide (uptoBulkAll ds ≤ 1048576)
def OpenSpec.upto (s : _root_.Go.ChangeSpec) : _root_.Go.OpenSpec := { _root_.Go.OpenSpec.ofChange s with cond := some uptoSmall }

/-- 'voussoirlaw46.EvictCutoffs', WHERE WHAT IT READS IS OF BULK AT MOST 1048576: true; the input reads as it did. -/
def evictCutoffsUptoRow : OpenClaim := { program := "ythgnlejjbhijfaagreatdoor", sum := "88f688a8c248782d4c102cea26ad215c4972952dc4b0315945acdeaf5e17607d", func := "voussoir/voussoirlaw46.EvictCutoffs", spec := "evictCutoffs", inPlace := ["internal/bytealg.abigen_runtime_cmpstring", "internal/bytealg.CountString", "internal/bytealg.IndexByteString", "internal/bytealg.IndexString"], unfollowed := true, recurses := true, named := ["unicode/utf8.first", "unicode/utf8.acceptRanges", "internal/bytealg.MaxLen"], apart := false, laid := [("unicode/utf8.acceptRanges", laid_unicode_utf8_acceptRanges), ("unicode/utf8.first", laid_unicode_utf8_first)], narrowed := true }
def EvictCutoffsUptoSaid : Prop := evictCutoffsUptoRow.holds Tryz.pinned (OpenSpec.upto evictCutoffsSpec)

/-- 'voussoirlaw46.EvictMinority', WHERE WHAT IT READS IS OF BULK AT MOST 1048576: true; the input reads as it did. -/
def evictMinorityUptoRow : OpenClaim := { program := "ythgnlejjbhijfaagreatdoor", sum := "88f688a8c248782d4c102cea26ad215c4972952dc4b0315945acdeaf5e17607d", func := "voussoir/voussoirlaw46.EvictMinority", spec := "evictMinority", inPlace := ["internal/bytealg.abigen_runtime_cmpstring", "internal/bytealg.CountString", "internal/bytealg.IndexByteString", "internal/bytealg.IndexString"], unfollowed := true, recurses := true, named := ["unicode/utf8.first", "unicode/utf8.acceptRanges", "internal/bytealg.MaxLen"], apart := false, laid := [("unicode/utf8.acceptRanges", laid_unicode_utf8_acceptRanges), ("unicode/utf8.first", laid_unicode_utf8_first)], narrowed := true }
def EvictMinorityUptoSaid : Prop := evictMinorityUptoRow.holds Tryz.pinned (OpenSpec.upto evictMinoritySpec)

/-- 'voussoirlaw46.EvictLate', WHERE WHAT IT READS IS OF BULK AT MOST 1048576: true; the input reads as it did. -/
def evictLateUptoRow : OpenClaim := { program := "ythgnlejjbhijfaagreatdoor", sum := "88f688a8c248782d4c102cea26ad215c4972952dc4b0315945acdeaf5e17607d", func := "voussoir/voussoirlaw46.EvictLate", spec := "evictLate", inPlace := ["internal/bytealg.abigen_runtime_cmpstring", "internal/bytealg.CountString", "internal/bytealg.IndexByteString", "internal/bytealg.IndexString"], unfollowed := true, recurses := true, named := ["unicode/utf8.first", "unicode/utf8.acceptRanges", "internal/bytealg.MaxLen"], apart := false, laid := [("unicode/utf8.acceptRanges", laid_unicode_utf8_acceptRanges), ("unicode/utf8.first", laid_unicode_utf8_first)], narrowed := true }
def EvictLateUptoSaid : Prop := evictLateUptoRow.holds Tryz.pinned (OpenSpec.upto evictLateSpec)

/-- 'voussoirlaw46.EvictNotes', WHERE WHAT IT READS IS OF BULK AT MOST 1048576: true; the input reads as it did. -/
def evictNotesUptoRow : OpenClaim := { program := "ythgnlejjbhijfaagreatdoor", sum := "88f688a8c248782d4c102cea26ad215c4972952dc4b0315945acdeaf5e17607d", func := "voussoir/voussoirlaw46.EvictNotes", spec := "evictNotes", inPlace := ["internal/bytealg.abigen_runtime_cmpstring", "internal/bytealg.CountString", "internal/bytealg.IndexByteString", "internal/bytealg.IndexString"], unfollowed := true, recurses := true, named := ["unicode/utf8.first", "unicode/utf8.acceptRanges", "internal/bytealg.MaxLen"], apart := false, laid := [("unicode/utf8.acceptRanges", laid_unicode_utf8_acceptRanges), ("unicode/utf8.first", laid_unicode_utf8_first)], narrowed := true }
def EvictNotesUptoSaid : Prop := evictNotesUptoRow.holds Tryz.pinned (OpenSpec.upto evictNotesSpec)

/-- 'voussoirlaw46.EvictOrder', WHERE WHAT IT READS IS OF BULK AT MOST 1048576: true; the input reads as it did. -/
def evictOrderUptoRow : OpenClaim := { program := "ythgnlejjbhijfaagreatdoor", sum := "88f688a8c248782d4c102cea26ad215c4972952dc4b0315945acdeaf5e17607d", func := "voussoir/voussoirlaw46.EvictOrder", spec := "evictOrder", inPlace := ["internal/bytealg.abigen_runtime_cmpstring", "internal/bytealg.CountString", "internal/bytealg.IndexByteString", "internal/bytealg.IndexString"], unfollowed := true, recurses := true, named := ["unicode/utf8.first", "unicode/utf8.acceptRanges", "internal/bytealg.MaxLen"], apart := false, laid := [("unicode/utf8.acceptRanges", laid_unicode_utf8_acceptRanges), ("unicode/utf8.first", laid_unicode_utf8_first)], narrowed := true }
def EvictOrderUptoSaid : Prop := evictOrderUptoRow.holds Tryz.pinned (OpenSpec.upto evictOrderSpec)

/-- 'voussoirlaw47.StabilityCutoffs', WHERE WHAT IT READS IS OF BULK AT MOST 1048576: true; the input reads as it did. -/
def stabilityCutoffsUptoRow : OpenClaim := { program := "ythgnlejjbhijfaagreatdoor", sum := "88f688a8c248782d4c102cea26ad215c4972952dc4b0315945acdeaf5e17607d", func := "voussoir/voussoirlaw47.StabilityCutoffs", spec := "stabilityCutoffs", inPlace := ["internal/bytealg.abigen_runtime_cmpstring", "internal/bytealg.CountString", "internal/bytealg.IndexByteString", "internal/bytealg.IndexString"], unfollowed := true, recurses := true, named := ["unicode/utf8.first", "unicode/utf8.acceptRanges", "internal/bytealg.MaxLen"], apart := false, laid := [("unicode/utf8.acceptRanges", laid_unicode_utf8_acceptRanges), ("unicode/utf8.first", laid_unicode_utf8_first)], narrowed := true }
def StabilityCutoffsUptoSaid : Prop := stabilityCutoffsUptoRow.holds Tryz.pinned (OpenSpec.upto stabilityCutoffsSpec)

/-- 'voussoirlaw46.EvictFinal', WHERE WHAT IT READS IS OF BULK AT MOST 1048576: true; the input reads as it did. -/
def evictFinalUptoRow : OpenClaim := { program := "ythgnlejjbhijfaagreatdoor", sum := "88f688a8c248782d4c102cea26ad215c4972952dc4b0315945acdeaf5e17607d", func := "voussoir/voussoirlaw46.EvictFinal", spec := "evictFinal", inPlace := ["internal/bytealg.abigen_runtime_cmpstring", "internal/bytealg.CountString", "internal/bytealg.IndexByteString", "internal/bytealg.IndexString", "slices.overlaps[voussoir/api.Id]"], unfollowed := true, recurses := true, named := ["unicode/utf8.first", "unicode/utf8.acceptRanges", "internal/bytealg.MaxLen"], apart := false, laid := [("unicode/utf8.acceptRanges", laid_unicode_utf8_acceptRanges), ("unicode/utf8.first", laid_unicode_utf8_first)], narrowed := true }
def EvictFinalUptoSaid : Prop := evictFinalUptoRow.holds Tryz.pinned (OpenSpec.upto evictFinalSpec)

/-- 'voussoirlaw46.EvictLowerBound', WHERE WHAT IT READS IS OF BULK AT MOST 1048576: true; the input reads as it did. -/
def evictLowerBoundUptoRow : OpenClaim := { program := "ythgnlejjbhijfaagreatdoor", sum := "88f688a8c248782d4c102cea26ad215c4972952dc4b0315945acdeaf5e17607d", func := "voussoir/voussoirlaw46.EvictLowerBound", spec := "evictLowerBound", inPlace := ["internal/bytealg.abigen_runtime_cmpstring", "internal/bytealg.CountString", "internal/bytealg.IndexByteString", "internal/bytealg.IndexString", "slices.overlaps[voussoir/api.Id]"], unfollowed := true, recurses := true, named := ["unicode/utf8.first", "unicode/utf8.acceptRanges", "internal/bytealg.MaxLen"], apart := false, laid := [("unicode/utf8.acceptRanges", laid_unicode_utf8_acceptRanges), ("unicode/utf8.first", laid_unicode_utf8_first)], narrowed := true }
def EvictLowerBoundUptoSaid : Prop := evictLowerBoundUptoRow.holds Tryz.pinned (OpenSpec.upto evictLowerBoundSpec)

end Rows
end Go.Proofs.YthgnlejjbhijfaaGreatDoor
