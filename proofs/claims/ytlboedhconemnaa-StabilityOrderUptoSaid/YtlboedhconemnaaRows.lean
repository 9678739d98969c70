/-
  No cell of these rows narrows 'for every input' (looked for: loops, veiled, ifaces, maps, wideKeys, modest, calm, conditions, laid).
  DERIVED. THE GIVEN ROWS OF THIS SEAT. 12 by the template 'for every input the law returns true; each argument reads behind the call as it read before'; 0 by the template 'total and deterministic' (their statements: YtlboedhconemnaaTotals.lean).
  GIVEN WITH THE SEED: the statements are not yours to turn. If you find one false, say at which input.
  Laid BY PROGRAM, IN A SANDBOX (cutbox-rows.mjs): the forced cells as the released guide's own fill.sh prints them over the translation 90b5b69cf120d7a2… (all of the seat's roots in one cut). By AI agents, Wed Nov 11 2026. No macro, syntax, notation, axiom, sorry.
-/
import Derived.Test.YtlboedhconemnaaChecked
import GoSem.Claim
import GoSem.ClaimJoined
import GoSem.ClaimMapViews
import Derived.JoinedTies
import Derived.KernelRfl
namespace Go.Proofs.Ytlboedhconemnaa
/- THE CELL 'sum', in the pinned program and in every row, IS THE sha256 OF THE DUMP (.gsa) THAT YtlboedhconemnaaProg.lean LOADS. Nothing in Lean hashes anything: it is a label: what it is worth is what the hold of that sum in a sandbox is worth. -/
noncomputable def Try.pinned : Pinned := { name := "ytlboedhconemnaa", sum := "90b5b69cf120d7a29d2f249968c1218a834c743b44376921ad0d500bb954bd5c", checked := Try.checked }
namespace Rows
def none {H : Type} : Left H := { results := [], args := [] }

/-- 'voussoirlaw39.OplogEffective': WHATEVER THE INPUT: true; the input reads as it did. -/
def oplogEffectiveSpec : ChangeSpec := { name := "oplogEffective", fn := fun _ => fun
  | [d1, d2] => { results := [.lit (.bool true)], args := [d1, d2] }
  | _ => none }
def oplogEffectiveRow : OpenClaim := { program := "ytlboedhconemnaa", sum := "90b5b69cf120d7a29d2f249968c1218a834c743b44376921ad0d500bb954bd5c", func := "voussoir/voussoirlaw39.OplogEffective", spec := "oplogEffective", inPlace := ["internal/bytealg.abigen_runtime_cmpstring"], unfollowed := true, recurses := true, plainKeys := false, apart := false }
def OplogEffectiveSaid : Prop := oplogEffectiveRow.holds Try.pinned (OpenSpec.ofChange oplogEffectiveSpec)

/-- ITS FALSE NEIGHBOUR: 'it returns false'. Refute it at one input. -/
def oplogEffectiveWrong : ChangeSpec := { name := "oplogEffective", fn := fun _ => fun
  | [d1, d2] => { results := [.lit (.bool false)], args := [d1, d2] }
  | _ => none }
def OplogEffectiveWrongFalsely : Prop := oplogEffectiveRow.holds Try.pinned (OpenSpec.ofChange oplogEffectiveWrong)

/-- 'voussoirlaw39.OplogUnion': WHATEVER THE INPUT: true; the input reads as it did. -/
def oplogUnionSpec : ChangeSpec := { name := "oplogUnion", fn := fun _ => fun
  | [d1, d2, d3] => { results := [.lit (.bool true)], args := [d1, d2, d3] }
  | _ => none }
def oplogUnionRow : OpenClaim := { program := "ytlboedhconemnaa", sum := "90b5b69cf120d7a29d2f249968c1218a834c743b44376921ad0d500bb954bd5c", func := "voussoir/voussoirlaw39.OplogUnion", spec := "oplogUnion", inPlace := ["internal/bytealg.abigen_runtime_cmpstring"], unfollowed := true, recurses := true, plainKeys := false, apart := false }
def OplogUnionSaid : Prop := oplogUnionRow.holds Try.pinned (OpenSpec.ofChange oplogUnionSpec)

/-- ITS FALSE NEIGHBOUR: 'it returns false'. Refute it at one input. -/
def oplogUnionWrong : ChangeSpec := { name := "oplogUnion", fn := fun _ => fun
  | [d1, d2, d3] => { results := [.lit (.bool false)], args := [d1, d2, d3] }
  | _ => none }
def OplogUnionWrongFalsely : Prop := oplogUnionRow.holds Try.pinned (OpenSpec.ofChange oplogUnionWrong)

/-- 'voussoirlaw39.OplogAscending': WHATEVER THE INPUT: true; the input reads as it did. -/
def oplogAscendingSpec : ChangeSpec := { name := "oplogAscending", fn := fun _ => fun
  | [d] => { results := [.lit (.bool true)], args := [d] }
  | _ => none }
def oplogAscendingRow : OpenClaim := { program := "ytlboedhconemnaa", sum := "90b5b69cf120d7a29d2f249968c1218a834c743b44376921ad0d500bb954bd5c", func := "voussoir/voussoirlaw39.OplogAscending", spec := "oplogAscending", inPlace := ["internal/bytealg.abigen_runtime_cmpstring"], unfollowed := true, recurses := true, plainKeys := false, apart := false }
def OplogAscendingSaid : Prop := oplogAscendingRow.holds Try.pinned (OpenSpec.ofChange oplogAscendingSpec)

/-- ITS FALSE NEIGHBOUR: 'it returns false'. Refute it at one input. -/
def oplogAscendingWrong : ChangeSpec := { name := "oplogAscending", fn := fun _ => fun
  | [d] => { results := [.lit (.bool false)], args := [d] }
  | _ => none }
def OplogAscendingWrongFalsely : Prop := oplogAscendingRow.holds Try.pinned (OpenSpec.ofChange oplogAscendingWrong)

/-- 'voussoirlaw39.OplogMonotonicity': WHATEVER THE INPUT: true; the input reads as it did. -/
def oplogMonotonicitySpec : ChangeSpec := { name := "oplogMonotonicity", fn := fun _ => fun
  | [d1, d2, d3] => { results := [.lit (.bool true)], args := [d1, d2, d3] }
  | _ => none }
def oplogMonotonicityRow : OpenClaim := { program := "ytlboedhconemnaa", sum := "90b5b69cf120d7a29d2f249968c1218a834c743b44376921ad0d500bb954bd5c", func := "voussoir/voussoirlaw39.OplogMonotonicity", spec := "oplogMonotonicity", inPlace := ["internal/bytealg.abigen_runtime_cmpstring"], unfollowed := true, recurses := true, plainKeys := false, apart := false }
def OplogMonotonicitySaid : Prop := oplogMonotonicityRow.holds Try.pinned (OpenSpec.ofChange oplogMonotonicitySpec)

/-- ITS FALSE NEIGHBOUR: 'it returns false'. Refute it at one input. -/
def oplogMonotonicityWrong : ChangeSpec := { name := "oplogMonotonicity", fn := fun _ => fun
  | [d1, d2, d3] => { results := [.lit (.bool false)], args := [d1, d2, d3] }
  | _ => none }
def OplogMonotonicityWrongFalsely : Prop := oplogMonotonicityRow.holds Try.pinned (OpenSpec.ofChange oplogMonotonicityWrong)

/-- 'voussoirlaw47.StabilityKnown': WHATEVER THE INPUT: true; the input reads as it did. -/
def stabilityKnownSpec : ChangeSpec := { name := "stabilityKnown", fn := fun _ => fun
  | [d1, d2, d3] => { results := [.lit (.bool true)], args := [d1, d2, d3] }
  | _ => none }
def stabilityKnownRow : OpenClaim := { program := "ytlboedhconemnaa", sum := "90b5b69cf120d7a29d2f249968c1218a834c743b44376921ad0d500bb954bd5c", func := "voussoir/voussoirlaw47.StabilityKnown", spec := "stabilityKnown", inPlace := ["internal/bytealg.abigen_runtime_cmpstring"], unfollowed := true, recurses := true, plainKeys := false, apart := false }
def StabilityKnownSaid : Prop := stabilityKnownRow.holds Try.pinned (OpenSpec.ofChange stabilityKnownSpec)

/-- ITS FALSE NEIGHBOUR: 'it returns false'. Refute it at one input. -/
def stabilityKnownWrong : ChangeSpec := { name := "stabilityKnown", fn := fun _ => fun
  | [d1, d2, d3] => { results := [.lit (.bool false)], args := [d1, d2, d3] }
  | _ => none }
def StabilityKnownWrongFalsely : Prop := stabilityKnownRow.holds Try.pinned (OpenSpec.ofChange stabilityKnownWrong)

/-- 'voussoirlaw47.StabilityClock': WHATEVER THE INPUT: true; the input reads as it did. -/
def stabilityClockSpec : ChangeSpec := { name := "stabilityClock", fn := fun _ => fun
  | [d1, d2, d3] => { results := [.lit (.bool true)], args := [d1, d2, d3] }
  | _ => none }
def stabilityClockRow : OpenClaim := { program := "ytlboedhconemnaa", sum := "90b5b69cf120d7a29d2f249968c1218a834c743b44376921ad0d500bb954bd5c", func := "voussoir/voussoirlaw47.StabilityClock", spec := "stabilityClock", inPlace := ["internal/bytealg.abigen_runtime_cmpstring"], unfollowed := true, recurses := true, plainKeys := false, apart := false }
def StabilityClockSaid : Prop := stabilityClockRow.holds Try.pinned (OpenSpec.ofChange stabilityClockSpec)

/-- ITS FALSE NEIGHBOUR: 'it returns false'. Refute it at one input. -/
def stabilityClockWrong : ChangeSpec := { name := "stabilityClock", fn := fun _ => fun
  | [d1, d2, d3] => { results := [.lit (.bool false)], args := [d1, d2, d3] }
  | _ => none }
def StabilityClockWrongFalsely : Prop := stabilityClockRow.holds Try.pinned (OpenSpec.ofChange stabilityClockWrong)

/-- 'voussoirlaw47.StabilityMonotonicity': WHATEVER THE INPUT: true; the input reads as it did. -/
def stabilityMonotonicitySpec : ChangeSpec := { name := "stabilityMonotonicity", fn := fun _ => fun
  | [d1, d2, d3] => { results := [.lit (.bool true)], args := [d1, d2, d3] }
  | _ => none }
def stabilityMonotonicityRow : OpenClaim := { program := "ytlboedhconemnaa", sum := "90b5b69cf120d7a29d2f249968c1218a834c743b44376921ad0d500bb954bd5c", func := "voussoir/voussoirlaw47.StabilityMonotonicity", spec := "stabilityMonotonicity", inPlace := ["internal/bytealg.abigen_runtime_cmpstring"], unfollowed := true, recurses := true, plainKeys := false, apart := false }
def StabilityMonotonicitySaid : Prop := stabilityMonotonicityRow.holds Try.pinned (OpenSpec.ofChange stabilityMonotonicitySpec)

/-- ITS FALSE NEIGHBOUR: 'it returns false'. Refute it at one input. -/
def stabilityMonotonicityWrong : ChangeSpec := { name := "stabilityMonotonicity", fn := fun _ => fun
  | [d1, d2, d3] => { results := [.lit (.bool false)], args := [d1, d2, d3] }
  | _ => none }
def StabilityMonotonicityWrongFalsely : Prop := stabilityMonotonicityRow.holds Try.pinned (OpenSpec.ofChange stabilityMonotonicityWrong)

/-- 'voussoirlaw47.StabilitySlowest': WHATEVER THE INPUT: true; the input reads as it did. -/
def stabilitySlowestSpec : ChangeSpec := { name := "stabilitySlowest", fn := fun _ => fun
  | [d1, d2, d3] => { results := [.lit (.bool true)], args := [d1, d2, d3] }
  | _ => none }
def stabilitySlowestRow : OpenClaim := { program := "ytlboedhconemnaa", sum := "90b5b69cf120d7a29d2f249968c1218a834c743b44376921ad0d500bb954bd5c", func := "voussoir/voussoirlaw47.StabilitySlowest", spec := "stabilitySlowest", inPlace := ["internal/bytealg.abigen_runtime_cmpstring"], unfollowed := true, recurses := true, plainKeys := false, apart := false }
def StabilitySlowestSaid : Prop := stabilitySlowestRow.holds Try.pinned (OpenSpec.ofChange stabilitySlowestSpec)

/-- ITS FALSE NEIGHBOUR: 'it returns false'. Refute it at one input. -/
def stabilitySlowestWrong : ChangeSpec := { name := "stabilitySlowest", fn := fun _ => fun
  | [d1, d2, d3] => { results := [.lit (.bool false)], args := [d1, d2, d3] }
  | _ => none }
def StabilitySlowestWrongFalsely : Prop := stabilitySlowestRow.holds Try.pinned (OpenSpec.ofChange stabilitySlowestWrong)

/-- 'voussoirlaw47.StabilityLimits': WHATEVER THE INPUT: true; the input reads as it did. -/
def stabilityLimitsSpec : ChangeSpec := { name := "stabilityLimits", fn := fun _ => fun
  | [d1, d2, d3] => { results := [.lit (.bool true)], args := [d1, d2, d3] }
  | _ => none }
def stabilityLimitsRow : OpenClaim := { program := "ytlboedhconemnaa", sum := "90b5b69cf120d7a29d2f249968c1218a834c743b44376921ad0d500bb954bd5c", func := "voussoir/voussoirlaw47.StabilityLimits", spec := "stabilityLimits", inPlace := ["internal/bytealg.abigen_runtime_cmpstring"], unfollowed := true, recurses := true, plainKeys := false, apart := false }
def StabilityLimitsSaid : Prop := stabilityLimitsRow.holds Try.pinned (OpenSpec.ofChange stabilityLimitsSpec)

/-- ITS FALSE NEIGHBOUR: 'it returns false'. Refute it at one input. -/
def stabilityLimitsWrong : ChangeSpec := { name := "stabilityLimits", fn := fun _ => fun
  | [d1, d2, d3] => { results := [.lit (.bool false)], args := [d1, d2, d3] }
  | _ => none }
def StabilityLimitsWrongFalsely : Prop := stabilityLimitsRow.holds Try.pinned (OpenSpec.ofChange stabilityLimitsWrong)

/-- 'voussoirlaw39.OplogSetSemantics': WHATEVER THE INPUT: true; the input reads as it did. -/
def oplogSetSemanticsSpec : ChangeSpec := { name := "oplogSetSemantics", fn := fun _ => fun
  | [d1, d2, d3] => { results := [.lit (.bool true)], args := [d1, d2, d3] }
  | _ => none }
def oplogSetSemanticsRow : OpenClaim := { program := "ytlboedhconemnaa", sum := "90b5b69cf120d7a29d2f249968c1218a834c743b44376921ad0d500bb954bd5c", func := "voussoir/voussoirlaw39.OplogSetSemantics", spec := "oplogSetSemantics", inPlace := ["internal/bytealg.abigen_runtime_cmpstring"], unfollowed := true, recurses := true, plainKeys := false, apart := false }
def OplogSetSemanticsSaid : Prop := oplogSetSemanticsRow.holds Try.pinned (OpenSpec.ofChange oplogSetSemanticsSpec)

/-- ITS FALSE NEIGHBOUR: 'it returns false'. Refute it at one input. -/
def oplogSetSemanticsWrong : ChangeSpec := { name := "oplogSetSemantics", fn := fun _ => fun
  | [d1, d2, d3] => { results := [.lit (.bool false)], args := [d1, d2, d3] }
  | _ => none }
def OplogSetSemanticsWrongFalsely : Prop := oplogSetSemanticsRow.holds Try.pinned (OpenSpec.ofChange oplogSetSemanticsWrong)

/-- 'voussoirlaw39.OplogSort': WHATEVER THE INPUT: true; the input reads as it did. -/
def oplogSortSpec : ChangeSpec := { name := "oplogSort", fn := fun _ => fun
  | [d1, d2] => { results := [.lit (.bool true)], args := [d1, d2] }
  | _ => none }
def oplogSortRow : OpenClaim := { program := "ytlboedhconemnaa", sum := "90b5b69cf120d7a29d2f249968c1218a834c743b44376921ad0d500bb954bd5c", func := "voussoir/voussoirlaw39.OplogSort", spec := "oplogSort", inPlace := ["internal/bytealg.abigen_runtime_cmpstring"], unfollowed := true, recurses := true, plainKeys := false, apart := false }
def OplogSortSaid : Prop := oplogSortRow.holds Try.pinned (OpenSpec.ofChange oplogSortSpec)

/-- ITS FALSE NEIGHBOUR: 'it returns false'. Refute it at one input. -/
def oplogSortWrong : ChangeSpec := { name := "oplogSort", fn := fun _ => fun
  | [d1, d2] => { results := [.lit (.bool false)], args := [d1, d2] }
  | _ => none }
def OplogSortWrongFalsely : Prop := oplogSortRow.holds Try.pinned (OpenSpec.ofChange oplogSortWrong)

/-- 'voussoirlaw47.StabilityOrder': WHATEVER THE INPUT: true; the input reads as it did. -/
def stabilityOrderSpec : ChangeSpec := { name := "stabilityOrder", fn := fun _ => fun
  | [d1, d2, d3] => { results := [.lit (.bool true)], args := [d1, d2, d3] }
  | _ => none }
def stabilityOrderRow : OpenClaim := { program := "ytlboedhconemnaa", sum := "90b5b69cf120d7a29d2f249968c1218a834c743b44376921ad0d500bb954bd5c", func := "voussoir/voussoirlaw47.StabilityOrder", spec := "stabilityOrder", inPlace := ["internal/bytealg.abigen_runtime_cmpstring"], unfollowed := true, recurses := true, plainKeys := false, apart := false }
def StabilityOrderSaid : Prop := stabilityOrderRow.holds Try.pinned (OpenSpec.ofChange stabilityOrderSpec)

/-- ITS FALSE NEIGHBOUR: 'it returns false'. Refute it at one input. -/
def stabilityOrderWrong : ChangeSpec := { name := "stabilityOrder", fn := fun _ => fun
  | [d1, d2, d3] => { results := [.lit (.bool false)], args := [d1, d2, d3] }
  | _ => none }
def StabilityOrderWrongFalsely : Prop := stabilityOrderRow.holds Try.pinned (OpenSpec.ofChange stabilityOrderWrong)

/- THE SECOND FORM. 'bulk': how many values and letters a reading holds, each counted each time it is reached (what is shared counts as often as it is met; a slice's spare places count too). A statement '..UptoSaid' is the law's where the arguments, and the package variables that the reading takes, are together of bulk at most 1048576: NARROWER than '..Said'. Prove '..Said' where nothing that the law and all that it calls make is longer than what came in: it says more and counts as full. Else prove '..UptoSaid'. A law counts once. -/
mutual
def uptoBulk {H : Type} : DataW H → Nat
  | .lit (.string bytes) => bytes.length + 1
  | .lit _ => 1
  | .nil => 1
  | .ptr d => uptoBulk d + 1
  | .slice elems spare => uptoBulkAll elems + uptoBulkAll spare + 1
  | .agg parts => uptoBulkAll parts + 1
  | .iface _ d => uptoBulk d + 1
  | .map entries => uptoBulkEntries entries + 1
  | .held _ => 1
def uptoBulkAll {H : Type} : List (DataW H) → Nat
  | [] => 0
  | d :: r => uptoBulk d + uptoBulkAll r
def uptoBulkEntries {H : Type} : List (Lit × DataW H) → Nat
  | [] => 0
  | x :: r => uptoBulkEntry x + uptoBulkEntries r
def uptoBulkEntry {H : Type} : Lit × DataW H → Nat
  | (.string bytes, d) => bytes.length + uptoBulk d + 1
  | (_, d) => uptoBulk d + 1
 end
def uptoSmall : (H : Type) → List (DataW H) → Bool := fun _ ds => decide (uptoBulkAll ds ≤ 1048576)
def OpenSpec.upto (s : _root_.Go.ChangeSpec) : _root_.Go.OpenSpec := { _root_.Go.OpenSpec.ofChange s with cond := some uptoSmall }

/-- 'voussoirlaw39.OplogEffective', WHERE WHAT IT READS IS OF BULK AT MOST 1048576: true; the input reads as it did. -/
def oplogEffectiveUptoRow : OpenClaim := { program := "ytlboedhconemnaa", sum := "90b5b69cf120d7a29d2f249968c1218a834c743b44376921ad0d500bb954bd5c", func := "voussoir/voussoirlaw39.OplogEffective", spec := "oplogEffective", inPlace := ["internal/bytealg.abigen_runtime_cmpstring"], unfollowed := true, recurses := true, plainKeys := false, apart := false, narrowed := true }
def OplogEffectiveUptoSaid : Prop := oplogEffectiveUptoRow.holds Try.pinned (OpenSpec.upto oplogEffectiveSpec)

/-- 'voussoirlaw39.OplogUnion', WHERE WHAT IT READS IS OF BULK AT MOST 1048576: true; the input reads as it did. -/
def oplogUnionUptoRow : OpenClaim := { program := "ytlboedhconemnaa", sum := "90b5b69cf120d7a29d2f249968c1218a834c743b44376921ad0d500bb954bd5c", func := "voussoir/voussoirlaw39.OplogUnion", spec := "oplogUnion", inPlace := ["internal/bytealg.abigen_runtime_cmpstring"], unfollowed := true, recurses := true, plainKeys := false, apart := false, narrowed := true }
def OplogUnionUptoSaid : Prop := oplogUnionUptoRow.holds Try.pinned (OpenSpec.upto oplogUnionSpec)

/-- 'voussoirlaw39.OplogAscending', WHERE WHAT IT READS IS OF BULK AT MOST 1048576: true; the input reads as it did. -/
def oplogAscendingUptoRow : OpenClaim := { program := "ytlboedhconemnaa", sum := "90b5b69cf120d7a29d2f249968c1218a834c743b44376921ad0d500bb954bd5c", func := "voussoir/voussoirlaw39.OplogAscending", spec := "oplogAscending", inPlace := ["internal/bytealg.abigen_runtime_cmpstring"], unfollowed := true, recurses := true, plainKeys := false, apart := false, narrowed := true }
def OplogAscendingUptoSaid : Prop := oplogAscendingUptoRow.holds Try.pinned (OpenSpec.upto oplogAscendingSpec)

/-- 'voussoirlaw39.OplogMonotonicity', WHERE WHAT IT READS IS OF BULK AT MOST 1048576: true; the input reads as it did. -/
def oplogMonotonicityUptoRow : OpenClaim := { program := "ytlboedhconemnaa", sum := "90b5b69cf120d7a29d2f249968c1218a834c743b44376921ad0d500bb954bd5c", func := "voussoir/voussoirlaw39.OplogMonotonicity", spec := "oplogMonotonicity", inPlace := ["internal/bytealg.abigen_runtime_cmpstring"], unfollowed := true, recurses := true, plainKeys := false, apart := false, narrowed := true }
def OplogMonotonicityUptoSaid : Prop := oplogMonotonicityUptoRow.holds Try.pinned (OpenSpec.upto oplogMonotonicitySpec)

/-- 'voussoirlaw47.StabilityKnown', WHERE WHAT IT READS IS OF BULK AT MOST 1048576: true; the input reads as it did. -/
def stabilityKnownUptoRow : OpenClaim := { program := "ytlboedhconemnaa", sum := "90b5b69cf120d7a29d2f249968c1218a834c743b44376921ad0d500bb954bd5c", func := "voussoir/voussoirlaw47.StabilityKnown", spec := "stabilityKnown", inPlace := ["internal/bytealg.abigen_runtime_cmpstring"], unfollowed := true, recurses := true, plainKeys := false, apart := false, narrowed := true }
def StabilityKnownUptoSaid : Prop := stabilityKnownUptoRow.holds Try.pinned (OpenSpec.upto stabilityKnownSpec)

/-- 'voussoirlaw47.StabilityClock', WHERE WHAT IT READS IS OF BULK AT MOST 1048576: true; the input reads as it did. -/
def stabilityClockUptoRow : OpenClaim := { program := "ytlboedhconemnaa", sum := "90b5b69cf120d7a29d2f249968c1218a834c743b44376921ad0d500bb954bd5c", func := "voussoir/voussoirlaw47.StabilityClock", spec := "stabilityClock", inPlace := ["internal/bytealg.abigen_runtime_cmpstring"], unfollowed := true, recurses := true, plainKeys := false, apart := false, narrowed := true }
def StabilityClockUptoSaid : Prop := stabilityClockUptoRow.holds Try.pinned (OpenSpec.upto stabilityClockSpec)

/-- 'voussoirlaw47.StabilityMonotonicity', WHERE WHAT IT READS IS OF BULK AT MOST 1048576: true; the input reads as it did. -/
def stabilityMonotonicityUptoRow : OpenClaim := { program := "ytlboedhconemnaa", sum := "90b5b69cf120d7a29d2f249968c1218a834c743b44376921ad0d500bb954bd5c", func := "voussoir/voussoirlaw47.StabilityMonotonicity", spec := "stabilityMonotonicity", inPlace := ["internal/bytealg.abigen_runtime_cmpstring"], unfollowed := true, recurses := true, plainKeys := false, apart := false, narrowed := true }
def StabilityMonotonicityUptoSaid : Prop := stabilityMonotonicityUptoRow.holds Try.pinned (OpenSpec.upto stabilityMonotonicitySpec)

/-- 'voussoirlaw47.StabilitySlowest', WHERE WHAT IT READS IS OF BULK AT MOST 1048576: true; the input reads as it did. -/
def stabilitySlowestUptoRow : OpenClaim := { program := "ytlboedhconemnaa", sum := "90b5b69cf120d7a29d2f249968c1218a834c743b44376921ad0d500bb954bd5c", func := "voussoir/voussoirlaw47.StabilitySlowest", spec := "stabilitySlowest", inPlace := ["internal/bytealg.abigen_runtime_cmpstring"], unfollowed := true, recurses := true, plainKeys := false, apart := false, narrowed := true }
def StabilitySlowestUptoSaid : Prop := stabilitySlowestUptoRow.holds Try.pinned (OpenSpec.upto stabilitySlowestSpec)

/-- 'voussoirlaw47.StabilityLimits', WHERE WHAT IT READS IS OF BULK AT MOST 1048576: true; the input reads as it did. -/
def stabilityLimitsUptoRow : OpenClaim := { program := "ytlboedhconemnaa", sum := "90b5b69cf120d7a29d2f249968c1218a834c743b44376921ad0d500bb954bd5c", func := "voussoir/voussoirlaw47.StabilityLimits", spec := "stabilityLimits", inPlace := ["internal/bytealg.abigen_runtime_cmpstring"], unfollowed := true, recurses := true, plainKeys := false, apart := false, narrowed := true }
def StabilityLimitsUptoSaid : Prop := stabilityLimitsUptoRow.holds Try.pinned (OpenSpec.upto stabilityLimitsSpec)

/-- 'voussoirlaw39.OplogSetSemantics', WHERE WHAT IT READS IS OF BULK AT MOST 1048576: true; the input reads as it did. -/
def oplogSetSemanticsUptoRow : OpenClaim := { program := "ytlboedhconemnaa", sum := "90b5b69cf120d7a29d2f249968c1218a834c743b44376921ad0d500bb954bd5c", func := "voussoir/voussoirlaw39.OplogSetSemantics", spec := "oplogSetSemantics", inPlace := ["internal/bytealg.abigen_runtime_cmpstring"], unfollowed := true, recurses := true, plainKeys := false, apart := false, narrowed := true }
def OplogSetSemanticsUptoSaid : Prop := oplogSetSemanticsUptoRow.holds Try.pinned (OpenSpec.upto oplogSetSemanticsSpec)

/-- 'voussoirlaw39.OplogSort', WHERE WHAT IT READS IS OF BULK AT MOST 1048576: true; the input reads as it did. -/
def oplogSortUptoRow : OpenClaim := { program := "ytlboedhconemnaa", sum := "90b5b69cf120d7a29d2f249968c1218a834c743b44376921ad0d500bb954bd5c", func := "voussoir/voussoirlaw39.OplogSort", spec := "oplogSort", inPlace := ["internal/bytealg.abigen_runtime_cmpstring"], unfollowed := true, recurses := true, plainKeys := false, apart := false, narrowed := true }
def OplogSortUptoSaid : Prop := oplogSortUptoRow.holds Try.pinned (OpenSpec.upto oplogSortSpec)

/-- 'voussoirlaw47.StabilityOrder', WHERE WHAT IT READS IS OF BULK AT MOST 1048576: true; the input reads as it did. -/
def stabilityOrderUptoRow : OpenClaim := { program := "ytlboedhconemnaa", sum := "90b5b69cf120d7a29d2f249968c1218a834c743b44376921ad0d500bb954bd5c", func := "voussoir/voussoirlaw47.StabilityOrder", spec := "stabilityOrder", inPlace := ["internal/bytealg.abigen_runtime_cmpstring"], unfollowed := true, recurses := true, plainKeys := false, apart := false, narrowed := true }
def StabilityOrderUptoSaid : Prop := stabilityOrderUptoRow.holds Try.pinned (OpenSpec.upto stabilityOrderSpec)

end Rows
end Go.Proofs.Ytlboedhconemnaa
