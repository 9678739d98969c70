/-
  DERIVED. GIVEN WITH THE SEED: THE CARDS: each row of YtocddjiebigmgaaGreatDoorRows.lean that lists a variable, with what it lists TIED to the program's text (the seventh form; the later family's looks); each row that meets fmt, with fmt's text TOLD by the authors' own Lean function (tested against real Go, not proved from fmt's source: count such statements apart). THE CARD IS WHAT COUNTS. Prove the row's statement (the work); the ties are given (YtocddjiebigmgaaGreatDoorTie.lean); close each card by the builder's one call (the guide's Derived/Test/ToyasCard.lean, 'card_holds'). Laid BY PROGRAM, IN A SANDBOX (cutbox-door.mjs). By AI agents, Wed Nov 11 2026. No macro, syntax, notation, axiom, sorry.
-/
import Derived.Test.YtocddjiebigmgaaGreatDoorRows
import GoSem.ClaimSeven
namespace Go.Proofs.YtocddjiebigmgaaGreatDoor
namespace Rows

/-- THE TIED CARD OF 'voussoirlaw44.CausalDelivery'. -/
def causalDeliveryCard : Claim7 := { stood := { row := causalDeliveryRow, standIns := [], harness := (true, "bf6bedf00cdf19d1f1070db336c64be1b77be6839aac0f4a79440d456cee3e7a"), looks := false }, kinds := [], alts := [], laidByText := true, laidKinds := [.data, .pinned], laidTests := true, laidLooks := .later }
def CausalDeliveryCardSaid : Prop := Claim7.holds Tryz.pinned (.plain (OpenSpec.ofChange causalDeliverySpec)) causalDeliveryCard

/-- THE TIED CARD OF 'voussoirlaw44.CausalOrder'. -/
def causalOrderCard : Claim7 := { stood := { row := causalOrderRow, standIns := [], harness := (true, "bf6bedf00cdf19d1f1070db336c64be1b77be6839aac0f4a79440d456cee3e7a"), looks := false }, kinds := [], alts := [], laidByText := true, laidKinds := [.data, .pinned], laidTests := true, laidLooks := .later }
def CausalOrderCardSaid : Prop := Claim7.holds Tryz.pinned (.plain (OpenSpec.ofChange causalOrderSpec)) causalOrderCard

/-- THE TIED CARD OF 'voussoirlaw44.CausalConfluence'. -/
def causalConfluenceCard : Claim7 := { stood := { row := causalConfluenceRow, standIns := [], harness := (true, "bf6bedf00cdf19d1f1070db336c64be1b77be6839aac0f4a79440d456cee3e7a"), looks := false }, kinds := [], alts := [], laidByText := true, laidKinds := [.data, .pinned], laidTests := true, laidLooks := .later }
def CausalConfluenceCardSaid : Prop := Claim7.holds Tryz.pinned (.plain (OpenSpec.ofChange causalConfluenceSpec)) causalConfluenceCard

/-- THE TIED CARD OF 'voussoirlaw44.CausalCompleteness'. -/
def causalCompletenessCard : Claim7 := { stood := { row := causalCompletenessRow, standIns := [], harness := (true, "bf6bedf00cdf19d1f1070db336c64be1b77be6839aac0f4a79440d456cee3e7a"), looks := false }, kinds := [], alts := [], laidByText := true, laidKinds := [.data, .pinned], laidTests := true, laidLooks := .later }
def CausalCompletenessCardSaid : Prop := Claim7.holds Tryz.pinned (.plain (OpenSpec.ofChange causalCompletenessSpec)) causalCompletenessCard

/-- THE TIED CARD OF 'voussoirlaw44.CausalDuplicates'. -/
def causalDuplicatesCard : Claim7 := { stood := { row := causalDuplicatesRow, standIns := [], harness := (true, "bf6bedf00cdf19d1f1070db336c64be1b77be6839aac0f4a79440d456cee3e7a"), looks := false }, kinds := [], alts := [], laidByText := true, laidKinds := [.data, .pinned], laidTests := true, laidLooks := .later }
def CausalDuplicatesCardSaid : Prop := Claim7.holds Tryz.pinned (.plain (OpenSpec.ofChange causalDuplicatesSpec)) causalDuplicatesCard

/-- THE TIED CARD OF 'voussoirlaw44.CausalMonotonicity'. -/
def causalMonotonicityCard : Claim7 := { stood := { row := causalMonotonicityRow, standIns := [], harness := (true, "bf6bedf00cdf19d1f1070db336c64be1b77be6839aac0f4a79440d456cee3e7a"), looks := false }, kinds := [], alts := [], laidByText := true, laidKinds := [.data, .pinned], laidTests := true, laidLooks := .later }
def CausalMonotonicityCardSaid : Prop := Claim7.holds Tryz.pinned (.plain (OpenSpec.ofChange causalMonotonicitySpec)) causalMonotonicityCard

/-- THE SECOND FORM's CARD OF 'voussoirlaw44.CausalDelivery'. -/
def causalDeliveryUptoCard : Claim7 := { stood := { row := causalDeliveryUptoRow, standIns := [], harness := (true, "bf6bedf00cdf19d1f1070db336c64be1b77be6839aac0f4a79440d456cee3e7a"), looks := false }, kinds := [], alts := [], laidByText := true, laidKinds := [.data, .pinned], laidTests := true, laidLooks := .later }
def CausalDeliveryUptoCardSaid : Prop := Claim7.holds Tryz.pinned (.plain (OpenSpec.upto causalDeliverySpec)) causalDeliveryUptoCard

/-- THE SECOND FORM's CARD OF 'voussoirlaw44.CausalOrder'. -/
def causalOrderUptoCard : Claim7 := { stood := { row := causalOrderUptoRow, standIns := [], harness := (true, "bf6bedf00cdf19d1f1070db336c64be1b77be6839aac0f4a79440d456cee3e7a"), looks := false }, kinds := [], alts := [], laidByText := true, laidKinds := [.data, .pinned], laidTests := true, laidLooks := .later }
def CausalOrderUptoCardSaid : Prop := Claim7.holds Tryz.pinned (.plain (OpenSpec.upto causalOrderSpec)) causalOrderUptoCard

/-- THE SECOND FORM's CARD OF 'voussoirlaw44.CausalConfluence'. -/
def causalConfluenceUptoCard : Claim7 := { stood := { row := causalConfluenceUptoRow, standIns := [], harness := (true, "bf6bedf00cdf19d1f1070db336c64be1b77be6839aac0f4a79440d456cee3e7a"), looks := false }, kinds := [], alts := [], laidByText := true, laidKinds := [.data, .pinned], laidTests := true, laidLooks := .later }
def CausalConfluenceUptoCardSaid : Prop := Claim7.holds Tryz.pinned (.plain (OpenSpec.upto causalConfluenceSpec)) causalConfluenceUptoCard

/-- THE SECOND FORM's CARD OF 'voussoirlaw44.CausalCompleteness'. -/
def causalCompletenessUptoCard : Claim7 := { stood := { row := causalCompletenessUptoRow, standIns := [], harness := (true, "bf6bedf00cdf19d1f1070db336c64be1b77be6839aac0f4a79440d456cee3e7a"), looks := false }, kinds := [], alts := [], laidByText := true, laidKinds := [.data, .pinned], laidTests := true, laidLooks := .later }
def CausalCompletenessUptoCardSaid : Prop := Claim7.holds Tryz.pinned (.plain (OpenSpec.upto causalCompletenessSpec)) causalCompletenessUptoCard

/-- THE SECOND FORM's CARD OF 'voussoirlaw44.CausalDuplicates'. -/
def causalDuplicatesUptoCard : Claim7 := { stood := { row := causalDuplicatesUptoRow, standIns := [], harness := (true, "bf6bedf00cdf19d1f1070db336c64be1b77be6839aac0f4a79440d456cee3e7a"), looks := false }, kinds := [], alts := [], laidByText := true, laidKinds := [.data, .pinned], laidTests := true, laidLooks := .later }
def CausalDuplicatesUptoCardSaid : Prop := Claim7.holds Tryz.pinned (.plain (OpenSpec.upto causalDuplicatesSpec)) causalDuplicatesUptoCard

/-- THE SECOND FORM's CARD OF 'voussoirlaw44.CausalMonotonicity'. -/
def causalMonotonicityUptoCard : Claim7 := { stood := { row := causalMonotonicityUptoRow, standIns := [], harness := (true, "bf6bedf00cdf19d1f1070db336c64be1b77be6839aac0f4a79440d456cee3e7a"), looks := false }, kinds := [], alts := [], laidByText := true, laidKinds := [.data, .pinned], laidTests := true, laidLooks := .later }
def CausalMonotonicityUptoCardSaid : Prop := Claim7.holds Tryz.pinned (.plain (OpenSpec.upto causalMonotonicitySpec)) causalMonotonicityUptoCard
end Rows
end Go.Proofs.YtocddjiebigmgaaGreatDoor
