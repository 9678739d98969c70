/-
  DERIVED. GIVEN WITH THE SEED: THE CARDS: each row of YtbehhclclhfhkaaGreatDoorRows.lean that lists a variable, with what it lists TIED to the program's text (the seventh form; the later family's looks); each row that meets fmt, with fmt's text TOLD by the authors' own Lean function (tested against real Go, not proved from fmt's source: count such statements apart). THE CARD IS WHAT COUNTS. Prove the row's statement (the work); the ties are given (YtbehhclclhfhkaaGreatDoorTie.lean); close each card by the builder's one call (the guide's Derived/Test/ToyasCard.lean, 'card_holds'). Laid BY PROGRAM, IN A SANDBOX (cutbox-door.mjs). By AI agents, Wed Nov 11 2026. No macro, syntax, notation, axiom, sorry.
-/
import Derived.Test.YtbehhclclhfhkaaGreatDoorRows
import GoSem.ClaimSeven
namespace Go.Proofs.YtbehhclclhfhkaaGreatDoor
namespace Rows

/-- THE TIED CARD OF 'voussoirlaw41.MovetreeApplication'. -/
def movetreeApplicationCard : Claim7 := { stood := { row := movetreeApplicationRow, standIns := [], harness := (true, "f181fd13f388f2355f1a01efd0ed3816b90fc490083b2c30098b873839954943"), looks := false }, kinds := [], alts := [], laidByText := true, laidKinds := [.data, .data, .pinned], laidTests := true, laidLooks := .later }
def MovetreeApplicationCardSaid : Prop := Claim7.holds Tryz.pinned (.plain (OpenSpec.ofChange movetreeApplicationSpec)) movetreeApplicationCard

/-- THE TIED CARD OF 'voussoirlaw41.MovetreeValidity'. -/
def movetreeValidityCard : Claim7 := { stood := { row := movetreeValidityRow, standIns := [], harness := (true, "f181fd13f388f2355f1a01efd0ed3816b90fc490083b2c30098b873839954943"), looks := false }, kinds := [], alts := [], laidByText := true, laidKinds := [.data, .data, .pinned], laidTests := true, laidLooks := .later }
def MovetreeValidityCardSaid : Prop := Claim7.holds Tryz.pinned (.plain (OpenSpec.ofChange movetreeValiditySpec)) movetreeValidityCard

/-- THE TIED CARD OF 'voussoirlaw41.MovetreeBatches'. -/
def movetreeBatchesCard : Claim7 := { stood := { row := movetreeBatchesRow, standIns := [], harness := (true, "f181fd13f388f2355f1a01efd0ed3816b90fc490083b2c30098b873839954943"), looks := false }, kinds := [], alts := [], laidByText := true, laidKinds := [.data, .data, .pinned], laidTests := true, laidLooks := .later }
def MovetreeBatchesCardSaid : Prop := Claim7.holds Tryz.pinned (.plain (OpenSpec.ofChange movetreeBatchesSpec)) movetreeBatchesCard

/-- THE TIED CARD OF 'voussoirlaw41.MovetreeOrderKeys'. -/
def movetreeOrderKeysCard : Claim7 := { stood := { row := movetreeOrderKeysRow, standIns := [], harness := (true, "f181fd13f388f2355f1a01efd0ed3816b90fc490083b2c30098b873839954943"), looks := false }, kinds := [], alts := [], laidByText := true, laidKinds := [.data, .data, .pinned], laidTests := true, laidLooks := .later }
def MovetreeOrderKeysCardSaid : Prop := Claim7.holds Tryz.pinned (.plain (OpenSpec.ofChange movetreeOrderKeysSpec)) movetreeOrderKeysCard

/-- THE TIED CARD OF 'voussoirlaw41.MovetreeDeletion'. -/
def movetreeDeletionCard : Claim7 := { stood := { row := movetreeDeletionRow, standIns := [], harness := (true, "f181fd13f388f2355f1a01efd0ed3816b90fc490083b2c30098b873839954943"), looks := false }, kinds := [], alts := [], laidByText := true, laidKinds := [.data, .data, .pinned], laidTests := true, laidLooks := .later }
def MovetreeDeletionCardSaid : Prop := Claim7.holds Tryz.pinned (.plain (OpenSpec.ofChange movetreeDeletionSpec)) movetreeDeletionCard

/-- THE TIED CARD OF 'voussoirlaw41.MovetreeSimplestFraction'. -/
def movetreeSimplestFractionCard : Claim7 := { stood := { row := movetreeSimplestFractionRow, standIns := [], harness := (true, "f181fd13f388f2355f1a01efd0ed3816b90fc490083b2c30098b873839954943"), looks := false }, kinds := [], alts := [], laidByText := true, laidKinds := [.data, .data, .pinned], laidTests := true, laidLooks := .later }
def MovetreeSimplestFractionCardSaid : Prop := Claim7.holds Tryz.pinned (.plain (OpenSpec.ofChange movetreeSimplestFractionSpec)) movetreeSimplestFractionCard

/-- THE SECOND FORM's CARD OF 'voussoirlaw41.MovetreeApplication'. -/
def movetreeApplicationUptoCard : Claim7 := { stood := { row := movetreeApplicationUptoRow, standIns := [], harness := (true, "f181fd13f388f2355f1a01efd0ed3816b90fc490083b2c30098b873839954943"), looks := false }, kinds := [], alts := [], laidByText := true, laidKinds := [.data, .data, .pinned], laidTests := true, laidLooks := .later }
def MovetreeApplicationUptoCardSaid : Prop := Claim7.holds Tryz.pinned (.plain (OpenSpec.upto movetreeApplicationSpec)) movetreeApplicationUptoCard

/-- THE SECOND FORM's CARD OF 'voussoirlaw41.MovetreeValidity'. -/
def movetreeValidityUptoCard : Claim7 := { stood := { row := movetreeValidityUptoRow, standIns := [], harness := (true, "f181fd13f388f2355f1a01efd0ed3816b90fc490083b2c30098b873839954943"), looks := false }, kinds := [], alts := [], laidByText := true, laidKinds := [.data, .data, .pinned], laidTests := true, laidLooks := .later }
def MovetreeValidityUptoCardSaid : Prop := Claim7.holds Tryz.pinned (.plain (OpenSpec.upto movetreeValiditySpec)) movetreeValidityUptoCard

/-- THE SECOND FORM's CARD OF 'voussoirlaw41.MovetreeBatches'. -/
def movetreeBatchesUptoCard : Claim7 := { stood := { row := movetreeBatchesUptoRow, standIns := [], harness := (true, "f181fd13f388f2355f1a01efd0ed3816b90fc490083b2c30098b873839954943"), looks := false }, kinds := [], alts := [], laidByText := true, laidKinds := [.data, .data, .pinned], laidTests := true, laidLooks := .later }
def MovetreeBatchesUptoCardSaid : Prop := Claim7.holds Tryz.pinned (.plain (OpenSpec.upto movetreeBatchesSpec)) movetreeBatchesUptoCard

/-- THE SECOND FORM's CARD OF 'voussoirlaw41.MovetreeOrderKeys'. -/
def movetreeOrderKeysUptoCard : Claim7 := { stood := { row := movetreeOrderKeysUptoRow, standIns := [], harness := (true, "f181fd13f388f2355f1a01efd0ed3816b90fc490083b2c30098b873839954943"), looks := false }, kinds := [], alts := [], laidByText := true, laidKinds := [.data, .data, .pinned], laidTests := true, laidLooks := .later }
def MovetreeOrderKeysUptoCardSaid : Prop := Claim7.holds Tryz.pinned (.plain (OpenSpec.upto movetreeOrderKeysSpec)) movetreeOrderKeysUptoCard

/-- THE SECOND FORM's CARD OF 'voussoirlaw41.MovetreeDeletion'. -/
def movetreeDeletionUptoCard : Claim7 := { stood := { row := movetreeDeletionUptoRow, standIns := [], harness := (true, "f181fd13f388f2355f1a01efd0ed3816b90fc490083b2c30098b873839954943"), looks := false }, kinds := [], alts := [], laidByText := true, laidKinds := [.data, .data, .pinned], laidTests := true, laidLooks := .later }
def MovetreeDeletionUptoCardSaid : Prop := Claim7.holds Tryz.pinned (.plain (OpenSpec.upto movetreeDeletionSpec)) movetreeDeletionUptoCard

/-- THE SECOND FORM's CARD OF 'voussoirlaw41.MovetreeSimplestFraction'. -/
def movetreeSimplestFractionUptoCard : Claim7 := { stood := { row := movetreeSimplestFractionUptoRow, standIns := [], harness := (true, "f181fd13f388f2355f1a01efd0ed3816b90fc490083b2c30098b873839954943"), looks := false }, kinds := [], alts := [], laidByText := true, laidKinds := [.data, .data, .pinned], laidTests := true, laidLooks := .later }
def MovetreeSimplestFractionUptoCardSaid : Prop := Claim7.holds Tryz.pinned (.plain (OpenSpec.upto movetreeSimplestFractionSpec)) movetreeSimplestFractionUptoCard
end Rows
end Go.Proofs.YtbehhclclhfhkaaGreatDoor
