/-
  DERIVED. GIVEN WITH THE SEED: THE CARDS: each row of YthgnlejjbhijfaaGreatDoorRows.lean that lists a variable, with what it lists TIED to the program's text (the seventh form; the later family's looks); each row that meets fmt, with fmt's text TOLD by the authors' own Lean function (tested against real Go, not proved from fmt's source: count such statements apart). THE CARD IS WHAT COUNTS. Prove the row's statement (the work); the ties are given (YthgnlejjbhijfaaGreatDoorTie.lean); close each card by the builder's one call (the guide's Derived/Test/ToyasCard.lean, 'card_holds'). Laid BY PROGRAM, IN A SANDBOX (cutbox-door.mjs). By AI agents, Wed Nov 11 2026. No macro, syntax, notation, axiom, sorry.
-/
import Derived.Test.YthgnlejjbhijfaaGreatDoorRows
import GoSem.ClaimSeven
namespace Go.Proofs.YthgnlejjbhijfaaGreatDoor
namespace Rows

/-- THE TIED CARD OF 'voussoirlaw46.EvictCutoffs'. -/
def evictCutoffsCard : Claim7 := { stood := { row := evictCutoffsRow, standIns := [], harness := (true, "2384880b1fda94b64232a7d4547d606a1a918367089da0e96a732a58f7c0c30f"), looks := false }, kinds := [], alts := [], laidByText := true, laidKinds := [.data, .pinned], laidTests := true, laidLooks := .later }
def EvictCutoffsCardSaid : Prop := Claim7.holds Tryz.pinned (.plain (OpenSpec.ofChange evictCutoffsSpec)) evictCutoffsCard

/-- THE TIED CARD OF 'voussoirlaw46.EvictMinority'. -/
def evictMinorityCard : Claim7 := { stood := { row := evictMinorityRow, standIns := [], harness := (true, "2384880b1fda94b64232a7d4547d606a1a918367089da0e96a732a58f7c0c30f"), looks := false }, kinds := [], alts := [], laidByText := true, laidKinds := [.data, .pinned], laidTests := true, laidLooks := .later }
def EvictMinorityCardSaid : Prop := Claim7.holds Tryz.pinned (.plain (OpenSpec.ofChange evictMinoritySpec)) evictMinorityCard

/-- THE TIED CARD OF 'voussoirlaw46.EvictLate'. -/
def evictLateCard : Claim7 := { stood := { row := evictLateRow, standIns := [], harness := (true, "2384880b1fda94b64232a7d4547d606a1a918367089da0e96a732a58f7c0c30f"), looks := false }, kinds := [], alts := [], laidByText := true, laidKinds := [.data, .pinned], laidTests := true, laidLooks := .later }
def EvictLateCardSaid : Prop := Claim7.holds Tryz.pinned (.plain (OpenSpec.ofChange evictLateSpec)) evictLateCard

/-- THE TIED CARD OF 'voussoirlaw46.EvictNotes'. -/
def evictNotesCard : Claim7 := { stood := { row := evictNotesRow, standIns := [], harness := (true, "2384880b1fda94b64232a7d4547d606a1a918367089da0e96a732a58f7c0c30f"), looks := false }, kinds := [], alts := [], laidByText := true, laidKinds := [.data, .pinned], laidTests := true, laidLooks := .later }
def EvictNotesCardSaid : Prop := Claim7.holds Tryz.pinned (.plain (OpenSpec.ofChange evictNotesSpec)) evictNotesCard

/-- THE TIED CARD OF 'voussoirlaw46.EvictOrder'. -/
def evictOrderCard : Claim7 := { stood := { row := evictOrderRow, standIns := [], harness := (true, "2384880b1fda94b64232a7d4547d606a1a918367089da0e96a732a58f7c0c30f"), looks := false }, kinds := [], alts := [], laidByText := true, laidKinds := [.data, .pinned], laidTests := true, laidLooks := .later }
def EvictOrderCardSaid : Prop := Claim7.holds Tryz.pinned (.plain (OpenSpec.ofChange evictOrderSpec)) evictOrderCard

/-- THE TIED CARD OF 'voussoirlaw47.StabilityCutoffs'. -/
def stabilityCutoffsCard : Claim7 := { stood := { row := stabilityCutoffsRow, standIns := [], harness := (true, "2384880b1fda94b64232a7d4547d606a1a918367089da0e96a732a58f7c0c30f"), looks := false }, kinds := [], alts := [], laidByText := true, laidKinds := [.data, .pinned], laidTests := true, laidLooks := .later }
def StabilityCutoffsCardSaid : Prop := Claim7.holds Tryz.pinned (.plain (OpenSpec.ofChange stabilityCutoffsSpec)) stabilityCutoffsCard

/-- THE TIED CARD OF 'voussoirlaw46.EvictFinal'. -/
def evictFinalCard : Claim7 := { stood := { row := evictFinalRow, standIns := [], harness := (true, "2384880b1fda94b64232a7d4547d606a1a918367089da0e96a732a58f7c0c30f"), looks := false }, kinds := [], alts := [], laidByText := true, laidKinds := [.data, .pinned], laidTests := true, laidLooks := .later }
def EvictFinalCardSaid : Prop := Claim7.holds Tryz.pinned (.plain (OpenSpec.ofChange evictFinalSpec)) evictFinalCard

/-- THE TIED CARD OF 'voussoirlaw46.EvictLowerBound'. -/
def evictLowerBoundCard : Claim7 := { stood := { row := evictLowerBoundRow, standIns := [], harness := (true, "2384880b1fda94b64232a7d4547d606a1a918367089da0e96a732a58f7c0c30f"), looks := false }, kinds := [], alts := [], laidByText := true, laidKinds := [.data, .pinned], laidTests := true, laidLooks := .later }
def EvictLowerBoundCardSaid : Prop := Claim7.holds Tryz.pinned (.plain (OpenSpec.ofChange evictLowerBoundSpec)) evictLowerBoundCard

/-- THE SECOND FORM's CARD OF 'voussoirlaw46.EvictCutoffs'. -/
def evictCutoffsUptoCard : Claim7 := { stood := { row := evictCutoffsUptoRow, standIns := [], harness := (true, "2384880b1fda94b64232a7d4547d606a1a918367089da0e96a732a58f7c0c30f"), looks := false }, kinds := [], alts := [], laidByText := true, laidKinds := [.data, .pinned], laidTests := true, laidLooks := .later }
def EvictCutoffsUptoCardSaid : Prop := Claim7.holds Tryz.pinned (.plain (OpenSpec.upto evictCutoffsSpec)) evictCutoffsUptoCard

/-- THE SECOND FORM's CARD OF 'voussoirlaw46.EvictMinority'. -/
def evictMinorityUptoCard : Claim7 := { stood := { row := evictMinorityUptoRow, standIns := [], harness := (true, "2384880b1fda94b64232a7d4547d606a1a918367089da0e96a732a58f7c0c30f"), looks := false }, kinds := [], alts := [], laidByText := true, laidKinds := [.data, .pinned], laidTests := true, laidLooks := .later }
def EvictMinorityUptoCardSaid : Prop := Claim7.holds Tryz.pinned (.plain (OpenSpec.upto evictMinoritySpec)) evictMinorityUptoCard

/-- THE SECOND FORM's CARD OF 'voussoirlaw46.EvictLate'. -/
def evictLateUptoCard : Claim7 := { stood := { row := evictLateUptoRow, standIns := [], harness := (true, "2384880b1fda94b64232a7d4547d606a1a918367089da0e96a732a58f7c0c30f"), looks := false }, kinds := [], alts := [], laidByText := true, laidKinds := [.data, .pinned], laidTests := true, laidLooks := .later }
def EvictLateUptoCardSaid : Prop := Claim7.holds Tryz.pinned (.plain (OpenSpec.upto evictLateSpec)) evictLateUptoCard

/-- THE SECOND FORM's CARD OF 'voussoirlaw46.EvictNotes'. -/
def evictNotesUptoCard : Claim7 := { stood := { row := evictNotesUptoRow, standIns := [], harness := (true, "2384880b1fda94b64232a7d4547d606a1a918367089da0e96a732a58f7c0c30f"), looks := false }, kinds := [], alts := [], laidByText := true, laidKinds := [.data, .pinned], laidTests := true, laidLooks := .later }
def EvictNotesUptoCardSaid : Prop := Claim7.holds Tryz.pinned (.plain (OpenSpec.upto evictNotesSpec)) evictNotesUptoCard

/-- THE SECOND FORM's CARD OF 'voussoirlaw46.EvictOrder'. -/
def evictOrderUptoCard : Claim7 := { stood := { row := evictOrderUptoRow, standIns := [], harness := (true, "2384880b1fda94b64232a7d4547d606a1a918367089da0e96a732a58f7c0c30f"), looks := false }, kinds := [], alts := [], laidByText := true, laidKinds := [.data, .pinned], laidTests := true, laidLooks := .later }
def EvictOrderUptoCardSaid : Prop := Claim7.holds Tryz.pinned (.plain (OpenSpec.upto evictOrderSpec)) evictOrderUptoCard

/-- THE SECOND FORM's CARD OF 'voussoirlaw47.StabilityCutoffs'. -/
def stabilityCutoffsUptoCard : Claim7 := { stood := { row := stabilityCutoffsUptoRow, standIns := [], harness := (true, "2384880b1fda94b64232a7d4547d606a1a918367089da0e96a732a58f7c0c30f"), looks := false }, kinds := [], alts := [], laidByText := true, laidKinds := [.data, .pinned], laidTests := true, laidLooks := .later }
def StabilityCutoffsUptoCardSaid : Prop := Claim7.holds Tryz.pinned (.plain (OpenSpec.upto stabilityCutoffsSpec)) stabilityCutoffsUptoCard

/-- THE SECOND FORM's CARD OF 'voussoirlaw46.EvictFinal'. -/
def evictFinalUptoCard : Claim7 := { stood := { row := evictFinalUptoRow, standIns := [], harness := (true, "2384880b1fda94b64232a7d4547d606a1a918367089da0e96a732a58f7c0c30f"), looks := false }, kinds := [], alts := [], laidByText := true, laidKinds := [.data, .pinned], laidTests := true, laidLooks := .later }
def EvictFinalUptoCardSaid : Prop := Claim7.holds Tryz.pinned (.plain (OpenSpec.upto evictFinalSpec)) evictFinalUptoCard

/-- THE SECOND FORM's CARD OF 'voussoirlaw46.EvictLowerBound'. -/
def evictLowerBoundUptoCard : Claim7 := { stood := { row := evictLowerBoundUptoRow, standIns := [], harness := (true, "2384880b1fda94b64232a7d4547d606a1a918367089da0e96a732a58f7c0c30f"), looks := false }, kinds := [], alts := [], laidByText := true, laidKinds := [.data, .pinned], laidTests := true, laidLooks := .later }
def EvictLowerBoundUptoCardSaid : Prop := Claim7.holds Tryz.pinned (.plain (OpenSpec.upto evictLowerBoundSpec)) evictLowerBoundUptoCard
end Rows
end Go.Proofs.YthgnlejjbhijfaaGreatDoor
