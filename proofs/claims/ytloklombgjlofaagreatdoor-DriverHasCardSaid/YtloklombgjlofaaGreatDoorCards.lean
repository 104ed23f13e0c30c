/-
  DERIVED. GIVEN WITH THE SEED: THE CARDS: each row of YtloklombgjlofaaGreatDoorRows.lean that lists a variable, with what it lists TIED to the program's text (the seventh form; the later family's looks); each row that meets fmt, with fmt's text TOLD by the authors' own Lean function (tested against real Go, not proved from fmt's source: count such statements apart). THE CARD IS WHAT COUNTS. Prove the row's statement (the work); the ties are given (YtloklombgjlofaaGreatDoorTie.lean); close each card by the builder's one call (the guide's Derived/Test/ToyasCard.lean, 'card_holds'). Laid BY PROGRAM, IN A SANDBOX (cutbox-door.mjs). By AI agents, Wed Nov 11 2026. No macro, syntax, notation, axiom, sorry.
-/
import Derived.Test.YtloklombgjlofaaGreatDoorRows
import GoSem.ClaimSeven
namespace Go.Proofs.YtloklombgjlofaaGreatDoor
namespace Rows

/-- THE TIED CARD OF 'roundhouselaw21.DriverHas'. -/
def driverHasCard : Claim7 := { stood := { row := driverHasRow, standIns := [], harness := (true, "31d6c86a1ab9c1a50355cc49b627131c49c626ffb48da0f2521347d05b14c85a"), looks := false }, kinds := [], alts := [], laidByText := true, laidKinds := [.data], laidTests := true, laidLooks := .later }
def DriverHasCardSaid : Prop := Claim7.holds Tryz.pinned (.plain (OpenSpec.ofChange driverHasSpec)) driverHasCard

/-- THE TIED CARD OF 'roundhouselaw21.DriverNames'. -/
def driverNamesCard : Claim7 := { stood := { row := driverNamesRow, standIns := [], harness := (true, "31d6c86a1ab9c1a50355cc49b627131c49c626ffb48da0f2521347d05b14c85a"), looks := false }, kinds := [], alts := [], laidByText := true, laidKinds := [.data, .data], laidTests := true, laidLooks := .later }
def DriverNamesCardSaid : Prop := Claim7.holds Tryz.pinned (.plain (OpenSpec.ofChange driverNamesSpec)) driverNamesCard

/-- THE SECOND FORM's CARD OF 'roundhouselaw21.DriverHas'. -/
def driverHasUptoCard : Claim7 := { stood := { row := driverHasUptoRow, standIns := [], harness := (true, "31d6c86a1ab9c1a50355cc49b627131c49c626ffb48da0f2521347d05b14c85a"), looks := false }, kinds := [], alts := [], laidByText := true, laidKinds := [.data], laidTests := true, laidLooks := .later }
def DriverHasUptoCardSaid : Prop := Claim7.holds Tryz.pinned (.plain (OpenSpec.upto driverHasSpec)) driverHasUptoCard

/-- THE SECOND FORM's CARD OF 'roundhouselaw21.DriverNames'. -/
def driverNamesUptoCard : Claim7 := { stood := { row := driverNamesUptoRow, standIns := [], harness := (true, "31d6c86a1ab9c1a50355cc49b627131c49c626ffb48da0f2521347d05b14c85a"), looks := false }, kinds := [], alts := [], laidByText := true, laidKinds := [.data, .data], laidTests := true, laidLooks := .later }
def DriverNamesUptoCardSaid : Prop := Claim7.holds Tryz.pinned (.plain (OpenSpec.upto driverNamesSpec)) driverNamesUptoCard
end Rows
end Go.Proofs.YtloklombgjlofaaGreatDoor
