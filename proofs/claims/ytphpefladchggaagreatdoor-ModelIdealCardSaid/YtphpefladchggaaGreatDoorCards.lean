/-
  DERIVED. GIVEN WITH THE SEED: THE CARDS: each row of YtphpefladchggaaGreatDoorRows.lean that lists a variable, with what it lists TIED to the program's text (the seventh form; the later family's looks); each row that meets fmt, with fmt's text TOLD by the authors' own Lean function (tested against real Go, not proved from fmt's source: count such statements apart). THE CARD IS WHAT COUNTS. Prove the row's statement (the work); the ties are given (YtphpefladchggaaGreatDoorTie.lean); close each card by the builder's one call (the guide's Derived/Test/ToyasCard.lean, 'card_holds'). Laid BY PROGRAM, IN A SANDBOX (cutbox-door.mjs). By AI agents, Wed Nov 11 2026. No macro, syntax, notation, axiom, sorry.
-/
import Derived.Test.YtphpefladchggaaGreatDoorRows
import GoSem.ClaimSeven
namespace Go.Proofs.YtphpefladchggaaGreatDoor
namespace Rows

/-- THE TIED CARD OF 'roundhouselaw29.ModelIdeal'. -/
def modelIdealCard : Claim7 := { stood := { row := modelIdealRow, standIns := [], harness := (true, "f000af8e30fa8f5c8e4349c2071c127d4cbb9e9cb797b7919dce560c4ce4c040"), looks := false }, kinds := [], alts := [], laidByText := true, laidKinds := [.data, .data, .data], laidTests := true, laidLooks := .later }
def ModelIdealCardSaid : Prop := Claim7.holds Tryz.pinned (.plain (OpenSpec.ofChange modelIdealSpec)) modelIdealCard

/-- THE SECOND FORM's CARD OF 'roundhouselaw29.ModelIdeal'. -/
def modelIdealUptoCard : Claim7 := { stood := { row := modelIdealUptoRow, standIns := [], harness := (true, "f000af8e30fa8f5c8e4349c2071c127d4cbb9e9cb797b7919dce560c4ce4c040"), looks := false }, kinds := [], alts := [], laidByText := true, laidKinds := [.data, .data, .data], laidTests := true, laidLooks := .later }
def ModelIdealUptoCardSaid : Prop := Claim7.holds Tryz.pinned (.plain (OpenSpec.upto modelIdealSpec)) modelIdealUptoCard
end Rows
end Go.Proofs.YtphpefladchggaaGreatDoor
