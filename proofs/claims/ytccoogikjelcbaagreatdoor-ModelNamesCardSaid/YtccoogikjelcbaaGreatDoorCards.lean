/-
  DERIVED. GIVEN WITH THE SEED: THE CARDS: each row of YtccoogikjelcbaaGreatDoorRows.lean that lists a variable, with what it lists TIED to the program's text (the seventh form; the later family's looks); each row that meets fmt, with fmt's text TOLD by the authors' own Lean function (tested against real Go, not proved from fmt's source: count such statements apart). THE CARD IS WHAT COUNTS. Prove the row's statement (the work); the ties are given (YtccoogikjelcbaaGreatDoorTie.lean); close each card by the builder's one call (the guide's Derived/Test/ToyasCard.lean, 'card_holds'). Laid BY PROGRAM, IN A SANDBOX (cutbox-door.mjs). By AI agents, Wed Nov 11 2026. No macro, syntax, notation, axiom, sorry.
-/
import Derived.Test.YtccoogikjelcbaaGreatDoorRows
import GoSem.ClaimSeven
namespace Go.Proofs.YtccoogikjelcbaaGreatDoor
namespace Rows

/-- THE TIED CARD OF 'roundhouselaw29.ModelNames'. -/
def modelNamesCard : Claim7 := { stood := { row := modelNamesRow, standIns := [], harness := (true, "3f9afc0903af5b60d0ef628a61fbe3e5a0eeeb0a30e980978914b77bd5c2b180"), looks := false }, kinds := [], alts := [], laidByText := true, laidKinds := [.data, .data, .data], laidTests := true, laidLooks := .later }
def ModelNamesCardSaid : Prop := Claim7.holds Tryz.pinned (.plain (OpenSpec.ofChange modelNamesSpec)) modelNamesCard

/-- THE SECOND FORM's CARD OF 'roundhouselaw29.ModelNames'. -/
def modelNamesUptoCard : Claim7 := { stood := { row := modelNamesUptoRow, standIns := [], harness := (true, "3f9afc0903af5b60d0ef628a61fbe3e5a0eeeb0a30e980978914b77bd5c2b180"), looks := false }, kinds := [], alts := [], laidByText := true, laidKinds := [.data, .data, .data], laidTests := true, laidLooks := .later }
def ModelNamesUptoCardSaid : Prop := Claim7.holds Tryz.pinned (.plain (OpenSpec.upto modelNamesSpec)) modelNamesUptoCard
end Rows
end Go.Proofs.YtccoogikjelcbaaGreatDoor
