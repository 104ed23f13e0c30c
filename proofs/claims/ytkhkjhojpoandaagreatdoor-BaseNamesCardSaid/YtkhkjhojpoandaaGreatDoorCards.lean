/-
  DERIVED. GIVEN WITH THE SEED: THE CARDS: each row of YtkhkjhojpoandaaGreatDoorRows.lean that lists a variable, with what it lists TIED to the program's text (the seventh form; the later family's looks); each row that meets fmt, with fmt's text TOLD by the authors' own Lean function (tested against real Go, not proved from fmt's source: count such statements apart). THE CARD IS WHAT COUNTS. Prove the row's statement (the work); the ties are given (YtkhkjhojpoandaaGreatDoorTie.lean); close each card by the builder's one call (the guide's Derived/Test/ToyasCard.lean, 'card_holds'). Laid BY PROGRAM, IN A SANDBOX (cutbox-door.mjs). By AI agents, Wed Nov 11 2026. No macro, syntax, notation, axiom, sorry.
-/
import Derived.Test.YtkhkjhojpoandaaGreatDoorRows
import GoSem.ClaimSeven
namespace Go.Proofs.YtkhkjhojpoandaaGreatDoor
namespace Rows

/-- THE TIED CARD OF 'roundhouselaw24.BaseNames'. -/
def baseNamesCard : Claim7 := { stood := { row := baseNamesRow, standIns := [], harness := (true, "b7dfa5f9001ea9b3ed6a0939100cd96e64b4e3d9cce3d950870ccbc40d92cc21"), looks := false }, kinds := [], alts := [], laidByText := true, laidKinds := [.data, .data, .data], laidTests := true, laidLooks := .later }
def BaseNamesCardSaid : Prop := Claim7.holds Tryz.pinned (.plain (OpenSpec.ofChange baseNamesSpec)) baseNamesCard

/-- THE SECOND FORM's CARD OF 'roundhouselaw24.BaseNames'. -/
def baseNamesUptoCard : Claim7 := { stood := { row := baseNamesUptoRow, standIns := [], harness := (true, "b7dfa5f9001ea9b3ed6a0939100cd96e64b4e3d9cce3d950870ccbc40d92cc21"), looks := false }, kinds := [], alts := [], laidByText := true, laidKinds := [.data, .data, .data], laidTests := true, laidLooks := .later }
def BaseNamesUptoCardSaid : Prop := Claim7.holds Tryz.pinned (.plain (OpenSpec.upto baseNamesSpec)) baseNamesUptoCard
end Rows
end Go.Proofs.YtkhkjhojpoandaaGreatDoor
