/-
  DERIVED. GIVEN WITH THE SEED: THE CARDS: each row of YtfajaihbhmbpnaaGreatDoorRows.lean that lists a variable, with what it lists TIED to the program's text (the seventh form; the later family's looks); each row that meets fmt, with fmt's text TOLD by the authors' own Lean function (tested against real Go, not proved from fmt's source: count such statements apart). THE CARD IS WHAT COUNTS. Prove the row's statement (the work); the ties are given (YtfajaihbhmbpnaaGreatDoorTie.lean); close each card by the builder's one call (the guide's Derived/Test/ToyasCard.lean, 'card_holds'). Laid BY PROGRAM, IN A SANDBOX (cutbox-door.mjs). By AI agents, Wed Nov 11 2026. No macro, syntax, notation, axiom, sorry.
-/
import Derived.Test.YtfajaihbhmbpnaaGreatDoorRows
import GoSem.ClaimSeven
namespace Go.Proofs.YtfajaihbhmbpnaaGreatDoor
namespace Rows

/-- THE TIED CARD OF 'roundhouselaw12.MovesTexts'. -/
def movesTextsCard : Claim7 := { stood := { row := movesTextsRow, standIns := [], harness := (true, "f0beb2d4d7c0aec0dd569b675466671d0dc80b2328ee7849b731a1a46b4392bb"), looks := true }, kinds := [], alts := [], laidByText := true, laidKinds := [.data, .data, .data, .data, .sentinel, .sentinel, .data, .pinned], laidTests := true, laidLooks := .later }
def MovesTextsCardSaid : Prop := Claim7.holds Tryz.pinned (.plain (OpenSpec.ofChange movesTextsSpec)) movesTextsCard

/-- THE TIED CARD OF 'roundhouselaw12.MovesBack'. -/
def movesBackCard : Claim7 := { stood := { row := movesBackRow, standIns := [], harness := (true, "f0beb2d4d7c0aec0dd569b675466671d0dc80b2328ee7849b731a1a46b4392bb"), looks := true }, kinds := [], alts := [], laidByText := true, laidKinds := [.data, .data, .data, .data, .sentinel, .sentinel, .data, .pinned], laidTests := true, laidLooks := .later }
def MovesBackCardSaid : Prop := Claim7.holds Tryz.pinned (.plain (OpenSpec.ofChange movesBackSpec)) movesBackCard

/-- THE TIED CARD OF 'roundhouselaw12.MovesNames'. -/
def movesNamesCard : Claim7 := { stood := { row := movesNamesRow, standIns := [], harness := (true, "f0beb2d4d7c0aec0dd569b675466671d0dc80b2328ee7849b731a1a46b4392bb"), looks := true }, kinds := [], alts := [], laidByText := true, laidKinds := [.data, .data, .data, .data, .sentinel, .sentinel, .data, .pinned], laidTests := true, laidLooks := .later }
def MovesNamesCardSaid : Prop := Claim7.holds Tryz.pinned (.plain (OpenSpec.ofChange movesNamesSpec)) movesNamesCard

/-- THE SECOND FORM's CARD OF 'roundhouselaw12.MovesTexts'. -/
def movesTextsUptoCard : Claim7 := { stood := { row := movesTextsUptoRow, standIns := [], harness := (true, "f0beb2d4d7c0aec0dd569b675466671d0dc80b2328ee7849b731a1a46b4392bb"), looks := true }, kinds := [], alts := [], laidByText := true, laidKinds := [.data, .data, .data, .data, .sentinel, .sentinel, .data, .pinned], laidTests := true, laidLooks := .later }
def MovesTextsUptoCardSaid : Prop := Claim7.holds Tryz.pinned (.plain (OpenSpec.upto movesTextsSpec)) movesTextsUptoCard

/-- THE SECOND FORM's CARD OF 'roundhouselaw12.MovesBack'. -/
def movesBackUptoCard : Claim7 := { stood := { row := movesBackUptoRow, standIns := [], harness := (true, "f0beb2d4d7c0aec0dd569b675466671d0dc80b2328ee7849b731a1a46b4392bb"), looks := true }, kinds := [], alts := [], laidByText := true, laidKinds := [.data, .data, .data, .data, .sentinel, .sentinel, .data, .pinned], laidTests := true, laidLooks := .later }
def MovesBackUptoCardSaid : Prop := Claim7.holds Tryz.pinned (.plain (OpenSpec.upto movesBackSpec)) movesBackUptoCard

/-- THE SECOND FORM's CARD OF 'roundhouselaw12.MovesNames'. -/
def movesNamesUptoCard : Claim7 := { stood := { row := movesNamesUptoRow, standIns := [], harness := (true, "f0beb2d4d7c0aec0dd569b675466671d0dc80b2328ee7849b731a1a46b4392bb"), looks := true }, kinds := [], alts := [], laidByText := true, laidKinds := [.data, .data, .data, .data, .sentinel, .sentinel, .data, .pinned], laidTests := true, laidLooks := .later }
def MovesNamesUptoCardSaid : Prop := Claim7.holds Tryz.pinned (.plain (OpenSpec.upto movesNamesSpec)) movesNamesUptoCard
end Rows
end Go.Proofs.YtfajaihbhmbpnaaGreatDoor
