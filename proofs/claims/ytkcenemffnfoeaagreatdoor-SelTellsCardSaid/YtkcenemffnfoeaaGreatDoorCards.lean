/-
  DERIVED. GIVEN WITH THE SEED: THE CARDS: each row of YtkcenemffnfoeaaGreatDoorRows.lean that lists a variable, with what it lists TIED to the program's text (the seventh form; the later family's looks); each row that meets fmt, with fmt's text TOLD by the authors' own Lean function (tested against real Go, not proved from fmt's source: count such statements apart). THE CARD IS WHAT COUNTS. Prove the row's statement (the work); the ties are given (YtkcenemffnfoeaaGreatDoorTie.lean); close each card by the builder's one call (the guide's Derived/Test/ToyasCard.lean, 'card_holds'). Laid BY PROGRAM, IN A SANDBOX (cutbox-door.mjs). By AI agents, Wed Nov 11 2026. No macro, syntax, notation, axiom, sorry.
-/
import Derived.Test.YtkcenemffnfoeaaGreatDoorRows
import GoSem.ClaimSeven
namespace Go.Proofs.YtkcenemffnfoeaaGreatDoor
namespace Rows

/-- THE TIED CARD OF 'roundhouselaw14.PolTells'. -/
def polTellsCard : Claim7 := { stood := { row := polTellsRow, standIns := [], harness := (true, "b26854de0f91787dceb878ae1061e103dc6b326a6d0d3f7a0f7bcc5221b2d16d"), looks := false }, kinds := [], alts := [], laidByText := true, laidKinds := [.data, .data, .data], laidTests := true, laidLooks := .later }
def PolTellsCardSaid : Prop := Claim7.holds Tryz.pinned (.plain (OpenSpec.ofChange polTellsSpec)) polTellsCard

/-- THE TIED CARD OF 'roundhouselaw13.SelTells'. -/
def selTellsCard : Claim7 := { stood := { row := selTellsRow, standIns := [], harness := (true, "b26854de0f91787dceb878ae1061e103dc6b326a6d0d3f7a0f7bcc5221b2d16d"), looks := false }, kinds := [], alts := [], laidByText := true, laidKinds := [.data, .data, .data], laidTests := true, laidLooks := .later }
def SelTellsCardSaid : Prop := Claim7.holds Tryz.pinned (.plain (OpenSpec.ofChange selTellsSpec)) selTellsCard

/-- THE SECOND FORM's CARD OF 'roundhouselaw14.PolTells'. -/
def polTellsUptoCard : Claim7 := { stood := { row := polTellsUptoRow, standIns := [], harness := (true, "b26854de0f91787dceb878ae1061e103dc6b326a6d0d3f7a0f7bcc5221b2d16d"), looks := false }, kinds := [], alts := [], laidByText := true, laidKinds := [.data, .data, .data], laidTests := true, laidLooks := .later }
def PolTellsUptoCardSaid : Prop := Claim7.holds Tryz.pinned (.plain (OpenSpec.upto polTellsSpec)) polTellsUptoCard

/-- THE SECOND FORM's CARD OF 'roundhouselaw13.SelTells'. -/
def selTellsUptoCard : Claim7 := { stood := { row := selTellsUptoRow, standIns := [], harness := (true, "b26854de0f91787dceb878ae1061e103dc6b326a6d0d3f7a0f7bcc5221b2d16d"), looks := false }, kinds := [], alts := [], laidByText := true, laidKinds := [.data, .data, .data], laidTests := true, laidLooks := .later }
def SelTellsUptoCardSaid : Prop := Claim7.holds Tryz.pinned (.plain (OpenSpec.upto selTellsSpec)) selTellsUptoCard
end Rows
end Go.Proofs.YtkcenemffnfoeaaGreatDoor
