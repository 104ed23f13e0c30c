/-
  DERIVED. GIVEN WITH THE SEED: THE CARDS: each row of YtbfpbbppgffpnaaGreatDoorRows.lean that lists a variable, with what it lists TIED to the program's text (the seventh form; the later family's looks); each row that meets fmt, with fmt's text TOLD by the authors' own Lean function (tested against real Go, not proved from fmt's source: count such statements apart). THE CARD IS WHAT COUNTS. Prove the row's statement (the work); the ties are given (YtbfpbbppgffpnaaGreatDoorTie.lean); close each card by the builder's one call (the guide's Derived/Test/ToyasCard.lean, 'card_holds'). Laid BY PROGRAM, IN A SANDBOX (cutbox-door.mjs). By AI agents, Wed Nov 11 2026. No macro, syntax, notation, axiom, sorry.
-/
import Derived.Test.YtbfpbbppgffpnaaGreatDoorRows
import GoSem.ClaimSeven
namespace Go.Proofs.YtbfpbbppgffpnaaGreatDoor
namespace Rows

/-- THE TIED CARD OF 'roundhouselaw12.MovesMakes'. -/
def movesMakesCard : Claim7 := { stood := { row := movesMakesRow, standIns := [], harness := (true, "c3c98b5ceae12e64bb3207d44579e7cbee6eca7d0a263e949aab289c1a267c91"), looks := false }, kinds := [], alts := [], laidByText := true, laidKinds := [.data, .data, .data], laidTests := true, laidLooks := .later }
def MovesMakesCardSaid : Prop := Claim7.holds Tryz.pinned (.plain (OpenSpec.ofChange movesMakesSpec)) movesMakesCard

/-- THE TIED CARD OF 'roundhouselaw12.MovesSleeps'. -/
def movesSleepsCard : Claim7 := { stood := { row := movesSleepsRow, standIns := [], harness := (true, "c3c98b5ceae12e64bb3207d44579e7cbee6eca7d0a263e949aab289c1a267c91"), looks := false }, kinds := [], alts := [], laidByText := true, laidKinds := [.data, .data, .data], laidTests := true, laidLooks := .later }
def MovesSleepsCardSaid : Prop := Claim7.holds Tryz.pinned (.plain (OpenSpec.ofChange movesSleepsSpec)) movesSleepsCard

/-- THE SECOND FORM's CARD OF 'roundhouselaw12.MovesMakes'. -/
def movesMakesUptoCard : Claim7 := { stood := { row := movesMakesUptoRow, standIns := [], harness := (true, "c3c98b5ceae12e64bb3207d44579e7cbee6eca7d0a263e949aab289c1a267c91"), looks := false }, kinds := [], alts := [], laidByText := true, laidKinds := [.data, .data, .data], laidTests := true, laidLooks := .later }
def MovesMakesUptoCardSaid : Prop := Claim7.holds Tryz.pinned (.plain (OpenSpec.upto movesMakesSpec)) movesMakesUptoCard

/-- THE SECOND FORM's CARD OF 'roundhouselaw12.MovesSleeps'. -/
def movesSleepsUptoCard : Claim7 := { stood := { row := movesSleepsUptoRow, standIns := [], harness := (true, "c3c98b5ceae12e64bb3207d44579e7cbee6eca7d0a263e949aab289c1a267c91"), looks := false }, kinds := [], alts := [], laidByText := true, laidKinds := [.data, .data, .data], laidTests := true, laidLooks := .later }
def MovesSleepsUptoCardSaid : Prop := Claim7.holds Tryz.pinned (.plain (OpenSpec.upto movesSleepsSpec)) movesSleepsUptoCard
end Rows
end Go.Proofs.YtbfpbbppgffpnaaGreatDoor
