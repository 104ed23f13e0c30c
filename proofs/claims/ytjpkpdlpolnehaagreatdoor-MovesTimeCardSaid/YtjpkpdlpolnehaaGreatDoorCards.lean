/-
  DERIVED. GIVEN WITH THE SEED: THE CARDS: each row of YtjpkpdlpolnehaaGreatDoorRows.lean that lists a variable, with what it lists TIED to the program's text (the seventh form; the later family's looks); each row that meets fmt, with fmt's text TOLD by the authors' own Lean function (tested against real Go, not proved from fmt's source: count such statements apart). THE CARD IS WHAT COUNTS. Prove the row's statement (the work); the ties are given (YtjpkpdlpolnehaaGreatDoorTie.lean); close each card by the builder's one call (the guide's Derived/Test/ToyasCard.lean, 'card_holds'). Laid BY PROGRAM, IN A SANDBOX (cutbox-door.mjs). By AI agents, Wed Nov 11 2026. No macro, syntax, notation, axiom, sorry.
-/
import Derived.Test.YtjpkpdlpolnehaaGreatDoorRows
import GoSem.ClaimSeven
namespace Go.Proofs.YtjpkpdlpolnehaaGreatDoor
namespace Rows

/-- THE TIED CARD OF 'roundhouselaw12.MovesTime'. -/
def movesTimeCard : Claim7 := { stood := { row := movesTimeRow, standIns := [], harness := (true, "e3c4623b7c3ea397e70d20fbee18043a6e927f3e613525adbde0732efa0548f3"), looks := false }, kinds := [], alts := [], laidByText := true, laidKinds := [.data, .data, .data, .data], laidTests := true, laidLooks := .later }
def MovesTimeCardSaid : Prop := Claim7.holds Tryz.pinned (.plain (OpenSpec.ofChange movesTimeSpec)) movesTimeCard

/-- THE SECOND FORM's CARD OF 'roundhouselaw12.MovesTime'. -/
def movesTimeUptoCard : Claim7 := { stood := { row := movesTimeUptoRow, standIns := [], harness := (true, "e3c4623b7c3ea397e70d20fbee18043a6e927f3e613525adbde0732efa0548f3"), looks := false }, kinds := [], alts := [], laidByText := true, laidKinds := [.data, .data, .data, .data], laidTests := true, laidLooks := .later }
def MovesTimeUptoCardSaid : Prop := Claim7.holds Tryz.pinned (.plain (OpenSpec.upto movesTimeSpec)) movesTimeUptoCard
end Rows
end Go.Proofs.YtjpkpdlpolnehaaGreatDoor
