/-
  DERIVED. GIVEN WITH THE SEED: THE CARDS: each row of YtnebbcobonadaaaDoorRows.lean that lists a variable, with what it lists TIED to the program's text (the seventh form; the later family's looks); each row that meets fmt, with fmt's text TOLD by the authors' own Lean function (tested against real Go, not proved from fmt's source: count such statements apart). THE CARD IS WHAT COUNTS. Prove the row's statement (the work); the ties are given (YtnebbcobonadaaaDoorTie.lean); close each card by the builder's one call (the guide's Derived/Test/ToyasCard.lean, 'card_holds'). Laid BY PROGRAM, IN A SANDBOX (cutbox-door.mjs). By AI agents, Wed Nov 11 2026. No macro, syntax, notation, axiom, sorry.
-/
import Derived.Test.YtnebbcobonadaaaDoorRows
import GoSem.ClaimSeven
namespace Go.Proofs.YtnebbcobonadaaaDoor
namespace Rows

/-- THE TIED CARD OF 'roundhouselaw21.DriverMakes'. -/
def driverMakesCard : Claim7 := { stood := { row := driverMakesRow, standIns := [], harness := (true, "822b83f619cf7729604894bb0fd36c091d9bc93ea1431be60d130e60a04e1751"), looks := false }, kinds := [], alts := [], laidByText := true, laidKinds := [.data, .data], laidTests := true, laidLooks := .later }
def DriverMakesCardSaid : Prop := Claim7.holds Tryd.pinned (.plain (OpenSpec.ofChange driverMakesSpec)) driverMakesCard

/-- THE SECOND FORM's CARD OF 'roundhouselaw21.DriverMakes'. -/
def driverMakesUptoCard : Claim7 := { stood := { row := driverMakesUptoRow, standIns := [], harness := (true, "822b83f619cf7729604894bb0fd36c091d9bc93ea1431be60d130e60a04e1751"), looks := false }, kinds := [], alts := [], laidByText := true, laidKinds := [.data, .data], laidTests := true, laidLooks := .later }
def DriverMakesUptoCardSaid : Prop := Claim7.holds Tryd.pinned (.plain (OpenSpec.upto driverMakesSpec)) driverMakesUptoCard
end Rows
end Go.Proofs.YtnebbcobonadaaaDoor
