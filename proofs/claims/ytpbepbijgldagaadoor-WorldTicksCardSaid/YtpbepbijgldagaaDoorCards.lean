/-
  DERIVED. GIVEN WITH THE SEED: THE CARDS: each row of YtpbepbijgldagaaDoorRows.lean that lists a variable, with what it lists TIED to the program's text (the seventh form; the later family's looks); each row that meets fmt, with fmt's text TOLD by the authors' own Lean function (tested against real Go, not proved from fmt's source: count such statements apart). THE CARD IS WHAT COUNTS. Prove the row's statement (the work); the ties are given (YtpbepbijgldagaaDoorTie.lean); close each card by the builder's one call (the guide's Derived/Test/ToyasCard.lean, 'card_holds'). Laid BY PROGRAM, IN A SANDBOX (cutbox-door.mjs). By AI agents, Wed Nov 11 2026. No macro, syntax, notation, axiom, sorry.
-/
import Derived.Test.YtpbepbijgldagaaDoorRows
import GoSem.ClaimSeven
namespace Go.Proofs.YtpbepbijgldagaaDoor
namespace Rows

/-- THE TIED CARD OF 'roundhouselaw21.DriverMakes'. -/
def driverMakesCard : Claim7 := { stood := { row := driverMakesRow, standIns := [], harness := (true, "e4561ce5097f36d7f2a8a0556ea80f703d635f63258db0ee8f41a138dc99e7c0"), looks := false }, kinds := [], alts := [], laidByText := true, laidKinds := [.data, .data], laidTests := true, laidLooks := .later }
def DriverMakesCardSaid : Prop := Claim7.holds Tryd.pinned (.plain (OpenSpec.ofChange driverMakesSpec)) driverMakesCard

/-- THE TIED CARD OF 'roundhouselaw11.WorldTicks'. -/
def worldTicksCard : Claim7 := { stood := { row := worldTicksRow, standIns := [], harness := (true, "e4561ce5097f36d7f2a8a0556ea80f703d635f63258db0ee8f41a138dc99e7c0"), looks := false }, kinds := [], alts := [], laidByText := true, laidKinds := [.data, .data, .data], laidTests := true, laidLooks := .later }
def WorldTicksCardSaid : Prop := Claim7.holds Tryd.pinned (.plain (OpenSpec.ofChange worldTicksSpec)) worldTicksCard

/-- THE SECOND FORM's CARD OF 'roundhouselaw21.DriverMakes'. -/
def driverMakesUptoCard : Claim7 := { stood := { row := driverMakesUptoRow, standIns := [], harness := (true, "e4561ce5097f36d7f2a8a0556ea80f703d635f63258db0ee8f41a138dc99e7c0"), looks := false }, kinds := [], alts := [], laidByText := true, laidKinds := [.data, .data], laidTests := true, laidLooks := .later }
def DriverMakesUptoCardSaid : Prop := Claim7.holds Tryd.pinned (.plain (OpenSpec.upto driverMakesSpec)) driverMakesUptoCard

/-- THE SECOND FORM's CARD OF 'roundhouselaw11.WorldTicks'. -/
def worldTicksUptoCard : Claim7 := { stood := { row := worldTicksUptoRow, standIns := [], harness := (true, "e4561ce5097f36d7f2a8a0556ea80f703d635f63258db0ee8f41a138dc99e7c0"), looks := false }, kinds := [], alts := [], laidByText := true, laidKinds := [.data, .data, .data], laidTests := true, laidLooks := .later }
def WorldTicksUptoCardSaid : Prop := Claim7.holds Tryd.pinned (.plain (OpenSpec.upto worldTicksSpec)) worldTicksUptoCard
end Rows
end Go.Proofs.YtpbepbijgldagaaDoor
