/-
  DERIVED. GIVEN WITH THE SEED: THE PROGRAM's TIES (one call each: nine closed facts by the kernel) AND EACH ROW's TIE, after the 31st guide's Derived/Test/Toyas{Tie, Card}.lean. No idea stands in it: it is a product of the set-up. Laid BY PROGRAM, IN A SANDBOX (cutbox-door.mjs). By AI agents, Wed Nov 11 2026. No macro, syntax, notation, axiom, sorry.
-/
import Derived.Test.YtloklombgjlofaaGreatDoorRows
import Derived.LaidByTextLater
import Derived.SevenTiedAt
import Derived.LaidSub
import Derived.LaidOnce
namespace Go.Proofs.YtloklombgjlofaaGreatDoor
open Go
set_option maxRecDepth 100000
theorem seatTie1 : Tryz.prog.laidByTextLater [("roundhouse/flag.words", Rows.laid_roundhouse_flag_words), ("roundhouse/flag.has", Rows.laid_roundhouse_flag_has)] [.data, .data] true :=
  Program.laidByTextLater_by_one 22 8 19 (by kernel_rfl) (by kernel_rfl) (by kernel_rfl) (by kernel_rfl) (by kernel_rfl) (by kernel_rfl) (fun _ _ => by kernel_rfl)
theorem noOwnUnsafe : Tryz.pinned.checked.prog.headLifts.contains "ownunsafe" = false := by kernel_rfl
theorem tie : Tryz.prog.laidByTextLater [("roundhouse/flag.has", Rows.laid_roundhouse_flag_has)] [.data] true :=
  Program.laidByTextLater.sub seatTie1 ["roundhouse/flag.has"] (by kernel_rfl) (by kernel_rfl)
theorem driverHas_row_tie : Rows.driverHasRow.laidByTextAt .later Tryz.pinned [.data] true :=
  OpenClaim.laidByTextAt_later rfl rfl tie noOwnUnsafe
theorem tie2 : Tryz.prog.laidByTextLater [("roundhouse/flag.words", Rows.laid_roundhouse_flag_words), ("roundhouse/flag.has", Rows.laid_roundhouse_flag_has)] [.data, .data] true :=
  Program.laidByTextLater.sub seatTie1 ["roundhouse/flag.words", "roundhouse/flag.has"] (by kernel_rfl) (by kernel_rfl)
theorem driverNames_row_tie : Rows.driverNamesRow.laidByTextAt .later Tryz.pinned [.data, .data] true :=
  OpenClaim.laidByTextAt_later rfl rfl tie2 noOwnUnsafe
theorem driverHasUpto_row_tie : Rows.driverHasUptoRow.laidByTextAt .later Tryz.pinned [.data] true :=
  OpenClaim.laidByTextAt_later rfl rfl tie noOwnUnsafe
theorem driverNamesUpto_row_tie : Rows.driverNamesUptoRow.laidByTextAt .later Tryz.pinned [.data, .data] true :=
  OpenClaim.laidByTextAt_later rfl rfl tie2 noOwnUnsafe
end Go.Proofs.YtloklombgjlofaaGreatDoor
