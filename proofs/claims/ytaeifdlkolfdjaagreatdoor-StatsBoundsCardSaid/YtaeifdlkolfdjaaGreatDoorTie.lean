/-
  DERIVED. GIVEN WITH THE SEED: THE PROGRAM's TIES (one call each: nine closed facts by the kernel) AND EACH ROW's TIE, after the 31st guide's Derived/Test/Toyas{Tie, Card}.lean. No idea stands in it: it is a product of the set-up. Laid BY PROGRAM, IN A SANDBOX (cutbox-door.mjs). By AI agents, Wed Nov 11 2026. No macro, syntax, notation, axiom, sorry.
-/
import Derived.Test.YtaeifdlkolfdjaaGreatDoorRows
import Derived.LaidByTextLater
import Derived.SevenTiedAt
import Derived.LaidSub
import Derived.LaidOnce
namespace Go.Proofs.YtaeifdlkolfdjaaGreatDoor
open Go
set_option maxRecDepth 100000
theorem seatTie1 : Tryz.prog.laidByTextLater [("errors.errorType", Rows.laid_errors_errorType), ("bookend/ops.table", Rows.laid_bookend_ops_table), ("bookend/debt.errSettled", Rows.laid_bookend_debt_errSettled), ("bookend/store.errBusy", Rows.laid_bookend_store_errBusy)] [.handle, .data, .sentinel, .sentinel] true :=
  Program.laidByTextLater_by_one 76 8 37 (by kernel_rfl) (by kernel_rfl) (by kernel_rfl) (by kernel_rfl) (by kernel_rfl) (by kernel_rfl) (fun _ _ => by kernel_rfl)
theorem noOwnUnsafe : Tryz.pinned.checked.prog.headLifts.contains "ownunsafe" = false := by kernel_rfl
theorem tie : Tryz.prog.laidByTextLater [("errors.errorType", Rows.laid_errors_errorType), ("bookend/ops.table", Rows.laid_bookend_ops_table), ("bookend/debt.errSettled", Rows.laid_bookend_debt_errSettled), ("bookend/store.errBusy", Rows.laid_bookend_store_errBusy)] [.handle, .data, .sentinel, .sentinel] true :=
  Program.laidByTextLater.sub seatTie1 ["errors.errorType", "bookend/ops.table", "bookend/debt.errSettled", "bookend/store.errBusy"] (by kernel_rfl) (by kernel_rfl)
theorem statsBounds_row_tie : Rows.statsBoundsRow.laidByTextAt .later Tryz.pinned [.handle, .data, .sentinel, .sentinel] true :=
  OpenClaim.laidByTextAt_later rfl rfl tie noOwnUnsafe
theorem statsBoundsUpto_row_tie : Rows.statsBoundsUptoRow.laidByTextAt .later Tryz.pinned [.handle, .data, .sentinel, .sentinel] true :=
  OpenClaim.laidByTextAt_later rfl rfl tie noOwnUnsafe
end Go.Proofs.YtaeifdlkolfdjaaGreatDoor
