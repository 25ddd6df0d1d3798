/-
  DERIVED. GIVEN WITH THE SEED: THE PROGRAM's TIES (one call each: nine closed facts by the kernel) AND EACH ROW's TIE, after the 31st guide's Derived/Test/Toyas{Tie, Card}.lean. No idea stands in it: it is a product of the set-up. Laid BY PROGRAM, IN A SANDBOX (cutbox-door.mjs). By AI agents, Wed Nov 11 2026. No macro, syntax, notation, axiom, sorry.
-/
import Derived.Test.YtkookaogdkdegaaDoorRows
import Derived.LaidByTextLater
import Derived.SevenTiedAt
import Derived.LaidSub
import Derived.LaidOnce
namespace Go.Proofs.YtkookaogdkdegaaDoor
open Go
set_option maxRecDepth 100000
theorem seatTie1 : Tryd.prog.laidByTextLater [("errors.errorType", Rows.laid_errors_errorType), ("threefold/api.ErrText", Rows.laid_threefold_api_ErrText), ("threefold/api.ErrBound", Rows.laid_threefold_api_ErrBound), ("threefold/api.ErrShape", Rows.laid_threefold_api_ErrShape), ("threefold/api.ErrNone", Rows.laid_threefold_api_ErrNone), ("threefold/api.ErrFull", Rows.laid_threefold_api_ErrFull), ("threefold/api.ErrOff", Rows.laid_threefold_api_ErrOff), ("threefold/api.ErrSum", Rows.laid_threefold_api_ErrSum), ("threefold/api.ErrHeld", Rows.laid_threefold_api_ErrHeld), ("threefold/api.ErrSplit", Rows.laid_threefold_api_ErrSplit)] [.handle, .sentinel, .sentinel, .sentinel, .sentinel, .sentinel, .sentinel, .sentinel, .sentinel, .sentinel] true :=
  Program.laidByTextLater_by_one 187 8 2 (by kernel_rfl) (by kernel_rfl) (by kernel_rfl) (by kernel_rfl) (by kernel_rfl) (by kernel_rfl) (fun _ _ => by kernel_rfl)
theorem noOwnUnsafe : Tryd.pinned.checked.prog.headLifts.contains "ownunsafe" = false := by kernel_rfl
theorem tie : Tryd.prog.laidByTextLater [("threefold/api.ErrBound", Rows.laid_threefold_api_ErrBound), ("threefold/api.ErrShape", Rows.laid_threefold_api_ErrShape), ("threefold/api.ErrNone", Rows.laid_threefold_api_ErrNone)] [.sentinel, .sentinel, .sentinel] true :=
  Program.laidByTextLater.sub seatTie1 ["threefold/api.ErrBound", "threefold/api.ErrShape", "threefold/api.ErrNone"] (by kernel_rfl) (by kernel_rfl)
theorem weightsMeet_row_tie : Rows.weightsMeetRow.laidByTextAt .later Tryd.pinned [.sentinel, .sentinel, .sentinel] true :=
  OpenClaim.laidByTextAt_later rfl rfl tie noOwnUnsafe
theorem weightsMany_row_tie : Rows.weightsManyRow.laidByTextAt .later Tryd.pinned [.sentinel, .sentinel, .sentinel] true :=
  OpenClaim.laidByTextAt_later rfl rfl tie noOwnUnsafe
theorem leadDecides_row_tie : Rows.leadDecidesRow.laidByTextAt .later Tryd.pinned [.sentinel, .sentinel, .sentinel] true :=
  OpenClaim.laidByTextAt_later rfl rfl tie noOwnUnsafe
theorem leadStale_row_tie : Rows.leadStaleRow.laidByTextAt .later Tryd.pinned [.sentinel, .sentinel, .sentinel] true :=
  OpenClaim.laidByTextAt_later rfl rfl tie noOwnUnsafe
theorem tie2 : Tryd.prog.laidByTextLater [("threefold/api.ErrBound", Rows.laid_threefold_api_ErrBound), ("threefold/api.ErrShape", Rows.laid_threefold_api_ErrShape), ("threefold/api.ErrFull", Rows.laid_threefold_api_ErrFull), ("threefold/api.ErrOff", Rows.laid_threefold_api_ErrOff)] [.sentinel, .sentinel, .sentinel, .sentinel] true :=
  Program.laidByTextLater.sub seatTie1 ["threefold/api.ErrBound", "threefold/api.ErrShape", "threefold/api.ErrFull", "threefold/api.ErrOff"] (by kernel_rfl) (by kernel_rfl)
theorem journalLast_row_tie : Rows.journalLastRow.laidByTextAt .later Tryd.pinned [.sentinel, .sentinel, .sentinel, .sentinel] true :=
  OpenClaim.laidByTextAt_later rfl rfl tie2 noOwnUnsafe
theorem siteKeeps_row_tie : Rows.siteKeepsRow.laidByTextAt .later Tryd.pinned [.sentinel, .sentinel, .sentinel, .sentinel] true :=
  OpenClaim.laidByTextAt_later rfl rfl tie2 noOwnUnsafe
theorem siteRises_row_tie : Rows.siteRisesRow.laidByTextAt .later Tryd.pinned [.sentinel, .sentinel, .sentinel, .sentinel] true :=
  OpenClaim.laidByTextAt_later rfl rfl tie2 noOwnUnsafe
theorem tie3 : Tryd.prog.laidByTextLater [("errors.errorType", Rows.laid_errors_errorType), ("threefold/api.ErrText", Rows.laid_threefold_api_ErrText), ("threefold/api.ErrBound", Rows.laid_threefold_api_ErrBound), ("threefold/api.ErrShape", Rows.laid_threefold_api_ErrShape), ("threefold/api.ErrNone", Rows.laid_threefold_api_ErrNone), ("threefold/api.ErrFull", Rows.laid_threefold_api_ErrFull), ("threefold/api.ErrOff", Rows.laid_threefold_api_ErrOff), ("threefold/api.ErrSum", Rows.laid_threefold_api_ErrSum), ("threefold/api.ErrHeld", Rows.laid_threefold_api_ErrHeld), ("threefold/api.ErrSplit", Rows.laid_threefold_api_ErrSplit)] [.handle, .sentinel, .sentinel, .sentinel, .sentinel, .sentinel, .sentinel, .sentinel, .sentinel, .sentinel] true :=
  Program.laidByTextLater.sub seatTie1 ["errors.errorType", "threefold/api.ErrText", "threefold/api.ErrBound", "threefold/api.ErrShape", "threefold/api.ErrNone", "threefold/api.ErrFull", "threefold/api.ErrOff", "threefold/api.ErrSum", "threefold/api.ErrHeld", "threefold/api.ErrSplit"] (by kernel_rfl) (by kernel_rfl)
theorem names_row_tie : Rows.namesRow.laidByTextAt .later Tryd.pinned [.handle, .sentinel, .sentinel, .sentinel, .sentinel, .sentinel, .sentinel, .sentinel, .sentinel, .sentinel] true :=
  OpenClaim.laidByTextAt_later rfl rfl tie3 noOwnUnsafe
theorem plateActs_row_tie : Rows.plateActsRow.laidByTextAt .later Tryd.pinned [.handle, .sentinel, .sentinel, .sentinel, .sentinel, .sentinel, .sentinel, .sentinel, .sentinel, .sentinel] true :=
  OpenClaim.laidByTextAt_later rfl rfl tie3 noOwnUnsafe
theorem weightsMeetUpto_row_tie : Rows.weightsMeetUptoRow.laidByTextAt .later Tryd.pinned [.sentinel, .sentinel, .sentinel] true :=
  OpenClaim.laidByTextAt_later rfl rfl tie noOwnUnsafe
theorem weightsManyUpto_row_tie : Rows.weightsManyUptoRow.laidByTextAt .later Tryd.pinned [.sentinel, .sentinel, .sentinel] true :=
  OpenClaim.laidByTextAt_later rfl rfl tie noOwnUnsafe
theorem journalLastUpto_row_tie : Rows.journalLastUptoRow.laidByTextAt .later Tryd.pinned [.sentinel, .sentinel, .sentinel, .sentinel] true :=
  OpenClaim.laidByTextAt_later rfl rfl tie2 noOwnUnsafe
theorem namesUpto_row_tie : Rows.namesUptoRow.laidByTextAt .later Tryd.pinned [.handle, .sentinel, .sentinel, .sentinel, .sentinel, .sentinel, .sentinel, .sentinel, .sentinel, .sentinel] true :=
  OpenClaim.laidByTextAt_later rfl rfl tie3 noOwnUnsafe
theorem leadDecidesUpto_row_tie : Rows.leadDecidesUptoRow.laidByTextAt .later Tryd.pinned [.sentinel, .sentinel, .sentinel] true :=
  OpenClaim.laidByTextAt_later rfl rfl tie noOwnUnsafe
theorem leadStaleUpto_row_tie : Rows.leadStaleUptoRow.laidByTextAt .later Tryd.pinned [.sentinel, .sentinel, .sentinel] true :=
  OpenClaim.laidByTextAt_later rfl rfl tie noOwnUnsafe
theorem siteKeepsUpto_row_tie : Rows.siteKeepsUptoRow.laidByTextAt .later Tryd.pinned [.sentinel, .sentinel, .sentinel, .sentinel] true :=
  OpenClaim.laidByTextAt_later rfl rfl tie2 noOwnUnsafe
theorem siteRisesUpto_row_tie : Rows.siteRisesUptoRow.laidByTextAt .later Tryd.pinned [.sentinel, .sentinel, .sentinel, .sentinel] true :=
  OpenClaim.laidByTextAt_later rfl rfl tie2 noOwnUnsafe
theorem plateActsUpto_row_tie : Rows.plateActsUptoRow.laidByTextAt .later Tryd.pinned [.handle, .sentinel, .sentinel, .sentinel, .sentinel, .sentinel, .sentinel, .sentinel, .sentinel, .sentinel] true :=
  OpenClaim.laidByTextAt_later rfl rfl tie3 noOwnUnsafe
end Go.Proofs.YtkookaogdkdegaaDoor
