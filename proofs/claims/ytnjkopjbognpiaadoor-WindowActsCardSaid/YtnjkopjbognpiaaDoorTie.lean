/-
  DERIVED. GIVEN WITH THE SEED: THE PROGRAM's TIES (one call each: nine closed facts by the kernel) AND EACH ROW's TIE, after the 31st guide's Derived/Test/Toyas{Tie, Card}.lean. No idea stands in it: it is a product of the set-up. Laid BY PROGRAM, IN A SANDBOX (cutbox-door.mjs). By AI agents, Wed Nov 11 2026. No macro, syntax, notation, axiom, sorry.
-/
import Derived.Test.YtnjkopjbognpiaaDoorRows
import Derived.LaidByTextLater
import Derived.SevenTiedAt
import Derived.LaidSub
import Derived.LaidOnce
namespace Go.Proofs.YtnjkopjbognpiaaDoor
open Go
set_option maxRecDepth 100000
theorem seatTie1 : Tryd.prog.laidByTextLater [("errors.errorType", Rows.laid_errors_errorType), ("packhorse/api.ErrText", Rows.laid_packhorse_api_ErrText), ("packhorse/api.ErrBound", Rows.laid_packhorse_api_ErrBound), ("packhorse/api.ErrShape", Rows.laid_packhorse_api_ErrShape), ("packhorse/api.ErrKind", Rows.laid_packhorse_api_ErrKind), ("packhorse/api.ErrName", Rows.laid_packhorse_api_ErrName), ("packhorse/api.ErrNone", Rows.laid_packhorse_api_ErrNone), ("packhorse/api.ErrExist", Rows.laid_packhorse_api_ErrExist), ("packhorse/api.ErrFull", Rows.laid_packhorse_api_ErrFull), ("packhorse/api.ErrOrder", Rows.laid_packhorse_api_ErrOrder), ("packhorse/api.ErrSum", Rows.laid_packhorse_api_ErrSum), ("packhorse/api.ErrStale", Rows.laid_packhorse_api_ErrStale), ("packhorse/api.ErrOff", Rows.laid_packhorse_api_ErrOff)] [.handle, .sentinel, .sentinel, .sentinel, .sentinel, .sentinel, .sentinel, .sentinel, .sentinel, .sentinel, .sentinel, .sentinel, .sentinel] true :=
  Program.laidByTextLater_by_one 244 8 2 (by kernel_rfl) (by kernel_rfl) (by kernel_rfl) (by kernel_rfl) (by kernel_rfl) (by kernel_rfl) (fun _ _ => by kernel_rfl)
theorem noOwnUnsafe : Tryd.pinned.checked.prog.headLifts.contains "ownunsafe" = false := by kernel_rfl
theorem tie : Tryd.prog.laidByTextLater [("errors.errorType", Rows.laid_errors_errorType), ("packhorse/api.ErrText", Rows.laid_packhorse_api_ErrText), ("packhorse/api.ErrBound", Rows.laid_packhorse_api_ErrBound), ("packhorse/api.ErrShape", Rows.laid_packhorse_api_ErrShape), ("packhorse/api.ErrKind", Rows.laid_packhorse_api_ErrKind), ("packhorse/api.ErrName", Rows.laid_packhorse_api_ErrName), ("packhorse/api.ErrNone", Rows.laid_packhorse_api_ErrNone), ("packhorse/api.ErrExist", Rows.laid_packhorse_api_ErrExist), ("packhorse/api.ErrFull", Rows.laid_packhorse_api_ErrFull), ("packhorse/api.ErrOrder", Rows.laid_packhorse_api_ErrOrder), ("packhorse/api.ErrSum", Rows.laid_packhorse_api_ErrSum), ("packhorse/api.ErrStale", Rows.laid_packhorse_api_ErrStale), ("packhorse/api.ErrOff", Rows.laid_packhorse_api_ErrOff)] [.handle, .sentinel, .sentinel, .sentinel, .sentinel, .sentinel, .sentinel, .sentinel, .sentinel, .sentinel, .sentinel, .sentinel, .sentinel] true :=
  Program.laidByTextLater.sub seatTie1 ["errors.errorType", "packhorse/api.ErrText", "packhorse/api.ErrBound", "packhorse/api.ErrShape", "packhorse/api.ErrKind", "packhorse/api.ErrName", "packhorse/api.ErrNone", "packhorse/api.ErrExist", "packhorse/api.ErrFull", "packhorse/api.ErrOrder", "packhorse/api.ErrSum", "packhorse/api.ErrStale", "packhorse/api.ErrOff"] (by kernel_rfl) (by kernel_rfl)
theorem windowActs_row_tie : Rows.windowActsRow.laidByTextAt .later Tryd.pinned [.handle, .sentinel, .sentinel, .sentinel, .sentinel, .sentinel, .sentinel, .sentinel, .sentinel, .sentinel, .sentinel, .sentinel, .sentinel] true :=
  OpenClaim.laidByTextAt_later rfl rfl tie noOwnUnsafe
theorem windowActsUpto_row_tie : Rows.windowActsUptoRow.laidByTextAt .later Tryd.pinned [.handle, .sentinel, .sentinel, .sentinel, .sentinel, .sentinel, .sentinel, .sentinel, .sentinel, .sentinel, .sentinel, .sentinel, .sentinel] true :=
  OpenClaim.laidByTextAt_later rfl rfl tie noOwnUnsafe
end Go.Proofs.YtnjkopjbognpiaaDoor
