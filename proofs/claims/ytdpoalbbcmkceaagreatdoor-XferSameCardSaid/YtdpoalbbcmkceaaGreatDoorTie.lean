/-
  DERIVED. GIVEN WITH THE SEED: THE PROGRAM's TIES (one call each: nine closed facts by the kernel) AND EACH ROW's TIE, after the 31st guide's Derived/Test/Toyas{Tie, Card}.lean. No idea stands in it: it is a product of the set-up. Laid BY PROGRAM, IN A SANDBOX (cutbox-door.mjs). By AI agents, Wed Nov 11 2026. No macro, syntax, notation, axiom, sorry.
-/
import Derived.Test.YtdpoalbbcmkceaaGreatDoorRows
import Derived.LaidByTextLater
import Derived.SevenTiedAt
import Derived.LaidSub
import Derived.LaidOnce
namespace Go.Proofs.YtdpoalbbcmkceaaGreatDoor
open Go
set_option maxRecDepth 100000
theorem seatTie1 : Tryz.prog.laidByTextLater [("unicode/utf8.acceptRanges", Rows.laid_unicode_utf8_acceptRanges), ("errors.errorType", Rows.laid_errors_errorType), ("packhorse/api.ErrText", Rows.laid_packhorse_api_ErrText), ("packhorse/api.ErrBound", Rows.laid_packhorse_api_ErrBound), ("packhorse/api.ErrShape", Rows.laid_packhorse_api_ErrShape), ("packhorse/api.ErrKind", Rows.laid_packhorse_api_ErrKind), ("packhorse/api.ErrName", Rows.laid_packhorse_api_ErrName), ("packhorse/api.ErrNone", Rows.laid_packhorse_api_ErrNone), ("packhorse/api.ErrExist", Rows.laid_packhorse_api_ErrExist), ("packhorse/api.ErrFull", Rows.laid_packhorse_api_ErrFull), ("packhorse/api.ErrOrder", Rows.laid_packhorse_api_ErrOrder), ("packhorse/api.ErrSum", Rows.laid_packhorse_api_ErrSum), ("packhorse/api.ErrStale", Rows.laid_packhorse_api_ErrStale), ("packhorse/api.ErrOff", Rows.laid_packhorse_api_ErrOff)] [.data, .handle, .sentinel, .sentinel, .sentinel, .sentinel, .sentinel, .sentinel, .sentinel, .sentinel, .sentinel, .sentinel, .sentinel, .sentinel] true :=
  Program.laidByTextLater_by_one 254 8 33 (by kernel_rfl) (by kernel_rfl) (by kernel_rfl) (by kernel_rfl) (by kernel_rfl) (by kernel_rfl) (fun _ _ => by kernel_rfl)
theorem pin_laid_unicode_utf8_first : Tryz.pinned.checked.prog.pinnedFits "unicode/utf8.first" = true := by kernel_rfl
theorem noOwnUnsafe : Tryz.pinned.checked.prog.headLifts.contains "ownunsafe" = false := by kernel_rfl
theorem fits1 : Tryz.pinned.checked.prog.listedFits [("unicode/utf8.acceptRanges", Rows.laid_unicode_utf8_acceptRanges), ("packhorse/api.ErrText", Rows.laid_packhorse_api_ErrText), ("packhorse/api.ErrBound", Rows.laid_packhorse_api_ErrBound), ("packhorse/api.ErrShape", Rows.laid_packhorse_api_ErrShape), ("packhorse/api.ErrKind", Rows.laid_packhorse_api_ErrKind), ("packhorse/api.ErrName", Rows.laid_packhorse_api_ErrName), ("packhorse/api.ErrNone", Rows.laid_packhorse_api_ErrNone), ("packhorse/api.ErrFull", Rows.laid_packhorse_api_ErrFull), ("packhorse/api.ErrOrder", Rows.laid_packhorse_api_ErrOrder), ("packhorse/api.ErrSum", Rows.laid_packhorse_api_ErrSum), ("packhorse/api.ErrStale", Rows.laid_packhorse_api_ErrStale), ("unicode/utf8.first", Rows.laid_unicode_utf8_first)] = true := by
  unfold Program.listedFits
  rw [noOwnUnsafe]
  kernel_rfl
theorem tie : Tryz.prog.laidByTextLater [("unicode/utf8.acceptRanges", Rows.laid_unicode_utf8_acceptRanges), ("packhorse/api.ErrText", Rows.laid_packhorse_api_ErrText), ("packhorse/api.ErrBound", Rows.laid_packhorse_api_ErrBound), ("packhorse/api.ErrShape", Rows.laid_packhorse_api_ErrShape), ("packhorse/api.ErrKind", Rows.laid_packhorse_api_ErrKind), ("packhorse/api.ErrName", Rows.laid_packhorse_api_ErrName), ("packhorse/api.ErrNone", Rows.laid_packhorse_api_ErrNone), ("packhorse/api.ErrFull", Rows.laid_packhorse_api_ErrFull), ("packhorse/api.ErrOrder", Rows.laid_packhorse_api_ErrOrder), ("packhorse/api.ErrSum", Rows.laid_packhorse_api_ErrSum), ("packhorse/api.ErrStale", Rows.laid_packhorse_api_ErrStale)] [.data, .sentinel, .sentinel, .sentinel, .sentinel, .sentinel, .sentinel, .sentinel, .sentinel, .sentinel, .sentinel] true :=
  Program.laidByTextLater.sub seatTie1 ["unicode/utf8.acceptRanges", "packhorse/api.ErrText", "packhorse/api.ErrBound", "packhorse/api.ErrShape", "packhorse/api.ErrKind", "packhorse/api.ErrName", "packhorse/api.ErrNone", "packhorse/api.ErrFull", "packhorse/api.ErrOrder", "packhorse/api.ErrSum", "packhorse/api.ErrStale"] (by kernel_rfl) (by kernel_rfl)
theorem xferSame_row_tie : Rows.xferSameRow.laidByTextAt .later Tryz.pinned [.data, .sentinel, .sentinel, .sentinel, .sentinel, .sentinel, .sentinel, .sentinel, .sentinel, .sentinel, .sentinel, .pinned] true :=
  OpenClaim.laidByTextAt_pinned rfl rfl tie rfl rfl rfl rfl (fun y hy _e => by
    simp only [Rows.xferSameRow, List.zip_cons_cons, List.zip_nil_right, List.mem_cons, List.mem_nil_iff, or_false] at hy
    rcases hy with rfl | rfl | rfl | rfl | rfl | rfl | rfl | rfl | rfl | rfl | rfl | rfl
    · cases _e
    · cases _e
    · cases _e
    · cases _e
    · cases _e
    · cases _e
    · cases _e
    · cases _e
    · cases _e
    · cases _e
    · cases _e
    · exact ⟨pin_laid_unicode_utf8_first, by kernel_rfl⟩) fits1
theorem fits2 : Tryz.pinned.checked.prog.listedFits [("unicode/utf8.acceptRanges", Rows.laid_unicode_utf8_acceptRanges), ("errors.errorType", Rows.laid_errors_errorType), ("packhorse/api.ErrText", Rows.laid_packhorse_api_ErrText), ("packhorse/api.ErrBound", Rows.laid_packhorse_api_ErrBound), ("packhorse/api.ErrShape", Rows.laid_packhorse_api_ErrShape), ("packhorse/api.ErrKind", Rows.laid_packhorse_api_ErrKind), ("packhorse/api.ErrName", Rows.laid_packhorse_api_ErrName), ("packhorse/api.ErrNone", Rows.laid_packhorse_api_ErrNone), ("packhorse/api.ErrExist", Rows.laid_packhorse_api_ErrExist), ("packhorse/api.ErrFull", Rows.laid_packhorse_api_ErrFull), ("packhorse/api.ErrOrder", Rows.laid_packhorse_api_ErrOrder), ("packhorse/api.ErrSum", Rows.laid_packhorse_api_ErrSum), ("packhorse/api.ErrStale", Rows.laid_packhorse_api_ErrStale), ("packhorse/api.ErrOff", Rows.laid_packhorse_api_ErrOff), ("unicode/utf8.first", Rows.laid_unicode_utf8_first)] = true := by
  unfold Program.listedFits
  rw [noOwnUnsafe]
  kernel_rfl
theorem tie2 : Tryz.prog.laidByTextLater [("unicode/utf8.acceptRanges", Rows.laid_unicode_utf8_acceptRanges), ("errors.errorType", Rows.laid_errors_errorType), ("packhorse/api.ErrText", Rows.laid_packhorse_api_ErrText), ("packhorse/api.ErrBound", Rows.laid_packhorse_api_ErrBound), ("packhorse/api.ErrShape", Rows.laid_packhorse_api_ErrShape), ("packhorse/api.ErrKind", Rows.laid_packhorse_api_ErrKind), ("packhorse/api.ErrName", Rows.laid_packhorse_api_ErrName), ("packhorse/api.ErrNone", Rows.laid_packhorse_api_ErrNone), ("packhorse/api.ErrExist", Rows.laid_packhorse_api_ErrExist), ("packhorse/api.ErrFull", Rows.laid_packhorse_api_ErrFull), ("packhorse/api.ErrOrder", Rows.laid_packhorse_api_ErrOrder), ("packhorse/api.ErrSum", Rows.laid_packhorse_api_ErrSum), ("packhorse/api.ErrStale", Rows.laid_packhorse_api_ErrStale), ("packhorse/api.ErrOff", Rows.laid_packhorse_api_ErrOff)] [.data, .handle, .sentinel, .sentinel, .sentinel, .sentinel, .sentinel, .sentinel, .sentinel, .sentinel, .sentinel, .sentinel, .sentinel, .sentinel] true :=
  Program.laidByTextLater.sub seatTie1 ["unicode/utf8.acceptRanges", "errors.errorType", "packhorse/api.ErrText", "packhorse/api.ErrBound", "packhorse/api.ErrShape", "packhorse/api.ErrKind", "packhorse/api.ErrName", "packhorse/api.ErrNone", "packhorse/api.ErrExist", "packhorse/api.ErrFull", "packhorse/api.ErrOrder", "packhorse/api.ErrSum", "packhorse/api.ErrStale", "packhorse/api.ErrOff"] (by kernel_rfl) (by kernel_rfl)
theorem xferKeeps_row_tie : Rows.xferKeepsRow.laidByTextAt .later Tryz.pinned [.data, .handle, .sentinel, .sentinel, .sentinel, .sentinel, .sentinel, .sentinel, .sentinel, .sentinel, .sentinel, .sentinel, .sentinel, .sentinel, .pinned] true :=
  OpenClaim.laidByTextAt_pinned rfl rfl tie2 rfl rfl rfl rfl (fun y hy _e => by
    simp only [Rows.xferKeepsRow, List.zip_cons_cons, List.zip_nil_right, List.mem_cons, List.mem_nil_iff, or_false] at hy
    rcases hy with rfl | rfl | rfl | rfl | rfl | rfl | rfl | rfl | rfl | rfl | rfl | rfl | rfl | rfl | rfl
    · cases _e
    · cases _e
    · cases _e
    · cases _e
    · cases _e
    · cases _e
    · cases _e
    · cases _e
    · cases _e
    · cases _e
    · cases _e
    · cases _e
    · cases _e
    · cases _e
    · exact ⟨pin_laid_unicode_utf8_first, by kernel_rfl⟩) fits2
theorem xferSameUpto_row_tie : Rows.xferSameUptoRow.laidByTextAt .later Tryz.pinned [.data, .sentinel, .sentinel, .sentinel, .sentinel, .sentinel, .sentinel, .sentinel, .sentinel, .sentinel, .sentinel, .pinned] true :=
  OpenClaim.laidByTextAt_pinned rfl rfl tie rfl rfl rfl rfl (fun y hy _e => by
    simp only [Rows.xferSameUptoRow, List.zip_cons_cons, List.zip_nil_right, List.mem_cons, List.mem_nil_iff, or_false] at hy
    rcases hy with rfl | rfl | rfl | rfl | rfl | rfl | rfl | rfl | rfl | rfl | rfl | rfl
    · cases _e
    · cases _e
    · cases _e
    · cases _e
    · cases _e
    · cases _e
    · cases _e
    · cases _e
    · cases _e
    · cases _e
    · cases _e
    · exact ⟨pin_laid_unicode_utf8_first, by kernel_rfl⟩) fits1
theorem xferKeepsUpto_row_tie : Rows.xferKeepsUptoRow.laidByTextAt .later Tryz.pinned [.data, .handle, .sentinel, .sentinel, .sentinel, .sentinel, .sentinel, .sentinel, .sentinel, .sentinel, .sentinel, .sentinel, .sentinel, .sentinel, .pinned] true :=
  OpenClaim.laidByTextAt_pinned rfl rfl tie2 rfl rfl rfl rfl (fun y hy _e => by
    simp only [Rows.xferKeepsUptoRow, List.zip_cons_cons, List.zip_nil_right, List.mem_cons, List.mem_nil_iff, or_false] at hy
    rcases hy with rfl | rfl | rfl | rfl | rfl | rfl | rfl | rfl | rfl | rfl | rfl | rfl | rfl | rfl | rfl
    · cases _e
    · cases _e
    · cases _e
    · cases _e
    · cases _e
    · cases _e
    · cases _e
    · cases _e
    · cases _e
    · cases _e
    · cases _e
    · cases _e
    · cases _e
    · cases _e
    · exact ⟨pin_laid_unicode_utf8_first, by kernel_rfl⟩) fits2
end Go.Proofs.YtdpoalbbcmkceaaGreatDoor
