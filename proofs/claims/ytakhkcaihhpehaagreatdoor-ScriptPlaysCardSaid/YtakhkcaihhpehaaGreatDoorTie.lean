/-
  DERIVED. GIVEN WITH THE SEED: THE PROGRAM's TIES (one call each: nine closed facts by the kernel) AND EACH ROW's TIE, after the 31st guide's Derived/Test/Toyas{Tie, Card}.lean. No idea stands in it: it is a product of the set-up. Laid BY PROGRAM, IN A SANDBOX (cutbox-door.mjs). By AI agents, Wed Nov 11 2026. No macro, syntax, notation, axiom, sorry.
-/
import Derived.Test.YtakhkcaihhpehaaGreatDoorRows
import Derived.LaidByTextLater
import Derived.SevenTiedAt
import Derived.LaidSub
import Derived.LaidOnce
namespace Go.Proofs.YtakhkcaihhpehaaGreatDoor
open Go
set_option maxRecDepth 100000
theorem seatTie1 : Tryz.prog.laidByTextLater [("math/bits.deBruijn32tab", Rows.laid_math_bits_deBruijn32tab), ("math/bits.deBruijn64tab", Rows.laid_math_bits_deBruijn64tab), ("internal/strconv.uint64pow10", Rows.laid_internal_strconv_uint64pow10), ("unicode/utf8.acceptRanges", Rows.laid_unicode_utf8_acceptRanges), ("errors.errorType", Rows.laid_errors_errorType), ("packhorse/api.ErrText", Rows.laid_packhorse_api_ErrText), ("packhorse/api.ErrBound", Rows.laid_packhorse_api_ErrBound), ("packhorse/api.ErrShape", Rows.laid_packhorse_api_ErrShape), ("packhorse/api.ErrKind", Rows.laid_packhorse_api_ErrKind), ("packhorse/api.ErrName", Rows.laid_packhorse_api_ErrName), ("packhorse/api.ErrNone", Rows.laid_packhorse_api_ErrNone), ("packhorse/api.ErrFull", Rows.laid_packhorse_api_ErrFull), ("packhorse/api.ErrOrder", Rows.laid_packhorse_api_ErrOrder), ("packhorse/api.ErrSum", Rows.laid_packhorse_api_ErrSum), ("packhorse/api.ErrStale", Rows.laid_packhorse_api_ErrStale), ("packhorse/api.ErrOff", Rows.laid_packhorse_api_ErrOff), ("strconv.ErrRange", Rows.laid_strconv_ErrRange), ("strconv.ErrSyntax", Rows.laid_strconv_ErrSyntax)] [.data, .data, .data, .data, .handle, .sentinel, .sentinel, .sentinel, .sentinel, .sentinel, .sentinel, .sentinel, .sentinel, .sentinel, .sentinel, .sentinel, .sentinel, .sentinel] true :=
  Program.laidByTextLater_by_one 288 8 65 (by kernel_rfl) (by kernel_rfl) (by kernel_rfl) (by kernel_rfl) (by kernel_rfl) (by kernel_rfl) (fun _ _ => by kernel_rfl)
theorem pin_laid_unicode_utf8_first : Tryz.pinned.checked.prog.pinnedFits "unicode/utf8.first" = true := by kernel_rfl
theorem noOwnUnsafe : Tryz.pinned.checked.prog.headLifts.contains "ownunsafe" = false := by kernel_rfl
theorem fits1 : Tryz.pinned.checked.prog.listedFits [("math/bits.deBruijn32tab", Rows.laid_math_bits_deBruijn32tab), ("math/bits.deBruijn64tab", Rows.laid_math_bits_deBruijn64tab), ("internal/strconv.uint64pow10", Rows.laid_internal_strconv_uint64pow10), ("unicode/utf8.acceptRanges", Rows.laid_unicode_utf8_acceptRanges), ("errors.errorType", Rows.laid_errors_errorType), ("packhorse/api.ErrText", Rows.laid_packhorse_api_ErrText), ("packhorse/api.ErrBound", Rows.laid_packhorse_api_ErrBound), ("packhorse/api.ErrShape", Rows.laid_packhorse_api_ErrShape), ("packhorse/api.ErrKind", Rows.laid_packhorse_api_ErrKind), ("packhorse/api.ErrName", Rows.laid_packhorse_api_ErrName), ("packhorse/api.ErrNone", Rows.laid_packhorse_api_ErrNone), ("packhorse/api.ErrFull", Rows.laid_packhorse_api_ErrFull), ("packhorse/api.ErrOrder", Rows.laid_packhorse_api_ErrOrder), ("packhorse/api.ErrSum", Rows.laid_packhorse_api_ErrSum), ("packhorse/api.ErrStale", Rows.laid_packhorse_api_ErrStale), ("packhorse/api.ErrOff", Rows.laid_packhorse_api_ErrOff), ("strconv.ErrRange", Rows.laid_strconv_ErrRange), ("strconv.ErrSyntax", Rows.laid_strconv_ErrSyntax), ("unicode/utf8.first", Rows.laid_unicode_utf8_first)] = true := by
  unfold Program.listedFits
  rw [noOwnUnsafe]
  kernel_rfl
theorem tie : Tryz.prog.laidByTextLater [("math/bits.deBruijn32tab", Rows.laid_math_bits_deBruijn32tab), ("math/bits.deBruijn64tab", Rows.laid_math_bits_deBruijn64tab), ("internal/strconv.uint64pow10", Rows.laid_internal_strconv_uint64pow10), ("unicode/utf8.acceptRanges", Rows.laid_unicode_utf8_acceptRanges), ("errors.errorType", Rows.laid_errors_errorType), ("packhorse/api.ErrText", Rows.laid_packhorse_api_ErrText), ("packhorse/api.ErrBound", Rows.laid_packhorse_api_ErrBound), ("packhorse/api.ErrShape", Rows.laid_packhorse_api_ErrShape), ("packhorse/api.ErrKind", Rows.laid_packhorse_api_ErrKind), ("packhorse/api.ErrName", Rows.laid_packhorse_api_ErrName), ("packhorse/api.ErrNone", Rows.laid_packhorse_api_ErrNone), ("packhorse/api.ErrFull", Rows.laid_packhorse_api_ErrFull), ("packhorse/api.ErrOrder", Rows.laid_packhorse_api_ErrOrder), ("packhorse/api.ErrSum", Rows.laid_packhorse_api_ErrSum), ("packhorse/api.ErrStale", Rows.laid_packhorse_api_ErrStale), ("packhorse/api.ErrOff", Rows.laid_packhorse_api_ErrOff), ("strconv.ErrRange", Rows.laid_strconv_ErrRange), ("strconv.ErrSyntax", Rows.laid_strconv_ErrSyntax)] [.data, .data, .data, .data, .handle, .sentinel, .sentinel, .sentinel, .sentinel, .sentinel, .sentinel, .sentinel, .sentinel, .sentinel, .sentinel, .sentinel, .sentinel, .sentinel] true :=
  Program.laidByTextLater.sub seatTie1 ["math/bits.deBruijn32tab", "math/bits.deBruijn64tab", "internal/strconv.uint64pow10", "unicode/utf8.acceptRanges", "errors.errorType", "packhorse/api.ErrText", "packhorse/api.ErrBound", "packhorse/api.ErrShape", "packhorse/api.ErrKind", "packhorse/api.ErrName", "packhorse/api.ErrNone", "packhorse/api.ErrFull", "packhorse/api.ErrOrder", "packhorse/api.ErrSum", "packhorse/api.ErrStale", "packhorse/api.ErrOff", "strconv.ErrRange", "strconv.ErrSyntax"] (by kernel_rfl) (by kernel_rfl)
theorem scriptPlays_row_tie : Rows.scriptPlaysRow.laidByTextAt .later Tryz.pinned [.data, .data, .data, .data, .handle, .sentinel, .sentinel, .sentinel, .sentinel, .sentinel, .sentinel, .sentinel, .sentinel, .sentinel, .sentinel, .sentinel, .sentinel, .sentinel, .pinned] true :=
  OpenClaim.laidByTextAt_pinned rfl rfl tie rfl rfl rfl rfl (fun y hy _e => by
    simp only [Rows.scriptPlaysRow, List.zip_cons_cons, List.zip_nil_right, List.mem_cons, List.mem_nil_iff, or_false] at hy
    rcases hy with rfl | rfl | rfl | rfl | rfl | rfl | rfl | rfl | rfl | rfl | rfl | rfl | rfl | rfl | rfl | rfl | rfl | rfl | rfl
    · cases _e
    · cases _e
    · cases _e
    · cases _e
    · cases _e
    · cases _e
    · cases _e
    · cases _e
    · cases _e
    · cases _e
    · cases _e
    · cases _e
    · cases _e
    · cases _e
    · cases _e
    · cases _e
    · cases _e
    · cases _e
    · exact ⟨pin_laid_unicode_utf8_first, by kernel_rfl⟩) fits1
theorem scriptPlaysUpto_row_tie : Rows.scriptPlaysUptoRow.laidByTextAt .later Tryz.pinned [.data, .data, .data, .data, .handle, .sentinel, .sentinel, .sentinel, .sentinel, .sentinel, .sentinel, .sentinel, .sentinel, .sentinel, .sentinel, .sentinel, .sentinel, .sentinel, .pinned] true :=
  OpenClaim.laidByTextAt_pinned rfl rfl tie rfl rfl rfl rfl (fun y hy _e => by
    simp only [Rows.scriptPlaysUptoRow, List.zip_cons_cons, List.zip_nil_right, List.mem_cons, List.mem_nil_iff, or_false] at hy
    rcases hy with rfl | rfl | rfl | rfl | rfl | rfl | rfl | rfl | rfl | rfl | rfl | rfl | rfl | rfl | rfl | rfl | rfl | rfl | rfl
    · cases _e
    · cases _e
    · cases _e
    · cases _e
    · cases _e
    · cases _e
    · cases _e
    · cases _e
    · cases _e
    · cases _e
    · cases _e
    · cases _e
    · cases _e
    · cases _e
    · cases _e
    · cases _e
    · cases _e
    · cases _e
    · exact ⟨pin_laid_unicode_utf8_first, by kernel_rfl⟩) fits1
end Go.Proofs.YtakhkcaihhpehaaGreatDoor
