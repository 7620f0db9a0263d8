/-
  DERIVED. GIVEN WITH THE SEED: THE PROGRAM's TIES (one call each: nine closed facts by the kernel) AND EACH ROW's TIE, after the 31st guide's Derived/Test/Toyas{Tie, Card}.lean. No idea stands in it: it is a product of the set-up. Laid BY PROGRAM, IN A SANDBOX (cutbox-door.mjs). By AI agents, Wed Nov 11 2026. No macro, syntax, notation, axiom, sorry.
-/
import Derived.Test.YtligejpfbcdpmaaDoorRows
import Derived.LaidByTextLater
import Derived.SevenTiedAt
import Derived.LaidSub
import Derived.LaidOnce
namespace Go.Proofs.YtligejpfbcdpmaaDoor
open Go
set_option maxRecDepth 100000
theorem seatTie1 : Tryd.prog.laidByTextLater [("math/bits.deBruijn32tab", Rows.laid_math_bits_deBruijn32tab), ("math/bits.deBruijn64tab", Rows.laid_math_bits_deBruijn64tab), ("internal/strconv.uint64pow10", Rows.laid_internal_strconv_uint64pow10), ("unicode/utf8.acceptRanges", Rows.laid_unicode_utf8_acceptRanges), ("errors.errorType", Rows.laid_errors_errorType), ("dovetail/api.ErrArg", Rows.laid_dovetail_api_ErrArg), ("dovetail/api.ErrSyntax", Rows.laid_dovetail_api_ErrSyntax), ("dovetail/api.ErrBounds", Rows.laid_dovetail_api_ErrBounds), ("dovetail/api.ErrCut", Rows.laid_dovetail_api_ErrCut), ("dovetail/api.ErrPlan", Rows.laid_dovetail_api_ErrPlan), ("dovetail/api.ErrName", Rows.laid_dovetail_api_ErrName), ("dovetail/api.ErrLong", Rows.laid_dovetail_api_ErrLong), ("dovetail/api.ErrNone", Rows.laid_dovetail_api_ErrNone)] [.data, .data, .data, .data, .handle, .sentinel, .sentinel, .sentinel, .sentinel, .sentinel, .sentinel, .sentinel, .sentinel] true :=
  Program.laidByTextLater_by_one 193 8 65 (by kernel_rfl) (by kernel_rfl) (by kernel_rfl) (by kernel_rfl) (by kernel_rfl) (by kernel_rfl) (fun _ _ => by kernel_rfl)
theorem pin_laid_unicode_utf8_first : Tryd.pinned.checked.prog.pinnedFits "unicode/utf8.first" = true := by kernel_rfl
theorem noOwnUnsafe : Tryd.pinned.checked.prog.headLifts.contains "ownunsafe" = false := by kernel_rfl
theorem tie : Tryd.prog.laidByTextLater [("math/bits.deBruijn32tab", Rows.laid_math_bits_deBruijn32tab), ("math/bits.deBruijn64tab", Rows.laid_math_bits_deBruijn64tab), ("internal/strconv.uint64pow10", Rows.laid_internal_strconv_uint64pow10)] [.data, .data, .data] true :=
  Program.laidByTextLater.sub seatTie1 ["math/bits.deBruijn32tab", "math/bits.deBruijn64tab", "internal/strconv.uint64pow10"] (by kernel_rfl) (by kernel_rfl)
theorem topSetted_row_tie : Rows.topSettedRow.laidByTextAt .later Tryd.pinned [.data, .data, .data] true :=
  OpenClaim.laidByTextAt_later rfl rfl tie noOwnUnsafe
theorem tie2 : Tryd.prog.laidByTextLater [("math/bits.deBruijn32tab", Rows.laid_math_bits_deBruijn32tab), ("math/bits.deBruijn64tab", Rows.laid_math_bits_deBruijn64tab), ("internal/strconv.uint64pow10", Rows.laid_internal_strconv_uint64pow10), ("dovetail/api.ErrArg", Rows.laid_dovetail_api_ErrArg), ("dovetail/api.ErrBounds", Rows.laid_dovetail_api_ErrBounds), ("dovetail/api.ErrName", Rows.laid_dovetail_api_ErrName), ("dovetail/api.ErrNone", Rows.laid_dovetail_api_ErrNone)] [.data, .data, .data, .sentinel, .sentinel, .sentinel, .sentinel] true :=
  Program.laidByTextLater.sub seatTie1 ["math/bits.deBruijn32tab", "math/bits.deBruijn64tab", "internal/strconv.uint64pow10", "dovetail/api.ErrArg", "dovetail/api.ErrBounds", "dovetail/api.ErrName", "dovetail/api.ErrNone"] (by kernel_rfl) (by kernel_rfl)
theorem topEnded_row_tie : Rows.topEndedRow.laidByTextAt .later Tryd.pinned [.data, .data, .data, .sentinel, .sentinel, .sentinel, .sentinel] true :=
  OpenClaim.laidByTextAt_later rfl rfl tie2 noOwnUnsafe
theorem tie3 : Tryd.prog.laidByTextLater [("math/bits.deBruijn32tab", Rows.laid_math_bits_deBruijn32tab), ("math/bits.deBruijn64tab", Rows.laid_math_bits_deBruijn64tab), ("internal/strconv.uint64pow10", Rows.laid_internal_strconv_uint64pow10), ("errors.errorType", Rows.laid_errors_errorType), ("dovetail/api.ErrArg", Rows.laid_dovetail_api_ErrArg), ("dovetail/api.ErrSyntax", Rows.laid_dovetail_api_ErrSyntax), ("dovetail/api.ErrCut", Rows.laid_dovetail_api_ErrCut), ("dovetail/api.ErrPlan", Rows.laid_dovetail_api_ErrPlan)] [.data, .data, .data, .handle, .sentinel, .sentinel, .sentinel, .sentinel] true :=
  Program.laidByTextLater.sub seatTie1 ["math/bits.deBruijn32tab", "math/bits.deBruijn64tab", "internal/strconv.uint64pow10", "errors.errorType", "dovetail/api.ErrArg", "dovetail/api.ErrSyntax", "dovetail/api.ErrCut", "dovetail/api.ErrPlan"] (by kernel_rfl) (by kernel_rfl)
theorem topPlanned_row_tie : Rows.topPlannedRow.laidByTextAt .later Tryd.pinned [.data, .data, .data, .handle, .sentinel, .sentinel, .sentinel, .sentinel] true :=
  OpenClaim.laidByTextAt_later rfl rfl tie3 noOwnUnsafe
theorem tie4 : Tryd.prog.laidByTextLater [("math/bits.deBruijn32tab", Rows.laid_math_bits_deBruijn32tab), ("math/bits.deBruijn64tab", Rows.laid_math_bits_deBruijn64tab), ("internal/strconv.uint64pow10", Rows.laid_internal_strconv_uint64pow10), ("dovetail/api.ErrArg", Rows.laid_dovetail_api_ErrArg), ("dovetail/api.ErrBounds", Rows.laid_dovetail_api_ErrBounds), ("dovetail/api.ErrName", Rows.laid_dovetail_api_ErrName), ("dovetail/api.ErrLong", Rows.laid_dovetail_api_ErrLong), ("dovetail/api.ErrNone", Rows.laid_dovetail_api_ErrNone)] [.data, .data, .data, .sentinel, .sentinel, .sentinel, .sentinel, .sentinel] true :=
  Program.laidByTextLater.sub seatTie1 ["math/bits.deBruijn32tab", "math/bits.deBruijn64tab", "internal/strconv.uint64pow10", "dovetail/api.ErrArg", "dovetail/api.ErrBounds", "dovetail/api.ErrName", "dovetail/api.ErrLong", "dovetail/api.ErrNone"] (by kernel_rfl) (by kernel_rfl)
theorem topTrimmed_row_tie : Rows.topTrimmedRow.laidByTextAt .later Tryd.pinned [.data, .data, .data, .sentinel, .sentinel, .sentinel, .sentinel, .sentinel] true :=
  OpenClaim.laidByTextAt_later rfl rfl tie4 noOwnUnsafe
theorem fits5 : Tryd.pinned.checked.prog.listedFits [("unicode/utf8.acceptRanges", Rows.laid_unicode_utf8_acceptRanges), ("errors.errorType", Rows.laid_errors_errorType), ("dovetail/api.ErrSyntax", Rows.laid_dovetail_api_ErrSyntax), ("dovetail/api.ErrLong", Rows.laid_dovetail_api_ErrLong), ("unicode/utf8.first", Rows.laid_unicode_utf8_first)] = true := by
  unfold Program.listedFits
  rw [noOwnUnsafe]
  kernel_rfl
theorem tie5 : Tryd.prog.laidByTextLater [("unicode/utf8.acceptRanges", Rows.laid_unicode_utf8_acceptRanges), ("errors.errorType", Rows.laid_errors_errorType), ("dovetail/api.ErrSyntax", Rows.laid_dovetail_api_ErrSyntax), ("dovetail/api.ErrLong", Rows.laid_dovetail_api_ErrLong)] [.data, .handle, .sentinel, .sentinel] true :=
  Program.laidByTextLater.sub seatTie1 ["unicode/utf8.acceptRanges", "errors.errorType", "dovetail/api.ErrSyntax", "dovetail/api.ErrLong"] (by kernel_rfl) (by kernel_rfl)
theorem topWorded_row_tie : Rows.topWordedRow.laidByTextAt .later Tryd.pinned [.data, .handle, .sentinel, .sentinel, .pinned] true :=
  OpenClaim.laidByTextAt_pinned rfl rfl tie5 rfl rfl rfl rfl (fun y hy _e => by
    simp only [Rows.topWordedRow, List.zip_cons_cons, List.zip_nil_right, List.mem_cons, List.mem_nil_iff, or_false] at hy
    rcases hy with rfl | rfl | rfl | rfl | rfl
    · cases _e
    · cases _e
    · cases _e
    · cases _e
    · exact ⟨pin_laid_unicode_utf8_first, by kernel_rfl⟩) fits5
theorem tie6 : Tryd.prog.laidByTextLater [("errors.errorType", Rows.laid_errors_errorType), ("dovetail/api.ErrArg", Rows.laid_dovetail_api_ErrArg)] [.handle, .sentinel] true :=
  Program.laidByTextLater.sub seatTie1 ["errors.errorType", "dovetail/api.ErrArg"] (by kernel_rfl) (by kernel_rfl)
theorem topTried_row_tie : Rows.topTriedRow.laidByTextAt .later Tryd.pinned [.handle, .sentinel] true :=
  OpenClaim.laidByTextAt_later rfl rfl tie6 noOwnUnsafe
theorem tie7 : Tryd.prog.laidByTextLater [("dovetail/api.ErrArg", Rows.laid_dovetail_api_ErrArg), ("dovetail/api.ErrLong", Rows.laid_dovetail_api_ErrLong), ("dovetail/api.ErrNone", Rows.laid_dovetail_api_ErrNone)] [.sentinel, .sentinel, .sentinel] true :=
  Program.laidByTextLater.sub seatTie1 ["dovetail/api.ErrArg", "dovetail/api.ErrLong", "dovetail/api.ErrNone"] (by kernel_rfl) (by kernel_rfl)
theorem topPaced_row_tie : Rows.topPacedRow.laidByTextAt .later Tryd.pinned [.sentinel, .sentinel, .sentinel] true :=
  OpenClaim.laidByTextAt_later rfl rfl tie7 noOwnUnsafe
theorem topSettedUpto_row_tie : Rows.topSettedUptoRow.laidByTextAt .later Tryd.pinned [.data, .data, .data] true :=
  OpenClaim.laidByTextAt_later rfl rfl tie noOwnUnsafe
theorem topEndedUpto_row_tie : Rows.topEndedUptoRow.laidByTextAt .later Tryd.pinned [.data, .data, .data, .sentinel, .sentinel, .sentinel, .sentinel] true :=
  OpenClaim.laidByTextAt_later rfl rfl tie2 noOwnUnsafe
theorem topPlannedUpto_row_tie : Rows.topPlannedUptoRow.laidByTextAt .later Tryd.pinned [.data, .data, .data, .handle, .sentinel, .sentinel, .sentinel, .sentinel] true :=
  OpenClaim.laidByTextAt_later rfl rfl tie3 noOwnUnsafe
theorem topTrimmedUpto_row_tie : Rows.topTrimmedUptoRow.laidByTextAt .later Tryd.pinned [.data, .data, .data, .sentinel, .sentinel, .sentinel, .sentinel, .sentinel] true :=
  OpenClaim.laidByTextAt_later rfl rfl tie4 noOwnUnsafe
theorem topWordedUpto_row_tie : Rows.topWordedUptoRow.laidByTextAt .later Tryd.pinned [.data, .handle, .sentinel, .sentinel, .pinned] true :=
  OpenClaim.laidByTextAt_pinned rfl rfl tie5 rfl rfl rfl rfl (fun y hy _e => by
    simp only [Rows.topWordedUptoRow, List.zip_cons_cons, List.zip_nil_right, List.mem_cons, List.mem_nil_iff, or_false] at hy
    rcases hy with rfl | rfl | rfl | rfl | rfl
    · cases _e
    · cases _e
    · cases _e
    · cases _e
    · exact ⟨pin_laid_unicode_utf8_first, by kernel_rfl⟩) fits5
theorem topTriedUpto_row_tie : Rows.topTriedUptoRow.laidByTextAt .later Tryd.pinned [.handle, .sentinel] true :=
  OpenClaim.laidByTextAt_later rfl rfl tie6 noOwnUnsafe
theorem topPacedUpto_row_tie : Rows.topPacedUptoRow.laidByTextAt .later Tryd.pinned [.sentinel, .sentinel, .sentinel] true :=
  OpenClaim.laidByTextAt_later rfl rfl tie7 noOwnUnsafe
end Go.Proofs.YtligejpfbcdpmaaDoor
