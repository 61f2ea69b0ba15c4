/-
  DERIVED. GIVEN WITH THE SEED: THE PROGRAM's TIES (one call each: nine closed facts by the kernel) AND EACH ROW's TIE, after the 31st guide's Derived/Test/Toyas{Tie, Card}.lean. No idea stands in it: it is a product of the set-up. Laid BY PROGRAM, IN A SANDBOX (cutbox-door.mjs). By AI agents, Wed Nov 11 2026. No macro, syntax, notation, axiom, sorry.
-/
import Derived.Test.YtfonajakaimnoaaDoorRows
import Derived.LaidByTextLater
import Derived.SevenTiedAt
import Derived.LaidSub
import Derived.LaidOnce
namespace Go.Proofs.YtfonajakaimnoaaDoor
open Go
set_option maxRecDepth 100000
theorem seatTie1 : Tryd.prog.laidByTextLater [("math/bits.deBruijn32tab", Rows.laid_math_bits_deBruijn32tab), ("math/bits.deBruijn64tab", Rows.laid_math_bits_deBruijn64tab), ("internal/strconv.uint64pow10", Rows.laid_internal_strconv_uint64pow10), ("caesura/api.ErrArg", Rows.laid_caesura_api_ErrArg), ("caesura/api.ErrText", Rows.laid_caesura_api_ErrText), ("caesura/api.ErrMany", Rows.laid_caesura_api_ErrMany), ("caesura/api.ErrShort", Rows.laid_caesura_api_ErrShort), ("caesura/api.ErrTwice", Rows.laid_caesura_api_ErrTwice), ("caesura/api.ErrLost", Rows.laid_caesura_api_ErrLost), ("caesura/api.ErrOrder", Rows.laid_caesura_api_ErrOrder), ("caesura/api.ErrCycle", Rows.laid_caesura_api_ErrCycle), ("caesura/api.ErrSum", Rows.laid_caesura_api_ErrSum), ("caesura/api.ErrForm", Rows.laid_caesura_api_ErrForm), ("caesura/api.ErrEnd", Rows.laid_caesura_api_ErrEnd)] [.data, .data, .data, .sentinel, .sentinel, .sentinel, .sentinel, .sentinel, .sentinel, .sentinel, .sentinel, .sentinel, .sentinel, .sentinel] true :=
  Program.laidByTextLater_by_one 233 8 65 (by kernel_rfl) (by kernel_rfl) (by kernel_rfl) (by kernel_rfl) (by kernel_rfl) (by kernel_rfl) (fun _ _ => by kernel_rfl)
theorem noOwnUnsafe : Tryd.pinned.checked.prog.headLifts.contains "ownunsafe" = false := by kernel_rfl
theorem tie : Tryd.prog.laidByTextLater [("caesura/api.ErrArg", Rows.laid_caesura_api_ErrArg), ("caesura/api.ErrText", Rows.laid_caesura_api_ErrText), ("caesura/api.ErrMany", Rows.laid_caesura_api_ErrMany), ("caesura/api.ErrShort", Rows.laid_caesura_api_ErrShort), ("caesura/api.ErrTwice", Rows.laid_caesura_api_ErrTwice), ("caesura/api.ErrLost", Rows.laid_caesura_api_ErrLost), ("caesura/api.ErrOrder", Rows.laid_caesura_api_ErrOrder), ("caesura/api.ErrCycle", Rows.laid_caesura_api_ErrCycle), ("caesura/api.ErrSum", Rows.laid_caesura_api_ErrSum), ("caesura/api.ErrForm", Rows.laid_caesura_api_ErrForm), ("caesura/api.ErrEnd", Rows.laid_caesura_api_ErrEnd)] [.sentinel, .sentinel, .sentinel, .sentinel, .sentinel, .sentinel, .sentinel, .sentinel, .sentinel, .sentinel, .sentinel] true :=
  Program.laidByTextLater.sub seatTie1 ["caesura/api.ErrArg", "caesura/api.ErrText", "caesura/api.ErrMany", "caesura/api.ErrShort", "caesura/api.ErrTwice", "caesura/api.ErrLost", "caesura/api.ErrOrder", "caesura/api.ErrCycle", "caesura/api.ErrSum", "caesura/api.ErrForm", "caesura/api.ErrEnd"] (by kernel_rfl) (by kernel_rfl)
theorem minimalApart_row_tie : Rows.minimalApartRow.laidByTextAt .later Tryd.pinned [.sentinel, .sentinel, .sentinel, .sentinel, .sentinel, .sentinel, .sentinel, .sentinel, .sentinel, .sentinel, .sentinel] true :=
  OpenClaim.laidByTextAt_later rfl rfl tie noOwnUnsafe
theorem placesReads_row_tie : Rows.placesReadsRow.laidByTextAt .later Tryd.pinned [.sentinel, .sentinel, .sentinel, .sentinel, .sentinel, .sentinel, .sentinel, .sentinel, .sentinel, .sentinel, .sentinel] true :=
  OpenClaim.laidByTextAt_later rfl rfl tie noOwnUnsafe
theorem pairReads_row_tie : Rows.pairReadsRow.laidByTextAt .later Tryd.pinned [.sentinel, .sentinel, .sentinel, .sentinel, .sentinel, .sentinel, .sentinel, .sentinel, .sentinel, .sentinel, .sentinel] true :=
  OpenClaim.laidByTextAt_later rfl rfl tie noOwnUnsafe
theorem tie2 : Tryd.prog.laidByTextLater [("caesura/api.ErrArg", Rows.laid_caesura_api_ErrArg), ("caesura/api.ErrMany", Rows.laid_caesura_api_ErrMany)] [.sentinel, .sentinel] true :=
  Program.laidByTextLater.sub seatTie1 ["caesura/api.ErrArg", "caesura/api.ErrMany"] (by kernel_rfl) (by kernel_rfl)
theorem placesTurn_row_tie : Rows.placesTurnRow.laidByTextAt .later Tryd.pinned [.sentinel, .sentinel] true :=
  OpenClaim.laidByTextAt_later rfl rfl tie2 noOwnUnsafe
theorem tie3 : Tryd.prog.laidByTextLater [("math/bits.deBruijn32tab", Rows.laid_math_bits_deBruijn32tab), ("math/bits.deBruijn64tab", Rows.laid_math_bits_deBruijn64tab), ("internal/strconv.uint64pow10", Rows.laid_internal_strconv_uint64pow10), ("caesura/api.ErrArg", Rows.laid_caesura_api_ErrArg), ("caesura/api.ErrText", Rows.laid_caesura_api_ErrText), ("caesura/api.ErrMany", Rows.laid_caesura_api_ErrMany), ("caesura/api.ErrShort", Rows.laid_caesura_api_ErrShort), ("caesura/api.ErrTwice", Rows.laid_caesura_api_ErrTwice), ("caesura/api.ErrLost", Rows.laid_caesura_api_ErrLost), ("caesura/api.ErrOrder", Rows.laid_caesura_api_ErrOrder), ("caesura/api.ErrCycle", Rows.laid_caesura_api_ErrCycle), ("caesura/api.ErrSum", Rows.laid_caesura_api_ErrSum), ("caesura/api.ErrForm", Rows.laid_caesura_api_ErrForm), ("caesura/api.ErrEnd", Rows.laid_caesura_api_ErrEnd)] [.data, .data, .data, .sentinel, .sentinel, .sentinel, .sentinel, .sentinel, .sentinel, .sentinel, .sentinel, .sentinel, .sentinel, .sentinel] true :=
  Program.laidByTextLater.sub seatTie1 ["math/bits.deBruijn32tab", "math/bits.deBruijn64tab", "internal/strconv.uint64pow10", "caesura/api.ErrArg", "caesura/api.ErrText", "caesura/api.ErrMany", "caesura/api.ErrShort", "caesura/api.ErrTwice", "caesura/api.ErrLost", "caesura/api.ErrOrder", "caesura/api.ErrCycle", "caesura/api.ErrSum", "caesura/api.ErrForm", "caesura/api.ErrEnd"] (by kernel_rfl) (by kernel_rfl)
theorem minimalOf_row_tie : Rows.minimalOfRow.laidByTextAt .later Tryd.pinned [.data, .data, .data, .sentinel, .sentinel, .sentinel, .sentinel, .sentinel, .sentinel, .sentinel, .sentinel, .sentinel, .sentinel, .sentinel] true :=
  OpenClaim.laidByTextAt_later rfl rfl tie3 noOwnUnsafe
theorem minimalSays_row_tie : Rows.minimalSaysRow.laidByTextAt .later Tryd.pinned [.data, .data, .data, .sentinel, .sentinel, .sentinel, .sentinel, .sentinel, .sentinel, .sentinel, .sentinel, .sentinel, .sentinel, .sentinel] true :=
  OpenClaim.laidByTextAt_later rfl rfl tie3 noOwnUnsafe
theorem tie4 : Tryd.prog.laidByTextLater [("math/bits.deBruijn32tab", Rows.laid_math_bits_deBruijn32tab), ("math/bits.deBruijn64tab", Rows.laid_math_bits_deBruijn64tab), ("internal/strconv.uint64pow10", Rows.laid_internal_strconv_uint64pow10), ("caesura/api.ErrArg", Rows.laid_caesura_api_ErrArg)] [.data, .data, .data, .sentinel] true :=
  Program.laidByTextLater.sub seatTie1 ["math/bits.deBruijn32tab", "math/bits.deBruijn64tab", "internal/strconv.uint64pow10", "caesura/api.ErrArg"] (by kernel_rfl) (by kernel_rfl)
theorem minimalNew_row_tie : Rows.minimalNewRow.laidByTextAt .later Tryd.pinned [.data, .data, .data, .sentinel] true :=
  OpenClaim.laidByTextAt_later rfl rfl tie4 noOwnUnsafe
theorem minimalLeast_row_tie : Rows.minimalLeastRow.laidByTextAt .later Tryd.pinned [.data, .data, .data, .sentinel] true :=
  OpenClaim.laidByTextAt_later rfl rfl tie4 noOwnUnsafe
theorem minimalOne_row_tie : Rows.minimalOneRow.laidByTextAt .later Tryd.pinned [.data, .data, .data, .sentinel] true :=
  OpenClaim.laidByTextAt_later rfl rfl tie4 noOwnUnsafe
theorem minimalApartUpto_row_tie : Rows.minimalApartUptoRow.laidByTextAt .later Tryd.pinned [.sentinel, .sentinel, .sentinel, .sentinel, .sentinel, .sentinel, .sentinel, .sentinel, .sentinel, .sentinel, .sentinel] true :=
  OpenClaim.laidByTextAt_later rfl rfl tie noOwnUnsafe
theorem placesReadsUpto_row_tie : Rows.placesReadsUptoRow.laidByTextAt .later Tryd.pinned [.sentinel, .sentinel, .sentinel, .sentinel, .sentinel, .sentinel, .sentinel, .sentinel, .sentinel, .sentinel, .sentinel] true :=
  OpenClaim.laidByTextAt_later rfl rfl tie noOwnUnsafe
theorem placesTurnUpto_row_tie : Rows.placesTurnUptoRow.laidByTextAt .later Tryd.pinned [.sentinel, .sentinel] true :=
  OpenClaim.laidByTextAt_later rfl rfl tie2 noOwnUnsafe
theorem pairReadsUpto_row_tie : Rows.pairReadsUptoRow.laidByTextAt .later Tryd.pinned [.sentinel, .sentinel, .sentinel, .sentinel, .sentinel, .sentinel, .sentinel, .sentinel, .sentinel, .sentinel, .sentinel] true :=
  OpenClaim.laidByTextAt_later rfl rfl tie noOwnUnsafe
theorem minimalOfUpto_row_tie : Rows.minimalOfUptoRow.laidByTextAt .later Tryd.pinned [.data, .data, .data, .sentinel, .sentinel, .sentinel, .sentinel, .sentinel, .sentinel, .sentinel, .sentinel, .sentinel, .sentinel, .sentinel] true :=
  OpenClaim.laidByTextAt_later rfl rfl tie3 noOwnUnsafe
theorem minimalSaysUpto_row_tie : Rows.minimalSaysUptoRow.laidByTextAt .later Tryd.pinned [.data, .data, .data, .sentinel, .sentinel, .sentinel, .sentinel, .sentinel, .sentinel, .sentinel, .sentinel, .sentinel, .sentinel, .sentinel] true :=
  OpenClaim.laidByTextAt_later rfl rfl tie3 noOwnUnsafe
theorem minimalNewUpto_row_tie : Rows.minimalNewUptoRow.laidByTextAt .later Tryd.pinned [.data, .data, .data, .sentinel] true :=
  OpenClaim.laidByTextAt_later rfl rfl tie4 noOwnUnsafe
theorem minimalLeastUpto_row_tie : Rows.minimalLeastUptoRow.laidByTextAt .later Tryd.pinned [.data, .data, .data, .sentinel] true :=
  OpenClaim.laidByTextAt_later rfl rfl tie4 noOwnUnsafe
theorem minimalOneUpto_row_tie : Rows.minimalOneUptoRow.laidByTextAt .later Tryd.pinned [.data, .data, .data, .sentinel] true :=
  OpenClaim.laidByTextAt_later rfl rfl tie4 noOwnUnsafe
end Go.Proofs.YtfonajakaimnoaaDoor
