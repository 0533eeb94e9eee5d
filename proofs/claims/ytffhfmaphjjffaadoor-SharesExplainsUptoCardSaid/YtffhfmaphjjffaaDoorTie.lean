/-
  DERIVED. GIVEN WITH THE SEED: THE PROGRAM's TIES (one call each: nine closed facts by the kernel) AND EACH ROW's TIE, after the 31st guide's Derived/Test/Toyas{Tie, Card}.lean. No idea stands in it: it is a product of the set-up. Laid BY PROGRAM, IN A SANDBOX (cutbox-door.mjs). By AI agents, Wed Nov 11 2026. No macro, syntax, notation, axiom, sorry.
-/
import Derived.Test.YtffhfmaphjjffaaDoorRows
import Derived.LaidByTextLater
import Derived.SevenTiedAt
import Derived.LaidSub
import Derived.LaidOnce
namespace Go.Proofs.YtffhfmaphjjffaaDoor
open Go
set_option maxRecDepth 100000
theorem seatTie1 : Tryd.prog.laidByTextLater [("casket/casketref2.roots", Rows.laid_casket_casketref2_roots), ("casket/casketref2.powers", Rows.laid_casket_casketref2_powers), ("casket/sha.first", Rows.laid_casket_sha_first), ("casket/sha.roots", Rows.laid_casket_sha_roots)] [.data, .data, .data, .data] true :=
  Program.laidByTextLater_by_one 29 8 65 (by kernel_rfl) (by kernel_rfl) (by kernel_rfl) (by kernel_rfl) (by kernel_rfl) (by kernel_rfl) (fun _ _ => by kernel_rfl)
theorem noOwnUnsafe : Tryd.pinned.checked.prog.headLifts.contains "ownunsafe" = false := by kernel_rfl
theorem tie : Tryd.prog.laidByTextLater [("casket/casketref2.roots", Rows.laid_casket_casketref2_roots), ("casket/casketref2.powers", Rows.laid_casket_casketref2_powers), ("casket/sha.first", Rows.laid_casket_sha_first), ("casket/sha.roots", Rows.laid_casket_sha_roots)] [.data, .data, .data, .data] true :=
  Program.laidByTextLater.sub seatTie1 ["casket/casketref2.roots", "casket/casketref2.powers", "casket/sha.first", "casket/sha.roots"] (by kernel_rfl) (by kernel_rfl)
theorem sharesSplits_row_tie : Rows.sharesSplitsRow.laidByTextAt .later Tryd.pinned [.data, .data, .data, .data] true :=
  OpenClaim.laidByTextAt_later rfl rfl tie noOwnUnsafe
theorem sharesJoins_row_tie : Rows.sharesJoinsRow.laidByTextAt .later Tryd.pinned [.data, .data, .data, .data] true :=
  OpenClaim.laidByTextAt_later rfl rfl tie noOwnUnsafe
theorem sharesExplains_row_tie : Rows.sharesExplainsRow.laidByTextAt .later Tryd.pinned [.data, .data, .data, .data] true :=
  OpenClaim.laidByTextAt_later rfl rfl tie noOwnUnsafe
theorem tie2 : Tryd.prog.laidByTextLater [("casket/sha.first", Rows.laid_casket_sha_first), ("casket/sha.roots", Rows.laid_casket_sha_roots)] [.data, .data] true :=
  Program.laidByTextLater.sub seatTie1 ["casket/sha.first", "casket/sha.roots"] (by kernel_rfl) (by kernel_rfl)
theorem sharesLinear_row_tie : Rows.sharesLinearRow.laidByTextAt .later Tryd.pinned [.data, .data] true :=
  OpenClaim.laidByTextAt_later rfl rfl tie2 noOwnUnsafe
theorem sharesAny_row_tie : Rows.sharesAnyRow.laidByTextAt .later Tryd.pinned [.data, .data] true :=
  OpenClaim.laidByTextAt_later rfl rfl tie2 noOwnUnsafe
theorem sharesSpoilt_row_tie : Rows.sharesSpoiltRow.laidByTextAt .later Tryd.pinned [.data, .data] true :=
  OpenClaim.laidByTextAt_later rfl rfl tie2 noOwnUnsafe
theorem sharesMixed_row_tie : Rows.sharesMixedRow.laidByTextAt .later Tryd.pinned [.data, .data] true :=
  OpenClaim.laidByTextAt_later rfl rfl tie2 noOwnUnsafe
theorem sharesSecret_row_tie : Rows.sharesSecretRow.laidByTextAt .later Tryd.pinned [.data, .data] true :=
  OpenClaim.laidByTextAt_later rfl rfl tie2 noOwnUnsafe
theorem sharesSplitsUpto_row_tie : Rows.sharesSplitsUptoRow.laidByTextAt .later Tryd.pinned [.data, .data, .data, .data] true :=
  OpenClaim.laidByTextAt_later rfl rfl tie noOwnUnsafe
theorem sharesLinearUpto_row_tie : Rows.sharesLinearUptoRow.laidByTextAt .later Tryd.pinned [.data, .data] true :=
  OpenClaim.laidByTextAt_later rfl rfl tie2 noOwnUnsafe
theorem sharesJoinsUpto_row_tie : Rows.sharesJoinsUptoRow.laidByTextAt .later Tryd.pinned [.data, .data, .data, .data] true :=
  OpenClaim.laidByTextAt_later rfl rfl tie noOwnUnsafe
theorem sharesExplainsUpto_row_tie : Rows.sharesExplainsUptoRow.laidByTextAt .later Tryd.pinned [.data, .data, .data, .data] true :=
  OpenClaim.laidByTextAt_later rfl rfl tie noOwnUnsafe
theorem sharesAnyUpto_row_tie : Rows.sharesAnyUptoRow.laidByTextAt .later Tryd.pinned [.data, .data] true :=
  OpenClaim.laidByTextAt_later rfl rfl tie2 noOwnUnsafe
theorem sharesSpoiltUpto_row_tie : Rows.sharesSpoiltUptoRow.laidByTextAt .later Tryd.pinned [.data, .data] true :=
  OpenClaim.laidByTextAt_later rfl rfl tie2 noOwnUnsafe
theorem sharesMixedUpto_row_tie : Rows.sharesMixedUptoRow.laidByTextAt .later Tryd.pinned [.data, .data] true :=
  OpenClaim.laidByTextAt_later rfl rfl tie2 noOwnUnsafe
theorem sharesSecretUpto_row_tie : Rows.sharesSecretUptoRow.laidByTextAt .later Tryd.pinned [.data, .data] true :=
  OpenClaim.laidByTextAt_later rfl rfl tie2 noOwnUnsafe
end Go.Proofs.YtffhfmaphjjffaaDoor
