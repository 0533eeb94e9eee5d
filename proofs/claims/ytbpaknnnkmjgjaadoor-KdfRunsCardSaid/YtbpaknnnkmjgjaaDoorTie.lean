/-
  DERIVED. GIVEN WITH THE SEED: THE PROGRAM's TIES (one call each: nine closed facts by the kernel) AND EACH ROW's TIE, after the 31st guide's Derived/Test/Toyas{Tie, Card}.lean. No idea stands in it: it is a product of the set-up. Laid BY PROGRAM, IN A SANDBOX (cutbox-door.mjs). By AI agents, Wed Nov 11 2026. No macro, syntax, notation, axiom, sorry.
-/
import Derived.Test.YtbpaknnnkmjgjaaDoorRows
import Derived.LaidByTextLater
import Derived.SevenTiedAt
import Derived.LaidSub
import Derived.LaidOnce
namespace Go.Proofs.YtbpaknnnkmjgjaaDoor
open Go
set_option maxRecDepth 100000
theorem seatTie1 : Tryd.prog.laidByTextLater [("casket/casketref2.roots", Rows.laid_casket_casketref2_roots), ("casket/casketref2.powers", Rows.laid_casket_casketref2_powers), ("casket/sha.first", Rows.laid_casket_sha_first), ("casket/sha.roots", Rows.laid_casket_sha_roots)] [.data, .data, .data, .data] true :=
  Program.laidByTextLater_by_one 29 8 65 (by kernel_rfl) (by kernel_rfl) (by kernel_rfl) (by kernel_rfl) (by kernel_rfl) (by kernel_rfl) (fun _ _ => by kernel_rfl)
theorem noOwnUnsafe : Tryd.pinned.checked.prog.headLifts.contains "ownunsafe" = false := by kernel_rfl
theorem tie : Tryd.prog.laidByTextLater [("casket/casketref2.roots", Rows.laid_casket_casketref2_roots), ("casket/casketref2.powers", Rows.laid_casket_casketref2_powers), ("casket/sha.first", Rows.laid_casket_sha_first), ("casket/sha.roots", Rows.laid_casket_sha_roots)] [.data, .data, .data, .data] true :=
  Program.laidByTextLater.sub seatTie1 ["casket/casketref2.roots", "casket/casketref2.powers", "casket/sha.first", "casket/sha.roots"] (by kernel_rfl) (by kernel_rfl)
theorem kdfMacs_row_tie : Rows.kdfMacsRow.laidByTextAt .later Tryd.pinned [.data, .data, .data, .data] true :=
  OpenClaim.laidByTextAt_later rfl rfl tie noOwnUnsafe
theorem kdfRuns_row_tie : Rows.kdfRunsRow.laidByTextAt .later Tryd.pinned [.data, .data, .data, .data] true :=
  OpenClaim.laidByTextAt_later rfl rfl tie noOwnUnsafe
theorem kdfExpands_row_tie : Rows.kdfExpandsRow.laidByTextAt .later Tryd.pinned [.data, .data, .data, .data] true :=
  OpenClaim.laidByTextAt_later rfl rfl tie noOwnUnsafe
theorem kdfPasses_row_tie : Rows.kdfPassesRow.laidByTextAt .later Tryd.pinned [.data, .data, .data, .data] true :=
  OpenClaim.laidByTextAt_later rfl rfl tie noOwnUnsafe
theorem tie2 : Tryd.prog.laidByTextLater [("casket/sha.first", Rows.laid_casket_sha_first), ("casket/sha.roots", Rows.laid_casket_sha_roots)] [.data, .data] true :=
  Program.laidByTextLater.sub seatTie1 ["casket/sha.first", "casket/sha.roots"] (by kernel_rfl) (by kernel_rfl)
theorem kdfKeys_row_tie : Rows.kdfKeysRow.laidByTextAt .later Tryd.pinned [.data, .data] true :=
  OpenClaim.laidByTextAt_later rfl rfl tie2 noOwnUnsafe
theorem kdfCuts_row_tie : Rows.kdfCutsRow.laidByTextAt .later Tryd.pinned [.data, .data] true :=
  OpenClaim.laidByTextAt_later rfl rfl tie2 noOwnUnsafe
theorem kdfPrefix_row_tie : Rows.kdfPrefixRow.laidByTextAt .later Tryd.pinned [.data, .data] true :=
  OpenClaim.laidByTextAt_later rfl rfl tie2 noOwnUnsafe
theorem kdfBuilt_row_tie : Rows.kdfBuiltRow.laidByTextAt .later Tryd.pinned [.data, .data] true :=
  OpenClaim.laidByTextAt_later rfl rfl tie2 noOwnUnsafe
theorem kdfKnown_row_tie : Rows.kdfKnownRow.laidByTextAt .later Tryd.pinned [.data, .data] true :=
  OpenClaim.laidByTextAt_later rfl rfl tie2 noOwnUnsafe
theorem kdfMacsUpto_row_tie : Rows.kdfMacsUptoRow.laidByTextAt .later Tryd.pinned [.data, .data, .data, .data] true :=
  OpenClaim.laidByTextAt_later rfl rfl tie noOwnUnsafe
theorem kdfKeysUpto_row_tie : Rows.kdfKeysUptoRow.laidByTextAt .later Tryd.pinned [.data, .data] true :=
  OpenClaim.laidByTextAt_later rfl rfl tie2 noOwnUnsafe
theorem kdfRunsUpto_row_tie : Rows.kdfRunsUptoRow.laidByTextAt .later Tryd.pinned [.data, .data, .data, .data] true :=
  OpenClaim.laidByTextAt_later rfl rfl tie noOwnUnsafe
theorem kdfCutsUpto_row_tie : Rows.kdfCutsUptoRow.laidByTextAt .later Tryd.pinned [.data, .data] true :=
  OpenClaim.laidByTextAt_later rfl rfl tie2 noOwnUnsafe
theorem kdfExpandsUpto_row_tie : Rows.kdfExpandsUptoRow.laidByTextAt .later Tryd.pinned [.data, .data, .data, .data] true :=
  OpenClaim.laidByTextAt_later rfl rfl tie noOwnUnsafe
theorem kdfPassesUpto_row_tie : Rows.kdfPassesUptoRow.laidByTextAt .later Tryd.pinned [.data, .data, .data, .data] true :=
  OpenClaim.laidByTextAt_later rfl rfl tie noOwnUnsafe
theorem kdfPrefixUpto_row_tie : Rows.kdfPrefixUptoRow.laidByTextAt .later Tryd.pinned [.data, .data] true :=
  OpenClaim.laidByTextAt_later rfl rfl tie2 noOwnUnsafe
theorem kdfBuiltUpto_row_tie : Rows.kdfBuiltUptoRow.laidByTextAt .later Tryd.pinned [.data, .data] true :=
  OpenClaim.laidByTextAt_later rfl rfl tie2 noOwnUnsafe
theorem kdfKnownUpto_row_tie : Rows.kdfKnownUptoRow.laidByTextAt .later Tryd.pinned [.data, .data] true :=
  OpenClaim.laidByTextAt_later rfl rfl tie2 noOwnUnsafe
end Go.Proofs.YtbpaknnnkmjgjaaDoor
