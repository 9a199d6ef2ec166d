/-
  DERIVED. GIVEN WITH THE SEED: THE PROGRAM's TIES (one call each: nine closed facts by the kernel) AND EACH ROW's TIE, after the 31st guide's Derived/Test/Toyas{Tie, Card}.lean. No idea stands in it: it is a product of the set-up. Laid BY PROGRAM, IN A SANDBOX (cutbox-door.mjs). By AI agents, Wed Nov 11 2026. No macro, syntax, notation, axiom, sorry.
-/
import Derived.Test.YtpbbneclkhfgoaaDoorRows
import Derived.LaidByTextLater
import Derived.SevenTiedAt
import Derived.LaidSub
import Derived.LaidOnce
namespace Go.Proofs.YtpbbneclkhfgoaaDoor
open Go
set_option maxRecDepth 100000
theorem seatTie1 : Tryd.prog.laidByTextLater [("olivette/ltl.atoms", Rows.laid_olivette_ltl_atoms), ("olivette/ltl.ones", Rows.laid_olivette_ltl_ones), ("olivette/ltl.twos", Rows.laid_olivette_ltl_twos), ("olivette/ltl.dual", Rows.laid_olivette_ltl_dual)] [.widerDeep, .widerDeep, .widerDeep, .mapped] true :=
  Program.laidByTextLater_by_one 74 8 7 (by kernel_rfl) (by kernel_rfl) (by kernel_rfl) (by kernel_rfl) (by kernel_rfl) (by kernel_rfl) (fun _ _ => by kernel_rfl)
theorem noOwnUnsafe : Tryd.pinned.checked.prog.headLifts.contains "ownunsafe" = false := by kernel_rfl
theorem tie : Tryd.prog.laidByTextLater [("olivette/ltl.atoms", Rows.laid_olivette_ltl_atoms), ("olivette/ltl.ones", Rows.laid_olivette_ltl_ones), ("olivette/ltl.twos", Rows.laid_olivette_ltl_twos), ("olivette/ltl.dual", Rows.laid_olivette_ltl_dual)] [.widerDeep, .widerDeep, .widerDeep, .mapped] true :=
  Program.laidByTextLater.sub seatTie1 ["olivette/ltl.atoms", "olivette/ltl.ones", "olivette/ltl.twos", "olivette/ltl.dual"] (by kernel_rfl) (by kernel_rfl)
theorem ltlValues_row_tie : Rows.ltlValuesRow.laidByTextAt .later Tryd.pinned [.widerDeep, .widerDeep, .widerDeep, .mapped] true :=
  OpenClaim.laidByTextAt_later rfl rfl tie noOwnUnsafe
theorem ltlPushes_row_tie : Rows.ltlPushesRow.laidByTextAt .later Tryd.pinned [.widerDeep, .widerDeep, .widerDeep, .mapped] true :=
  OpenClaim.laidByTextAt_later rfl rfl tie noOwnUnsafe
theorem ltlNegates_row_tie : Rows.ltlNegatesRow.laidByTextAt .later Tryd.pinned [.widerDeep, .widerDeep, .widerDeep, .mapped] true :=
  OpenClaim.laidByTextAt_later rfl rfl tie noOwnUnsafe
theorem ltlOne_row_tie : Rows.ltlOneRow.laidByTextAt .later Tryd.pinned [.widerDeep, .widerDeep, .widerDeep, .mapped] true :=
  OpenClaim.laidByTextAt_later rfl rfl tie noOwnUnsafe
theorem ltlTurns_row_tie : Rows.ltlTurnsRow.laidByTextAt .later Tryd.pinned [.widerDeep, .widerDeep, .widerDeep, .mapped] true :=
  OpenClaim.laidByTextAt_later rfl rfl tie noOwnUnsafe
theorem ltlOwn_row_tie : Rows.ltlOwnRow.laidByTextAt .later Tryd.pinned [.widerDeep, .widerDeep, .widerDeep, .mapped] true :=
  OpenClaim.laidByTextAt_later rfl rfl tie noOwnUnsafe
theorem ltlSame_row_tie : Rows.ltlSameRow.laidByTextAt .later Tryd.pinned [.widerDeep, .widerDeep, .widerDeep, .mapped] true :=
  OpenClaim.laidByTextAt_later rfl rfl tie noOwnUnsafe
theorem ltlLaws_row_tie : Rows.ltlLawsRow.laidByTextAt .later Tryd.pinned [.widerDeep, .widerDeep, .widerDeep, .mapped] true :=
  OpenClaim.laidByTextAt_later rfl rfl tie noOwnUnsafe
theorem ltlSymmetric_row_tie : Rows.ltlSymmetricRow.laidByTextAt .later Tryd.pinned [.widerDeep, .widerDeep, .widerDeep, .mapped] true :=
  OpenClaim.laidByTextAt_later rfl rfl tie noOwnUnsafe
theorem ltlHolds_row_tie : Rows.ltlHoldsRow.laidByTextAt .later Tryd.pinned [.widerDeep, .widerDeep, .widerDeep, .mapped] true :=
  OpenClaim.laidByTextAt_later rfl rfl tie noOwnUnsafe
theorem ltlChecks_row_tie : Rows.ltlChecksRow.laidByTextAt .later Tryd.pinned [.widerDeep, .widerDeep, .widerDeep, .mapped] true :=
  OpenClaim.laidByTextAt_later rfl rfl tie noOwnUnsafe
theorem ltlLess_row_tie : Rows.ltlLessRow.laidByTextAt .later Tryd.pinned [.widerDeep, .widerDeep, .widerDeep, .mapped] true :=
  OpenClaim.laidByTextAt_later rfl rfl tie noOwnUnsafe
theorem ltlValuesUpto_row_tie : Rows.ltlValuesUptoRow.laidByTextAt .later Tryd.pinned [.widerDeep, .widerDeep, .widerDeep, .mapped] true :=
  OpenClaim.laidByTextAt_later rfl rfl tie noOwnUnsafe
theorem ltlPushesUpto_row_tie : Rows.ltlPushesUptoRow.laidByTextAt .later Tryd.pinned [.widerDeep, .widerDeep, .widerDeep, .mapped] true :=
  OpenClaim.laidByTextAt_later rfl rfl tie noOwnUnsafe
theorem ltlNegatesUpto_row_tie : Rows.ltlNegatesUptoRow.laidByTextAt .later Tryd.pinned [.widerDeep, .widerDeep, .widerDeep, .mapped] true :=
  OpenClaim.laidByTextAt_later rfl rfl tie noOwnUnsafe
theorem ltlOneUpto_row_tie : Rows.ltlOneUptoRow.laidByTextAt .later Tryd.pinned [.widerDeep, .widerDeep, .widerDeep, .mapped] true :=
  OpenClaim.laidByTextAt_later rfl rfl tie noOwnUnsafe
theorem ltlTurnsUpto_row_tie : Rows.ltlTurnsUptoRow.laidByTextAt .later Tryd.pinned [.widerDeep, .widerDeep, .widerDeep, .mapped] true :=
  OpenClaim.laidByTextAt_later rfl rfl tie noOwnUnsafe
theorem ltlOwnUpto_row_tie : Rows.ltlOwnUptoRow.laidByTextAt .later Tryd.pinned [.widerDeep, .widerDeep, .widerDeep, .mapped] true :=
  OpenClaim.laidByTextAt_later rfl rfl tie noOwnUnsafe
theorem ltlSameUpto_row_tie : Rows.ltlSameUptoRow.laidByTextAt .later Tryd.pinned [.widerDeep, .widerDeep, .widerDeep, .mapped] true :=
  OpenClaim.laidByTextAt_later rfl rfl tie noOwnUnsafe
theorem ltlLawsUpto_row_tie : Rows.ltlLawsUptoRow.laidByTextAt .later Tryd.pinned [.widerDeep, .widerDeep, .widerDeep, .mapped] true :=
  OpenClaim.laidByTextAt_later rfl rfl tie noOwnUnsafe
theorem ltlSymmetricUpto_row_tie : Rows.ltlSymmetricUptoRow.laidByTextAt .later Tryd.pinned [.widerDeep, .widerDeep, .widerDeep, .mapped] true :=
  OpenClaim.laidByTextAt_later rfl rfl tie noOwnUnsafe
theorem ltlHoldsUpto_row_tie : Rows.ltlHoldsUptoRow.laidByTextAt .later Tryd.pinned [.widerDeep, .widerDeep, .widerDeep, .mapped] true :=
  OpenClaim.laidByTextAt_later rfl rfl tie noOwnUnsafe
theorem ltlChecksUpto_row_tie : Rows.ltlChecksUptoRow.laidByTextAt .later Tryd.pinned [.widerDeep, .widerDeep, .widerDeep, .mapped] true :=
  OpenClaim.laidByTextAt_later rfl rfl tie noOwnUnsafe
theorem ltlLessUpto_row_tie : Rows.ltlLessUptoRow.laidByTextAt .later Tryd.pinned [.widerDeep, .widerDeep, .widerDeep, .mapped] true :=
  OpenClaim.laidByTextAt_later rfl rfl tie noOwnUnsafe
end Go.Proofs.YtpbbneclkhfgoaaDoor
