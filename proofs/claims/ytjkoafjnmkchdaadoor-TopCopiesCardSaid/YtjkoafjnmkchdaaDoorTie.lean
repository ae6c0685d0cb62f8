/-
  DERIVED. GIVEN WITH THE SEED: THE PROGRAM's TIES (one call each: nine closed facts by the kernel) AND EACH ROW's TIE, after the 31st guide's Derived/Test/Toyas{Tie, Card}.lean. No idea stands in it: it is a product of the set-up. Laid BY PROGRAM, IN A SANDBOX (cutbox-door.mjs). By AI agents, Wed Nov 11 2026. No macro, syntax, notation, axiom, sorry.
-/
import Derived.Test.YtjkoafjnmkchdaaDoorRows
import Derived.LaidByTextLater
import Derived.SevenTiedAt
import Derived.LaidSub
import Derived.LaidOnce
namespace Go.Proofs.YtjkoafjnmkchdaaDoor
open Go
set_option maxRecDepth 100000
theorem seatTie1 : Tryd.prog.laidByTextLater [("foliant/inflate.order", Rows.laid_foliant_inflate_order), ("foliant/inflate.repeats", Rows.laid_foliant_inflate_repeats)] [.widerDeep, .mapped] true :=
  Program.laidByTextLater_by_one 37 8 20 (by kernel_rfl) (by kernel_rfl) (by kernel_rfl) (by kernel_rfl) (by kernel_rfl) (by kernel_rfl) (fun _ _ => by kernel_rfl)
theorem noOwnUnsafe : Tryd.pinned.checked.prog.headLifts.contains "ownunsafe" = false := by kernel_rfl
theorem tie : Tryd.prog.laidByTextLater [("foliant/inflate.order", Rows.laid_foliant_inflate_order), ("foliant/inflate.repeats", Rows.laid_foliant_inflate_repeats)] [.widerDeep, .mapped] true :=
  Program.laidByTextLater.sub seatTie1 ["foliant/inflate.order", "foliant/inflate.repeats"] (by kernel_rfl) (by kernel_rfl)
theorem zlibSums_row_tie : Rows.zlibSumsRow.laidByTextAt .later Tryd.pinned [.widerDeep, .mapped] true :=
  OpenClaim.laidByTextAt_later rfl rfl tie noOwnUnsafe
theorem zlibBack_row_tie : Rows.zlibBackRow.laidByTextAt .later Tryd.pinned [.widerDeep, .mapped] true :=
  OpenClaim.laidByTextAt_later rfl rfl tie noOwnUnsafe
theorem zlibSpoilt_row_tie : Rows.zlibSpoiltRow.laidByTextAt .later Tryd.pinned [.widerDeep, .mapped] true :=
  OpenClaim.laidByTextAt_later rfl rfl tie noOwnUnsafe
theorem topFlate_row_tie : Rows.topFlateRow.laidByTextAt .later Tryd.pinned [.widerDeep, .mapped] true :=
  OpenClaim.laidByTextAt_later rfl rfl tie noOwnUnsafe
theorem topCopies_row_tie : Rows.topCopiesRow.laidByTextAt .later Tryd.pinned [.widerDeep, .mapped] true :=
  OpenClaim.laidByTextAt_later rfl rfl tie noOwnUnsafe
theorem zlibSumsUpto_row_tie : Rows.zlibSumsUptoRow.laidByTextAt .later Tryd.pinned [.widerDeep, .mapped] true :=
  OpenClaim.laidByTextAt_later rfl rfl tie noOwnUnsafe
theorem zlibBackUpto_row_tie : Rows.zlibBackUptoRow.laidByTextAt .later Tryd.pinned [.widerDeep, .mapped] true :=
  OpenClaim.laidByTextAt_later rfl rfl tie noOwnUnsafe
theorem zlibSpoiltUpto_row_tie : Rows.zlibSpoiltUptoRow.laidByTextAt .later Tryd.pinned [.widerDeep, .mapped] true :=
  OpenClaim.laidByTextAt_later rfl rfl tie noOwnUnsafe
theorem topFlateUpto_row_tie : Rows.topFlateUptoRow.laidByTextAt .later Tryd.pinned [.widerDeep, .mapped] true :=
  OpenClaim.laidByTextAt_later rfl rfl tie noOwnUnsafe
theorem topCopiesUpto_row_tie : Rows.topCopiesUptoRow.laidByTextAt .later Tryd.pinned [.widerDeep, .mapped] true :=
  OpenClaim.laidByTextAt_later rfl rfl tie noOwnUnsafe
end Go.Proofs.YtjkoafjnmkchdaaDoor
