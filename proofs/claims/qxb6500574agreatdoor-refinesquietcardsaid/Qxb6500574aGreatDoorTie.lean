/-
  DERIVED. GIVEN WITH THE SEED: THE PROGRAM's TIES (one call each: nine closed facts by the kernel) AND EACH ROW's TIE, after the 31st guide's Derived/Test/Toyas{Tie, Card}.lean. No idea stands in it: it is a product of the set-up. Laid BY PROGRAM, IN A SANDBOX (cutbox-door.mjs). By AI agents, Wed Nov 11 2026. No macro, syntax, notation, axiom, sorry.
-/
import Derived.Test.Qxb6500574aGreatDoorRows
import Derived.LaidByTextLater
import Derived.SevenTiedAt
import Derived.LaidSub
import Derived.LaidOnce
namespace Go.Proofs.Qxb6500574aGreatDoor
open Go
set_option maxRecDepth 100000
theorem seatTie1 : Tryz.prog.laidByTextLater [("e2e/syntax.keywords", Rows.laid_e2e_syntax_keywords), ("e2e/syntax.signs", Rows.laid_e2e_syntax_signs), ("e2e/syntax.bindings", Rows.laid_e2e_syntax_bindings)] [.data, .data, .data] true :=
  Program.laidByTextLater_by_one 39 8 46 (by kernel_rfl) (by kernel_rfl) (by kernel_rfl) (by kernel_rfl) (by kernel_rfl) (by kernel_rfl) (fun _ _ => by kernel_rfl)
theorem noOwnUnsafe : Tryz.pinned.checked.prog.headLifts.contains "ownunsafe" = false := by kernel_rfl
theorem tie : Tryz.prog.laidByTextLater [("e2e/syntax.keywords", Rows.laid_e2e_syntax_keywords), ("e2e/syntax.signs", Rows.laid_e2e_syntax_signs), ("e2e/syntax.bindings", Rows.laid_e2e_syntax_bindings)] [.data, .data, .data] true :=
  Program.laidByTextLater.sub seatTie1 ["e2e/syntax.keywords", "e2e/syntax.signs", "e2e/syntax.bindings"] (by kernel_rfl) (by kernel_rfl)
theorem keeps_row_tie : Rows.keepsRow.laidByTextAt .later Tryz.pinned [.data, .data, .data] true :=
  OpenClaim.laidByTextAt_later rfl rfl tie noOwnUnsafe
theorem refines_row_tie : Rows.refinesRow.laidByTextAt .later Tryz.pinned [.data, .data, .data] true :=
  OpenClaim.laidByTextAt_later rfl rfl tie noOwnUnsafe
theorem refinesQuiet_row_tie : Rows.refinesQuietRow.laidByTextAt .later Tryz.pinned [.data, .data, .data] true :=
  OpenClaim.laidByTextAt_later rfl rfl tie noOwnUnsafe
end Go.Proofs.Qxb6500574aGreatDoor
