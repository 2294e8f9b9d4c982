/-
  THE ROW's CLOSED FACTS (written by tools/gen_fac.py). No walk.
-/
import Derived.Test.Qxb6500574aGreatDoorRows
import Derived.JoinedOf
import Derived.SevenTiedAt
import Derived.ProofKit
namespace Go.Proofs.Qxb6500574aGreatDoor
open Go Go.RowKit
set_option linter.unusedVariables false
set_option linter.unusedSimpArgs false
set_option maxRecDepth 100000
theorem jf1 : Rows.refinesQuietRow.wf (OpenSpec.ofChange Rows.refinesQuietSpec) = true := by kernel_rfl
theorem jf2 : laidOutB Tryz.prog = true := by kernel_rfl
theorem jf3 : mapsRowed Tryz.prog = true := by kernel_rfl
theorem jf7 : (Tryz.prog.stops == []) = true := by kernel_rfl
theorem jf9 : (Tryz.prog.stopKnobs == []) = true := by kernel_rfl
theorem jf23 : (Rows.refinesQuietRow.plainKeys == Tryz.prog.plainKeys) = true := by kernel_rfl
theorem jf25 : Tryz.prog.stopsHeard = true := by kernel_rfl
theorem jf26 : Tryz.prog.mayEnter = true := by kernel_rfl
theorem jf27 : (Rows.refinesQuietRow.lifted == Tryz.prog.liftsFinal) = true := by kernel_rfl
theorem jf28 : (Tryz.prog.make == some Rows.refinesQuietRow.make) = true := by kernel_rfl
end Go.Proofs.Qxb6500574aGreatDoor
