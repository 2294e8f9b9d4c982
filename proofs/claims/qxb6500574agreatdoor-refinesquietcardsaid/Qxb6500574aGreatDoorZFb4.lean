/-
  THE CARD's CLOSED FACTS (written by tools/gen_fac.py). No walk.
-/
import Derived.Test.Qxb6500574aGreatDoorRows
import Derived.JoinedOf
import Derived.SevenTiedAt
import Derived.ProofKit
namespace Go.Proofs.Qxb6500574aGreatDoor
open Go Go.RowKit
set_option linter.unusedVariables false
set_option linter.unusedSimpArgs false
set_option maxRecDepth 100000
theorem cf_wf : Rows.refinesQuietRow.wfByText (OpenSpec.ofChange Rows.refinesQuietSpec) = true := by kernel_rfl
theorem cf_main : Tryz.prog.mainIs = some (true, "59f44c0c18f90f29dc9a21f24d37b0bd2eda79666d0f1580c6217fcd071beceb".toList) := by kernel_rfl
theorem cf_looks : true = Tryz.prog.looks [] := by kernel_rfl
theorem cf_stand : Tryz.prog.wantsStandIn 22 = false := by kernel_rfl
theorem cf_goes : false = Rows.refinesQuietRow.goesBy Tryz.prog := by kernel_rfl
end Go.Proofs.Qxb6500574aGreatDoor
