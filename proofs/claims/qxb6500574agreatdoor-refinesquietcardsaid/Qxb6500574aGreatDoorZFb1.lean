/-
  THE ROW's CLOSED FACTS (written by tools/gen_fac.py). No walk.
-/
import Derived.Test.Qxb6500574aGreatDoorRows
import Derived.JoinedOf
import Derived.SevenTiedAt
import Derived.ProofKit
namespace Go.Proofs.Qxb6500574aGreatDoor
open Go Go.RowKit
set_option linter.unusedVariables false
set_option linter.unusedSimpArgs false
set_option maxRecDepth 100000
theorem jf12 : (Rows.refinesQuietRow.recurses == Tryz.prog.recurses 5) = true := by kernel_rfl
theorem jf13 : (Rows.refinesQuietRow.named == Tryz.prog.varsNamed 5) = true := by kernel_rfl
end Go.Proofs.Qxb6500574aGreatDoor
