/-
  THE ROW's CLOSED FACTS (written by tools/gen_fac.py). No walk.
-/
import Derived.Test.Qxb6500574aGreatDoorRows
import Derived.JoinedOf
import Derived.SevenTiedAt
import Derived.ProofKit
namespace Go.Proofs.Qxb6500574aGreatDoor
open Go Go.RowKit
set_option linter.unusedVariables false
set_option linter.unusedSimpArgs false
set_option maxRecDepth 100000
theorem jf10 : (Rows.refinesQuietRow.inPlace == Tryz.prog.inPlace 5) = true := by kernel_rfl
theorem jf11 : (Rows.refinesQuietRow.unfollowed == Tryz.prog.unfollowed 5) = true := by kernel_rfl
end Go.Proofs.Qxb6500574aGreatDoor
