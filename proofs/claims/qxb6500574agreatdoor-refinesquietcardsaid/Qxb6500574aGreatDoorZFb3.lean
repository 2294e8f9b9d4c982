/-
  THE ROW's CLOSED FACTS, together (written by tools/gen_fac.py). No walk.
-/
import Derived.Test.Qxb6500574aGreatDoorRows
import Derived.JoinedOf
import Derived.SevenTiedAt
import Derived.ProofKit
import Derived.Test.Qxb6500574aGreatDoorZFb0
import Derived.Test.Qxb6500574aGreatDoorZFb1
import Derived.Test.Qxb6500574aGreatDoorZFb2
namespace Go.Proofs.Qxb6500574aGreatDoor
open Go Go.RowKit
set_option linter.unusedVariables false
set_option linter.unusedSimpArgs false
set_option maxRecDepth 100000
theorem and_t {a b : Bool} (h : a = true) (g : b = true) : (a && b) = true := by rw [h, g]; rfl
theorem jf_all : joinedFacts Tryz.prog 5 Tryz.f5 Rows.refinesQuietSpec Rows.refinesQuietRow = true := by
  unfold joinedFacts
  refine and_t (and_t (and_t (and_t (and_t (and_t (and_t (and_t (and_t (and_t (and_t (and_t (and_t (and_t (and_t (and_t (and_t (and_t (and_t (and_t (and_t (and_t (and_t (and_t (and_t (and_t (and_t (and_t (and_t (and_t (and_t (jf1) jf2) jf3) ?_) ?_) ?_) jf7) ?_) jf9) jf10) jf11) jf12) jf13) ?_) ?_) ?_) ?_) ?_) ?_) ?_) ?_) ?_) jf23) ?_) jf25) jf26) jf27) jf28) ?_) ?_) ?_) ?_
  all_goals kernel_rfl
theorem jf_named : Tryz.prog.funcNamed Rows.refinesQuietRow.func = some 5 := by kernel_rfl
theorem jf_inst : Tryz.f5.isInstance Tryz.prog Rows.refinesQuietRow.origin Rows.refinesQuietRow.targs := of_decide_eq_true (by kernel_rfl)
theorem jf_wrap : Tryz.f5.isWrapper Tryz.prog Rows.refinesQuietRow.wrapper Rows.refinesQuietRow.mainSum := by unfold Func.isWrapper; rw [if_neg (of_decide_eq_false (by kernel_rfl))]; exact ⟨rfl, rfl⟩
end Go.Proofs.Qxb6500574aGreatDoor
