import Derived.Test.Qxb6500575aGreatDoorProg
import Derived.Test.Qxb6500575aGreatDoorPlain1
namespace Go.Proofs.Qxb6500575aGreatDoor
open Go Go.RowKit
set_option linter.unusedVariables false
set_option linter.unusedSimpArgs false
set_option maxHeartbeats 4000000 in
theorem well_any (c : Ins) (w : World) :
    Calls Tryz.prog 74 #[.agg #[.int .i64 c.op, .int .i64 c.imm, sv c.tab]] w fun e w' => e = .returned (.bool (well c)) ∧ Fr (fun _ => False) w w' := by
  obtain ⟨op, imm, tab⟩ := c
  go_enter Tryz.func74, Tryz.ntmps74
  go_wp2
  all_goals (go_ret; refine ⟨ret_bool ?_, (Fr.refl _ _).alloc _⟩)
  all_goals first | (rw [Bool.eq_iff_iff]; simp_all [well]; done) | (rw [Bool.eq_iff_iff]; simp_all [well]; omega)
end Go.Proofs.Qxb6500575aGreatDoor
