/-
  THE WALKS of api: Truthy, Bool, WellFormed, the names.
-/
import Derived.Test.Qxb6500574aGreatDoorVRes
import Derived.BigQuiet
namespace Go.Proofs.Qxb6500574aGreatDoor
open Go Go.RowKit
set_option linter.unusedVariables false
set_option linter.unusedSimpArgs false

theorem Fr.box {w : World} (o : Obj) : Fr (fun _ => False) w (w.alloc o) := (Fr.refl _ _).alloc o
section
variable {w : World}
set_option maxRecDepth 100000
set_option maxHeartbeats 400000
theorem truthy_any (v : Vl) : Calls Tryz.prog 119 #[v.val] w fun e w' => e = .returned (.bool (truthy v)) ∧ Fr (fun _ => False) w w' := by
  obtain ⟨vt, vn, vs⟩ := v
  go_enter Tryz.func119, Tryz.ntmps119
  go_wp2
  all_goals go_ret
  all_goals refine ⟨ret_bool ?_, Fr.box _⟩
  all_goals simp_all [truthy]
  all_goals first | omega | (rw [Bool.eq_iff_iff]; simp; done) | (rw [Bool.eq_iff_iff]; simp; omega)
theorem bool_any (b : Bool) : Calls Tryz.prog 86 #[.bool b] w fun e w' => e = .returned (boolV b).val ∧ Fr (fun _ => False) w w' := by
  cases b
  all_goals
    go_enter Tryz.func86, Tryz.ntmps86
    go_wp2
    refine bodyPost_ret (res_cell isVal rfl rfl (Has.new _ _ _) rfl) rfl ?_
    exact ⟨rfl, Fr.box _⟩
theorem well_any (v : Vl) : Calls Tryz.prog 108 #[v.val] w fun e w' => e = .returned (.bool (wellV v)) ∧ Fr (fun _ => False) w w' := by
  obtain ⟨vt, vn, vs⟩ := v
  go_enter Tryz.func108, Tryz.ntmps108
  go_wp2
  all_goals go_ret
  all_goals refine ⟨ret_bool ?_, Fr.box _⟩
  all_goals rename_i hz
  all_goals simp_all [wellV]
  all_goals first | omega | (rw [Bool.eq_iff_iff]; simp; done) | (rw [Bool.eq_iff_iff]; simp; omega)
theorem typeName_any (v : Vl) : Calls Tryz.prog 200 #[v.val] w fun e w' => e = .returned (sv (typeN v)) ∧ Fr (fun _ => False) w w' := by
  obtain ⟨vt, vn, vs⟩ := v
  go_enter Tryz.func200, Tryz.ntmps200
  go_wp2
  all_goals go_ret
  all_goals refine ⟨?_, Fr.box _⟩
  all_goals simp_all [typeN]
  all_goals rfl
theorem builtinName_any (b : Int) : Calls Tryz.prog 74 #[.int .i64 b] w fun e w' => e = .returned (sv (builtinN b)) ∧ w' = w := by
  go_enter Tryz.func74, Tryz.ntmps74
  go_wp2
  all_goals go_ret
  all_goals refine ⟨?_, rfl⟩
  all_goals simp_all [builtinN, sPrint, sToString, sToNumber, sType, sError, sPcall, sNext, sCreate, sResume, sYield, sStatus]
  all_goals rfl
theorem statusName_any (st : Nat) : Calls Tryz.prog 201 #[.int .i64 st] w fun e w' => e = .returned (sv (statusN st)) ∧ w' = w := by
  go_enter Tryz.func201, Tryz.ntmps201
  go_wp2
  all_goals go_ret
  all_goals refine ⟨?_, rfl⟩
  all_goals simp_all [statusN]
  all_goals first | (intro a b; omega) | (repeat' split) <;> first | rfl | omega
end
end Go.Proofs.Qxb6500574aGreatDoor
