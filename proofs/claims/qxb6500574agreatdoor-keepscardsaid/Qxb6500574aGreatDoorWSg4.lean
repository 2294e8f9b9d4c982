/-
  THE WALK of complaw: Saying (written by tools/gen_saying.py).
-/
import Derived.Test.Qxb6500574aGreatDoorWSg0
namespace Go.Proofs.Qxb6500574aGreatDoor
open Go Go.RowKit
set_option linter.unusedVariables false
set_option linter.unusedSimpArgs false
section
set_option maxRecDepth 100000
set_option maxHeartbeats 1000000
variable {w : World}
theorem saying_31 (t : Bs) (ht : t.length ≤ 1000) : Calls Tryz.prog 26 #[.int .i64 31, sv t] w (SgQ (sayP 31 t) w) := by
  go_enter Tryz.func26, Tryz.ntmps26
  go_wp2_with fail
  refine bodyPost_ret (results_tmp4s rfl _ _ _) rfl ?_
  refine ⟨?_, rfl⟩
  simp only [sv_app, sayP, sy31, List.cons_append, List.nil_append, List.append_assoc]
  rfl
theorem saying_32 (t : Bs) (ht : t.length ≤ 1000) : Calls Tryz.prog 26 #[.int .i64 32, sv t] w (SgQ (sayP 32 t) w) := by
  go_enter Tryz.func26, Tryz.ntmps26
  go_wp2_with fail
  refine bodyPost_ret (results_tmp4s rfl _ _ _) rfl ?_
  refine ⟨?_, rfl⟩
  simp only [sv_app, sayP, sy32, List.cons_append, List.nil_append, List.append_assoc]
  rfl
theorem saying_33 (t : Bs) (ht : t.length ≤ 1000) : Calls Tryz.prog 26 #[.int .i64 33, sv t] w (SgQ (sayP 33 t) w) := by
  go_enter Tryz.func26, Tryz.ntmps26
  go_wp2_with fail
  refine bodyPost_ret (results_tmp4s rfl _ _ _) rfl ?_
  refine ⟨?_, rfl⟩
  simp only [sv_app, sayP, sy33, List.cons_append, List.nil_append, List.append_assoc]
  rfl
theorem saying_34 (t : Bs) (ht : t.length ≤ 1000) : Calls Tryz.prog 26 #[.int .i64 34, sv t] w (SgQ (sayP 34 t) w) := by
  go_enter Tryz.func26, Tryz.ntmps26
  go_wp2_with fail
  refine bodyPost_ret (results_tmp4s rfl _ _ _) rfl ?_
  refine ⟨?_, rfl⟩
  simp only [sv_app, sayP, sy34, List.cons_append, List.nil_append, List.append_assoc]
  rfl
theorem saying_35 (t : Bs) (ht : t.length ≤ 1000) : Calls Tryz.prog 26 #[.int .i64 35, sv t] w (SgQ (sayP 35 t) w) := by
  go_enter Tryz.func26, Tryz.ntmps26
  go_wp2_with fail
  refine bodyPost_ret (results_tmp4s rfl _ _ _) rfl ?_
  refine ⟨?_, rfl⟩
  simp only [sv_app, sayP, sy35, List.cons_append, List.nil_append, List.append_assoc]
  rfl
theorem saying_36 (t : Bs) (ht : t.length ≤ 1000) : Calls Tryz.prog 26 #[.int .i64 36, sv t] w (SgQ (sayP 36 t) w) := by
  go_enter Tryz.func26, Tryz.ntmps26
  go_wp2_with fail
  refine bodyPost_ret (results_tmp4s rfl _ _ _) rfl ?_
  refine ⟨?_, rfl⟩
  simp only [sv_app, sayP, sy36, List.cons_append, List.nil_append, List.append_assoc]
  rfl
theorem saying_37 (t : Bs) (ht : t.length ≤ 1000) : Calls Tryz.prog 26 #[.int .i64 37, sv t] w (SgQ (sayP 37 t) w) := by
  go_enter Tryz.func26, Tryz.ntmps26
  go_wp2_with fail
  refine bodyPost_ret (results_tmp4s rfl _ _ _) rfl ?_
  refine ⟨?_, rfl⟩
  simp only [sv_app, sayP, sy37, List.cons_append, List.nil_append, List.append_assoc]
  rfl
theorem saying_38 (t : Bs) (ht : t.length ≤ 1000) : Calls Tryz.prog 26 #[.int .i64 38, sv t] w (SgQ (sayP 38 t) w) := by
  go_enter Tryz.func26, Tryz.ntmps26
  go_wp2_with fail
  refine bodyPost_ret (results_tmp4s rfl _ _ _) rfl ?_
  refine ⟨?_, rfl⟩
  simp only [sv_app, sayP, sy38, List.cons_append, List.nil_append, List.append_assoc]
  rfl
theorem saying_39 (t : Bs) (ht : t.length ≤ 1000) : Calls Tryz.prog 26 #[.int .i64 39, sv t] w (SgQ (sayP 39 t) w) := by
  go_enter Tryz.func26, Tryz.ntmps26
  go_wp2_with fail
  refine bodyPost_ret (results_tmp4s rfl _ _ _) rfl ?_
  refine ⟨?_, rfl⟩
  simp only [sv_app, sayP, sy39, List.cons_append, List.nil_append, List.append_assoc]
  rfl
end
end Go.Proofs.Qxb6500574aGreatDoor
