/-
  THE WALK of complaw: Saying (written by tools/gen_saying.py).
-/
import Derived.Test.Qxb6500574aGreatDoorWSg0
namespace Go.Proofs.Qxb6500574aGreatDoor
open Go Go.RowKit
set_option linter.unusedVariables false
set_option linter.unusedSimpArgs false
section
set_option maxRecDepth 100000
set_option maxHeartbeats 1000000
variable {w : World}
theorem saying_11 (t : Bs) (ht : t.length ≤ 1000) : Calls Tryz.prog 26 #[.int .i64 11, sv t] w (SgQ (sayP 11 t) w) := by
  go_enter Tryz.func26, Tryz.ntmps26
  go_wp2_with fail
  refine bodyPost_ret (results_tmp4s rfl _ _ _) rfl ?_
  refine ⟨?_, rfl⟩
  simp only [sv_app, sayP, sy11, List.cons_append, List.nil_append, List.append_assoc]
  rfl
theorem saying_12 (t : Bs) (ht : t.length ≤ 1000) : Calls Tryz.prog 26 #[.int .i64 12, sv t] w (SgQ (sayP 12 t) w) := by
  go_enter Tryz.func26, Tryz.ntmps26
  go_wp2_with fail
  refine bodyPost_ret (results_tmp4s rfl _ _ _) rfl ?_
  refine ⟨?_, rfl⟩
  simp only [sv_app, sayP, sy12, List.cons_append, List.nil_append, List.append_assoc]
  rfl
theorem saying_13 (t : Bs) (ht : t.length ≤ 1000) : Calls Tryz.prog 26 #[.int .i64 13, sv t] w (SgQ (sayP 13 t) w) := by
  go_enter Tryz.func26, Tryz.ntmps26
  go_wp2_with fail
  refine bodyPost_ret (results_tmp4s rfl _ _ _) rfl ?_
  refine ⟨?_, rfl⟩
  simp only [sv_app, sayP, sy13, List.cons_append, List.nil_append, List.append_assoc]
  rfl
theorem saying_14 (t : Bs) (ht : t.length ≤ 1000) : Calls Tryz.prog 26 #[.int .i64 14, sv t] w (SgQ (sayP 14 t) w) := by
  go_enter Tryz.func26, Tryz.ntmps26
  go_wp2_with fail
  refine bodyPost_ret (results_tmp4s rfl _ _ _) rfl ?_
  refine ⟨?_, rfl⟩
  simp only [sv_app, sayP, sy14, List.cons_append, List.nil_append, List.append_assoc]
  rfl
theorem saying_15 (t : Bs) (ht : t.length ≤ 1000) : Calls Tryz.prog 26 #[.int .i64 15, sv t] w (SgQ (sayP 15 t) w) := by
  go_enter Tryz.func26, Tryz.ntmps26
  go_wp2_with fail
  refine bodyPost_ret (results_tmp4s rfl _ _ _) rfl ?_
  refine ⟨?_, rfl⟩
  simp only [sv_app, sayP, sy15, List.cons_append, List.nil_append, List.append_assoc]
  rfl
theorem saying_16 (t : Bs) (ht : t.length ≤ 1000) : Calls Tryz.prog 26 #[.int .i64 16, sv t] w (SgQ (sayP 16 t) w) := by
  go_enter Tryz.func26, Tryz.ntmps26
  go_wp2_with fail
  refine bodyPost_ret (results_tmp4s rfl _ _ _) rfl ?_
  refine ⟨?_, rfl⟩
  simp only [sv_app, sayP, sy16, List.cons_append, List.nil_append, List.append_assoc]
  rfl
theorem saying_17 (t : Bs) (ht : t.length ≤ 1000) : Calls Tryz.prog 26 #[.int .i64 17, sv t] w (SgQ (sayP 17 t) w) := by
  go_enter Tryz.func26, Tryz.ntmps26
  go_wp2_with fail
  refine bodyPost_ret (results_tmp4s rfl _ _ _) rfl ?_
  refine ⟨?_, rfl⟩
  simp only [sv_app, sayP, sy17, List.cons_append, List.nil_append, List.append_assoc]
  rfl
theorem saying_18 (t : Bs) (ht : t.length ≤ 1000) : Calls Tryz.prog 26 #[.int .i64 18, sv t] w (SgQ (sayP 18 t) w) := by
  go_enter Tryz.func26, Tryz.ntmps26
  go_wp2_with fail
  refine bodyPost_ret (results_tmp4s rfl _ _ _) rfl ?_
  refine ⟨?_, rfl⟩
  simp only [sv_app, sayP, sy18, List.cons_append, List.nil_append, List.append_assoc]
  rfl
theorem saying_19 (t : Bs) (ht : t.length ≤ 1000) : Calls Tryz.prog 26 #[.int .i64 19, sv t] w (SgQ (sayP 19 t) w) := by
  go_enter Tryz.func26, Tryz.ntmps26
  go_wp2_with fail
  refine bodyPost_ret (results_tmp4s rfl _ _ _) rfl ?_
  refine ⟨?_, rfl⟩
  simp only [sv_app, sayP, sy19, List.cons_append, List.nil_append, List.append_assoc]
  rfl
theorem saying_20 (t : Bs) (ht : t.length ≤ 1000) : Calls Tryz.prog 26 #[.int .i64 20, sv t] w (SgQ (sayP 20 t) w) := by
  go_enter Tryz.func26, Tryz.ntmps26
  go_wp2_with fail
  refine bodyPost_ret (results_tmp4s rfl _ _ _) rfl ?_
  refine ⟨?_, rfl⟩
  simp only [sv_app, sayP, sy20, List.cons_append, List.nil_append, List.append_assoc]
  rfl
end
end Go.Proofs.Qxb6500574aGreatDoor
