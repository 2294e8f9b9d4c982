/-
  THE WALK of complaw: Saying (written by tools/gen_saying.py).
-/
import Derived.Test.Qxb6500574aGreatDoorWSg0
namespace Go.Proofs.Qxb6500574aGreatDoor
open Go Go.RowKit
set_option linter.unusedVariables false
set_option linter.unusedSimpArgs false
section
set_option maxRecDepth 100000
set_option maxHeartbeats 1000000
variable {w : World}
theorem saying_21 (t : Bs) (ht : t.length ≤ 1000) : Calls Tryz.prog 26 #[.int .i64 21, sv t] w (SgQ (sayP 21 t) w) := by
  go_enter Tryz.func26, Tryz.ntmps26
  go_wp2_with fail
  refine bodyPost_ret (results_tmp4s rfl _ _ _) rfl ?_
  refine ⟨?_, rfl⟩
  simp only [sv_app, sayP, sy21, List.cons_append, List.nil_append, List.append_assoc]
  rfl
theorem saying_22 (t : Bs) (ht : t.length ≤ 1000) : Calls Tryz.prog 26 #[.int .i64 22, sv t] w (SgQ (sayP 22 t) w) := by
  go_enter Tryz.func26, Tryz.ntmps26
  go_wp2_with fail
  refine bodyPost_ret (results_tmp4s rfl _ _ _) rfl ?_
  refine ⟨?_, rfl⟩
  simp only [sv_app, sayP, sy22, List.cons_append, List.nil_append, List.append_assoc]
  rfl
theorem saying_23 (t : Bs) (ht : t.length ≤ 1000) : Calls Tryz.prog 26 #[.int .i64 23, sv t] w (SgQ (sayP 23 t) w) := by
  go_enter Tryz.func26, Tryz.ntmps26
  go_wp2_with fail
  refine bodyPost_ret (results_tmp4s rfl _ _ _) rfl ?_
  refine ⟨?_, rfl⟩
  simp only [sv_app, sayP, sy23, List.cons_append, List.nil_append, List.append_assoc]
  rfl
theorem saying_24 (t : Bs) (ht : t.length ≤ 1000) : Calls Tryz.prog 26 #[.int .i64 24, sv t] w (SgQ (sayP 24 t) w) := by
  go_enter Tryz.func26, Tryz.ntmps26
  go_wp2_with fail
  refine bodyPost_ret (results_tmp4s rfl _ _ _) rfl ?_
  refine ⟨?_, rfl⟩
  simp only [sv_app, sayP, sy24, List.cons_append, List.nil_append, List.append_assoc]
  rfl
theorem saying_25 (t : Bs) (ht : t.length ≤ 1000) : Calls Tryz.prog 26 #[.int .i64 25, sv t] w (SgQ (sayP 25 t) w) := by
  go_enter Tryz.func26, Tryz.ntmps26
  go_wp2_with fail
  refine bodyPost_ret (results_tmp4s rfl _ _ _) rfl ?_
  refine ⟨?_, rfl⟩
  simp only [sv_app, sayP, sy25, List.cons_append, List.nil_append, List.append_assoc]
  rfl
theorem saying_26 (t : Bs) (ht : t.length ≤ 1000) : Calls Tryz.prog 26 #[.int .i64 26, sv t] w (SgQ (sayP 26 t) w) := by
  go_enter Tryz.func26, Tryz.ntmps26
  go_wp2_with fail
  refine bodyPost_ret (results_tmp4s rfl _ _ _) rfl ?_
  refine ⟨?_, rfl⟩
  simp only [sv_app, sayP, sy26, List.cons_append, List.nil_append, List.append_assoc]
  rfl
theorem saying_27 (t : Bs) (ht : t.length ≤ 1000) : Calls Tryz.prog 26 #[.int .i64 27, sv t] w (SgQ (sayP 27 t) w) := by
  go_enter Tryz.func26, Tryz.ntmps26
  go_wp2_with fail
  refine bodyPost_ret (results_tmp4s rfl _ _ _) rfl ?_
  refine ⟨?_, rfl⟩
  simp only [sv_app, sayP, sy27, List.cons_append, List.nil_append, List.append_assoc]
  rfl
theorem saying_28 (t : Bs) (ht : t.length ≤ 1000) : Calls Tryz.prog 26 #[.int .i64 28, sv t] w (SgQ (sayP 28 t) w) := by
  go_enter Tryz.func26, Tryz.ntmps26
  go_wp2_with fail
  refine bodyPost_ret (results_tmp4s rfl _ _ _) rfl ?_
  refine ⟨?_, rfl⟩
  simp only [sv_app, sayP, sy28, List.cons_append, List.nil_append, List.append_assoc]
  rfl
theorem saying_29 (t : Bs) (ht : t.length ≤ 1000) : Calls Tryz.prog 26 #[.int .i64 29, sv t] w (SgQ (sayP 29 t) w) := by
  go_enter Tryz.func26, Tryz.ntmps26
  go_wp2_with fail
  refine bodyPost_ret (results_tmp4s rfl _ _ _) rfl ?_
  refine ⟨?_, rfl⟩
  simp only [sv_app, sayP, sy29, List.cons_append, List.nil_append, List.append_assoc]
  rfl
theorem saying_30 (t : Bs) (ht : t.length ≤ 1000) : Calls Tryz.prog 26 #[.int .i64 30, sv t] w (SgQ (sayP 30 t) w) := by
  go_enter Tryz.func26, Tryz.ntmps26
  go_wp2_with fail
  refine bodyPost_ret (results_tmp4s rfl _ _ _) rfl ?_
  refine ⟨?_, rfl⟩
  simp only [sv_app, sayP, sy30, List.cons_append, List.nil_append, List.append_assoc]
  rfl
end
end Go.Proofs.Qxb6500574aGreatDoor
