/-
  THE WALK of complaw: Saying (written by tools/gen_saying.py).
-/
import Derived.Test.Qxb6500574aGreatDoorWSg0
namespace Go.Proofs.Qxb6500574aGreatDoor
open Go Go.RowKit
set_option linter.unusedVariables false
set_option linter.unusedSimpArgs false
section
set_option maxRecDepth 100000
set_option maxHeartbeats 1000000
variable {w : World}
theorem saying_1 (t : Bs) (ht : t.length ≤ 1000) : Calls Tryz.prog 26 #[.int .i64 1, sv t] w (SgQ (sayP 1 t) w) := by
  go_enter Tryz.func26, Tryz.ntmps26
  go_wp2_with fail
  refine bodyPost_ret (results_tmp4s rfl _ _ _) rfl ?_
  refine ⟨?_, rfl⟩
  simp only [sv_app, sayP, sy1, List.cons_append, List.nil_append, List.append_assoc]
  rfl
theorem saying_2 (t : Bs) (ht : t.length ≤ 1000) : Calls Tryz.prog 26 #[.int .i64 2, sv t] w (SgQ (sayP 2 t) w) := by
  go_enter Tryz.func26, Tryz.ntmps26
  go_wp2_with fail
  refine bodyPost_ret (results_tmp4s rfl _ _ _) rfl ?_
  refine ⟨?_, rfl⟩
  simp only [sv_app, sayP, sy2, List.cons_append, List.nil_append, List.append_assoc]
  rfl
theorem saying_3 (t : Bs) (ht : t.length ≤ 1000) : Calls Tryz.prog 26 #[.int .i64 3, sv t] w (SgQ (sayP 3 t) w) := by
  go_enter Tryz.func26, Tryz.ntmps26
  go_wp2_with fail
  refine bodyPost_ret (results_tmp4s rfl _ _ _) rfl ?_
  refine ⟨?_, rfl⟩
  simp only [sv_app, sayP, sy3, List.cons_append, List.nil_append, List.append_assoc]
  rfl
theorem saying_4 (t : Bs) (ht : t.length ≤ 1000) : Calls Tryz.prog 26 #[.int .i64 4, sv t] w (SgQ (sayP 4 t) w) := by
  go_enter Tryz.func26, Tryz.ntmps26
  go_wp2_with fail
  refine bodyPost_ret (results_tmp4s rfl _ _ _) rfl ?_
  refine ⟨?_, rfl⟩
  simp only [sv_app, sayP, sy4, List.cons_append, List.nil_append, List.append_assoc]
  rfl
theorem saying_5 (t : Bs) (ht : t.length ≤ 1000) : Calls Tryz.prog 26 #[.int .i64 5, sv t] w (SgQ (sayP 5 t) w) := by
  go_enter Tryz.func26, Tryz.ntmps26
  go_wp2_with fail
  refine bodyPost_ret (results_tmp4s rfl _ _ _) rfl ?_
  refine ⟨?_, rfl⟩
  simp only [sv_app, sayP, sy5, List.cons_append, List.nil_append, List.append_assoc]
  rfl
theorem saying_6 (t : Bs) (ht : t.length ≤ 1000) : Calls Tryz.prog 26 #[.int .i64 6, sv t] w (SgQ (sayP 6 t) w) := by
  go_enter Tryz.func26, Tryz.ntmps26
  go_wp2_with fail
  refine bodyPost_ret (results_tmp4s rfl _ _ _) rfl ?_
  refine ⟨?_, rfl⟩
  simp only [sv_app, sayP, sy6, List.cons_append, List.nil_append, List.append_assoc]
  rfl
theorem saying_7 (t : Bs) (ht : t.length ≤ 1000) : Calls Tryz.prog 26 #[.int .i64 7, sv t] w (SgQ (sayP 7 t) w) := by
  go_enter Tryz.func26, Tryz.ntmps26
  go_wp2_with fail
  refine bodyPost_ret (results_tmp4s rfl _ _ _) rfl ?_
  refine ⟨?_, rfl⟩
  simp only [sv_app, sayP, sy7, List.cons_append, List.nil_append, List.append_assoc]
  rfl
theorem saying_8 (t : Bs) (ht : t.length ≤ 1000) : Calls Tryz.prog 26 #[.int .i64 8, sv t] w (SgQ (sayP 8 t) w) := by
  go_enter Tryz.func26, Tryz.ntmps26
  go_wp2_with fail
  refine bodyPost_ret (results_tmp4s rfl _ _ _) rfl ?_
  refine ⟨?_, rfl⟩
  simp only [sv_app, sayP, sy8, List.cons_append, List.nil_append, List.append_assoc]
  rfl
theorem saying_9 (t : Bs) (ht : t.length ≤ 1000) : Calls Tryz.prog 26 #[.int .i64 9, sv t] w (SgQ (sayP 9 t) w) := by
  go_enter Tryz.func26, Tryz.ntmps26
  go_wp2_with fail
  refine bodyPost_ret (results_tmp4s rfl _ _ _) rfl ?_
  refine ⟨?_, rfl⟩
  simp only [sv_app, sayP, sy9, List.cons_append, List.nil_append, List.append_assoc]
  rfl
theorem saying_10 (t : Bs) (ht : t.length ≤ 1000) : Calls Tryz.prog 26 #[.int .i64 10, sv t] w (SgQ (sayP 10 t) w) := by
  go_enter Tryz.func26, Tryz.ntmps26
  go_wp2_with fail
  refine bodyPost_ret (results_tmp4s rfl _ _ _) rfl ?_
  refine ⟨?_, rfl⟩
  simp only [sv_app, sayP, sy10, List.cons_append, List.nil_append, List.append_assoc]
  rfl
end
end Go.Proofs.Qxb6500574aGreatDoor
