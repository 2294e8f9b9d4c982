/-
  THE WALK of complaw: Saying (written by tools/gen_saying.py).
-/
import Derived.Test.Qxb6500574aGreatDoorWSy3
import Derived.Test.Qxb6500574aGreatDoorVUtoa
namespace Go.Proofs.Qxb6500574aGreatDoor
open Go Go.RowKit
set_option linter.unusedVariables false
set_option linter.unusedSimpArgs false
section
set_option maxRecDepth 100000
set_option maxHeartbeats 1000000
variable {w : World}
/-- what Saying answers -/
def SgQ (s : Bs × Nat × Bs × Bs) (w : World) (e : Ending) (w' : World) : Prop := e = .returned (.tuple #[sv s.1, .int .i64 s.2.1, sv s.2.2.1, sv s.2.2.2]) ∧ w' = w
theorem results_tmp4s {fn : Func} {t u v x : Tmp} (h : fn.results = #[.tmp t, .tmp u, .tmp v, .tmp x]) (tmps : Array Value) (P : Program) (w : World) :
    (results fn tmps).run P w = .ok (.tuple #[tmps.getD t undef, tmps.getD u undef, tmps.getD v undef, tmps.getD x undef]) w := by
  simp [results, h]
/-- no such sentence -/
theorem saying_no (k : Int) (hk : k < 1 ∨ 39 < k) (t : Bs) (ht : t.length ≤ 1000) : Calls Tryz.prog 26 #[.int .i64 k, sv t] w (SgQ ([], 0, [], []) w) := by
  have n1 : (k == 1) = false := by rw [beq_eq_false_iff_ne]; omega
  have n2 : (k == 2) = false := by rw [beq_eq_false_iff_ne]; omega
  have n3 : (k == 3) = false := by rw [beq_eq_false_iff_ne]; omega
  have n4 : (k == 4) = false := by rw [beq_eq_false_iff_ne]; omega
  have n5 : (k == 5) = false := by rw [beq_eq_false_iff_ne]; omega
  have n6 : (k == 6) = false := by rw [beq_eq_false_iff_ne]; omega
  have n7 : (k == 7) = false := by rw [beq_eq_false_iff_ne]; omega
  have n8 : (k == 8) = false := by rw [beq_eq_false_iff_ne]; omega
  have n9 : (k == 9) = false := by rw [beq_eq_false_iff_ne]; omega
  have n10 : (k == 10) = false := by rw [beq_eq_false_iff_ne]; omega
  have n11 : (k == 11) = false := by rw [beq_eq_false_iff_ne]; omega
  have n12 : (k == 12) = false := by rw [beq_eq_false_iff_ne]; omega
  have n13 : (k == 13) = false := by rw [beq_eq_false_iff_ne]; omega
  have n14 : (k == 14) = false := by rw [beq_eq_false_iff_ne]; omega
  have n15 : (k == 15) = false := by rw [beq_eq_false_iff_ne]; omega
  have n16 : (k == 16) = false := by rw [beq_eq_false_iff_ne]; omega
  have n17 : (k == 17) = false := by rw [beq_eq_false_iff_ne]; omega
  have n18 : (k == 18) = false := by rw [beq_eq_false_iff_ne]; omega
  have n19 : (k == 19) = false := by rw [beq_eq_false_iff_ne]; omega
  have n20 : (k == 20) = false := by rw [beq_eq_false_iff_ne]; omega
  have n21 : (k == 21) = false := by rw [beq_eq_false_iff_ne]; omega
  have n22 : (k == 22) = false := by rw [beq_eq_false_iff_ne]; omega
  have n23 : (k == 23) = false := by rw [beq_eq_false_iff_ne]; omega
  have n24 : (k == 24) = false := by rw [beq_eq_false_iff_ne]; omega
  have n25 : (k == 25) = false := by rw [beq_eq_false_iff_ne]; omega
  have n26 : (k == 26) = false := by rw [beq_eq_false_iff_ne]; omega
  have n27 : (k == 27) = false := by rw [beq_eq_false_iff_ne]; omega
  have n28 : (k == 28) = false := by rw [beq_eq_false_iff_ne]; omega
  have n29 : (k == 29) = false := by rw [beq_eq_false_iff_ne]; omega
  have n30 : (k == 30) = false := by rw [beq_eq_false_iff_ne]; omega
  have n31 : (k == 31) = false := by rw [beq_eq_false_iff_ne]; omega
  have n32 : (k == 32) = false := by rw [beq_eq_false_iff_ne]; omega
  have n33 : (k == 33) = false := by rw [beq_eq_false_iff_ne]; omega
  have n34 : (k == 34) = false := by rw [beq_eq_false_iff_ne]; omega
  have n35 : (k == 35) = false := by rw [beq_eq_false_iff_ne]; omega
  have n36 : (k == 36) = false := by rw [beq_eq_false_iff_ne]; omega
  have n37 : (k == 37) = false := by rw [beq_eq_false_iff_ne]; omega
  have n38 : (k == 38) = false := by rw [beq_eq_false_iff_ne]; omega
  have n39 : (k == 39) = false := by rw [beq_eq_false_iff_ne]; omega
  clear hk
  go_enter Tryz.func26, Tryz.ntmps26
  go_wp2_with fail
  refine bodyPost_ret (results_tmp4s rfl _ _ _) rfl ?_
  exact ⟨rfl, rfl⟩
end
end Go.Proofs.Qxb6500574aGreatDoor
