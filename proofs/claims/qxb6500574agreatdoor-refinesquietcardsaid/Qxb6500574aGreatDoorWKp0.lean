/-
  THE WALKS of complaw: the small ones.
-/
import Derived.Test.Qxb6500574aGreatDoorWRu4
import Derived.Test.Qxb6500574aGreatDoorVAns
import Derived.Test.Qxb6500574aGreatDoorWEr
namespace Go.Proofs.Qxb6500574aGreatDoor
open Go Go.RowKit
set_option linter.unusedVariables false
set_option linter.unusedSimpArgs false
set_option maxRecDepth 100000
section
variable {w : World}
set_option maxHeartbeats 1000000
theorem cending_any (e : Nat) (h : e = 0 ∨ e = 12 ∨ e = 9 ∨ e = 8 ∨ e = 10) : Calls Tryz.prog 21 #[.int .i64 e] w fun e' w' => e' = .returned (.bool true) ∧ w' = w := by
  rcases h with rfl | rfl | rfl | rfl | rfl <;>
  · go_enter Tryz.func21, Tryz.ntmps21
    go_wp2
    go_ret
    exact ⟨rfl, rfl⟩
theorem syn_yes (e : Nat) (h : SynE e) : Calls Tryz.prog 20 #[.int .i64 e] w fun e' w' => e' = .returned (.bool true) ∧ w' = w := by
  have h' : e = 1 ∨ e = 2 ∨ e = 13 ∨ e = 14 ∨ e = 15 ∨ e = 16 ∨ e = 17 ∨ e = 18 ∨ e = 19 ∨ e = 20 := by unfold SynE at h; omega
  clear h
  rcases h' with rfl | rfl | rfl | rfl | rfl | rfl | rfl | rfl | rfl | rfl <;>
  · go_enter Tryz.func20, Tryz.ntmps20
    go_wp2
    go_ret
    exact ⟨rfl, rfl⟩
theorem syn_no (e : Nat) (h : e = 0 ∨ e = 12 ∨ e = 9 ∨ e = 8 ∨ e = 10) : Calls Tryz.prog 20 #[.int .i64 e] w fun e' w' => e' = .returned (.bool false) ∧ w' = w := by
  rcases h with rfl | rfl | rfl | rfl | rfl <;>
  · go_enter Tryz.func20, Tryz.ntmps20
    go_wp2
    go_ret
    exact ⟨rfl, rfl⟩
theorem cprefix_any (a b : Bs) (h : a <+: b) : Calls Tryz.prog 22 #[sv a, sv b] w fun e' w' => e' = .returned (.bool true) ∧ w' = w := by
  obtain ⟨c, rfl⟩ := h
  have hl : (a.length : Int) ≤ ((a ++ c).length : Int) := by simp; omega
  have hl2 : a.length ≤ (a ++ c).length := by simp
  have ht : (a ++ c).take a.length = a := by simp
  generalize a ++ c = b at hl hl2 ht
  go_enter Tryz.func22, Tryz.ntmps22
  go_wp2_with fail
  rw [ByteArray.extract_mk, List.drop_zero, Nat.sub_zero, ht]
  go_ret
  exact ⟨by simp [ByteArray.toList_eq], rfl⟩
end
end Go.Proofs.Qxb6500574aGreatDoor
