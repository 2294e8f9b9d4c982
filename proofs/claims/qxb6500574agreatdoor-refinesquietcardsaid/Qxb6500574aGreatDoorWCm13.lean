/-
  THE WALK of comp: binary, unary, param.
-/
import Derived.Test.Qxb6500574aGreatDoorWCm12
namespace Go.Proofs.Qxb6500574aGreatDoor
open Go Go.RowKit
set_option linter.unusedVariables false
set_option linter.unusedSimpArgs false
open Go.Lib
theorem isIns : IsStr 105 2 := ⟨by kernel_rfl, by kernel_rfl⟩
section
set_option maxRecDepth 100000
set_option maxHeartbeats 1000000
variable {w : World} {o : Nat → Nat} {C : CC} {N : List Nd} {c : CmD} {f : Nat}
theorem cbinary_any (n : Nat) (hn : n ≤ 20) : Calls Tryz.prog 236 #[.int .u64 n] w fun e w' => e = .returned (.agg #[.int .u8 (binI n).1, .int .u16 (binI n).2]) ∧ Fr (fun _ => False) w w' := by
  by_cases h1 : n = 20
  · subst h1
    go_enter Tryz.func236, Tryz.ntmps236
    go_wp2_with fail
    refine bodyPost_ret (res_cell isIns rfl rfl (Has.new _ _ _) rfl) rfl ?_
    exact ⟨rfl, (Fr.refl _ _).alloc _⟩
  · have e1 : ((n : Int) == 20) = false := by simp; omega
    by_cases h2 : 10 < n
    · have hb : binI n = (16, n - 10) := by unfold binI; rw [if_neg h1, if_pos h2, Nat.mod_eq_of_lt (by omega)]
      rw [hb]
      have e2 : decide (10 < n) = true := decide_eq_true h2
      go_enter Tryz.func236, Tryz.ntmps236
      go_wp2_with fail
      refine bodyPost_ret (res_cell isIns rfl rfl (Has.new _ _ _) rfl) rfl ?_
      refine ⟨?_, (Fr.refl _ _).alloc _⟩
      have : ((n : Int) - 10) = ((n - 10 : Nat) : Int) := by omega
      simp [this]
    · have hb : binI n = (15, n) := by unfold binI; rw [if_neg h1, if_neg h2, Nat.mod_eq_of_lt (by omega)]
      rw [hb]
      have e2 : decide (10 < n) = false := decide_eq_false h2
      go_enter Tryz.func236, Tryz.ntmps236
      go_wp2_with fail
      refine bodyPost_ret (res_cell isIns rfl rfl (Has.new _ _ _) rfl) rfl ?_
      exact ⟨rfl, (Fr.refl _ _).alloc _⟩
theorem cunary_any (n : Nat) : Calls Tryz.prog 237 #[.int .u64 n] w fun e w' => e = .returned (.agg #[.int .u8 (unI n).1, .int .u16 (unI n).2]) ∧ Fr (fun _ => False) w w' := by
  by_cases h1 : n = 1
  · subst h1
    go_enter Tryz.func237, Tryz.ntmps237
    go_wp2_with fail
    refine bodyPost_ret (res_cell isIns rfl rfl (Has.new _ _ _) rfl) rfl ?_
    exact ⟨rfl, (Fr.refl _ _).alloc _⟩
  · have e1 : ((n : Int) == 1) = false := by simp; omega
    by_cases h2 : n = 2
    · subst h2
      go_enter Tryz.func237, Tryz.ntmps237
      go_wp2_with fail
      refine bodyPost_ret (res_cell isIns rfl rfl (Has.new _ _ _) rfl) rfl ?_
      exact ⟨rfl, (Fr.refl _ _).alloc _⟩
    · have e2 : ((n : Int) == 2) = false := by simp; omega
      have hb : unI n = (20, 0) := by unfold unI; rw [if_neg h1, if_neg h2]
      rw [hb]
      go_enter Tryz.func237, Tryz.ntmps237
      go_wp2_with fail
      refine bodyPost_ret (res_cell isIns rfl rfl (Has.new _ _ _) rfl) rfl ?_
      exact ⟨rfl, (Fr.refl _ _).alloc _⟩
end
end Go.Proofs.Qxb6500574aGreatDoor
