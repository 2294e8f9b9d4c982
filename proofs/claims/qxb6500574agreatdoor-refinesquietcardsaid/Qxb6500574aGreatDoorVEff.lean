/-
  THE WALK of vm: effect.
-/
import Derived.Test.Qxb6500574aGreatDoorVApi
namespace Go.Proofs.Qxb6500574aGreatDoor
open Go Go.RowKit
set_option linter.unusedVariables false
set_option linter.unusedSimpArgs false
def EffC (op : Nat) : Prop := ∀ w : World, Calls Tryz.prog 264 #[.int .u8 op] w fun e w' => e = .returned (.tuple #[.int .i8 (need op), .int .i8 (grow op)]) ∧ w' = w
set_option maxRecDepth 100000
set_option maxHeartbeats 1000000
theorem eff_0 : EffC 0 := by
  intro w
  show Calls _ _ #[.int .u8 0] _ _
  go_enter Tryz.func264, Tryz.ntmps264
  go_wp2
  go_ret2
  exact ⟨rfl, rfl⟩
theorem eff_1 : EffC 1 := by
  intro w
  show Calls _ _ #[.int .u8 1] _ _
  go_enter Tryz.func264, Tryz.ntmps264
  go_wp2
  go_ret2
  exact ⟨rfl, rfl⟩
theorem eff_2 : EffC 2 := by
  intro w
  show Calls _ _ #[.int .u8 2] _ _
  go_enter Tryz.func264, Tryz.ntmps264
  go_wp2
  go_ret2
  exact ⟨rfl, rfl⟩
theorem eff_3 : EffC 3 := by
  intro w
  show Calls _ _ #[.int .u8 3] _ _
  go_enter Tryz.func264, Tryz.ntmps264
  go_wp2
  go_ret2
  exact ⟨rfl, rfl⟩
theorem eff_4 : EffC 4 := by
  intro w
  show Calls _ _ #[.int .u8 4] _ _
  go_enter Tryz.func264, Tryz.ntmps264
  go_wp2
  go_ret2
  exact ⟨rfl, rfl⟩
theorem eff_5 : EffC 5 := by
  intro w
  show Calls _ _ #[.int .u8 5] _ _
  go_enter Tryz.func264, Tryz.ntmps264
  go_wp2
  go_ret2
  exact ⟨rfl, rfl⟩
theorem eff_6 : EffC 6 := by
  intro w
  show Calls _ _ #[.int .u8 6] _ _
  go_enter Tryz.func264, Tryz.ntmps264
  go_wp2
  go_ret2
  exact ⟨rfl, rfl⟩
theorem eff_7 : EffC 7 := by
  intro w
  show Calls _ _ #[.int .u8 7] _ _
  go_enter Tryz.func264, Tryz.ntmps264
  go_wp2
  go_ret2
  exact ⟨rfl, rfl⟩
theorem eff_8 : EffC 8 := by
  intro w
  show Calls _ _ #[.int .u8 8] _ _
  go_enter Tryz.func264, Tryz.ntmps264
  go_wp2
  go_ret2
  exact ⟨rfl, rfl⟩
theorem eff_9 : EffC 9 := by
  intro w
  show Calls _ _ #[.int .u8 9] _ _
  go_enter Tryz.func264, Tryz.ntmps264
  go_wp2
  go_ret2
  exact ⟨rfl, rfl⟩
theorem eff_10 : EffC 10 := by
  intro w
  show Calls _ _ #[.int .u8 10] _ _
  go_enter Tryz.func264, Tryz.ntmps264
  go_wp2
  go_ret2
  exact ⟨rfl, rfl⟩
theorem eff_11 : EffC 11 := by
  intro w
  show Calls _ _ #[.int .u8 11] _ _
  go_enter Tryz.func264, Tryz.ntmps264
  go_wp2
  go_ret2
  exact ⟨rfl, rfl⟩
theorem eff_12 : EffC 12 := by
  intro w
  show Calls _ _ #[.int .u8 12] _ _
  go_enter Tryz.func264, Tryz.ntmps264
  go_wp2
  go_ret2
  exact ⟨rfl, rfl⟩
theorem eff_13 : EffC 13 := by
  intro w
  show Calls _ _ #[.int .u8 13] _ _
  go_enter Tryz.func264, Tryz.ntmps264
  go_wp2
  go_ret2
  exact ⟨rfl, rfl⟩
theorem eff_14 : EffC 14 := by
  intro w
  show Calls _ _ #[.int .u8 14] _ _
  go_enter Tryz.func264, Tryz.ntmps264
  go_wp2
  go_ret2
  exact ⟨rfl, rfl⟩
theorem eff_15 : EffC 15 := by
  intro w
  show Calls _ _ #[.int .u8 15] _ _
  go_enter Tryz.func264, Tryz.ntmps264
  go_wp2
  go_ret2
  exact ⟨rfl, rfl⟩
theorem eff_16 : EffC 16 := by
  intro w
  show Calls _ _ #[.int .u8 16] _ _
  go_enter Tryz.func264, Tryz.ntmps264
  go_wp2
  go_ret2
  exact ⟨rfl, rfl⟩
theorem eff_17 : EffC 17 := by
  intro w
  show Calls _ _ #[.int .u8 17] _ _
  go_enter Tryz.func264, Tryz.ntmps264
  go_wp2
  go_ret2
  exact ⟨rfl, rfl⟩
theorem eff_18 : EffC 18 := by
  intro w
  show Calls _ _ #[.int .u8 18] _ _
  go_enter Tryz.func264, Tryz.ntmps264
  go_wp2
  go_ret2
  exact ⟨rfl, rfl⟩
theorem eff_19 : EffC 19 := by
  intro w
  show Calls _ _ #[.int .u8 19] _ _
  go_enter Tryz.func264, Tryz.ntmps264
  go_wp2
  go_ret2
  exact ⟨rfl, rfl⟩
theorem eff_20 : EffC 20 := by
  intro w
  show Calls _ _ #[.int .u8 20] _ _
  go_enter Tryz.func264, Tryz.ntmps264
  go_wp2
  go_ret2
  exact ⟨rfl, rfl⟩
theorem eff_21 : EffC 21 := by
  intro w
  show Calls _ _ #[.int .u8 21] _ _
  go_enter Tryz.func264, Tryz.ntmps264
  go_wp2
  go_ret2
  exact ⟨rfl, rfl⟩
theorem eff_22 : EffC 22 := by
  intro w
  show Calls _ _ #[.int .u8 22] _ _
  go_enter Tryz.func264, Tryz.ntmps264
  go_wp2
  go_ret2
  exact ⟨rfl, rfl⟩
theorem eff_23 : EffC 23 := by
  intro w
  show Calls _ _ #[.int .u8 23] _ _
  go_enter Tryz.func264, Tryz.ntmps264
  go_wp2
  go_ret2
  exact ⟨rfl, rfl⟩
theorem eff_24 : EffC 24 := by
  intro w
  show Calls _ _ #[.int .u8 24] _ _
  go_enter Tryz.func264, Tryz.ntmps264
  go_wp2
  go_ret2
  exact ⟨rfl, rfl⟩
theorem eff_25 : EffC 25 := by
  intro w
  show Calls _ _ #[.int .u8 25] _ _
  go_enter Tryz.func264, Tryz.ntmps264
  go_wp2
  go_ret2
  exact ⟨rfl, rfl⟩
theorem eff_26 : EffC 26 := by
  intro w
  show Calls _ _ #[.int .u8 26] _ _
  go_enter Tryz.func264, Tryz.ntmps264
  go_wp2
  go_ret2
  exact ⟨rfl, rfl⟩
theorem eff_27 : EffC 27 := by
  intro w
  show Calls _ _ #[.int .u8 27] _ _
  go_enter Tryz.func264, Tryz.ntmps264
  go_wp2
  go_ret2
  exact ⟨rfl, rfl⟩
theorem eff_28 : EffC 28 := by
  intro w
  show Calls _ _ #[.int .u8 28] _ _
  go_enter Tryz.func264, Tryz.ntmps264
  go_wp2
  go_ret2
  exact ⟨rfl, rfl⟩
theorem eff_29 : EffC 29 := by
  intro w
  show Calls _ _ #[.int .u8 29] _ _
  go_enter Tryz.func264, Tryz.ntmps264
  go_wp2
  go_ret2
  exact ⟨rfl, rfl⟩
theorem eff_30 : EffC 30 := by
  intro w
  show Calls _ _ #[.int .u8 30] _ _
  go_enter Tryz.func264, Tryz.ntmps264
  go_wp2
  go_ret2
  exact ⟨rfl, rfl⟩
theorem eff_31 : EffC 31 := by
  intro w
  show Calls _ _ #[.int .u8 31] _ _
  go_enter Tryz.func264, Tryz.ntmps264
  go_wp2
  go_ret2
  exact ⟨rfl, rfl⟩
theorem eff_32 : EffC 32 := by
  intro w
  show Calls _ _ #[.int .u8 32] _ _
  go_enter Tryz.func264, Tryz.ntmps264
  go_wp2
  go_ret2
  exact ⟨rfl, rfl⟩
theorem eff_big (op : Nat) (h : 32 < op) : EffC op := by
  intro w
  have hn : need op = 0 := by
    unfold need
    rw [if_neg (by omega), if_neg (by omega), if_neg (by omega)]
  have hg : grow op = 0 := by
    unfold grow
    rw [if_neg (by omega), if_neg (by omega), if_neg (by omega), if_neg (by omega), if_neg (by omega), if_neg (by omega)]
  rw [hn, hg]
  have b1 : ((op : Int) == 1) = false := by rw [beq_eq_false_iff_ne]; omega
  have b2 : ((op : Int) == 2) = false := by rw [beq_eq_false_iff_ne]; omega
  have b3 : ((op : Int) == 3) = false := by rw [beq_eq_false_iff_ne]; omega
  have b4 : ((op : Int) == 4) = false := by rw [beq_eq_false_iff_ne]; omega
  have b5 : ((op : Int) == 5) = false := by rw [beq_eq_false_iff_ne]; omega
  have b6 : ((op : Int) == 6) = false := by rw [beq_eq_false_iff_ne]; omega
  have b7 : ((op : Int) == 7) = false := by rw [beq_eq_false_iff_ne]; omega
  have b8 : ((op : Int) == 8) = false := by rw [beq_eq_false_iff_ne]; omega
  have b9 : ((op : Int) == 9) = false := by rw [beq_eq_false_iff_ne]; omega
  have b10 : ((op : Int) == 10) = false := by rw [beq_eq_false_iff_ne]; omega
  have b11 : ((op : Int) == 11) = false := by rw [beq_eq_false_iff_ne]; omega
  have b12 : ((op : Int) == 12) = false := by rw [beq_eq_false_iff_ne]; omega
  have b13 : ((op : Int) == 13) = false := by rw [beq_eq_false_iff_ne]; omega
  have b14 : ((op : Int) == 14) = false := by rw [beq_eq_false_iff_ne]; omega
  have b15 : ((op : Int) == 15) = false := by rw [beq_eq_false_iff_ne]; omega
  have b16 : ((op : Int) == 16) = false := by rw [beq_eq_false_iff_ne]; omega
  have b17 : ((op : Int) == 17) = false := by rw [beq_eq_false_iff_ne]; omega
  have b18 : ((op : Int) == 18) = false := by rw [beq_eq_false_iff_ne]; omega
  have b19 : ((op : Int) == 19) = false := by rw [beq_eq_false_iff_ne]; omega
  have b20 : ((op : Int) == 20) = false := by rw [beq_eq_false_iff_ne]; omega
  have b21 : ((op : Int) == 21) = false := by rw [beq_eq_false_iff_ne]; omega
  have b22 : ((op : Int) == 22) = false := by rw [beq_eq_false_iff_ne]; omega
  have b23 : ((op : Int) == 23) = false := by rw [beq_eq_false_iff_ne]; omega
  have b24 : ((op : Int) == 24) = false := by rw [beq_eq_false_iff_ne]; omega
  have b25 : ((op : Int) == 25) = false := by rw [beq_eq_false_iff_ne]; omega
  have b26 : ((op : Int) == 26) = false := by rw [beq_eq_false_iff_ne]; omega
  have b27 : ((op : Int) == 27) = false := by rw [beq_eq_false_iff_ne]; omega
  have b28 : ((op : Int) == 28) = false := by rw [beq_eq_false_iff_ne]; omega
  have b29 : ((op : Int) == 29) = false := by rw [beq_eq_false_iff_ne]; omega
  have b30 : ((op : Int) == 30) = false := by rw [beq_eq_false_iff_ne]; omega
  have b31 : ((op : Int) == 31) = false := by rw [beq_eq_false_iff_ne]; omega
  have b32 : ((op : Int) == 32) = false := by rw [beq_eq_false_iff_ne]; omega
  go_enter Tryz.func264, Tryz.ntmps264
  go_wp2
  go_ret2
  exact ⟨rfl, rfl⟩
theorem effect_any {w : World} (op : Nat) : Calls Tryz.prog 264 #[.int .u8 op] w fun e w' => e = .returned (.tuple #[.int .i8 (need op), .int .i8 (grow op)]) ∧ w' = w := by
  refine (?_ : EffC op) w
  by_cases h0 : op = 0
  · rw [h0]; exact eff_0
  by_cases h1 : op = 1
  · rw [h1]; exact eff_1
  by_cases h2 : op = 2
  · rw [h2]; exact eff_2
  by_cases h3 : op = 3
  · rw [h3]; exact eff_3
  by_cases h4 : op = 4
  · rw [h4]; exact eff_4
  by_cases h5 : op = 5
  · rw [h5]; exact eff_5
  by_cases h6 : op = 6
  · rw [h6]; exact eff_6
  by_cases h7 : op = 7
  · rw [h7]; exact eff_7
  by_cases h8 : op = 8
  · rw [h8]; exact eff_8
  by_cases h9 : op = 9
  · rw [h9]; exact eff_9
  by_cases h10 : op = 10
  · rw [h10]; exact eff_10
  by_cases h11 : op = 11
  · rw [h11]; exact eff_11
  by_cases h12 : op = 12
  · rw [h12]; exact eff_12
  by_cases h13 : op = 13
  · rw [h13]; exact eff_13
  by_cases h14 : op = 14
  · rw [h14]; exact eff_14
  by_cases h15 : op = 15
  · rw [h15]; exact eff_15
  by_cases h16 : op = 16
  · rw [h16]; exact eff_16
  by_cases h17 : op = 17
  · rw [h17]; exact eff_17
  by_cases h18 : op = 18
  · rw [h18]; exact eff_18
  by_cases h19 : op = 19
  · rw [h19]; exact eff_19
  by_cases h20 : op = 20
  · rw [h20]; exact eff_20
  by_cases h21 : op = 21
  · rw [h21]; exact eff_21
  by_cases h22 : op = 22
  · rw [h22]; exact eff_22
  by_cases h23 : op = 23
  · rw [h23]; exact eff_23
  by_cases h24 : op = 24
  · rw [h24]; exact eff_24
  by_cases h25 : op = 25
  · rw [h25]; exact eff_25
  by_cases h26 : op = 26
  · rw [h26]; exact eff_26
  by_cases h27 : op = 27
  · rw [h27]; exact eff_27
  by_cases h28 : op = 28
  · rw [h28]; exact eff_28
  by_cases h29 : op = 29
  · rw [h29]; exact eff_29
  by_cases h30 : op = 30
  · rw [h30]; exact eff_30
  by_cases h31 : op = 31
  · rw [h31]; exact eff_31
  by_cases h32 : op = 32
  · rw [h32]; exact eff_32
  exact eff_big op (by omega)
end Go.Proofs.Qxb6500574aGreatDoor
