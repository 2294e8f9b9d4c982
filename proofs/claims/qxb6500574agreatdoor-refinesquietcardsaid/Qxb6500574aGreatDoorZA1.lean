/-
  THE WALKS of numm: the small tests.
-/
import Derived.Test.Qxb6500574aGreatDoorVNum
import Derived.Test.Qxb6500574aGreatDoorZN13
namespace Go.Proofs.Qxb6500574aGreatDoor
open Go Go.RowKit
set_option linter.unusedVariables false
set_option linter.unusedSimpArgs false
/-! ### what the walk's bits come to -/
theorem bt_abs {a : Nat} (h : u64 a) : bits .andNot .u64 (a : Int) 9223372036854775808 = (absM a : Int) := by
  have := u64_andNot_nat a 9223372036854775808 h (by decide)
  rw [show ((9223372036854775808 : Nat) : Int) = 9223372036854775808 from rfl] at this
  rw [this]
  unfold absM
  rw [show (18446744073709551615 - 9223372036854775808 : Nat) = 2 ^ 63 - 1 by decide, Nat.and_two_pow_sub_one_eq_mod]
theorem bt_man {a : Nat} (h : u64 a) : bits .and .u64 (a : Int) 4503599627370495 = ((a % 4503599627370496 : Nat) : Int) := by
  have := u64_and_nat a 4503599627370495 h (by decide)
  rw [show ((4503599627370495 : Nat) : Int) = 4503599627370495 from rfl] at this
  rw [this, show (4503599627370495 : Nat) = 2 ^ 52 - 1 by decide, Nat.and_two_pow_sub_one_eq_mod]
theorem and_sg {a : Nat} (h : u64 a) : a &&& 9223372036854775808 = signM (negM a) := by
  rw [nat_bit63]
  unfold signM sgnM negM
  unfold u64 at h
  by_cases z : 9223372036854775808 ≤ a
  · rw [decide_eq_true z, if_pos rfl]
    omega
  · rw [decide_eq_false z, if_neg (by decide)]
    omega
theorem bt_sg {a : Nat} (h : u64 a) : bits .and .u64 (a : Int) 9223372036854775808 = ((signM (negM a) : Nat) : Int) := by
  have := u64_and_nat a 9223372036854775808 h (by decide)
  rw [show ((9223372036854775808 : Nat) : Int) = 9223372036854775808 from rfl] at this
  rw [this, and_sg h]
theorem i64_and_nat (a b : Nat) (ha : a < 9223372036854775808) (hb : b < 9223372036854775808) : bits .and .i64 (a : Int) (b : Int) = ((a &&& b : Nat) : Int) := by
  have hx : a &&& b < 2 ^ 63 := Nat.and_lt_two_pow _ (by omega)
  show IntKind.i64.wrap ((BitVec.ofInt 64 (a : Int) &&& BitVec.ofInt 64 (b : Int)).toNat : Int) = _
  rw [BitVec.toNat_and, ofInt_u64 a (by omega), ofInt_u64 b (by omega)]
  generalize a &&& b = c at *
  rw [IntKind.wrap_i64]
  omega
theorem bt_exp (q : Nat) (h : q < 4096) : bits .and .i64 (q : Int) 2047 = ((q % 2048 : Nat) : Int) := by
  have := i64_and_nat q 2047 (by omega) (by decide)
  rw [show ((2047 : Nat) : Int) = 2047 from rfl] at this
  rw [this, show (2047 : Nat) = 2 ^ 11 - 1 by decide, Nat.and_two_pow_sub_one_eq_mod]
theorem bt_hid {m : Nat} (h : m < 4503599627370496) : bits .or .u64 (m : Int) 4503599627370496 = ((m + 4503599627370496 : Nat) : Int) := by
  have := u64_or_nat m 4503599627370496 (by omega) (by decide)
  rw [show ((4503599627370496 : Nat) : Int) = 4503599627370496 from rfl] at this
  rw [this, Nat.or_comm, nat_join 52 4503599627370496 m (by decide) (by rw [show (2 : Nat) ^ 52 = 4503599627370496 by decide]; exact h), Nat.add_comm]
theorem ret_b {a b : Bool} (h : a = true ↔ b = true) : Ending.returned (.bool a) = .returned (.bool b) := by rw [Bool.eq_iff_iff.2 h]
section
variable {w : World}
set_option maxRecDepth 100000
set_option maxHeartbeats 600000
theorem isNaN_m {a : Nat} (h : u64 a) : Calls Tryz.prog 258 #[.int .u64 a] w fun e w' => e = .returned (.bool (isNanM a)) ∧ w' = w := by
  have b := bt_abs h
  unfold isNanM infM
  go_enter Tryz.func258, Tryz.ntmps258
  go_wp2_with fail
  go_ret
  exact ⟨ret_b (by simp <;> omega), rfl⟩
theorem isInf_m {a : Nat} (h : u64 a) : Calls Tryz.prog 253 #[.int .u64 a] w fun e w' => e = .returned (.bool (isInfM a)) ∧ w' = w := by
  have b := bt_abs h
  unfold isInfM infM
  go_enter Tryz.func253, Tryz.ntmps253
  go_wp2_with fail
  go_ret
  exact ⟨ret_b (by simp <;> omega), rfl⟩
theorem isZero_m {a : Nat} (h : u64 a) : Calls Tryz.prog 254 #[.int .u64 a] w fun e w' => e = .returned (.bool (isZeroM a)) ∧ w' = w := by
  have b := bt_abs h
  unfold isZeroM
  go_enter Tryz.func254, Tryz.ntmps254
  go_wp2_with fail
  go_ret
  exact ⟨ret_b (by simp <;> omega), rfl⟩
theorem anyNaN_m {a c : Nat} (h : u64 a) (h2 : u64 c) : Calls Tryz.prog 192 #[.int .u64 a, .int .u64 c] w fun e w' => e = .returned (.bool (isNanM a || isNanM c)) ∧ w' = w := by
  have b := bt_abs h
  have b2 := bt_abs h2
  unfold isNanM infM
  generalize absM a = x at *
  generalize absM c = y at *
  go_enter Tryz.func192, Tryz.ntmps192
  by_cases z : 9218868437227405312 < x
  · go_wp2_with fail
    go_ret
    exact ⟨ret_b (by simp [z] <;> omega), rfl⟩
  · go_wp2_with fail
    go_ret
    exact ⟨ret_b (by simp [z] <;> omega), rfl⟩
theorem anyInf_m {a c : Nat} (h : u64 a) (h2 : u64 c) : Calls Tryz.prog 256 #[.int .u64 a, .int .u64 c] w fun e w' => e = .returned (.bool (isInfM a || isInfM c)) ∧ w' = w := by
  have b := bt_abs h
  have b2 := bt_abs h2
  unfold isInfM infM
  generalize absM a = x at *
  generalize absM c = y at *
  go_enter Tryz.func256, Tryz.ntmps256
  by_cases z : x = 9218868437227405312
  · go_wp2_with fail
    go_ret
    exact ⟨ret_b (by simp [z] <;> omega), rfl⟩
  · go_wp2_with fail
    go_ret
    exact ⟨ret_b (by simp [z] <;> omega), rfl⟩
theorem anyZero_m {a c : Nat} (h : u64 a) (h2 : u64 c) : Calls Tryz.prog 257 #[.int .u64 a, .int .u64 c] w fun e w' => e = .returned (.bool (isZeroM a || isZeroM c)) ∧ w' = w := by
  have b := bt_abs h
  have b2 := bt_abs h2
  unfold isZeroM
  generalize absM a = x at *
  generalize absM c = y at *
  go_enter Tryz.func257, Tryz.ntmps257
  by_cases z : x = 0
  · go_wp2_with fail
    go_ret
    exact ⟨ret_b (by simp [z] <;> omega), rfl⟩
  · go_wp2_with fail
    go_ret
    exact ⟨ret_b (by simp [z] <;> omega), rfl⟩
theorem bothZero_m {a c : Nat} (h : u64 a) (h2 : u64 c) : Calls Tryz.prog 193 #[.int .u64 a, .int .u64 c] w fun e w' => e = .returned (.bool (isZeroM a && isZeroM c)) ∧ w' = w := by
  have b := bt_abs h
  have b2 := bt_abs h2
  unfold isZeroM
  generalize absM a = x at *
  generalize absM c = y at *
  go_enter Tryz.func193, Tryz.ntmps193
  by_cases z : x = 0
  · go_wp2_with fail
    go_ret
    exact ⟨ret_b (by simp [z] <;> omega), rfl⟩
  · go_wp2_with fail
    go_ret
    exact ⟨ret_b (by simp [z] <;> omega), rfl⟩
theorem digit_m (c : UInt8) : Calls Tryz.prog 244 #[.int .u8 c.toNat] w fun e w' => e = .returned (.bool (digC c)) ∧ w' = w := by
  unfold digC
  generalize c.toNat = n
  go_enter Tryz.func244, Tryz.ntmps244
  by_cases h1 : 48 ≤ n
  · by_cases h2 : n ≤ 57
    · go_wp2_with fail
      go_ret
      exact ⟨by simp [h1, h2] <;> omega, rfl⟩
    · go_wp2_with fail
      go_ret
      exact ⟨by simp [h1, h2] <;> omega, rfl⟩
  · go_wp2_with fail
    go_ret
    exact ⟨by simp [h1] <;> omega, rfl⟩
theorem parts_m {a : Nat} (h : u64 a) : Calls Tryz.prog 255 #[.int .u64 a] w fun e w' => e = .returned (.tuple #[.int .u64 (partsM a).1, .int .i64 (partsM a).2]) ∧ w' = w := by
  have b := bt_man h
  obtain ⟨q, hq⟩ : ∃ q : Nat, (a : Int) / 4503599627370496 = (q : Int) := ⟨a / 4503599627370496, rfl⟩
  have hq' : a / 4503599627370496 = q := by omega
  unfold partsM
  rw [hq']
  have hql : q < 4096 := by unfold u64 at h; omega
  have b2 := bt_exp q hql
  have hxl : q % 2048 < 2048 := Nat.mod_lt _ (by decide)
  generalize hx : q % 2048 = x at *
  have hm : a % 4503599627370496 < 4503599627370496 := Nat.mod_lt _ (by decide)
  have b3 := bt_hid hm
  generalize a % 4503599627370496 = m at *
  clear hx hq'
  go_enter Tryz.func255, Tryz.ntmps255
  by_cases z : x = 0
  · subst z
    go_wp2_with fail
    go_ret2
    exact ⟨rfl, rfl⟩
  · have z' : ((x : Int) == 0) = false := by rw [beq_eq_false_iff_ne]; omega
    rw [if_neg z]
    go_wp2_with fail
    go_ret2
    exact ⟨rfl, rfl⟩
end
end Go.Proofs.Qxb6500574aGreatDoor
