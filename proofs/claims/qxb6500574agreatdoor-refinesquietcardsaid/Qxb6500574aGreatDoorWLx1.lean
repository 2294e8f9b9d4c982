/-
  THE WALK of the parser layer: the lexer's small functions.
-/
import Derived.Test.Qxb6500574aGreatDoorVParse
import Derived.Test.Qxb6500574aGreatDoorWPlain
namespace Go.Proofs.Qxb6500574aGreatDoor
open Go Go.RowKit
set_option linter.unusedVariables false
set_option linter.unusedSimpArgs false
theorem u8_le {a b : UInt8} : (a ≤ b) ↔ a.toNat ≤ b.toNat := UInt8.le_iff_toNat_le
theorem isDig_nat (c : UInt8) : isDig c = (decide (48 ≤ c.toNat) && decide (c.toNat ≤ 57)) := by
  unfold isDig
  simp only [u8_le]
  rfl
theorem isLet_nat (c : UInt8) : isLet c = ((decide (97 ≤ c.toNat) && decide (c.toNat ≤ 122)) || (decide (65 ≤ c.toNat) && decide (c.toNat ≤ 90)) || decide (c.toNat = 95)) := by
  unfold isLet
  have : (c == 95) = decide (c.toNat = 95) := by
    by_cases h : c = 95
    · subst h; rfl
    · rw [beq_false_of_ne h]
      symm
      simp only [decide_eq_false_iff_not]
      exact fun e => h (UInt8.toNat_inj.1 e)
  rw [this]
  simp only [u8_le]
  rfl
theorem isWrd_nat (c : UInt8) : isWrd c = ((decide (97 ≤ c.toNat) && decide (c.toNat ≤ 122)) || (decide (65 ≤ c.toNat) && decide (c.toNat ≤ 90)) || decide (c.toNat = 95) || (decide (48 ≤ c.toNat) && decide (c.toNat ≤ 57))) := by
  unfold isWrd
  rw [isLet_nat, isDig_nat]
section
variable {w : World}
set_option maxRecDepth 100000
set_option maxHeartbeats 600000
theorem digit_any (c : UInt8) : Calls Tryz.prog 218 #[.int .u8 c.toNat] w fun e w' => e = .returned (.bool (isDig c)) ∧ w' = w := by
  rw [isDig_nat]
  generalize c.toNat = n
  go_enter Tryz.func218, Tryz.ntmps218
  by_cases h1 : 48 ≤ n
  · by_cases h2 : n ≤ 57
    · go_wp2_with fail
      go_ret
      exact ⟨by simp [h1, h2] <;> omega, rfl⟩
    · go_wp2_with fail
      go_ret
      exact ⟨by simp [h1, h2] <;> omega, rfl⟩
  · go_wp2_with fail
    go_ret
    exact ⟨by simp [h1] <;> omega, rfl⟩
theorem word_any (c : UInt8) : Calls Tryz.prog 150 #[.int .u8 c.toNat] w fun e w' => e = .returned (.bool (isWrd c)) ∧ w' = w := by
  rw [isWrd_nat]
  generalize c.toNat = n
  go_enter Tryz.func150, Tryz.ntmps150
  by_cases h1 : 97 ≤ n
  · by_cases h2 : n ≤ 122
    · go_wp2_with fail
      go_ret
      exact ⟨by simp [h1, h2] <;> omega, rfl⟩
    · have h3 : 65 ≤ n := by omega
      have h4 : ¬ n ≤ 90 := by omega
      have h5 : ¬ n = 95 := by omega
      have h6 : 48 ≤ n := by omega
      have h7 : ¬ n ≤ 57 := by omega
      go_wp2_with fail
      go_ret
      exact ⟨by simp [h1, h2, h3, h4, h5, h6, h7] <;> omega, rfl⟩
  · by_cases h3 : 65 ≤ n
    · have h6 : 48 ≤ n := by omega
      have h7 : ¬ n ≤ 57 := by omega
      by_cases h4 : n ≤ 90
      · go_wp2_with fail
        go_ret
        exact ⟨by simp [h1, h3, h4] <;> omega, rfl⟩
      · by_cases h5 : n = 95
        · subst h5
          go_wp2_with fail
          go_ret
          exact ⟨by simp <;> omega, rfl⟩
        · have h5i : ((n : Int) == 95) = false := by simp; omega
          go_wp2_with fail
          go_ret
          exact ⟨by simp [h1, h3, h4, h5, h6, h7] <;> omega, rfl⟩
    · have h5 : ¬ n = 95 := by omega
      have h5i : ((n : Int) == 95) = false := by simp; omega
      by_cases h6 : 48 ≤ n
      · by_cases h7 : n ≤ 57
        · go_wp2_with fail
          go_ret
          exact ⟨by simp [h1, h3, h5, h6, h7] <;> omega, rfl⟩
        · go_wp2_with fail
          go_ret
          exact ⟨by simp [h1, h3, h5, h6, h7] <;> omega, rfl⟩
      · go_wp2_with fail
        go_ret
        exact ⟨by simp [h1, h3, h5, h6] <;> omega, rfl⟩
end
end Go.Proofs.Qxb6500574aGreatDoor
