/-
  moon: the decimal digits from the front. Plain; no memory, no walk.
-/
import Derived.Test.Qxb6500574aGreatDoorVLawN
namespace Go.Proofs.Qxb6500574aGreatDoor
set_option linter.unusedVariables false
set_option linter.unusedSimpArgs false

def dg (n : Nat) : UInt8 := UInt8.ofNat (48 + n)
/-- k digits of u, the first first -/
def padD : Nat → Nat → Bs
  | 0, _ => []
  | k + 1, u => dg (u / 10 ^ k) :: padD k (u % 10 ^ k)
theorem padD_len : ∀ k u, (padD k u).length = k
  | 0, _ => rfl
  | k + 1, u => by simp [padD, padD_len k]
theorem padD_snoc : ∀ (k u : Nat), padD (k + 1) u = padD k (u / 10) ++ [dg (u % 10)] ∨ ¬ u < 10 ^ (k + 1) := by
  intro k
  induction k with
  | zero =>
    intro u
    by_cases h : u < 10 ^ (0 + 1)
    · left
      have h2 : u < 10 := by simpa using h
      simp [padD]
      rw [Nat.mod_eq_of_lt h2]
    · exact .inr h
  | succ k ih =>
    intro u
    by_cases h : u < 10 ^ (k + 1 + 1)
    · left
      rcases ih (u % 10 ^ (k + 1)) with e | e
      · conv => lhs; unfold padD
        rw [e]
        conv => rhs; unfold padD
        rw [List.cons_append]
        congr 1
        · rw [Nat.div_div_eq_div_mul, Nat.pow_succ, Nat.mul_comm]
        · congr 1
          · congr 1
            rw [Nat.pow_succ, Nat.mul_comm, Nat.mod_mul_right_div_self]
          · rw [Nat.mod_mod_of_dvd]
            exact ⟨10 ^ k, by rw [Nat.pow_succ, Nat.mul_comm]⟩
      · exact absurd (Nat.mod_lt u (Nat.pow_pos (by omega))) e
    · exact .inr h
theorem decR_pad : ∀ (k f u : Nat), k < f → u < 10 ^ (k + 1) → (k = 0 ∨ 10 ^ k ≤ u) → (decR f u).reverse = padD (k + 1) u := by
  intro k
  induction k with
  | zero =>
    intro f u hf hu _
    obtain ⟨f, rfl⟩ : ∃ g, f = g + 1 := ⟨f - 1, by omega⟩
    have h2 : u < 10 := by simpa using hu
    have h3 : u / 10 = 0 := by omega
    simp [decR, padD, h3, dg]
    rw [Nat.mod_eq_of_lt h2]
  | succ k ih =>
    intro f u hf hu hle
    obtain ⟨f, rfl⟩ : ∃ g, f = g + 1 := ⟨f - 1, by omega⟩
    have hle2 : 10 ^ (k + 1) ≤ u := by
      rcases hle with h | h
      · omega
      · exact h
    have hp : 10 ^ (k + 1) = 10 * 10 ^ k := by rw [Nat.pow_succ, Nat.mul_comm]
    have hp2 : 10 ^ (k + 1 + 1) = 10 * 10 ^ (k + 1) := by rw [Nat.pow_succ, Nat.mul_comm]
    have hpos : 0 < 10 ^ k := Nat.pow_pos (by omega)
    have h1 : u / 10 < 10 ^ (k + 1) := by omega
    have h2 : 10 ^ k ≤ u / 10 := by omega
    have h3 : u / 10 ≠ 0 := by omega
    rcases padD_snoc (k + 1) u with e | e
    · rw [e, ← ih f (u / 10) (by omega) h1 (.inr h2)]
      conv => lhs; unfold decR
      rw [if_neg h3, List.reverse_cons]
      rfl
    · exact absurd hu e
theorem decN_pad {k u : Nat} (hk : k < 20) (hu : u < 10 ^ (k + 1)) (h : k = 0 ∨ 10 ^ k ≤ u) : decN u = padD (k + 1) u := decR_pad k 20 u hk hu h
theorem pow_lt20 {k u : Nat} (h : 10 ^ k ≤ u) (hu : u < 18446744073709551616) : k < 20 := by
  refine Nat.lt_of_not_le fun hk => ?_
  have : 10 ^ 20 ≤ 10 ^ k := Nat.pow_le_pow_right (by omega) hk
  omega
end Go.Proofs.Qxb6500574aGreatDoor
