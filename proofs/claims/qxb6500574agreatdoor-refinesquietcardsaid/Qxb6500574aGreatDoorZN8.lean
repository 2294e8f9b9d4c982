/-
  moon: SIGNS, ORDER, WHOLE NUMBERS (numm). Plain; no memory, no walk.
-/
import Derived.Test.Qxb6500574aGreatDoorZN7
namespace Go.Proofs.Qxb6500574aGreatDoor
set_option linter.unusedVariables false
set_option linter.unusedSimpArgs false
theorem xor_lo {y : Nat} (h : y < 9223372036854775808) : y ^^^ 9223372036854775808 = y + 9223372036854775808 := by
  have e : (9223372036854775808 : Nat) = 2 ^ 63 := by decide
  rw [e] at h ⊢
  refine Nat.eq_of_testBit_eq fun j => ?_
  rw [Nat.testBit_xor, Nat.testBit_two_pow, Nat.add_comm y]
  by_cases hj : 63 = j
  · subst hj
    rw [Nat.testBit_two_pow_add_eq, decide_eq_true rfl, Nat.testBit_lt_two_pow h]
    rfl
  · rw [decide_eq_false hj, Bool.xor_false]
    by_cases hlt : j < 63
    · rw [Nat.testBit_two_pow_add_gt hlt]
    · have h1 : y < 2 ^ j := Nat.lt_of_lt_of_le h (Nat.pow_le_pow_right (by decide) (by omega))
      have h2 : 2 ^ 63 + y < 2 ^ j := by
        have : 2 ^ 64 ≤ 2 ^ j := Nat.pow_le_pow_right (by decide) (by omega)
        have : (2 : Nat) ^ 64 = 2 ^ 63 + 2 ^ 63 := by decide
        omega
      rw [Nat.testBit_lt_two_pow h1, Nat.testBit_lt_two_pow h2]
theorem xor_flip {x : Nat} (h : u64 x) : x ^^^ 9223372036854775808 = flipM x := by
  unfold flipM negM sgnM
  unfold u64 at h
  by_cases z : 9223372036854775808 ≤ x
  · rw [decide_eq_true z, if_pos rfl]
    obtain ⟨y, rfl⟩ : ∃ y, x = y + 9223372036854775808 := ⟨x - 9223372036854775808, by omega⟩
    rw [← xor_lo (by omega), Nat.xor_assoc, Nat.xor_self, Nat.xor_zero]
    rw [xor_lo (by omega)]
    omega
  · rw [decide_eq_false z]
    simp only [Bool.false_eq_true, if_false]
    exact xor_lo (by omega)
def negateM (x : Nat) : Nat := if isNanM x then nanB else flipM x
theorem negM_ok {x : Nat} (h : u64 x) : negN x = negateM x := by
  have e : (2 : Nat) ^ 63 = 9223372036854775808 := by decide
  unfold negN negateM bitsN
  dsimp only
  rw [e, xor_flip h]
  obtain ⟨f1, f2, f3⟩ := flip_abs h
  rw [nan_is f1]
  have : isNanM (flipM x) = isNanM x := by unfold isNanM; rw [f2]
  rw [this]
/-! ### order -/
/-- a word's place among the words -/
def keyM (x : Nat) : Int := if negM x then -(absM x : Int) else (absM x : Int)
/-- greater places, greater words -/
theorem mag_lt {m n : Nat} {p q b : Int} (hm : Canon m p) (hn : Canon n q) (hp : b ≤ p) (hq : b ≤ q) : (m * 2 ^ (p - b).toNat < n * 2 ^ (q - b).toNat ↔ bitsOf m p < bitsOf n q) := by
  have key : ∀ {m n : Nat} {p q : Int}, Canon m p → Canon n q → b ≤ p → p < q → m * 2 ^ (p - b).toNat < n * 2 ^ (q - b).toNat ∧ bitsOf m p < bitsOf n q := fun {m n p q} hm hn hp hlt => by
    have h1 := hm.lt
    have h2 := hn.nm (by have := hm.lo; omega)
    have h3 := hm.lo
    constructor
    · have e : 2 ^ (q - b).toNat = 2 ^ (q - p - 1).toNat * 2 * 2 ^ (p - b).toNat := by
        rw [← Nat.pow_succ, ← Nat.pow_add]
        congr 1
        omega
      rw [e, ← Nat.mul_assoc]
      refine Nat.mul_lt_mul_of_pos_right ?_ (Nat.pow_pos (by decide))
      have : 1 ≤ 2 ^ (q - p - 1).toNat := Nat.pow_pos (by decide)
      have : n * 2 ≤ n * (2 ^ (q - p - 1).toNat * 2) := Nat.mul_le_mul_left _ (by omega)
      omega
    · unfold bitsOf
      have : (p + 1074).toNat + 1 ≤ (q + 1074).toNat := by omega
      have := Nat.mul_le_mul_right 4503599627370496 this
      rw [Nat.add_mul] at this
      omega
  rcases Int.lt_trichotomy p q with h | h | h
  · obtain ⟨a, b⟩ := key hm hn hp h
    exact ⟨fun _ => b, fun _ => a⟩
  · subst h
    unfold bitsOf
    rw [Nat.mul_lt_mul_right (Nat.pow_pos (by decide))]
    omega
  · obtain ⟨a, b⟩ := key hn hm hq h
    exact ⟨fun z => absurd z (by omega), fun z => absurd z (by omega)⟩
theorem mag_cmp {m n : Nat} {p q b : Int} (hm : Canon m p) (hn : Canon n q) (hp : b ≤ p) (hq : b ≤ q) : compare (m * 2 ^ (p - b).toNat) (n * 2 ^ (q - b).toNat) = compare (bitsOf m p) (bitsOf n q) := by
  have h1 := mag_lt hm hn hp hq
  have h2 := mag_lt hn hm hq hp
  rcases Nat.lt_trichotomy (bitsOf m p) (bitsOf n q) with h | h | h
  · rw [Nat.compare_eq_lt.2 h, Nat.compare_eq_lt.2 (h1.2 h)]
  · have : ¬ (m * 2 ^ (p - b).toNat < n * 2 ^ (q - b).toNat) := fun z => by have := h1.1 z; omega
    have : ¬ (n * 2 ^ (q - b).toNat < m * 2 ^ (p - b).toNat) := fun z => by have := h2.1 z; omega
    rw [Nat.compare_eq_eq.2 h, Nat.compare_eq_eq.2 (by omega)]
  · rw [Nat.compare_eq_gt.2 h, Nat.compare_eq_gt.2 (h2.2 h)]
end Go.Proofs.Qxb6500574aGreatDoor
