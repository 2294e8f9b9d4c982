/-
  moon: ROUNDING OVER WHOLE NUMBERS (numm): pack is the nearest word. Plain; no memory, no walk.
-/
import Derived.Test.Qxb6500574aGreatDoorWNu4
namespace Go.Proofs.Qxb6500574aGreatDoor
set_option linter.unusedVariables false
set_option linter.unusedSimpArgs false
def infM : Nat := 9218868437227405312
def sgnM : Nat := 9223372036854775808
/-- a whole number cut by drop digits, to the nearest; st: something lies below -/
def rndMZ (n drop : Nat) (st : Bool) : Nat :=
  n / 2 ^ drop + (decide (2 ^ drop < 2 * (n % 2 ^ drop)) || (decide (2 ^ drop = 2 * (n % 2 ^ drop)) && (st || n / 2 ^ drop % 2 == 1))).toNat
def signM (neg : Bool) : Nat := if neg then sgnM else 0
/-- pack -/
def packM (neg : Bool) (man : Nat) (ex : Int) (st : Bool) : Nat :=
  if man = 0 then signM neg
  else
    let top : Int := ex + man.log2
    if 1023 < top then signM neg + infM
    else
      let drop : Nat := if top < -1022 then 11 + (-1022 - top).toNat else 11
      if 64 < drop then signM neg
      else
        let q := rndMZ (man * 2 ^ (63 - man.log2)) drop st
        let r := if top < -1022 then q else (top + 1022).toNat * 4503599627370496 + q
        signM neg + (if infM ≤ r then infM else r)
theorem cut_even (neg : Bool) (n k : Nat) : Ieee.Toward.even.cut neg n k = rndMZ n k false := by
  unfold Ieee.Toward.cut rndMZ
  simp only [Nat.shiftLeft_eq, Nat.one_mul]
  by_cases h : k ≤ n.log2 + 2
  · rw [Nat.min_eq_left h]
    simp only [Bool.false_or]
    rfl
  · rw [Nat.min_eq_right (by omega)]
    have h1 : n < 2 ^ (n.log2 + 1) := Nat.lt_log2_self
    have h2 : (2 : Nat) ^ (n.log2 + 2) = 2 * 2 ^ (n.log2 + 1) := by rw [Nat.pow_succ]; omega
    have h3 : 2 ^ (n.log2 + 2) ≤ 2 ^ k := Nat.pow_le_pow_right (by decide) (by omega)
    have b1 : n / 2 ^ (n.log2 + 2) = 0 := Nat.div_eq_of_lt (by omega)
    have b2 : n % 2 ^ (n.log2 + 2) = n := Nat.mod_eq_of_lt (by omega)
    have b3 : n / 2 ^ k = 0 := Nat.div_eq_of_lt (by omega)
    have b4 : n % 2 ^ k = n := Nat.mod_eq_of_lt (by omega)
    rw [b1, b2, b3, b4]
    have a1 : ¬ (2 ^ (n.log2 + 2) < 2 * n) := by omega
    have a2 : ¬ (2 ^ (n.log2 + 2) = 2 * n) := by omega
    have a3 : ¬ (2 ^ k < 2 * n) := by omega
    have a4 : ¬ (2 ^ k = 2 * n) := by omega
    simp [a1, a2, a3, a4]
theorem log2_div {mag d : Nat} (h : mag / 2 ^ d ≠ 0) : mag.log2 = (mag / 2 ^ d).log2 + d := by
  have h0 : mag ≠ 0 := fun z => by rw [z] at h; simp at h
  refine (Nat.log2_eq_iff h0).2 ⟨?_, ?_⟩
  · have := Nat.log2_self_le h
    rw [Nat.pow_add]
    have h2 := Nat.div_mul_le_self mag (2 ^ d)
    exact Nat.le_trans (Nat.mul_le_mul_right _ this) h2
  · have := Nat.lt_log2_self (n := mag / 2 ^ d)
    rw [show (mag / 2 ^ d).log2 + d + 1 = (mag / 2 ^ d).log2 + 1 + d by omega, Nat.pow_add]
    have h2 := Nat.lt_mul_div_succ mag (b := 2 ^ d) (Nat.pow_pos (by decide))
    have h3 : (mag / 2 ^ d + 1) * 2 ^ d ≤ 2 ^ ((mag / 2 ^ d).log2 + 1) * 2 ^ d := Nat.mul_le_mul_right _ this
    rw [Nat.mul_comm] at h2
    omega
/-- cutting the exact number, and cutting what is held of it -/
theorem rnd_same {man d z b drop ρ : Nat} (hρ : ρ < 2 ^ d) (hb : b + z = d + drop) (hs : ρ = 0 ∨ z + 1 ≤ drop) : rndMZ (man * 2 ^ d + ρ) b false = rndMZ (man * 2 ^ z) drop (decide (ρ ≠ 0)) := by
  -- everything times 2 ^ z
  have pz : 0 < 2 ^ z := Nat.pow_pos (by decide)
  have pd : 0 < 2 ^ d := Nat.pow_pos (by decide)
  have pb : 0 < 2 ^ b := Nat.pow_pos (by decide)
  have pp : 0 < 2 ^ drop := Nat.pow_pos (by decide)
  have e2 : 2 ^ b * 2 ^ z = 2 ^ drop * 2 ^ d := by rw [← Nat.pow_add, ← Nat.pow_add]; congr 1; omega
  generalize hn : man * 2 ^ d + ρ = n
  have hn2 : n * 2 ^ z = man * 2 ^ z * 2 ^ d + ρ * 2 ^ z := by
    rw [← hn, Nat.add_mul]
    congr 1
    rw [Nat.mul_assoc, Nat.mul_comm (2 ^ d), ← Nat.mul_assoc]
  -- the parts of the right side
  generalize hQ : man * 2 ^ z / 2 ^ drop = Q
  generalize hR : man * 2 ^ z % 2 ^ drop = R
  have hQR : man * 2 ^ z = 2 ^ drop * Q + R := by rw [← hQ, ← hR]; exact (Nat.div_add_mod _ _).symm
  have hRl : R < 2 ^ drop := by rw [← hR]; exact Nat.mod_lt _ pp
  -- what lies below keeps within a step
  have key : ρ = 0 ∨ ∃ R', R = R' * 2 ^ z := by
    rcases hs with h | h
    · exact .inl h
    · right
      have e3 : 2 ^ drop = 2 ^ (drop - z) * 2 ^ z := by rw [← Nat.pow_add]; congr 1; omega
      refine ⟨man % 2 ^ (drop - z), ?_⟩
      rw [← hR, e3, Nat.mul_mod_mul_right]
  have hφ : ρ * 2 ^ z < 2 ^ d * 2 ^ z := Nat.mul_lt_mul_of_pos_right hρ pz
  -- the quotient
  have hfit : R * 2 ^ d + ρ * 2 ^ z < 2 ^ drop * 2 ^ d := by
    rcases key with h | ⟨R', h⟩
    · rw [h, Nat.zero_mul, Nat.add_zero]
      exact Nat.mul_lt_mul_of_pos_right hRl pd
    · rcases hs with h0 | h0
      · rw [h0, Nat.zero_mul, Nat.add_zero]
        exact Nat.mul_lt_mul_of_pos_right hRl pd
      · have e3 : 2 ^ drop = 2 ^ (drop - z) * 2 ^ z := by rw [← Nat.pow_add]; congr 1; omega
        have h1 : R' + 1 ≤ 2 ^ (drop - z) := by
          rw [h, e3] at hRl
          exact Nat.lt_of_mul_lt_mul_right hRl
        have h2 : (R' + 1) * 2 ^ z * 2 ^ d ≤ 2 ^ (drop - z) * 2 ^ z * 2 ^ d := Nat.mul_le_mul_right _ (Nat.mul_le_mul_right _ h1)
        rw [← e3] at h2
        have h3 : (R' + 1) * 2 ^ z * 2 ^ d = R * 2 ^ d + 2 ^ d * 2 ^ z := by rw [Nat.add_mul, Nat.add_mul, ← h, Nat.one_mul, Nat.mul_comm (2 ^ z) (2 ^ d)]
        omega
  have hn3 : n * 2 ^ z = 2 ^ drop * 2 ^ d * Q + (R * 2 ^ d + ρ * 2 ^ z) := by
    rw [hn2, hQR, Nat.add_mul, Nat.mul_assoc, Nat.mul_comm Q, ← Nat.mul_assoc]
    omega
  have q1 : n / 2 ^ b = Q := by
    have : n / 2 ^ b = n * 2 ^ z / (2 ^ b * 2 ^ z) := (Nat.mul_div_mul_right _ _ pz).symm
    rw [this, e2, hn3, Nat.mul_add_div (Nat.mul_pos pp pd), Nat.div_eq_of_lt hfit, Nat.add_zero]
  have r1 : n % 2 ^ b * 2 ^ z = R * 2 ^ d + ρ * 2 ^ z := by
    have : n % 2 ^ b * 2 ^ z = n * 2 ^ z % (2 ^ b * 2 ^ z) := (Nat.mul_mod_mul_right _ _ _).symm
    rw [this, e2, hn3, Nat.mul_add_mod, Nat.mod_eq_of_lt hfit]
  unfold rndMZ
  rw [q1, hQ, hR]
  congr 2
  -- the comparisons
  have c1 : (2 ^ b < 2 * (n % 2 ^ b)) ↔ 2 ^ drop * 2 ^ d < 2 * (R * 2 ^ d + ρ * 2 ^ z) := by
    rw [← r1, ← e2, ← Nat.mul_assoc]
    exact (Nat.mul_lt_mul_right pz).symm
  have c2 : (2 ^ b = 2 * (n % 2 ^ b)) ↔ 2 ^ drop * 2 ^ d = 2 * (R * 2 ^ d + ρ * 2 ^ z) := by
    rw [← r1, ← e2, ← Nat.mul_assoc]
    exact ⟨fun h => congrArg (· * 2 ^ z) h, fun h => Nat.eq_of_mul_eq_mul_right pz h⟩
  have c1' : decide (2 ^ b < 2 * (n % 2 ^ b)) = decide (2 ^ drop * 2 ^ d < 2 * (R * 2 ^ d + ρ * 2 ^ z)) := decide_eq_decide.2 c1
  have c2' : decide (2 ^ b = 2 * (n % 2 ^ b)) = decide (2 ^ drop * 2 ^ d = 2 * (R * 2 ^ d + ρ * 2 ^ z)) := decide_eq_decide.2 c2
  rw [c1', c2']
  rcases Nat.lt_trichotomy (2 ^ drop) (2 * R) with h | h | h
  · have : 2 ^ drop * 2 ^ d < 2 * R * 2 ^ d := Nat.mul_lt_mul_of_pos_right h pd
    have h1 : 2 ^ drop * 2 ^ d < 2 * (R * 2 ^ d + ρ * 2 ^ z) := by rw [Nat.mul_add, ← Nat.mul_assoc]; omega
    rw [decide_eq_true h1, decide_eq_true h]
    rfl
  · have e : 2 ^ drop * 2 ^ d = 2 * (R * 2 ^ d) := by rw [h, Nat.mul_assoc]
    by_cases h0 : ρ = 0
    · have h1 : ¬ (2 ^ drop * 2 ^ d < 2 * (R * 2 ^ d + ρ * 2 ^ z)) := by rw [h0, Nat.zero_mul, Nat.add_zero]; omega
      have h2 : 2 ^ drop * 2 ^ d = 2 * (R * 2 ^ d + ρ * 2 ^ z) := by rw [h0, Nat.zero_mul, Nat.add_zero]; exact e
      rw [decide_eq_false h1, decide_eq_true h2, decide_eq_false (by omega : ¬ 2 ^ drop < 2 * R), decide_eq_true h]
      simp [h0]
    · have hp : 0 < ρ * 2 ^ z := Nat.mul_pos (Nat.pos_of_ne_zero h0) pz
      have h1 : 2 ^ drop * 2 ^ d < 2 * (R * 2 ^ d + ρ * 2 ^ z) := by omega
      rw [decide_eq_true h1, decide_eq_false (by omega : ¬ 2 ^ drop < 2 * R), decide_eq_true h]
      simp [h0]
  · have h1 : 2 * (R * 2 ^ d + ρ * 2 ^ z) < 2 ^ drop * 2 ^ d := by
      rcases hs with h0 | h0
      · rw [h0, Nat.zero_mul, Nat.add_zero, ← Nat.mul_assoc]
        exact Nat.mul_lt_mul_of_pos_right h pd
      · rcases key with h2 | ⟨R', h2⟩
        · rw [h2, Nat.zero_mul, Nat.add_zero, ← Nat.mul_assoc]
          exact Nat.mul_lt_mul_of_pos_right h pd
        · have e3 : 2 ^ drop = 2 * 2 ^ (drop - 1 - z) * 2 ^ z := by
            rw [Nat.mul_assoc, ← Nat.pow_add, ← Nat.pow_succ']
            congr 1
            omega
          have h3 : R' + 1 ≤ 2 ^ (drop - 1 - z) := by
            rw [h2, e3] at h
            have h : 2 * (R' * 2 ^ z) < 2 * (2 ^ (drop - 1 - z) * 2 ^ z) := by rw [Nat.mul_assoc] at h; exact h
            have h := Nat.lt_of_mul_lt_mul_left h
            exact Nat.lt_of_mul_lt_mul_right h
          have h4 : 2 * ((R' + 1) * 2 ^ z * 2 ^ d) ≤ 2 * (2 ^ (drop - 1 - z) * 2 ^ z * 2 ^ d) := Nat.mul_le_mul_left _ (Nat.mul_le_mul_right _ (Nat.mul_le_mul_right _ h3))
          have h5 : 2 * (2 ^ (drop - 1 - z) * 2 ^ z * 2 ^ d) = 2 ^ drop * 2 ^ d := by rw [e3, Nat.mul_assoc, Nat.mul_assoc, Nat.mul_assoc]
          have h6 : (R' + 1) * 2 ^ z * 2 ^ d = R * 2 ^ d + 2 ^ d * 2 ^ z := by rw [Nat.add_mul, Nat.add_mul, ← h2, Nat.one_mul, Nat.mul_comm (2 ^ z) (2 ^ d)]
          omega
    rw [decide_eq_false (by omega : ¬ 2 ^ drop * 2 ^ d < 2 * (R * 2 ^ d + ρ * 2 ^ z)), decide_eq_false (by omega : ¬ 2 ^ drop * 2 ^ d = 2 * (R * 2 ^ d + ρ * 2 ^ z)), decide_eq_false (by omega : ¬ 2 ^ drop < 2 * R), decide_eq_false (by omega : ¬ 2 ^ drop = 2 * R)]
    rfl
end Go.Proofs.Qxb6500574aGreatDoor
