/-
  moon: PACK IS THE NEAREST WORD. Plain; no memory, no walk.
-/
import Derived.Test.Qxb6500574aGreatDoorZN1
namespace Go.Proofs.Qxb6500574aGreatDoor
set_option linter.unusedVariables false
set_option linter.unusedSimpArgs false
theorem rnd_mul (x drop : Nat) (st : Bool) : rndMZ (x * 2 ^ drop) drop st = x := by
  have pp : 0 < 2 ^ drop := Nat.pow_pos (by decide)
  unfold rndMZ
  rw [Nat.mul_div_cancel _ pp, Nat.mul_mod_left]
  have a1 : ¬ (2 ^ drop < 2 * 0) := by omega
  have a2 : ¬ (2 ^ drop = 2 * 0) := by omega
  simp [a1, a2]
theorem word_is (neg : Bool) (r : Nat) : Ieee.double.word neg r = signM neg + r := by
  unfold Ieee.Format.word signM
  have : Ieee.double.signWeight = sgnM := rfl
  rw [this]
  cases neg <;> simp
theorem rnd_le (n drop : Nat) (st : Bool) : n / 2 ^ drop ≤ rndMZ n drop st := by unfold rndMZ; omega
/-- PACK: of a number held to its last 53 digits at least, with a mark for what lies below -/
theorem pack_ok (neg : Bool) {mag d : Nat} {place : Int} (h0 : mag / 2 ^ d ≠ 0) (h64 : mag / 2 ^ d < 2 ^ 64) (hst : mag % 2 ^ d ≠ 0 → 2 ^ 53 ≤ mag / 2 ^ d) : packM neg (mag / 2 ^ d) (place + d) (decide (mag % 2 ^ d ≠ 0)) = Ieee.double.nearest neg mag place := by
  have hlog := log2_div h0
  have hm0 : mag ≠ 0 := fun z => by rw [z] at h0; simp at h0
  have hmag : mag = mag / 2 ^ d * 2 ^ d + mag % 2 ^ d := by rw [Nat.mul_comm]; exact (Nat.div_add_mod _ _).symm
  have hρ : mag % 2 ^ d < 2 ^ d := Nat.mod_lt _ (Nat.pow_pos (by decide))
  generalize mag / 2 ^ d = man at *
  generalize mag % 2 ^ d = ρ at *
  have hl63 : man.log2 < 64 := (Nat.log2_lt h0).2 h64
  have hl53 : ρ ≠ 0 → 53 ≤ man.log2 := fun z => (Nat.le_log2 h0).2 (hst z)
  have hself := Nat.log2_self_le h0
  have hself2 := Nat.lt_log2_self (n := man)
  unfold packM Ieee.Format.nearest
  rw [if_neg h0, if_neg hm0]
  have c1 : Ieee.double.fractionBits = 52 := rfl
  have c2 : Ieee.double.leastPlace = -1074 := rfl
  have c3 : Ieee.double.binade = 4503599627370496 := rfl
  have c4 : Ieee.double.infRung = infM := rfl
  dsimp only
  rw [c1, c2, c3, c4, hlog, cut_even, word_is, Nat.shiftLeft_eq]
  generalize man.log2 = l at *
  -- the places
  generalize hdrop : (if place + (d : Int) + l < -1022 then 11 + (-1022 - (place + d + l)).toNat else 11) = drop
  have hd11 : 11 ≤ drop := by rw [← hdrop]; split <;> omega
  have hlast : max (place + ((l + d : Nat) : Int) - ((52 : Nat) : Int)) (-1074) = place + d + l - 63 + drop := by
    rw [← hdrop]
    split <;> omega
  rw [hlast]
  -- the digits
  have hkept : rndMZ (mag * 2 ^ (place - (place + d + l - 63 + drop)).toNat) ((place + d + l - 63 + drop - place)).toNat false = rndMZ (man * 2 ^ (63 - l)) drop (decide (ρ ≠ 0)) := by
    by_cases hp : place ≤ place + d + l - 63 + drop
    · have ea : (place - (place + d + l - 63 + drop)).toNat = 0 := by omega
      rw [ea, Nat.pow_zero, Nat.mul_one, hmag]
      refine rnd_same hρ (by omega) ?_
      by_cases hz : ρ = 0
      · exact .inl hz
      · have := hl53 hz
        exact .inr (by omega)
    · have eb : (place + d + l - 63 + drop - place).toNat = 0 := by omega
      have hz : ρ = 0 := by
        refine Classical.byContradiction fun z => ?_
        have := hl53 z
        omega
      rw [eb]
      have e1 : rndMZ (mag * 2 ^ (place - (place + d + l - 63 + drop)).toNat) 0 false = mag * 2 ^ (place - (place + d + l - 63 + drop)).toNat := by
        have := rnd_mul (mag * 2 ^ (place - (place + d + l - 63 + drop)).toNat) 0 false
        rw [Nat.pow_zero, Nat.mul_one] at this
        exact this
      rw [e1]
      have e2 : man * 2 ^ (63 - l) = mag * 2 ^ (place - (place + d + l - 63 + drop)).toNat * 2 ^ drop := by
        rw [hmag, hz, Nat.add_zero, Nat.mul_assoc, Nat.mul_assoc, ← Nat.pow_add, ← Nat.pow_add]
        congr 2
        omega
      rw [e2, rnd_mul]
  rw [hkept]
  have hrung : ((place + d + l - 63 + drop - (-1074)).toNat) * 4503599627370496 = if place + (d : Int) + l < -1022 then 0 else (place + d + l + 1022).toNat * 4503599627370496 := by
    rw [← hdrop]
    split
    · have : (place + d + l - 63 + ((11 + (-1022 - (place + d + l)).toNat : Nat) : Int) - (-1074)).toNat = 0 := by omega
      rw [this, Nat.zero_mul]
    · have : (place + d + l - 63 + ((11 : Nat) : Int) - (-1074)).toNat = (place + d + l + 1022).toNat := by omega
      rw [this]
  rw [hrung]
  by_cases ht : 1023 < place + (d : Int) + l
  · rw [if_pos ht, if_neg (by omega)]
    have hd : drop = 11 := by rw [← hdrop, if_neg (by omega)]
    have hq : 4503599627370496 ≤ rndMZ (man * 2 ^ (63 - l)) drop (decide (ρ ≠ 0)) := by
      refine Nat.le_trans ?_ (rnd_le _ _ _)
      rw [hd]
      have : 2 ^ 63 ≤ man * 2 ^ (63 - l) := by
        have e : (2 : Nat) ^ 63 = 2 ^ l * 2 ^ (63 - l) := by rw [← Nat.pow_add]; congr 1; omega
        rw [e]
        exact Nat.mul_le_mul_right _ hself
      rw [Nat.le_div_iff_mul_le (by decide)]
      omega
    have hb : (2046 : Nat) ≤ (place + d + l + 1022).toNat := by omega
    have : min ((place + (d : Int) + l + 1022).toNat * 4503599627370496 + rndMZ (man * 2 ^ (63 - l)) drop (decide (ρ ≠ 0))) infM = infM := by
      refine Nat.min_eq_right ?_
      unfold infM
      have := Nat.mul_le_mul_right 4503599627370496 hb
      omega
    rw [this]
  · rw [if_neg ht]
    by_cases h65 : 64 < drop
    · rw [if_pos h65]
      have hlo : place + (d : Int) + l < -1022 := by
        refine Classical.byContradiction fun z => ?_
        rw [if_neg z] at hdrop
        omega
      rw [if_pos hlo, Nat.zero_add]
      have hn : man * 2 ^ (63 - l) < 2 ^ 64 := by
        have e : (2 : Nat) ^ 64 = 2 ^ (l + 1) * 2 ^ (63 - l) := by rw [← Nat.pow_add]; congr 1; omega
        rw [e]
        exact Nat.mul_lt_mul_of_pos_right hself2 (Nat.pow_pos (by decide))
      have hp : 2 * 2 ^ 64 ≤ 2 ^ drop := by
        have : (2 : Nat) * 2 ^ 64 = 2 ^ 65 := by decide
        rw [this]
        exact Nat.pow_le_pow_right (by decide) (by omega)
      have : rndMZ (man * 2 ^ (63 - l)) drop (decide (ρ ≠ 0)) = 0 := by
        unfold rndMZ
        rw [Nat.div_eq_of_lt (by omega), Nat.mod_eq_of_lt (by omega), decide_eq_false (by omega : ¬ 2 ^ drop < 2 * (man * 2 ^ (63 - l))), decide_eq_false (by omega : ¬ 2 ^ drop = 2 * (man * 2 ^ (63 - l)))]
        rfl
      rw [this]
      simp
    · rw [if_neg h65]
      congr 1
      by_cases hlo : place + (d : Int) + l < -1022
      · rw [if_pos hlo, if_pos hlo, Nat.zero_add]
        split
        · rw [Nat.min_eq_right (by assumption)]
        · rw [Nat.min_eq_left (by omega)]
      · rw [if_neg hlo, if_neg hlo]
        split
        · rw [Nat.min_eq_right (by assumption)]
        · rw [Nat.min_eq_left (by omega)]
theorem pack_zero (neg : Bool) (ex : Int) (st : Bool) (place : Int) : packM neg 0 ex st = Ieee.double.nearest neg 0 place := by
  unfold packM Ieee.Format.nearest
  rw [if_pos rfl, if_pos rfl, word_is, Nat.add_zero]
/-- nothing below -/
theorem pack_exact (neg : Bool) {man : Nat} {ex : Int} (h64 : man < 2 ^ 64) : packM neg man ex false = Ieee.double.nearest neg man ex := by
  by_cases h0 : man = 0
  · subst h0
    exact pack_zero neg ex false ex
  · have := pack_ok neg (mag := man) (d := 0) (place := ex) (by simpa using h0) (by simpa using h64) (by simp [Nat.mod_one])
    simpa [Nat.mod_one] using this
/-- the value alone counts -/
theorem near_scale (neg : Bool) (m k : Nat) (p : Int) (h : m < 2 ^ 64) : Ieee.double.nearest neg (m * 2 ^ k) p = Ieee.double.nearest neg m (p + k) := by
  by_cases h0 : m = 0
  · subst h0
    rw [Nat.zero_mul]
    unfold Ieee.Format.nearest
    rw [if_pos rfl, if_pos rfl]
  · have pk : 0 < 2 ^ k := Nat.pow_pos (by decide)
    have e : m * 2 ^ k / 2 ^ k = m := Nat.mul_div_cancel _ pk
    have e2 : m * 2 ^ k % 2 ^ k = 0 := Nat.mul_mod_left _ _
    have := pack_ok neg (mag := m * 2 ^ k) (d := k) (place := p) (by rw [e]; exact h0) (by rw [e]; exact h) (by rw [e2]; intro z; exact absurd rfl z)
    rw [e, e2] at this
    rw [← this]
    simpa using pack_exact neg (ex := p + k) h
end Go.Proofs.Qxb6500574aGreatDoor
