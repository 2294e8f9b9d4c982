/-
  moon: WORDS AND THEIR PARTS (numm). Plain; no memory, no walk.
-/
import Derived.Test.Qxb6500574aGreatDoorZN2
namespace Go.Proofs.Qxb6500574aGreatDoor
set_option linter.unusedVariables false
set_option linter.unusedSimpArgs false
def absM (x : Nat) : Nat := x % 9223372036854775808
def negM (x : Nat) : Bool := decide (9223372036854775808 ≤ x)
def isNanM (x : Nat) : Bool := decide (infM < absM x)
def isInfM (x : Nat) : Bool := decide (absM x = infM)
def isZeroM (x : Nat) : Bool := decide (absM x = 0)
/-- parts: of a finite word that is not zero -/
def partsM (x : Nat) : Nat × Int :=
  if x / 4503599627370496 % 2048 = 0 then (x % 4503599627370496, -1074) else (x % 4503599627370496 + 4503599627370496, (x / 4503599627370496 % 2048 : Nat) - 1075)
abbrev u64 (x : Nat) : Prop := x < 18446744073709551616
theorem abs_sgn {x : Nat} (h : u64 x) : x = signM (negM x) + absM x := by
  unfold signM negM absM sgnM
  by_cases z : 9223372036854775808 ≤ x
  · rw [decide_eq_true z]
    simp only [if_true]
    omega
  · rw [decide_eq_false z]
    simp only [Bool.false_eq_true, if_false]
    omega
theorem neg_read {x : Nat} (h : u64 x) : (x / Ieee.double.signWeight % 2 == 1) = negM x := by
  have : Ieee.double.signWeight = 9223372036854775808 := rfl
  rw [this]
  unfold negM
  by_cases z : 9223372036854775808 ≤ x
  · rw [decide_eq_true z]
    have : x / 9223372036854775808 % 2 = 1 := by omega
    rw [this]
    rfl
  · rw [decide_eq_false z]
    have : x / 9223372036854775808 % 2 = 0 := by omega
    rw [this]
    rfl
theorem read_num {x : Nat} (h : u64 x) (hf : absM x < infM) : Ieee.double.read x = .number (negM x) (partsM x).1 (partsM x).2 := by
  unfold Ieee.Format.read
  rw [neg_read h]
  have c1 : Ieee.double.signWeight = 9223372036854775808 := rfl
  have c2 : Ieee.double.leastPlace = -1074 := rfl
  have c3 : Ieee.double.binade = 4503599627370496 := rfl
  have c4 : Ieee.double.infRung = 9218868437227405312 := rfl
  dsimp only
  rw [c1, c2, c3, c4]
  unfold absM infM at hf
  unfold partsM
  by_cases z : x % 9223372036854775808 < 4503599627370496
  · rw [if_pos z, if_pos (by omega)]
    congr 1
    show x % 9223372036854775808 = x % 4503599627370496
    omega
  · rw [if_neg z, if_pos (by omega), if_neg (by omega)]
    congr 1
    · show 4503599627370496 + x % 9223372036854775808 % 4503599627370496 = x % 4503599627370496 + 4503599627370496
      omega
    · show (-1074 : Int) + ((x % 9223372036854775808 / 4503599627370496 - 1 : Nat) : Int) = ((x / 4503599627370496 % 2048 : Nat) : Int) - 1075
      omega
theorem read_inf {x : Nat} (h : u64 x) (hf : absM x = infM) : Ieee.double.read x = .infinity (negM x) := by
  unfold Ieee.Format.read
  rw [neg_read h]
  have c1 : Ieee.double.signWeight = 9223372036854775808 := rfl
  have c3 : Ieee.double.binade = 4503599627370496 := rfl
  have c4 : Ieee.double.infRung = 9218868437227405312 := rfl
  dsimp only
  rw [c1, c3, c4]
  unfold absM infM at hf
  rw [if_neg (by omega), if_neg (by omega), if_pos (by omega)]
theorem readNan {x : Nat} (h : u64 x) (hf : infM < absM x) : ∃ s t, Ieee.double.read x = .nan s t := by
  unfold Ieee.Format.read
  have c1 : Ieee.double.signWeight = 9223372036854775808 := rfl
  have c3 : Ieee.double.binade = 4503599627370496 := rfl
  have c4 : Ieee.double.infRung = 9218868437227405312 := rfl
  dsimp only
  rw [c1, c3, c4]
  unfold absM infM at hf
  rw [if_neg (by omega), if_neg (by omega), if_neg (by omega)]
  exact ⟨_, _, rfl⟩
theorem parts_canon {x : Nat} (h : u64 x) (hf : absM x < infM) (h0 : absM x ≠ 0) : Canon (partsM x).1 (partsM x).2 ∧ bitsOf (partsM x).1 (partsM x).2 = absM x := by
  unfold absM infM at *
  unfold partsM bitsOf
  by_cases z : x / 4503599627370496 % 2048 = 0
  · rw [if_pos z]
    refine ⟨⟨Int.le_refl _, (by decide : (-1074 : Int) ≤ 971), by show x % 4503599627370496 < _; omega, fun q => absurd q (by show ¬ ((-1074 : Int) < -1074); decide), by show x % 4503599627370496 ≠ 0; omega⟩, ?_⟩
    have e : ((-1074 : Int) + 1074).toNat = 0 := by decide
    rw [e, Nat.zero_mul, Nat.add_zero]
    show x % 4503599627370496 = x % 9223372036854775808
    omega
  · rw [if_neg z]
    refine ⟨⟨?_, ?_, ?_, fun _ => ?_, ?_⟩, ?_⟩
    · show (-1074 : Int) ≤ ((x / 4503599627370496 % 2048 : Nat) : Int) - 1075; omega
    · show ((x / 4503599627370496 % 2048 : Nat) : Int) - 1075 ≤ 971; omega
    · show x % 4503599627370496 + 4503599627370496 < _; omega
    · show _ ≤ x % 4503599627370496 + 4503599627370496; omega
    · show x % 4503599627370496 + 4503599627370496 ≠ 0; omega
    · show x % 4503599627370496 + 4503599627370496 + (((x / 4503599627370496 % 2048 : Nat) : Int) - 1075 + 1074).toNat * 4503599627370496 = _
      omega
theorem parts_zero {x : Nat} (h : u64 x) (h0 : absM x = 0) : partsM x = (0, -1074) := by
  unfold absM at h0
  unfold partsM
  rw [if_pos (by omega)]
  congr 1
  omega
theorem near_neg (neg : Bool) (mag : Nat) (place : Int) : Ieee.double.nearest neg mag place = signM neg + Ieee.double.nearest false mag place := by
  unfold Ieee.Format.nearest
  by_cases h : mag = 0
  · rw [if_pos h, if_pos h, word_is, word_is]
    simp [signM]
  · rw [if_neg h, if_neg h]
    dsimp only
    rw [cut_even, cut_even, word_is, word_is]
    simp [signM]
/-- what is read is written again -/
theorem write_read {x : Nat} (h : u64 x) (hf : absM x < infM) : Ieee.double.nearest (negM x) (partsM x).1 (partsM x).2 = x := by
  rw [near_neg]
  by_cases h0 : absM x = 0
  · rw [parts_zero h h0]
    have : Ieee.double.nearest false 0 (-1074) = 0 := rfl
    show signM (negM x) + Ieee.double.nearest false 0 (-1074) = x
    rw [this]
    have := abs_sgn h
    omega
  · obtain ⟨c1, c2⟩ := parts_canon h hf h0
    have := near_exact c1 (.inl ⟨0, by simp, by simp⟩) (mag := (partsM x).1) (place := (partsM x).2)
    have e : Ieee.double.nearest false (partsM x).1 (partsM x).2 = bitsOf (partsM x).1 (partsM x).2 := this
    rw [e, c2]
    exact (abs_sgn h).symm
theorem near_le (neg : Bool) (mag : Nat) (place : Int) : absM (Ieee.double.nearest neg mag place) ≤ infM ∧ u64 (Ieee.double.nearest neg mag place) := by
  rw [near_neg]
  have key : Ieee.double.nearest false mag place ≤ infM := by
    unfold Ieee.Format.nearest
    by_cases h : mag = 0
    · rw [if_pos h, word_is]
      exact Nat.zero_le _
    · rw [if_neg h]
      dsimp only
      rw [word_is]
      show 0 + min _ Ieee.double.infRung ≤ infM
      have : Ieee.double.infRung = infM := rfl
      rw [this]
      omega
  generalize Ieee.double.nearest false mag place = r at key
  unfold absM infM signM sgnM at *
  unfold u64
  cases neg
  · simp only [Bool.false_eq_true, if_false]
    omega
  · simp only [if_true]
    omega
theorem nan_is {x : Nat} (h : u64 x) : isNan x = isNanM x := by
  unfold isNan isNanM fOrd
  have e : FloatKind.f64.format.order x x = (Ieee.double.read x).order (Ieee.double.read x) := rfl
  rw [e]
  rcases Nat.lt_trichotomy (absM x) infM with z | z | z
  · rw [read_num h z, decide_eq_false (by omega)]
    simp [Ieee.Datum.order]
  · rw [read_inf h z, decide_eq_false (by omega)]
    cases negM x <;> simp [Ieee.Datum.order]
  · obtain ⟨s, t, q⟩ := readNan h z
    rw [q, decide_eq_true z]
    simp [Ieee.Datum.order]
theorem bits_near (neg : Bool) (mag : Nat) (place : Int) : bitsN (some (Ieee.double.nearest neg mag place)) = Ieee.double.nearest neg mag place := by
  obtain ⟨h1, h2⟩ := near_le neg mag place
  unfold bitsN
  dsimp only
  rw [nan_is h2]
  unfold isNanM
  rw [decide_eq_false (by omega)]
  simp only [Bool.false_eq_true, if_false]
end Go.Proofs.Qxb6500574aGreatDoor
