/-
  moon: Format, plain: the sign, the whole numbers, the trailing zeros. No memory, no walk.
-/
import Derived.Test.Qxb6500574aGreatDoorVLawN
namespace Go.Proofs.Qxb6500574aGreatDoor
open Go
set_option linter.unusedVariables false
set_option linter.unusedSimpArgs false

theorem xor63 {x : Nat} (h1 : x < 18446744073709551616) (h2 : x / 2 ^ 63 ≠ 0) : x ^^^ 2 ^ 63 = x % 2 ^ 63 := by
  have e1 := xor_read h1
  have e2 : (x ^^^ 2 ^ 63) / 2 ^ 63 = x / 2 ^ 63 ^^^ (2 ^ 63 / 2 ^ 63) := Nat.xor_div_two_pow
  have e3 : x / 2 ^ 63 = 1 := by omega
  rw [e3] at e2
  have e4 : (x ^^^ 2 ^ 63) / 2 ^ 63 = 0 := by rw [e2]; decide
  omega
theorem read_sign {a : Nat} (h : a < 9223372036854775808) {s : Bool} {m : Nat} {p : Int} (hd : FloatKind.f64.decode a = .number s m p) : s = false := by
  have e : FloatKind.f64.decode a = Ieee.double.read a := rfl
  have hsw : Ieee.double.signWeight = 9223372036854775808 := rfl
  rw [e] at hd
  unfold Ieee.Format.read at hd
  simp only [hsw] at hd
  have hz : a / 9223372036854775808 % 2 = 0 := by omega
  rw [hz] at hd
  split at hd
  · cases hd; rfl
  · split at hd
    · cases hd; rfl
    · split at hd <;> cases hd
theorem read_signI {a : Nat} (h : a < 9223372036854775808) {s : Bool} (hd : FloatKind.f64.decode a = .infinity s) : s = false := by
  have e : FloatKind.f64.decode a = Ieee.double.read a := rfl
  have hsw : Ieee.double.signWeight = 9223372036854775808 := rfl
  rw [e] at hd
  unfold Ieee.Format.read at hd
  simp only [hsw] at hd
  have hz : a / 9223372036854775808 % 2 = 0 := by omega
  rw [hz] at hd
  split at hd
  · cases hd
  · split at hd
    · cases hd
    · split at hd
      · cases hd; rfl
      · cases hd
theorem toInt_whole {a : Nat} (h : a < 9223372036854775808) (h2 : fOrd a two53 = some .lt) : ∃ n : Nat, (FloatKind.f64.decode a).toInt .zero = some (n : Int) ∧ n ≤ 9007199254740992 := by
  have h1 : fOrd a minus53 = some .gt := by
    have e1 : fOrd a minus53 = (FloatKind.f64.decode a).order (.number true 4503599627370496 1) := by rw [← dec_minus53]; rfl
    have e2 : fOrd a two53 = (FloatKind.f64.decode a).order (.number false 4503599627370496 1) := by rw [← dec_two53]; rfl
    rw [e2] at h2
    rw [e1]
    cases hd : FloatKind.f64.decode a with
    | nan s t => rw [hd] at h2; simp [Ieee.Datum.order] at h2
    | infinity s =>
      have := read_signI h hd
      subst this
      rw [hd] at h2
      simp [Ieee.Datum.order] at h2
    | number s m p =>
      have := read_sign h hd
      subst this
      simp only [Ieee.Datum.order, Ieee.signed]
      have hs : (0 : Nat) < 4503599627370496 <<< (1 - min p 1).toNat := by
        rw [Nat.shiftLeft_eq]
        exact Nat.mul_pos (by decide) (Nat.two_pow_pos _)
      have : compare ((m <<< (p - min p 1).toNat : Nat) : Int) (-((4503599627370496 <<< (1 - min p 1).toNat : Nat) : Int)) = .gt := by
        rw [Int.compare_eq_gt]
        generalize m <<< (p - min p 1).toNat = X
        generalize 4503599627370496 <<< (1 - min p 1).toNat = Y at hs ⊢
        omega
      simp only [Bool.false_eq_true, if_false, if_true]
      rw [this]
  obtain ⟨i, hi, lo, hh⟩ := toInt_in (.inl h1) (.inl h2)
  have hi0 : 0 ≤ i := by
    cases hd : FloatKind.f64.decode a with
    | nan s t => rw [hd] at hi; simp [Ieee.Datum.toInt, Ieee.Datum.integral] at hi
    | infinity s => rw [hd] at hi; simp [Ieee.Datum.toInt, Ieee.Datum.integral] at hi
    | number s m p =>
      have := read_sign h hd
      subst this
      rw [hd] at hi
      simp [Ieee.Datum.toInt, Ieee.Datum.integral, Ieee.signed] at hi
      omega
  exact ⟨i.toNat, by rw [hi]; congr 1; omega, by omega⟩
theorem zero_whole : fOrd 0 two53 = some .lt ∧ fOrd 0 (floorN 0) = some .eq := by decide
theorem trail_step {m t : Nat} (ht : t < 53) (h : m / 2 ^ t % 2 = 0) : trail (53 - t) (m / 2 ^ t) = trail (53 - (t + 1)) (m / 2 ^ (t + 1)) + 1 := by
  obtain ⟨k, hk⟩ : ∃ k, 53 - t = k + 1 := ⟨52 - t, by omega⟩
  rw [hk, show 53 - (t + 1) = k by omega]
  conv => lhs; unfold trail
  rw [if_neg (by omega), Nat.div_div_eq_div_mul, Nat.pow_succ]
theorem trail_end {m t : Nat} (ht : t < 53) (h : m / 2 ^ t % 2 = 1) : trail (53 - t) (m / 2 ^ t) = 0 := by
  obtain ⟨k, hk⟩ : ∃ k, 53 - t = k + 1 := ⟨52 - t, by omega⟩
  rw [hk]
  unfold trail
  rw [if_pos h]
theorem and_bit0 {m t : Nat} (h : m / 2 ^ t % 2 = 0) : m &&& 2 ^ t = 0 := by
  apply Nat.eq_of_testBit_eq
  intro j
  rw [Nat.testBit_and, Nat.testBit_two_pow, Nat.zero_testBit]
  by_cases e : t = j
  · subst e
    have : m.testBit t = false := by rw [Nat.testBit_eq_decide_div_mod_eq]; simp [h]
    simp [this]
  · simp [e]
theorem and_bit1 {m t : Nat} (h : m / 2 ^ t % 2 = 1) : m &&& 2 ^ t ≠ 0 := by
  intro e
  have h1 : (m &&& 2 ^ t).testBit t = true := by
    rw [Nat.testBit_and, Nat.testBit_two_pow, Nat.testBit_eq_decide_div_mod_eq]
    simp [h]
  rw [e, Nat.zero_testBit] at h1
  cases h1
theorem mask52 {x : Nat} (hx : x < 18446744073709551616) : x &&& (18446744073709551615 ^^^ x / 4503599627370496 * 4503599627370496) = x % 4503599627370496 := by
  apply Nat.eq_of_testBit_eq
  intro j
  have e1 : x / 4503599627370496 * 4503599627370496 = (x >>> 52) <<< 52 := by rw [Nat.shiftRight_eq_div_pow, Nat.shiftLeft_eq]
  have e2 : (18446744073709551615 : Nat) = 2 ^ 64 - 1 := by decide
  have e3 : (4503599627370496 : Nat) = 2 ^ 52 := by decide
  rw [e1, e2, e3, Nat.testBit_and, Nat.testBit_xor, Nat.testBit_two_pow_sub_one, Nat.testBit_shiftLeft, Nat.testBit_shiftRight, Nat.testBit_mod_two_pow]
  by_cases h52 : 52 ≤ j
  · have : ¬ j < 52 := by omega
    rw [show 52 + (j - 52) = j by omega]
    by_cases h64 : j < 64
    · simp [h52, this, h64]
    · have hz : x.testBit j = false := Nat.testBit_lt_two_pow (Nat.lt_of_lt_of_le hx (by have : 2 ^ 64 ≤ 2 ^ j := Nat.pow_le_pow_right (by omega) (by omega); omega))
      simp [hz]
  · have h1 : j < 52 := by omega
    have h2 : j < 64 := by omega
    simp [h52, h1, h2]
theorem and2047 (y : Nat) : y &&& 2047 = y % 2048 := Nat.and_two_pow_sub_one_eq_mod y 11
theorem or52 {y : Nat} (h : y < 4503599627370496) : y ||| 4503599627370496 = y + 4503599627370496 := by
  have := Nat.two_pow_add_eq_or_of_lt (i := 52) (b := y) h 1
  rw [Nat.mul_one] at this
  rw [Nat.or_comm, show (4503599627370496 : Nat) = 2 ^ 52 by decide, ← this]
  omega
theorem fmtN_other {x : Nat} (hx : x < 18446744073709551616) (hn : isNan x = false) (h2 : (fOrd x maxFin == some .gt) = false) (h3 : (fOrd x (maxFin + 2 ^ 63) == some .lt) = false) (hw : ¬ (fOrd (x % 2 ^ 63) two53 = some .lt ∧ fOrd (x % 2 ^ 63) (floorN (x % 2 ^ 63)) = some .eq)) {M t : Nat} {E : Int} (hM : M = if x / 4503599627370496 % 2048 = 0 then x % 4503599627370496 else x % 4503599627370496 + 4503599627370496) (hE : E = if x / 4503599627370496 % 2048 = 0 then -1074 else ((x / 4503599627370496 % 2048 : Nat) : Int) - 1075) (ht : trail 53 M = t) :
    fmtN x = (if x / 2 ^ 63 = 0 then ([] : Bs) else [45]) ++ decN (M / 2 ^ t) ++ [112] ++ (if E + t < 0 then [45] else []) ++ decN (E + t).natAbs := by
  have he : x % 2 ^ 63 / 2 ^ 52 = x / 4503599627370496 % 2048 := by omega
  have hm : x % 2 ^ 52 = x % 4503599627370496 := rfl
  unfold fmtN
  rw [if_neg (by rw [hn]; decide), if_neg (by rw [h2]; decide), if_neg (by rw [h3]; decide)]
  dsimp only
  rw [if_neg (by
    intro h
    simp only [Bool.and_eq_true, beq_iff_eq] at h
    exact hw h)]
  rw [he]
  by_cases h0 : x / 4503599627370496 % 2048 = 0
  · rw [if_pos h0] at hM hE ⊢
    rw [if_pos h0] 
    rw [← hm] at hM
    rw [← hM, ht, ← hE]
  · rw [if_neg h0] at hM hE ⊢
    rw [if_neg h0]
    rw [← hm] at hM
    rw [show x % 2 ^ 52 + 2 ^ 52 = M from hM.symm, ht, show (Int.ofNat (x / 4503599627370496 % 2048) - 1075 : Int) = E from hE.symm]
end Go.Proofs.Qxb6500574aGreatDoor
