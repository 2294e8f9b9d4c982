/-
  moon: A POWER OF TWO (numm.Parse's end). Plain; no memory, no walk.
-/
import Derived.Test.Qxb6500574aGreatDoorZN10
namespace Go.Proofs.Qxb6500574aGreatDoor
set_option linter.unusedVariables false
set_option linter.unusedSimpArgs false
/-- a whole number up to 2^53 as a word -/
theorem int_word {k : Nat} (h0 : k ≠ 0) (hk : k ≤ 9007199254740992) : ∃ (m : Nat) (p : Int), Canon m p ∧ 4503599627370496 ≤ m ∧ -52 ≤ p ∧ p ≤ 1 ∧ fromIntN (k : Int) = bitsOf m p ∧ ∀ (neg : Bool) (q : Int), Ieee.double.nearest neg m (q + p) = Ieee.double.nearest neg k q := by
  have hn : fromIntN (k : Int) = Ieee.double.nearest false k 0 := by
    have := near_sg (s := false) h0 (by omega)
    exact this
  by_cases he : k = 9007199254740992
  · subst he
    refine ⟨4503599627370496, 1, ⟨by decide, by decide, by decide, fun _ => by decide, by decide⟩, Nat.le_refl _, by decide, by decide, by decide, fun neg q => ?_⟩
    have := near_scale neg 4503599627370496 1 q (by decide)
    have e : (4503599627370496 : Nat) * 2 ^ 1 = 9007199254740992 := by decide
    rw [e] at this
    exact this.symm
  · obtain ⟨c, sv⟩ := canon_int h0 (by omega)
    have hl : k.log2 ≤ 52 := by
      have := (Nat.log2_lt h0).2 (show k < 2 ^ 53 by have : (2 : Nat) ^ 53 = 9007199254740992 := (by decide); omega)
      omega
    refine ⟨_, _, c, ?_, by omega, by omega, ?_, fun neg q => ?_⟩
    · have h1 := Nat.log2_self_le h0
      have h2 : 2 ^ k.log2 * 2 ^ (52 - k.log2) ≤ k * 2 ^ (52 - k.log2) := Nat.mul_le_mul_right _ h1
      rw [← Nat.pow_add, show k.log2 + (52 - k.log2) = 52 by omega] at h2
      have : (2 : Nat) ^ 52 = 4503599627370496 := by decide
      omega
    · exact fromInt_can h0 (by omega)
    · rw [near_scale neg k _ _ (by omega)]
      congr 1
      omega
theorem ldexp_word {m : Nat} {p ex : Int} (c : Canon m p) (hn : 4503599627370496 ≤ m) : ldexpN (bitsOf m p) ex = Ieee.double.nearest false m (ex + p) := by
  have hlt := c.lt
  have hlo := c.lo
  have hhi := c.hi
  have hrd : FloatKind.f64.decode (bitsOf m p) = .number false m p := read_bits c
  have hbl : bitsOf m p < 9218868437227405312 := by
    unfold bitsOf
    have : (p + 1074).toNat ≤ 2045 := by omega
    have := Nat.mul_le_mul_right 4503599627370496 this
    omega
  have e63 : (2 : Nat) ^ 63 = 9223372036854775808 := by decide
  have e52 : (2 : Nat) ^ 52 = 4503599627370496 := by decide
  have hx63 : bitsOf m p % 2 ^ 63 = bitsOf m p := Nat.mod_eq_of_lt (by omega)
  have hd63 : bitsOf m p / 2 ^ 63 = 0 := Nat.div_eq_of_lt (by omega)
  unfold ldexpN
  rw [fin_0 hrd c]
  simp only [Bool.false_eq_true, if_false]
  rw [hx63, fin_max hrd c]
  simp only [Bool.false_eq_true, if_false]
  rw [fin_norm hrd c hn]
  simp only [Bool.false_eq_true, if_false]
  rw [hd63]
  simp only [Nat.zero_mul, Nat.zero_add]
  have hexp : bitsOf m p / 2 ^ 52 % 2048 = (p + 1075).toNat := by
    rw [e52]
    unfold bitsOf
    omega
  have hfr : bitsOf m p % 2 ^ 52 = m - 4503599627370496 := by
    rw [e52]
    unfold bitsOf
    omega
  rw [hexp, hfr]
  have hlog : m.log2 = 52 := by
    have h1 : m.log2 < 53 := (Nat.log2_lt c.nz).2 (by have : (2 : Nat) ^ 53 = 9007199254740992 := (by decide); omega)
    have h2 : 52 ≤ m.log2 := (Nat.le_log2 c.nz).2 (by omega)
    omega
  generalize he : ex + 0 + (((p + 1075).toNat : Nat) : Int) - 1023 = e
  have het : ex + p + 52 = e := by omega
  have hpk := pack_exact false (man := m) (ex := ex + p) (by have : (2 : Nat) ^ 64 = 18446744073709551616 := (by decide); omega)
  have hs0 : signM false = 0 := rfl
  by_cases h1 : e < -1075
  · rw [if_pos h1, ← hpk]
    unfold packM
    rw [if_neg c.nz, hlog]
    dsimp only
    rw [if_neg (show ¬ 1023 < ex + p + ((52 : Nat) : Int) by omega), if_pos (show ex + p + ((52 : Nat) : Int) < -1022 by omega), if_pos (show 64 < 11 + (-1022 - (ex + p + ((52 : Nat) : Int))).toNat by omega), hs0]
  · rw [if_neg h1]
    by_cases h2 : e > 1023
    · have hlt0 : (fOrd (bitsOf m p) 0 == some .lt) = false := by
        have u : u64 (bitsOf m p) := by unfold u64; omega
        have hna : isNanM (bitsOf m p) = false := by
          refine decide_eq_false ?_
          unfold absM infM
          omega
        rw [ord_ok u (by decide) hna (by decide)]
        have hk : keyM (bitsOf m p) = (bitsOf m p : Int) := by
          unfold keyM negM absM
          rw [decide_eq_false (by omega)]
          simp only [Bool.false_eq_true, if_false]
          rw [Nat.mod_eq_of_lt (by omega)]
        have hk0 : keyM 0 = 0 := by decide
        rw [hk, hk0]
        have hpos : 0 < bitsOf m p := by unfold bitsOf; have := c.nz; omega
        rw [int_cmp_gt (Int.natCast_pos.2 hpos)]
        decide
      rw [if_pos h2, hlt0, ← hpk]
      unfold packM
      rw [if_neg c.nz, hlog]
      dsimp only
      rw [if_pos (show 1023 < ex + p + ((52 : Nat) : Int) by omega), hs0, Nat.zero_add]
      simp only [Bool.false_eq_true, if_false, infM]
    · rw [if_neg h2]
      -- the number with another place
      have hy : ∀ z : Int, -1022 ≤ z → z ≤ 1023 → FloatKind.f64.format.read ((z + 1023).toNat * 2 ^ 52 + (m - 4503599627370496)) = .number false m (z - 52) := fun z z1 z2 => by
        rw [e52]
        have c' : Canon m (z - 52) := ⟨by omega, by omega, c.lt, fun _ => hn, c.nz⟩
        have := read_bits c'
        have eb : bitsOf m (z - 52) = (z + 1023).toNat * 4503599627370496 + (m - 4503599627370496) := by
          unfold bitsOf
          have : (z - 52 + 1074).toNat + 1 = (z + 1023).toNat := by omega
          rw [← this, Nat.add_mul]
          omega
        rw [eb] at this
        exact this
      by_cases h3 : e < -1022
      · rw [if_pos h3]
        simp only
        have hr := hy (e + 53) (by omega) (by omega)
        have ht : FloatKind.f64.format.read 4368491638549381120 = .number false 4503599627370496 (-105) := dec_tiny
        have : FloatKind.f64.format.mul 4368491638549381120 ((e + 53 + 1023).toNat * 2 ^ 52 + (m - 4503599627370496)) = some (Ieee.double.nearest false (4503599627370496 * m) (-105 + (e + 53 - 52))) := by
          unfold Ieee.Format.mul
          rw [hr, ht]
          rfl
        rw [this, Option.getD_some]
        have e4 : 4503599627370496 * m = m * 2 ^ 52 := by rw [e52, Nat.mul_comm]
        rw [e4, near_scale false m 52 _ (by have : (2 : Nat) ^ 64 = 18446744073709551616 := (by decide); omega)]
        have e5 : -105 + (e + 53 - 52) + ((52 : Nat) : Int) = ex + p := by omega
        rw [e5]
      · rw [if_neg h3]
        simp only
        have hr := hy e (by omega) (by omega)
        have ht : FloatKind.f64.format.read 4607182418800017408 = .number false 4503599627370496 (-52) := dec_one
        have : FloatKind.f64.format.mul 4607182418800017408 ((e + 1023).toNat * 2 ^ 52 + (m - 4503599627370496)) = some (Ieee.double.nearest false (4503599627370496 * m) (-52 + (e - 52))) := by
          unfold Ieee.Format.mul
          rw [hr, ht]
          rfl
        rw [this, Option.getD_some]
        have e4 : 4503599627370496 * m = m * 2 ^ 52 := by rw [e52, Nat.mul_comm]
        rw [e4, near_scale false m 52 _ (by have : (2 : Nat) ^ 64 = 18446744073709551616 := (by decide); omega)]
        have e5 : -52 + (e - 52) + ((52 : Nat) : Int) = ex + p := by omega
        rw [e5]
/-- m p e -/
theorem ldexp_ok {k : Nat} (hk : k ≤ 9007199254740992) (e : Int) : ldexpN (fromIntN (k : Int)) e = Ieee.double.nearest false k e := by
  by_cases h0 : k = 0
  · subst h0
    have : fromIntN ((0 : Nat) : Int) = 0 := by decide
    rw [this]
    unfold ldexpN
    have : (fOrd 0 0 == some Ordering.eq) = true := by decide
    rw [if_pos this]
    rfl
  · obtain ⟨m, p, c, h1, _, _, h2, h3⟩ := int_word h0 hk
    rw [h2, ldexp_word c h1, h3]
end Go.Proofs.Qxb6500574aGreatDoor
