/-
  NUMBERS, PLAIN: Parse of Format. No program.
-/
import Derived.Test.Qxb6500574aGreatDoorWNu2
namespace Go.Proofs.Qxb6500574aGreatDoor
open Go
set_option linter.unusedVariables false
/-- a whole number's least form -/
theorem canon_int {k : Nat} (h0 : k ≠ 0) (hk : k < 9007199254740992) : Canon (k * 2 ^ (52 - k.log2)) ((k.log2 : Int) - 52) ∧ SameV (k * 2 ^ (52 - k.log2)) ((k.log2 : Int) - 52) k 0 := by
  have hl : k.log2 < 53 := (Nat.log2_lt h0).2 hk
  have h1 := Nat.log2_self_le h0
  have h2 := @Nat.lt_log2_self k
  have e52 : (4503599627370496 : Nat) = 2 ^ k.log2 * 2 ^ (52 - k.log2) := by rw [← Nat.pow_add, show k.log2 + (52 - k.log2) = 52 by omega]
  have e53 : (9007199254740992 : Nat) = 2 ^ (k.log2 + 1) * 2 ^ (52 - k.log2) := by rw [← Nat.pow_add, show k.log2 + 1 + (52 - k.log2) = 53 by omega]
  have hp : 0 < 2 ^ (52 - k.log2) := Nat.two_pow_pos _
  refine ⟨⟨by omega, by omega, ?_, fun _ => ?_, Nat.mul_ne_zero h0 (by omega)⟩, .inr ⟨52 - k.log2, by omega, rfl⟩⟩
  · rw [e53]; exact Nat.mul_lt_mul_of_pos_right h2 hp
  · rw [e52]; exact Nat.mul_le_mul_right _ h1
theorem fromInt_nat (k : Nat) : fromIntN (k : Int) = FloatKind.f64.encode (.number false k 0) := by
  unfold fromIntN FloatKind.nearest
  rw [decide_eq_false (by omega : ¬ (k : Int) < 0)]
  rfl
theorem fromInt_can {k : Nat} (h0 : k ≠ 0) (hk : k < 9007199254740992) : fromIntN (k : Int) = bitsOf (k * 2 ^ (52 - k.log2)) ((k.log2 : Int) - 52) := by
  rw [fromInt_nat]
  exact near_exact (canon_int h0 hk).1 (canon_int h0 hk).2
/-- Ldexp of an odd part -/
theorem ldexp_back {m k t : Nat} {p : Int} (h : Canon m p) (hk0 : k ≠ 0) (hk : m = k * 2 ^ t) : ldexpN (fromIntN (k : Int)) (p + t) = bitsOf m p := by
  have hpt : 0 < 2 ^ t := Nat.two_pow_pos t
  have hkm : k ≤ m := by rw [hk]; exact Nat.le_mul_of_pos_right _ hpt
  have hm := h.lt
  have hL := h.log
  have hlo := h.lo
  have hhi := h.hi
  have hlog : m.log2 = k.log2 + t := by rw [hk]; exact log2_pow hk0 t
  obtain ⟨c1, v1⟩ := canon_int hk0 (by omega)
  rw [fromInt_can hk0 (by omega)]
  generalize hM : k * 2 ^ (52 - k.log2) = M at *
  have hM1 : 4503599627370496 ≤ M := by
    rw [← hM]
    have h1 := Nat.log2_self_le hk0
    have e52 : (4503599627370496 : Nat) = 2 ^ k.log2 * 2 ^ (52 - k.log2) := by rw [← Nat.pow_add, show k.log2 + (52 - k.log2) = 52 by omega]
    rw [e52]
    exact Nat.mul_le_mul_right _ h1
  have hM2 := c1.lt
  have rd := read_bits c1
  have f1 := fin_0 rd c1
  have f2 := fin_max rd c1
  have f3 := fin_norm rd c1 hM1
  have hbits : bitsOf M ((k.log2 : Int) - 52) = M + (k.log2 + 1022) * 4503599627370496 := by unfold bitsOf; rw [show ((k.log2 : Int) - 52 + 1074).toNat = k.log2 + 1022 by omega]
  generalize hA : bitsOf M ((k.log2 : Int) - 52) = A at *
  have e63 : (2 : Nat) ^ 63 = 9223372036854775808 := by rfl
  have e52 : (2 : Nat) ^ 52 = 4503599627370496 := by rfl
  have hA63 : A % 2 ^ 63 = A := by rw [e63]; exact Nat.mod_eq_of_lt (by omega)
  have hA0 : A / 2 ^ 63 = 0 := by rw [e63]; exact Nat.div_eq_of_lt (by omega)
  have hAe : A / 2 ^ 52 % 2048 = k.log2 + 1023 := by rw [e52]; omega
  have hAm : A % 2 ^ 52 = M - 4503599627370496 := by rw [e52]; omega
  unfold ldexpN
  rw [f1, if_neg (by simp), hA63, f2, if_neg (by simp)]
  simp only [f3, Bool.false_eq_true, if_false, hA0, hAe, hAm, Nat.zero_mul, Nat.zero_add]
  have he : p + (t : Int) + 0 + ((k.log2 + 1023 : Nat) : Int) - 1023 = p + m.log2 := by rw [hlog]; omega
  rw [he]
  have hge : -1074 ≤ p + (m.log2 : Int) := by omega
  have hle : p + (m.log2 : Int) ≤ 1023 := by
    by_cases hp : -1074 < p
    · have := hL.2 hp; omega
    · omega
  rw [if_neg (by omega), if_neg (by omega)]
  have key : ∀ (c q : Int) (z : Nat), FloatKind.f64.decode z = .number false 4503599627370496 c → c + q = p + m.log2 - 104 → -1074 ≤ q → q ≤ 971 → (FloatKind.f64.format.mul z (bitsOf M q)).getD 0 = bitsOf m p := by
    intro c q z hz hcq hq1 hq2
    have cM : Canon M q := ⟨hq1, hq2, hM2, fun _ => hM1, c1.nz⟩
    have rM := read_bits cM
    have e1 : FloatKind.f64.format.mul z (bitsOf M q) = ((FloatKind.f64.decode z).product (FloatKind.f64.decode (bitsOf M q))).map FloatKind.f64.encode := rfl
    rw [e1, hz, rM]
    have e2 : Ieee.Datum.product (.number false 4503599627370496 c) (.number false M q) = some (.number false (4503599627370496 * M) (c + q)) := rfl
    rw [e2, Option.map_some, Option.getD_some]
    refine near_exact h (.inl ⟨104 - m.log2, by omega, ?_⟩)
    have e3 : (4503599627370496 : Nat) = 2 ^ 52 := e52.symm
    generalize hD : 104 - m.log2 = D
    rw [← hM, hk, e3]
    have e4 : (2 : Nat) ^ 52 * (k * 2 ^ (52 - k.log2)) = k * 2 ^ (52 + (52 - k.log2)) := by rw [Nat.pow_add, Nat.mul_left_comm]
    rw [e4, Nat.mul_assoc, ← Nat.pow_add]
    congr 2
    omega
  have hy : ∀ q : Int, -1074 ≤ q → (q + 1075).toNat * 2 ^ 52 + (M - 4503599627370496) = bitsOf M q := by
    intro q hq
    unfold bitsOf
    rw [e52]
    omega
  by_cases hs : p + (m.log2 : Int) < -1022
  · rw [if_pos hs]
    simp only
    rw [show (p + (m.log2 : Int) + 53 + 1023).toNat = ((p + m.log2 + 1 : Int) + 1075).toNat by omega, hy _ (by omega)]
    exact key (-105) _ _ dec_tiny (by omega) (by omega) (by omega)
  · rw [if_neg hs]
    simp only
    rw [show (p + (m.log2 : Int) + 1023).toNat = ((p + m.log2 - 52 : Int) + 1075).toNat by omega, hy _ (by omega)]
    exact key (-52) _ _ dec_one (by omega) (by omega) (by omega)
end Go.Proofs.Qxb6500574aGreatDoor
