/-
  NUMBERS, PLAIN: a value that the format has is written exactly. No program.
-/
import Derived.Test.Qxb6500574aGreatDoorVFloat2
namespace Go.Proofs.Qxb6500574aGreatDoor
open Go
set_option linter.unusedVariables false
theorem log2_pow {m : Nat} (hm : m ≠ 0) (k : Nat) : (m * 2 ^ k).log2 = m.log2 + k := by
  have h1 := Nat.log2_self_le hm
  have h2 := @Nat.lt_log2_self m
  have hk : 0 < 2 ^ k := Nat.two_pow_pos k
  rw [Nat.log2_eq_iff (Nat.mul_ne_zero hm (by omega))]
  constructor
  · rw [Nat.pow_add]; exact Nat.mul_le_mul_right _ h1
  · rw [show m.log2 + k + 1 = (m.log2 + 1) + k by omega, Nat.pow_add]
    exact Nat.mul_lt_mul_of_pos_right h2 hk
/-- nothing is dropped -/
theorem cut_exact {s : Bool} (n d : Nat) (hn : n ≠ 0) : Ieee.Toward.even.cut s (n * 2 ^ d) d = n := by
  have hl := log2_pow hn d
  have hd : min d ((n * 2 ^ d).log2 + 2) = d := by omega
  have hp : 0 < 2 ^ d := Nat.two_pow_pos d
  have hg : (1 : Nat) <<< d = 2 ^ d := by rw [Nat.shiftLeft_eq, Nat.one_mul]
  unfold Ieee.Toward.cut
  simp only [hd, hg, Nat.mul_div_cancel n hp, Nat.mul_mod_left]
  have e1 : (decide (2 ^ d < 2 * 0)) = false := by simp
  have e2 : (2 ^ d == 2 * 0) = false := by simp
  rw [e1, e2]
  rfl
/-- a number's least form -/
structure Canon (m : Nat) (p : Int) : Prop where
  lo : -1074 ≤ p
  hi : p ≤ 971
  lt : m < 9007199254740992
  nm : -1074 < p → 4503599627370496 ≤ m
  nz : m ≠ 0
def bitsOf (m : Nat) (p : Int) : Nat := m + (p + 1074).toNat * 4503599627370496
def SameV (m : Nat) (p : Int) (mag : Nat) (place : Int) : Prop := (∃ d : Nat, p = place + d ∧ mag = m * 2 ^ d) ∨ (∃ d : Nat, place = p + d ∧ m = mag * 2 ^ d)
theorem Canon.log {m : Nat} {p : Int} (h : Canon m p) : m.log2 ≤ 52 ∧ (-1074 < p → m.log2 = 52) := by
  have h1 : m.log2 < 53 := (Nat.log2_lt h.nz).2 h.lt
  refine ⟨by omega, fun hp => ?_⟩
  have := h.nm hp
  have : ¬ m.log2 < 52 := fun hc => by
    have := (Nat.log2_lt h.nz).1 hc
    have : (2 : Nat) ^ 52 = 4503599627370496 := by decide
    omega
  omega
theorem word_pos (f : Ieee.Format) (r : Nat) : f.word false r = r := rfl
theorem near_exact {m mag : Nat} {p place : Int} (h : Canon m p) (e : SameV m p mag place) : FloatKind.f64.encode (.number false mag place) = bitsOf m p := by
  have hL := h.log
  have hmag : mag ≠ 0 := by
    rcases e with ⟨d, _, e⟩ | ⟨d, _, e⟩
    · rw [e]; exact Nat.mul_ne_zero h.nz (Nat.ne_of_gt (Nat.two_pow_pos d))
    · intro hc; subst hc; exact h.nz (by rw [e, Nat.zero_mul])
  have hlog : (mag.log2 : Int) + place = m.log2 + p := by
    rcases e with ⟨d, e1, e2⟩ | ⟨d, e1, e2⟩
    · rw [e2, log2_pow h.nz]; omega
    · rw [e2, log2_pow hmag]; omega
  have hlast : max (place + mag.log2 - ((52 : Nat) : Int)) (-1074) = p := by
    have h1 := h.lo
    by_cases hp : -1074 < p
    · have := hL.2 hp; omega
    · have := hL.1; omega
  have he : FloatKind.f64.encode (.number false mag place) = Ieee.double.nearest false mag place := rfl
  rw [he]
  unfold Ieee.Format.nearest
  have hb : Ieee.double.binade = 4503599627370496 := rfl
  have hi : Ieee.double.infRung = 9218868437227405312 := rfl
  have hl : Ieee.double.leastPlace = -1074 := rfl
  have hf : Ieee.double.fractionBits = 52 := rfl
  simp only [if_neg hmag, hb, hi, hl, hf, hlast]
  have hk : Ieee.Toward.even.cut false (mag <<< (place - p).toNat) (p - place).toNat = m := by
    rcases e with ⟨d, e1, e2⟩ | ⟨d, e1, e2⟩
    · rw [show (place - p).toNat = 0 by omega, show (p - place).toNat = d by omega, Nat.shiftLeft_zero, e2]
      exact cut_exact m d h.nz
    · rw [show (place - p).toNat = d by omega, show (p - place).toNat = 0 by omega, Nat.shiftLeft_eq, ← e2]
      have := cut_exact (s := false) m 0 h.nz
      rw [Nat.pow_zero, Nat.mul_one] at this
      exact this
  rw [hk, word_pos]
  unfold bitsOf
  have h1 := h.lt
  have h2 := h.hi
  have h3 : (p + 1074).toNat ≤ 2045 := by omega
  rw [show (p - -1074).toNat = (p + 1074).toNat by omega]
  generalize (p + 1074).toNat = q at *
  rw [Nat.min_eq_left (by omega), Nat.add_comm]
/-- what finite, not negative patterns stand for -/
theorem read_fin {x : Nat} (hx : x < 9218868437227405312) (h0 : x ≠ 0) : ∃ m p, Canon m p ∧ FloatKind.f64.decode x = .number false m p ∧ x = bitsOf m p := by
  have hd : FloatKind.f64.decode x = Ieee.double.read x := rfl
  rw [hd]
  unfold Ieee.Format.read
  have hb : Ieee.double.binade = 4503599627370496 := rfl
  have hs : Ieee.double.signWeight = 9223372036854775808 := rfl
  have hi : Ieee.double.infRung = 9218868437227405312 := rfl
  have hl : Ieee.double.leastPlace = -1074 := rfl
  have hn : (x / 9223372036854775808 % 2 == 1) = false := by
    have : x / 9223372036854775808 = 0 := Nat.div_eq_of_lt (by omega)
    rw [this]; rfl
  have hm : x % 9223372036854775808 = x := Nat.mod_eq_of_lt (by omega)
  simp only [hb, hs, hi, hl, hn, hm]
  by_cases h1 : x < 4503599627370496
  · rw [if_pos h1]
    exact ⟨x, -1074, ⟨by omega, by omega, by omega, by omega, h0⟩, rfl, by unfold bitsOf; omega⟩
  · rw [if_neg h1, if_pos hx]
    exact ⟨_, _, ⟨by omega, by omega, by omega, by omega, by omega⟩, rfl, by unfold bitsOf; omega⟩
theorem read_bits {m : Nat} {p : Int} (h : Canon m p) : FloatKind.f64.decode (bitsOf m p) = .number false m p := by
  have hlo := h.lo
  have hhi := h.hi
  have hlt := h.lt
  have hlt2 : bitsOf m p < 9218868437227405312 := by unfold bitsOf; omega
  have h0 : bitsOf m p ≠ 0 := by have := h.nz; unfold bitsOf; omega
  obtain ⟨m2, p2, c2, r2, e2⟩ := read_fin hlt2 h0
  rw [r2]
  have a1 := c2.lo
  have a2 := c2.hi
  have a3 := c2.lt
  have a4 := c2.nm
  have b4 := h.nm
  unfold bitsOf at e2
  have hp : p2 = p ∧ m2 = m := by
    generalize hA : (p + 1074).toNat = A at e2
    generalize hB : (p2 + 1074).toNat = B at e2
    have : A = B := by
      by_cases hpA : -1074 < p
      · have := b4 hpA
        by_cases hpB : -1074 < p2
        · have := a4 hpB; omega
        · omega
      · by_cases hpB : -1074 < p2
        · have := a4 hpB; omega
        · omega
    omega
  rw [hp.1, hp.2]
end Go.Proofs.Qxb6500574aGreatDoor
