/-
  moon: SUMS, DIFFERENCES, PRODUCTS (numm). Plain; no memory, no walk.
-/
import Derived.Test.Qxb6500574aGreatDoorZN4
namespace Go.Proofs.Qxb6500574aGreatDoor
set_option linter.unusedVariables false
set_option linter.unusedSimpArgs false
theorem dec_read (x : Nat) : FloatKind.f64.format.read x = Ieee.double.read x := rfl
/-- a word is finite, an infinity or a NaN -/
theorem word_cases {x : Nat} (h : u64 x) : (absM x < infM ∧ isNanM x = false ∧ isInfM x = false ∧ Ieee.double.read x = .number (negM x) (partsM x).1 (partsM x).2) ∨ (absM x = infM ∧ isNanM x = false ∧ isInfM x = true ∧ isZeroM x = false ∧ Ieee.double.read x = .infinity (negM x) ∧ x = signM (negM x) + infM) ∨ (infM < absM x ∧ isNanM x = true ∧ ∃ s t, Ieee.double.read x = .nan s t) := by
  rcases Nat.lt_trichotomy (absM x) infM with z | z | z
  · exact .inl ⟨z, decide_eq_false (by omega), decide_eq_false (by omega), read_num h z⟩
  · refine .inr (.inl ⟨z, decide_eq_false (by omega), decide_eq_true z, decide_eq_false (by rw [z]; decide), read_inf h z, ?_⟩)
    have := abs_sgn h
    rw [z] at this
    exact this
  · exact .inr (.inr ⟨z, decide_eq_true z, readNan h z⟩)
theorem wrNum (neg : Bool) (m : Nat) (p : Int) : Ieee.double.write (.number neg m p) = Ieee.double.nearest neg m p := rfl
theorem wrInf (neg : Bool) : Ieee.double.write (.infinity neg) = signM neg + infM := word_is neg _
theorem bits_inf (neg : Bool) : bitsN (some (signM neg + infM)) = signM neg + infM := by
  have hu : u64 (signM neg + infM) := by unfold signM sgnM infM u64; cases neg <;> simp
  unfold bitsN
  dsimp only
  rw [nan_is hu]
  have : isNanM (signM neg + infM) = false := by cases neg <;> decide
  rw [this]
  simp only [Bool.false_eq_true, if_false]
theorem signed_is (s : Bool) (m u : Nat) : Ieee.signed s m u = if s then -((m * 2 ^ u : Nat) : Int) else ((m * 2 ^ u : Nat) : Int) := by
  unfold Ieee.signed
  rw [Nat.shiftLeft_eq]
theorem sgn_bit {x : Nat} (h : u64 x) (h0 : absM x = 0) : x = signM (negM x) := by
  have := abs_sgn h
  omega
theorem add_ok {a b : Nat} (ha : u64 a) (hb : u64 b) : arithN 1 a b = addM a b := by
  have e : arithN 1 a b = bitsN (((Ieee.double.read a).sum (Ieee.double.read b)).map Ieee.double.write) := by
    unfold arithN
    rw [if_pos rfl]
    rfl
  rw [e]
  unfold addM
  rcases word_cases ha with ⟨a1, a2, a3, a4⟩ | ⟨a1, a2, a3, a3', a4, a5⟩ | ⟨a1, a2, sa, ta, a4⟩
  · rcases word_cases hb with ⟨b1, b2, b3, b4⟩ | ⟨b1, b2, b3, b3', b4, b5⟩ | ⟨b1, b2, sb, tb, b4⟩
    · rw [a4, b4, a2, b2, a3, b3]
      simp only [Bool.or_self, Bool.false_eq_true, if_false, Ieee.Datum.sum, Option.map_some, wrNum]
      rw [bits_near]
      simp only [signed_is]
      -- zeros
      by_cases za : absM a = 0
      · have za' : isZeroM a = true := decide_eq_true za
        rw [za', parts_zero ha za]
        simp only [Bool.true_and]
        by_cases zb : absM b = 0
        · have zb' : isZeroM b = true := decide_eq_true zb
          rw [zb', parts_zero hb zb]
          simp only [if_true, Nat.zero_mul]
          cases negM a <;> cases negM b <;> decide
        · have zb' : isZeroM b = false := decide_eq_false zb
          rw [zb']
          simp only [Bool.false_eq_true, if_false, if_true, Nat.zero_mul]
          obtain ⟨c1, c2⟩ := parts_canon hb b1 zb
          have hmin : min (-1074 : Int) (partsM b).2 = -1074 := by have := c1.lo; omega
          rw [hmin]
          have hz : (if negM a = true then -((0 : Nat) : Int) else ((0 : Nat) : Int)) = 0 := by cases negM a <;> rfl
          rw [hz, Int.zero_add]
          have hp : (partsM b).1 * 2 ^ ((partsM b).2 - -1074).toNat ≠ 0 := Nat.mul_ne_zero c1.nz (Nat.ne_of_gt (Nat.pow_pos (by decide)))
          have e1 : ∀ s : Bool, (if s = true then -(((partsM b).1 * 2 ^ ((partsM b).2 - -1074).toNat : Nat) : Int) else (((partsM b).1 * 2 ^ ((partsM b).2 - -1074).toNat : Nat) : Int)) ≠ 0 ∧ decide ((if s = true then -(((partsM b).1 * 2 ^ ((partsM b).2 - -1074).toNat : Nat) : Int) else (((partsM b).1 * 2 ^ ((partsM b).2 - -1074).toNat : Nat) : Int)) < 0) = s ∧ (if s = true then -(((partsM b).1 * 2 ^ ((partsM b).2 - -1074).toNat : Nat) : Int) else (((partsM b).1 * 2 ^ ((partsM b).2 - -1074).toNat : Nat) : Int)).natAbs = (partsM b).1 * 2 ^ ((partsM b).2 - -1074).toNat := by
            generalize (partsM b).1 * 2 ^ ((partsM b).2 - -1074).toNat = X at hp
            intro s
            cases s
            · simp only [Bool.false_eq_true, if_false]
              exact ⟨by omega, decide_eq_false (by omega), by omega⟩
            · simp only [if_true]
              exact ⟨by omega, decide_eq_true (by omega), by omega⟩
          obtain ⟨q1, q2, q3⟩ := e1 (negM b)
          rw [if_neg q1, q2, q3, near_scale _ _ _ _ (by have := c1.lt; omega)]
          have : (-1074 : Int) + (((partsM b).2 - -1074).toNat : Nat) = (partsM b).2 := by have := c1.lo; omega
          rw [this]
          exact write_read hb b1
      · have za' : isZeroM a = false := decide_eq_false za
        rw [za']
        simp only [Bool.false_and, Bool.false_eq_true, if_false]
        obtain ⟨d1, d2⟩ := parts_canon ha a1 za
        by_cases zb : absM b = 0
        · have zb' : isZeroM b = true := decide_eq_true zb
          rw [zb', parts_zero hb zb]
          simp only [if_true, Nat.zero_mul]
          have hmin : min (partsM a).2 (-1074 : Int) = -1074 := by have := d1.lo; omega
          rw [hmin]
          have hz : (if negM b = true then -((0 : Nat) : Int) else ((0 : Nat) : Int)) = 0 := by cases negM b <;> rfl
          rw [hz, Int.add_zero]
          have hp : (partsM a).1 * 2 ^ ((partsM a).2 - -1074).toNat ≠ 0 := Nat.mul_ne_zero d1.nz (Nat.ne_of_gt (Nat.pow_pos (by decide)))
          have e1 : ∀ s : Bool, (if s = true then -(((partsM a).1 * 2 ^ ((partsM a).2 - -1074).toNat : Nat) : Int) else (((partsM a).1 * 2 ^ ((partsM a).2 - -1074).toNat : Nat) : Int)) ≠ 0 ∧ decide ((if s = true then -(((partsM a).1 * 2 ^ ((partsM a).2 - -1074).toNat : Nat) : Int) else (((partsM a).1 * 2 ^ ((partsM a).2 - -1074).toNat : Nat) : Int)) < 0) = s ∧ (if s = true then -(((partsM a).1 * 2 ^ ((partsM a).2 - -1074).toNat : Nat) : Int) else (((partsM a).1 * 2 ^ ((partsM a).2 - -1074).toNat : Nat) : Int)).natAbs = (partsM a).1 * 2 ^ ((partsM a).2 - -1074).toNat := by
            generalize (partsM a).1 * 2 ^ ((partsM a).2 - -1074).toNat = X at hp
            intro s
            cases s
            · simp only [Bool.false_eq_true, if_false]
              exact ⟨by omega, decide_eq_false (by omega), by omega⟩
            · simp only [if_true]
              exact ⟨by omega, decide_eq_true (by omega), by omega⟩
          obtain ⟨q1, q2, q3⟩ := e1 (negM a)
          rw [if_neg q1, q2, q3, near_scale _ _ _ _ (by have := d1.lt; omega)]
          have : (-1074 : Int) + (((partsM a).2 - -1074).toNat : Nat) = (partsM a).2 := by have := d1.lo; omega
          rw [this]
          exact write_read ha a1
        · have zb' : isZeroM b = false := decide_eq_false zb
          rw [zb']
          simp only [Bool.false_eq_true, if_false]
          obtain ⟨c1, c2⟩ := parts_canon hb b1 zb
          by_cases hlt : (partsM a).2 < (partsM b).2
          · rw [if_pos hlt, addS_ok c1 d1 (by omega)]
            have hmin : min (partsM a).2 (partsM b).2 = (partsM a).2 := by omega
            rw [hmin, Int.sub_self]
            have hs : ((if negM a = true then -(((partsM a).1 * 2 ^ (0 : Int).toNat : Nat) : Int) else (((partsM a).1 * 2 ^ (0 : Int).toNat : Nat) : Int)) + (if negM b = true then -(((partsM b).1 * 2 ^ ((partsM b).2 - (partsM a).2).toNat : Nat) : Int) else (((partsM b).1 * 2 ^ ((partsM b).2 - (partsM a).2).toNat : Nat) : Int))) = sumM (negM b) ((partsM b).1 * 2 ^ ((partsM b).2 - (partsM a).2).toNat) (negM a) (partsM a).1 := by
              unfold sumM
              rw [show (0 : Int).toNat = 0 from rfl, Nat.pow_zero, Nat.mul_one, Int.add_comm]
            rw [hs, Bool.and_comm]
          · rw [if_neg hlt, addS_ok d1 c1 (by omega)]
            have hmin : min (partsM a).2 (partsM b).2 = (partsM b).2 := by omega
            rw [hmin, Int.sub_self]
            have hs : ((if negM a = true then -(((partsM a).1 * 2 ^ ((partsM a).2 - (partsM b).2).toNat : Nat) : Int) else (((partsM a).1 * 2 ^ ((partsM a).2 - (partsM b).2).toNat : Nat) : Int)) + (if negM b = true then -(((partsM b).1 * 2 ^ (0 : Int).toNat : Nat) : Int) else (((partsM b).1 * 2 ^ (0 : Int).toNat : Nat) : Int))) = sumM (negM a) ((partsM a).1 * 2 ^ ((partsM a).2 - (partsM b).2).toNat) (negM b) (partsM b).1 := by
              unfold sumM
              rw [show (0 : Int).toNat = 0 from rfl, Nat.pow_zero, Nat.mul_one]
            rw [hs]
    · rw [a4, b4, a2, b2, a3, b3]
      simp only [Bool.or_self, Bool.false_eq_true, if_false, Ieee.Datum.sum, Option.map_some, wrInf, if_true]
      rw [bits_inf]
      exact b5.symm
    · rw [a4, b4, a2, b2]
      rfl
  · rcases word_cases hb with ⟨b1, b2, b3, b4⟩ | ⟨b1, b2, b3, b3', b4, b5⟩ | ⟨b1, b2, sb, tb, b4⟩
    · rw [a4, b4, a2, b2, a3, b3]
      simp only [Bool.or_self, Bool.false_eq_true, if_false, Ieee.Datum.sum, Option.map_some, wrInf, if_true, false_and]
      rw [bits_inf]
      exact a5.symm
    · rw [a4, b4, a2, b2, a3, b3]
      simp only [Bool.or_self, Bool.false_eq_true, if_false, if_true, true_and, Ieee.Datum.sum]
      by_cases hs : negM a = negM b
      · rw [if_pos hs]
        have hab : a = b := by rw [a5, b5, hs]
        rw [if_neg (fun z => z hab)]
        simp only [Option.map_some, wrInf]
        rw [bits_inf]
        exact a5.symm
      · rw [if_neg hs]
        have hab : a ≠ b := fun z => hs (by rw [z])
        rw [if_pos hab]
        rfl
    · rw [a4, b4, a2, b2]
      rfl
  · rw [a4, a2]
    rcases word_cases hb with ⟨b1, b2, b3, b4⟩ | ⟨b1, b2, b3, b3', b4, b5⟩ | ⟨b1, b2, sb, tb, b4⟩
    · rw [b4]; rfl
    · rw [b4]; rfl
    · rw [b4]; rfl
/-- the sign turned -/
def flipM (x : Nat) : Nat := if negM x then x - sgnM else x + sgnM
theorem flip_abs {x : Nat} (h : u64 x) : u64 (flipM x) ∧ absM (flipM x) = absM x ∧ negM (flipM x) = !negM x := by
  unfold flipM negM absM sgnM u64 at *
  by_cases z : 9223372036854775808 ≤ x
  · rw [decide_eq_true z]
    simp only [if_true]
    refine ⟨by omega, by omega, ?_⟩
    rw [decide_eq_false (by omega)]
    rfl
  · rw [decide_eq_false z]
    simp only [Bool.false_eq_true, if_false]
    refine ⟨by omega, by omega, ?_⟩
    rw [decide_eq_true (by omega)]
    rfl
theorem flip_parts {x : Nat} (h : u64 x) : partsM (flipM x) = partsM x := by
  unfold flipM partsM negM sgnM u64 at *
  by_cases z : 9223372036854775808 ≤ x
  · rw [decide_eq_true z]
    simp only [if_true]
    rw [show (x - 9223372036854775808) / 4503599627370496 % 2048 = x / 4503599627370496 % 2048 by omega, show (x - 9223372036854775808) % 4503599627370496 = x % 4503599627370496 by omega]
  · rw [decide_eq_false z]
    simp only [Bool.false_eq_true, if_false]
    rw [show (x + 9223372036854775808) / 4503599627370496 % 2048 = x / 4503599627370496 % 2048 by omega, show (x + 9223372036854775808) % 4503599627370496 = x % 4503599627370496 by omega]
theorem sub_ok {a b : Nat} (ha : u64 a) (hb : u64 b) : arithN 2 a b = addM a (flipM b) := by
  obtain ⟨f1, f2, f3⟩ := flip_abs hb
  rw [← add_ok ha f1]
  have e : arithN 2 a b = bitsN (((Ieee.double.read a).sum (Ieee.double.read b).opposite).map Ieee.double.write) := by
    unfold arithN
    rw [if_neg (by decide), if_pos rfl]
    rfl
  have e2 : arithN 1 a (flipM b) = bitsN (((Ieee.double.read a).sum (Ieee.double.read (flipM b))).map Ieee.double.write) := by
    unfold arithN
    rw [if_pos rfl]
    rfl
  rw [e, e2]
  rcases word_cases hb with ⟨b1, b2, b3, b4⟩ | ⟨b1, b2, b3, b3', b4, b5⟩ | ⟨b1, b2, sb, tb, b4⟩
  · rw [b4, read_num f1 (by rw [f2]; exact b1), f3, flip_parts hb]
    rfl
  · rw [b4, read_inf f1 (by rw [f2]; exact b1), f3]
    rfl
  · obtain ⟨s2, t2, q⟩ := readNan f1 (by rw [f2]; exact b1)
    rw [b4, q]
    cases Ieee.double.read a <;> rfl
end Go.Proofs.Qxb6500574aGreatDoor
