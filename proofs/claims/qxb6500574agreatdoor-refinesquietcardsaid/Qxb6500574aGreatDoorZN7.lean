/-
  moon: FLOORS, REMAINDERS, SIGNS (numm). Plain; no memory, no walk.
-/
import Derived.Test.Qxb6500574aGreatDoorZN6
namespace Go.Proofs.Qxb6500574aGreatDoor
set_option linter.unusedVariables false
set_option linter.unusedSimpArgs false
def floorM (x : Nat) : Nat :=
  if isNanM x then nanB
  else if absM x = infM ∨ absM x = 0 then x
  else
    let p := partsM x
    if 0 ≤ p.2 then x
    else if p.2 ≤ -53 then (if negM x then 13830554455654793216 else 0)
    else
      let k := (-p.2).toNat
      if p.1 % 2 ^ k = 0 then x
      else packM (negM x) (p.1 - p.1 % 2 ^ k + (if negM x then 2 ^ k else 0)) p.2 false
theorem cut_down (neg : Bool) (n k : Nat) : Ieee.Toward.down.cut neg n k = n / 2 ^ k + (neg && decide (n % 2 ^ k ≠ 0)).toNat := by
  unfold Ieee.Toward.cut
  simp only [Nat.shiftLeft_eq, Nat.one_mul]
  by_cases h : k ≤ n.log2 + 2
  · rw [Nat.min_eq_left h]
    congr 2
    cases neg
    · rfl
    · simp only [Bool.true_and]
      by_cases z : n % 2 ^ k = 0
      · simp [z]
      · simp [z]
  · rw [Nat.min_eq_right (by omega)]
    have h1 : n < 2 ^ (n.log2 + 1) := Nat.lt_log2_self
    have h2 : (2 : Nat) ^ (n.log2 + 2) = 2 * 2 ^ (n.log2 + 1) := by rw [Nat.pow_succ]; omega
    have h3 : 2 ^ (n.log2 + 2) ≤ 2 ^ k := Nat.pow_le_pow_right (by decide) (by omega)
    have b1 : n / 2 ^ (n.log2 + 2) = 0 := Nat.div_eq_of_lt (by omega)
    have b2 : n % 2 ^ (n.log2 + 2) = n := Nat.mod_eq_of_lt (by omega)
    have b3 : n / 2 ^ k = 0 := Nat.div_eq_of_lt (by omega)
    have b4 : n % 2 ^ k = n := Nat.mod_eq_of_lt (by omega)
    rw [b1, b2, b3, b4]
    congr 2
    cases neg
    · rfl
    · simp only [Bool.true_and]
      by_cases z : n = 0
      · simp [z]
      · simp [z]
theorem floor_ok {x : Nat} (h : u64 x) : bitsN (some (floorN x)) = floorM x := by
  have e : floorN x = Ieee.double.write ((Ieee.double.read x).integral .down) := rfl
  rw [e]
  unfold floorM
  rcases word_cases h with ⟨a1, a2, a3, a4⟩ | ⟨a1, a2, a3, a3', a4, a5⟩ | ⟨a1, a2, s, t, a4⟩
  · rw [a4, a2]
    simp only [Bool.false_eq_true, if_false, Ieee.Datum.integral, wrNum]
    rw [bits_near, cut_down, Nat.shiftLeft_eq]
    have wr := write_read h a1
    by_cases z : absM x = 0
    · rw [if_pos (.inr z), parts_zero h z]
      simp only [Nat.zero_mul, Nat.zero_div, Nat.zero_mod]
      have hx := sgn_bit h z
      unfold Ieee.Format.nearest
      rw [if_pos (by simp), word_is, Nat.add_zero]
      exact hx.symm
    · rw [if_neg (by omega)]
      obtain ⟨c, _⟩ := parts_canon h a1 z
      have hlt := c.lt
      have hnz := c.nz
      generalize hp : partsM x = p at *
      obtain ⟨m, i⟩ := p
      simp only at *
      by_cases h0 : 0 ≤ i
      · rw [if_pos h0]
        have e1 : (-i).toNat = 0 := by omega
        rw [e1, Nat.pow_zero, Nat.div_one, Nat.mod_one]
        simp only [ne_eq, not_true_eq_false, decide_false, Bool.and_false, Bool.toNat_false, Nat.add_zero]
        rw [near_scale _ _ _ _ (by omega), show (0 : Int) + (i.toNat : Nat) = i by omega]
        exact wr
      · rw [if_neg h0]
        have e1 : i.toNat = 0 := by omega
        rw [e1, Nat.pow_zero, Nat.mul_one]
        generalize hk : (-i).toNat = k
        by_cases h53 : i ≤ -53
        · rw [if_pos h53]
          have hp : 2 ^ 53 ≤ 2 ^ k := Nat.pow_le_pow_right (by decide) (by omega)
          have h53' : (2 : Nat) ^ 53 = 9007199254740992 := by decide
          rw [Nat.div_eq_of_lt (by omega), Nat.mod_eq_of_lt (by omega)]
          have : decide (m ≠ 0) = true := decide_eq_true hnz
          rw [this, Bool.and_true, Nat.zero_add]
          cases negM x
          · decide
          · decide
        · rw [if_neg h53]
          have pk : 0 < 2 ^ k := Nat.pow_pos (by decide)
          have hdm : m = m / 2 ^ k * 2 ^ k + m % 2 ^ k := by rw [Nat.mul_comm]; exact (Nat.div_add_mod _ _).symm
          have hi : i = -(k : Int) := by omega
          by_cases hr : m % 2 ^ k = 0
          · rw [if_pos hr, hr]
            simp only [ne_eq, not_true_eq_false, decide_false, Bool.and_false, Bool.toNat_false, Nat.add_zero]
            have e2 := near_scale (negM x) (m / 2 ^ k) k (-(k : Int)) (by have := Nat.div_le_self m (2 ^ k); omega)
            rw [show -(k : Int) + (k : Nat) = 0 by omega] at e2
            rw [← e2]
            rw [hr, Nat.add_zero] at hdm
            rw [← hdm, ← hi]
            exact wr
          · rw [if_neg hr]
            have hd : decide (m % 2 ^ k ≠ 0) = true := decide_eq_true hr
            rw [hd, Bool.and_true]
            have hk52 : k ≤ 52 := by omega
            have hp : 2 ^ k ≤ 2 ^ 52 := Nat.pow_le_pow_right (by decide) hk52
            have h52 : (2 : Nat) ^ 52 = 4503599627370496 := by decide
            have h64 : (2 : Nat) ^ 64 = 18446744073709551616 := by decide
            have e3 : m - m % 2 ^ k + (if negM x = true then 2 ^ k else 0) = (m / 2 ^ k + (negM x).toNat) * 2 ^ k := by
              rw [Nat.add_mul]
              cases negM x
              · simp only [Bool.false_eq_true, if_false, Bool.toNat_false, Nat.zero_mul]; omega
              · simp only [if_true, Bool.toNat_true, Nat.one_mul]; omega
            have hle : m / 2 ^ k ≤ m := Nat.div_le_self _ _
            have hb : (negM x).toNat ≤ 1 := by cases negM x <;> decide
            have hsm : (m / 2 ^ k + (negM x).toNat) * 2 ^ k < 2 ^ 64 := by
              rw [← e3]
              cases negM x
              · simp only [Bool.false_eq_true, if_false]; omega
              · simp only [if_true]; omega
            rw [e3, pack_exact _ hsm, near_scale _ _ _ _ (by omega), hi, show -(k : Int) + (k : Nat) = 0 by omega]
  · rw [a4, a2]
    simp only [Bool.false_eq_true, if_false, Ieee.Datum.integral, wrInf]
    rw [bits_inf, if_pos (.inl a1)]
    exact a5.symm
  · rw [a2, if_pos rfl]
    have hr : ∃ s t, Ieee.double.read x = .nan s t ∧ 0 < t ∧ t < 4503599627370496 := by
      unfold Ieee.Format.read
      have c1 : Ieee.double.signWeight = 9223372036854775808 := rfl
      have c3 : Ieee.double.binade = 4503599627370496 := rfl
      have c4 : Ieee.double.infRung = 9218868437227405312 := rfl
      dsimp only
      rw [c1, c3, c4]
      unfold absM infM at a1
      rw [if_neg (by omega), if_neg (by omega), if_neg (by omega)]
      exact ⟨_, _, rfl, by omega, by omega⟩
    obtain ⟨s', t', q, q1, q2⟩ := hr
    rw [q]
    simp only [Ieee.Datum.integral]
    have hw : Ieee.double.write (.nan s' t') = signM s' + (infM + t') := by
      show Ieee.double.word s' (Ieee.double.infRung + t' % Ieee.double.binade) = _
      rw [word_is]
      have c3 : Ieee.double.binade = 4503599627370496 := rfl
      have c4 : Ieee.double.infRung = infM := rfl
      rw [c3, c4, Nat.mod_eq_of_lt q2]
    rw [hw]
    have hu : u64 (signM s' + (infM + t')) := by unfold signM sgnM infM u64; cases s' <;> simp <;> omega
    unfold bitsN
    dsimp only
    rw [nan_is hu]
    have : isNanM (signM s' + (infM + t')) = true := by
      refine decide_eq_true ?_
      unfold absM signM sgnM infM
      cases s'
      · simp only [Bool.false_eq_true, if_false]; omega
      · simp only [if_true]; omega
    rw [this]
    simp
theorem nan_nan : isNanM nanB = true := by decide
theorem floor_nan : floorM nanB = nanB := by decide
theorem u_nan : u64 nanB := by decide
theorem add_nanr {a b : Nat} (h : isNanM b = true) : addM a b = nanB := by
  unfold addM
  rw [h, Bool.or_true]
  rfl
theorem flip_nan {b : Nat} (hb : u64 b) (h : isNanM b = true) : isNanM (flipM b) = true := by
  obtain ⟨_, f2, _⟩ := flip_abs hb
  unfold isNanM at *
  rw [f2]
  exact h
theorem floor_u {x : Nat} : u64 (floorN x) := (FloatKind.f64.format.write_lt _ : _ < 2 ^ 64)
theorem bits_u {o : Option Nat} (h : ∀ q, o = some q → u64 q) : u64 (bitsN o) := by
  cases o with
  | none => exact u_nan
  | some q =>
    unfold bitsN
    dsimp only
    split
    · exact u_nan
    · exact h q rfl
theorem div_u {a b q : Nat} (h : FloatKind.f64.format.div a b = some q) : u64 q := (Ieee.Format.div_lt FloatKind.f64.format h : q < 2 ^ 64)
theorem mul_u {a b q : Nat} (h : FloatKind.f64.format.mul a b = some q) : u64 q := (Ieee.Format.mul_lt FloatKind.f64.format h : q < 2 ^ 64)
theorem div_is (a b : Nat) : arithN 4 a b = bitsN (FloatKind.f64.format.div a b) := by
  unfold arithN
  rw [if_neg (by decide), if_neg (by decide), if_neg (by decide), if_pos rfl]
theorem mul_is (a b : Nat) : arithN 3 a b = bitsN (FloatKind.f64.format.mul a b) := by
  unfold arithN
  rw [if_neg (by decide), if_neg (by decide), if_pos rfl]
theorem sub_is (a b : Nat) : arithN 2 a b = bitsN (FloatKind.f64.format.sub a b) := by
  unfold arithN
  rw [if_neg (by decide), if_pos rfl]
theorem floor_bits {o : Option Nat} (h : ∀ q, o = some q → u64 q) : bitsN (o.map floorN) = floorM (bitsN o) := by
  cases o with
  | none => exact floor_nan.symm
  | some q =>
    have hq := h q rfl
    rw [Option.map_some, floor_ok hq]
    unfold bitsN
    dsimp only
    rw [nan_is hq]
    by_cases z : isNanM q = true
    · rw [z]
      simp only [if_true]
      rw [floor_nan]
      unfold floorM
      rw [z, if_pos rfl]
    · rw [if_neg z]
theorem idiv_ok {a b : Nat} (ha : u64 a) (hb : u64 b) : arithN 5 a b = floorM (divM a b) := by
  rw [← div_ok ha hb, div_is]
  have e : arithN 5 a b = bitsN ((FloatKind.f64.format.div a b).map floorN) := by
    unfold arithN
    rw [if_neg (by decide), if_neg (by decide), if_neg (by decide), if_neg (by decide), if_pos rfl]
  rw [e]
  exact floor_bits fun q hq => div_u hq
theorem mod_ok {a b : Nat} (ha : u64 a) (hb : u64 b) : arithN 6 a b = addM a (flipM (mulM (floorM (divM a b)) b)) := by
  rw [← idiv_ok ha hb]
  have e5 : arithN 5 a b = bitsN ((FloatKind.f64.format.div a b).map floorN) := by
    unfold arithN
    rw [if_neg (by decide), if_neg (by decide), if_neg (by decide), if_neg (by decide), if_pos rfl]
  have e6 : arithN 6 a b = bitsN (((FloatKind.f64.format.div a b).map floorN).bind fun q => (FloatKind.f64.format.mul q b).bind fun p => FloatKind.f64.format.sub a p) := by
    unfold arithN
    rw [if_neg (by decide), if_neg (by decide), if_neg (by decide), if_neg (by decide), if_neg (by decide), if_pos rfl]
  rw [e5, e6]
  have mn : mulM nanB b = nanB := by
    unfold mulM
    rw [nan_nan]
    rfl
  have an : addM a (flipM nanB) = nanB := add_nanr (flip_nan u_nan nan_nan)
  cases FloatKind.f64.format.div a b with
  | none =>
    show nanB = addM a (flipM (mulM nanB b))
    rw [mn, an]
  | some q0 =>
    simp only [Option.map_some, Option.bind_some]
    have hf : u64 (floorN q0) := floor_u
    generalize floorN q0 = f at hf
    -- the product of the floor
    have hm : mulM (bitsN (some f)) b = bitsN (FloatKind.f64.format.mul f b) := by
      unfold bitsN
      dsimp only
      rw [nan_is hf]
      by_cases z : isNanM f = true
      · rw [if_pos z, mn]
        obtain ⟨s, t, r⟩ := readNan hf (of_decide_eq_true z)
        have : FloatKind.f64.format.mul f b = none := by
          show ((Ieee.double.read f).product (Ieee.double.read b)).map _ = none
          rw [r]
          cases Ieee.double.read b <;> rfl
        rw [this]
      · rw [if_neg z, ← mul_ok hf hb, mul_is]
        unfold bitsN
        rfl
    rw [hm]
    cases hp : FloatKind.f64.format.mul f b with
    | none =>
      show nanB = addM a (flipM nanB)
      rw [an]
    | some p =>
      simp only [Option.bind_some]
      have hpu := mul_u hp
      rw [← sub_is, sub_ok ha hpu]
      unfold bitsN
      dsimp only
      rw [nan_is hpu]
      by_cases z : isNanM p = true
      · rw [if_pos z, an, add_nanr (flip_nan hpu z)]
      · rw [if_neg z]
end Go.Proofs.Qxb6500574aGreatDoor
