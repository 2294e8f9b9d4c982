/-
  moon: WHOLE NUMBERS AT THE ENDS (numm.ToInt). Plain; no memory, no walk.
-/
import Derived.Test.Qxb6500574aGreatDoorZN9
namespace Go.Proofs.Qxb6500574aGreatDoor
set_option linter.unusedVariables false
set_option linter.unusedSimpArgs false
theorem bits_inj {m n : Nat} {p q : Int} (hm : Canon m p) (hn : Canon n q) (h : bitsOf m p = bitsOf n q) : m = n ∧ p = q := by
  have h1 := hm.lt
  have h2 := hn.lt
  have l1 := hm.lo
  have l2 := hn.lo
  unfold bitsOf at h
  have hp : p = q := by
    rcases Int.lt_trichotomy p q with z | z | z
    · exfalso
      have := hn.nm (by omega)
      have : (p + 1074).toNat + 1 ≤ (q + 1074).toNat := by omega
      have := Nat.mul_le_mul_right 4503599627370496 this
      rw [Nat.add_mul] at this
      omega
    · exact z
    · exfalso
      have := hm.nm (by omega)
      have : (q + 1074).toNat + 1 ≤ (p + 1074).toNat := by omega
      have := Nat.mul_le_mul_right 4503599627370496 this
      rw [Nat.add_mul] at this
      omega
  subst hp
  exact ⟨by omega, rfl⟩
theorem cut_zero (neg : Bool) (n k : Nat) : Ieee.Toward.zero.cut neg n k = n / 2 ^ k := by
  unfold Ieee.Toward.cut
  simp only [Nat.shiftLeft_eq, Nat.one_mul, Bool.toNat_false, Nat.add_zero]
  by_cases h : k ≤ n.log2 + 2
  · rw [Nat.min_eq_left h]
  · rw [Nat.min_eq_right (by omega)]
    have h1 : n < 2 ^ (n.log2 + 1) := Nat.lt_log2_self
    have h2 : (2 : Nat) ^ (n.log2 + 2) = 2 * 2 ^ (n.log2 + 1) := by rw [Nat.pow_succ]; omega
    have h3 : 2 ^ (n.log2 + 2) ≤ 2 ^ k := Nat.pow_le_pow_right (by decide) (by omega)
    rw [Nat.div_eq_of_lt (by omega), Nat.div_eq_of_lt (by omega)]
def sgI (s : Bool) (m : Nat) : Int := if s then -(m : Int) else (m : Int)
/-- ToInt -/
def toIntM (x : Nat) : Option Int :=
  if infM ≤ absM x then none
  else if isZeroM x then some 0
  else
    let p := partsM x
    if 0 < p.2 then (if 1 < p.2 ∨ p.1 ≠ 4503599627370496 then none else some (sgI (negM x) 9007199254740992))
    else if p.2 ≤ -53 then none
    else if p.1 % 2 ^ (-p.2).toNat ≠ 0 then none
    else some (sgI (negM x) (p.1 / 2 ^ (-p.2).toNat))
theorem key_fin {x : Nat} : (keyM x).natAbs = absM x := by
  unfold keyM
  cases negM x <;> simp
theorem near_sg {s : Bool} {q : Nat} (h0 : q ≠ 0) (h1 : q < 18446744073709551616) : fromIntN (sgI s q) = Ieee.double.nearest s q 0 := by
  have e : fromIntN (sgI s q) = Ieee.double.nearest (decide (sgI s q < 0)) (sgI s q).natAbs 0 := rfl
  rw [e]
  unfold sgI
  cases s
  · simp only [Bool.false_eq_true, if_false]
    rw [decide_eq_false (by omega)]
    rfl
  · simp only [if_true]
    rw [decide_eq_true (by omega)]
    congr 1
    omega
theorem toInt_ok {x : Nat} (h : u64 x) : toIntN x = toIntM x := by
  have hk53 : keyM two53 = 4845873199050653696 := by decide
  have hkm53 : keyM minus53 = -4845873199050653696 := by decide
  have u1 : u64 two53 := by decide
  have u2 : u64 minus53 := by decide
  have n1 : isNanM two53 = false := by decide
  have n2 : isNanM minus53 = false := by decide
  unfold toIntN toIntM
  by_cases hnan : isNanM x = true
  · rw [ord_nan h u2 (.inl hnan), ord_nan h u1 (.inl hnan)]
    have : infM ≤ absM x := by have := of_decide_eq_true hnan; omega
    rw [if_pos this]
    rfl
  have hnan : isNanM x = false := by simpa using hnan
  rw [ord_ok h u2 hnan n2, ord_ok h u1 hnan n1, hk53, hkm53]
  have hcond : ((some (compare (keyM x) (-4845873199050653696)) == some Ordering.gt || some (compare (keyM x) (-4845873199050653696)) == some Ordering.eq) && (some (compare (keyM x) 4845873199050653696) == some Ordering.lt || some (compare (keyM x) 4845873199050653696) == some Ordering.eq)) = decide (absM x ≤ 4845873199050653696) := by
    rw [← key_fin]
    generalize keyM x = y
    have c1 : (some (compare y (-4845873199050653696)) == some Ordering.gt || some (compare y (-4845873199050653696)) == some Ordering.eq) = decide (-4845873199050653696 ≤ y) := by
      rcases Int.lt_trichotomy y (-4845873199050653696) with z | z | z
      · rw [int_cmp_lt z, decide_eq_false (by omega)]; rfl
      · rw [int_cmp_eq z, decide_eq_true (by omega)]; rfl
      · rw [int_cmp_gt z, decide_eq_true (by omega)]; rfl
    have c2 : (some (compare y 4845873199050653696) == some Ordering.lt || some (compare y 4845873199050653696) == some Ordering.eq) = decide (y ≤ 4845873199050653696) := by
      rcases Int.lt_trichotomy y 4845873199050653696 with z | z | z
      · rw [int_cmp_lt z, decide_eq_true (by omega)]; rfl
      · rw [int_cmp_eq z, decide_eq_true (by omega)]; rfl
      · rw [int_cmp_gt z, decide_eq_false (by omega)]; rfl
    rw [c1, c2, ← Bool.decide_and]
    exact decide_eq_decide.2 (by omega)
  rw [hcond]
  have hinf : infM = 9218868437227405312 := rfl
  by_cases hf : infM ≤ absM x
  · rw [if_pos hf, decide_eq_false (by omega)]
    rfl
  rw [if_neg hf]
  have hf : absM x < infM := by omega
  have hrd : FloatKind.f64.decode x = .number (negM x) (partsM x).1 (partsM x).2 := read_num h hf
  rw [hrd]
  simp only [Ieee.Datum.toInt, Ieee.Datum.integral]
  rw [cut_zero, Nat.shiftLeft_eq, signed_is]
  have sgi : ∀ s q, (if s = true then -((q * 2 ^ 0 : Nat) : Int) else ((q * 2 ^ 0 : Nat) : Int)) = sgI s q := fun s q => by
    unfold sgI
    rw [Nat.pow_zero, Nat.mul_one]
  rw [sgi]
  by_cases hz : absM x = 0
  · have hz' : isZeroM x = true := decide_eq_true hz
    rw [if_pos hz', parts_zero h hz, decide_eq_true (by omega)]
    simp only [if_true, Nat.zero_mul, Nat.zero_div]
    have hs0 : sgI (negM x) 0 = 0 := by unfold sgI; cases negM x <;> rfl
    rw [hs0]
    have f0 : fromIntN 0 = 0 := by decide
    rw [f0, ord_ok (by decide) h (by decide) hnan]
    have : keyM 0 = keyM x := by
      unfold keyM
      rw [hz]
      cases negM x <;> rfl
    rw [int_cmp_eq this]
    rfl
  · have hz' : isZeroM x = false := decide_eq_false hz
    rw [hz']
    simp only [Bool.false_eq_true, if_false]
    obtain ⟨c, hb⟩ := parts_canon h hf hz
    have hlt := c.lt
    have hlo := c.lo
    have hnz := c.nz
    have wr := write_read h hf
    generalize hp : partsM x = p at *
    obtain ⟨m, e⟩ := p
    simp only at *
    have hrange : absM x ≤ 4845873199050653696 ↔ (e ≤ 0 ∨ (e = 1 ∧ m = 4503599627370496)) := by
      rw [← hb]
      unfold bitsOf
      constructor
      · intro z
        by_cases he : e ≤ 0
        · exact .inl he
        · have := c.nm (by omega)
          right
          have h1 : (e + 1074).toNat < 1076 := by
            refine Nat.lt_of_not_le fun q => ?_
            have := Nat.mul_le_mul_right 4503599627370496 q
            omega
          have h2 : (e + 1074).toNat = 1075 := by omega
          rw [h2] at z
          omega
      · rintro (z | ⟨z1, z2⟩)
        · have h1 : (e + 1074).toNat ≤ 1074 := by omega
          have := Nat.mul_le_mul_right 4503599627370496 h1
          omega
        · subst z1
          subst z2
          decide
    by_cases he0 : 0 < e
    · rw [if_pos he0]
      by_cases h1 : 1 < e ∨ m ≠ 4503599627370496
      · rw [if_pos h1, decide_eq_false (by rw [hrange]; omega)]
        rfl
      · rw [if_neg h1]
        have he1 : e = 1 := by omega
        have hm1 : m = 4503599627370496 := by omega
        rw [decide_eq_true (hrange.2 (.inr ⟨he1, hm1⟩))]
        subst he1
        subst hm1
        simp only [if_true]
        have eq2 : 4503599627370496 * 2 ^ (1 : Int).toNat / 2 ^ (-(1 : Int)).toNat = 9007199254740992 := by decide
        rw [eq2, near_sg (by decide) (by decide)]
        have e2 := near_scale (negM x) 4503599627370496 1 0 (by decide)
        have e3 : (4503599627370496 : Nat) * 2 ^ 1 = 9007199254740992 := by decide
        rw [e3] at e2
        have e4 : (0 : Int) + ((1 : Nat) : Int) = 1 := by decide
        rw [e2, e4, wr, ord_ok h h hnan hnan, int_cmp_eq rfl]
        rfl
    · rw [if_neg he0, decide_eq_true (hrange.2 (.inl (by omega)))]
      simp only [if_true]
      have e0 : e.toNat = 0 := by omega
      rw [e0, Nat.pow_zero, Nat.mul_one]
      generalize hk : (-e).toNat = k
      have hek : e = -(k : Int) := by omega
      have pk : 0 < 2 ^ k := Nat.pow_pos (by decide)
      have hdm : m = m / 2 ^ k * 2 ^ k + m % 2 ^ k := by rw [Nat.mul_comm]; exact (Nat.div_add_mod _ _).symm
      have hqle : m / 2 ^ k ≤ m := Nat.div_le_self _ _
      -- not a whole number
      have bad : m % 2 ^ k ≠ 0 → (some (compare (keyM (fromIntN (sgI (negM x) (m / 2 ^ k)))) (keyM x)) == some Ordering.eq) = false := fun hr => by
        have hne : keyM (fromIntN (sgI (negM x) (m / 2 ^ k))) ≠ keyM x := fun z => by
          have z := congrArg Int.natAbs z
          rw [key_fin, key_fin] at z
          by_cases hq0 : m / 2 ^ k = 0
          · rw [hq0] at z
            have hs0 : sgI (negM x) 0 = 0 := by unfold sgI; cases negM x <;> rfl
            have f0 : fromIntN 0 = 0 := by decide
            rw [hs0, f0] at z
            exact hz (by rw [← z]; rfl)
          · rw [near_sg hq0 (by omega), near_neg] at z
            obtain ⟨cc, sv⟩ := canon_int hq0 (by omega)
            have ne := near_exact cc sv
            have ne : Ieee.double.nearest false (m / 2 ^ k) 0 = bitsOf (m / 2 ^ k * 2 ^ (52 - (m / 2 ^ k).log2)) (((m / 2 ^ k).log2 : Int) - 52) := ne
            have hbl : bitsOf (m / 2 ^ k * 2 ^ (52 - (m / 2 ^ k).log2)) (((m / 2 ^ k).log2 : Int) - 52) ≤ infM := by
              rw [← ne]
              have := (near_le false (m / 2 ^ k) 0).1
              unfold absM at this
              have h2 := (near_le false (m / 2 ^ k) 0).2
              rw [ne] at this ⊢
              have h3 := cc.hi
              have h4 := cc.lt
              have h5 := cc.lo
              unfold bitsOf infM
              have : ((((m / 2 ^ k).log2 : Int) - 52) + 1074).toNat ≤ 2045 := by omega
              have := Nat.mul_le_mul_right 4503599627370496 this
              omega
            rw [ne] at z
            have za : absM (signM (negM x) + bitsOf (m / 2 ^ k * 2 ^ (52 - (m / 2 ^ k).log2)) (((m / 2 ^ k).log2 : Int) - 52)) = bitsOf (m / 2 ^ k * 2 ^ (52 - (m / 2 ^ k).log2)) (((m / 2 ^ k).log2 : Int) - 52) := by
              unfold absM signM sgnM
              rw [hinf] at hbl
              cases negM x
              · simp only [Bool.false_eq_true, if_false]; omega
              · simp only [if_true]; omega
            rw [za, ← hb] at z
            obtain ⟨z1, z2⟩ := bits_inj cc c z
            apply hr
            rcases sv with ⟨d, d1, d2⟩ | ⟨d, d1, d2⟩
            · -- the place is not below the first
              rw [z1] at d2
              rw [z2] at d1
              have hd0 : d = 0 ∧ k = 0 := by omega
              rw [hd0.2, Nat.pow_zero]
              exact Nat.mod_one _
            · rw [z1] at d2
              rw [z2] at d1
              have : d = k := by omega
              subst this
              omega
        rcases Int.lt_trichotomy (keyM (fromIntN (sgI (negM x) (m / 2 ^ k)))) (keyM x) with z | z | z
        · rw [int_cmp_lt z]; rfl
        · exact absurd z hne
        · rw [int_cmp_gt z]; rfl
      have hfu : u64 (fromIntN (sgI (negM x) (m / 2 ^ k))) := (near_le _ _ _).2
      have hfn : isNanM (fromIntN (sgI (negM x) (m / 2 ^ k))) = false := decide_eq_false (by
        have := (near_le (decide (sgI (negM x) (m / 2 ^ k) < 0)) (sgI (negM x) (m / 2 ^ k)).natAbs 0).1
        have e : fromIntN (sgI (negM x) (m / 2 ^ k)) = Ieee.double.nearest (decide (sgI (negM x) (m / 2 ^ k) < 0)) (sgI (negM x) (m / 2 ^ k)).natAbs 0 := rfl
        rw [e]
        omega)
      rw [ord_ok hfu h hfn hnan]
      by_cases h53 : e ≤ -53
      · rw [if_pos h53]
        have hp53 : 2 ^ 53 ≤ 2 ^ k := Nat.pow_le_pow_right (by decide) (by omega)
        have h53' : (2 : Nat) ^ 53 = 9007199254740992 := by decide
        have hr : m % 2 ^ k ≠ 0 := by rw [Nat.mod_eq_of_lt (by omega)]; exact hnz
        rw [bad hr]
        simp
      · rw [if_neg h53]
        by_cases hr : m % 2 ^ k ≠ 0
        · rw [if_pos hr, bad hr]
          simp
        · rw [if_neg hr]
          have hr : m % 2 ^ k = 0 := Classical.byContradiction hr
          rw [hr, Nat.add_zero] at hdm
          have hq0 : m / 2 ^ k ≠ 0 := fun z => by rw [z, Nat.zero_mul] at hdm; exact hnz hdm
          have e2 := near_scale (negM x) (m / 2 ^ k) k (-(k : Int)) (by omega)
          rw [← hdm, show -(k : Int) + (k : Nat) = 0 by omega, ← hek, wr] at e2
          rw [near_sg hq0 (by omega), ← e2, int_cmp_eq rfl]
          rfl
end Go.Proofs.Qxb6500574aGreatDoor
