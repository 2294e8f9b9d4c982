/-
  moon: THE TEXT OF A NUMBER (numm.Format, numm.Parse). Plain; no memory, no walk.
-/
import Derived.Test.Qxb6500574aGreatDoorZN12
namespace Go.Proofs.Qxb6500574aGreatDoor
set_option linter.unusedVariables false
set_option linter.unusedSimpArgs false
theorem parse_okM (s : Bs) : parseN s = parseM s := by
  unfold parseN parseM
  by_cases hl : 24 < s.length
  · rw [if_pos hl, if_pos hl]
  rw [if_neg hl, if_neg hl]
  dsimp only
  by_cases hn : s = [110, 97, 110]
  · subst hn
    decide
  rw [if_neg hn]
  generalize hneg : (s.head? == some 45) = neg
  generalize ht : (if neg = true then s.drop 1 else s) = t
  by_cases hi : t = [105, 110, 102]
  · rw [if_pos hi, hi]
    cases neg <;> decide
  · rw [if_neg hi, if_neg hn]
    exact mag_ok neg t hi
/-! ### Format -/
theorem trail_spec : ∀ (n m : Nat), m ≠ 0 → m < 2 ^ n → m % 2 ^ trail n m = 0 ∧ m / 2 ^ trail n m % 2 = 1 ∧ trail n m < n
  | 0, m, h0, h => by
    rw [Nat.pow_zero] at h
    omega
  | n + 1, m, h0, h => by
    unfold trail
    by_cases h1 : m % 2 = 1
    · rw [if_pos h1, Nat.pow_zero, Nat.div_one]
      exact ⟨Nat.mod_one _, h1, by omega⟩
    · rw [if_neg h1]
      rw [Nat.pow_succ] at h
      obtain ⟨a, b, c⟩ := trail_spec n (m / 2) (by omega) (by omega)
      refine ⟨?_, ?_, by omega⟩
      · have e : m = 2 * (m / 2) := by omega
        rw [Nat.pow_succ, Nat.mul_comm (2 ^ trail n (m / 2)), e, Nat.mul_mod_mul_left, ← e, a]
      · rw [Nat.pow_succ, Nat.mul_comm, ← Nat.div_div_eq_div_mul]
        exact b
/-- an odd number's powers of two -/
theorem trail_dvd {n m k : Nat} (h0 : m ≠ 0) (h : m < 2 ^ n) : m % 2 ^ k = 0 ↔ k ≤ trail n m := by
  obtain ⟨a, b, c⟩ := trail_spec n m h0 h
  generalize trail n m = t at *
  have hm : m = m / 2 ^ t * 2 ^ t := by
    have := Nat.div_add_mod m (2 ^ t)
    rw [a, Nat.add_zero, Nat.mul_comm] at this
    exact this.symm
  generalize m / 2 ^ t = q at *
  constructor
  · intro z
    refine Nat.le_of_not_lt fun hlt => ?_
    obtain ⟨j, rfl⟩ : ∃ j, k = t + 1 + j := ⟨k - t - 1, by omega⟩
    have hd : 2 ^ (t + 1 + j) ∣ m := Nat.dvd_of_mod_eq_zero z
    have hd2 : 2 ^ (t + 1) ∣ m := Nat.dvd_trans ⟨2 ^ j, by rw [← Nat.pow_add]⟩ hd
    rw [hm, Nat.pow_succ, Nat.mul_comm (2 ^ t)] at hd2
    have hd3 : 2 ∣ q := Nat.dvd_of_mul_dvd_mul_right (Nat.pow_pos (by decide)) hd2
    omega
  · intro z
    rw [hm]
    obtain ⟨j, rfl⟩ : ∃ j, t = k + j := ⟨t - k, by omega⟩
    rw [Nat.pow_add, ← Nat.mul_assoc, Nat.mul_comm q, Nat.mul_assoc]
    exact Nat.mul_mod_right _ _
def fmtM (x : Nat) : Bs :=
  if isNanM x then [110, 97, 110]
  else
    let sg : Bs := if negM x then [45] else []
    if isInfM x then sg ++ [105, 110, 102]
    else if isZeroM x then sg ++ [48]
    else
      let p := partsM x
      let t := trail 53 p.1
      let m := p.1 / 2 ^ t
      let e := p.2 + t
      if 0 ≤ e ∧ e < 53 ∧ m * 2 ^ e.toNat < 9007199254740992 then sg ++ utoaN (m * 2 ^ e.toNat)
      else sg ++ utoaN m ++ [112] ++ itoaN e
theorem utoa_is (u : Nat) : utoaN u = decN u := by
  unfold utoaN
  by_cases h : u = 0
  · subst h; rfl
  · rw [if_neg h]
theorem itoa_is (e : Int) : itoaN e = (if e < 0 then [45] else []) ++ decN e.natAbs := by
  unfold itoaN
  by_cases h : e < 0
  · rw [if_pos h, if_pos h, utoa_is]
  · rw [if_neg h, if_neg h, utoa_is]
    have : e.toNat = e.natAbs := by omega
    rw [this]
    rfl
theorem abs_self {x : Nat} (h : u64 x) : u64 (absM x) ∧ absM (absM x) = absM x ∧ negM (absM x) = false ∧ partsM (absM x) = partsM x := by
  unfold absM negM partsM u64 at *
  refine ⟨by omega, by omega, decide_eq_false (by omega), ?_⟩
  rw [show x % 9223372036854775808 / 4503599627370496 % 2048 = x / 4503599627370496 % 2048 by omega, show x % 9223372036854775808 % 4503599627370496 = x % 4503599627370496 by omega]
theorem above_min (a : Nat) : (-4845873199050653696 : Int) < (a : Int) := by omega
theorem pow_ge {e : Int} {t : Nat} (he : 0 < e) : 2 ^ (e + (t : Int)).toNat = 2 ^ t * (2 * 2 ^ (e - 1).toNat) := by
  rw [← Nat.pow_succ', ← Nat.pow_add, show (e + (t : Int)).toNat = t + ((e - 1).toNat + 1) by omega]
theorem fmt_ok {x : Nat} (h : u64 x) : fmtN x = fmtM x := by
  have e63 : (2 : Nat) ^ 63 = 9223372036854775808 := by decide
  have e52 : (2 : Nat) ^ 52 = 4503599627370496 := by decide
  have hkmax : keyM maxFin = 9218868437227405311 := by decide
  have hkmin : keyM (maxFin + 2 ^ 63) = -9218868437227405311 := by decide
  have u1 : u64 maxFin := by decide
  have u2 : u64 (maxFin + 2 ^ 63) := by decide
  have n1 : isNanM maxFin = false := by decide
  have n2 : isNanM (maxFin + 2 ^ 63) = false := by decide
  have hinf : infM = 9218868437227405312 := rfl
  unfold fmtN fmtM
  rw [nan_is h]
  by_cases hnan : isNanM x = true
  · rw [if_pos hnan, if_pos hnan]
  rw [if_neg hnan, if_neg hnan]
  have hnan : isNanM x = false := by simpa using hnan
  rw [ord_ok h u1 hnan n1, ord_ok h u2 hnan n2, hkmax, hkmin]
  have hka := key_fin (x := x)
  have hkn : keyM x = if negM x then -(absM x : Int) else (absM x : Int) := rfl
  have hsg : (if x / 2 ^ 63 = 0 then ([] : Bs) else [45]) = if negM x then [45] else [] := by
    rw [e63]
    unfold negM
    unfold u64 at h
    by_cases z : 9223372036854775808 ≤ x
    · rw [decide_eq_true z, if_neg (by omega), if_pos rfl]
    · rw [decide_eq_false z, if_pos (by omega)]
      rfl
  have hax : x % 2 ^ 63 = absM x := by rw [e63]; rfl
  dsimp only
  rw [hsg, hax]
  rcases word_cases h with ⟨a1, a2, a3, a4⟩ | ⟨a1, a2, a3, a3', a4, a5⟩ | ⟨a1, a2, _⟩
  · rw [a3]
    simp only [Bool.false_eq_true, if_false]
    have g1 : (some (compare (keyM x) 9218868437227405311) == some Ordering.gt) = false := by
      rcases Int.lt_trichotomy (keyM x) 9218868437227405311 with z | z | z
      · rw [int_cmp_lt z]; rfl
      · rw [int_cmp_eq z]; rfl
      · exfalso; omega
    have g2 : (some (compare (keyM x) (-9218868437227405311)) == some Ordering.lt) = false := by
      rcases Int.lt_trichotomy (keyM x) (-9218868437227405311) with z | z | z
      · exfalso; omega
      · rw [int_cmp_eq z]; rfl
      · rw [int_cmp_gt z]; rfl
    rw [g1, g2]
    simp only [Bool.false_eq_true, if_false]
    obtain ⟨v1, v2, v3, v4⟩ := abs_self h
    have vn : isNanM (absM x) = false := by unfold isNanM; rw [v2]; exact decide_eq_false (by omega)
    -- the whole numbers
    have hf : floorN (absM x) = fromIntN (((FloatKind.f64.decode (absM x)).toInt .zero).getD 0) ∧ ∃ q : Nat, (FloatKind.f64.decode (absM x)).toInt .zero = some (q : Int) := by
      have rd : FloatKind.f64.decode (absM x) = .number false (partsM x).1 (partsM x).2 := by
        have := read_num v1 (by rw [v2]; exact a1)
        rw [v3, v4] at this
        exact this
      unfold floorN
      rw [rd, down_zero]
      simp only [Ieee.Datum.toInt, Ieee.Datum.integral, signed_is, Bool.false_eq_true, if_false, Option.getD_some]
      refine ⟨?_, _, rfl⟩
      rw [fromInt_nat, Nat.pow_zero, Nat.mul_one]
    obtain ⟨hf1, q, hq⟩ := hf
    rw [hf1, hq]
    simp only [Option.getD_some, Int.toNat_natCast]
    have u53 : u64 two53 := by decide
    have n53 : isNanM two53 = false := by decide
    have k53 : keyM two53 = 4845873199050653696 := by decide
    have kabs : keyM (absM x) = (absM x : Int) := by unfold keyM; rw [v3, v2]; rfl
    rw [ord_ok v1 u53 vn n53, k53, kabs]
    -- ToInt of the magnitude tells whether it is whole
    have ti := toInt_ok v1
    unfold toIntN at ti
    have uf : u64 (fromIntN (q : Int)) := (near_le _ _ _).2
    have nf : isNanM (fromIntN (q : Int)) = false := decide_eq_false (by
      have := (near_le (decide ((q : Int) < 0)) (q : Int).natAbs 0).1
      have e : fromIntN (q : Int) = Ieee.double.nearest (decide ((q : Int) < 0)) (q : Int).natAbs 0 := rfl
      rw [e]
      omega)
    have um : u64 minus53 := by decide
    have nm : isNanM minus53 = false := by decide
    have km : keyM minus53 = -4845873199050653696 := by decide
    rw [hq, ord_ok v1 um vn nm, ord_ok v1 u53 vn n53, k53, km, kabs] at ti
    dsimp only at ti
    rw [ord_ok uf v1 nf vn, kabs] at ti
    rw [ord_ok v1 uf vn nf, kabs]
    have hmin : (some (compare (absM x : Int) (-4845873199050653696)) == some Ordering.gt) = true := by
      rw [int_cmp_gt (above_min (absM x))]; rfl
    rw [hmin] at ti
    simp only [Bool.true_or, Bool.true_and] at ti
    by_cases hz : absM x = 0
    · have hz' : isZeroM x = true := decide_eq_true hz
      rw [hz', if_pos rfl]
      rw [hz] at ti ⊢
      have c1 : (some (compare ((0 : Nat) : Int) 4845873199050653696) == some Ordering.lt) = true := by decide
      rw [c1] at ti ⊢
      simp only [Bool.true_or, if_true, Bool.true_and] at ti ⊢
      have t0 : toIntM 0 = some 0 := by decide
      rw [t0] at ti
      by_cases c2 : (some (compare (keyM (fromIntN (q : Int))) ((0 : Nat) : Int)) == some Ordering.eq) = true
      · rw [if_pos c2] at ti
        have hq0 : q = 0 := by have := Option.some.inj ti; omega
        subst hq0
        have c3 : (some (compare ((0 : Nat) : Int) (keyM (fromIntN ((0 : Nat) : Int)))) == some Ordering.eq) = true := by decide
        rw [if_pos c3]
        rfl
      · rw [if_neg c2] at ti
        cases ti
    · have hz' : isZeroM x = false := decide_eq_false hz
      rw [hz']
      simp only [Bool.false_eq_true, if_false]
      obtain ⟨c, hb⟩ := parts_canon h a1 hz
      have hlt := c.lt
      have hlo := c.lo
      have hnz := c.nz
      have h53 : (partsM x).1 < 2 ^ 53 := by have : (2 : Nat) ^ 53 = 9007199254740992 := (by decide); omega
      -- the digits
      have hdig : (if absM x / 2 ^ 52 = 0 then x % 2 ^ 52 else x % 2 ^ 52 + 2 ^ 52) = (partsM x).1 ∧ (if absM x / 2 ^ 52 = 0 then (-1074 : Int) else Int.ofNat (absM x / 2 ^ 52) - 1075) = (partsM x).2 := by
        rw [e52]
        unfold partsM absM
        unfold u64 at h
        by_cases z : x / 4503599627370496 % 2048 = 0
        · rw [if_pos z, if_pos (by omega), if_pos (by omega)]
          exact ⟨rfl, rfl⟩
        · rw [if_neg z, if_neg (by omega), if_neg (by omega)]
          refine ⟨rfl, ?_⟩
          show ((x % 9223372036854775808 / 4503599627370496 : Nat) : Int) - 1075 = _
          rw [show x % 9223372036854775808 / 4503599627370496 = x / 4503599627370496 % 2048 by omega]
      rw [hdig.1, hdig.2]
      have tm : toIntM (absM x) = if 0 < (partsM x).2 then (if 1 < (partsM x).2 ∨ (partsM x).1 ≠ 4503599627370496 then none else some 9007199254740992) else if (partsM x).2 ≤ -53 then none else if (partsM x).1 % 2 ^ (-(partsM x).2).toNat ≠ 0 then none else some (((partsM x).1 / 2 ^ (-(partsM x).2).toNat : Nat) : Int) := by
        unfold toIntM
        have z2 : isZeroM (absM x) = false := by unfold isZeroM; rw [v2]; exact decide_eq_false hz
        rw [v2, if_neg (by omega), z2, v3, v4]
        rfl
      rw [tm] at ti
      rw [← hb] at ti ⊢
      generalize hp : partsM x = p at *
      obtain ⟨m, e⟩ := p
      simp only at *
      obtain ⟨t1, t2, t3⟩ := trail_spec 53 m hnz h53
      have td := fun k => trail_dvd (k := k) hnz h53
      generalize trail 53 m = t at *
      have hmt : m = m / 2 ^ t * 2 ^ t := by
        have := Nat.div_add_mod m (2 ^ t)
        rw [t1, Nat.add_zero, Nat.mul_comm] at this
        exact this.symm
      by_cases he : 0 < e
      · -- too great
        have hn := c.nm (Int.lt_trans (by decide) he)
        have hge : ¬ (0 ≤ e + (t : Int) ∧ e + (t : Int) < 53 ∧ m / 2 ^ t * 2 ^ (e + (t : Int)).toNat < 9007199254740992) := fun z => by
          have z3 := z.2.2
          have e1 := pow_ge (t := t) he
          rw [e1, ← Nat.mul_assoc, ← hmt] at z3
          have : 1 ≤ 2 ^ (e - 1).toNat := Nat.pow_pos (by decide)
          have : m * 2 ≤ m * (2 * 2 ^ (e - 1).toNat) := Nat.mul_le_mul_left _ (by omega)
          omega
        rw [if_neg hge]
        have hno : (some (compare (bitsOf m e : Int) 4845873199050653696) == some Ordering.lt) = false := by
          have : 4845873199050653696 ≤ bitsOf m e := by
            unfold bitsOf
            have : 1075 ≤ (e + 1074).toNat := by omega
            have := Nat.mul_le_mul_right 4503599627370496 this
            omega
          rcases Int.lt_trichotomy (bitsOf m e : Int) 4845873199050653696 with z | z | z
          · exfalso; omega
          · rw [int_cmp_eq z]; rfl
          · rw [int_cmp_gt z]; rfl
        rw [hno]
        simp only [Bool.false_and, Bool.false_eq_true, if_false]
        rw [utoa_is, itoa_is, ← List.append_assoc]
      · rw [if_neg he] at ti
        have hyes : (some (compare (bitsOf m e : Int) 4845873199050653696) == some Ordering.lt) = true := by
          have : bitsOf m e < 4845873199050653696 := by
            unfold bitsOf
            have : (e + 1074).toNat ≤ 1074 := by omega
            have := Nat.mul_le_mul_right 4503599627370496 this
            omega
          rw [int_cmp_lt (by omega)]
          rfl
        rw [hyes] at ti ⊢
        simp only [Bool.true_or, if_true, Bool.true_and] at ti ⊢
        generalize hk : (-e).toNat = k at ti
        have hek : e = -(k : Int) := by omega
        have symm : (some (compare (bitsOf m e : Int) (keyM (fromIntN (q : Int)))) == some Ordering.eq) = (some (compare (keyM (fromIntN (q : Int))) (bitsOf m e : Int)) == some Ordering.eq) := by
          rcases Int.lt_trichotomy (bitsOf m e : Int) (keyM (fromIntN (q : Int))) with z | z | z
          · rw [int_cmp_lt z, int_cmp_gt z]; rfl
          · rw [int_cmp_eq z, int_cmp_eq z.symm]
          · rw [int_cmp_gt z, int_cmp_lt z]; rfl
        rw [symm]
        by_cases hw : k ≤ t
        · -- whole
          have hm0 : m % 2 ^ k = 0 := (td k).2 hw
          rw [if_neg (show ¬ e ≤ -53 by omega), if_neg (show ¬ m % 2 ^ k ≠ 0 from fun z => z hm0)] at ti
          by_cases c2 : (some (compare (keyM (fromIntN (q : Int))) (bitsOf m e : Int)) == some Ordering.eq) = true
          · rw [if_pos c2] at ti ⊢
            have hqv : q = m / 2 ^ k := by have := Option.some.inj ti; omega
            have hval : m / 2 ^ t * 2 ^ (e + (t : Int)).toNat = m / 2 ^ k := by
              have e2 : (e + (t : Int)).toNat = t - k := by omega
              rw [e2]
              have e3 : m = m / 2 ^ t * 2 ^ (t - k) * 2 ^ k := by
                rw [Nat.mul_assoc, ← Nat.pow_add, show t - k + k = t by omega]
                exact hmt
              have e4 : m / 2 ^ k = m / 2 ^ t * 2 ^ (t - k) := by
                conv => lhs; rw [e3]
                exact Nat.mul_div_cancel _ (Nat.pow_pos (by decide))
              exact e4.symm
            have hle : m / 2 ^ k ≤ m := Nat.div_le_self _ _
            rw [hval, if_pos (show 0 ≤ e + (t : Int) ∧ e + (t : Int) < 53 ∧ m / 2 ^ k < 9007199254740992 from ⟨by omega, by omega, by omega⟩), utoa_is, hqv]
          · rw [if_neg c2] at ti
            cases ti
        · -- a fraction
          have hm0 : m % 2 ^ k ≠ 0 := fun z => hw ((td k).1 z)
          have hnone : (if e ≤ -53 then none else if m % 2 ^ k ≠ 0 then none else some ((m / 2 ^ k : Nat) : Int)) = (none : Option Int) := by
            by_cases z : e ≤ -53
            · rw [if_pos z]
            · rw [if_neg z, if_pos hm0]
          rw [hnone] at ti
          by_cases c2 : (some (compare (keyM (fromIntN (q : Int))) (bitsOf m e : Int)) == some Ordering.eq) = true
          · rw [if_pos c2] at ti
            cases ti
          · rw [if_neg c2]
            rw [if_neg (show ¬ (0 ≤ e + (t : Int) ∧ e + (t : Int) < 53 ∧ m / 2 ^ t * 2 ^ (e + (t : Int)).toNat < 9007199254740992) from fun z => by have := z.1; omega), utoa_is, itoa_is, ← List.append_assoc]
  · rw [a3, if_pos rfl]
    have hk : keyM x = if negM x then -9218868437227405312 else 9218868437227405312 := by
      rw [hkn, a1, hinf]
      rfl
    rw [hk]
    cases negM x
    · simp only [Bool.false_eq_true, if_false]
      have : (some (compare (9218868437227405312 : Int) 9218868437227405311) == some Ordering.gt) = true := by decide
      rw [if_pos this]
      rfl
    · simp only [if_true]
      have c1 : (some (compare (-9218868437227405312 : Int) 9218868437227405311) == some Ordering.gt) = false := by decide
      have c2 : (some (compare (-9218868437227405312 : Int) (-9218868437227405311)) == some Ordering.lt) = true := by decide
      rw [c1, if_neg (by decide), if_pos c2]
      rfl
  · rw [a2] at hnan; cases hnan
end Go.Proofs.Qxb6500574aGreatDoor
