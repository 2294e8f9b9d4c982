/-
  moon: SUMS OVER WHOLE NUMBERS (numm.add). Plain; no memory, no walk.
-/
import Derived.Test.Qxb6500574aGreatDoorZN3
namespace Go.Proofs.Qxb6500574aGreatDoor
set_option linter.unusedVariables false
set_option linter.unusedSimpArgs false
/-- two numbers that are not zero, the greater place first -/
def addS (sa : Bool) (ma : Nat) (ea : Int) (sb : Bool) (mb : Nat) (eb : Int) : Nat :=
  let d := (ea - eb).toNat
  let ma1 := if d ≤ 10 then ma * 2 ^ d else ma * 2 ^ 10
  let st := if d ≤ 10 then false else if 64 ≤ d - 10 then true else decide (mb % 2 ^ (d - 10) ≠ 0)
  let mb1 := if d ≤ 10 then mb else if 64 ≤ d - 10 then 0 else mb / 2 ^ (d - 10)
  let e := if d ≤ 10 then eb else ea - 10
  if sa = sb then packM sa (ma1 + mb1) e st
  else if ma1 = mb1 ∧ st = false then 0
  else if ma1 < mb1 then packM sb (mb1 - ma1) e false
  else if st then packM sa (ma1 - mb1 - 1) e true
  else packM sa (ma1 - mb1) e false
def addM (a b : Nat) : Nat :=
  if isNanM a || isNanM b then nanB
  else if isInfM a then (if isInfM b ∧ a ≠ b then nanB else a)
  else if isInfM b then b
  else if isZeroM a && isZeroM b then (if negM a && negM b then sgnM else 0)
  else if isZeroM a then b
  else if isZeroM b then a
  else
    let p := partsM a
    let q := partsM b
    if p.2 < q.2 then addS (negM b) q.1 q.2 (negM a) p.1 p.2 else addS (negM a) p.1 p.2 (negM b) q.1 q.2
/-- the exact sum -/
def sumM (sa : Bool) (A : Nat) (sb : Bool) (B : Nat) : Int := (if sa then -(A : Int) else A) + (if sb then -(B : Int) else B)
theorem addS_ok {sa sb : Bool} {ma mb : Nat} {ea eb : Int} (ha : Canon ma ea) (hb : Canon mb eb) (he : eb ≤ ea) : addS sa ma ea sb mb eb = Ieee.double.nearest (if sumM sa (ma * 2 ^ (ea - eb).toNat) sb mb = 0 then sa && sb else decide (sumM sa (ma * 2 ^ (ea - eb).toNat) sb mb < 0)) (sumM sa (ma * 2 ^ (ea - eb).toNat) sb mb).natAbs eb := by
  have hma := ha.lt
  have hmb := hb.lt
  have hma0 := ha.nz
  have hmb0 := hb.nz
  unfold addS
  dsimp only
  generalize hd : (ea - eb).toNat = d
  by_cases h10 : d ≤ 10
  · simp only [if_pos h10]
    have hp : 2 ^ d ≤ 2 ^ 10 := Nat.pow_le_pow_right (by decide) h10
    have hA : ma * 2 ^ d < 2 ^ 63 := by
      have h1 : ma * 2 ^ d ≤ ma * 2 ^ 10 := Nat.mul_le_mul_left _ hp
      have : (2 : Nat) ^ 63 = 9007199254740992 * 2 ^ 10 := by decide
      omega
    have hA0 : ma * 2 ^ d ≠ 0 := Nat.mul_ne_zero hma0 (Nat.ne_of_gt (Nat.pow_pos (by decide)))
    generalize ma * 2 ^ d = A at hA hA0
    have h63 : (2 : Nat) ^ 63 = 9223372036854775808 := by decide
    have h64 : (2 : Nat) ^ 64 = 18446744073709551616 := by decide
    have c1 : sumM sa A sb mb = if sa = sb then (if sa then -((A + mb : Nat) : Int) else (A + mb : Nat)) else (if sa then (mb : Int) - A else (A : Int) - mb) := by
      unfold sumM
      cases sa <;> cases sb <;> simp <;> omega
    rw [c1]
    by_cases hs : sa = sb
    · simp only [if_pos hs]
      subst hs
      rw [pack_exact sa (by omega)]
      cases sa
      · simp only [Bool.false_eq_true, if_false]
        rw [if_neg (by omega), decide_eq_false (by omega)]
        rfl
      · simp only [if_true]
        rw [if_neg (by omega), decide_eq_true (by omega)]
        congr 1
        omega
    · simp only [if_neg hs]
      by_cases heq : A = mb
      · rw [if_pos ⟨heq, trivial⟩]
        have z : (if sa then (mb : Int) - A else (A : Int) - mb) = 0 := by cases sa <;> simp <;> omega
        rw [z, if_pos rfl]
        have zz : (sa && sb) = false := by cases sa <;> cases sb <;> simp_all
        rw [zz]
        rfl
      · rw [if_neg (fun q => heq q.1)]
        by_cases hlt : A < mb
        · rw [if_pos hlt, pack_exact sb (by omega)]
          have hsb : sb = !sa := by cases sa <;> cases sb <;> simp_all
          rw [hsb]
          cases sa
          · simp only [Bool.false_eq_true, if_false]
            rw [if_neg (by omega), decide_eq_true (by omega)]
            congr 1
            omega
          · simp only [if_true]
            rw [if_neg (by omega), decide_eq_false (by omega)]
            congr 1
            omega
        · rw [if_neg hlt]
          simp only [Bool.false_eq_true, if_false]
          rw [pack_exact sa (by omega)]
          cases sa
          · simp only [Bool.false_eq_true, if_false]
            rw [if_neg (by omega), decide_eq_false (by omega)]
            congr 1
            omega
          · simp only [if_true]
            rw [if_neg (by omega), decide_eq_true (by omega)]
            congr 1
            omega
  · simp only [if_neg h10]
    have hlo := hb.lo
    have hn := ha.nm (by omega)
    obtain ⟨d', hd'⟩ : ∃ d', d = 10 + d' := ⟨d - 10, by omega⟩
    subst hd'
    have hd1 : 1 ≤ d' := by omega
    rw [show 10 + d' - 10 = d' by omega]
    have hpow : ma * 2 ^ (10 + d') = ma * 2 ^ 10 * 2 ^ d' := by rw [Nat.pow_add, Nat.mul_assoc]
    have pd : 0 < 2 ^ d' := Nat.pow_pos (by decide)
    have pd2 : 2 ≤ 2 ^ d' := by
      have : 2 ^ 1 ≤ 2 ^ d' := Nat.pow_le_pow_right (by decide) hd1
      omega
    -- the smaller one, cut
    have hst : (if 64 ≤ d' then true else decide (mb % 2 ^ d' ≠ 0)) = decide (mb % 2 ^ d' ≠ 0) ∧ (if 64 ≤ d' then 0 else mb / 2 ^ d') = mb / 2 ^ d' := by
      by_cases h64 : 64 ≤ d'
      · rw [if_pos h64, if_pos h64]
        have : 2 ^ 64 ≤ 2 ^ d' := Nat.pow_le_pow_right (by decide) h64
        have h2 : (2 : Nat) ^ 64 = 18446744073709551616 := by decide
        rw [Nat.mod_eq_of_lt (by omega), Nat.div_eq_of_lt (by omega), decide_eq_true hmb0]
        exact ⟨rfl, rfl⟩
      · rw [if_neg h64, if_neg h64]
        exact ⟨rfl, rfl⟩
    rw [hst.1, hst.2, hpow]
    have hex : ea - 10 = eb + (d' : Int) := by omega
    rw [hex]
    have hQ : mb / 2 ^ d' < 9007199254740992 := Nat.lt_of_le_of_lt (Nat.div_le_self _ _) hmb
    have hmbe : mb = mb / 2 ^ d' * 2 ^ d' + mb % 2 ^ d' := by rw [Nat.mul_comm]; exact (Nat.div_add_mod _ _).symm
    have hr : mb % 2 ^ d' < 2 ^ d' := Nat.mod_lt _ pd
    have hM1 : 4611686018427387904 ≤ ma * 2 ^ 10 := by omega
    have hM2 : ma * 2 ^ 10 < 9223372036854775808 := by omega
    generalize ma * 2 ^ 10 = M at *
    generalize hq : mb / 2 ^ d' = q at *
    generalize hrr : mb % 2 ^ d' = r at *
    have h53 : (2 : Nat) ^ 53 = 9007199254740992 := by decide
    have h64 : (2 : Nat) ^ 64 = 18446744073709551616 := by decide
    have hbig : mb < M * 2 ^ d' := by
      have : M * 2 ≤ M * 2 ^ d' := Nat.mul_le_mul_left _ pd2
      omega
    by_cases hs : sa = sb
    · simp only [if_pos hs]
      subst hs
      have hm : M * 2 ^ d' + mb = (M + q) * 2 ^ d' + r := by rw [Nat.add_mul]; omega
      have e1 : (M * 2 ^ d' + mb) / 2 ^ d' = M + q := by
        rw [hm, Nat.mul_comm, Nat.mul_add_div pd, Nat.div_eq_of_lt hr, Nat.add_zero]
      have e2 : (M * 2 ^ d' + mb) % 2 ^ d' = r := by
        rw [hm, Nat.mul_comm, Nat.mul_add_mod, Nat.mod_eq_of_lt hr]
      have := pack_ok sa (mag := M * 2 ^ d' + mb) (d := d') (place := eb) (by rw [e1]; omega) (by rw [e1]; omega) (by rw [e1]; omega)
      rw [e1, e2] at this
      rw [this]
      unfold sumM
      cases sa
      · simp only [Bool.false_eq_true, if_false]
        rw [if_neg (by omega), decide_eq_false (by omega)]
        rfl
      · simp only [if_true]
        rw [if_neg (by omega), decide_eq_true (by omega)]
        congr 1
        omega
    · simp only [if_neg hs]
      have hsb : sb = !sa := by cases sa <;> cases sb <;> simp_all
      rw [if_neg (by omega), if_neg (by omega)]
      have hsum : sumM sa (M * 2 ^ d') sb mb = if sa then -((M * 2 ^ d' - mb : Nat) : Int) else ((M * 2 ^ d' - mb : Nat) : Int) := by
        unfold sumM
        rw [hsb]
        cases sa
        · simp only [Bool.false_eq_true, if_false, Bool.not_false, if_true]; omega
        · simp only [if_true, Bool.not_true, Bool.false_eq_true, if_false]; omega
      have hsgn : (if sumM sa (M * 2 ^ d') sb mb = 0 then sa && sb else decide (sumM sa (M * 2 ^ d') sb mb < 0)) = sa ∧ (sumM sa (M * 2 ^ d') sb mb).natAbs = M * 2 ^ d' - mb := by
        rw [hsum]
        cases sa
        · simp only [Bool.false_eq_true, if_false]
          rw [if_neg (by omega)]
          exact ⟨decide_eq_false (by omega), by omega⟩
        · simp only [if_true]
          rw [if_neg (by omega)]
          exact ⟨decide_eq_true (by omega), by omega⟩
      rw [hsgn.1, hsgn.2]
      by_cases hr0 : r = 0
      · have hd0 : decide (r ≠ 0) = false := by simp [hr0]
        rw [hd0]
        simp only [Bool.false_eq_true, if_false]
        have hm : M * 2 ^ d' - mb = (M - q) * 2 ^ d' := by rw [Nat.sub_mul]; omega
        rw [hm, near_scale sa _ _ _ (by omega), pack_exact sa (by omega)]
      · have hd0 : decide (r ≠ 0) = true := by simp [hr0]
        rw [hd0]
        simp only [if_true]
        have hm : M * 2 ^ d' - mb = (M - q - 1) * 2 ^ d' + (2 ^ d' - r) := by
          rw [Nat.sub_mul, Nat.sub_mul, Nat.one_mul]
          have : (q + 1) * 2 ^ d' ≤ M * 2 ^ d' := Nat.mul_le_mul_right _ (by omega)
          rw [Nat.add_mul, Nat.one_mul] at this
          omega
        have hr2 : 2 ^ d' - r < 2 ^ d' := by omega
        have e1 : (M * 2 ^ d' - mb) / 2 ^ d' = M - q - 1 := by
          rw [hm, Nat.mul_comm, Nat.mul_add_div pd, Nat.div_eq_of_lt hr2, Nat.add_zero]
        have e2 : (M * 2 ^ d' - mb) % 2 ^ d' = 2 ^ d' - r := by
          rw [hm, Nat.mul_comm, Nat.mul_add_mod, Nat.mod_eq_of_lt hr2]
        have := pack_ok sa (mag := M * 2 ^ d' - mb) (d := d') (place := eb) (by rw [e1]; omega) (by rw [e1]; omega) (by rw [e1]; omega)
        rw [e1, e2] at this
        have hd1 : decide (2 ^ d' - r ≠ 0) = true := by simp; omega
        rw [hd1] at this
        exact this
end Go.Proofs.Qxb6500574aGreatDoor
