/-
  moon: PRODUCTS AND QUOTIENTS (numm). Plain; no memory, no walk.
-/
import Derived.Test.Qxb6500574aGreatDoorZN5
namespace Go.Proofs.Qxb6500574aGreatDoor
set_option linter.unusedVariables false
set_option linter.unusedSimpArgs false
/-- how many digits of a product are shifted out -/
def shM (P : Nat) : Nat := P.log2 - 63
def mulM (a b : Nat) : Nat :=
  if isNanM a || isNanM b then nanB
  else
    let s := negM a ^^ negM b
    if isInfM a || isInfM b then (if isZeroM a || isZeroM b then nanB else signM s + infM)
    else if isZeroM a || isZeroM b then signM s
    else
      let p := partsM a
      let q := partsM b
      packM s (p.1 * q.1 / 2 ^ shM (p.1 * q.1)) (p.2 + q.2 + shM (p.1 * q.1)) (decide (p.1 * q.1 % 2 ^ shM (p.1 * q.1) ≠ 0))
theorem zero_parts {x : Nat} (h : u64 x) (hf : absM x < infM) : (partsM x).1 = 0 ↔ isZeroM x = true := by
  constructor
  · intro z
    refine decide_eq_true (Classical.byContradiction fun q => ?_)
    exact (parts_canon h hf q).1.nz z
  · intro z
    rw [parts_zero h (of_decide_eq_true z)]
theorem mul_ok {a b : Nat} (ha : u64 a) (hb : u64 b) : arithN 3 a b = mulM a b := by
  have e : arithN 3 a b = bitsN (((Ieee.double.read a).product (Ieee.double.read b)).map Ieee.double.write) := by
    unfold arithN
    rw [if_neg (by decide), if_neg (by decide), if_pos rfl]
    rfl
  rw [e]
  unfold mulM
  rcases word_cases ha with ⟨a1, a2, a3, a4⟩ | ⟨a1, a2, a3, a3', a4, a5⟩ | ⟨a1, a2, sa, ta, a4⟩
  · rcases word_cases hb with ⟨b1, b2, b3, b4⟩ | ⟨b1, b2, b3, b3', b4, b5⟩ | ⟨b1, b2, sb, tb, b4⟩
    · rw [a4, b4, a2, b2, a3, b3]
      simp only [Bool.or_self, Bool.false_eq_true, if_false, Ieee.Datum.product, Option.map_some, wrNum]
      rw [bits_near]
      by_cases hz : (isZeroM a || isZeroM b) = true
      · rw [if_pos hz]
        have hm : (partsM a).1 * (partsM b).1 = 0 := by
          rcases Bool.or_eq_true_iff.1 hz with z | z
          · rw [(zero_parts ha a1).2 z, Nat.zero_mul]
          · rw [(zero_parts hb b1).2 z, Nat.mul_zero]
        rw [hm]
        unfold Ieee.Format.nearest
        rw [if_pos rfl, word_is, Nat.add_zero]
      · rw [if_neg hz]
        have za : absM a ≠ 0 := fun z => hz (by rw [show isZeroM a = true from decide_eq_true z]; rfl)
        have zb : absM b ≠ 0 := fun z => hz (by rw [show isZeroM b = true from decide_eq_true z]; simp)
        obtain ⟨c1, _⟩ := parts_canon ha a1 za
        obtain ⟨d1, _⟩ := parts_canon hb b1 zb
        have hP : (partsM a).1 * (partsM b).1 ≠ 0 := Nat.mul_ne_zero c1.nz d1.nz
        generalize (partsM a).1 * (partsM b).1 = Pr at hP
        have h1 := Nat.log2_self_le hP
        have h2 := Nat.lt_log2_self (n := Pr)
        have pk : 0 < 2 ^ shM Pr := Nat.pow_pos (by decide)
        have hq : Pr / 2 ^ shM Pr < 2 ^ 64 := by
          rw [Nat.div_lt_iff_lt_mul pk, ← Nat.pow_add]
          refine Nat.lt_of_lt_of_le h2 (Nat.pow_le_pow_right (by decide) ?_)
          unfold shM
          omega
        have hq0 : Pr / 2 ^ shM Pr ≠ 0 := by
          have : 2 ^ shM Pr ≤ Pr := Nat.le_trans (Nat.pow_le_pow_right (by decide) (by unfold shM; omega)) h1
          have := Nat.div_pos this pk
          omega
        have := pack_ok (negM a ^^ negM b) (mag := Pr) (d := shM Pr) (place := (partsM a).2 + (partsM b).2) hq0 hq (fun z => by
          by_cases h63 : Pr.log2 ≤ 63
          · have : shM Pr = 0 := by unfold shM; omega
            rw [this] at z
            simp [Nat.mod_one] at z
          · rw [Nat.le_div_iff_mul_le pk, ← Nat.pow_add]
            refine Nat.le_trans (Nat.pow_le_pow_right (by decide) ?_) h1
            unfold shM
            omega)
        exact this.symm
    · rw [a4, b4, a2, b2, a3, b3, b3']
      simp only [Bool.or_self, Bool.false_eq_true, if_false, Bool.false_or, Bool.or_false, if_true, Ieee.Datum.product]
      by_cases z : (partsM a).1 = 0
      · rw [if_pos z, if_pos ((zero_parts ha a1).1 z)]
        rfl
      · rw [if_neg z, if_neg (fun q => z ((zero_parts ha a1).2 q))]
        simp only [Option.map_some, wrInf]
        rw [bits_inf, Bool.xor_comm]
    · rw [a4, b4, a2, b2]
      rfl
  · rcases word_cases hb with ⟨b1, b2, b3, b4⟩ | ⟨b1, b2, b3, b3', b4, b5⟩ | ⟨b1, b2, sb, tb, b4⟩
    · rw [a4, b4, a2, b2, a3, b3, a3']
      simp only [Bool.or_self, Bool.false_eq_true, if_false, Bool.false_or, Bool.or_false, if_true, Ieee.Datum.product]
      by_cases z : (partsM b).1 = 0
      · rw [if_pos z, if_pos ((zero_parts hb b1).1 z)]
        rfl
      · rw [if_neg z, if_neg (fun q => z ((zero_parts hb b1).2 q))]
        simp only [Option.map_some, wrInf]
        rw [bits_inf]
    · rw [a4, b4, a2, b2, a3, b3, a3', b3']
      simp only [Bool.or_self, Bool.false_eq_true, if_false, if_true, Ieee.Datum.product, Option.map_some, wrInf]
      rw [bits_inf]
    · rw [a4, b4, a2, b2]
      rfl
  · rw [a4, a2]
    rcases word_cases hb with ⟨b1, b2, b3, b4⟩ | ⟨b1, b2, b3, b3', b4, b5⟩ | ⟨b1, b2, sb, tb, b4⟩
    · rw [b4]; rfl
    · rw [b4]; rfl
    · rw [b4]; rfl
/-- the quotient of two numbers that are not zero -/
def divS (s : Bool) (ma : Nat) (ea : Int) (mb : Nat) (eb : Int) : Nat :=
  let x := ma * 2 ^ (52 - ma.log2)
  let y := mb * 2 ^ (52 - mb.log2)
  packM s (x * 2 ^ 62 / y) ((ea - (52 - ma.log2 : Nat)) - (eb - (52 - mb.log2 : Nat)) - 62) (decide (x * 2 ^ 62 % y ≠ 0))
def divM (a b : Nat) : Nat :=
  if isNanM a || isNanM b then nanB
  else
    let s := negM a ^^ negM b
    if isInfM a then (if isInfM b then nanB else signM s + infM)
    else if isInfM b then signM s
    else if isZeroM b then (if isZeroM a then nanB else signM s + infM)
    else if isZeroM a then signM s
    else divS s (partsM a).1 (partsM a).2 (partsM b).1 (partsM b).2
theorem divS_ok {s : Bool} {m n : Nat} {i j : Int} (hm : Canon m i) (hn : Canon n j) : divS s m i n j = Ieee.double.nearest s (2 * (m * 2 ^ (54 + n.log2 - m.log2) / n) + (decide (m * 2 ^ (54 + n.log2 - m.log2) % n ≠ 0)).toNat) (i - j - (54 + n.log2 - m.log2 : Nat) - 1) := by
  have l1 := hm.log.1
  have l2 := hn.log.1
  have n0 := hn.nz
  have m0 := hm.nz
  unfold divS
  dsimp only
  generalize hmore : 54 + n.log2 - m.log2 = more
  have pn : 0 < n := Nat.pos_of_ne_zero n0
  -- the divided numbers are the same up to 2 ^ 8
  have e1 : m * 2 ^ (52 - m.log2) * 2 ^ 62 = m * 2 ^ more * 2 ^ 8 * 2 ^ (52 - n.log2) := by
    rw [Nat.mul_assoc, Nat.mul_assoc, Nat.mul_assoc, ← Nat.pow_add, ← Nat.pow_add, ← Nat.pow_add]
    congr 2
    omega
  rw [e1, Nat.mul_div_mul_right _ _ (Nat.pow_pos (by decide)), Nat.mul_mod_mul_right]
  have e2 : (i - ((52 - m.log2 : Nat) : Int)) - (j - ((52 - n.log2 : Nat) : Int)) - 62 = i - j - (more : Nat) - 8 := by omega
  rw [e2]
  -- bounds of the dividend
  have hX1 : 2 ^ (54 + n.log2) ≤ m * 2 ^ more := by
    have : 2 ^ (54 + n.log2) = 2 ^ m.log2 * 2 ^ more := by rw [← Nat.pow_add]; congr 1; omega
    rw [this]
    exact Nat.mul_le_mul_right _ (Nat.log2_self_le m0)
  have hX2 : m * 2 ^ more < 2 ^ (55 + n.log2) := by
    have : 2 ^ (55 + n.log2) = 2 ^ (m.log2 + 1) * 2 ^ more := by rw [← Nat.pow_add]; congr 1; omega
    rw [this]
    exact Nat.mul_lt_mul_of_pos_right Nat.lt_log2_self (Nat.pow_pos (by decide))
  generalize m * 2 ^ more = X at *
  have hn1 := Nat.log2_self_le n0
  have hn2 := Nat.lt_log2_self (n := n)
  -- the two quotients
  have hQ1 : 2 ^ 53 ≤ X / n := by
    rw [Nat.le_div_iff_mul_le pn]
    have : 2 ^ 53 * n ≤ 2 ^ 53 * 2 ^ (n.log2 + 1) := Nat.mul_le_mul_left _ (by omega)
    rw [← Nat.pow_add, show 53 + (n.log2 + 1) = 54 + n.log2 by omega] at this
    omega
  have hQ2 : X / n < 2 ^ 55 := by
    rw [Nat.div_lt_iff_lt_mul pn]
    have : 2 ^ 55 * 2 ^ n.log2 ≤ 2 ^ 55 * n := Nat.mul_le_mul_left _ hn1
    rw [← Nat.pow_add] at this
    omega
  have hXn : X = n * (X / n) + X % n := (Nat.div_add_mod _ _).symm
  have hρ : X % n < n := Nat.mod_lt _ pn
  generalize X / n = Q at *
  generalize X % n = ρ at *
  have hx8 : X * 2 ^ 8 = n * (Q * 2 ^ 8) + ρ * 2 ^ 8 := by
    rw [hXn, Nat.add_mul, Nat.mul_assoc]
  have q8 : X * 2 ^ 8 / n = Q * 2 ^ 8 + ρ * 2 ^ 8 / n := by rw [hx8, Nat.mul_add_div pn]
  have r8 : X * 2 ^ 8 % n = ρ * 2 ^ 8 % n := by rw [hx8, Nat.mul_add_mod]
  have hc : ρ * 2 ^ 8 / n < 2 ^ 8 := by
    rw [Nat.div_lt_iff_lt_mul pn, Nat.mul_comm]
    exact Nat.mul_lt_mul_of_pos_left hρ (by decide)
  have hcd : ρ * 2 ^ 8 = n * (ρ * 2 ^ 8 / n) + ρ * 2 ^ 8 % n := (Nat.div_add_mod _ _).symm
  rw [q8, r8]
  have hz : ρ = 0 ↔ (ρ * 2 ^ 8 / n = 0 ∧ ρ * 2 ^ 8 % n = 0) := by
    constructor
    · intro z; rw [z]; simp
    · rintro ⟨z1, z2⟩
      rw [z1, z2] at hcd
      omega
  obtain ⟨c, hcc⟩ : ∃ c, ρ * 2 ^ 8 / n = c := ⟨_, rfl⟩
  obtain ⟨r, hrr⟩ : ∃ r, ρ * 2 ^ 8 % n = r := ⟨_, rfl⟩
  rw [hcc] at hc hcd hz ⊢
  rw [hrr] at hcd hz ⊢
  clear q8 r8 hx8 hcc hrr hcd e1 hXn
  have h55 : (2 : Nat) ^ 55 = 36028797018963968 := by decide
  have h53 : (2 : Nat) ^ 53 = 9007199254740992 := by decide
  have h64 : (2 : Nat) ^ 64 = 18446744073709551616 := by decide
  have h8 : (2 : Nat) ^ 8 = 256 := by decide
  have h9 : (2 : Nat) ^ 9 = 512 := by decide
  have hbr : (decide (r ≠ 0)).toNat ≤ 1 := by cases decide (r ≠ 0) <;> decide
  have hbρ : (decide (ρ ≠ 0)).toNat ≤ 1 := by cases decide (ρ ≠ 0) <;> decide
  have dr : (decide (r ≠ 0)).toNat = 0 ↔ r = 0 := by
    by_cases z : r = 0
    · simp [z]
    · simp [z]
  have dρ : (decide (ρ ≠ 0)).toNat = 0 ↔ ρ = 0 := by
    by_cases z : ρ = 0
    · simp [z]
    · simp [z]
  -- by the middle: 2 * q + a mark
  have f1 : (2 * (Q * 2 ^ 8 + c) + (decide (r ≠ 0)).toNat) / 2 ^ 1 = Q * 2 ^ 8 + c := by omega
  have f2 : decide ((2 * (Q * 2 ^ 8 + c) + (decide (r ≠ 0)).toNat) % 2 ^ 1 ≠ 0) = decide (r ≠ 0) := by
    refine decide_eq_decide.2 ?_
    have : (2 * (Q * 2 ^ 8 + c) + (decide (r ≠ 0)).toNat) % 2 ^ 1 = (decide (r ≠ 0)).toNat := by omega
    rw [this]
    constructor
    · intro z q; exact z (dr.2 q)
    · intro z q; exact z (dr.1 q)
  have g1 : (2 * (Q * 2 ^ 8 + c) + (decide (r ≠ 0)).toNat) / 2 ^ 9 = Q := by omega
  have g2 : decide ((2 * (Q * 2 ^ 8 + c) + (decide (r ≠ 0)).toNat) % 2 ^ 9 ≠ 0) = decide (ρ ≠ 0) := by
    refine decide_eq_decide.2 ?_
    have : (2 * (Q * 2 ^ 8 + c) + (decide (r ≠ 0)).toNat) % 2 ^ 9 = 2 * c + (decide (r ≠ 0)).toNat := by omega
    rw [this]
    constructor
    · intro z q
      obtain ⟨z1, z2⟩ := hz.1 q
      exact z (by rw [z1, dr.2 z2])
    · intro z q
      exact z (hz.2 ⟨by omega, dr.1 (by omega)⟩)
  have k1 : (2 * Q + (decide (ρ ≠ 0)).toNat) / 2 ^ 1 = Q := by omega
  have k2 : decide ((2 * Q + (decide (ρ ≠ 0)).toNat) % 2 ^ 1 ≠ 0) = decide (ρ ≠ 0) := by
    refine decide_eq_decide.2 ?_
    have : (2 * Q + (decide (ρ ≠ 0)).toNat) % 2 ^ 1 = (decide (ρ ≠ 0)).toNat := by omega
    rw [this]
    constructor
    · intro z q; exact z (dρ.2 q)
    · intro z q; exact z (dρ.1 q)
  have p1 := pack_ok s (mag := 2 * (Q * 2 ^ 8 + c) + (decide (r ≠ 0)).toNat) (d := 1) (place := i - j - (more : Nat) - 8 - 1) (by rw [f1]; omega) (by rw [f1]; omega) (by rw [f1]; omega)
  have p2 := pack_ok s (mag := 2 * (Q * 2 ^ 8 + c) + (decide (r ≠ 0)).toNat) (d := 9) (place := i - j - (more : Nat) - 8 - 1) (by rw [g1]; omega) (by rw [g1]; omega) (by rw [g1]; omega)
  have p3 := pack_ok s (mag := 2 * Q + (decide (ρ ≠ 0)).toNat) (d := 1) (place := i - j - (more : Nat) - 1) (by rw [k1]; omega) (by rw [k1]; omega) (by rw [k1]; omega)
  rw [f1, f2] at p1
  rw [g1, g2] at p2
  rw [k1, k2] at p3
  rw [← p3]
  have w1 : i - j - (more : Nat) - 8 - 1 + ((1 : Nat) : Int) = i - j - (more : Nat) - 8 := by omega
  have w2 : i - j - (more : Nat) - 8 - 1 + ((9 : Nat) : Int) = i - j - (more : Nat) := by omega
  have w3 : i - j - (more : Nat) - 1 + ((1 : Nat) : Int) = i - j - (more : Nat) := by omega
  rw [w1] at p1
  rw [w2] at p2
  have hk : decide (r * 2 ^ (52 - n.log2) ≠ 0) = decide (r ≠ 0) := by
    refine decide_eq_decide.2 ⟨fun z q => z (by rw [q, Nat.zero_mul]), fun z q => ?_⟩
    rcases Nat.mul_eq_zero.1 q with q | q
    · exact z q
    · exact absurd q (Nat.ne_of_gt (Nat.pow_pos (by decide)))
  rw [w3, hk, p1, p2]
theorem div_ok {a b : Nat} (ha : u64 a) (hb : u64 b) : arithN 4 a b = divM a b := by
  have e : arithN 4 a b = bitsN (((Ieee.double.read a).quotient 54 (Ieee.double.read b)).map Ieee.double.write) := by
    unfold arithN
    rw [if_neg (by decide), if_neg (by decide), if_neg (by decide), if_pos rfl]
    rfl
  rw [e]
  unfold divM
  rcases word_cases ha with ⟨a1, a2, a3, a4⟩ | ⟨a1, a2, a3, a3', a4, a5⟩ | ⟨a1, a2, sa, ta, a4⟩
  · rcases word_cases hb with ⟨b1, b2, b3, b4⟩ | ⟨b1, b2, b3, b3', b4, b5⟩ | ⟨b1, b2, sb, tb, b4⟩
    · rw [a4, b4, a2, b2, a3, b3]
      simp only [Bool.or_self, Bool.false_eq_true, if_false, Ieee.Datum.quotient]
      by_cases zb : (partsM b).1 = 0
      · rw [if_pos zb, if_pos ((zero_parts hb b1).1 zb)]
        by_cases za : (partsM a).1 = 0
        · rw [if_pos za, if_pos ((zero_parts ha a1).1 za)]
          rfl
        · rw [if_neg za, if_neg (fun q => za ((zero_parts ha a1).2 q))]
          simp only [Option.map_some, wrInf]
          rw [bits_inf]
      · rw [if_neg zb, if_neg (fun q => zb ((zero_parts hb b1).2 q))]
        simp only [Option.map_some, wrNum]
        rw [bits_near]
        have zb' : absM b ≠ 0 := fun q => zb ((zero_parts hb b1).2 (decide_eq_true q))
        obtain ⟨d1, _⟩ := parts_canon hb b1 zb'
        by_cases za : (partsM a).1 = 0
        · rw [if_pos ((zero_parts ha a1).1 za), za]
          simp only [Nat.zero_shiftLeft, Nat.zero_div, Nat.zero_mod]
          unfold Ieee.Format.nearest
          rw [if_pos (by simp), word_is, Nat.add_zero]
        · rw [if_neg (fun q => za ((zero_parts ha a1).2 q))]
          have za' : absM a ≠ 0 := fun q => za ((zero_parts ha a1).2 (decide_eq_true q))
          obtain ⟨c1, _⟩ := parts_canon ha a1 za'
          rw [divS_ok c1 d1]
          simp only [Nat.shiftLeft_eq]
          congr 2
          by_cases z : (partsM a).1 * 2 ^ (54 + (partsM b).1.log2 - (partsM a).1.log2) % (partsM b).1 = 0
          · simp [z]
          · simp [z]
    · rw [a4, b4, a2, b2, a3, b3]
      simp only [Bool.or_self, Bool.false_eq_true, if_false, if_true, Ieee.Datum.quotient, Option.map_some, wrNum]
      rw [bits_near]
      unfold Ieee.Format.nearest
      rw [if_pos rfl, word_is, Nat.add_zero]
    · rw [a4, b4, a2, b2]
      rfl
  · rcases word_cases hb with ⟨b1, b2, b3, b4⟩ | ⟨b1, b2, b3, b3', b4, b5⟩ | ⟨b1, b2, sb, tb, b4⟩
    · rw [a4, b4, a2, b2, a3, b3]
      simp only [Bool.or_self, Bool.false_eq_true, if_false, if_true, Ieee.Datum.quotient, Option.map_some, wrInf]
      rw [bits_inf]
    · rw [a4, b4, a2, b2, a3, b3]
      rfl
    · rw [a4, b4, a2, b2]
      rfl
  · rw [a4, a2]
    rcases word_cases hb with ⟨b1, b2, b3, b4⟩ | ⟨b1, b2, b3, b3', b4, b5⟩ | ⟨b1, b2, sb, tb, b4⟩
    · rw [b4]; rfl
    · rw [b4]; rfl
    · rw [b4]; rfl
end Go.Proofs.Qxb6500574aGreatDoor
