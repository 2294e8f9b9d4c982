/-
  moon: ORDER, WHOLE NUMBERS (numm). Plain; no memory, no walk.
-/
import Derived.Test.Qxb6500574aGreatDoorZN8
namespace Go.Proofs.Qxb6500574aGreatDoor
set_option linter.unusedVariables false
set_option linter.unusedSimpArgs false
theorem int_cmp_lt {a b : Int} (h : a < b) : compare a b = .lt := by
  show compareOfLessAndEq a b = .lt
  unfold compareOfLessAndEq
  rw [if_pos h]
theorem int_cmp_eq {a b : Int} (h : a = b) : compare a b = .eq := by
  show compareOfLessAndEq a b = .eq
  unfold compareOfLessAndEq
  rw [if_neg (by omega), if_pos h]
theorem int_cmp_gt {a b : Int} (h : b < a) : compare a b = .gt := by
  show compareOfLessAndEq a b = .gt
  unfold compareOfLessAndEq
  rw [if_neg (by omega), if_neg (by omega)]
/-- signs and magnitudes tell the order -/
theorem sg_cmp {A B X Y : Nat} (s t : Bool) (h1 : A < B ↔ X < Y) (h2 : B < A ↔ Y < X) (h3 : A = 0 ↔ X = 0) (h4 : B = 0 ↔ Y = 0) : compare (if s then -(A : Int) else (A : Int)) (if t then -(B : Int) else (B : Int)) = compare (if s then -(X : Int) else (X : Int)) (if t then -(Y : Int) else (Y : Int)) := by
  have go : ∀ {a b x y : Int}, (a < b ↔ x < y) → (b < a ↔ y < x) → compare a b = compare x y := fun {a b x y} g1 g2 => by
    rcases Int.lt_trichotomy a b with z | z | z
    · rw [int_cmp_lt z, int_cmp_lt (g1.1 z)]
    · have : ¬ x < y := fun q => by have := g1.2 q; omega
      have : ¬ y < x := fun q => by have := g2.2 q; omega
      rw [int_cmp_eq z, int_cmp_eq (by omega)]
    · rw [int_cmp_gt z, int_cmp_gt (g2.1 z)]
  cases s <;> cases t <;> simp only [Bool.false_eq_true, if_false, if_true] <;> refine go ?_ ?_ <;> omega
theorem fin_mag {x : Nat} (h : u64 x) (hf : absM x < infM) : (absM x = 0 ∧ (partsM x).1 = 0) ∨ (absM x ≠ 0 ∧ Canon (partsM x).1 (partsM x).2 ∧ bitsOf (partsM x).1 (partsM x).2 = absM x) := by
  by_cases z : absM x = 0
  · exact .inl ⟨z, by rw [parts_zero h z]⟩
  · obtain ⟨c1, c2⟩ := parts_canon h hf z
    exact .inr ⟨z, c1, c2⟩
theorem key_of {x : Nat} : keyM x = if negM x then -(absM x : Int) else (absM x : Int) := rfl
theorem ord_ok {a b : Nat} (ha : u64 a) (hb : u64 b) (na : isNanM a = false) (nb : isNanM b = false) : fOrd a b = some (compare (keyM a) (keyM b)) := by
  have e : fOrd a b = (Ieee.double.read a).order (Ieee.double.read b) := rfl
  rw [e, key_of, key_of]
  rcases word_cases ha with ⟨a1, a2, a3, a4⟩ | ⟨a1, a2, a3, a3', a4, a5⟩ | ⟨a1, a2, _⟩
  · rcases word_cases hb with ⟨b1, b2, b3, b4⟩ | ⟨b1, b2, b3, b3', b4, b5⟩ | ⟨b1, b2, _⟩
    · rw [a4, b4]
      simp only [Ieee.Datum.order, signed_is]
      congr 1
      generalize hbase : min (partsM a).2 (partsM b).2 = base
      have pa : base ≤ (partsM a).2 := by omega
      have pb : base ≤ (partsM b).2 := by omega
      have P1 : 0 < 2 ^ ((partsM a).2 - base).toNat := Nat.pow_pos (by decide)
      have P2 : 0 < 2 ^ ((partsM b).2 - base).toNat := Nat.pow_pos (by decide)
      refine sg_cmp _ _ ?_ ?_ ?_ ?_
      · rcases fin_mag ha a1 with ⟨z, z'⟩ | ⟨z, c, d⟩
        · rw [z', z, Nat.zero_mul]
          rcases fin_mag hb b1 with ⟨y, y'⟩ | ⟨y, c2, d2⟩
          · rw [y', y, Nat.zero_mul]
          · have := Nat.mul_pos (Nat.pos_of_ne_zero c2.nz) P2
            omega
        · rcases fin_mag hb b1 with ⟨y, y'⟩ | ⟨y, c2, d2⟩
          · rw [y', y, Nat.zero_mul]
            omega
          · rw [← d, ← d2]
            exact mag_lt c c2 pa pb
      · rcases fin_mag ha a1 with ⟨z, z'⟩ | ⟨z, c, d⟩
        · rw [z', z, Nat.zero_mul]
          omega
        · rcases fin_mag hb b1 with ⟨y, y'⟩ | ⟨y, c2, d2⟩
          · rw [y', y, Nat.zero_mul]
            have := Nat.mul_pos (Nat.pos_of_ne_zero c.nz) P1
            omega
          · rw [← d, ← d2]
            exact mag_lt c2 c pb pa
      · rcases fin_mag ha a1 with ⟨z, z'⟩ | ⟨z, c, d⟩
        · rw [z', z, Nat.zero_mul]
        · have := Nat.mul_pos (Nat.pos_of_ne_zero c.nz) P1
          omega
      · rcases fin_mag hb b1 with ⟨z, z'⟩ | ⟨z, c, d⟩
        · rw [z', z, Nat.zero_mul]
        · have := Nat.mul_pos (Nat.pos_of_ne_zero c.nz) P2
          omega
    · rw [a4, b4, b1]
      simp only [Ieee.Datum.order]
      congr 1
      have : infM = 9218868437227405312 := rfl
      cases negM b
      · simp only [Bool.false_eq_true, if_false]
        rw [int_cmp_lt (by cases negM a <;> simp <;> omega)]
      · simp only [if_true]
        rw [int_cmp_gt (by cases negM a <;> simp <;> omega)]
    · rw [b2] at nb; cases nb
  · rcases word_cases hb with ⟨b1, b2, b3, b4⟩ | ⟨b1, b2, b3, b3', b4, b5⟩ | ⟨b1, b2, _⟩
    · rw [a4, b4, a1]
      simp only [Ieee.Datum.order]
      congr 1
      have : infM = 9218868437227405312 := rfl
      cases negM a
      · simp only [Bool.false_eq_true, if_false]
        rw [int_cmp_gt (by cases negM b <;> simp <;> omega)]
      · simp only [if_true]
        rw [int_cmp_lt (by cases negM b <;> simp <;> omega)]
    · rw [a4, b4, a1, b1]
      simp only [Ieee.Datum.order]
      congr 1
      have : (0 : Int) < infM := by decide
      cases negM a <;> cases negM b <;> simp only [Bool.false_eq_true, if_false, if_true]
      · rw [int_cmp_eq rfl]; rfl
      · rw [int_cmp_gt (by omega)]; rfl
      · rw [int_cmp_lt (by omega)]; rfl
      · rw [int_cmp_eq rfl]; rfl
    · rw [b2] at nb; cases nb
  · rw [a2] at na; cases na
theorem ord_nan {a b : Nat} (ha : u64 a) (hb : u64 b) (h : isNanM a = true ∨ isNanM b = true) : fOrd a b = none := by
  have e : fOrd a b = (Ieee.double.read a).order (Ieee.double.read b) := rfl
  rw [e]
  rcases h with z | z
  · obtain ⟨s, t, q⟩ := readNan ha (of_decide_eq_true z)
    rw [q]
    cases Ieee.double.read b <;> rfl
  · obtain ⟨s, t, q⟩ := readNan hb (of_decide_eq_true z)
    rw [q]
    cases Ieee.double.read a <;> rfl
/-- less -/
def ordK (x : Nat) : Nat := if negM x then 18446744073709551615 - x else x + 9223372036854775808
def lessM (a b : Nat) : Bool := if isZeroM a && isZeroM b then false else decide (ordK a < ordK b)
def cmpM (op : Int) (a b : Nat) : Bool :=
  if isNanM a || isNanM b then decide (op = 2)
  else
    let eq := (isZeroM a && isZeroM b) || decide (a = b)
    if op = 1 then eq
    else if op = 2 then !eq
    else if op = 3 then lessM a b
    else if op = 4 then (eq || lessM a b)
    else if op = 5 then lessM b a
    else if op = 6 then (eq || lessM b a)
    else false
theorem less_key {a b : Nat} (ha : u64 a) (hb : u64 b) : lessM a b = decide (keyM a < keyM b) := by
  have h1 := abs_sgn ha
  have h2 := abs_sgn hb
  have l1 : absM a < 9223372036854775808 := Nat.mod_lt _ (by decide)
  have l2 : absM b < 9223372036854775808 := Nat.mod_lt _ (by decide)
  unfold lessM isZeroM ordK keyM
  generalize absM a = x at *
  generalize absM b = y at *
  have s1 : ∀ s, signM s = if s then 9223372036854775808 else 0 := fun s => rfl
  rw [s1] at h1 h2
  by_cases z : x = 0 ∧ y = 0
  · rw [decide_eq_true z.1, decide_eq_true z.2]
    simp only [Bool.and_self, if_true]
    refine (decide_eq_false ?_).symm
    rw [z.1, z.2]
    cases negM a <;> cases negM b <;> simp
  · have : (decide (x = 0) && decide (y = 0)) = false := by
      cases hx : decide (x = 0) with
      | false => rfl
      | true =>
        cases hy : decide (y = 0) with
        | false => rfl
        | true => exact absurd ⟨of_decide_eq_true hx, of_decide_eq_true hy⟩ z
    rw [this]
    simp only [Bool.false_eq_true, if_false]
    refine decide_eq_decide.2 ?_
    cases hna : negM a <;> cases hnb : negM b <;> rw [hna] at h1 <;> rw [hnb] at h2 <;> simp only [Bool.false_eq_true, if_false, if_true] at h1 h2 ⊢ <;> omega
theorem eq_key {a b : Nat} (ha : u64 a) (hb : u64 b) : ((isZeroM a && isZeroM b) || decide (a = b)) = decide (keyM a = keyM b) := by
  have h1 := abs_sgn ha
  have h2 := abs_sgn hb
  unfold isZeroM keyM
  generalize absM a = x at *
  generalize absM b = y at *
  have s1 : ∀ s, signM s = if s then 9223372036854775808 else 0 := fun s => rfl
  rw [s1] at h1 h2
  have key : ((x = 0 ∧ y = 0) ∨ a = b) ↔ ((if negM a then -(x : Int) else (x : Int)) = (if negM b then -(y : Int) else (y : Int))) := by
    cases hna : negM a <;> cases hnb : negM b
    · rw [hna] at h1; rw [hnb] at h2
      simp only [Bool.false_eq_true, if_false] at h1 h2 ⊢
      omega
    · rw [hna] at h1; rw [hnb] at h2
      simp only [Bool.false_eq_true, if_false, if_true] at h1 h2 ⊢
      constructor
      · rintro (z | z)
        · omega
        · rw [z, hnb] at hna; cases hna
      · intro z
        left
        omega
    · rw [hna] at h1; rw [hnb] at h2
      simp only [Bool.false_eq_true, if_false, if_true] at h1 h2 ⊢
      constructor
      · rintro (z | z)
        · omega
        · rw [z, hnb] at hna; cases hna
      · intro z
        left
        omega
    · rw [hna] at h1; rw [hnb] at h2
      simp only [if_true] at h1 h2 ⊢
      omega
  rw [← Bool.decide_and, ← Bool.decide_or]
  exact decide_eq_decide.2 key
theorem cmp_ok {a b : Nat} (ha : u64 a) (hb : u64 b) (op : Int) : cmpN op a b = cmpM op a b := by
  unfold cmpN cmpM
  by_cases hn : (isNanM a || isNanM b) = true
  · rw [if_pos hn, ord_nan ha hb (Bool.or_eq_true_iff.1 hn)]
    by_cases o1 : op = 1
    · subst o1; rfl
    rw [if_neg o1]
    by_cases o2 : op = 2
    · subst o2; rfl
    rw [if_neg o2, decide_eq_false o2]
    by_cases o3 : op = 3
    · rw [if_pos o3]; rfl
    rw [if_neg o3]
    by_cases o4 : op = 4
    · rw [if_pos o4]; rfl
    rw [if_neg o4]
    by_cases o5 : op = 5
    · rw [if_pos o5]; rfl
    rw [if_neg o5]
    by_cases o6 : op = 6
    · rw [if_pos o6]; rfl
    rw [if_neg o6]
  · rw [if_neg hn]
    have hna : isNanM a = false := by cases z : isNanM a with | false => rfl | true => rw [z] at hn; simp at hn
    have hnb : isNanM b = false := by cases z : isNanM b with | false => rfl | true => rw [z] at hn; simp at hn
    rw [ord_ok ha hb hna hnb]
    dsimp only
    rw [eq_key ha hb, less_key ha hb, less_key hb ha]
    generalize keyM a = x
    generalize keyM b = y
    rcases Int.lt_trichotomy x y with z | z | z
    · rw [int_cmp_lt z, decide_eq_false (by omega : ¬ x = y), decide_eq_true z, decide_eq_false (by omega : ¬ y < x)]
      rfl
    · rw [int_cmp_eq z, decide_eq_true z, decide_eq_false (by omega : ¬ x < y), decide_eq_false (by omega : ¬ y < x)]
      rfl
    · rw [int_cmp_gt z, decide_eq_false (by omega : ¬ x = y), decide_eq_false (by omega : ¬ x < y), decide_eq_true z]
      rfl
/-- FromInt -/
def fromIntM (i : Int) : Nat := packM (decide (i < 0)) i.natAbs 0 false
theorem fromInt_okM {i : Int} (h1 : -9223372036854775808 ≤ i) (h2 : i < 9223372036854775808) : fromIntN i = fromIntM i := by
  unfold fromIntM
  rw [pack_exact _ (by omega)]
  rfl
end Go.Proofs.Qxb6500574aGreatDoor
