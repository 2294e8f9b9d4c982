/-
  NUMBERS, PLAIN: a number's text within a source is one token; the text of the negative. No program.
-/
import Derived.Test.Qxb6500574aGreatDoorWNu4
import Derived.Test.Qxb6500574aGreatDoorWPlain
namespace Go.Proofs.Qxb6500574aGreatDoor
open Go
set_option linter.unusedVariables false
theorem isDig_iff (c : UInt8) : isDig c = true ↔ isD c := by
  unfold isDig isD
  rw [Bool.and_eq_true, decide_eq_true_iff, decide_eq_true_iff, UInt8.le_iff_toNat_le, UInt8.le_iff_toNat_le]
  rfl
theorem span_app : ∀ (ds rest : Bs), (∀ c ∈ ds, isD c) → (∀ c, rest.head? = some c → ¬ isD c) → span isDig (ds ++ rest) = ds.length := by
  intro ds
  unfold span
  induction ds with
  | nil =>
    intro rest _ h
    cases rest with
    | nil => rfl
    | cons c rest =>
      have : isDig c = false := by
        cases hc : isDig c with
        | false => rfl
        | true => exact absurd ((isDig_iff c).1 hc) (h c rfl)
      simp [this]
  | cons c ds ih =>
    intro rest h hr
    have : isDig c = true := (isDig_iff c).2 (h c (by simp))
    rw [List.cons_append, List.takeWhile_cons, if_pos this, List.length_cons, ih rest (fun x hx => h x (by simp [hx])) hr, List.length_cons]
/-- what may follow a number in a source -/
def sepC (c : UInt8) : Prop := ¬ isD c ∧ c ≠ 46 ∧ c ≠ 112
theorem numLen_fmt {x : Nat} (h : FmtF x) {c : UInt8} (hc : sepC c) (q : Bs) : numLen (fmtN x ++ c :: q) = (fmtN x).length := by
  have hcq : ∀ z, (c :: q).head? = some z → ¬ isD z := by intro z hz; simp at hz; subst hz; exact hc.1
  rcases h with ⟨v, _, e, _⟩ | ⟨k, e, _, _, h, _⟩
  · rw [e]
    unfold numLen
    rw [span_app _ _ (decN_digit v) hcq]
    simp only [List.drop_left]
    rw [if_pos ⟨hc.2.1, hc.2.2⟩]
  · have e1 : fmtN x ++ c :: q = decN k ++ (112 :: ((if e < 0 then [45] else []) ++ (decN e.natAbs ++ c :: q))) := by rw [h]; simp
    obtain ⟨d, r, hd, hD⟩ := dec_head e.natAbs
    rw [e1]
    unfold numLen
    rw [span_app _ _ (decN_digit k) (by intro z hz; simp at hz; subst hz; unfold isD; decide)]
    simp only [List.drop_left]
    rw [if_neg (by simp)]
    have hs := span_app (decN e.natAbs) (c :: q) (decN_digit _) hcq
    by_cases hn : e < 0
    · simp only [if_pos hn, List.cons_append, List.nil_append]
      have h45 : isDig 45 = false := by decide
      have hh : headDig (decN e.natAbs ++ c :: q) = true := by rw [hd]; exact (isDig_iff d).2 hD
      rw [h45, if_neg (by simp), if_pos ⟨trivial, trivial, hh⟩, hs, h, if_pos hn]
      simp
      omega
    · simp only [if_neg hn, List.nil_append]
      have hh : decN e.natAbs ++ c :: q = d :: (r ++ c :: q) := by rw [hd]; rfl
      rw [h, if_neg hn]
      rw [hh] at hs ⊢
      simp only
      rw [if_pos ((isDig_iff d).2 hD), hs]
      simp
      omega
theorem dig_not {d : UInt8} (h : isD d) : ¬ (d = 32 ∨ d = 9 ∨ d = 10 ∨ d = 13) ∧ d ≠ 45 ∧ isLet d = false ∧ isDig d = true := by
  refine ⟨?_, ?_, ?_, (isDig_iff d).2 h⟩
  · rintro (e | e | e | e) <;> (subst e; exact absurd h (by unfold isD; decide))
  · intro e; subst e; exact absurd h (by unfold isD; decide)
  · unfold isLet
    have h1 : decide (97 ≤ d) = false := decide_eq_false fun hc => by
      have := UInt8.le_iff_toNat_le.1 hc
      have e97 : (97 : UInt8).toNat = 97 := rfl
      unfold isD at h; omega
    have h2 : decide (65 ≤ d) = false := decide_eq_false fun hc => by
      have := UInt8.le_iff_toNat_le.1 hc
      have e65 : (65 : UInt8).toNat = 65 := rfl
      unfold isD at h; omega
    have h3 : (d == 95) = false := by
      cases hq : (d == 95) with
      | false => rfl
      | true => have : d = 95 := by simpa using hq
                subst this; exact absurd h (by unfold isD; decide)
    rw [h1, h2, h3]
    rfl
theorem scan_fmt {x : Nat} (hx : x < 9218868437227405312) {c : UInt8} (hc : sepC c) (q : Bs) (f p : Nat) : scanN (f + 1) p (fmtN x ++ c :: q) = ⟨3, p, [], x, 0⟩ :: scanN f (p + (fmtN x).length) (c :: q) := by
  have hF := fmt_form hx
  obtain ⟨d, r, hd, hD⟩ := fmt_head hF
  obtain ⟨n1, n2, n3, n4⟩ := dig_not hD
  have hn := numLen_fmt hF hc q
  have e : fmtN x ++ c :: q = d :: (r ++ c :: q) := by rw [hd]; rfl
  have ht : (fmtN x ++ c :: q).take (fmtN x).length = fmtN x := List.take_left
  have hdr : (fmtN x ++ c :: q).drop (fmtN x).length = c :: q := List.drop_left
  rw [e] at hn ht hdr ⊢
  conv => lhs; unfold scanN
  simp only
  rw [if_neg n1, if_neg (fun hc => n2 hc.1), n3, if_neg (by simp), n4, if_pos rfl, hn, ht, hdr, parse_fmt hx]
/-- more steps than bytes: all the same -/
theorem fmt_neg {x : Nat} (hx : x < 9218868437227405312) : fmtN (negN x) = 45 :: fmtN x := by
  by_cases h0 : x = 0
  · subst h0; decide +kernel
  obtain ⟨m, p, c, rd, eb⟩ := read_fin hx h0
  have e63 : (2 : Nat) ^ 63 = 9223372036854775808 := by rfl
  have e52 : (2 : Nat) ^ 52 = 4503599627370496 := by rfl
  have hxor : x ^^^ 2 ^ 63 = x + 2 ^ 63 := by
    rw [Nat.xor_comm]
    have := Nat.two_pow_add_eq_or_of_lt (i := 63) (b := x) (by rw [e63]; omega) 1
    rw [Nat.mul_one] at this
    have h2 : 2 ^ 63 ^^^ x = 2 ^ 63 ||| x := by
      have hand : 2 ^ 63 &&& x = 0 := by
        apply Nat.eq_of_testBit_eq
        intro i
        rw [Nat.testBit_and, Nat.testBit_two_pow, Nat.zero_testBit]
        by_cases h : 63 = i
        · subst h
          rw [Nat.testBit_lt_two_pow (by rw [e63]; omega)]
          simp
        · simp [h]
      apply Nat.eq_of_testBit_eq
      intro i
      have := congrArg (fun z => Nat.testBit z i) hand
      simp only [Nat.testBit_and, Nat.zero_testBit] at this
      rw [Nat.testBit_xor, Nat.testBit_or]
      cases h1 : (2 ^ 63).testBit i <;> cases h3 : x.testBit i <;> simp_all
    rw [h2, ← this, Nat.add_comm]
  have hnn : isNan (x + 2 ^ 63) = false := by
    cases hn : isNan (x + 2 ^ 63) with
    | false => rfl
    | true =>
      have := (nan_bits _).1 hn
      rw [e63] at this
      omega
  have hneg : negN x = x + 2 ^ 63 := by
    unfold negN bitsN
    simp only
    rw [hxor, hnn]
    rfl
  have rdn : FloatKind.f64.decode (x + 2 ^ 63) = .number true m p := by
    have h1 : Ieee.double.read x = .number false m p := rd
    have hd : FloatKind.f64.decode (x + 2 ^ 63) = Ieee.double.read (x + 2 ^ 63) := rfl
    rw [hd]
    unfold Ieee.Format.read at h1 ⊢
    have hb : Ieee.double.binade = 4503599627370496 := rfl
    have hs : Ieee.double.signWeight = 9223372036854775808 := rfl
    have hi : Ieee.double.infRung = 9218868437227405312 := rfl
    have hl : Ieee.double.leastPlace = -1074 := rfl
    rw [e63]
    have q1 : (x + 9223372036854775808) % 9223372036854775808 = x := by omega
    have q2 : ((x + 9223372036854775808) / 9223372036854775808 % 2 == 1) = true := by
      have : (x + 9223372036854775808) / 9223372036854775808 = 1 := by omega
      rw [this]; rfl
    have q3 : x % 9223372036854775808 = x := by omega
    simp only [hb, hs, hi, hl, q1, q2, q3] at h1 ⊢
    by_cases hng : x < 4503599627370496
    · rw [if_pos hng] at h1 ⊢
      obtain ⟨_, a2, a3⟩ := Ieee.Datum.number.inj h1
      exact congr (congrArg (Ieee.Datum.number true) a2) a3
    · rw [if_neg hng] at h1 ⊢
      rw [if_pos hx] at h1 ⊢
      obtain ⟨_, a2, a3⟩ := Ieee.Datum.number.inj h1
      exact congr (congrArg (Ieee.Datum.number true) a2) a3
  have f1 : (fOrd (x + 2 ^ 63) maxFin == some .gt) = false := by
    rw [ord_num _ maxFin rdn dec_max]
    refine cmp_gt ?_
    rw [signed_pos]
    unfold Ieee.signed
    rw [if_pos rfl]
    generalize m <<< (p - min p 971).toNat = A
    generalize 9007199254740991 * 2 ^ (971 - min p 971).toNat = B
    omega
  have f2 : (fOrd (x + 2 ^ 63) (maxFin + 2 ^ 63) == some .lt) = false := by
    rw [ord_num _ _ rdn dec_mmax]
    have h1 := c.hi
    have h2 := c.lt
    rw [show min p 971 = p by omega, show (p - p).toNat = 0 by omega]
    refine cmp_lt ?_
    unfold Ieee.signed
    rw [if_pos rfl, if_pos rfl, Nat.shiftLeft_zero, Nat.shiftLeft_eq]
    have : 0 < 2 ^ (971 - p).toNat := Nat.two_pow_pos _
    generalize 2 ^ (971 - p).toNat = K at *
    have := Nat.mul_le_mul_left 9007199254740991 this
    omega
  rw [hneg]
  unfold fmtN
  have g1 : (x + 2 ^ 63) / 2 ^ 63 = 1 := by rw [e63]; omega
  have g2 : (x + 2 ^ 63) % 2 ^ 63 = x := by rw [e63]; omega
  have g3 : (x + 2 ^ 63) % 2 ^ 52 = x % 2 ^ 52 := by rw [e63, e52]; omega
  have g4 : x / 2 ^ 63 = 0 := by rw [e63]; omega
  have g5 : x % 2 ^ 63 = x := by rw [e63]; omega
  rw [hnn, f1, f2, fin_nan rd, fin_max rd c, fin_mmax rd c]
  simp only [Bool.false_eq_true, if_false, g1, g2, g3, g4, g5, if_true]
  rw [if_neg (by decide : ¬ (1 : Nat) = 0)]
  split
  · rfl
  · simp
end Go.Proofs.Qxb6500574aGreatDoor
