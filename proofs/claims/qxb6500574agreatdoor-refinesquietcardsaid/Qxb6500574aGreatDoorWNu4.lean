/-
  NUMBERS, PLAIN: Parse of Format: the whole. No program.
-/
import Derived.Test.Qxb6500574aGreatDoorWNu3
namespace Go.Proofs.Qxb6500574aGreatDoor
open Go
set_option linter.unusedVariables false
/-- the two forms of a number's text -/
def FmtF (x : Nat) : Prop := (∃ v : Nat, v ≤ 9007199254740992 ∧ fmtN x = decN v ∧ fromIntN (v : Int) = x) ∨
  ∃ (k : Nat) (e : Int), k < 9007199254740992 ∧ e.natAbs < 10000 ∧ fmtN x = decN k ++ [112] ++ (if e < 0 then [45] else []) ++ decN e.natAbs ∧ ldexpN (fromIntN (k : Int)) e = x
theorem down_zero (m : Nat) (p : Int) : (Ieee.Datum.number false m p).integral .down = (Ieee.Datum.number false m p).integral .zero := by
  unfold Ieee.Datum.integral
  simp only [Ieee.Toward.cut, Bool.false_and]
theorem fmt_form {x : Nat} (hx : x < 9218868437227405312) : FmtF x := by
  by_cases h0 : x = 0
  · subst h0
    exact .inl ⟨0, by omega, by decide +kernel, by decide +kernel⟩
  obtain ⟨m, p, c, rd, eb⟩ := read_fin hx h0
  have e63 : (2 : Nat) ^ 63 = 9223372036854775808 := by rfl
  have e52 : (2 : Nat) ^ 52 = 4503599627370496 := by rfl
  have hd0 : x / 2 ^ 63 = 0 := by rw [e63]; exact Nat.div_eq_of_lt (by omega)
  have hm0 : x % 2 ^ 63 = x := by rw [e63]; exact Nat.mod_eq_of_lt (by omega)
  have hF : fmtN x = if (fOrd x two53 == some .lt && fOrd x (floorN x) == some .eq) = true then decN (((FloatKind.f64.decode x).toInt .zero).getD 0).toNat
      else decN ((if x / 2 ^ 52 = 0 then x % 2 ^ 52 else x % 2 ^ 52 + 2 ^ 52) / 2 ^ trail 53 (if x / 2 ^ 52 = 0 then x % 2 ^ 52 else x % 2 ^ 52 + 2 ^ 52)) ++ [112] ++ (if (if x / 2 ^ 52 = 0 then (-1074 : Int) else Int.ofNat (x / 2 ^ 52) - 1075) + (trail 53 (if x / 2 ^ 52 = 0 then x % 2 ^ 52 else x % 2 ^ 52 + 2 ^ 52) : Nat) < 0 then [45] else []) ++ decN ((if x / 2 ^ 52 = 0 then (-1074 : Int) else Int.ofNat (x / 2 ^ 52) - 1075) + (trail 53 (if x / 2 ^ 52 = 0 then x % 2 ^ 52 else x % 2 ^ 52 + 2 ^ 52) : Nat)).natAbs := by
    unfold fmtN
    rw [fin_nan rd, if_neg (by simp), fin_max rd c, if_neg (by simp), fin_mmax rd c, if_neg (by simp)]
    simp only [hd0, hm0, if_true, List.nil_append]
  by_cases hw : (fOrd x two53 == some .lt && fOrd x (floorN x) == some .eq) = true
  · rw [if_pos hw] at hF
    rw [Bool.and_eq_true] at hw
    have h1 : fOrd x two53 = some .lt := by simpa using hw.1
    have h2 : fOrd x (floorN x) = some .eq := by simpa using hw.2
    obtain ⟨i, hi, hi1, hi2⟩ := toInt_in (x := x) (by
      left
      rw [ord_num x minus53 rd dec_minus53]
      congr 1
      rw [Int.compare_eq_gt, signed_pos]
      unfold Ieee.signed
      rw [if_pos rfl, Nat.shiftLeft_eq]
      have : 0 < 2 ^ (1 - min p 1).toNat := Nat.two_pow_pos _
      generalize 2 ^ (1 - min p 1).toNat = K at *
      generalize m * 2 ^ (p - min p 1).toNat = A
      have := Nat.mul_le_mul_left 4503599627370496 this
      omega) (.inl h1)
    have hk : ∃ k : Nat, (FloatKind.f64.decode x).integral .zero = .number false k 0 ∧ i = (k : Int) := by
      rw [rd]
      refine ⟨_, rfl, ?_⟩
      rw [rd] at hi
      have : (Ieee.Datum.number false m p).toInt .zero = some (Ieee.signed false (Ieee.Toward.zero.cut false (m <<< p.toNat) (-p).toNat) 0) := rfl
      rw [this] at hi
      injection hi with hi
      rw [← hi, signed_pos, Nat.pow_zero, Nat.mul_one]
    obtain ⟨k, hk1, hk2⟩ := hk
    have hfl : floorN x = fromIntN (k : Int) := by
      rw [fromInt_nat]
      unfold floorN
      have : (FloatKind.f64.decode x).integral .down = .number false k 0 := by rw [← hk1, rd]; exact down_zero m p
      rw [this]
    left
    refine ⟨k, by omega, ?_, ?_⟩
    · rw [hF, hi, hk2]; rfl
    · rw [← hfl]
      by_cases hz : floorN x % 9223372036854775808 = 0
      · exfalso
        have hk0 : k = 0 := by
          rcases Nat.eq_zero_or_pos k with h | h
          · exact h
          · exfalso
            by_cases h53 : k < 9007199254740992
            · rw [hfl, fromInt_can (by omega) h53] at hz
              have cc := (canon_int (by omega : k ≠ 0) h53).1
              have b1 := cc.lt; have b2 := cc.hi; have b3 := cc.nz; have b4 := cc.lo
              unfold bitsOf at hz
              omega
            · have : k = 9007199254740992 := by omega
              subst this
              rw [hfl] at hz
              exact absurd hz (by decide +kernel)
        have : floorN x = 0 := by rw [hfl, hk0]; rfl
        rw [this] at h2
        have := fin_0 rd c
        rw [h2] at this
        cases this
      · exact (ord_eq_bits (by omega) (by rw [hfl]; exact nearest_lt _) h2 hz).symm
  · rw [if_neg hw] at hF
    have hmp : (if x / 2 ^ 52 = 0 then x % 2 ^ 52 else x % 2 ^ 52 + 2 ^ 52) = m ∧ (if x / 2 ^ 52 = 0 then (-1074 : Int) else Int.ofNat (x / 2 ^ 52) - 1075) = p := by
      have b1 := c.lt; have b2 := c.hi; have b3 := c.nz; have b4 := c.lo; have b5 := c.nm
      unfold bitsOf at eb
      rw [e52]
      by_cases hs : x / 4503599627370496 = 0
      · rw [if_pos hs, if_pos hs]
        by_cases hp : -1074 < p
        · have := b5 hp; omega
        · omega
      · rw [if_neg hs, if_neg hs]
        simp only [Int.ofNat_eq_natCast]
        by_cases hp : -1074 < p
        · have := b5 hp; omega
        · omega
    rw [hmp.1, hmp.2] at hF
    have e53 : (2 : Nat) ^ 53 = 9007199254740992 := by rfl
    obtain ⟨q, q1, q2⟩ := trail_odd 53 m c.nz (by rw [e53]; exact c.lt)
    have ht := trail_le 53 m
    generalize trail 53 m = t at *
    have hpt : 0 < 2 ^ t := Nat.two_pow_pos t
    have hdiv : m / 2 ^ t = q := by rw [q1]; exact Nat.mul_div_cancel _ hpt
    rw [hdiv] at hF
    have hqm : q ≤ m := by rw [q1]; exact Nat.le_mul_of_pos_right _ hpt
    have b1 := c.lt; have b2 := c.hi; have b4 := c.lo
    right
    refine ⟨q, p + t, by omega, by omega, hF, ?_⟩
    rw [ldexp_back c q2 q1]
    exact eb.symm
/-- Parse of Format -/
theorem dec_head (u : Nat) : ∃ d r, decN u = d :: r ∧ isD d := by
  have h := decN_pos u
  have g := decN_digit u
  cases hd : decN u with
  | nil => rw [hd] at h; simp at h
  | cons d r => rw [hd] at g; exact ⟨d, r, rfl, g d (by simp)⟩
theorem fmt_head {x : Nat} (h : FmtF x) : ∃ d r, fmtN x = d :: r ∧ isD d := by
  rcases h with ⟨v, _, e, _⟩ | ⟨k, e, _, _, h, _⟩
  · obtain ⟨d, r, h1, h2⟩ := dec_head v
    exact ⟨d, r, e.trans h1, h2⟩
  · obtain ⟨d, r, h1, h2⟩ := dec_head k
    exact ⟨d, r ++ [112] ++ (if e < 0 then [45] else []) ++ decN e.natAbs, by rw [h, h1]; simp only [List.cons_append], h2⟩
theorem parse_fmt {x : Nat} (hx : x < 9218868437227405312) : parseN (fmtN x) = some x := by
  have hF := fmt_form hx
  obtain ⟨d, r, hd, hD⟩ := fmt_head hF
  have hlen := fmt_len x (by omega)
  have n1 : fmtN x ≠ [110, 97, 110] := by
    rw [hd]; intro e; injection e with e _; subst e; exact absurd hD (by unfold isD; decide)
  have n2 : fmtN x ≠ [105, 110, 102] := by
    rw [hd]; intro e; injection e with e _; subst e; exact absurd hD (by unfold isD; decide)
  have n3 : ((fmtN x).head? == some 45) = false := by
    rw [hd]
    have : d ≠ 45 := by intro e; subst e; exact absurd hD (by unfold isD; decide)
    simp [this]
  unfold parseN
  rw [if_neg (by omega), if_neg n1]
  simp only [n3, Bool.false_eq_true, if_false]
  have hmag : magN (fmtN x) = some x := by
    unfold magN
    rw [if_neg n2]
    rcases hF with ⟨v, hv, e, hb⟩ | ⟨k, e, hk, he, h, hb⟩
    · have g1 := digs_dec v (by omega) [] (by simp)
      rw [List.append_nil] at g1
      have g2 := decN_pos v
      have g3 := decN_len 15 v (by omega)
      rw [e]
      simp only [g1]
      rw [if_neg (by omega), if_pos (by omega), hb]
    · have g1 := digs_dec k (by omega) ([112] ++ (if e < 0 then [45] else []) ++ decN e.natAbs) (by
        intro c hc
        simp at hc
        subst hc
        unfold isD; decide)
      rw [← List.append_assoc, ← List.append_assoc, ← h] at g1
      have g2 := decN_pos k
      have g3 := decN_len 15 k (by omega)
      simp only [g1]
      rw [if_neg (by omega)]
      simp only [List.cons_append, List.nil_append]
      rw [if_neg (by decide), if_pos trivial]
      have q1 := digs_dec e.natAbs (by omega) [] (by simp)
      rw [List.append_nil] at q1
      have q2 := decN_pos e.natAbs
      have q3 := decN_len 3 e.natAbs (by omega)
      by_cases hn : e < 0
      · rw [if_pos hn]
        simp only [List.cons_append, List.nil_append, List.head?_cons, beq_self_eq_true, if_true, List.drop_succ_cons, List.drop_zero, q1]
        rw [if_neg (by rintro (h | h | h | h) <;> first | omega | exact h rfl), show (-(e.natAbs : Int)) = e by omega, hb]
      · rw [if_neg hn]
        obtain ⟨d2, r2, hd2, hD2⟩ := dec_head e.natAbs
        have n4 : ((decN e.natAbs).head? == some 45) = false := by
          rw [hd2]
          have : d2 ≠ 45 := by intro e; subst e; exact absurd hD2 (by unfold isD; decide)
          simp [this]
        simp only [List.nil_append, n4, Bool.false_eq_true, if_false, q1]
        rw [if_neg (by rintro (h | h | h | h) <;> first | omega | exact h rfl), show ((e.natAbs : Nat) : Int) = e by omega, hb]
  rw [hmag]
  rfl
end Go.Proofs.Qxb6500574aGreatDoor
