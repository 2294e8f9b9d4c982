/-
  THE WALK of math: Abs, IsNaN, IsInf, Inf, Copysign, normalize, Ldexp.
-/
import Derived.Test.Qxb6500574aGreatDoorVArith
import Derived.Test.Qxb6500574aGreatDoorVLawN
import Derived.Test.Qxb6500574aGreatDoorVTabW
import Derived.Test.Qxb6500574aGreatDoorVFmtP
import Derived.Laws.Bits64b
namespace Go.Proofs.Qxb6500574aGreatDoor
open Go Go.RowKit
set_option linter.unusedVariables false
set_option linter.unusedSimpArgs false
theorem bits_andNot_u64_nat (a b : Nat) (ha : a < 18446744073709551616) (hb : b < 18446744073709551616) : bits .andNot .u64 (a : Int) (b : Int) = ((a &&& (18446744073709551615 - b) : Nat) : Int) := by
  have hx : a &&& (18446744073709551615 - b) < 2 ^ 64 := Nat.and_lt_two_pow _ (by omega)
  have h1 : (BitVec.ofInt 64 (a : Int)).toNat = a := by
    rw [BitVec.ofInt_natCast, BitVec.toNat_ofNat]; exact Nat.mod_eq_of_lt (by omega)
  have h2 : (BitVec.ofInt 64 (b : Int)).toNat = b := by
    rw [BitVec.ofInt_natCast, BitVec.toNat_ofNat]; exact Nat.mod_eq_of_lt (by omega)
  show IntKind.u64.wrap ((BitVec.ofInt 64 (a : Int) &&& ~~~BitVec.ofInt 64 (b : Int)).toNat : Int) = _
  rw [BitVec.toNat_and, h1, BitVec.toNat_not, h2, IntKind.wrap_u64]
  rw [show (2 ^ 64 - 1 - b : Nat) = 18446744073709551615 - b from rfl]
  omega
theorem absMask {a : Nat} (ha : a < 18446744073709551616) : bits .andNot .u64 (a : Int) 9223372036854775808 = ((a % 9223372036854775808 : Nat) : Int) := by
  have := bits_andNot_u64_nat a 9223372036854775808 ha (by decide)
  rw [show ((9223372036854775808 : Nat) : Int) = 9223372036854775808 from rfl] at this
  rw [this, show (18446744073709551615 - 9223372036854775808 : Nat) = 2 ^ 63 - 1 by decide, Nat.and_two_pow_sub_one_eq_mod]
theorem andSign {a : Nat} (ha : a < 18446744073709551616) : a &&& 9223372036854775808 = a / 9223372036854775808 * 9223372036854775808 := by
  by_cases h : a / 2 ^ 63 % 2 = 0
  · rw [show (9223372036854775808 : Nat) = 2 ^ 63 by decide, and_bit0 h]
    omega
  · have h1 : a / 2 ^ 63 % 2 = 1 := by omega
    apply Nat.eq_of_testBit_eq
    intro j
    have e : a / 9223372036854775808 * 9223372036854775808 = 2 ^ 63 := by omega
    rw [e, show (9223372036854775808 : Nat) = 2 ^ 63 by decide, Nat.testBit_and, Nat.testBit_two_pow]
    by_cases hj : 63 = j
    · subst hj
      have : a.testBit 63 = true := by rw [Nat.testBit_eq_decide_div_mod_eq]; simp [h1]
      simp [this]
    · simp [hj]
theorem signMask {a : Nat} (ha : a < 18446744073709551616) : bits .and .u64 (a : Int) 9223372036854775808 = ((a / 9223372036854775808 * 9223372036854775808 : Nat) : Int) := by
  have := bits_and_u64_nat a 9223372036854775808 ha (by decide)
  rw [show ((9223372036854775808 : Nat) : Int) = 9223372036854775808 from rfl] at this
  rw [this, andSign ha]
theorem orSum {h b : Nat} (n : Nat) (hb : b < 2 ^ n) : (h * 2 ^ n) ||| b = h * 2 ^ n + b := by
  have := Nat.two_pow_add_eq_or_of_lt (i := n) (b := b) hb h
  rw [Nat.mul_comm h]
  exact this.symm
theorem mantMask {a : Nat} (ha : a < 18446744073709551616) : bits .andNot .u64 (a : Int) 9218868437227405312 = ((a / 9223372036854775808 * 9223372036854775808 + a % 4503599627370496 : Nat) : Int) := by
  have := bits_andNot_u64_nat a 9218868437227405312 ha (by decide)
  rw [show ((9218868437227405312 : Nat) : Int) = 9218868437227405312 from rfl] at this
  rw [this]
  have e1 : (18446744073709551615 - 9218868437227405312 : Nat) = 9223372036854775808 ||| (2 ^ 52 - 1) := by decide
  rw [e1, Nat.and_or_distrib_left, andSign ha, Nat.and_two_pow_sub_one_eq_mod]
  have := orSum (h := a / 9223372036854775808) (b := a % 2 ^ 52) 63 (by omega)
  rw [show (2 ^ 63 : Nat) = 9223372036854775808 by decide, show (2 ^ 52 : Nat) = 4503599627370496 by decide] at this
  rw [this]
theorem or_swap (a k e : Nat) : (a ||| k) ||| e = (a ||| e) ||| k := by rw [Nat.or_assoc, Nat.or_comm k, ← Nat.or_assoc]
set_option maxRecDepth 10000 in
theorem orExp {s e k : Nat} (he : e < 2048) (hk : k < 4503599627370496) : (s * 9223372036854775808 + k) ||| (e * 4503599627370496) = s * 9223372036854775808 + e * 4503599627370496 + k := by
  have e52 : (2 : Nat) ^ 52 = 4503599627370496 := by decide
  have e11 : (2 : Nat) ^ 11 = 2048 := by decide
  have h0 := orSum (h := s * 2048) (b := k) 52 (by rw [e52]; exact hk)
  have h3 := orSum (h := s) (b := e) 11 (by rw [e11]; exact he)
  have h4 := orSum (h := s * 2048 + e) (b := k) 52 (by rw [e52]; exact hk)
  rw [e11] at h3
  have h2 : (s * 2048) * 2 ^ 52 ||| e * 2 ^ 52 = (s * 2048 + e) * 2 ^ 52 := by
    rw [← Nat.shiftLeft_eq, ← Nat.shiftLeft_eq, ← Nat.shiftLeft_or_distrib, h3, Nat.shiftLeft_eq]
  rw [e52] at h0 h2 h4
  have e1 : s * 9223372036854775808 + k = s * 2048 * 4503599627370496 ||| k := by rw [h0]; omega
  have g := congrArg (fun z => z ||| (e * 4503599627370496)) e1
  have g2 := or_swap (s * 2048 * 4503599627370496) k (e * 4503599627370496)
  have g3 := congrArg (fun z => z ||| k) h2
  have g4 : (s * 2048 + e) * 4503599627370496 + k = s * 9223372036854775808 + e * 4503599627370496 + k := by
    have h5 : s * 2048 * 4503599627370496 = s * 9223372036854775808 := by rw [Nat.mul_assoc]
    rw [Nat.add_mul, h5]
  exact g.trans (g2.trans (g3.trans (h4.trans g4)))
theorem mul_some {a b : Nat} (ha : isNan a = false) {s : Bool} {n : Nat} {j : Int} (hb : FloatKind.f64.format.read b = .number s n j) (hn : n ≠ 0) : ∃ r, FloatKind.f64.format.mul a b = some r := by
  unfold Ieee.Format.mul
  rw [hb]
  cases hd : FloatKind.f64.format.read a with
  | nan x y =>
    have : isNan a = true := (nan_iff a).2 ⟨x, y, hd⟩
    rw [ha] at this
    cases this
  | infinity x => simp [Ieee.Datum.product, hn]
  | number x y z => simp [Ieee.Datum.product]
theorem mul_some2 {a b : Nat} (hb : isNan b = false) {s : Bool} {n : Nat} {j : Int} (ha : FloatKind.f64.format.read a = .number s n j) (hn : n ≠ 0) : ∃ r, FloatKind.f64.format.mul a b = some r := by
  unfold Ieee.Format.mul
  rw [ha]
  cases hd : FloatKind.f64.format.read b with
  | nan x y =>
    have : isNan b = true := (nan_iff b).2 ⟨x, y, hd⟩
    rw [hb] at this
    cases this
  | infinity x => simp [Ieee.Datum.product, hn]
  | number x y z => simp [Ieee.Datum.product]
theorem div_some {a b : Nat} (ha : isNan a = false) {s : Bool} {n : Nat} {j : Int} (hb : FloatKind.f64.format.read b = .number s n j) (hn : n ≠ 0) : ∃ r, FloatKind.f64.format.div a b = some r := by
  unfold Ieee.Format.div
  rw [hb]
  cases hd : FloatKind.f64.format.read a with
  | nan x y =>
    have : isNan a = true := (nan_iff a).2 ⟨x, y, hd⟩
    rw [ha] at this
    cases this
  | infinity x => simp [Ieee.Datum.quotient]
  | number x y z => simp [Ieee.Datum.quotient, hn]
theorem FV.some {o : Option Nat} {r q : Nat} (h : FV o r) (hq : o = some q) : r = q := by
  rcases h with h | h
  · rw [hq] at h; cases h; rfl
  · rw [hq] at h; cases h.1
section
variable {w : World}
set_option maxRecDepth 100000
set_option maxHeartbeats 400000
theorem abs_any {a : Nat} (ha : a < 18446744073709551616) : Calls Tryz.prog 241 #[.float .f64 a] w fun e w' => e = .returned (.float .f64 (a % 9223372036854775808)) ∧ w' = w := by
  have hm := absMask ha
  generalize a % 9223372036854775808 = b at hm ⊢
  go_enter Tryz.func241, Tryz.ntmps241
  go_wp2_with fail
  rw [run_bits]
  go_wp2_with fail
  rw [run_frombits]
  go_wp2_with fail
  go_ret
  exact ⟨rfl, rfl⟩
theorem isNaN_no {a : Nat} (ha : isNan a = false) : Calls Tryz.prog 175 #[.float .f64 a] w fun e w' => e = .returned (.bool false) ∧ w' = w := by
  have hn : FloatKind.f64.format.order a a = some .eq := by
    unfold isNan fOrd at ha
    simpa using ha
  go_enter Tryz.func175, Tryz.ntmps175
  go_wp2_with fail
  go_ret
  exact ⟨rfl, rfl⟩
theorem isInf_any {a : Nat} (ha : a < 18446744073709551616) : Calls Tryz.prog 176 #[.float .f64 a, .int .i64 0] w fun e w' => e = .returned (.bool (fOrd (a % 9223372036854775808) maxFin == some .gt)) ∧ w' = w := by
  go_enter Tryz.func176, Tryz.ntmps176
  go_wp2_with fail
  refine (abs_any ha).mono ?_
  rintro e' w1 ⟨rfl, rfl⟩
  go_wp2_with fail
  go_ret
  exact ⟨rfl, rfl⟩
theorem inf_pos : Calls Tryz.prog 303 #[.int .i64 1] w fun e w' => e = .returned (.float .f64 9218868437227405312) ∧ w' = w := by
  go_enter Tryz.func303, Tryz.ntmps303
  go_wp2_with fail
  rw [show (Value.int .u64 9218868437227405312) = Value.int .u64 ((9218868437227405312 : Nat) : Int) from rfl, run_frombits]
  go_wp2_with fail
  go_ret
  exact ⟨rfl, rfl⟩
theorem inf_neg : Calls Tryz.prog 303 #[.int .i64 (-1)] w fun e w' => e = .returned (.float .f64 18442240474082181120) ∧ w' = w := by
  go_enter Tryz.func303, Tryz.ntmps303
  go_wp2_with fail
  rw [show (Value.int .u64 18442240474082181120) = Value.int .u64 ((18442240474082181120 : Nat) : Int) from rfl, run_frombits]
  go_wp2_with fail
  go_ret
  exact ⟨rfl, rfl⟩
theorem copysign_any {a : Nat} (ha : a < 18446744073709551616) : Calls Tryz.prog 243 #[.float .f64 0, .float .f64 a] w fun e w' => e = .returned (.float .f64 (a / 9223372036854775808 * 9223372036854775808)) ∧ w' = w := by
  have h0 : bits .andNot .u64 ((0 : Nat) : Int) 9223372036854775808 = ((0 : Nat) : Int) := absMask (a := 0) (by decide)
  have h1 := signMask ha
  have hb : a / 9223372036854775808 * 9223372036854775808 < 18446744073709551616 := by omega
  generalize a / 9223372036854775808 * 9223372036854775808 = b at h1 hb ⊢
  have h2 : bits .or .u64 ((0 : Nat) : Int) (b : Int) = (b : Int) := by rw [bits_or_u64_nat 0 b (by decide) hb, Nat.zero_or]
  rw [show ((0 : Nat) : Int) = 0 from rfl] at h0 h2
  go_enter Tryz.func243, Tryz.ntmps243
  go_wp2_with fail
  rw [run_bits]
  go_wp2_with fail
  rw [run_bits]
  go_wp2_with fail
  rw [run_frombits]
  go_wp2_with fail
  go_ret
  exact ⟨rfl, rfl⟩
theorem normalize_any {a : Nat} (ha : a < 18446744073709551616) (hn : isNan a = false) : Calls Tryz.prog 302 #[.float .f64 a] w fun e w' => e = .returned (.tuple #[.float .f64 (if fOrd (a % 9223372036854775808) 4503599627370496 == some .lt then ((FloatKind.f64.format.mul a 4841369599423283200).getD 0, (-52 : Int)) else (a, 0)).1, .int .i64 (if fOrd (a % 9223372036854775808) 4503599627370496 == some .lt then ((FloatKind.f64.format.mul a 4841369599423283200).getD 0, (-52 : Int)) else (a, 0)).2]) ∧ Fr (fun _ => False) w w' := by
  obtain ⟨q, hq⟩ := mul_some hn (b := 4841369599423283200) (s := false) (n := 4503599627370496) (j := 0) (by decide) (by decide)
  cases hc : (FloatKind.f64.format.order (a % 9223372036854775808) 4503599627370496 == some .lt) with
  | false =>
    have hc2 : (fOrd (a % 9223372036854775808) 4503599627370496 == some .lt) = false := hc
    rw [hc2, if_neg (by simp)]
    have hc3 : FloatKind.f64.format.order (a % 9223372036854775808) 4503599627370496 ≠ some .lt := by simpa using hc
    go_enter Tryz.func302, Tryz.ntmps302
    go_wp2_with fail
    refine (abs_any ha).mono ?_
    rintro e' w1 ⟨rfl, rfl⟩
    go_wp2_with fail
    go_ret2
    exact ⟨rfl, Fr.refl _ _⟩
  | true =>
    have hc2 : (fOrd (a % 9223372036854775808) 4503599627370496 == some .lt) = true := hc
    rw [hc2, if_pos rfl, hq]
    have hc3 : FloatKind.f64.format.order (a % 9223372036854775808) 4503599627370496 = some .lt := by simpa using hc
    go_enter Tryz.func302, Tryz.ntmps302
    go_wp2_with fail
    refine (abs_any ha).mono ?_
    rintro e' w1 ⟨rfl, rfl⟩
    obtain ⟨r, w2, h1, h2, h3⟩ := run_fop (op := .mul) (x := a) (y := 4841369599423283200) w1 rfl
    obtain rfl := h3.some hq
    go_wp2_with fail
    go_ret2
    exact ⟨rfl, h2⟩
theorem ldexpS {a : Nat} (ha : a < 18446744073709551616) (hn : isNan a = false) (ex : Int) (hex : -100000 ≤ ex ∧ ex ≤ 100000) : Calls Tryz.prog 272 #[.float .f64 a, .int .i64 ex] w fun e w' => e = .returned (.float .f64 (ldexpN a ex)) ∧ Fr (fun _ => False) w w' := by
  obtain ⟨R, HR⟩ : ∃ R, Hid (ldexpN a ex = R) := ⟨_, rfl⟩
  rw [HR.out]
  cases h0 : (FloatKind.f64.format.order a 0 == some .eq) with
  | true =>
    have e1 : R = a := by
      rw [← HR.out]
      unfold ldexpN fOrd
      rw [if_pos h0]
    subst e1
    have h0' : FloatKind.f64.format.order R 0 = some .eq := by simpa using h0
    go_enter Tryz.func272, Tryz.ntmps272
    go_wp2_with fail
    go_ret
    exact ⟨rfl, Fr.refl _ _⟩
  | false =>
    have h0' : FloatKind.f64.format.order a 0 ≠ some .eq := by simpa using h0
    obtain ⟨bi, hbi⟩ : ∃ bi, (fOrd (a % 9223372036854775808) maxFin == some .gt) = bi := ⟨_, rfl⟩
    have HI : Hid (∀ W, Calls Tryz.prog 176 #[.float .f64 a, .int .i64 0] W fun e w' => e = .returned (.bool bi) ∧ w' = W) := fun W => by have := isInf_any (w := W) ha; rw [hbi] at this; exact this
    cases bi with
    | true =>
      have e1 : R = a := by
        rw [← HR.out]
        unfold ldexpN
        rw [if_neg (by unfold fOrd; rw [h0]; simp), if_pos hbi]
      subst e1
      go_enter Tryz.func272, Tryz.ntmps272
      go_wp2_with fail
      refine (HI.out _).mono ?_
      rintro e' w1 ⟨rfl, rfl⟩
      go_wp2_with fail
      go_ret
      exact ⟨rfl, Fr.refl _ _⟩
    | false =>
      have HN : Hid (∀ W, Calls Tryz.prog 302 #[.float .f64 a] W _) := fun W => normalize_any (w := W) ha hn
      have hx : FinOk (if fOrd (a % 9223372036854775808) 4503599627370496 == some .lt then ((FloatKind.f64.format.mul a 4841369599423283200).getD 0, (-52 : Int)) else (a, 0)).1 := by
        split
        · exact mul_fin _ _
        · exact ⟨ha, hn⟩
      have hx2 : (if fOrd (a % 9223372036854775808) 4503599627370496 == some .lt then ((FloatKind.f64.format.mul a 4841369599423283200).getD 0, (-52 : Int)) else (a, 0)).2 = -52 ∨ (if fOrd (a % 9223372036854775808) 4503599627370496 == some .lt then ((FloatKind.f64.format.mul a 4841369599423283200).getD 0, (-52 : Int)) else (a, 0)).2 = 0 := by
        split
        · exact .inl rfl
        · exact .inr rfl
      have hR := HR.out
      unfold ldexpN at hR
      rw [if_neg (by unfold fOrd; rw [h0]; simp), if_neg (by rw [show (2 : Nat) ^ 63 = 9223372036854775808 from rfl, hbi]; simp)] at hR
      dsimp only at hR
      rw [show (2 : Nat) ^ 63 = 9223372036854775808 from rfl] at hR
      generalize (if fOrd (a % 9223372036854775808) 4503599627370496 == some .lt then ((FloatKind.f64.format.mul a 4841369599423283200).getD 0, (-52 : Int)) else (a, 0)) = nm at HN hx hx2 hR
      obtain ⟨x, k⟩ := nm
      dsimp only at hx hx2 hR HN
      have hx1 := hx.1
      obtain ⟨q, HQ⟩ : ∃ q, Hid (x / 4503599627370496 = q) := ⟨_, rfl⟩
      have hq : q < 4096 := by rw [← HQ.out]; omega
      have hqI : (x : Int) / 4503599627370496 = (q : Int) := by rw [← HQ.out]; omega
      have hand : bits .and .i64 (q : Int) 2047 = ((q % 2048 : Nat) : Int) := by
        have := (bits_nat .i64 13 (by decide) (fun n h0 h1 => by rw [IntKind.wrap_i64]; omega) q 2047 (by omega) (by decide)).1
        rw [show ((2047 : Nat) : Int) = 2047 from rfl] at this
        rw [this, and2047]
      rw [show (2 : Nat) ^ 52 = 4503599627370496 from rfl, HQ.out] at hR
      obtain ⟨E, HE⟩ : ∃ E, Hid (q % 2048 = E) := ⟨_, rfl⟩
      have hE : E < 2048 := by rw [← HE.out]; omega
      rw [HE.out] at hR hand
      have hmm := mantMask hx1
      obtain ⟨sg, HSG⟩ : ∃ sg, Hid (x / 9223372036854775808 = sg) := ⟨_, rfl⟩
      obtain ⟨mt, HMT⟩ : ∃ mt, Hid (x % 4503599627370496 = mt) := ⟨_, rfl⟩
      have hsgl : sg ≤ 1 := by rw [← HSG.out]; omega
      have hmtl : mt < 4503599627370496 := by rw [← HMT.out]; omega
      rw [HSG.out, HMT.out] at hR hmm
      have HC : Hid (∀ W, Calls Tryz.prog 243 #[.float .f64 0, .float .f64 x] W fun e w' => e = .returned (.float .f64 (sg * 9223372036854775808)) ∧ w' = W) := fun W => by have := copysign_any (w := W) hx1; rw [HSG.out] at this; exact this
      have HXF : Hid (FinOk x) := hx
      have hR2 : Hid (_ = R) := hR
      clear hR hx hx1 HR
      obtain ⟨e, He⟩ : ∃ e, Hid (ex + k + (E : Int) - 1023 = e) := ⟨_, rfl⟩
      have heb : -102200 ≤ e ∧ e ≤ 102200 := by have := He.out; omega
      have e1 : ex + k + ((E : Int) - 1023) = e := by have := He.out; omega
      rw [He.out] at hR2
      have fin : ∀ (c : Nat) (e2 : Int) (sb : Bool) (nb : Nat) (jb : Int), FloatKind.f64.format.read c = .number sb nb jb → nb ≠ 0 → -1022 ≤ e2 → e2 ≤ 1023 → ∃ r, FloatKind.f64.format.mul c (sg * 9223372036854775808 + (e2 + 1023).toNat * 4503599627370496 + mt) = some r := by
        intro c e2 sb nb jb h1 h2 h3 h4
        refine mul_some2 ?_ h1 h2
        cases hh : isNan (sg * 9223372036854775808 + (e2 + 1023).toNat * 4503599627370496 + mt) with
        | false => rfl
        | true =>
          have := (nan_bits _).1 hh
          rw [show (2 : Nat) ^ 63 = 9223372036854775808 from rfl] at this
          have h5 : (e2 + 1023).toNat ≤ 2046 := by omega
          omega
      have HFIN : Hid (∀ (c : Nat) (e2 : Int) (sb : Bool) (nb : Nat) (jb : Int), FloatKind.f64.format.read c = .number sb nb jb → nb ≠ 0 → -1022 ≤ e2 → e2 ≤ 1023 → ∃ r, FloatKind.f64.format.mul c (sg * 9223372036854775808 + (e2 + 1023).toNat * 4503599627370496 + mt) = some r) := fin
      have HOR : Hid (∀ e2 : Nat, e2 < 2048 → bits .or .u64 ((sg * 9223372036854775808 + mt : Nat) : Int) ((e2 * 4503599627370496 : Nat) : Int) = ((sg * 9223372036854775808 + e2 * 4503599627370496 + mt : Nat) : Int)) := fun e2 h2 => by
        rw [bits_or_u64_nat _ _ (by omega) (by omega), orExp h2 hmtl]
      clear fin
      have hk2 : -52 ≤ k ∧ k ≤ 0 := by omega
      have hB : isNan a = false := hn
      by_cases c1 : e < -1075
      · rw [if_pos c1] at hR2
        go_enter Tryz.func272, Tryz.ntmps272
        go_wp2_with fail
        refine (HI.out _).mono ?_
        rintro e' wa ⟨rfl, hwa⟩
        subst hwa
        go_wp2_with fail
        refine (isNaN_no hB).mono ?_
        rintro e' wb ⟨rfl, hwb⟩
        subst hwb
        go_wp2_with fail
        refine (HN.out _).mono ?_
        rintro e' w1 ⟨rfl, f1⟩
        go_wp2_with fail
        rw [run_bits]
        go_wp2_with fail
        refine (HC.out _).mono ?_
        rintro e' w2 ⟨rfl, hw2⟩
        subst hw2
        go_wp2_with fail
        go_ret
        exact ⟨by rw [← hR2.out]; rfl, f1⟩
      · rw [if_neg c1] at hR2
        by_cases c2 : e > 1023
        · rw [if_pos c2] at hR2
          cases hb : (fOrd x 0 == some .lt) with
          | true =>
            rw [if_pos hb] at hR2
            have hb2 : FloatKind.f64.format.order x 0 = some .lt := by unfold fOrd at hb; simpa using hb
            go_enter Tryz.func272, Tryz.ntmps272
            go_wp2_with fail
            refine (HI.out _).mono ?_
            rintro e' wa ⟨rfl, hwa⟩
            subst hwa
            go_wp2_with fail
            refine (isNaN_no hB).mono ?_
            rintro e' wb ⟨rfl, hwb⟩
            subst hwb
            go_wp2_with fail
            refine (HN.out _).mono ?_
            rintro e' w1 ⟨rfl, f1⟩
            go_wp2_with fail
            rw [run_bits]
            go_wp2_with fail
            refine inf_neg.mono ?_
            rintro e' w2 ⟨rfl, hw2⟩
            subst hw2
            go_wp2_with fail
            go_ret
            exact ⟨by rw [← hR2.out]; rfl, f1⟩
          | false =>
            rw [if_neg (by rw [hb]; simp)] at hR2
            have hb3 : (FloatKind.f64.format.order x 0 == some .lt) = false := hb
            go_enter Tryz.func272, Tryz.ntmps272
            go_wp2_with fail
            refine (HI.out _).mono ?_
            rintro e' wa ⟨rfl, hwa⟩
            subst hwa
            go_wp2_with fail
            refine (isNaN_no hB).mono ?_
            rintro e' wb ⟨rfl, hwb⟩
            subst hwb
            go_wp2_with fail
            refine (HN.out _).mono ?_
            rintro e' w1 ⟨rfl, f1⟩
            go_wp2_with fail
            rw [run_bits]
            go_wp2_with fail
            refine inf_pos.mono ?_
            rintro e' w2 ⟨rfl, hw2⟩
            subst hw2
            go_wp2_with fail
            go_ret
            exact ⟨by rw [← hR2.out]; rfl, f1⟩
        · rw [if_neg c2] at hR2
          by_cases c3 : e < -1022
          · rw [if_pos c3] at hR2
            dsimp only at hR2
            obtain ⟨E2, HE2⟩ : ∃ E2 : Nat, Hid ((e + 53 + 1023).toNat = E2) := ⟨_, rfl⟩
            have hE2 : (1 : Int) ≤ E2 ∧ E2 ≤ 2046 := by have := HE2.out; omega
            have hE3 : e + 53 + 1023 = (E2 : Int) := by have := HE2.out; omega
            have hor := HOR.out E2 (by omega)
            have hsh : (E2 : Int) * 4503599627370496 = ((E2 * 4503599627370496 : Nat) : Int) := by omega
            obtain ⟨r, hr⟩ := HFIN.out 4368491638549381120 (e + 53) false 4503599627370496 (-105) (by decide) (by decide) (by omega) (by omega)
            rw [HE2.out] at hr hR2
            rw [hr] at hR2
            have hR3 : r = R := hR2.out
            obtain ⟨Y, HY⟩ : ∃ Y, Hid (sg * 9223372036854775808 + E2 * 4503599627370496 + mt = Y) := ⟨_, rfl⟩
            obtain ⟨Z, HZ⟩ : ∃ Z, Hid (sg * 9223372036854775808 + mt = Z) := ⟨_, rfl⟩
            obtain ⟨S, HS⟩ : ∃ S, Hid (E2 * 4503599627370496 = S) := ⟨_, rfl⟩
            rw [HY.out] at hor hr
            rw [HZ.out] at hmm hor
            rw [HS.out] at hor hsh
            have hSl : S < 18446744073709551616 := by rw [← HS.out]; omega
            clear HFIN HOR hR2
            go_enter Tryz.func272, Tryz.ntmps272
            go_wp2_with fail
            refine (HI.out _).mono ?_
            rintro e' wa ⟨rfl, hwa⟩
            subst hwa
            go_wp2_with fail
            refine (isNaN_no hB).mono ?_
            rintro e' wb ⟨rfl, hwb⟩
            subst hwb
            go_wp2_with fail
            refine (HN.out _).mono ?_
            rintro e' w1 ⟨rfl, f1⟩
            go_wp2_with fail
            rw [run_bits]
            go_wp2_with fail
            obtain ⟨r2, w2, h1, h2, h3⟩ := run_fop (op := .mul) (x := 4368491638549381120) (y := Y) w1 rfl
            have hr2 := h3.some hr
            subst hr2
            subst hR3
            go_wp2_with fail
            rw [run_frombits]
            go_wp2_with fail
            go_ret
            exact ⟨rfl, f1.trans h2 (fun _ _ x => x)⟩
          · rw [if_neg c3] at hR2
            dsimp only at hR2
            obtain ⟨E2, HE2⟩ : ∃ E2 : Nat, Hid ((e + 1023).toNat = E2) := ⟨_, rfl⟩
            have hE2 : (1 : Int) ≤ E2 ∧ E2 ≤ 2046 := by have := HE2.out; omega
            have hE3 : e + 1023 = (E2 : Int) := by have := HE2.out; omega
            have hor := HOR.out E2 (by omega)
            have hsh : (E2 : Int) * 4503599627370496 = ((E2 * 4503599627370496 : Nat) : Int) := by omega
            obtain ⟨r, hr⟩ := HFIN.out 4607182418800017408 (e) false 4503599627370496 (-52) (by decide) (by decide) (by omega) (by omega)
            rw [HE2.out] at hr hR2
            rw [hr] at hR2
            have hR3 : r = R := hR2.out
            obtain ⟨Y, HY⟩ : ∃ Y, Hid (sg * 9223372036854775808 + E2 * 4503599627370496 + mt = Y) := ⟨_, rfl⟩
            obtain ⟨Z, HZ⟩ : ∃ Z, Hid (sg * 9223372036854775808 + mt = Z) := ⟨_, rfl⟩
            obtain ⟨S, HS⟩ : ∃ S, Hid (E2 * 4503599627370496 = S) := ⟨_, rfl⟩
            rw [HY.out] at hor hr
            rw [HZ.out] at hmm hor
            rw [HS.out] at hor hsh
            have hSl : S < 18446744073709551616 := by rw [← HS.out]; omega
            clear HFIN HOR hR2
            go_enter Tryz.func272, Tryz.ntmps272
            go_wp2_with fail
            refine (HI.out _).mono ?_
            rintro e' wa ⟨rfl, hwa⟩
            subst hwa
            go_wp2_with fail
            refine (isNaN_no hB).mono ?_
            rintro e' wb ⟨rfl, hwb⟩
            subst hwb
            go_wp2_with fail
            refine (HN.out _).mono ?_
            rintro e' w1 ⟨rfl, f1⟩
            go_wp2_with fail
            rw [run_bits]
            go_wp2_with fail
            obtain ⟨r2, w2, h1, h2, h3⟩ := run_fop (op := .mul) (x := 4607182418800017408) (y := Y) w1 rfl
            have hr2 := h3.some hr
            subst hr2
            subst hR3
            go_wp2_with fail
            rw [run_frombits]
            go_wp2_with fail
            go_ret
            exact ⟨rfl, f1.trans h2 (fun _ _ x => x)⟩
theorem ldexp_any {a : Nat} (ha : a < 18446744073709551616) (hn : isNan a = false) (ex : Int) (hex : -100000 ≤ ex ∧ ex ≤ 100000) : Calls Tryz.prog 220 #[.float .f64 a, .int .i64 ex] w fun e w' => e = .returned (.float .f64 (ldexpN a ex)) ∧ Fr (fun _ => False) w w' := by
  go_enter Tryz.func220, Tryz.ntmps220
  go_wp2_with fail
  refine (ldexpS ha hn ex hex).mono ?_
  rintro e' w1 ⟨rfl, f1⟩
  go_wp2_with fail
  go_ret
  exact ⟨rfl, f1⟩
end
end Go.Proofs.Qxb6500574aGreatDoor
