/-
  THE WALKS of numm: div.
-/
import Derived.Test.Qxb6500574aGreatDoorZA5
namespace Go.Proofs.Qxb6500574aGreatDoor
open Go Go.RowKit
set_option linter.unusedVariables false
set_option linter.unusedSimpArgs false
theorem norm_52 {m : Nat} (h0 : 1 ≤ m) (h : m < 9007199254740992) : m.log2 ≤ 52 ∧ 4503599627370496 ≤ m * 2 ^ (52 - m.log2) ∧ m * 2 ^ (52 - m.log2) < 9007199254740992 := by
  have hl : m.log2 ≤ 52 := by have := (Nat.log2_lt (n := m) (by omega) (k := 53)).2 (by have : (2 : Nat) ^ 53 = 9007199254740992 := (by decide); omega); omega
  have hlo : 2 ^ m.log2 ≤ m := Nat.log2_self_le (by omega)
  have hhi : m < 2 ^ (m.log2 + 1) := Nat.lt_log2_self
  have h1 := Nat.mul_le_mul_right (2 ^ (52 - m.log2)) hlo
  have h2 := Nat.mul_lt_mul_of_pos_right hhi (Nat.pow_pos (n := 52 - m.log2) (show 0 < 2 by decide))
  rw [← Nat.pow_add, show m.log2 + (52 - m.log2) = 52 by omega] at h1
  rw [← Nat.pow_add, show m.log2 + 1 + (52 - m.log2) = 53 by omega] at h2
  have e1 : (2 : Nat) ^ 52 = 4503599627370496 := by decide
  have e2 : (2 : Nat) ^ 53 = 9007199254740992 := by decide
  rw [e1] at h1
  rw [e2] at h2
  exact ⟨hl, h1, h2⟩
theorem norm_at {m k : Nat} (h0 : 1 ≤ m) (h : m < 9007199254740992) (hk : k ≤ 52 - m.log2) : m * 2 ^ k < 9007199254740992 ∧ (m * 2 ^ k < 4503599627370496 ↔ k < 52 - m.log2) := by
  obtain ⟨hl, h1, h2⟩ := norm_52 h0 h
  have hhi : m < 2 ^ (m.log2 + 1) := Nat.lt_log2_self
  have e1 : (2 : Nat) ^ 52 = 4503599627370496 := by decide
  have h3 : m * 2 ^ k ≤ m * 2 ^ (52 - m.log2) := Nat.mul_le_mul_left _ (Nat.pow_le_pow_right (by decide) hk)
  refine ⟨by omega, fun z => ?_, fun z => ?_⟩
  · refine Nat.lt_of_le_of_ne hk fun e => ?_
    rw [e] at z
    omega
  · have h4 := Nat.mul_lt_mul_of_pos_right hhi (Nat.pow_pos (n := k) (show 0 < 2 by decide))
    rw [← Nat.pow_add] at h4
    have h5 : 2 ^ (m.log2 + 1 + k) ≤ 2 ^ 52 := Nat.pow_le_pow_right (by decide) (by omega)
    omega
/-- the long division -/
structure DvI (x y i q r : Nat) : Prop where
  eq : x * 2 ^ i = q * (2 * y) + r
  lt : r < 2 * y
theorem DvI.start {x y : Nat} (h : x < 2 * y) : DvI x y 0 0 x := ⟨by simp, h⟩
theorem DvI.qlt {x y i q r : Nat} (h : DvI x y i q r) (hx : x < 2 * y) : q < 2 ^ i := by
  have h1 : q * (2 * y) ≤ x * 2 ^ i := by rw [h.eq]; omega
  have h2 : x * 2 ^ i < 2 * y * 2 ^ i := Nat.mul_lt_mul_of_pos_right hx (Nat.pow_pos (by decide))
  rw [Nat.mul_comm (2 * y)] at h2
  exact Nat.lt_of_mul_lt_mul_right (Nat.lt_of_le_of_lt h1 h2)
theorem DvI.one {x y i q r : Nat} (h : DvI x y i q r) (hr : y ≤ r) : DvI x y (i + 1) (q * 2 + 1) ((r - y) * 2) := by
  refine ⟨?_, by have := h.lt; omega⟩
  rw [Nat.pow_succ, ← Nat.mul_assoc, h.eq, Nat.add_mul, Nat.add_mul (q * 2) 1, Nat.mul_right_comm q (2 * y) 2]
  omega
theorem DvI.zero {x y i q r : Nat} (h : DvI x y i q r) (hr : r < y) : DvI x y (i + 1) (q * 2) (r * 2) := by
  refine ⟨?_, by omega⟩
  rw [Nat.pow_succ, ← Nat.mul_assoc, h.eq, Nat.add_mul, Nat.mul_right_comm q (2 * y) 2]
theorem DvI.done {x y q r : Nat} (h : DvI x y 63 q r) (hy : 0 < y) : x * 2 ^ 62 / y = q ∧ decide (x * 2 ^ 62 % y ≠ 0) = decide (r ≠ 0) := by
  have e := h.eq
  rw [show (2 : Nat) ^ 63 = 2 ^ 62 * 2 by decide, ← Nat.mul_assoc, ← Nat.mul_assoc, Nat.mul_right_comm q 2 y] at e
  have l := h.lt
  have e2 : x * 2 ^ 62 = q * y + r / 2 := by omega
  have l2 : r / 2 < y := by omega
  have e3 : r = 2 * (r / 2) := by omega
  generalize x * 2 ^ 62 = X at *
  generalize r / 2 = t at *
  constructor
  · rw [e2, Nat.mul_comm, Nat.mul_add_div hy, Nat.div_eq_of_lt l2, Nat.add_zero]
  · rw [e2, Nat.mul_comm, Nat.mul_add_mod, Nat.mod_eq_of_lt l2]
    exact decide_eq_decide.2 (by omega)
section
variable {w : World}
set_option maxRecDepth 100000
set_option maxHeartbeats 4000000
theorem div_m {a c : Nat} (h : u64 a) (h2 : u64 c) : Calls Tryz.prog 197 #[.int .u64 a, .int .u64 c] w fun e w' => e = .returned (.int .u64 (divM a c)) ∧ w' = w := by
  have HN : Hid (Calls Tryz.prog 192 #[.int .u64 a, .int .u64 c] w fun e w' => e = .returned (.bool (isNanM a || isNanM c)) ∧ w' = w) := anyNaN_m h h2
  have HI1 : Hid (Calls Tryz.prog 253 #[.int .u64 a] w fun e w' => e = .returned (.bool (isInfM a)) ∧ w' = w) := isInf_m h
  have HI2 : Hid (Calls Tryz.prog 253 #[.int .u64 c] w fun e w' => e = .returned (.bool (isInfM c)) ∧ w' = w) := isInf_m h2
  have HZ1 : Hid (Calls Tryz.prog 254 #[.int .u64 a] w fun e w' => e = .returned (.bool (isZeroM a)) ∧ w' = w) := isZero_m h
  have HZ2 : Hid (Calls Tryz.prog 254 #[.int .u64 c] w fun e w' => e = .returned (.bool (isZeroM c)) ∧ w' = w) := isZero_m h2
  have HP1 : Hid (Calls Tryz.prog 255 #[.int .u64 a] w fun e w' => e = .returned (.tuple #[.int .u64 (partsM a).1, .int .i64 (partsM a).2]) ∧ w' = w) := parts_m h
  have HP2 : Hid (Calls Tryz.prog 255 #[.int .u64 c] w fun e w' => e = .returned (.tuple #[.int .u64 (partsM c).1, .int .i64 (partsM c).2]) ∧ w' = w) := parts_m h2
  obtain ⟨R, HR⟩ : ∃ R, Hid (divM a c = R) := ⟨_, rfl⟩
  rw [HR.out]
  have sx := bt_xsg h h2
  have HPk : PkC (signM (negM a ^^ negM c)) (negM a ^^ negM c) := pkC _
  unfold divM at HR
  dsimp only at HR
  obtain ⟨s, HS⟩ : ∃ s, Hid (signM (negM a ^^ negM c) = s) := ⟨_, rfl⟩
  have hs : s = 0 ∨ s = 9223372036854775808 := by
    rw [← HS.out]
    unfold signM sgnM
    cases (negM a ^^ negM c)
    · exact .inl rfl
    · exact .inr rfl
  have ho := bt_inf hs
  rw [HS.out] at sx HPk HR
  generalize (negM a ^^ negM c) = ng at *
  cases hn : (isNanM a || isNanM c)
  · rw [hn] at HN HR
    rw [if_neg (by decide)] at HR
    cases i1 : isInfM a
    · rw [i1] at HI1 HR
      rw [if_neg (by decide)] at HR
      cases i2 : isInfM c
      · rw [i2] at HI2 HR
        rw [if_neg (by decide)] at HR
        cases z2 : isZeroM c
        · rw [z2] at HZ2 HR
          rw [if_neg (by decide)] at HR
          cases z1 : isZeroM a
          · rw [z1] at HZ1 HR
            rw [if_neg (by decide)] at HR
            obtain ⟨n1, n2⟩ := (Bool.or_eq_false_iff).1 hn
            obtain ⟨pa1, pa2, pa3, pa4⟩ := fin_parts h n1 i1 z1
            obtain ⟨pc1, pc2, pc3, pc4⟩ := fin_parts h2 n2 i2 z2
            clear n1 n2 i1 i2 z1 z2 hn ho
            obtain ⟨⟨ma, ea⟩, HM1⟩ : ∃ p, Hid (partsM a = p) := ⟨_, rfl⟩
            obtain ⟨⟨mb, eb⟩, HM2⟩ : ∃ p, Hid (partsM c = p) := ⟨_, rfl⟩
            rw [HM1.out] at HP1 HR pa1 pa2 pa3 pa4
            rw [HM2.out] at HP2 HR pc1 pc2 pc3 pc4
            simp only at pa1 pa2 pa3 pa4 pc1 pc2 pc3 pc4 HP1 HP2 HR
            obtain ⟨la, xlo, xhi⟩ := norm_52 pa1 pa2
            obtain ⟨lb, ylo, yhi⟩ := norm_52 pc1 pc2
            have NA : Hid (∀ k, k ≤ 52 - ma.log2 → ma * 2 ^ k < 9007199254740992 ∧ (ma * 2 ^ k < 4503599627370496 ↔ k < 52 - ma.log2)) := fun k hk => norm_at pa1 pa2 hk
            have NB : Hid (∀ k, k ≤ 52 - mb.log2 → mb * 2 ^ k < 9007199254740992 ∧ (mb * 2 ^ k < 4503599627370496 ↔ k < 52 - mb.log2)) := fun k hk => norm_at pc1 pc2 hk
            unfold divS at HR
            dsimp only at HR
            obtain ⟨ka, hka⟩ : ∃ k, 52 - ma.log2 = k := ⟨_, rfl⟩
            obtain ⟨kb, hkb⟩ : ∃ k, 52 - mb.log2 = k := ⟨_, rfl⟩
            rw [hka] at NA HR xlo xhi
            rw [hkb] at NB HR ylo yhi
            have kal : ka ≤ 52 := by omega
            have kbl : kb ≤ 52 := by omega
            clear hka hkb la lb
            obtain ⟨x, HX⟩ : ∃ x, Hid (ma * 2 ^ ka = x) := ⟨_, rfl⟩
            obtain ⟨y, HY⟩ : ∃ y, Hid (mb * 2 ^ kb = y) := ⟨_, rfl⟩
            rw [HX.out] at HR xlo xhi
            rw [HY.out] at HR ylo yhi
            go_enter Tryz.func197, Tryz.ntmps197
            go_wp2_with fail
            refine HN.out.mono ?_
            rintro e w' ⟨rfl, hw⟩
            rw [hw]
            go_wp2_with fail
            refine HI1.out.mono ?_
            rintro e w' ⟨rfl, hw⟩
            rw [hw]
            go_wp2_with fail
            refine HI2.out.mono ?_
            rintro e w' ⟨rfl, hw⟩
            rw [hw]
            go_wp2_with fail
            refine HZ2.out.mono ?_
            rintro e w' ⟨rfl, hw⟩
            rw [hw]
            go_wp2_with fail
            refine HZ1.out.mono ?_
            rintro e w' ⟨rfl, hw⟩
            rw [hw]
            go_wp2_with fail
            refine HP1.out.mono ?_
            rintro e w' ⟨rfl, hw⟩
            rw [hw]
            go_wp2_with fail
            refine HP2.out.mono ?_
            rintro e w' ⟨rfl, hw⟩
            rw [hw]
            go_wp2_with fail
            go_loopw [6, 7] (fun g1 g2 wr => ∃ (k m : Nat) (e : Int), k ≤ ka ∧ m < 9007199254740992 ∧ -1200 ≤ e ∧ e ≤ 971 ∧ g1 = .int .u64 m ∧ g2 = .int .i64 e ∧ Hid (m = ma * 2 ^ k ∧ e = ea - k) ∧ wr = w) (fun _ g2 _ => (intOf g2 + 10000).toNat)
            case atStart => exact ⟨0, ma, ea, by omega, pa2, by omega, pa4, rfl, rfl, (by refine ⟨by simp, by simp⟩ : _ ∧ _), rfl⟩
            case round =>
              obtain ⟨k, m, e, hk, hml, he1, he2, rfl, rfl, HJ, rfl⟩ := hrel
              by_cases hlt : k < ka
              · have hlow : m < 4503599627370496 := by
                  rw [HJ.out.1]
                  exact ((NA.out k hk).2).2 hlt
                have hnx : m * 2 < 9007199254740992 := by
                  have h1 := HJ.out.1
                  have := (NA.out (k + 1) (by omega)).1
                  rw [Nat.pow_succ, ← Nat.mul_assoc, ← h1] at this
                  exact this
                have g1 : decide (m < 4503599627370496) = true := decide_eq_true hlow
                have g2 : decide ((m : Int) < 4503599627370496) = true := decide_eq_true (by omega)
                obtain ⟨M, hM⟩ : ∃ M : Nat, (m : Int) * 2 = (M : Int) := ⟨m * 2, by omega⟩
                have hM' : m * 2 = M := by omega
                rw [hM'] at hnx
                have HM' : Hid (m * 2 = M) := hM'
                clear hM' hlow
                go_wp2_with fail
                refine ⟨⟨k + 1, M, e - 1, by omega, hnx, (by have := HJ.out.2; omega), by omega, rfl, rfl, ?_, trivial⟩, by simp [intOf]; omega⟩
                obtain ⟨e1, e2⟩ := HJ.out
                show _ ∧ _
                exact ⟨by rw [← HM'.out, e1, Nat.pow_succ, Nat.mul_assoc], by omega⟩
              · have hkk : k = ka := by omega
                have hmx : m = x := by rw [HJ.out.1, hkk]; exact HX.out
                have hex : e = ea - ka := by have := HJ.out.2; omega
                subst hmx
                have HEX : Hid (e = ea - ka) := hex
                clear HJ hkk hlt hk hex hml
                have hd1 : decide (m < 4503599627370496) = false := decide_eq_false (by omega)
                have hd1' : decide ((m : Int) < 4503599627370496) = false := decide_eq_false (by omega)
                go_wp2_with fail
                go_loopw [8, 9] (fun g1 g2 wr' => ∃ (k m : Nat) (e : Int), k ≤ kb ∧ m < 9007199254740992 ∧ -1200 ≤ e ∧ e ≤ 971 ∧ g1 = .int .u64 m ∧ g2 = .int .i64 e ∧ Hid (m = mb * 2 ^ k ∧ e = eb - k) ∧ wr' = wr) (fun _ g2 _ => (intOf g2 + 10000).toNat)
                case atStart => exact ⟨0, mb, eb, by omega, pc2, by omega, pc4, rfl, rfl, (by refine ⟨by simp, by simp⟩ : _ ∧ _), rfl⟩
                case round =>
                  obtain ⟨k', m', e', hk', hml', he1', he2', rfl, rfl, HJ', rfl⟩ := hrel
                  by_cases hlt' : k' < kb
                  · have hlow : m' < 4503599627370496 := by
                      rw [HJ'.out.1]
                      exact ((NB.out k' hk').2).2 hlt'
                    have hnx : m' * 2 < 9007199254740992 := by
                      have h1 := HJ'.out.1
                      have := (NB.out (k' + 1) (by omega)).1
                      rw [Nat.pow_succ, ← Nat.mul_assoc, ← h1] at this
                      exact this
                    have g1 : decide (m' < 4503599627370496) = true := decide_eq_true hlow
                    have g2 : decide ((m' : Int) < 4503599627370496) = true := decide_eq_true (by omega)
                    obtain ⟨M, hM⟩ : ∃ M : Nat, (m' : Int) * 2 = (M : Int) := ⟨m' * 2, by omega⟩
                    have hM' : m' * 2 = M := by omega
                    rw [hM'] at hnx
                    have HM' : Hid (m' * 2 = M) := hM'
                    clear hM' hlow
                    go_wp2_with fail
                    refine ⟨⟨k' + 1, M, e' - 1, by omega, hnx, (by have := HJ'.out.2; omega), by omega, rfl, rfl, ?_, trivial⟩, by simp [intOf]; omega⟩
                    obtain ⟨e1, e2⟩ := HJ'.out
                    show _ ∧ _
                    exact ⟨by rw [← HM'.out, e1, Nat.pow_succ, Nat.mul_assoc], by omega⟩
                  · have hkk : k' = kb := by omega
                    have hmx : m' = y := by rw [HJ'.out.1, hkk]; exact HY.out
                    have hex : e' = eb - kb := by have := HJ'.out.2; omega
                    subst hmx
                    have HEY : Hid (e' = eb - kb) := hex
                    clear HJ' hkk hlt' hk' hex hml'
                    have hd2 : decide (m' < 4503599627370496) = false := decide_eq_false (by omega)
                    have hd2' : decide ((m' : Int) < 4503599627370496) = false := decide_eq_false (by omega)
                    go_wp2_with fail
                    go_loopw [10, 11, 12] (fun g1 g2 g3 wr' => ∃ (i q r : Nat), i ≤ 63 ∧ q < 9223372036854775808 ∧ r < 18014398509481984 ∧ g1 = .int .u64 q ∧ g2 = .int .u64 r ∧ g3 = .int .i64 i ∧ Hid (DvI m m' i q r) ∧ wr' = wr) (fun _ _ g3 _ => (100 - intOf g3).toNat)
                    case atStart => exact ⟨0, 0, m, by omega, by omega, by omega, rfl, rfl, rfl, DvI.start (by omega), rfl⟩
                    case round =>
                      obtain ⟨i, q, r, hi, hq, hr, rfl, rfl, rfl, HD, rfl⟩ := hrel
                      clear hd1 hd1' hd2 hd2'
                      by_cases h63 : i < 63
                      · have hql : q < 4611686018427387904 := by
                          have h1 := HD.out.qlt (by omega)
                          have h2 : 2 ^ i ≤ 2 ^ 62 := Nat.pow_le_pow_right (by decide) (by omega)
                          have h3 : (2 : Nat) ^ 62 = 4611686018427387904 := by decide
                          omega
                        obtain ⟨Q, hQ⟩ : ∃ Q : Nat, (q : Int) * 2 = (Q : Int) := ⟨q * 2, by omega⟩
                        have hQ' : Q = q * 2 := by omega
                        by_cases hge : m' ≤ r
                        · have o1 : bits .or .u64 (Q : Int) 1 = ((Q + 1 : Nat) : Int) := by
                            have := u64_or_nat Q 1 (by omega) (by decide)
                            rw [show ((1 : Nat) : Int) = 1 from rfl] at this
                            rw [this, nat_join 1 Q 1 (by rw [hQ']; omega) (by decide)]
                          have HD2 : Hid (DvI m m' (i + 1) (Q + 1) ((r - m') * 2)) := by rw [hQ']; exact HD.out.one hge
                          obtain ⟨r1, hr1⟩ : ∃ r1 : Nat, (r : Int) - (m' : Int) = (r1 : Int) := ⟨r - m', by omega⟩
                          have hr1' : r - m' = r1 := by omega
                          rw [hr1'] at HD2
                          have hrl : r1 < m' := by have := HD2.out.lt; omega
                          have hQl : Q < 9223372036854775807 := by omega
                          clear hr1' hQ' hql
                          go_wp2_with fail
                          refine ⟨⟨i + 1, Q + 1, r1 * 2, by omega, by omega, by omega, rfl, rfl, rfl, HD2, trivial⟩, by simp [intOf]; omega⟩
                        · have HD2 : Hid (DvI m m' (i + 1) Q (r * 2)) := by rw [hQ']; exact HD.out.zero (by omega)
                          have hrl : r < m' := by omega
                          have hQl : Q < 9223372036854775807 := by omega
                          clear hQ' hql
                          go_wp2_with fail
                          refine ⟨⟨i + 1, Q, r * 2, by omega, by omega, by omega, rfl, rfl, rfl, HD2, trivial⟩, by simp [intOf]; omega⟩
                      · have hi63 : i = 63 := by omega
                        subst hi63
                        obtain ⟨d1, d2⟩ := HD.out.done (by omega)
                        obtain ⟨E, hE⟩ : ∃ E, e - e' - 62 = E := ⟨_, rfl⟩
                        have HV : Hid (R = packM ng q E (decide (r ≠ 0))) := by
                          show _ = _
                          rw [← HR.out, d1, d2, ← hE, HEX.out, HEY.out]
                        have El1 : -5000 ≤ E := by omega
                        have El2 : E ≤ 5000 := by omega
                        clear d1 d2
                        cases hr0 : decide (r ≠ 0)
                        · have hrr : ((r : Int) != 0) = false := by have := of_decide_eq_false hr0; rw [bne_eq_false_iff_eq]; omega
                          rw [hr0] at HV
                          have HPC := HPk wr q E false (show q < 18446744073709551616 by omega) (by omega) (by omega)
                          go_wp2_with fail
                          refine HPC.mono ?_
                          rintro e w' ⟨rfl, hw⟩
                          rw [hw]
                          go_wp2_with fail
                          go_ret
                          exact ⟨by rw [HV.out]; rfl, rfl⟩
                        · have hrr : ((r : Int) != 0) = true := by have := of_decide_eq_true hr0; rw [bne_iff_ne]; omega
                          rw [hr0] at HV
                          have HPC := HPk wr q E true (show q < 18446744073709551616 by omega) (by omega) (by omega)
                          go_wp2_with fail
                          refine HPC.mono ?_
                          rintro e w' ⟨rfl, hw⟩
                          rw [hw]
                          go_wp2_with fail
                          go_ret
                          exact ⟨by rw [HV.out]; rfl, rfl⟩
          · rw [z1] at HZ1 HR
            rw [if_pos rfl] at HR
            go_enter Tryz.func197, Tryz.ntmps197
            go_wp2_with fail
            refine HN.out.mono ?_
            rintro e w' ⟨rfl, hw⟩
            rw [hw]
            go_wp2_with fail
            refine HI1.out.mono ?_
            rintro e w' ⟨rfl, hw⟩
            rw [hw]
            go_wp2_with fail
            refine HI2.out.mono ?_
            rintro e w' ⟨rfl, hw⟩
            rw [hw]
            go_wp2_with fail
            refine HZ2.out.mono ?_
            rintro e w' ⟨rfl, hw⟩
            rw [hw]
            go_wp2_with fail
            refine HZ1.out.mono ?_
            rintro e w' ⟨rfl, hw⟩
            rw [hw]
            go_wp2_with fail
            go_ret
            exact ⟨by rw [← HR.out]; rfl, rfl⟩
        · rw [z2] at HZ2 HR
          rw [if_pos rfl] at HR
          cases z1 : isZeroM a
          · rw [z1] at HZ1 HR
            rw [if_neg (by decide)] at HR
            go_enter Tryz.func197, Tryz.ntmps197
            go_wp2_with fail
            refine HN.out.mono ?_
            rintro e w' ⟨rfl, hw⟩
            rw [hw]
            go_wp2_with fail
            refine HI1.out.mono ?_
            rintro e w' ⟨rfl, hw⟩
            rw [hw]
            go_wp2_with fail
            refine HI2.out.mono ?_
            rintro e w' ⟨rfl, hw⟩
            rw [hw]
            go_wp2_with fail
            refine HZ2.out.mono ?_
            rintro e w' ⟨rfl, hw⟩
            rw [hw]
            go_wp2_with fail
            refine HZ1.out.mono ?_
            rintro e w' ⟨rfl, hw⟩
            rw [hw]
            go_wp2_with fail
            go_ret
            exact ⟨by rw [← HR.out]; rfl, rfl⟩
          · rw [z1] at HZ1 HR
            rw [if_pos rfl] at HR
            go_enter Tryz.func197, Tryz.ntmps197
            go_wp2_with fail
            refine HN.out.mono ?_
            rintro e w' ⟨rfl, hw⟩
            rw [hw]
            go_wp2_with fail
            refine HI1.out.mono ?_
            rintro e w' ⟨rfl, hw⟩
            rw [hw]
            go_wp2_with fail
            refine HI2.out.mono ?_
            rintro e w' ⟨rfl, hw⟩
            rw [hw]
            go_wp2_with fail
            refine HZ2.out.mono ?_
            rintro e w' ⟨rfl, hw⟩
            rw [hw]
            go_wp2_with fail
            refine HZ1.out.mono ?_
            rintro e w' ⟨rfl, hw⟩
            rw [hw]
            go_wp2_with fail
            go_ret
            exact ⟨by rw [← HR.out]; rfl, rfl⟩
      · rw [i2] at HI2 HR
        rw [if_pos rfl] at HR
        go_enter Tryz.func197, Tryz.ntmps197
        go_wp2_with fail
        refine HN.out.mono ?_
        rintro e w' ⟨rfl, hw⟩
        rw [hw]
        go_wp2_with fail
        refine HI1.out.mono ?_
        rintro e w' ⟨rfl, hw⟩
        rw [hw]
        go_wp2_with fail
        refine HI2.out.mono ?_
        rintro e w' ⟨rfl, hw⟩
        rw [hw]
        go_wp2_with fail
        go_ret
        exact ⟨by rw [← HR.out]; rfl, rfl⟩
    · rw [i1] at HI1 HR
      rw [if_pos rfl] at HR
      cases i2 : isInfM c
      · rw [i2] at HI2 HR
        rw [if_neg (by decide)] at HR
        go_enter Tryz.func197, Tryz.ntmps197
        go_wp2_with fail
        refine HN.out.mono ?_
        rintro e w' ⟨rfl, hw⟩
        rw [hw]
        go_wp2_with fail
        refine HI1.out.mono ?_
        rintro e w' ⟨rfl, hw⟩
        rw [hw]
        go_wp2_with fail
        refine HI2.out.mono ?_
        rintro e w' ⟨rfl, hw⟩
        rw [hw]
        go_wp2_with fail
        go_ret
        exact ⟨by rw [← HR.out]; rfl, rfl⟩
      · rw [i2] at HI2 HR
        rw [if_pos rfl] at HR
        go_enter Tryz.func197, Tryz.ntmps197
        go_wp2_with fail
        refine HN.out.mono ?_
        rintro e w' ⟨rfl, hw⟩
        rw [hw]
        go_wp2_with fail
        refine HI1.out.mono ?_
        rintro e w' ⟨rfl, hw⟩
        rw [hw]
        go_wp2_with fail
        refine HI2.out.mono ?_
        rintro e w' ⟨rfl, hw⟩
        rw [hw]
        go_wp2_with fail
        go_ret
        exact ⟨by rw [← HR.out]; rfl, rfl⟩
  · rw [hn] at HN HR
    rw [if_pos rfl] at HR
    go_enter Tryz.func197, Tryz.ntmps197
    go_wp2_with fail
    refine HN.out.mono ?_
    rintro e w' ⟨rfl, hw⟩
    rw [hw]
    go_wp2_with fail
    go_ret
    exact ⟨by rw [← HR.out]; rfl, rfl⟩
end
end Go.Proofs.Qxb6500574aGreatDoor
