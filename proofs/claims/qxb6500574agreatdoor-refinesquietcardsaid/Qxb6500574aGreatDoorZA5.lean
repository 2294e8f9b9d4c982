/-
  THE WALKS of numm: mul.
-/
import Derived.Test.Qxb6500574aGreatDoorZA4
namespace Go.Proofs.Qxb6500574aGreatDoor
open Go Go.RowKit
set_option linter.unusedVariables false
set_option linter.unusedSimpArgs false
theorem bt_lo32 {a : Nat} (h : u64 a) : bits .and .u64 (a : Int) 4294967295 = ((a % 4294967296 : Nat) : Int) := by
  have := u64_and_nat a 4294967295 h (by decide)
  rw [show ((4294967295 : Nat) : Int) = 4294967295 from rfl] at this
  rw [this, show (4294967295 : Nat) = 2 ^ 32 - 1 by decide, Nat.and_two_pow_sub_one_eq_mod]
theorem bt_odd {a : Nat} (h : u64 a) : bits .and .u64 (a : Int) 1 = ((a % 2 : Nat) : Int) := by
  have := u64_and_nat a 1 h (by decide)
  rw [show ((1 : Nat) : Int) = 1 from rfl] at this
  rw [this, show (1 : Nat) = 2 ^ 1 - 1 by decide, Nat.and_two_pow_sub_one_eq_mod]
theorem bt_xsg {a c : Nat} (h : u64 a) (h2 : u64 c) : bits .and .u64 (bits .xor .u64 (a : Int) (c : Int)) 9223372036854775808 = ((signM (negM a ^^ negM c) : Nat) : Int) := by
  have hx : a ^^^ c < 18446744073709551616 := Nat.xor_lt_two_pow (n := 64) h h2
  rw [u64_xor_nat a c h h2, bt_sg hx]
  congr 2
  have hb : ∀ x : Nat, x < 18446744073709551616 → x.testBit 63 = negM x := fun x hx => by
    rw [Nat.testBit_eq_decide_div_mod_eq]
    unfold negM
    rw [show (2 : Nat) ^ 63 = 9223372036854775808 by decide]
    exact decide_eq_decide.2 (by omega)
  rw [← hb _ hx, ← hb a h, ← hb c h2, Nat.testBit_xor]
/-- the product by halves -/
theorem mul_halves {ma mb : Nat} (h1 : ma < 9007199254740992) (h2 : mb < 9007199254740992) : ∃ a0 a1 b0 b1 x00 x10 x01 x11 : Nat, ma % 4294967296 = a0 ∧ ma / 4294967296 = a1 ∧ mb % 4294967296 = b0 ∧ mb / 4294967296 = b1 ∧ a0 * b0 = x00 ∧ a1 * b0 = x10 ∧ a0 * b1 = x01 ∧ a1 * b1 = x11 ∧ x00 ≤ 4294967295 * 4294967295 ∧ x10 ≤ 2097151 * 4294967295 ∧ x01 ≤ 4294967295 * 2097151 ∧ x11 ≤ 2097151 * 2097151 ∧ ma * mb = x11 * 18446744073709551616 + (x10 + x01) * 4294967296 + x00 := by
  have b1 : ma % 4294967296 ≤ 4294967295 := by omega
  have b2 : ma / 4294967296 ≤ 2097151 := by omega
  have b3 : mb % 4294967296 ≤ 4294967295 := by omega
  have b4 : mb / 4294967296 ≤ 2097151 := by omega
  refine ⟨_, _, _, _, _, _, _, _, rfl, rfl, rfl, rfl, rfl, rfl, rfl, rfl, Nat.mul_le_mul b1 b3, Nat.mul_le_mul b2 b3, Nat.mul_le_mul b1 b4, Nat.mul_le_mul b2 b4, ?_⟩
  have e1 : ma = ma / 4294967296 * 4294967296 + ma % 4294967296 := by omega
  have e2 : mb = mb / 4294967296 * 4294967296 + mb % 4294967296 := by omega
  generalize ma / 4294967296 = p at *
  generalize ma % 4294967296 = q at *
  generalize mb / 4294967296 = r at *
  generalize mb % 4294967296 = s at *
  rw [e1, e2, Nat.add_mul, Nat.mul_add, Nat.mul_add]
  have z1 : p * 4294967296 * (r * 4294967296) = p * r * 18446744073709551616 := by rw [Nat.mul_assoc, Nat.mul_left_comm 4294967296 r, ← Nat.mul_assoc]
  have z2 : p * 4294967296 * s = p * s * 4294967296 := by rw [Nat.mul_assoc, Nat.mul_comm 4294967296 s, ← Nat.mul_assoc]
  have z3 : q * (r * 4294967296) = q * r * 4294967296 := by rw [Nat.mul_assoc]
  rw [z1, z2, z3, Nat.add_mul]
  omega
theorem odd_next (P k : Nat) : decide (P % 2 ^ (k + 1) ≠ 0) = (decide (P % 2 ^ k ≠ 0) || decide (P / 2 ^ k % 2 = 1)) := by
  rw [Nat.pow_succ, Nat.mod_mul]
  have hp : 0 < 2 ^ k := Nat.pow_pos (by decide)
  generalize 2 ^ k = p at *
  generalize P % p = r
  have : P / p % 2 = 0 ∨ P / p % 2 = 1 := by omega
  rcases this with z | z <;> rw [z]
  · simp
  · simp
    omega
theorem sh_done {P k : Nat} (h0 : P ≠ 0) (hk : k ≤ shM P) (hl : P / 2 ^ k < 18446744073709551616) : k = shM P := by
  unfold shM at *
  refine Classical.byContradiction fun z => ?_
  have h1 : 2 ^ P.log2 ≤ P := Nat.log2_self_le h0
  have h2 : 2 ^ (P.log2 - k) ≤ P / 2 ^ k := by
    rw [Nat.le_div_iff_mul_le (Nat.pow_pos (by decide)), ← Nat.pow_add, show P.log2 - k + k = P.log2 by omega]
    exact h1
  have h3 : 2 ^ 64 ≤ 2 ^ (P.log2 - k) := Nat.pow_le_pow_right (by decide) (by omega)
  have h4 : (2 : Nat) ^ 64 = 18446744073709551616 := by decide
  omega
theorem sh_more {P k : Nat} (h0 : P ≠ 0) (hk : k ≤ shM P) (hl : 18446744073709551616 ≤ P / 2 ^ k) : k < shM P := by
  unfold shM at *
  refine Classical.byContradiction fun z => ?_
  have h1 : P < 2 ^ (P.log2 + 1) := Nat.lt_log2_self
  have h2 : P / 2 ^ k < 2 ^ 64 := by
    rw [Nat.div_lt_iff_lt_mul (Nat.pow_pos (by decide)), ← Nat.pow_add]
    exact Nat.lt_of_lt_of_le h1 (Nat.pow_le_pow_right (by decide) (by omega))
  have h4 : (2 : Nat) ^ 64 = 18446744073709551616 := by decide
  omega
section
variable {w : World}
set_option maxRecDepth 100000
set_option maxHeartbeats 4000000
theorem mul_m {a c : Nat} (h : u64 a) (h2 : u64 c) : Calls Tryz.prog 196 #[.int .u64 a, .int .u64 c] w fun e w' => e = .returned (.int .u64 (mulM a c)) ∧ w' = w := by
  have HN : Hid (Calls Tryz.prog 192 #[.int .u64 a, .int .u64 c] w fun e w' => e = .returned (.bool (isNanM a || isNanM c)) ∧ w' = w) := anyNaN_m h h2
  have HI : Hid (Calls Tryz.prog 256 #[.int .u64 a, .int .u64 c] w fun e w' => e = .returned (.bool (isInfM a || isInfM c)) ∧ w' = w) := anyInf_m h h2
  have HZ : Hid (Calls Tryz.prog 257 #[.int .u64 a, .int .u64 c] w fun e w' => e = .returned (.bool (isZeroM a || isZeroM c)) ∧ w' = w) := anyZero_m h h2
  have HP1 : Hid (Calls Tryz.prog 255 #[.int .u64 a] w fun e w' => e = .returned (.tuple #[.int .u64 (partsM a).1, .int .i64 (partsM a).2]) ∧ w' = w) := parts_m h
  have HP2 : Hid (Calls Tryz.prog 255 #[.int .u64 c] w fun e w' => e = .returned (.tuple #[.int .u64 (partsM c).1, .int .i64 (partsM c).2]) ∧ w' = w) := parts_m h2
  obtain ⟨R, HR⟩ : ∃ R, Hid (mulM a c = R) := ⟨_, rfl⟩
  rw [HR.out]
  have sx := bt_xsg h h2
  have HPk : PkC (signM (negM a ^^ negM c)) (negM a ^^ negM c) := pkC _
  unfold mulM at HR
  dsimp only at HR
  obtain ⟨s, HS⟩ : ∃ s, Hid (signM (negM a ^^ negM c) = s) := ⟨_, rfl⟩
  have hs : s = 0 ∨ s = 9223372036854775808 := by
    rw [← HS.out]
    unfold signM sgnM
    cases (negM a ^^ negM c)
    · exact .inl rfl
    · exact .inr rfl
  have ho := bt_inf hs
  rw [HS.out] at sx HPk HR
  generalize (negM a ^^ negM c) = ng at *
  cases hn : (isNanM a || isNanM c)
  · rw [hn] at HN HR
    rw [if_neg (by decide)] at HR
    cases hi : (isInfM a || isInfM c)
    · rw [hi] at HI HR
      rw [if_neg (by decide)] at HR
      cases hz : (isZeroM a || isZeroM c)
      · rw [hz] at HZ HR
        rw [if_neg (by decide)] at HR
        obtain ⟨n1, n2⟩ := (Bool.or_eq_false_iff).1 hn
        obtain ⟨i1, i2⟩ := (Bool.or_eq_false_iff).1 hi
        obtain ⟨z1, z2⟩ := (Bool.or_eq_false_iff).1 hz
        obtain ⟨pa1, pa2, pa3, pa4⟩ := fin_parts h n1 i1 z1
        obtain ⟨pc1, pc2, pc3, pc4⟩ := fin_parts h2 n2 i2 z2
        clear n1 n2 i1 i2 z1 z2 hn hi hz ho
        obtain ⟨⟨ma, ea⟩, HM1⟩ : ∃ p, Hid (partsM a = p) := ⟨_, rfl⟩
        obtain ⟨⟨mb, eb⟩, HM2⟩ : ∃ p, Hid (partsM c = p) := ⟨_, rfl⟩
        rw [HM1.out] at HP1 HR pa1 pa2 pa3 pa4
        rw [HM2.out] at HP2 HR pc1 pc2 pc3 pc4
        simp only at pa1 pa2 pa3 pa4 pc1 pc2 pc3 pc4 HP1 HP2 HR
        have hP0 : ma * mb ≠ 0 := Nat.ne_of_gt (Nat.mul_pos (by omega) (by omega))
        have hsh : shM (ma * mb) ≤ 43 := by
          unfold shM
          have h1 : ma * mb < 2 ^ 106 := by
            have := Nat.mul_lt_mul_of_lt_of_le pa2 (Nat.le_of_lt pc2) (by decide)
            exact Nat.lt_of_lt_of_le this (by decide)
          have := (Nat.log2_lt hP0).2 h1
          omega
        obtain ⟨a0, a1, b0, b1, x00, x10, x01, x11, HA0, HA1, HB0, HB1, H00, H10, H01, H11, l00, l10, l01, l11, hP⟩ := mul_halves pa2 pc2
        have f1 := bt_lo32 (a := ma) (by unfold u64; omega)
        have f2 := bt_lo32 (a := mb) (by unfold u64; omega)
        rw [HA0] at f1
        rw [HB0] at f2
        have f3 : (ma : Int) / 4294967296 = (a1 : Int) := by omega
        have f4 : (mb : Int) / 4294967296 = (b1 : Int) := by omega
        have f5 : (a1 : Int) * (b0 : Int) = (x10 : Int) := by rw [← H10]; simp
        have f6 : (a0 : Int) * (b0 : Int) = (x00 : Int) := by rw [← H00]; simp
        have f7 : (a0 : Int) * (b1 : Int) = (x01 : Int) := by rw [← H01]; simp
        have f8 : (a1 : Int) * (b1 : Int) = (x11 : Int) := by rw [← H11]; simp
        have la0 : a0 < 4294967296 := by omega
        have lb0 : b0 < 4294967296 := by omega
        have la1 : a1 < 2097152 := by omega
        have lb1 : b1 < 2097152 := by omega
        clear HA0 HA1 HB0 HB1 H00 H10 H01 H11
        obtain ⟨y, f9⟩ : ∃ y : Nat, (x00 : Int) / 4294967296 = (y : Int) := ⟨x00 / 4294967296, by omega⟩
        have ly : y ≤ 4294967295 := by omega
        obtain ⟨mid, f10⟩ : ∃ y' : Nat, (x10 : Int) + (y : Int) = (y' : Int) := ⟨x10 + y, by omega⟩
        have f11 := bt_lo32 (a := mid) (by unfold u64; omega)
        obtain ⟨z, HZ1⟩ : ∃ z, Hid (mid % 4294967296 = z) := ⟨_, rfl⟩
        rw [HZ1.out] at f11
        have lz : z ≤ 4294967295 := by rw [← HZ1.out]; omega
        obtain ⟨mid2, f12⟩ : ∃ y' : Nat, (x01 : Int) + (z : Int) = (y' : Int) := ⟨x01 + z, by omega⟩
        obtain ⟨u, f13⟩ : ∃ u : Nat, (mid : Int) / 4294967296 = (u : Int) := ⟨mid / 4294967296, by omega⟩
        have lu : u ≤ 4294967295 := by omega
        obtain ⟨v, f14⟩ : ∃ v : Nat, (x11 : Int) + (u : Int) = (v : Int) := ⟨x11 + u, by omega⟩
        obtain ⟨t, f15⟩ : ∃ t : Nat, (mid2 : Int) / 4294967296 = (t : Int) := ⟨mid2 / 4294967296, by omega⟩
        have lt' : t ≤ 4294967295 := by omega
        obtain ⟨hi, f16⟩ : ∃ t' : Nat, (v : Int) + (t : Int) = (t' : Int) := ⟨v + t, by omega⟩
        obtain ⟨s2, f17⟩ : ∃ s2 : Nat, IntKind.u64.wrap ((mid2 : Int) * 4294967296) = (s2 : Int) := ⟨mid2 % 4294967296 * 4294967296, by rw [IntKind.wrap_u64]; omega⟩
        have e17 : s2 = mid2 % 4294967296 * 4294967296 := by rw [IntKind.wrap_u64] at f17; omega
        have f18 := bt_lo32 (a := x00) (by unfold u64; omega)
        obtain ⟨q, HQ⟩ : ∃ q, Hid (x00 % 4294967296 = q) := ⟨_, rfl⟩
        rw [HQ.out] at f18
        have lq : q < 4294967296 := by rw [← HQ.out]; omega
        obtain ⟨lo, HLO⟩ : ∃ lo, Hid (s2 + q = lo) := ⟨_, rfl⟩
        have f19 : bits .or .u64 (s2 : Int) (q : Int) = (lo : Int) := by
          rw [u64_or_nat s2 q (by omega) (by omega), nat_join 32 s2 q (by rw [e17, show (2 : Nat) ^ 32 = 4294967296 by decide]; omega) (by rw [show (2 : Nat) ^ 32 = 4294967296 by decide]; exact lq), HLO.out]
        have lhi : hi < 9223372036854775808 := by omega
        have llo : lo < 18446744073709551616 := by rw [← HLO.out]; omega
        have HPP : Hid (ma * mb = hi * 18446744073709551616 + lo) := by
          show _ = _
          rw [hP, ← HLO.out, e17]
          have := HZ1.out
          have := HQ.out
          omega
        clear hP e17 HZ1 HQ HLO
        have el : ea + eb ≤ 2000 := by omega
        have el2 : -2200 ≤ ea + eb := by omega
        obtain ⟨E, hE⟩ : ∃ E, ea + eb = E := ⟨_, rfl⟩
        rw [hE] at el el2
        obtain ⟨P, HP⟩ : ∃ P, Hid (ma * mb = P) := ⟨_, rfl⟩
        rw [HP.out] at HPP HR hP0 hsh
        have hE' := hE
        rw [hE'] at HR
        go_enter Tryz.func196, Tryz.ntmps196
        go_wp2_with fail
        refine HN.out.mono ?_
        rintro e w' ⟨rfl, hw⟩
        rw [hw]
        go_wp2_with fail
        refine HI.out.mono ?_
        rintro e w' ⟨rfl, hw⟩
        rw [hw]
        go_wp2_with fail
        refine HZ.out.mono ?_
        rintro e w' ⟨rfl, hw⟩
        rw [hw]
        go_wp2_with fail
        refine HP1.out.mono ?_
        rintro e w' ⟨rfl, hw⟩
        rw [hw]
        go_wp2_with fail
        refine HP2.out.mono ?_
        rintro e w' ⟨rfl, hw⟩
        rw [hw]
        go_wp2_with fail
        go_loopw [16, 17, 18, 19] (fun g1 g2 g3 g4 wr => ∃ (k H L : Nat) (e : Int) (st : Bool), H < 9223372036854775808 ∧ L < 18446744073709551616 ∧ -2200 ≤ e ∧ e ≤ 2200 ∧ g1 = .int .u64 H ∧ g2 = .int .u64 L ∧ g3 = .int .i64 e ∧ g4 = .bool st ∧ Hid (k ≤ shM P ∧ P / 2 ^ k = H * 18446744073709551616 + L ∧ e = E + k ∧ st = decide (P % 2 ^ k ≠ 0)) ∧ wr = w) (fun g1 _ _ _ _ => (intOf g1).toNat)
        case atStart => exact ⟨0, hi, lo, E, false, lhi, llo, el2, by omega, rfl, rfl, rfl, rfl, (by refine ⟨Nat.zero_le _, by rw [Nat.pow_zero, Nat.div_one]; exact HPP.out, by simp, by rw [Nat.pow_zero, Nat.mod_one]; rfl⟩ : _ ∧ _), rfl⟩
        case round =>
          obtain ⟨k, H, L, e, st, lH, lL, le1, le2, rfl, rfl, rfl, rfl, HJ, rfl⟩ := hrel
          clear HPP f1 f2 f3 f4 f5 f6 f7 f8 f9 f10 f11 f12 f13 f14 f15 f16 f17 f18 f19
          by_cases h0 : H = 0
          · subst h0
            obtain ⟨k1, k2, k3, k4⟩ := HJ.out
            have hks : k = shM P := sh_done hP0 k1 (by omega)
            have HV : Hid (R = packM ng L e st) := by
              show _ = _
              rw [← HR.out, ← hks, k2, Nat.zero_mul, Nat.zero_add, ← k3, ← k4]
            have HPC := HPk wr L e st lL (by omega) (by omega)
            clear k2 k3 k4 hks k1
            go_wp2_with fail
            refine HPC.mono ?_
            rintro e w' ⟨rfl, hw⟩
            rw [hw]
            go_wp2_with fail
            go_ret
            exact ⟨by rw [HV.out]; rfl, rfl⟩
          · have hne : ((H : Int) != 0) = true := by rw [bne_iff_ne]; omega
            have o1 := bt_odd (a := L) lL
            obtain ⟨L2, hL2⟩ : ∃ L2 : Nat, (L : Int) / 2 = (L2 : Int) := ⟨L / 2, by omega⟩
            have hL2l : L2 < 9223372036854775808 := by omega
            obtain ⟨H2, hH2⟩ : ∃ H2 : Nat, (H : Int) / 2 = (H2 : Int) := ⟨H / 2, by omega⟩
            obtain ⟨H6, hH6⟩ : ∃ H6 : Nat, IntKind.u64.wrap ((H : Int) * 9223372036854775808) = (H6 : Int) := ⟨H % 2 * 9223372036854775808, by rw [IntKind.wrap_u64]; omega⟩
            have e6 : H6 = H % 2 * 9223372036854775808 := by rw [IntKind.wrap_u64] at hH6; omega
            obtain ⟨LN, HLN⟩ : ∃ LN, Hid (L2 + H6 = LN) := ⟨_, rfl⟩
            have o2 : bits .or .u64 (L2 : Int) (H6 : Int) = (LN : Int) := by
              rw [u64_or_nat L2 H6 (by omega) (by omega), Nat.or_comm, nat_join 63 H6 L2 (by rw [e6, show (2 : Nat) ^ 63 = 9223372036854775808 by decide]; omega) (by rw [show (2 : Nat) ^ 63 = 9223372036854775808 by decide]; exact hL2l), Nat.add_comm, HLN.out]
            have lLN : LN < 18446744073709551616 := by rw [← HLN.out]; omega
            have HI2 : Hid (k + 1 ≤ shM P ∧ P / 2 ^ (k + 1) = H2 * 18446744073709551616 + LN ∧ e + 1 = E + (k + 1 : Nat) ∧ (st || decide (L % 2 = 1)) = decide (P % 2 ^ (k + 1) ≠ 0)) := by
              obtain ⟨k1, k2, k3, k4⟩ := HJ.out
              have := sh_more hP0 k1 (by omega)
              refine ⟨by omega, ?_, by omega, ?_⟩
              · rw [Nat.pow_succ, ← Nat.div_div_eq_div_mul, k2, ← HLN.out, e6]
                omega
              · rw [odd_next, k4, k2]
                congr 2
                rw [show (H * 18446744073709551616 + L) % 2 = L % 2 by omega]
            have le3 : e + 1 ≤ 2200 := by
              obtain ⟨k1, k2, k3, k4⟩ := HI2.out
              omega
            clear e6 HJ
            have hlt : H2 < H := by omega
            have lH2 : H2 < 9223372036854775808 := by omega
            have h2c : L % 2 = 0 ∨ L % 2 = 1 := by omega
            rcases h2c with hc | hc
            · rw [hc] at o1
              have hc' : decide (L % 2 = 1) = false := decide_eq_false (by omega)
              rw [hc', Bool.or_false] at HI2
              clear hc hc'
              go_wp2_with fail
              refine ⟨⟨k + 1, H2, LN, e + 1, st, lH2, lLN, by omega, le3, rfl, rfl, rfl, rfl, HI2, trivial⟩, by simp [intOf]; omega⟩
            · rw [hc] at o1
              have hc' : decide (L % 2 = 1) = true := decide_eq_true hc
              rw [hc', Bool.or_true] at HI2
              clear hc hc'
              go_wp2_with fail
              refine ⟨⟨k + 1, H2, LN, e + 1, true, lH2, lLN, by omega, le3, rfl, rfl, rfl, rfl, HI2, trivial⟩, by simp [intOf]; omega⟩
      · rw [hz] at HZ HR
        rw [if_pos rfl] at HR
        go_enter Tryz.func196, Tryz.ntmps196
        go_wp2_with fail
        refine HN.out.mono ?_
        rintro e w' ⟨rfl, hw⟩
        rw [hw]
        go_wp2_with fail
        refine HI.out.mono ?_
        rintro e w' ⟨rfl, hw⟩
        rw [hw]
        go_wp2_with fail
        refine HZ.out.mono ?_
        rintro e w' ⟨rfl, hw⟩
        rw [hw]
        go_wp2_with fail
        go_ret
        exact ⟨by rw [← HR.out]; rfl, rfl⟩
    · rw [hi] at HI HR
      rw [if_pos rfl] at HR
      cases hz : (isZeroM a || isZeroM c)
      · rw [hz] at HZ HR
        rw [if_neg (by decide)] at HR
        go_enter Tryz.func196, Tryz.ntmps196
        go_wp2_with fail
        refine HN.out.mono ?_
        rintro e w' ⟨rfl, hw⟩
        rw [hw]
        go_wp2_with fail
        refine HI.out.mono ?_
        rintro e w' ⟨rfl, hw⟩
        rw [hw]
        go_wp2_with fail
        refine HZ.out.mono ?_
        rintro e w' ⟨rfl, hw⟩
        rw [hw]
        go_wp2_with fail
        go_ret
        exact ⟨by rw [← HR.out]; rfl, rfl⟩
      · rw [hz] at HZ HR
        rw [if_pos rfl] at HR
        go_enter Tryz.func196, Tryz.ntmps196
        go_wp2_with fail
        refine HN.out.mono ?_
        rintro e w' ⟨rfl, hw⟩
        rw [hw]
        go_wp2_with fail
        refine HI.out.mono ?_
        rintro e w' ⟨rfl, hw⟩
        rw [hw]
        go_wp2_with fail
        refine HZ.out.mono ?_
        rintro e w' ⟨rfl, hw⟩
        rw [hw]
        go_wp2_with fail
        go_ret
        exact ⟨by rw [← HR.out]; rfl, rfl⟩
  · rw [hn] at HN HR
    rw [if_pos rfl] at HR
    go_enter Tryz.func196, Tryz.ntmps196
    go_wp2_with fail
    refine HN.out.mono ?_
    rintro e w' ⟨rfl, hw⟩
    rw [hw]
    go_wp2_with fail
    go_ret
    exact ⟨by rw [← HR.out]; rfl, rfl⟩
end
end Go.Proofs.Qxb6500574aGreatDoor
