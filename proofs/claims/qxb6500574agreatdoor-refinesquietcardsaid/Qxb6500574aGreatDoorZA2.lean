/-
  THE WALKS of numm: pack.
-/
import Derived.Test.Qxb6500574aGreatDoorZA1
namespace Go.Proofs.Qxb6500574aGreatDoor
open Go Go.RowKit
set_option linter.unusedVariables false
set_option linter.unusedSimpArgs false
theorem bt_top {m : Nat} (h : u64 m) : (bits .and .u64 (m : Int) 9223372036854775808 == 0) = decide (m < 9223372036854775808) := by
  rw [bt_sg h]
  unfold signM sgnM negM
  by_cases z : 9223372036854775808 ≤ m
  · rw [decide_eq_true z, if_pos rfl, decide_eq_false (by omega)]
    rfl
  · rw [decide_eq_false z, if_neg (by decide), decide_eq_true (by omega)]
    rfl
/-- pack behind its loop -/
def tailM (neg : Bool) (m : Nat) (top : Int) (st : Bool) : Nat :=
  if 1023 < top then signM neg + infM
  else if top < -1022 then (if 53 < (-1022 - top).toNat then signM neg else signM neg + rndMZ m (11 + (-1022 - top).toNat) st)
  else signM neg + (if infM ≤ (top + 1022).toNat * 4503599627370496 + rndMZ m 11 st then infM else (top + 1022).toNat * 4503599627370496 + rndMZ m 11 st)
theorem rnd_53 {m d : Nat} (h : u64 m) (h1 : 11 ≤ d) (st : Bool) : rndMZ m d st ≤ 9007199254740992 := by
  unfold rndMZ
  have hd : 2 ^ 11 ≤ 2 ^ d := Nat.pow_le_pow_right (by decide) h1
  have : m / 2 ^ d ≤ m / 2 ^ 11 := Nat.div_le_div_left hd (by decide)
  unfold u64 at h
  have : m / 2 ^ 11 ≤ 9007199254740991 := by
    rw [show (2 : Nat) ^ 11 = 2048 by decide]
    omega
  have : ∀ b : Bool, b.toNat ≤ 1 := fun b => by cases b <;> decide
  have := this (decide (2 ^ d < 2 * (m % 2 ^ d)) || (decide (2 ^ d = 2 * (m % 2 ^ d)) && (st || m / 2 ^ d % 2 == 1)))
  omega
theorem pack_tail {neg : Bool} {man : Nat} (h0 : man ≠ 0) (hm : u64 man) {ex : Int} {st : Bool} : packM neg man ex st = tailM neg (man * 2 ^ (63 - man.log2)) (ex + man.log2) st := by
  have hl : man.log2 ≤ 63 := by have := (Nat.log2_lt h0 (k := 64)).2 (by have : (2 : Nat) ^ 64 = 18446744073709551616 := (by decide); unfold u64 at hm; omega); omega
  have hhi : man < 2 ^ (man.log2 + 1) := Nat.lt_log2_self
  have hu : u64 (man * 2 ^ (63 - man.log2)) := by
    have := Nat.mul_lt_mul_of_pos_right hhi (Nat.pow_pos (n := 63 - man.log2) (show 0 < 2 by decide))
    rw [← Nat.pow_add, show man.log2 + 1 + (63 - man.log2) = 64 by omega] at this
    exact this
  unfold packM tailM
  rw [if_neg h0]
  generalize man * 2 ^ (63 - man.log2) = m at *
  generalize ex + (man.log2 : Int) = top at *
  dsimp only
  by_cases h1 : 1023 < top
  · rw [if_pos h1, if_pos h1]
  rw [if_neg h1, if_neg h1]
  by_cases h2 : top < -1022
  · simp only [if_pos h2]
    by_cases h3 : 53 < (-1022 - top).toNat
    · rw [if_pos h3, if_pos (by omega)]
    · rw [if_neg h3, if_neg (by omega)]
      have := rnd_53 hu (d := 11 + (-1022 - top).toNat) (by omega) st
      rw [if_neg (by unfold infM; omega)]
  · simp only [if_neg h2]
    rw [if_neg (by decide)]
theorem bt_or {s r : Nat} (h : s = 0 ∨ s = 9223372036854775808) (hr : r < 9223372036854775808) : bits .or .u64 (s : Int) (r : Int) = ((s + r : Nat) : Int) := by
  have := u64_or_nat s r (by omega) (by omega)
  rw [this, nat_join 63 s r (by rcases h with h | h <;> subst h <;> decide) (by rw [show (2 : Nat) ^ 63 = 9223372036854775808 by decide]; exact hr)]
theorem rnd_64 {m : Nat} (h : u64 m) {st : Bool} : rndMZ m 64 st = ((decide (9223372036854775808 < m)) || (decide (m = 9223372036854775808) && st)).toNat := by
  unfold rndMZ
  rw [show (2 : Nat) ^ 64 = 18446744073709551616 by decide]
  unfold u64 at h
  rw [Nat.div_eq_of_lt h, Nat.mod_eq_of_lt h, Nat.zero_add]
  rw [show decide (18446744073709551616 < 2 * m) = decide (9223372036854775808 < m) from decide_eq_decide.2 (by omega), show decide (18446744073709551616 = 2 * m) = decide (m = 9223372036854775808) from decide_eq_decide.2 (by omega)]
  cases st <;> rfl
/-- what a cut by d digits gives -/
theorem rnd_facts {m d : Nat} (h : u64 m) (hd : d ≤ 63) (h1 : 11 ≤ d) (st : Bool) : ∃ (q r p hf : Nat) (u : Bool), Hid (rndMZ m d st = q + u.toNat) ∧ (m : Int) / 2 ^ d = (q : Int) ∧ IntKind.u64.wrap (2 ^ d) = (p : Int) ∧ IntKind.u64.wrap (2 ^ (d - 1)) = (hf : Int) ∧ bits .and .u64 (m : Int) ((p : Int) - 1) = (r : Int) ∧ bits .and .u64 (q : Int) 1 = ((q % 2 : Nat) : Int) ∧ q ≤ 9007199254740991 ∧ p < 18446744073709551616 ∧ 1 ≤ p ∧ hf < 18446744073709551616 ∧ r < 18446744073709551616 ∧ ((hf < r ∧ u = true) ∨ (r = hf ∧ (q % 2 = 0 ∨ q % 2 = 1) ∧ u = (st || decide (q % 2 = 1))) ∨ (r < hf ∧ u = false)) := by
  have hp : 2 ^ d < 18446744073709551616 := by
    have : 2 ^ d ≤ 2 ^ 63 := Nat.pow_le_pow_right (by decide) hd
    have e : (2 : Nat) ^ 63 = 9223372036854775808 := by decide
    omega
  have hp1 : 1 ≤ 2 ^ d := Nat.pow_pos (by decide)
  have hp2 : 2 ^ d = 2 * 2 ^ (d - 1) := by
    rw [← Nat.pow_succ', show (d - 1).succ = d by omega]
  have hq : m / 2 ^ d ≤ 9007199254740991 := by
    have hd : 2 ^ 11 ≤ 2 ^ d := Nat.pow_le_pow_right (by decide) h1
    have : m / 2 ^ d ≤ m / 2 ^ 11 := Nat.div_le_div_left hd (by decide)
    unfold u64 at h
    have : m / 2 ^ 11 ≤ 9007199254740991 := by
      rw [show (2 : Nat) ^ 11 = 2048 by decide]
      omega
    omega
  have e1 : 1 * 2 ^ d = 2 ^ d := Nat.one_mul _
  have e2 : 1 * 2 ^ (d - 1) = 2 ^ (d - 1) := Nat.one_mul _
  refine ⟨m / 2 ^ d, m % 2 ^ d, 2 ^ d, 2 ^ (d - 1), _, rfl, by simp, ?_, ?_, ?_, ?_, hq, hp, hp1, by omega, ?_, ?_⟩
  · rw [show ((2 : Int) ^ d) = ((2 ^ d : Nat) : Int) by simp, IntKind.wrap_u64]
    omega
  · rw [show ((2 : Int) ^ (d - 1)) = ((2 ^ (d - 1) : Nat) : Int) by simp, IntKind.wrap_u64]
    omega
  · have := u64_and_nat m (2 ^ d - 1) h (by omega)
    rw [show (((2 ^ d : Nat) : Int) - 1) = ((2 ^ d - 1 : Nat) : Int) by omega, this, Nat.and_two_pow_sub_one_eq_mod]
  · have := u64_and_nat (m / 2 ^ d) 1 (by unfold u64 at h; omega) (by decide)
    rw [show ((1 : Nat) : Int) = 1 from rfl] at this
    rw [this, show (1 : Nat) = 2 ^ 1 - 1 by decide, Nat.and_two_pow_sub_one_eq_mod]
  · have := Nat.mod_lt m (show 0 < 2 ^ d by omega)
    omega
  · rw [hp2]
    generalize m % (2 * 2 ^ (d - 1)) = r
    generalize m / (2 * 2 ^ (d - 1)) = q
    generalize 2 ^ (d - 1) = f
    by_cases z1 : f < r
    · refine .inl ⟨z1, ?_⟩
      rw [decide_eq_true (show 2 * f < 2 * r by omega)]
      rfl
    · rw [decide_eq_false (show ¬ 2 * f < 2 * r by omega)]
      by_cases z2 : r = f
      · refine .inr (.inl ⟨z2, by omega, ?_⟩)
        rw [decide_eq_true (show 2 * f = 2 * r by omega)]
        rfl
      · refine .inr (.inr ⟨by omega, ?_⟩)
        rw [decide_eq_false (show ¬ 2 * f = 2 * r by omega)]
        rfl
theorem bt_inf {s : Nat} (h : s = 0 ∨ s = 9223372036854775808) : bits .or .u64 (s : Int) 9218868437227405312 = ((s + 9218868437227405312 : Nat) : Int) := by
  rcases h with h | h <;> subst h <;> decide
section
variable {w : World}
set_option maxRecDepth 100000
set_option maxHeartbeats 600000
theorem pack_m {neg : Bool} {man : Nat} (hm : u64 man) {ex : Int} (he : -100000 ≤ ex) (he2 : ex ≤ 100000) (st : Bool) : Calls Tryz.prog 202 #[.int .u64 (signM neg), .int .u64 man, .int .i64 ex, .bool st] w fun e w' => e = .returned (.int .u64 (packM neg man ex st)) ∧ w' = w := by
  by_cases h0 : man = 0
  · subst h0
    go_enter Tryz.func202, Tryz.ntmps202
    go_wp2_with fail
    go_ret
    exact ⟨rfl, rfl⟩
  rw [pack_tail h0 hm]
  have hl : man.log2 ≤ 63 := by have := (Nat.log2_lt h0 (k := 64)).2 (by have : (2 : Nat) ^ 64 = 18446744073709551616 := (by decide); unfold u64 at hm; omega); omega
  have hlo : 2 ^ man.log2 ≤ man := Nat.log2_self_le h0
  have hhi : man < 2 ^ (man.log2 + 1) := Nat.lt_log2_self
  obtain ⟨L, HL⟩ : ∃ L, Hid (man.log2 = L) := ⟨_, rfl⟩
  rw [HL.out] at hl hlo hhi ⊢
  obtain ⟨R, HR⟩ : ∃ R, Hid (tailM neg (man * 2 ^ (63 - L)) (ex + L) st = R) := ⟨_, rfl⟩
  rw [HR.out]
  have Hlo : Hid (2 ^ L ≤ man) := hlo
  have Hhi : Hid (man < 2 ^ (L + 1)) := hhi
  have Hm : Hid (u64 man) := hm
  clear hlo hhi hm HL
  obtain ⟨s, HS⟩ : ∃ s, Hid (signM neg = s) := ⟨_, rfl⟩
  rw [HS.out]
  have z0 : ((man : Int) == 0) = false := by rw [beq_eq_false_iff_ne]; omega
  go_enter Tryz.func202, Tryz.ntmps202
  go_wp2_with fail
  go_loopw [1, 2] (fun a b wr => ∃ (k m : Nat) (e : Int), k ≤ 63 - L ∧ -100063 ≤ e ∧ e ≤ 100000 ∧ a = .int .u64 m ∧ b = .int .i64 e ∧ Hid (m = man * 2 ^ k ∧ e = ex - k) ∧ wr = w) (fun _ b _ => (intOf b + 1000000).toNat)
  case atStart => exact ⟨0, man, ex, by omega, by omega, he2, rfl, rfl, (by refine ⟨by simp, by simp⟩ : _ ∧ _), rfl⟩
  case round =>
    obtain ⟨k, m, e, hk, h1, h2, rfl, rfl, HI, rfl⟩ := hrel
    have hm : u64 m := by
      obtain ⟨e1, e2⟩ := HI.out
      have h3 := Hhi.out
      have : man * 2 ^ k < 2 ^ (L + 1) * 2 ^ k := Nat.mul_lt_mul_of_pos_right h3 (Nat.pow_pos (by decide))
      rw [← Nat.pow_add] at this
      have h4 : 2 ^ (L + 1 + k) ≤ 2 ^ 64 := Nat.pow_le_pow_right (by decide) (by omega)
      have h5 : (2 : Nat) ^ 64 = 18446744073709551616 := by decide
      unfold u64
      omega
    have bt := bt_top hm
    by_cases hlt : k < 63 - L
    · have hlow : m < 9223372036854775808 := by
        obtain ⟨e1, e2⟩ := HI.out
        have h3 := Hhi.out
        have : man * 2 ^ k < 2 ^ (L + 1) * 2 ^ k := Nat.mul_lt_mul_of_pos_right h3 (Nat.pow_pos (by decide))
        rw [← Nat.pow_add] at this
        have h4 : 2 ^ (L + 1 + k) ≤ 2 ^ 63 := Nat.pow_le_pow_right (by decide) (by omega)
        have h5 : (2 : Nat) ^ 63 = 9223372036854775808 := by decide
        omega
      rw [decide_eq_true hlow] at bt
      go_wp2_with fail
      refine ⟨⟨k + 1, m * 2, e - 1, by omega, (by have := HI.out.2; omega), by omega, rfl, rfl, ?_, trivial⟩, by simp [intOf]; omega⟩
      obtain ⟨e1, e2⟩ := HI.out
      show _ ∧ _
      exact ⟨by rw [e1, Nat.pow_succ, Nat.mul_assoc], by omega⟩
    · have hhigh : 9223372036854775808 ≤ m := by
        obtain ⟨e1, e2⟩ := HI.out
        have h3 := Hlo.out
        have : 2 ^ L * 2 ^ k ≤ man * 2 ^ k := Nat.mul_le_mul_right _ h3
        rw [← Nat.pow_add, show L + k = 63 by omega] at this
        have h5 : (2 : Nat) ^ 63 = 9223372036854775808 := by decide
        omega
      rw [decide_eq_false (by omega)] at bt
      have HR2 : Hid (tailM neg m (e + 63) st = R) := by
        obtain ⟨e1, e2⟩ := HI.out
        show _ = _
        rw [← HR.out, e1, show k = 63 - L by omega, show e + 63 = ex + L by omega]
      clear HR HI hlt hk
      have hs : s = 0 ∨ s = 9223372036854775808 := by
        rw [← HS.out]
        unfold signM sgnM
        cases neg
        · exact .inl rfl
        · exact .inr rfl
      have ho := bt_inf hs
      obtain ⟨t, ht⟩ : ∃ t, e + 63 = t := ⟨_, rfl⟩
      have tl1 : -100000 ≤ t := by omega
      have tl2 : t ≤ 100063 := by omega
      rw [ht] at HR2
      by_cases t1 : 1023 < t
      · have HV : Hid (R = s + 9218868437227405312) := by show _ = _; rw [← HR2.out, ← HS.out]; unfold tailM; rw [if_pos (by omega)]; rfl
        go_wp2_with fail
        go_ret
        exact ⟨by rw [HV.out]; rfl, rfl⟩
      by_cases t2 : t < -1022
      · obtain ⟨y, HY⟩ : ∃ y : Int, Hid (-1022 - t = y) := ⟨_, rfl⟩
        obtain ⟨D, HD⟩ : ∃ D : Nat, Hid (11 + y = (D : Int)) := ⟨(11 + y).toNat, by show _ = _; have := HY.out; omega⟩
        have hy : -1022 - t = y := HY.out
        have hD : 11 + y = (D : Int) := HD.out
        have yl : 0 < y := by omega
        have yl2 : y ≤ 100000 := by omega
        by_cases t3 : 64 < D
        · have HV : Hid (R = s) := by show _ = _; rw [← HR2.out, ← HS.out]; unfold tailM; rw [if_neg (by omega), if_pos (by omega), if_pos (by have := HD.out; have := HY.out; omega)]
          go_wp2_with fail
          go_ret
          exact ⟨by rw [HV.out]; rfl, rfl⟩
        · by_cases t4 : D = 64
          · subst t4
            have o0 := bt_or hs (r := 0) (by decide)
            have o1 := bt_or hs (r := 1) (by decide)
            have a0 : bits .and .u64 0 1 = 0 := by decide
            simp only [Nat.add_zero, Int.natCast_zero, Int.natCast_one] at o0 o1
            have HV : Hid (R = s + ((decide (9223372036854775808 < m)) || (decide (m = 9223372036854775808) && st)).toNat) := by
              show _ = _
              rw [← HR2.out, ← HS.out]
              unfold tailM
              rw [if_neg (by omega), if_pos (by omega), if_neg (by have := HD.out; have := HY.out; omega), show 11 + (-1022 - t).toNat = 64 by have := HD.out; have := HY.out; omega, rnd_64 hm]
            by_cases t5 : m = 9223372036854775808
            · subst t5
              cases st
              · go_wp2_with fail
                go_ret
                exact ⟨by rw [HV.out]; rfl, rfl⟩
              · go_wp2_with fail
                go_ret
                exact ⟨by rw [HV.out]; rfl, rfl⟩
            · have t6 : 9223372036854775808 < m := by omega
              have t7 : ((m : Int) == 9223372036854775808) = false := by rw [beq_eq_false_iff_ne]; omega
              go_wp2_with fail
              go_ret
              refine ⟨?_, rfl⟩
              rw [HV.out, decide_eq_true t6]
              rfl
          · have dl : D ≤ 63 := by omega
            have dm : 11 < D := by have := HD.out; have := HY.out; omega
            obtain ⟨q, r, p, hf, u, HP, hq, hp, hh, hrem, hodd, hql, hpl, hpl1, hhl, c1, c2⟩ := rnd_facts hm dl (by omega) st
            have HV : Hid (R = s + (q + u.toNat)) := by
              show _ = _
              rw [← HR2.out, ← HS.out]
              unfold tailM
              rw [if_neg (by omega), if_pos (by omega), if_neg (by have := HD.out; have := HY.out; omega), show 11 + (-1022 - t).toNat = D by have := HD.out; have := HY.out; omega, HP.out]
            obtain ⟨v, HVQ⟩ : ∃ v, Hid (q + u.toNat = v) := ⟨_, rfl⟩
            have hv : v ≤ 9007199254740992 := by rw [← HVQ.out]; cases u <;> simp only [Bool.toNat_true, Bool.toNat_false] <;> omega
            have hb := bt_or hs (r := v) (by omega)
            have g1 : decide (9218868437227405312 ≤ v) = false := decide_eq_false (by omega)
            have g2 : decide ((9218868437227405312 : Int) ≤ (v : Int)) = false := decide_eq_false (by omega)
            rw [HVQ.out] at HV
            have d4 : ((D : Int) == 64) = false := by rw [beq_eq_false_iff_ne]; omega
            have d5 : decide (64 < D) = false := decide_eq_false t3
            rcases c2 with ⟨c3, rfl⟩ | ⟨c3, c4, rfl⟩ | ⟨c3, rfl⟩
            · have c5 : ((r : Int) == hf) = false := by rw [beq_eq_false_iff_ne]; omega
              have hv1 : (q : Int) + 1 = (v : Int) := by rw [← HVQ.out]; rfl
              go_wp2_with fail
              go_ret
              exact ⟨by rw [HV.out]; rfl, rfl⟩
            · subst c3
              cases st
              · rcases c4 with c4 | c4
                · have hv1 : q = v := by rw [← HVQ.out, c4]; rfl
                  subst hv1
                  rw [c4] at hodd
                  go_wp2_with fail
                  go_ret
                  exact ⟨by rw [HV.out]; rfl, rfl⟩
                · have hv1 : (q : Int) + 1 = (v : Int) := by rw [← HVQ.out, c4]; rfl
                  rw [c4] at hodd
                  go_wp2_with fail
                  go_ret
                  exact ⟨by rw [HV.out]; rfl, rfl⟩
              · have hv1 : (q : Int) + 1 = (v : Int) := by rw [← HVQ.out]; rfl
                go_wp2_with fail
                go_ret
                exact ⟨by rw [HV.out]; rfl, rfl⟩
            · have c5 : ((r : Int) == hf) = false := by rw [beq_eq_false_iff_ne]; omega
              have c6 : decide (hf < r) = false := decide_eq_false (by omega)
              have hv1 : q = v := by rw [← HVQ.out]; rfl
              subst hv1
              go_wp2_with fail
              go_ret
              exact ⟨by rw [HV.out]; rfl, rfl⟩
      · obtain ⟨q, r, p, hf, u, HP, hq, hp, hh, hrem, hodd, hql, hpl, hpl1, hhl, c1, c2⟩ := rnd_facts hm (d := 11) (by decide) (by decide) st
        have ep : p = 2048 := by
          have : IntKind.u64.wrap (2 ^ 11) = 2048 := by decide
          omega
        have eh : hf = 1024 := by
          have : IntKind.u64.wrap (2 ^ (11 - 1)) = 1024 := by decide
          omega
        subst ep eh
        have hq : (m : Int) / 2048 = (q : Int) := hq
        have hrem : bits .and .u64 (m : Int) 2047 = (r : Int) := hrem
        clear hp hh
        obtain ⟨x, HX⟩ : ∃ x : Nat, Hid (t + 1022 = (x : Int)) := ⟨(t + 1022).toNat, by show _ = _; omega⟩
        have hx : t + 1022 = (x : Int) := HX.out
        have hxl : x ≤ 2045 := by omega
        obtain ⟨v, HVQ⟩ : ∃ v, Hid (q + u.toNat = v) := ⟨_, rfl⟩
        have hv : v ≤ 9007199254740992 := by rw [← HVQ.out]; cases u <;> simp only [Bool.toNat_true, Bool.toNat_false] <;> omega
        obtain ⟨y, HY⟩ : ∃ y : Nat, Hid (x * 4503599627370496 + v = y) := ⟨_, rfl⟩
        have hy : (x : Int) * 4503599627370496 + (v : Int) = (y : Int) := by rw [← HY.out]; simp
        have hyl : y ≤ 9218868437227405312 := by rw [← HY.out]; omega
        have HV : Hid (R = s + (if 9218868437227405312 ≤ y then 9218868437227405312 else y)) := by
          show _ = _
          rw [← HR2.out, ← HS.out, ← HY.out, ← HVQ.out]
          unfold tailM
          rw [if_neg (by omega), if_neg (by omega), HP.out, show (t + 1022).toNat = x by omega]
          rfl
        have hb := bt_or hs (r := y) (by omega)
        by_cases g : 9218868437227405312 ≤ y
        · rw [if_pos g] at HV
          have g1 : decide (9218868437227405312 ≤ y) = true := decide_eq_true g
          have g2 : decide ((9218868437227405312 : Int) ≤ (y : Int)) = true := decide_eq_true (by omega)
          rcases c2 with ⟨c3, rfl⟩ | ⟨c3, c4, rfl⟩ | ⟨c3, rfl⟩
          · have c5 : ((r : Int) == 1024) = false := by rw [beq_eq_false_iff_ne]; omega
            have hv1 : (q : Int) + 1 = (v : Int) := by rw [← HVQ.out]; rfl
            go_wp2_with fail
            go_ret
            exact ⟨by rw [HV.out]; rfl, rfl⟩
          · subst c3
            cases st
            · rcases c4 with c4 | c4
              · have hv1 : q = v := by rw [← HVQ.out, c4]; rfl
                subst hv1
                rw [c4] at hodd
                go_wp2_with fail
                go_ret
                exact ⟨by rw [HV.out]; rfl, rfl⟩
              · have hv1 : (q : Int) + 1 = (v : Int) := by rw [← HVQ.out, c4]; rfl
                rw [c4] at hodd
                go_wp2_with fail
                go_ret
                exact ⟨by rw [HV.out]; rfl, rfl⟩
            · have hv1 : (q : Int) + 1 = (v : Int) := by rw [← HVQ.out]; rfl
              go_wp2_with fail
              go_ret
              exact ⟨by rw [HV.out]; rfl, rfl⟩
          · have c5 : ((r : Int) == 1024) = false := by rw [beq_eq_false_iff_ne]; omega
            have c6 : decide (1024 < r) = false := decide_eq_false (by omega)
            have hv1 : q = v := by rw [← HVQ.out]; rfl
            subst hv1
            go_wp2_with fail
            all_goals go_ret
            all_goals exact ⟨by rw [HV.out]; rfl, rfl⟩
        · rw [if_neg g] at HV
          have g1 : decide (9218868437227405312 ≤ y) = false := decide_eq_false g
          have g2 : decide ((9218868437227405312 : Int) ≤ (y : Int)) = false := decide_eq_false (by omega)
          rcases c2 with ⟨c3, rfl⟩ | ⟨c3, c4, rfl⟩ | ⟨c3, rfl⟩
          · have c5 : ((r : Int) == 1024) = false := by rw [beq_eq_false_iff_ne]; omega
            have hv1 : (q : Int) + 1 = (v : Int) := by rw [← HVQ.out]; rfl
            go_wp2_with fail
            go_ret
            exact ⟨by rw [HV.out]; rfl, rfl⟩
          · subst c3
            cases st
            · rcases c4 with c4 | c4
              · have hv1 : q = v := by rw [← HVQ.out, c4]; rfl
                subst hv1
                rw [c4] at hodd
                go_wp2_with fail
                go_ret
                exact ⟨by rw [HV.out]; rfl, rfl⟩
              · have hv1 : (q : Int) + 1 = (v : Int) := by rw [← HVQ.out, c4]; rfl
                rw [c4] at hodd
                go_wp2_with fail
                go_ret
                exact ⟨by rw [HV.out]; rfl, rfl⟩
            · have hv1 : (q : Int) + 1 = (v : Int) := by rw [← HVQ.out]; rfl
              go_wp2_with fail
              go_ret
              exact ⟨by rw [HV.out]; rfl, rfl⟩
          · have c5 : ((r : Int) == 1024) = false := by rw [beq_eq_false_iff_ne]; omega
            have c6 : decide (1024 < r) = false := decide_eq_false (by omega)
            have hv1 : q = v := by rw [← HVQ.out]; rfl
            subst hv1
            go_wp2_with fail
            go_ret
            exact ⟨by rw [HV.out]; rfl, rfl⟩
end
end Go.Proofs.Qxb6500574aGreatDoor
