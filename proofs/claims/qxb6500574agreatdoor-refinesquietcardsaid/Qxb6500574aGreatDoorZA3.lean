/-
  THE WALKS of numm: less, Neg, FromInt, Cmp, floor.
-/
import Derived.Test.Qxb6500574aGreatDoorZA2
namespace Go.Proofs.Qxb6500574aGreatDoor
open Go Go.RowKit
set_option linter.unusedVariables false
set_option linter.unusedSimpArgs false
theorem bt_flip {a : Nat} (h : u64 a) : bits .xor .u64 (a : Int) 9223372036854775808 = ((flipM a : Nat) : Int) := by
  have := u64_xor_nat a 9223372036854775808 h (by decide)
  rw [show ((9223372036854775808 : Nat) : Int) = 9223372036854775808 from rfl] at this
  rw [this, xor_flip h]
theorem bt_orsg {a : Nat} (h : u64 a) (hn : negM a = false) : bits .or .u64 (a : Int) 9223372036854775808 = ((a + 9223372036854775808 : Nat) : Int) := by
  have hl : a < 9223372036854775808 := by unfold negM at hn; have := of_decide_eq_false hn; omega
  have := u64_or_nat a 9223372036854775808 h (by decide)
  rw [show ((9223372036854775808 : Nat) : Int) = 9223372036854775808 from rfl] at this
  rw [this, Nat.or_comm, nat_join 63 9223372036854775808 a (by decide) (by rw [show (2 : Nat) ^ 63 = 9223372036854775808 by decide]; exact hl), Nat.add_comm]
theorem bt_sgne {a : Nat} (h : u64 a) : (bits .and .u64 (a : Int) 9223372036854775808 != 0) = negM a := by
  rw [bt_sg h]
  unfold signM sgnM
  cases negM a <;> rfl
theorem bt_not {a : Nat} (h : u64 a) : bits .xor .u64 IntKind.u64.max (a : Int) = ((18446744073709551615 - a : Nat) : Int) := by
  have := u64_xor_nat 18446744073709551615 a (by decide) h
  have e : IntKind.u64.max = ((18446744073709551615 : Nat) : Int) := by decide
  rw [e, this]
  congr 1
  apply Nat.eq_of_testBit_eq
  intro i
  have e2 : (18446744073709551615 : Nat) = 2 ^ 64 - 1 := by decide
  have e3 : 18446744073709551615 - a = 2 ^ 64 - (a + 1) := by omega
  rw [Nat.testBit_xor, e3, Nat.testBit_two_pow_sub_succ (by unfold u64 at h; omega), e2, Nat.testBit_two_pow_sub_one]
  by_cases z : i < 64
  · rw [decide_eq_true z]; simp
  · rw [decide_eq_false z]
    have : a.testBit i = false := Nat.testBit_lt_two_pow (Nat.lt_of_lt_of_le (show a < 2 ^ 64 from h) (Nat.pow_le_pow_right (by decide) (by omega)))
    rw [this]
    rfl
section
variable {w : World}
set_option maxRecDepth 100000
set_option maxHeartbeats 600000
theorem less_m {a c : Nat} (h : u64 a) (h2 : u64 c) : Calls Tryz.prog 194 #[.int .u64 a, .int .u64 c] w fun e w' => e = .returned (.bool (lessM a c)) ∧ w' = w := by
  have HZ : Hid (Calls Tryz.prog 193 #[.int .u64 a, .int .u64 c] w fun e w' => e = .returned (.bool (isZeroM a && isZeroM c)) ∧ w' = w) := bothZero_m h h2
  obtain ⟨zz, HZZ⟩ : ∃ b, Hid ((isZeroM a && isZeroM c) = b) := ⟨_, rfl⟩
  rw [HZZ.out] at HZ
  have e1 := bt_sgne h
  have e2 := bt_sgne h2
  have o1 := bt_orsg h
  have o2 := bt_orsg h2
  have x1 := bt_not h
  have x2 := bt_not h2
  obtain ⟨R, HR⟩ : ∃ R, Hid (lessM a c = R) := ⟨_, rfl⟩
  rw [HR.out]
  go_enter Tryz.func194, Tryz.ntmps194
  go_wp2_with fail
  refine HZ.out.mono ?_
  rintro e w' ⟨rfl, hw⟩
  rw [hw]
  cases zz
  · have hla : a < 18446744073709551616 := h
    have hlc : c < 18446744073709551616 := h2
    cases hna : negM a
    · rw [hna] at e1
      have o1 := o1 hna
      cases hnc : negM c
      · rw [hnc] at e2
        have o2 := o2 hnc
        go_wp2_with fail
        go_ret
        refine ⟨ret_b ?_, rfl⟩
        rw [← HR.out]
        unfold lessM ordK
        rw [HZZ.out, hna, hnc]
        simp <;> omega
      · rw [hnc] at e2
        go_wp2_with fail
        go_ret
        refine ⟨ret_b ?_, rfl⟩
        rw [← HR.out]
        unfold lessM ordK
        rw [HZZ.out, hna, hnc]
        simp <;> omega
    · rw [hna] at e1
      cases hnc : negM c
      · rw [hnc] at e2
        have o2 := o2 hnc
        go_wp2_with fail
        go_ret
        refine ⟨ret_b ?_, rfl⟩
        rw [← HR.out]
        unfold lessM ordK
        rw [HZZ.out, hna, hnc]
        simp <;> omega
      · rw [hnc] at e2
        go_wp2_with fail
        go_ret
        refine ⟨ret_b ?_, rfl⟩
        rw [← HR.out]
        unfold lessM ordK
        rw [HZZ.out, hna, hnc]
        simp <;> omega
  · go_wp2_with fail
    go_ret
    refine ⟨?_, rfl⟩
    rw [← HR.out]; unfold lessM; rw [HZZ.out]; rfl
theorem neg_m {bn : Nat} {a : Nat} (h : u64 a) : Calls Tryz.prog 205 #[.pointer (some ⟨bn, 0, none⟩), .int .u64 a] w fun e w' => e = .returned (.int .u64 (negateM a)) ∧ w' = w := by
  have HN : Hid (Calls Tryz.prog 258 #[.int .u64 a] w fun e w' => e = .returned (.bool (isNanM a)) ∧ w' = w) := isNaN_m h
  have b := bt_flip h
  unfold negateM
  cases hn : isNanM a
  · rw [hn] at HN
    go_enter Tryz.func205, Tryz.ntmps205
    go_wp2_with fail
    refine HN.out.mono ?_
    rintro e w' ⟨rfl, hw⟩
    rw [hw]
    go_wp2_with fail
    go_ret
    exact ⟨rfl, rfl⟩
  · rw [hn] at HN
    go_enter Tryz.func205, Tryz.ntmps205
    go_wp2_with fail
    refine HN.out.mono ?_
    rintro e w' ⟨rfl, hw⟩
    rw [hw]
    go_wp2_with fail
    go_ret
    exact ⟨rfl, rfl⟩
theorem fromInt_m {bn : Nat} {i : Int} (h1 : -9007199254740992 ≤ i) (h2 : i ≤ 9007199254740992) : Calls Tryz.prog 127 #[.pointer (some ⟨bn, 0, none⟩), .int .i64 i] w fun e w' => e = .returned (.int .u64 (fromIntM i)) ∧ w' = w := by
  have HP : ∀ W, Hid (Calls Tryz.prog 202 #[.int .u64 (signM (decide (i < 0))), .int .u64 i.natAbs, .int .i64 0, .bool false] W fun e w' => e = .returned (.int .u64 (packM (decide (i < 0)) i.natAbs 0 false)) ∧ w' = W) := fun W => pack_m (by unfold u64; omega) (by decide) (by decide) false
  unfold fromIntM
  by_cases hi : i < 0
  · rw [decide_eq_true hi] at HP ⊢
    obtain ⟨n, hn⟩ : ∃ n : Nat, -i = (n : Int) := ⟨i.natAbs, by omega⟩
    have hn' : i.natAbs = n := by omega
    rw [hn'] at HP ⊢
    have nl : n ≤ 9007199254740992 := by omega
    clear hn'
    go_enter Tryz.func127, Tryz.ntmps127
    go_wp2_with fail
    refine (HP _).out.mono ?_
    rintro e w' ⟨rfl, hw⟩
    rw [hw]
    go_wp2_with fail
    go_ret
    exact ⟨rfl, rfl⟩
  · rw [decide_eq_false hi] at HP ⊢
    obtain ⟨n, rfl⟩ : ∃ n : Nat, i = (n : Int) := ⟨i.natAbs, by omega⟩
    rw [show ((n : Int)).natAbs = n by omega] at HP ⊢
    go_enter Tryz.func127, Tryz.ntmps127
    go_wp2_with fail
    refine (HP _).out.mono ?_
    rintro e w' ⟨rfl, hw⟩
    rw [hw]
    go_wp2_with fail
    go_ret
    exact ⟨rfl, rfl⟩
set_option maxHeartbeats 2000000 in
theorem cmp_m {bn op : Nat} {a c : Nat} (ho : 1 ≤ op) (ho6 : op ≤ 6) (h : u64 a) (h2 : u64 c) : Calls Tryz.prog 122 #[.pointer (some ⟨bn, 0, none⟩), .int .i64 op, .int .u64 a, .int .u64 c] w fun e w' => e = .returned (.bool (cmpM op a c)) ∧ w' = w := by
  have HN : Hid (Calls Tryz.prog 192 #[.int .u64 a, .int .u64 c] w fun e w' => e = .returned (.bool (isNanM a || isNanM c)) ∧ w' = w) := anyNaN_m h h2
  have HZ : Hid (Calls Tryz.prog 193 #[.int .u64 a, .int .u64 c] w fun e w' => e = .returned (.bool (isZeroM a && isZeroM c)) ∧ w' = w) := bothZero_m h h2
  have HL : Hid (Calls Tryz.prog 194 #[.int .u64 a, .int .u64 c] w fun e w' => e = .returned (.bool (lessM a c)) ∧ w' = w) := less_m h h2
  have HL2 : Hid (Calls Tryz.prog 194 #[.int .u64 c, .int .u64 a] w fun e w' => e = .returned (.bool (lessM c a)) ∧ w' = w) := less_m h2 h
  obtain ⟨R, HR⟩ : ∃ R, Hid (cmpM op a c = R) := ⟨_, rfl⟩
  rw [HR.out]
  have HR2 : Hid ((if isNanM a || isNanM c then decide ((op : Int) = 2) else
    if (op : Int) = 1 then ((isZeroM a && isZeroM c) || decide (a = c)) else if (op : Int) = 2 then !((isZeroM a && isZeroM c) || decide (a = c)) else if (op : Int) = 3 then lessM a c else if (op : Int) = 4 then (((isZeroM a && isZeroM c) || decide (a = c)) || lessM a c) else if (op : Int) = 5 then lessM c a else if (op : Int) = 6 then (((isZeroM a && isZeroM c) || decide (a = c)) || lessM c a) else false) = R) := HR.out
  generalize (isNanM a || isNanM c) = nn at *
  generalize (isZeroM a && isZeroM c) = zz at *
  generalize lessM a c = l1 at *
  generalize lessM c a = l2 at *
  clear HR
  cases nn
  · obtain ⟨eq, HE⟩ : ∃ b, Hid ((zz || decide (a = c)) = b) := ⟨_, rfl⟩
    rw [HE.out] at HR2
    have ho : op = 1 ∨ op = 2 ∨ op = 3 ∨ op = 4 ∨ op = 5 ∨ op = 6 := by omega
    rcases ho with ho | ho | ho | ho | ho | ho
    · subst ho
      simp (config := {decide := true}) only [if_true, if_false, Bool.false_eq_true] at HR2
      go_enter Tryz.func122, Tryz.ntmps122
      go_wp2_with fail
      refine HN.out.mono ?_
      rintro e w' ⟨rfl, hw⟩
      rw [hw]
      go_wp2_with fail
      refine HZ.out.mono ?_
      rintro e w' ⟨rfl, hw⟩
      rw [hw]
      by_cases hac : a = c
      · rw [decide_eq_true hac, Bool.or_true] at HE
        have he := HE.out
        subst he
        have hb : ((a : Int) == c) = true := by rw [beq_iff_eq]; omega
        clear hac
        go_wp2_with fail
        go_ret
        exact ⟨by rw [← HR2.out]; rfl, rfl⟩
      · rw [decide_eq_false hac, Bool.or_false] at HE
        have he := HE.out
        subst he
        have hb : ((a : Int) == c) = false := by rw [beq_eq_false_iff_ne]; omega
        go_wp2_with fail
        go_ret
        exact ⟨by rw [← HR2.out]; rfl, rfl⟩
    · subst ho
      simp (config := {decide := true}) only [if_true, if_false, Bool.false_eq_true] at HR2
      go_enter Tryz.func122, Tryz.ntmps122
      go_wp2_with fail
      refine HN.out.mono ?_
      rintro e w' ⟨rfl, hw⟩
      rw [hw]
      go_wp2_with fail
      refine HZ.out.mono ?_
      rintro e w' ⟨rfl, hw⟩
      rw [hw]
      by_cases hac : a = c
      · rw [decide_eq_true hac, Bool.or_true] at HE
        have he := HE.out
        subst he
        have hb : ((a : Int) == c) = true := by rw [beq_iff_eq]; omega
        clear hac
        go_wp2_with fail
        go_ret
        exact ⟨by rw [← HR2.out]; rfl, rfl⟩
      · rw [decide_eq_false hac, Bool.or_false] at HE
        have he := HE.out
        subst he
        have hb : ((a : Int) == c) = false := by rw [beq_eq_false_iff_ne]; omega
        go_wp2_with fail
        go_ret
        exact ⟨by rw [← HR2.out]; rfl, rfl⟩
    · subst ho
      simp (config := {decide := true}) only [if_true, if_false, Bool.false_eq_true] at HR2
      go_enter Tryz.func122, Tryz.ntmps122
      go_wp2_with fail
      refine HN.out.mono ?_
      rintro e w' ⟨rfl, hw⟩
      rw [hw]
      go_wp2_with fail
      refine HZ.out.mono ?_
      rintro e w' ⟨rfl, hw⟩
      rw [hw]
      by_cases hac : a = c
      · rw [decide_eq_true hac, Bool.or_true] at HE
        have he := HE.out
        subst he
        have hb : ((a : Int) == c) = true := by rw [beq_iff_eq]; omega
        clear hac
        go_wp2_with fail
        refine HL.out.mono ?_
        rintro e w' ⟨rfl, hw⟩
        rw [hw]
        go_wp2_with fail
        go_ret
        exact ⟨by rw [← HR2.out]; rfl, rfl⟩
      · rw [decide_eq_false hac, Bool.or_false] at HE
        have he := HE.out
        subst he
        have hb : ((a : Int) == c) = false := by rw [beq_eq_false_iff_ne]; omega
        go_wp2_with fail
        refine HL.out.mono ?_
        rintro e w' ⟨rfl, hw⟩
        rw [hw]
        go_wp2_with fail
        go_ret
        exact ⟨by rw [← HR2.out]; rfl, rfl⟩
    · subst ho
      simp (config := {decide := true}) only [if_true, if_false, Bool.false_eq_true] at HR2
      go_enter Tryz.func122, Tryz.ntmps122
      go_wp2_with fail
      refine HN.out.mono ?_
      rintro e w' ⟨rfl, hw⟩
      rw [hw]
      go_wp2_with fail
      refine HZ.out.mono ?_
      rintro e w' ⟨rfl, hw⟩
      rw [hw]
      by_cases hac : a = c
      · rw [decide_eq_true hac, Bool.or_true] at HE
        have he := HE.out
        subst he
        have hb : ((a : Int) == c) = true := by rw [beq_iff_eq]; omega
        clear hac
        go_wp2_with fail
        go_ret
        exact ⟨by rw [← HR2.out]; rfl, rfl⟩
      · rw [decide_eq_false hac, Bool.or_false] at HE
        have he := HE.out
        subst he
        have hb : ((a : Int) == c) = false := by rw [beq_eq_false_iff_ne]; omega
        cases zz
        · go_wp2_with fail
          refine HL.out.mono ?_
          rintro e w' ⟨rfl, hw⟩
          rw [hw]
          go_wp2_with fail
          go_ret
          exact ⟨by rw [← HR2.out]; rfl, rfl⟩
        · go_wp2_with fail
          go_ret
          exact ⟨by rw [← HR2.out]; rfl, rfl⟩
    · subst ho
      simp (config := {decide := true}) only [if_true, if_false, Bool.false_eq_true] at HR2
      go_enter Tryz.func122, Tryz.ntmps122
      go_wp2_with fail
      refine HN.out.mono ?_
      rintro e w' ⟨rfl, hw⟩
      rw [hw]
      go_wp2_with fail
      refine HZ.out.mono ?_
      rintro e w' ⟨rfl, hw⟩
      rw [hw]
      by_cases hac : a = c
      · rw [decide_eq_true hac, Bool.or_true] at HE
        have he := HE.out
        subst he
        have hb : ((a : Int) == c) = true := by rw [beq_iff_eq]; omega
        clear hac
        go_wp2_with fail
        refine HL2.out.mono ?_
        rintro e w' ⟨rfl, hw⟩
        rw [hw]
        go_wp2_with fail
        go_ret
        exact ⟨by rw [← HR2.out]; rfl, rfl⟩
      · rw [decide_eq_false hac, Bool.or_false] at HE
        have he := HE.out
        subst he
        have hb : ((a : Int) == c) = false := by rw [beq_eq_false_iff_ne]; omega
        go_wp2_with fail
        refine HL2.out.mono ?_
        rintro e w' ⟨rfl, hw⟩
        rw [hw]
        go_wp2_with fail
        go_ret
        exact ⟨by rw [← HR2.out]; rfl, rfl⟩
    · subst ho
      simp (config := {decide := true}) only [if_true, if_false, Bool.false_eq_true] at HR2
      go_enter Tryz.func122, Tryz.ntmps122
      go_wp2_with fail
      refine HN.out.mono ?_
      rintro e w' ⟨rfl, hw⟩
      rw [hw]
      go_wp2_with fail
      refine HZ.out.mono ?_
      rintro e w' ⟨rfl, hw⟩
      rw [hw]
      by_cases hac : a = c
      · rw [decide_eq_true hac, Bool.or_true] at HE
        have he := HE.out
        subst he
        have hb : ((a : Int) == c) = true := by rw [beq_iff_eq]; omega
        clear hac
        go_wp2_with fail
        go_ret
        exact ⟨by rw [← HR2.out]; rfl, rfl⟩
      · rw [decide_eq_false hac, Bool.or_false] at HE
        have he := HE.out
        subst he
        have hb : ((a : Int) == c) = false := by rw [beq_eq_false_iff_ne]; omega
        cases zz
        · go_wp2_with fail
          refine HL2.out.mono ?_
          rintro e w' ⟨rfl, hw⟩
          rw [hw]
          go_wp2_with fail
          go_ret
          exact ⟨by rw [← HR2.out]; rfl, rfl⟩
        · go_wp2_with fail
          go_ret
          exact ⟨by rw [← HR2.out]; rfl, rfl⟩
  · rw [if_pos rfl] at HR2
    go_enter Tryz.func122, Tryz.ntmps122
    go_wp2_with fail
    refine HN.out.mono ?_
    rintro e w' ⟨rfl, hw⟩
    rw [hw]
    go_wp2_with fail
    go_ret
    exact ⟨ret_b (by rw [← HR2.out]; simp <;> omega), rfl⟩
end
end Go.Proofs.Qxb6500574aGreatDoor
