/-
  THE WALK of machm.Alu, exact.
-/
import Derived.Test.Qxb6500575aGreatDoorXBin0
namespace Go.Proofs.Qxb6500575aGreatDoor
open Go Go.RowKit
set_option linter.unusedVariables false
set_option linter.unusedSimpArgs false

theorem mtruth_any (b : Bool) (w : World) : Calls Tryz.prog 157 #[.bool b] w fun e w' => e = .returned (.int .i64 (if b then 1 else 0)) ∧ w' = w := by
  go_enter Tryz.func157, Tryz.ntmps157
  cases b
  all_goals
    go_wp2
    go_ret
    exact ⟨rfl, rfl⟩
theorem xbin32_any (k a b : Int) (hk : 0 ≤ k ∧ k < 16) (ha : I32 a) (hb0 : I32 b) (w : World) : Calls Tryz.prog 158 #[.int .i64 k, .int .i64 a, .int .i64 b, .int .u64 4294967295, .int .i64 31] w (BX (u32P k a b) w) := by
  have h : k = 0 ∨ k = 1 ∨ k = 2 ∨ k = 3 ∨ k = 4 ∨ k = 5 ∨ k = 6 ∨ k = 7 ∨ k = 8 ∨ k = 9 ∨ k = 10 ∨ k = 11 ∨ k = 12 ∨ k = 13 ∨ k = 14 ∨ k = 15 := by omega
  rcases h with rfl | rfl | rfl | rfl | rfl | rfl | rfl | rfl | rfl | rfl | rfl | rfl | rfl | rfl | rfl | rfl
  · exact xbin32_0 a b ha hb0 w
  · exact xbin32_1 a b ha hb0 w
  · exact xbin32_2 a b ha hb0 w
  · by_cases hb : b = 0
    · exact xbin32_3z a b ha hb0 w hb
    · exact xbin32_3n a b ha hb0 w hb
  · by_cases hb : b = 0
    · exact xbin32_4z a b ha hb0 w hb
    · exact xbin32_4n a b ha hb0 w hb
  · by_cases hb : b = 0
    · exact xbin32_5z a b ha hb0 w hb
    · exact xbin32_5n a b ha hb0 w hb
  · by_cases hb : b = 0
    · exact xbin32_6z a b ha hb0 w hb
    · exact xbin32_6n a b ha hb0 w hb
  · exact xbin32_7 a b ha hb0 w
  · exact xbin32_8 a b ha hb0 w
  · exact xbin32_9 a b ha hb0 w
  · exact xbin32_10 a b ha hb0 w
  · exact xbin32_11 a b ha hb0 w
  · exact xbin32_12 a b ha hb0 w
  · exact xbin32_13 a b ha hb0 w
  · exact xbin32_14 a b ha hb0 w
  · exact xbin32_15 a b ha hb0 w
theorem xbin64_any (k a b : Int) (hk : 0 ≤ k ∧ k < 16) (ha : I64 a) (hb0 : I64 b) (w : World) : Calls Tryz.prog 158 #[.int .i64 k, .int .i64 a, .int .i64 b, .int .u64 18446744073709551615, .int .i64 63] w (UX (u64P k a b) w) := by
  have h : k = 0 ∨ k = 1 ∨ k = 2 ∨ k = 3 ∨ k = 4 ∨ k = 5 ∨ k = 6 ∨ k = 7 ∨ k = 8 ∨ k = 9 ∨ k = 10 ∨ k = 11 ∨ k = 12 ∨ k = 13 ∨ k = 14 ∨ k = 15 := by omega
  rcases h with rfl | rfl | rfl | rfl | rfl | rfl | rfl | rfl | rfl | rfl | rfl | rfl | rfl | rfl | rfl | rfl
  · exact xbin64_0 a b ha hb0 w
  · exact xbin64_1 a b ha hb0 w
  · exact xbin64_2 a b ha hb0 w
  · by_cases hb : b = 0
    · exact xbin64_3z a b ha hb0 w hb
    · exact xbin64_3n a b ha hb0 w hb
  · by_cases hb : b = 0
    · exact xbin64_4z a b ha hb0 w hb
    · exact xbin64_4n a b ha hb0 w hb
  · by_cases hb : b = 0
    · exact xbin64_5z a b ha hb0 w hb
    · exact xbin64_5n a b ha hb0 w hb
  · by_cases hb : b = 0
    · exact xbin64_6z a b ha hb0 w hb
    · exact xbin64_6n a b ha hb0 w hb
  · exact xbin64_7 a b ha hb0 w
  · exact xbin64_8 a b ha hb0 w
  · exact xbin64_9 a b ha hb0 w
  · exact xbin64_10 a b ha hb0 w
  · exact xbin64_11 a b ha hb0 w
  · exact xbin64_12 a b ha hb0 w
  · exact xbin64_13 a b ha hb0 w
  · exact xbin64_14 a b ha hb0 w
  · exact xbin64_15 a b ha hb0 w
set_option maxRecDepth 100000
set_option maxHeartbeats 400000
theorem xmalu_any (v : Value) (op a b : Int) (ha : I64 a) (hb : I64 b) (hop : (29 ≤ op ∧ op ≤ 33) ∨ (40 ≤ op ∧ op < 56) ∨ (60 ≤ op ∧ op < 76)) (w : World) : Calls Tryz.prog 152 #[v, .int .i64 op, .int .i64 a, .int .i64 b] w (UX (aluP op a b) w) := by
  rcases hop with hop | hop | hop
  · have h : op = 29 ∨ op = 30 ∨ op = 31 ∨ op = 32 ∨ op = 33 := by omega
    rcases h with rfl | rfl | rfl | rfl | rfl
    all_goals
      go_enter Tryz.func152, Tryz.ntmps152
    · go_wp2_with fail
      refine (mtruth_any _ _).mono ?_
      rintro e w1 ⟨rfl, rfl⟩
      go_wp2
      all_goals
        go_ret2
        refine UX.of ?_ ?_ rfl
        all_goals (simp_all [aluP]; done)
    · go_wp2_with fail
      refine (mtruth_any _ _).mono ?_
      rintro e w1 ⟨rfl, rfl⟩
      go_wp2
      all_goals
        go_ret2
        refine UX.of ?_ ?_ rfl
        all_goals (simp_all [aluP]; done)
    all_goals
      go_wp2
      go_ret2
      refine UX.of ?_ ?_ rfl
      all_goals first | (simp_all [aluP, w64_32, andiU]; done) | (simp [aluP]; unfold wrap64; omega)
  · obtain ⟨h1, h2⟩ := hop
    have g1 : (op == 29) = false := beq_eq_false_iff_ne.2 (by omega)
    have g2 : (op == 30) = false := beq_eq_false_iff_ne.2 (by omega)
    have g3 : (op == 31) = false := beq_eq_false_iff_ne.2 (by omega)
    have g4 : (op == 32) = false := beq_eq_false_iff_ne.2 (by omega)
    have g5 : (op == 33) = false := beq_eq_false_iff_ne.2 (by omega)
    have hP : aluP op a b = u32P (op - 40) (wrap32 a) (wrap32 b) := by
      unfold aluP
      rw [if_neg (by omega), if_neg (by omega), if_neg (by omega), if_neg (by omega), if_pos (by omega)]
    have HU : Hid (∀ w, Calls _ _ _ w _) := xbin32_any (op - 40) (wrap32 a) (wrap32 b) (by omega) (i32_wrap a) (i32_wrap b)
    rw [hP]
    clear hP
    generalize u32P (op - 40) (wrap32 a) (wrap32 b) = q at HU ⊢
    obtain ⟨q1, q2⟩ := q
    have e1 := w64_32 a
    have e2 := w64_32 b
    go_enter Tryz.func152, Tryz.ntmps152
    go_wp2_with fail
    refine (HU.out _).mono ?_
    rintro e w1 ⟨v1, rfl, hv1, rfl⟩
    simp only at hv1
    go_wp2
    go_ret2
    exact UX.of (by rw [← hv1, w64_32]) rfl rfl
  · obtain ⟨h1, h2⟩ := hop
    have g1 : (op == 29) = false := beq_eq_false_iff_ne.2 (by omega)
    have g2 : (op == 30) = false := beq_eq_false_iff_ne.2 (by omega)
    have g3 : (op == 31) = false := beq_eq_false_iff_ne.2 (by omega)
    have g4 : (op == 32) = false := beq_eq_false_iff_ne.2 (by omega)
    have g5 : (op == 33) = false := beq_eq_false_iff_ne.2 (by omega)
    have hP : aluP op a b = u64P (op - 60) a b := by
      unfold aluP
      rw [if_neg (by omega), if_neg (by omega), if_neg (by omega), if_neg (by omega), if_neg (by omega)]
    have HU : Hid (∀ w, Calls _ _ _ w _) := xbin64_any (op - 60) a b (by omega) ha hb
    rw [hP]
    clear hP
    generalize u64P (op - 60) a b = q at HU ⊢
    obtain ⟨q1, q2⟩ := q
    go_enter Tryz.func152, Tryz.ntmps152
    go_wp2_with fail
    refine (HU.out _).mono ?_
    rintro e w1 ⟨rfl, rfl⟩
    go_wp2
    go_ret2
    exact UX.of rfl rfl rfl
end Go.Proofs.Qxb6500575aGreatDoor
