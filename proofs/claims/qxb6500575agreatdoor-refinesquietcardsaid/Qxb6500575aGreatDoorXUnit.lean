/-
  THE WALK of mach.Alu, exact.
-/
import Derived.Test.Qxb6500575aGreatDoorXUnit0
namespace Go.Proofs.Qxb6500575aGreatDoor
open Go Go.RowKit
set_option linter.unusedVariables false
set_option linter.unusedSimpArgs false

theorem xunit32_any (k a b : Int) (hk : 0 ≤ k ∧ k < 16) (ha : I64 a) (hb0 : I32 b) (w : World) : Calls Tryz.prog 140 #[.int .i64 k, .int .i32 a, .int .i32 b] w (UX (u32P k a b) w) := by
  have h : k = 0 ∨ k = 1 ∨ k = 2 ∨ k = 3 ∨ k = 4 ∨ k = 5 ∨ k = 6 ∨ k = 7 ∨ k = 8 ∨ k = 9 ∨ k = 10 ∨ k = 11 ∨ k = 12 ∨ k = 13 ∨ k = 14 ∨ k = 15 := by omega
  rcases h with rfl | rfl | rfl | rfl | rfl | rfl | rfl | rfl | rfl | rfl | rfl | rfl | rfl | rfl | rfl | rfl
  · exact xunit32_0 a b ha hb0 w
  · exact xunit32_1 a b ha hb0 w
  · exact xunit32_2 a b ha hb0 w
  · by_cases hb : b = 0
    · exact xunit32_3z a b ha hb0 w hb
    · exact xunit32_3n a b ha hb0 w hb
  · by_cases hb : b = 0
    · exact xunit32_4z a b ha hb0 w hb
    · exact xunit32_4n a b ha hb0 w hb
  · by_cases hb : b = 0
    · exact xunit32_5z a b ha hb0 w hb
    · exact xunit32_5n a b ha hb0 w hb
  · by_cases hb : b = 0
    · exact xunit32_6z a b ha hb0 w hb
    · exact xunit32_6n a b ha hb0 w hb
  · exact xunit32_7 a b ha hb0 w
  · exact xunit32_8 a b ha hb0 w
  · exact xunit32_9 a b ha hb0 w
  · exact xunit32_10 a b ha hb0 w
  · exact xunit32_11 a b ha hb0 w
  · exact xunit32_12 a b ha hb0 w
  · exact xunit32_13 a b ha hb0 w
  · exact xunit32_14 a b ha hb0 w
  · exact xunit32_15 a b ha hb0 w
theorem xunit64_any (k a b : Int) (hk : 0 ≤ k ∧ k < 16) (ha : I64 a) (hb0 : I64 b) (w : World) : Calls Tryz.prog 141 #[.int .i64 k, .int .i64 a, .int .i64 b] w (UX (u64P k a b) w) := by
  have h : k = 0 ∨ k = 1 ∨ k = 2 ∨ k = 3 ∨ k = 4 ∨ k = 5 ∨ k = 6 ∨ k = 7 ∨ k = 8 ∨ k = 9 ∨ k = 10 ∨ k = 11 ∨ k = 12 ∨ k = 13 ∨ k = 14 ∨ k = 15 := by omega
  rcases h with rfl | rfl | rfl | rfl | rfl | rfl | rfl | rfl | rfl | rfl | rfl | rfl | rfl | rfl | rfl | rfl
  · exact xunit64_0 a b ha hb0 w
  · exact xunit64_1 a b ha hb0 w
  · exact xunit64_2 a b ha hb0 w
  · by_cases hb : b = 0
    · exact xunit64_3z a b ha hb0 w hb
    · exact xunit64_3n a b ha hb0 w hb
  · by_cases hb : b = 0
    · exact xunit64_4z a b ha hb0 w hb
    · exact xunit64_4n a b ha hb0 w hb
  · by_cases hb : b = 0
    · exact xunit64_5z a b ha hb0 w hb
    · exact xunit64_5n a b ha hb0 w hb
  · by_cases hb : b = 0
    · exact xunit64_6z a b ha hb0 w hb
    · exact xunit64_6n a b ha hb0 w hb
  · exact xunit64_7 a b ha hb0 w
  · exact xunit64_8 a b ha hb0 w
  · exact xunit64_9 a b ha hb0 w
  · exact xunit64_10 a b ha hb0 w
  · exact xunit64_11 a b ha hb0 w
  · exact xunit64_12 a b ha hb0 w
  · exact xunit64_13 a b ha hb0 w
  · exact xunit64_14 a b ha hb0 w
  · exact xunit64_15 a b ha hb0 w
set_option maxRecDepth 100000
set_option maxHeartbeats 400000
theorem xalu_any (bk : Nat) (op a b : Int) (ha : I64 a) (hb : I64 b) (hop : (29 ≤ op ∧ op ≤ 33) ∨ (40 ≤ op ∧ op < 56) ∨ (60 ≤ op ∧ op < 76)) (w : World) : Calls Tryz.prog 131 #[.pointer (some ⟨bk, 0, none⟩), .int .i64 op, .int .i64 a, .int .i64 b] w (UX (aluP op a b) w) := by
  rcases hop with hop | hop | hop
  · have h : op = 29 ∨ op = 30 ∨ op = 31 ∨ op = 32 ∨ op = 33 := by omega
    rcases h with rfl | rfl | rfl | rfl | rfl
    all_goals
      go_enter Tryz.func131, Tryz.ntmps131
      go_wp2
      all_goals
        go_ret2
        refine UX.of ?_ ?_ rfl
        all_goals first | (simp_all [aluP, w64_32]; done) | (simp [aluP]; unfold wrap64; omega)
  · obtain ⟨h1, h2⟩ := hop
    have g1 : (op == 29) = false := beq_eq_false_iff_ne.2 (by omega)
    have g2 : (op == 30) = false := beq_eq_false_iff_ne.2 (by omega)
    have g3 : (op == 31) = false := beq_eq_false_iff_ne.2 (by omega)
    have g4 : (op == 32) = false := beq_eq_false_iff_ne.2 (by omega)
    have g5 : (op == 33) = false := beq_eq_false_iff_ne.2 (by omega)
    have hP : aluP op a b = u32P (op - 40) (wrap32 a) (wrap32 b) := by
      unfold aluP
      rw [if_neg (by omega), if_neg (by omega), if_neg (by omega), if_neg (by omega), if_pos (by omega)]
    have HU : Hid (∀ w, Calls _ _ _ w _) := xunit32_any (op - 40) (wrap32 a) (wrap32 b) (by omega) (i64_w32 a) (i32_wrap b)
    rw [hP]
    clear hP
    generalize u32P (op - 40) (wrap32 a) (wrap32 b) = q at HU ⊢
    obtain ⟨q1, q2⟩ := q
    go_enter Tryz.func131, Tryz.ntmps131
    go_wp2_with fail
    refine (HU.out _).mono ?_
    rintro e w1 ⟨rfl, rfl⟩
    go_wp2
    go_ret2
    exact UX.of rfl rfl rfl
  · obtain ⟨h1, h2⟩ := hop
    have g1 : (op == 29) = false := beq_eq_false_iff_ne.2 (by omega)
    have g2 : (op == 30) = false := beq_eq_false_iff_ne.2 (by omega)
    have g3 : (op == 31) = false := beq_eq_false_iff_ne.2 (by omega)
    have g4 : (op == 32) = false := beq_eq_false_iff_ne.2 (by omega)
    have g5 : (op == 33) = false := beq_eq_false_iff_ne.2 (by omega)
    have hP : aluP op a b = u64P (op - 60) a b := by
      unfold aluP
      rw [if_neg (by omega), if_neg (by omega), if_neg (by omega), if_neg (by omega), if_neg (by omega)]
    have HU : Hid (∀ w, Calls _ _ _ w _) := xunit64_any (op - 60) a b (by omega) (ha) (hb)
    rw [hP]
    clear hP
    generalize u64P (op - 60) a b = q at HU ⊢
    obtain ⟨q1, q2⟩ := q
    go_enter Tryz.func131, Tryz.ntmps131
    go_wp2_with fail
    refine (HU.out _).mono ?_
    rintro e w1 ⟨rfl, rfl⟩
    go_wp2
    go_ret2
    exact UX.of rfl rfl rfl
end Go.Proofs.Qxb6500575aGreatDoor
