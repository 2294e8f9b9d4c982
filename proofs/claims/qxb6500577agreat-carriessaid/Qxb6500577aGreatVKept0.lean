/-
  colaw: what KeptRun leans on: two answers compared; ending, and whether one opens with the other.
-/
import Derived.Test.Qxb6500577aGreatVGr
import Derived.Test.Qxb6500577aGreatVEq
import Derived.Laws.Strings2
namespace Go.Proofs.Qxb6500577aGreat
open Go Go.RowKit
set_option linter.unusedVariables false
set_option linter.unusedSimpArgs false
set_option maxRecDepth 100000
theorem ansFs (a b c : Int) (s t : Bs) (d : Nat) (w : World) : (Op.eqFields (d + 1) #[.int .i64 a, .int .i64 b, .int .i64 c, sv s, sv t] #[.int .i64 a, .int .i64 b, .int .i64 c, sv s, sv t] (Tryz.prog.fieldsOf 40).toList).run Tryz.prog w = .ok true w := by
  rw [eqFs (T := 40) [("E", 38, 0), ("N", 3, 1), ("M", 3, 2), ("S", 9, 3), ("T", 9, 4)] (by kernel_rfl) (by decide) (d + 1) w _ _ [true, true, true, true, true] rfl]
  · rfl
  · intro k x y h1 h2
    rcases k with _ | _ | _ | _ | _ | k
    · cases h1; cases h2
      refine ⟨.int .i64 a, .int .i64 a, by kernel_rfl, by kernel_rfl, ?_⟩
      rw [run_equalIn_int w d 38 .i64 .i64 a a (by kernel_rfl)]
      simp
    · cases h1; cases h2
      refine ⟨.int .i64 b, .int .i64 b, by kernel_rfl, by kernel_rfl, ?_⟩
      rw [run_equalIn_int w d 3 .i64 .i64 b b (by kernel_rfl)]
      simp
    · cases h1; cases h2
      refine ⟨.int .i64 c, .int .i64 c, by kernel_rfl, by kernel_rfl, ?_⟩
      rw [run_equalIn_int w d 3 .i64 .i64 c c (by kernel_rfl)]
      simp
    · cases h1; cases h2
      refine ⟨sv s, sv s, by kernel_rfl, by kernel_rfl, ?_⟩
      rw [run_equalIn_string w d 9 _ _ (by kernel_rfl)]
      simp
    · cases h1; cases h2
      refine ⟨sv t, sv t, by kernel_rfl, by kernel_rfl, ?_⟩
      rw [run_equalIn_string w d 9 _ _ (by kernel_rfl)]
      simp
    · simp at h1
theorem ans_eql (a b c : Int) (s t : Bs) (w : World) : (binOp .eql 40 (.agg #[.int .i64 a, .int .i64 b, .int .i64 c, sv s, sv t]) (.agg #[.int .i64 a, .int .i64 b, .int .i64 c, sv s, sv t])).run Tryz.prog w = .ok (.bool true) w := by
  rw [run_eql_struct, run_equalIn_struct w 9999 40 _ _ (by kernel_rfl) (by kernel_rfl), ansFs a b c s t 9998 w]
  rfl
theorem ans_neq (a b c : Int) (s t : Bs) (w : World) : (binOp .neq 40 (.agg #[.int .i64 a, .int .i64 b, .int .i64 c, sv s, sv t]) (.agg #[.int .i64 a, .int .i64 b, .int .i64 c, sv s, sv t])).run Tryz.prog w = .ok (.bool false) w := by
  rw [run_neq_struct, run_equalIn_struct w 9999 40 _ _ (by kernel_rfl) (by kernel_rfl), ansFs a b c s t 9998 w]
  rfl
section
variable {w : World}
set_option maxHeartbeats 1000000
theorem ending_any (e : Nat) (h : e = 0 ∨ e = 12 ∨ e = 9 ∨ e = 8 ∨ e = 10 ∨ e = 11) : Calls Tryz.prog 16 #[.int .i64 e] w fun e' w' => e' = .returned (.bool true) ∧ w' = w := by
  rcases h with rfl | rfl | rfl | rfl | rfl | rfl <;>
  · go_enter Tryz.func16, Tryz.ntmps16
    go_wp2
    go_ret
    exact ⟨rfl, rfl⟩
theorem prefix_any (a b : Bs) (h : a <+: b) : Calls Tryz.prog 17 #[sv a, sv b] w fun e' w' => e' = .returned (.bool true) ∧ w' = w := by
  obtain ⟨c, rfl⟩ := h
  have hl : (a.length : Int) ≤ ((a ++ c).length : Int) := by simp; omega
  have hl2 : a.length ≤ (a ++ c).length := by simp
  have ht : (a ++ c).take a.length = a := by simp
  generalize a ++ c = b at hl hl2 ht
  go_enter Tryz.func17, Tryz.ntmps17
  go_wp2_with fail
  rw [ByteArray.extract_mk, List.drop_zero, Nat.sub_zero, ht]
  go_ret
  exact ⟨by simp [ByteArray.toList_eq], rfl⟩
end
end Go.Proofs.Qxb6500577aGreat
