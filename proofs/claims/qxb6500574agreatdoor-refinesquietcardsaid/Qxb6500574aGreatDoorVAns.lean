/-
  Two answers compared. No walk.
-/
import Derived.Test.Qxb6500574aGreatDoorVGr0
import Derived.Test.Qxb6500574aGreatDoorVEq
import Derived.Laws.Strings2
namespace Go.Proofs.Qxb6500574aGreatDoor
open Go Go.RowKit
set_option linter.unusedVariables false
set_option linter.unusedSimpArgs false
set_option maxRecDepth 100000
theorem ansFs (a b c : Int) (s t : Bs) (d : Nat) (w : World) : (Op.eqFields (d + 1) #[.int .i64 a, .int .i64 b, .int .i64 c, sv s, sv t] #[.int .i64 a, .int .i64 b, .int .i64 c, sv s, sv t] (Tryz.prog.fieldsOf 54).toList).run Tryz.prog w = .ok true w := by
  rw [eqFs (T := 54) [("E", 52, 0), ("N", 3, 1), ("M", 3, 2), ("S", 9, 3), ("T", 9, 4)] (by kernel_rfl) (by decide) (d + 1) w _ _ [true, true, true, true, true] rfl]
  · rfl
  · intro k x y h1 h2
    rcases k with _ | _ | _ | _ | _ | k
    · cases h1; cases h2
      refine ⟨.int .i64 a, .int .i64 a, by kernel_rfl, by kernel_rfl, ?_⟩
      rw [run_equalIn_int w d 52 .i64 .i64 a a (by kernel_rfl)]
      simp
    · cases h1; cases h2
      refine ⟨.int .i64 b, .int .i64 b, by kernel_rfl, by kernel_rfl, ?_⟩
      rw [run_equalIn_int w d 3 .i64 .i64 b b (by kernel_rfl)]
      simp
    · cases h1; cases h2
      refine ⟨.int .i64 c, .int .i64 c, by kernel_rfl, by kernel_rfl, ?_⟩
      rw [run_equalIn_int w d 3 .i64 .i64 c c (by kernel_rfl)]
      simp
    · cases h1; cases h2
      refine ⟨sv s, sv s, by kernel_rfl, by kernel_rfl, ?_⟩
      rw [run_equalIn_string w d 9 _ _ (by kernel_rfl)]
      simp
    · cases h1; cases h2
      refine ⟨sv t, sv t, by kernel_rfl, by kernel_rfl, ?_⟩
      rw [run_equalIn_string w d 9 _ _ (by kernel_rfl)]
      simp
    · simp at h1
theorem ans_eql (a b c : Int) (s t : Bs) (w : World) : (binOp .eql 54 (.agg #[.int .i64 a, .int .i64 b, .int .i64 c, sv s, sv t]) (.agg #[.int .i64 a, .int .i64 b, .int .i64 c, sv s, sv t])).run Tryz.prog w = .ok (.bool true) w := by
  rw [run_eql_struct, run_equalIn_struct w 9999 54 _ _ (by kernel_rfl) (by kernel_rfl), ansFs a b c s t 9998 w]
  rfl
theorem ans_neq (a b c : Int) (s t : Bs) (w : World) : (binOp .neq 54 (.agg #[.int .i64 a, .int .i64 b, .int .i64 c, sv s, sv t]) (.agg #[.int .i64 a, .int .i64 b, .int .i64 c, sv s, sv t])).run Tryz.prog w = .ok (.bool false) w := by
  rw [run_neq_struct, run_equalIn_struct w 9999 54 _ _ (by kernel_rfl) (by kernel_rfl), ansFs a b c s t 9998 w]
  rfl
end Go.Proofs.Qxb6500574aGreatDoor
