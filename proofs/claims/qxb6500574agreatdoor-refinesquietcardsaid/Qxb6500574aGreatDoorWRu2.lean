/-
  THE WALKS of New: parser, compiler.
-/
import Derived.Test.Qxb6500574aGreatDoorWRu1
import Derived.Test.Qxb6500574aGreatDoorVGr0
namespace Go.Proofs.Qxb6500574aGreatDoor
open Go Go.RowKit
set_option linter.unusedVariables false
set_option linter.unusedSimpArgs false
def fl0 : FnD × FnL := (fn0, ⟨none, sl0, sl0, sl0, none, none, sl0, sl0, []⟩)
def z143 : Array Value := ((List.replicate 13 fl0).flatMap (fnV 0)).toArray
theorem run_make13 (w : World) : (Instr.makeSlice 47 (.int .i64 13) (.int .i64 13)).run Tryz.prog w = .ok (.slice (some ⟨w.heap.size, 0, none⟩) 13 13) (w.alloc (.cells z143 102)) := by
  have hi : (Tryz.prog.info? 102).map (fun i => (i.zero, i.size, i.bytes)) = some (some (.agg #[.pointer none, .pointer none, .int .i64 0, .slice none 0 0, .int .i64 0, .slice none 0 0, .slice none 0 0, .map none, .map none, .slice none 0 0, .slice none 0 0]), 11, 168) := by kernel_rfl
  obtain ⟨i, hi, hz, hsize, hby⟩ := info_parts hi
  have ht : Tryz.prog.underlying 47 = some (.slice 102) := by kernel_rfl
  have := run_make (P := Tryz.prog) w _ _ i _ ht hi hz .i64 .i64 13 13 (by omega) (by omega) (by rw [hby]; omega) (by omega)
  rw [this]
  have hc : madeCells (Value.agg #[.pointer none, .pointer none, .int .i64 0, .slice none 0 0, .int .i64 0, .slice none 0 0, .slice none 0 0, .map none, .map none, .slice none 0 0, .slice none 0 0]).cells (Int.toNat 13 * i.size) = z143 := by
    rw [hsize]
    kernel_rfl
  rw [hc]
  rfl
section
variable {w : World}
set_option maxRecDepth 100000
set_option maxHeartbeats 1000000
theorem snew_any (n : Nat) : Calls Tryz.prog 14 #[.pointer (some ⟨n, 0, none⟩)] w fun e' w' => e' = .returned (.pointer (some ⟨w.heap.size, 0, none⟩)) ∧ w' = w.alloc (.cells #[.pointer (some ⟨n, 0, none⟩), .slice none 0 0, .slice none 0 0] 81) := by
  go_enter Tryz.func14, Tryz.ntmps14
  go_wp2_with fail
  go_ret
  exact ⟨rfl, rfl⟩
theorem cnew_any (a b : Nat) : Calls Tryz.prog 7 #[.pointer (some ⟨a, 0, none⟩), .pointer (some ⟨b, 0, none⟩)] w fun e' w' => e' = .returned (.pointer (some ⟨w.heap.size + 1, 0, none⟩)) ∧ w' = (w.alloc (.cells z143 102)).alloc (.cells #[.pointer (some ⟨a, 0, none⟩), .pointer (some ⟨b, 0, none⟩), .slice none 0 0, .slice (some ⟨w.heap.size, 0, none⟩) 13 13, .int .i64 0, .slice none 0 0] 51) := by
  have hm := run_make13
  go_enter Tryz.func7, Tryz.ntmps7
  go_wp2_with fail
  go_ret
  exact ⟨rfl, rfl⟩
end
end Go.Proofs.Qxb6500574aGreatDoor
