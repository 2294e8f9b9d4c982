/-
  THE WALKS of colaw: Probe, Probe2.
-/
import Derived.Test.Qxb6500577aGreatVProbeL
import Derived.Test.Qxb6500577aGreatVKept0
namespace Go.Proofs.Qxb6500577aGreat
open Go Go.RowKit
set_option linter.unusedVariables false
set_option linter.unusedSimpArgs false
section
variable {w : World}
set_option maxRecDepth 100000
set_option maxHeartbeats 2000000
theorem pconv1 (w : World) (b cap : Nat) (c : Int) (h : w.cell? ⟨b, 0, none⟩ = some (.int .u8 c)) : (convert 61 9 (.slice (some ⟨b, 0, none⟩) 1 cap)).run Tryz.prog w = .ok (.string ⟨#[UInt8.ofNat c.toNat]⟩) w := by
  rw [run_convert_bytes_string w 61 9 5 _ _ _ (by kernel_rfl) (by kernel_rfl) (by kernel_rfl)]
  rw [run_bytesToString w ⟨b, 0, none⟩ 1 cap [c] (by simp [loadCells, loadCellsFrom, load, Sem.run, Addr.add, h])]
  rfl
theorem pconv (w : World) (s : Bs) : (convert 61 9 (.slice (some ⟨w.heap.size, 0, none⟩) 1 1)).run Tryz.prog (w.alloc (.cells #[.int .u8 s.length] 5)) = .ok (.string ⟨#[UInt8.ofNat s.length]⟩) (w.alloc (.cells #[.int .u8 s.length] 5)) := by
  have := pconv1 (w.alloc (.cells #[.int .u8 s.length] 5)) w.heap.size 1 s.length ((Has.new _ _ _).cell 0)
  simpa using this
theorem probe_any (s : Bs) (hs : s.length ≤ 40) (t : Bool) : Calls Tryz.prog 20 #[sv s, .bool t] w fun e w' => e = .returned (sv (probe s t)) ∧ Fr (fun _ => False) w w' := by
  have hc := pconv w s
  go_enter Tryz.func20, Tryz.ntmps20
  cases t with
  | true =>
    go_wp2_with fail
    go_ret
    refine ⟨?_, (Fr.refl _ _).alloc _⟩
    simp only [ba_app]
    kernel_rfl
  | false =>
    go_wp2_with fail
    go_ret
    refine ⟨?_, (Fr.refl _ _).alloc _⟩
    simp only [ba_app]
    kernel_rfl
theorem probe2_any (s : Bs) (hs : s.length ≤ 40) : Calls Tryz.prog 18 #[sv s] w fun e w' => e = .returned (sv (probe2 s)) ∧ Fr (fun _ => False) w w' := by
  have hc := pconv w s
  go_enter Tryz.func18, Tryz.ntmps18
  go_wp2_with fail
  go_ret
  refine ⟨?_, (Fr.refl _ _).alloc _⟩
  simp only [ba_app]
  kernel_rfl
end
end Go.Proofs.Qxb6500577aGreat
