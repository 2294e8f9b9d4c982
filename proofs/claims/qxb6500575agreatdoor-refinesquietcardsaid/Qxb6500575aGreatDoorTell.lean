/-
  THE WALK of api.Tell at a *prep.Error.
-/
import Derived.Test.Qxb6500575aGreatDoorAeErr
namespace Go.Proofs.Qxb6500575aGreatDoor
open Go Go.RowKit
set_option linter.unusedVariables false
set_option linter.unusedSimpArgs false
open Go.Extern.Stop Go.Stop Go.Extern

structure ErrAt (w : World) (be : Nat) (f at_ n : Int) : Prop where
  here : Has w be #[.int .i64 f, .int .i64 at_, .iface 40 (.int .i64 n)] 142
  code : n = 5 ∨ n = 6 ∨ n = 7

/-- errors.As at an *Errno: api.Tell -/
theorem tell_any (be : Nat) (f at_ n : Int) (w : World) (h : ErrAt w be f at_ n) (hg : w.cell? ⟨0, 0, none⟩ = some (.iface 235 (.agg #[.pointer (some ⟨1, 74, none⟩)]))) :
    Calls Tryz.prog 34 #[.iface 140 (.pointer (some ⟨be, 0, none⟩))] w fun e w' => e = .returned (.int .i64 n) ∧ Fr (fun _ => False) w w' := by
  have hb := h.here.lt
  have hlt : 0 < w.heap.size := by omega
  have hA := as_chain be ⟨w.heap.size, 0, none⟩ (.int .i64 0) f at_ n (w.alloc (.cells #[.int .i64 0] 40)) (by rw [World.cell?_alloc_lt _ _ ⟨0, 0, none⟩ hlt]; exact hg) (by rw [(Has.new w _ _).cell]; rfl) ((Has.new w _ _).frozen 0) (h.here.alloc _)
  have HA : Hid (Calls _ _ _ _ _) := hA
  have hn : (n != 0) = true := by rcases h.code with rfl | rfl | rfl <;> rfl
  clear hA h
  go_enter Tryz.func34, Tryz.ntmps34
  go_wp2_with fail
  refine HA.out.mono ?_
  rintro e w1 ⟨rfl, hF1, c1⟩
  have HF1 : Hid (Fr (fun _ => False) w w1) := ((Fr.refl (fun _ => False) w).alloc _).trans hF1 (fun j hj e => by have : j = w.heap.size := e; omega)
  clear hF1 HA
  go_wp2
  go_ret
  exact ⟨rfl, HF1.out⟩
end Go.Proofs.Qxb6500575aGreatDoor
