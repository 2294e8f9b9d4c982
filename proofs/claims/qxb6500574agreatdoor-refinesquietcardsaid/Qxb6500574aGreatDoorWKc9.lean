/-
  THE WALK of co: Check.
-/
import Derived.Test.Qxb6500574aGreatDoorVRunC
import Derived.Test.Qxb6500574aGreatDoorUCkC
namespace Go.Proofs.Qxb6500574aGreatDoor
open Go Go.RowKit
set_option linter.unusedVariables false
set_option linter.unusedSimpArgs false
section
set_option maxRecDepth 100000
set_option maxHeartbeats 1000000
variable {w : World} {A : VL} {bc : Nat}
theorem coCheck_any (I : Idle bc w A) : Calls Tryz.prog 35 #[.pointer (some ⟨bc, 0, none⟩)] w fun e' w' => e' = .returned (.bool true) ∧ Fr (fun _ => False) w w' := by
  obtain ⟨⟨m, f, e, s, R, hc, D, s0, s5⟩, _⟩ := I
  have CK := check_all (σ := ⟨m, f, e⟩) R D
  have c0 := hc.cell 0
  have c1 := hc.cell 1
  have c2 := hc.cell 2
  have cl := hc.lt
  simp only [List.getElem?_toArray, List.getElem?_cons_succ, List.getElem?_cons_zero] at c0 c1 c2
  clear R D hc
  go_enter Tryz.func35, Tryz.ntmps35
  go_wp2_with fail
  refine CK.mono ?_
  rintro e' w1 ⟨rfl, F1⟩
  have c1 := F1.cell c1
  have c2 := F1.cell c2
  have cl : bc < w1.heap.size := Nat.lt_of_lt_of_le cl F1.size
  have HF : Hid (Fr (fun _ => False) w w1) := F1
  clear F1 c0 CK
  go_wp2_with fail
  go_ret
  exact ⟨rfl, HF.out⟩
end
end Go.Proofs.Qxb6500574aGreatDoor
