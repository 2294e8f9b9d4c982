/-
  THE WALKS of complaw: Refines, RefinesQuiet, given the model's Run.
-/
import Derived.Test.Qxb6500574aGreatDoorZH3
namespace Go.Proofs.Qxb6500574aGreatDoor
open Go Go.RowKit
set_option linter.unusedVariables false
set_option linter.unusedSimpArgs false
section
set_option maxRecDepth 100000
set_option maxHeartbeats 1000000
variable {w : World}
theorem refines_of (HM : MRun) (a : Option Addr) (nS cap : Nat) (os : Nat → OpD) (hs : ScriptAt w a nS os) (hg : Glob w) : Calls Tryz.prog 4 #[.slice a nS cap] w fun e w' => e = .returned (.bool true) ∧ Fr (fun _ => False) w w' := by
  have HC := hid (lwalk_false HM a nS cap os hs hg)
  clear hs hg HM
  go_enter Tryz.func4, Tryz.ntmps4
  go_wp2_with fail
  refine HC.out.mono ?_
  rintro e1 w1 ⟨⟨z, rfl⟩, f1⟩
  have HF := hid f1
  clear f1 HC
  go_wp2_with fail
  go_ret
  exact ⟨rfl, HF.out⟩
theorem refinesQuiet_of (HM : MRun) (a : Option Addr) (nS cap : Nat) (os : Nat → OpD) (hs : ScriptAt w a nS os) (hg : Glob w) : Calls Tryz.prog 5 #[.slice a nS cap] w fun e w' => e = .returned (.bool true) ∧ Fr (fun _ => False) w w' := by
  have HC := hid (lwalk_true HM a nS cap os hs hg)
  clear hs hg HM
  go_enter Tryz.func5, Tryz.ntmps5
  go_wp2_with fail
  refine HC.out.mono ?_
  rintro e1 w1 ⟨⟨z, rfl⟩, f1⟩
  have HF := hid f1
  clear f1 HC
  go_wp2_with fail
  go_ret
  exact ⟨rfl, HF.out⟩
end
end Go.Proofs.Qxb6500574aGreatDoor
