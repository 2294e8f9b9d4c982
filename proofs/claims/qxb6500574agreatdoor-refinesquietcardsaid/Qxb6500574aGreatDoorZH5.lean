/-
  complaw: Refines, RefinesQuiet, whole.
-/
import Derived.Test.Qxb6500574aGreatDoorZH4
import Derived.Test.Qxb6500574aGreatDoorZG4
namespace Go.Proofs.Qxb6500574aGreatDoor
open Go Go.RowKit
set_option linter.unusedVariables false
set_option linter.unusedSimpArgs false
theorem mrun_all : MRun := fun src fuel n an hf hr he W bm bn bt bs m => mrun_any m hf hr he
theorem refines_any {w : World} (a : Option Addr) (nS cap : Nat) (os : Nat → OpD) (hs : ScriptAt w a nS os) (hg : Glob w) : Calls Tryz.prog 4 #[.slice a nS cap] w fun e w' => e = .returned (.bool true) ∧ Fr (fun _ => False) w w' := refines_of mrun_all a nS cap os hs hg
theorem refinesQuiet_any {w : World} (a : Option Addr) (nS cap : Nat) (os : Nat → OpD) (hs : ScriptAt w a nS os) (hg : Glob w) : Calls Tryz.prog 5 #[.slice a nS cap] w fun e w' => e = .returned (.bool true) ∧ Fr (fun _ => False) w w' := refinesQuiet_of mrun_all a nS cap os hs hg
end Go.Proofs.Qxb6500574aGreatDoor
