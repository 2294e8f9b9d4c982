/-
  Refines, RefinesQuiet of runlaw: the walks of their four functions.
-/
import Derived.Test.Qxb6500575aGreatDoorSWalk
namespace Go.Proofs.Qxb6500575aGreatDoor
open Go Go.RowKit
set_option linter.unusedVariables false
set_option linter.unusedSimpArgs false

set_option maxRecDepth 100000
theorem refinesUp_any (a : Option Addr) (n cap : Nat) (os : Nat → OpD) (w : World) (hs : ScriptAt w a n os) (hg : GlobOk w) :
    Calls Tryz.prog 7 #[.slice a n cap] w fun e w' => e = .returned (.int .i64 (-1)) ∧ Fr (fun _ => False) w w' := by
  have HC : Hid (Calls _ _ _ _ _)   := swalk_any a n cap os false w hs hg
  clear hs hg
  go_enter Tryz.func7, Tryz.ntmps7
  go_wp2_with fail
  refine HC.out.mono ?_
  rintro e w1 ⟨⟨v, rfl⟩, hF⟩
  have HF : Hid (Fr (fun _ => False) w w1) := hF
  clear hF HC
  go_wp2
  go_ret
  exact ⟨rfl, HF.out⟩
theorem refinesQUp_any (a : Option Addr) (n cap : Nat) (os : Nat → OpD) (w : World) (hs : ScriptAt w a n os) (hg : GlobOk w) :
    Calls Tryz.prog 8 #[.slice a n cap] w fun e w' => e = .returned (.int .i64 (-1)) ∧ Fr (fun _ => False) w w' := by
  have HC : Hid (Calls _ _ _ _ _)   := swalk_any a n cap os true w hs hg
  clear hs hg
  go_enter Tryz.func8, Tryz.ntmps8
  go_wp2_with fail
  refine HC.out.mono ?_
  rintro e w1 ⟨⟨v, rfl⟩, hF⟩
  have HF : Hid (Fr (fun _ => False) w w1) := hF
  clear hF HC
  go_wp2
  go_ret
  exact ⟨rfl, HF.out⟩
theorem refines_any (a : Option Addr) (n cap : Nat) (os : Nat → OpD) (w : World) (hs : ScriptAt w a n os) (hg : GlobOk w) :
    Calls Tryz.prog 4 #[.slice a n cap] w fun e w' => e = .returned (.bool true) ∧ Fr (fun _ => False) w w' := by
  have HC : Hid (Calls _ _ _ _ _) := refinesUp_any a n cap os w hs hg
  clear hs hg
  go_enter Tryz.func4, Tryz.ntmps4
  go_wp2_with fail
  refine HC.out.mono ?_
  rintro e w1 ⟨rfl, hF⟩
  have HF : Hid (Fr (fun _ => False) w w1) := hF
  clear hF HC
  go_wp2
  go_ret
  exact ⟨rfl, HF.out⟩
theorem refinesQ_any (a : Option Addr) (n cap : Nat) (os : Nat → OpD) (w : World) (hs : ScriptAt w a n os) (hg : GlobOk w) :
    Calls Tryz.prog 5 #[.slice a n cap] w fun e w' => e = .returned (.bool true) ∧ Fr (fun _ => False) w w' := by
  have HC : Hid (Calls _ _ _ _ _) := refinesQUp_any a n cap os w hs hg
  clear hs hg
  go_enter Tryz.func5, Tryz.ntmps5
  go_wp2_with fail
  refine HC.out.mono ?_
  rintro e w1 ⟨rfl, hF⟩
  have HF : Hid (Fr (fun _ => False) w w1) := hF
  clear hF HC
  go_wp2
  go_ret
  exact ⟨rfl, HF.out⟩
end Go.Proofs.Qxb6500575aGreatDoor
