/-
  moon: THE SAYINGS 6, 7, 10, 11, 12, 19, 21, 22 (written by tools/gen_say.py). Plain; no memory, no walk.
-/
import Derived.Test.Qxb6500574aGreatDoorWSy3
namespace Go.Proofs.Qxb6500574aGreatDoor
set_option linter.unusedVariables false
set_option linter.unusedSimpArgs false
section
set_option maxRecDepth 100000
theorem say_6 : SayOk (sayP 6 []) := say_closed (by kernel_rfl) (by decide) (by kernel_rfl) (by kernel_rfl)
theorem say_7 : SayOk (sayP 7 []) := say_closed (by kernel_rfl) (by decide) (by kernel_rfl) (by kernel_rfl)
theorem say_10 : SayOk (sayP 10 []) := say_closed (by kernel_rfl) (by decide) (by kernel_rfl) (by kernel_rfl)
theorem say_11 : SayOk (sayP 11 []) := say_closed (by kernel_rfl) (by decide) (by kernel_rfl) (by kernel_rfl)
theorem say_12 : SayOk (sayP 12 []) := say_closed (by kernel_rfl) (by decide) (by kernel_rfl) (by kernel_rfl)
theorem say_19 : SayOk (sayP 19 []) := say_closed (by kernel_rfl) (by decide) (by kernel_rfl) (by kernel_rfl)
theorem say_21 : SayOk (sayP 21 []) := say_closed (by kernel_rfl) (by decide) (by kernel_rfl) (by kernel_rfl)
theorem say_22 : SayOk (sayP 22 []) := say_closed (by kernel_rfl) (by decide) (by kernel_rfl) (by kernel_rfl)
end
end Go.Proofs.Qxb6500574aGreatDoor
