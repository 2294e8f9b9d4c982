/-
  moon: THE SAYINGS 24, 26, 28, 34, 35, 37, 38, 39 (written by tools/gen_say.py). Plain; no memory, no walk.
-/
import Derived.Test.Qxb6500574aGreatDoorWSy3
namespace Go.Proofs.Qxb6500574aGreatDoor
set_option linter.unusedVariables false
set_option linter.unusedSimpArgs false
section
set_option maxRecDepth 100000
theorem say_24 : SayOk (sayP 24 []) := say_closed (by kernel_rfl) (by decide) (by kernel_rfl) (by kernel_rfl)
theorem say_26 : SayOk (sayP 26 []) := say_closed (by kernel_rfl) (by decide) (by kernel_rfl) (by kernel_rfl)
theorem say_28 : SayOk (sayP 28 []) := say_closed (by kernel_rfl) (by decide) (by kernel_rfl) (by kernel_rfl)
theorem say_34 : SayOk (sayP 34 []) := say_closed (by kernel_rfl) (by decide) (by kernel_rfl) (by kernel_rfl)
theorem say_35 : SayOk (sayP 35 []) := say_closed (by kernel_rfl) (by decide) (by kernel_rfl) (by kernel_rfl)
theorem say_37 : SayOk (sayP 37 []) := say_closed (by kernel_rfl) (by decide) (by kernel_rfl) (by kernel_rfl)
theorem say_38 : SayOk (sayP 38 []) := say_closed (by kernel_rfl) (by decide) (by kernel_rfl) (by kernel_rfl)
theorem say_39 : SayOk (sayP 39 []) := say_closed (by kernel_rfl) (by decide) (by kernel_rfl) (by kernel_rfl)
end
end Go.Proofs.Qxb6500574aGreatDoor
