/-
  A sleeping machine's stacks. Plain; no walk.
-/
import Derived.Test.Qxb6500574aGreatDoorVLd2
import Derived.Test.Qxb6500574aGreatDoorVBri
import Derived.Test.Qxb6500574aGreatDoorU2
import Derived.Test.Qxb6500574aGreatDoorUJoin
import Derived.Test.Qxb6500574aGreatDoorVPl0
import Derived.Test.Qxb6500574aGreatDoorVUtoa
import Derived.Test.Qxb6500574aGreatDoorVMem2
namespace Go.Proofs.Qxb6500574aGreatDoor
open Go Go.RowKit
set_option linter.unusedVariables false
set_option linter.unusedSimpArgs false
theorem Slp.stk {K : Cx} {m : VMD} (S : Slp K m) {y : Nat} {u : ThD} (hu : m.ths[y]? = some u) : u.stack.length ≤ 1120 := by
  have T := S.vi.th y u hu
  by_cases hf : u.frames = []
  · rw [T.em hf]; simp
  · have hl : 0 < u.frames.length := List.length_pos_iff.2 hf
    have hft := List.getElem?_eq_getElem (show u.frames.length - 1 < u.frames.length by omega)
    exact T.fr.stackLe hft (by have := (S.sl y u hu).2 _ hft; omega) S.vi.ns12
theorem Room.zero {K : Cx} {t : ThD} (h : Room K 2 t) : Room K 0 t := fun f hf => by have := h f hf; omega
end Go.Proofs.Qxb6500574aGreatDoor
