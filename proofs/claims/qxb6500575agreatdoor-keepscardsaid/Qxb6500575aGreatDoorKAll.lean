/-
  mach's contracts stand. No walk.
-/
import Derived.Test.Qxb6500575aGreatDoorKScat
import Derived.Test.Qxb6500575aGreatDoorKGrow
namespace Go.Proofs.Qxb6500575aGreatDoor
open Go Go.RowKit
set_option linter.unusedVariables false
set_option linter.unusedSimpArgs false

theorem machC : MachC where
  grow n h := (kgrow_any h n).mono (by
    rintro e w' ⟨r, L', d', h1, h2, h3, h4⟩
    exact ⟨r, L', d', h1, by unfold I64; omega, h3, h4⟩)
  load op a off h h1 h2 := kload_any h op a off h1 h2
  store op a off v h h1 h2 := kstore_any h op a off v h1 h2
  alu op a b ha hb hop := (alu_any _ op a b ha hb hop _).mono (by
    rintro e w' ⟨n, er, h1, h2, h3, rfl⟩
    exact ⟨n, er, h1, h2, h3, Fr.refl _ _⟩)
end Go.Proofs.Qxb6500575aGreatDoor
