/-
  WHAT prepm.New asks of a module, and the Prog that it makes. No program.
-/
import Derived.Test.Qxb6500575aGreatDoorMNewS
namespace Go.Proofs.Qxb6500575aGreatDoor
open Go Go.RowKit
set_option linter.unusedVariables false
set_option linter.unusedSimpArgs false

def ModD.progM (m : ModD) : ProgD := { nimp := m.imports.length, min := m.min, max := m.max, steps := 0, funs := m.sigs, codes := (List.range m.nall).map m.codeM }
structure ModM (m : ModD) : Prop where
  ok : ModOk m
  body : ∀ f, m.imports.length ≤ f → f < m.nall → MBodyOk (m.env f) (m.body f)
  tab : ∀ fn ∈ m.funcs, ∀ c ∈ fn.code, c.tab.length ≤ 100
end Go.Proofs.Qxb6500575aGreatDoor
