/-
  THE PLAIN FUNCTIONS of modm. No program.
-/
import Derived.Test.Qxb6500575aGreatDoorData
namespace Go.Proofs.Qxb6500575aGreatDoor
open Go Go.RowKit
set_option linter.unusedVariables false
set_option linter.unusedSimpArgs false

/-- modm.types -/
def typesOk (s : List UInt8) : Bool := s.all fun c => c == 105 || c == 108
/-- modm.Well -/
def well (c : Ins) : Bool :=
  if c.op = 8 then decide (c.imm = 0) && decide (1 ≤ c.tab.length) && decide (c.tab.length ≤ 5)
  else if ¬ c.tab.isEmpty = true then false
  else if c.op = 1 ∨ c.op = 2 ∨ c.op = 3 then decide (c.imm = 0) || decide (c.imm = 105) || decide (c.imm = 108)
  else if c.op = 6 ∨ c.op = 7 ∨ c.op = 10 ∨ c.op = 13 ∨ c.op = 14 then decide (0 ≤ c.imm) && decide (c.imm ≤ 4294967295)
  else if c.op = 17 then decide (-2147483648 ≤ c.imm) && decide (c.imm < 2147483648)
  else if c.op = 18 then true
  else if 19 ≤ c.op ∧ c.op ≤ 28 then decide (0 ≤ c.imm) && decide (c.imm ≤ 4294967295)
  else if c.imm ≠ 0 ∨ c.op < 0 then false
  else if c.op ≤ 33 then true
  else if 40 ≤ c.op ∧ c.op < 56 then true
  else decide (60 ≤ c.op) && decide (c.op < 76)
end Go.Proofs.Qxb6500575aGreatDoor
