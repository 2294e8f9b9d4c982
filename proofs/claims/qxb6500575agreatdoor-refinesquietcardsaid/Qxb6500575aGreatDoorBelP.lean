/-
  THE PLAIN GROUND of the law: the module under the builder, the register. No program.
-/
import Derived.Test.Qxb6500575aGreatDoorAddFunc
import Derived.Test.Qxb6500575aGreatDoorAddType
namespace Go.Proofs.Qxb6500575aGreatDoor
open Go Go.RowKit
set_option linter.unusedVariables false
set_option linter.unusedSimpArgs false

structure OpD where
  kind : Int
  a : Int
  b : Int
  c : Int
  s : List UInt8
  t : List UInt8
def OpD.val (o : OpD) : Value := .agg #[.int .i64 o.kind, .int .i64 o.a, .int .i64 o.b, .int .i64 o.c, sv o.s, sv o.t]
structure BelD where
  m : ModD
  code : List Ins
def BelD.build (x : BelD) (o : OpD) : BelD × Int :=
  if o.kind = 1 then ({ x with m := (x.m.addType o.s o.t).1 }, (x.m.addType o.s o.t).2)
  else if o.kind = 2 then ({ x with m := (x.m.addImport o.a).1 }, (x.m.addImport o.a).2)
  else if o.kind = 3 then ({ x with m := (x.m.setMem o.a o.b).1 }, (x.m.setMem o.a o.b).2)
  else if o.kind = 4 then (if x.code.length ≤ 26 then { x with code := x.code ++ [⟨o.a, o.b, o.s⟩] } else x, 0)
  else if o.kind = 5 then ({ m := (x.m.addFunc o.a o.s x.code).1, code := [] }, (x.m.addFunc o.a o.s x.code).2)
  else if o.kind = 6 then ({ x with m := ModD.empty }, 0)
  else (x, 0)
def BelD.ground : BelD := { m := ModD.empty, code := [] }

end Go.Proofs.Qxb6500575aGreatDoor
