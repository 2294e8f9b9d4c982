/-
  An addition in the head of a region.
-/
import Derived.Test.Qxb6500575aGreatDoorSLoop1
namespace Go.Proofs.Qxb6500575aGreatDoor
open Go Go.RowKit
set_option linter.unusedVariables false
set_option linter.unusedSimpArgs false

theorem run_add (p q : Int) (h1 : -9223372036854775808 ≤ p + q) (h2 : p + q < 9223372036854775808) (x y : Operand) (w : World) :
    ((do eqGuard .add 3 x y (.int .i64 p) (.int .i64 q); binOp .add 3 (.int .i64 p) (.int .i64 q)) : Sem Value).run Tryz.prog w = .ok (.int .i64 (p + q)) w := by
  go_simp
  rw [IntKind.wrap_i64]
  omega
theorem wpQ_add {ops : Array Oper} {S : World → Prop} {T : Act → Prop} {o : Oper} {l : List Oper} {a : Act} (hg : o.guard = none) (x y : Operand) (t : TypeId) (p q : Int) (ho : o.op = .binOp .add 3 x y t) (hx : a.eval x = .int .i64 p) (hy : a.eval y = .int .i64 q) (h1 : -9223372036854775808 ≤ p + q) (h2 : p + q < 9223372036854775808) (h : wpQuiet Tryz.prog ops S T l (a.put o.dst (.int .i64 (p + q)))) : wpQuiet Tryz.prog ops S T (o :: l) a :=
  wpQ_pure hg _ (fun w => by
    have := run_add p q h1 h2 x y w
    simp only [execOp, ho, hx, hy]
    rw [Sem.run_bind, this]
    rfl) h
end Go.Proofs.Qxb6500575aGreatDoor
