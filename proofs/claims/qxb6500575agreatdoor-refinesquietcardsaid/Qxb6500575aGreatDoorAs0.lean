/-
  errors.As: facts that every target shares (after the guide's toyas texts).
-/
import Derived.Test.Qxb6500575aGreatDoorProg
import Derived.Test.Qxb6500575aGreatDoorMem
import Derived.LaidEql
import Derived.Stop.Asserts
import Derived.RowKitTokens
namespace Go.Proofs.Qxb6500575aGreatDoor
open Go Go.RowKit
set_option linter.unusedVariables false
set_option linter.unusedSimpArgs false
open Go.RowKit Go.Extern.Stop Go.Stop Go.Extern

theorem rlm (z : Sem Value) (f : TypeId → Addr → Nat → Nat → Sem Value) (v : Value) :
    ReflectliteValue.method z f #[v] = (do match ← ReflectliteValue.parts v with | none => z | some (t, a, fl) => f t a fl (fl % 32)) := rfl
theorem As.methodKind (h : Value) (w : World) : (Go.method 403 235 (.agg #[h]) "Kind").run Tryz.prog w = .ok (173, h) w := by kernel_rfl
theorem As.methodElem (h : Value) (w : World) : (Go.method 403 235 (.agg #[h]) "Elem").run Tryz.prog w = .ok (191, .agg #[h]) w := by kernel_rfl
theorem As.methodImplements (h : Value) (w : World) : (Go.method 403 235 (.agg #[h]) "Implements").run Tryz.prog w = .ok (192, .agg #[h]) w := by kernel_rfl
theorem As.methodAssignableTo (h : Value) (w : World) : (Go.method 403 235 (.agg #[h]) "AssignableTo").run Tryz.prog w = .ok (189, .agg #[h]) w := by kernel_rfl
theorem As.typeOf25 (v : Value) (w : World) : (ReflectliteType.typeOf #[.iface 140 v]).run Tryz.prog w = .ok (.iface 235 (.agg #[.pointer (some ⟨1, 140, none⟩)])) w := by kernel_rfl
set_option maxHeartbeats 2000000 in
theorem rls : ∃ (s1 s2 s3 s4 s5 : String), ∀ (v x : Value), ReflectliteValue.set #[v, x] = (do
    let (some (dst, a, fl), some (src, b, _)) := (← ReflectliteValue.parts v, ← ReflectliteValue.parts x)
      | unsupported (.noEntry s1)
    if fl / ReflectliteValue.flagAddr % 2 == 0 then unsupported (.noEntry s2)
    let val ← loadVar src b
    if ← Rtype.directlyAssignable dst src then storeVar dst a val
    else if ← Rtype.implements dst src then
      if (← Rtype.kind src) == 20 then
        match val with
        | .nilIface => unsupported (.noEntry s3)
        | _ => storeVar dst a val
      else storeVar dst a (.iface src val)
    else panicString (s4 ++ (← Rtype.spelt src) ++ s5 ++ (← Rtype.spelt dst))
    pure (.tuple #[])) := ⟨_, _, _, _, _, fun _ _ => rfl⟩
end Go.Proofs.Qxb6500575aGreatDoor
