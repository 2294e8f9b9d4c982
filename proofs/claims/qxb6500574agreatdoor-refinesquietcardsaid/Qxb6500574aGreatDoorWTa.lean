/-
  moon: type assertions to a pointer type.
-/
import Derived.Test.Qxb6500574aGreatDoorWAs0
namespace Go.Proofs.Qxb6500574aGreatDoor
open Go Go.RowKit
set_option linter.unusedVariables false
set_option linter.unusedSimpArgs false
/-- 'x, ok := e.(T)', T no interface: e is of another type -/
theorem ta_no {P : Program} {A : TypeId} {e : TypeId} {i : TypeInfo} (hu : P.underlying A = some (.pointer e)) (hi : P.info? A = some i) (hz : i.zero = some (.pointer none)) {t : TypeId} (h : (t == A) = false) (v : Value) (xT : TypeId) (w : World) :
    (Instr.typeAssert (.iface t v) xT A true).run P w = .ok (.tuple #[.pointer none, .bool false]) w := by
  have ht : t ≠ A := fun e => by rw [e] at h; simp at h
  simp [Instr.typeAssert, run_underlying hu, ht, zeroValue, typeInfo, hi, hz]
theorem ta_noB {P : Program} {A : TypeId} {e : TypeId} (hu : P.underlying A = some (.pointer e)) (hz : (P.info? A).map (·.zero) = some (some (.pointer none))) {t : TypeId} (h : (t == A) = false) (v : Value) (xT : TypeId) (w : World) :
    (Instr.typeAssert (.iface t v) xT A true).run P w = .ok (.tuple #[.pointer none, .bool false]) w := by
  obtain ⟨i, hi, hz'⟩ := Option.map_eq_some_iff.1 hz
  exact ta_no hu hi hz' h v xT w
theorem noReturn {t : TypeId} (h : (t == 203) = false) (v : Value) (xT : TypeId) (w : World) : (Instr.typeAssert (.iface t v) xT 203 true).run Tryz.prog w = .ok (.tuple #[.pointer none, .bool false]) w := ta_noB (e := 381) (by kernel_rfl) (by kernel_rfl) h v xT w
theorem noBreak {t : TypeId} (h : (t == 204) = false) (v : Value) (xT : TypeId) (w : World) : (Instr.typeAssert (.iface t v) xT 204 true).run Tryz.prog w = .ok (.tuple #[.pointer none, .bool false]) w := ta_noB (e := 288) (by kernel_rfl) (by kernel_rfl) h v xT w
theorem noCall {t : TypeId} (h : (t == 291) = false) (v : Value) (xT : TypeId) (w : World) : (Instr.typeAssert (.iface t v) xT 291 true).run Tryz.prog w = .ok (.tuple #[.pointer none, .bool false]) w := ta_noB (e := 388) (by kernel_rfl) (by kernel_rfl) h v xT w
theorem noName {t : TypeId} (h : (t == 296) = false) (v : Value) (xT : TypeId) (w : World) : (Instr.typeAssert (.iface t v) xT 296 true).run Tryz.prog w = .ok (.tuple #[.pointer none, .bool false]) w := ta_noB (e := 357) (by kernel_rfl) (by kernel_rfl) h v xT w
theorem noIndex {t : TypeId} (h : (t == 297) = false) (v : Value) (xT : TypeId) (w : World) : (Instr.typeAssert (.iface t v) xT 297 true).run Tryz.prog w = .ok (.tuple #[.pointer none, .bool false]) w := ta_noB (e := 385) (by kernel_rfl) (by kernel_rfl) h v xT w
theorem isReturn (v : Value) (xT : TypeId) (w : World) : (Instr.typeAssert (.iface 203 v) xT 203 true).run Tryz.prog w = .ok (.tuple #[v, .bool true]) w := by kernel_rfl
theorem isBreak (v : Value) (xT : TypeId) (w : World) : (Instr.typeAssert (.iface 204 v) xT 204 true).run Tryz.prog w = .ok (.tuple #[v, .bool true]) w := by kernel_rfl
theorem isCall (v : Value) (xT : TypeId) (w : World) : (Instr.typeAssert (.iface 291 v) xT 291 true).run Tryz.prog w = .ok (.tuple #[v, .bool true]) w := by kernel_rfl
theorem isName (v : Value) (xT : TypeId) (w : World) : (Instr.typeAssert (.iface 296 v) xT 296 true).run Tryz.prog w = .ok (.tuple #[v, .bool true]) w := by kernel_rfl
theorem isIndex (v : Value) (xT : TypeId) (w : World) : (Instr.typeAssert (.iface 297 v) xT 297 true).run Tryz.prog w = .ok (.tuple #[v, .bool true]) w := by kernel_rfl
end Go.Proofs.Qxb6500574aGreatDoor
