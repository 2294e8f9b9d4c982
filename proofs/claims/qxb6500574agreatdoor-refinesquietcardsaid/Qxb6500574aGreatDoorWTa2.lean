/-
  moon: type assertions to the other types of the tree; to the two interfaces.
-/
import Derived.Test.Qxb6500574aGreatDoorWTa
import Derived.Stop.Asserts
namespace Go.Proofs.Qxb6500574aGreatDoor
open Go Go.RowKit
set_option linter.unusedVariables false
set_option linter.unusedSimpArgs false
theorem noLit {t : TypeId} (h : (t == 390) = false) (v : Value) (xT : TypeId) (w : World) : (Instr.typeAssert (.iface t v) xT 390 true).run Tryz.prog w = .ok (.tuple #[.pointer none, .bool false]) w := ta_noB (e := 392) (by kernel_rfl) (by kernel_rfl) h v xT w
theorem isLit (v : Value) (xT : TypeId) (w : World) : (Instr.typeAssert (.iface 390 v) xT 390 true).run Tryz.prog w = .ok (.tuple #[v, .bool true]) w := by kernel_rfl
theorem noNum {t : TypeId} (h : (t == 393) = false) (v : Value) (xT : TypeId) (w : World) : (Instr.typeAssert (.iface t v) xT 393 true).run Tryz.prog w = .ok (.tuple #[.pointer none, .bool false]) w := ta_noB (e := 395) (by kernel_rfl) (by kernel_rfl) h v xT w
theorem isNum (v : Value) (xT : TypeId) (w : World) : (Instr.typeAssert (.iface 393 v) xT 393 true).run Tryz.prog w = .ok (.tuple #[v, .bool true]) w := by kernel_rfl
theorem noStr {t : TypeId} (h : (t == 382) = false) (v : Value) (xT : TypeId) (w : World) : (Instr.typeAssert (.iface t v) xT 382 true).run Tryz.prog w = .ok (.tuple #[.pointer none, .bool false]) w := ta_noB (e := 383) (by kernel_rfl) (by kernel_rfl) h v xT w
theorem isStr (v : Value) (xT : TypeId) (w : World) : (Instr.typeAssert (.iface 382 v) xT 382 true).run Tryz.prog w = .ok (.tuple #[v, .bool true]) w := by kernel_rfl
theorem noFunc {t : TypeId} (h : (t == 354) = false) (v : Value) (xT : TypeId) (w : World) : (Instr.typeAssert (.iface t v) xT 354 true).run Tryz.prog w = .ok (.tuple #[.pointer none, .bool false]) w := ta_noB (e := 397) (by kernel_rfl) (by kernel_rfl) h v xT w
theorem isFunc (v : Value) (xT : TypeId) (w : World) : (Instr.typeAssert (.iface 354 v) xT 354 true).run Tryz.prog w = .ok (.tuple #[v, .bool true]) w := by kernel_rfl
theorem noTable {t : TypeId} (h : (t == 398) = false) (v : Value) (xT : TypeId) (w : World) : (Instr.typeAssert (.iface t v) xT 398 true).run Tryz.prog w = .ok (.tuple #[.pointer none, .bool false]) w := ta_noB (e := 400) (by kernel_rfl) (by kernel_rfl) h v xT w
theorem isTable (v : Value) (xT : TypeId) (w : World) : (Instr.typeAssert (.iface 398 v) xT 398 true).run Tryz.prog w = .ok (.tuple #[v, .bool true]) w := by kernel_rfl
theorem noBinary {t : TypeId} (h : (t == 377) = false) (v : Value) (xT : TypeId) (w : World) : (Instr.typeAssert (.iface t v) xT 377 true).run Tryz.prog w = .ok (.tuple #[.pointer none, .bool false]) w := ta_noB (e := 379) (by kernel_rfl) (by kernel_rfl) h v xT w
theorem isBinary (v : Value) (xT : TypeId) (w : World) : (Instr.typeAssert (.iface 377 v) xT 377 true).run Tryz.prog w = .ok (.tuple #[v, .bool true]) w := by kernel_rfl
theorem noUnary {t : TypeId} (h : (t == 401) = false) (v : Value) (xT : TypeId) (w : World) : (Instr.typeAssert (.iface t v) xT 401 true).run Tryz.prog w = .ok (.tuple #[.pointer none, .bool false]) w := ta_noB (e := 403) (by kernel_rfl) (by kernel_rfl) h v xT w
theorem isUnary (v : Value) (xT : TypeId) (w : World) : (Instr.typeAssert (.iface 401 v) xT 401 true).run Tryz.prog w = .ok (.tuple #[v, .bool true]) w := by kernel_rfl
theorem noLocal {t : TypeId} (h : (t == 362) = false) (v : Value) (xT : TypeId) (w : World) : (Instr.typeAssert (.iface t v) xT 362 true).run Tryz.prog w = .ok (.tuple #[.pointer none, .bool false]) w := ta_noB (e := 364) (by kernel_rfl) (by kernel_rfl) h v xT w
theorem isLocal (v : Value) (xT : TypeId) (w : World) : (Instr.typeAssert (.iface 362 v) xT 362 true).run Tryz.prog w = .ok (.tuple #[v, .bool true]) w := by kernel_rfl
theorem noLocalFn {t : TypeId} (h : (t == 358) = false) (v : Value) (xT : TypeId) (w : World) : (Instr.typeAssert (.iface t v) xT 358 true).run Tryz.prog w = .ok (.tuple #[.pointer none, .bool false]) w := ta_noB (e := 360) (by kernel_rfl) (by kernel_rfl) h v xT w
theorem isLocalFn (v : Value) (xT : TypeId) (w : World) : (Instr.typeAssert (.iface 358 v) xT 358 true).run Tryz.prog w = .ok (.tuple #[v, .bool true]) w := by kernel_rfl
theorem noAssign {t : TypeId} (h : (t == 298) = false) (v : Value) (xT : TypeId) (w : World) : (Instr.typeAssert (.iface t v) xT 298 true).run Tryz.prog w = .ok (.tuple #[.pointer none, .bool false]) w := ta_noB (e := 300) (by kernel_rfl) (by kernel_rfl) h v xT w
theorem isAssign (v : Value) (xT : TypeId) (w : World) : (Instr.typeAssert (.iface 298 v) xT 298 true).run Tryz.prog w = .ok (.tuple #[v, .bool true]) w := by kernel_rfl
theorem noCallStmt {t : TypeId} (h : (t == 293) = false) (v : Value) (xT : TypeId) (w : World) : (Instr.typeAssert (.iface t v) xT 293 true).run Tryz.prog w = .ok (.tuple #[.pointer none, .bool false]) w := ta_noB (e := 295) (by kernel_rfl) (by kernel_rfl) h v xT w
theorem isCallStmt (v : Value) (xT : TypeId) (w : World) : (Instr.typeAssert (.iface 293 v) xT 293 true).run Tryz.prog w = .ok (.tuple #[v, .bool true]) w := by kernel_rfl
theorem noIf {t : TypeId} (h : (t == 365) = false) (v : Value) (xT : TypeId) (w : World) : (Instr.typeAssert (.iface t v) xT 365 true).run Tryz.prog w = .ok (.tuple #[.pointer none, .bool false]) w := ta_noB (e := 367) (by kernel_rfl) (by kernel_rfl) h v xT w
theorem isIf (v : Value) (xT : TypeId) (w : World) : (Instr.typeAssert (.iface 365 v) xT 365 true).run Tryz.prog w = .ok (.tuple #[v, .bool true]) w := by kernel_rfl
theorem noWhile {t : TypeId} (h : (t == 284) = false) (v : Value) (xT : TypeId) (w : World) : (Instr.typeAssert (.iface t v) xT 284 true).run Tryz.prog w = .ok (.tuple #[.pointer none, .bool false]) w := ta_noB (e := 286) (by kernel_rfl) (by kernel_rfl) h v xT w
theorem isWhile (v : Value) (xT : TypeId) (w : World) : (Instr.typeAssert (.iface 284 v) xT 284 true).run Tryz.prog w = .ok (.tuple #[v, .bool true]) w := by kernel_rfl
theorem noFor {t : TypeId} (h : (t == 371) = false) (v : Value) (xT : TypeId) (w : World) : (Instr.typeAssert (.iface t v) xT 371 true).run Tryz.prog w = .ok (.tuple #[.pointer none, .bool false]) w := ta_noB (e := 373) (by kernel_rfl) (by kernel_rfl) h v xT w
theorem isFor (v : Value) (xT : TypeId) (w : World) : (Instr.typeAssert (.iface 371 v) xT 371 true).run Tryz.prog w = .ok (.tuple #[v, .bool true]) w := by kernel_rfl
theorem noForIn {t : TypeId} (h : (t == 368) = false) (v : Value) (xT : TypeId) (w : World) : (Instr.typeAssert (.iface t v) xT 368 true).run Tryz.prog w = .ok (.tuple #[.pointer none, .bool false]) w := ta_noB (e := 370) (by kernel_rfl) (by kernel_rfl) h v xT w
theorem isForIn (v : Value) (xT : TypeId) (w : World) : (Instr.typeAssert (.iface 368 v) xT 368 true).run Tryz.prog w = .ok (.tuple #[v, .bool true]) w := by kernel_rfl
theorem stLit (v : Value) (xT : TypeId) (w : World) : (Instr.typeAssert (.iface 390 v) xT 201 true).run Tryz.prog w = .ok (.tuple #[.nilIface, .bool false]) w := run_typeAssert_lacksB Tryz.underlying201 (by kernel_rfl) (by kernel_rfl) v xT w
theorem exLit (v : Value) (xT : TypeId) (w : World) : (Instr.typeAssert (.iface 390 v) xT 281 false).run Tryz.prog w = .ok (.iface 390 v) w := by kernel_rfl
theorem stNum (v : Value) (xT : TypeId) (w : World) : (Instr.typeAssert (.iface 393 v) xT 201 true).run Tryz.prog w = .ok (.tuple #[.nilIface, .bool false]) w := run_typeAssert_lacksB Tryz.underlying201 (by kernel_rfl) (by kernel_rfl) v xT w
theorem exNum (v : Value) (xT : TypeId) (w : World) : (Instr.typeAssert (.iface 393 v) xT 281 false).run Tryz.prog w = .ok (.iface 393 v) w := by kernel_rfl
theorem stStr (v : Value) (xT : TypeId) (w : World) : (Instr.typeAssert (.iface 382 v) xT 201 true).run Tryz.prog w = .ok (.tuple #[.nilIface, .bool false]) w := run_typeAssert_lacksB Tryz.underlying201 (by kernel_rfl) (by kernel_rfl) v xT w
theorem exStr (v : Value) (xT : TypeId) (w : World) : (Instr.typeAssert (.iface 382 v) xT 281 false).run Tryz.prog w = .ok (.iface 382 v) w := by kernel_rfl
theorem stName (v : Value) (xT : TypeId) (w : World) : (Instr.typeAssert (.iface 296 v) xT 201 true).run Tryz.prog w = .ok (.tuple #[.nilIface, .bool false]) w := run_typeAssert_lacksB Tryz.underlying201 (by kernel_rfl) (by kernel_rfl) v xT w
theorem exName (v : Value) (xT : TypeId) (w : World) : (Instr.typeAssert (.iface 296 v) xT 281 false).run Tryz.prog w = .ok (.iface 296 v) w := by kernel_rfl
theorem stIndex (v : Value) (xT : TypeId) (w : World) : (Instr.typeAssert (.iface 297 v) xT 201 true).run Tryz.prog w = .ok (.tuple #[.nilIface, .bool false]) w := run_typeAssert_lacksB Tryz.underlying201 (by kernel_rfl) (by kernel_rfl) v xT w
theorem exIndex (v : Value) (xT : TypeId) (w : World) : (Instr.typeAssert (.iface 297 v) xT 281 false).run Tryz.prog w = .ok (.iface 297 v) w := by kernel_rfl
theorem stCall (v : Value) (xT : TypeId) (w : World) : (Instr.typeAssert (.iface 291 v) xT 201 true).run Tryz.prog w = .ok (.tuple #[.nilIface, .bool false]) w := run_typeAssert_lacksB Tryz.underlying201 (by kernel_rfl) (by kernel_rfl) v xT w
theorem exCall (v : Value) (xT : TypeId) (w : World) : (Instr.typeAssert (.iface 291 v) xT 281 false).run Tryz.prog w = .ok (.iface 291 v) w := by kernel_rfl
theorem stFunc (v : Value) (xT : TypeId) (w : World) : (Instr.typeAssert (.iface 354 v) xT 201 true).run Tryz.prog w = .ok (.tuple #[.nilIface, .bool false]) w := run_typeAssert_lacksB Tryz.underlying201 (by kernel_rfl) (by kernel_rfl) v xT w
theorem exFunc (v : Value) (xT : TypeId) (w : World) : (Instr.typeAssert (.iface 354 v) xT 281 false).run Tryz.prog w = .ok (.iface 354 v) w := by kernel_rfl
theorem stTable (v : Value) (xT : TypeId) (w : World) : (Instr.typeAssert (.iface 398 v) xT 201 true).run Tryz.prog w = .ok (.tuple #[.nilIface, .bool false]) w := run_typeAssert_lacksB Tryz.underlying201 (by kernel_rfl) (by kernel_rfl) v xT w
theorem exTable (v : Value) (xT : TypeId) (w : World) : (Instr.typeAssert (.iface 398 v) xT 281 false).run Tryz.prog w = .ok (.iface 398 v) w := by kernel_rfl
theorem stBinary (v : Value) (xT : TypeId) (w : World) : (Instr.typeAssert (.iface 377 v) xT 201 true).run Tryz.prog w = .ok (.tuple #[.nilIface, .bool false]) w := run_typeAssert_lacksB Tryz.underlying201 (by kernel_rfl) (by kernel_rfl) v xT w
theorem exBinary (v : Value) (xT : TypeId) (w : World) : (Instr.typeAssert (.iface 377 v) xT 281 false).run Tryz.prog w = .ok (.iface 377 v) w := by kernel_rfl
theorem stUnary (v : Value) (xT : TypeId) (w : World) : (Instr.typeAssert (.iface 401 v) xT 201 true).run Tryz.prog w = .ok (.tuple #[.nilIface, .bool false]) w := run_typeAssert_lacksB Tryz.underlying201 (by kernel_rfl) (by kernel_rfl) v xT w
theorem exUnary (v : Value) (xT : TypeId) (w : World) : (Instr.typeAssert (.iface 401 v) xT 281 false).run Tryz.prog w = .ok (.iface 401 v) w := by kernel_rfl
theorem stLocal (v : Value) (xT : TypeId) (w : World) : (Instr.typeAssert (.iface 362 v) xT 201 true).run Tryz.prog w = .ok (.tuple #[.iface 362 v, .bool true]) w := run_typeAssert_hasB Tryz.underlying201 (by kernel_rfl) v xT w
theorem stLocalFn (v : Value) (xT : TypeId) (w : World) : (Instr.typeAssert (.iface 358 v) xT 201 true).run Tryz.prog w = .ok (.tuple #[.iface 358 v, .bool true]) w := run_typeAssert_hasB Tryz.underlying201 (by kernel_rfl) v xT w
theorem stAssign (v : Value) (xT : TypeId) (w : World) : (Instr.typeAssert (.iface 298 v) xT 201 true).run Tryz.prog w = .ok (.tuple #[.iface 298 v, .bool true]) w := run_typeAssert_hasB Tryz.underlying201 (by kernel_rfl) v xT w
theorem stCallStmt (v : Value) (xT : TypeId) (w : World) : (Instr.typeAssert (.iface 293 v) xT 201 true).run Tryz.prog w = .ok (.tuple #[.iface 293 v, .bool true]) w := run_typeAssert_hasB Tryz.underlying201 (by kernel_rfl) v xT w
theorem stIf (v : Value) (xT : TypeId) (w : World) : (Instr.typeAssert (.iface 365 v) xT 201 true).run Tryz.prog w = .ok (.tuple #[.iface 365 v, .bool true]) w := run_typeAssert_hasB Tryz.underlying201 (by kernel_rfl) v xT w
theorem stWhile (v : Value) (xT : TypeId) (w : World) : (Instr.typeAssert (.iface 284 v) xT 201 true).run Tryz.prog w = .ok (.tuple #[.iface 284 v, .bool true]) w := run_typeAssert_hasB Tryz.underlying201 (by kernel_rfl) v xT w
theorem stFor (v : Value) (xT : TypeId) (w : World) : (Instr.typeAssert (.iface 371 v) xT 201 true).run Tryz.prog w = .ok (.tuple #[.iface 371 v, .bool true]) w := run_typeAssert_hasB Tryz.underlying201 (by kernel_rfl) v xT w
theorem stForIn (v : Value) (xT : TypeId) (w : World) : (Instr.typeAssert (.iface 368 v) xT 201 true).run Tryz.prog w = .ok (.tuple #[.iface 368 v, .bool true]) w := run_typeAssert_hasB Tryz.underlying201 (by kernel_rfl) v xT w
theorem stReturn (v : Value) (xT : TypeId) (w : World) : (Instr.typeAssert (.iface 203 v) xT 201 true).run Tryz.prog w = .ok (.tuple #[.iface 203 v, .bool true]) w := run_typeAssert_hasB Tryz.underlying201 (by kernel_rfl) v xT w
theorem stBreak (v : Value) (xT : TypeId) (w : World) : (Instr.typeAssert (.iface 204 v) xT 201 true).run Tryz.prog w = .ok (.tuple #[.iface 204 v, .bool true]) w := run_typeAssert_hasB Tryz.underlying201 (by kernel_rfl) v xT w
theorem asName (v : Value) (xT : TypeId) (w : World) : (Instr.typeAssert (.iface 296 v) xT 296 false).run Tryz.prog w = .ok v w := by kernel_rfl
end Go.Proofs.Qxb6500574aGreatDoor
