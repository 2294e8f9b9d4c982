/-
  errors.As by its contracts (after the guide's toyas texts).
-/
import Derived.Test.Qxb6500576aGreatDoorAsErr
import Derived.Test.Qxb6500576aGreatDoorAeErr0
import Derived.Test.Qxb6500576aGreatDoorMem
import Derived.LaidEql
import Derived.Stop.Asserts
import Derived.RowKitTokens
namespace Go.Proofs.Qxb6500576aGreatDoor
open Go Go.RowKit
set_option linter.unusedVariables false
set_option linter.unusedSimpArgs false
open Go.RowKit Go.Extern.Stop Go.Stop Go.Extern

/-- (Value).Set: the *p.E variable at 'ta' gets what the Value's own variable 'b' holds. -/
theorem Ae.set25 (ta b : Addr) (e : Int) (old : Value) (W : World) (hb : W.cell? b = some (.int .i64 e)) (ht : W.cell? ta = some old) (hf : W.frozen? ta = false) :
    (ReflectliteValue.set #[.agg #[.pointer (some ⟨1, 39, none⟩), .pointer (some ta), .int .u64 386], .agg #[.pointer (some ⟨1, 39, none⟩), .pointer (some b), .int .u64 130]]).run Tryz.prog W
      = .ok (.tuple #[]) (W.setCell ta (.int .i64 e)) := by
  obtain ⟨s1, s2, s3, s4, s5, rls⟩ := rls
  rw [rls]
  simp only [Sem.run_bind, Ae.parts25a, Ae.parts25, Result.andThen]
  simp [ReflectliteValue.flagAddr, loadVar, isAgg, underlying, Tryz.underlying39, hb, Result.andThen, Ae.direct25, storeVar, Value.cells, storeCells, Addr.add]
  rw [run_store Tryz.prog W ta _ _ (by rfl)]
  simp [ht, hf]

theorem Ae.noAs (v : Value) (xT : TypeId) (w : World) : (Instr.typeAssert (.iface 60 v) xT 172 true).run Tryz.prog w = .ok (.tuple #[.nilIface, .bool false]) w := run_typeAssert_lacksB Tryz.underlying172 (by kernel_rfl) (by kernel_rfl) v xT w
theorem Ae.hasUnwrap (v : Value) (xT : TypeId) (w : World) : (Instr.typeAssert (.iface 60 v) xT 175 true).run Tryz.prog w = .ok (.tuple #[.iface 60 v, .bool true]) w := run_typeAssert_hasB Tryz.underlying175 (by kernel_rfl) v xT w
set_option maxRecDepth 100000 in
set_option maxHeartbeats 8000000 in
theorem as_chain (be : Nat) (t : Addr) (old : Value) (fno ato e : Int) (w : World) (hg : w.cell? ⟨0, 0, none⟩ = some (.iface 167 (.agg #[.pointer (some ⟨1, 31, none⟩)]))) (ht0 : w.cell? t = some old) (hf0 : w.frozen? t = false)
    (hbe : Has w be #[.int .i64 fno, .int .i64 ato, .iface 39 (.int .i64 e)] 62) :
    Calls Tryz.prog 65 #[.iface 60 (.pointer (some ⟨be, 0, none⟩)), .iface 162 (.pointer (some t))] w fun ev w' => ev = .returned (.bool true) ∧ Fr (fun k => k = t.block) w w' ∧ w'.cell? t = some (.int .i64 e) := by
  have h6 := @run_callFunc_extern Tryz.prog 84 _ (fun args => ReflectliteValue.unpack (args.getD 0 (.tuple #[]))) Tryz.func84 (by kernel_rfl) (by kernel_rfl) (by kernel_rfl) (by kernel_rfl)
  have h7 := @run_callFunc_extern Tryz.prog 85 _ (ReflectliteValue.methodAny (ReflectliteValue.valueError "reflectlite.Value.Type" 0) (fun t _ _ _ => ReflectliteType.toType t)) Tryz.func85 (by kernel_rfl) (by kernel_rfl) (by kernel_rfl) (by kernel_rfl)
  have h8 := @run_callFunc_extern Tryz.prog 86 _ (ReflectliteValue.method (ReflectliteValue.valueError "reflectlite.Value.IsNil" 0) ReflectliteValue.isNil) Tryz.func86 (by kernel_rfl) (by kernel_rfl) (by kernel_rfl) (by kernel_rfl)
  have h27 := @run_callFunc_extern Tryz.prog 110 _ (ReflectliteType.abiMethod fun t => do pure (.int .u8 (← Rtype.kind t))) Tryz.func110 (by kernel_rfl) (by kernel_rfl) (by kernel_rfl) (by kernel_rfl)
  have h37 := @run_callFunc_extern Tryz.prog 121 _ (ReflectliteType.method ReflectliteType.elem) Tryz.func121 (by kernel_rfl) (by kernel_rfl) (by kernel_rfl) (by kernel_rfl)
  have h38 := @run_callFunc_extern Tryz.prog 122 _ (ReflectliteType.relation "Implements" ReflectliteType.implements_) Tryz.func122 (by kernel_rfl) (by kernel_rfl) (by kernel_rfl) (by kernel_rfl)
  have h10 := @run_callFunc_extern Tryz.prog 92 _ ReflectliteType.typeOf Tryz.func92 (by kernel_rfl) (by kernel_rfl) (by kernel_rfl) (by kernel_rfl)
  have h35 := @run_callFunc_extern Tryz.prog 119 _ (ReflectliteType.relation "AssignableTo" ReflectliteType.assignableTo) Tryz.func119 (by kernel_rfl) (by kernel_rfl) (by kernel_rfl) (by kernel_rfl)
  have h11 := @run_callFunc_extern Tryz.prog 93 _ (ReflectliteValue.method (ReflectliteValue.valueError "reflectlite.Value.Elem" 0) ReflectliteValue.elem) Tryz.func93 (by kernel_rfl) (by kernel_rfl) (by kernel_rfl) (by kernel_rfl)
  have h12 := @run_callFunc_extern Tryz.prog 94 _ ReflectliteValue.set Tryz.func94 (by kernel_rfl) (by kernel_rfl) (by kernel_rfl) (by kernel_rfl)
  have tO := Ae.typeOf25
  have mA := As.methodAssignableTo
  have a25 := Ae.assignable25
  have v25 := Ae.valueOf25
  have f6 := Ae.valueOf27
  have f7 := Ae.type27
  have mK := As.methodKind
  have mE := As.methodElem
  have mI := As.methodImplements
  have k27 := Ae.kind27
  have k25 := Ae.kind25
  have e27 := Ae.elem27
  have i25 := Ae.implements25
  have n8 := Ae.isNil27 ⟨w.heap.size, 0, none⟩ t ((w.alloc (.cells #[.pointer (some t)] 162)).alloc (.cells #[.pointer (some ⟨1, 162, none⟩), .pointer (some ⟨w.heap.size, 0, none⟩), .int .u64 150] 153)) (by simp)
  have hlt : 0 < w.heap.size := by
    rcases Nat.eq_zero_or_pos w.heap.size with h0 | h
    · simp [World.cell?, h0] at hg
    · exact h
  have hg2 : ((w.alloc (.cells #[.pointer (some t)] 162)).alloc (.cells #[.pointer (some ⟨1, 162, none⟩), .pointer (some ⟨w.heap.size, 0, none⟩), .int .u64 150] 153)).cell? ⟨0, 0, none⟩ = some (.iface 167 (.agg #[.pointer (some ⟨1, 31, none⟩)])) := by
    rw [World.cell?_alloc_lt _ _ ⟨0, 0, none⟩ (by simp), World.cell?_alloc_lt _ _ ⟨0, 0, none⟩ hlt]; exact hg
  have htl : t.block < w.heap.size := by
    rcases Nat.lt_or_ge t.block w.heap.size with h | h
    · exact h
    · simp [World.cell?, Array.getElem?_eq_none h] at ht0
  have el := Ae.elemV27 ⟨w.heap.size, 0, none⟩ t (((w.alloc (.cells #[.pointer (some t)] 162)).alloc (.cells #[.pointer (some ⟨1, 162, none⟩), .pointer (some ⟨w.heap.size, 0, none⟩), .int .u64 150] 153)).alloc (.cells #[.pointer (some ⟨1, 162, none⟩), .pointer (some ⟨w.heap.size, 0, none⟩), .int .u64 150] 153)) (by rw [World.cell?_alloc_lt _ _ ⟨w.heap.size, 0, none⟩ (by simp; omega)]; simp)
  have st := Ae.set25 t ⟨w.heap.size + 1 + 1 + 1, 0, none⟩ e old ((((w.alloc (.cells #[.pointer (some t)] 162)).alloc (.cells #[.pointer (some ⟨1, 162, none⟩), .pointer (some ⟨w.heap.size, 0, none⟩), .int .u64 150] 153)).alloc (.cells #[.pointer (some ⟨1, 162, none⟩), .pointer (some ⟨w.heap.size, 0, none⟩), .int .u64 150] 153)).alloc (.cells #[.int .i64 e] 39))
    (by rw [World.cell?_alloc_at _ _ _ _ (by simp)]; rfl)
    (by rw [World.cell?_alloc_lt _ _ t (by simp; omega), World.cell?_alloc_lt _ _ t (by simp; omega), World.cell?_alloc_lt _ _ t (by simp; omega), World.cell?_alloc_lt _ _ t htl]; exact ht0)
    (by rw [World.frozen?_alloc_old _ _ t (by simp; omega), World.frozen?_alloc_old _ _ t (by simp; omega), World.frozen?_alloc_old _ _ t (by simp; omega), World.frozen?_alloc_old _ _ t (Nat.ne_of_lt htl)]; exact hf0)
  have tE := As.typeOf25
  have aE := Ae.assignableE
  have mU := Ae.methodUnwrap
  have nA := Ae.noAs
  have hU := Ae.hasUnwrap
  have d2 := hbe.cell 2
  simp at d2
  have hbl := hbe.lt
  have hbl1 : be < w.heap.size + 1 := by omega
  have hbl2 : be < w.heap.size + 1 + 1 := by omega
  have hbl3 : be < w.heap.size + 1 + 1 + 1 := by omega
  go_enter Tryz.func65, Tryz.ntmps65
  go_wp2
  refine wp_loop_rounds 2 ?_
  rw [rounds_succ]
  go_wp2
  rw [rounds_succ]
  go_wp2
  go_ret
  refine ⟨rfl, ?_, ?_⟩
  · refine Fr.setCell (S := fun k => k = t.block) ?_ (.inl rfl) _
    repeat (first | exact Fr.refl _ _ | refine Fr.alloc ?_ _)
  · refine World.cell?_setCell_same' _ _ _ ?_
    rw [World.cell?_alloc_lt _ _ t (by simp; omega), World.cell?_alloc_lt _ _ t (by simp; omega), World.cell?_alloc_lt _ _ t (by simp; omega), World.cell?_alloc_lt _ _ t htl, ht0]; rfl
end Go.Proofs.Qxb6500576aGreatDoor
