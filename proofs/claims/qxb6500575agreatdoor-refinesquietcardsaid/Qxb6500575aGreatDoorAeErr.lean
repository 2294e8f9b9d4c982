/-
  errors.As by its contracts (after the guide's toyas texts).
-/
import Derived.Test.Qxb6500575aGreatDoorAs0
import Derived.Test.Qxb6500575aGreatDoorAeErr0
import Derived.Test.Qxb6500575aGreatDoorMem
import Derived.LaidEql
import Derived.Stop.Asserts
import Derived.RowKitTokens
namespace Go.Proofs.Qxb6500575aGreatDoor
open Go Go.RowKit
set_option linter.unusedVariables false
set_option linter.unusedSimpArgs false
open Go.RowKit Go.Extern.Stop Go.Stop Go.Extern

/-- (Value).Set: the *p.E variable at 'ta' gets what the Value's own variable 'b' holds. -/
theorem Ae.set25 (ta b : Addr) (e : Int) (old : Value) (W : World) (hb : W.cell? b = some (.int .i64 e)) (ht : W.cell? ta = some old) (hf : W.frozen? ta = false) :
    (ReflectliteValue.set #[.agg #[.pointer (some ⟨1, 40, none⟩), .pointer (some ta), .int .u64 386], .agg #[.pointer (some ⟨1, 40, none⟩), .pointer (some b), .int .u64 130]]).run Tryz.prog W
      = .ok (.tuple #[]) (W.setCell ta (.int .i64 e)) := by
  obtain ⟨s1, s2, s3, s4, s5, rls⟩ := rls
  rw [rls]
  simp only [Sem.run_bind, Ae.parts25a, Ae.parts25, Result.andThen]
  simp [ReflectliteValue.flagAddr, loadVar, isAgg, underlying, Tryz.underlying40, hb, Result.andThen, Ae.direct25, storeVar, Value.cells, storeCells, Addr.add]
  rw [run_store Tryz.prog W ta _ _ (by rfl)]
  simp [ht, hf]

theorem Ae.noAs (v : Value) (xT : TypeId) (w : World) : (Instr.typeAssert (.iface 140 v) xT 240 true).run Tryz.prog w = .ok (.tuple #[.nilIface, .bool false]) w := run_typeAssert_lacksB Tryz.underlying240 (by kernel_rfl) (by kernel_rfl) v xT w
theorem Ae.hasUnwrap (v : Value) (xT : TypeId) (w : World) : (Instr.typeAssert (.iface 140 v) xT 243 true).run Tryz.prog w = .ok (.tuple #[.iface 140 v, .bool true]) w := run_typeAssert_hasB Tryz.underlying243 (by kernel_rfl) v xT w
set_option maxRecDepth 100000 in
set_option maxHeartbeats 8000000 in
theorem as_chain (be : Nat) (t : Addr) (old : Value) (fno ato e : Int) (w : World) (hg : w.cell? ⟨0, 0, none⟩ = some (.iface 235 (.agg #[.pointer (some ⟨1, 74, none⟩)]))) (ht0 : w.cell? t = some old) (hf0 : w.frozen? t = false)
    (hbe : Has w be #[.int .i64 fno, .int .i64 ato, .iface 40 (.int .i64 e)] 142) :
    Calls Tryz.prog 60 #[.iface 140 (.pointer (some ⟨be, 0, none⟩)), .iface 144 (.pointer (some t))] w fun ev w' => ev = .returned (.bool true) ∧ Fr (fun k => k = t.block) w w' ∧ w'.cell? t = some (.int .i64 e) := by
  have h6 := @run_callFunc_extern Tryz.prog 89 _ (fun args => ReflectliteValue.unpack (args.getD 0 (.tuple #[]))) Tryz.func89 (by kernel_rfl) (by kernel_rfl) (by kernel_rfl) (by kernel_rfl)
  have h7 := @run_callFunc_extern Tryz.prog 90 _ (ReflectliteValue.methodAny (ReflectliteValue.valueError "reflectlite.Value.Type" 0) (fun t _ _ _ => ReflectliteType.toType t)) Tryz.func90 (by kernel_rfl) (by kernel_rfl) (by kernel_rfl) (by kernel_rfl)
  have h8 := @run_callFunc_extern Tryz.prog 91 _ (ReflectliteValue.method (ReflectliteValue.valueError "reflectlite.Value.IsNil" 0) ReflectliteValue.isNil) Tryz.func91 (by kernel_rfl) (by kernel_rfl) (by kernel_rfl) (by kernel_rfl)
  have h27 := @run_callFunc_extern Tryz.prog 173 _ (ReflectliteType.abiMethod fun t => do pure (.int .u8 (← Rtype.kind t))) Tryz.func173 (by kernel_rfl) (by kernel_rfl) (by kernel_rfl) (by kernel_rfl)
  have h37 := @run_callFunc_extern Tryz.prog 191 _ (ReflectliteType.method ReflectliteType.elem) Tryz.func191 (by kernel_rfl) (by kernel_rfl) (by kernel_rfl) (by kernel_rfl)
  have h38 := @run_callFunc_extern Tryz.prog 192 _ (ReflectliteType.relation "Implements" ReflectliteType.implements_) Tryz.func192 (by kernel_rfl) (by kernel_rfl) (by kernel_rfl) (by kernel_rfl)
  have h10 := @run_callFunc_extern Tryz.prog 126 _ ReflectliteType.typeOf Tryz.func126 (by kernel_rfl) (by kernel_rfl) (by kernel_rfl) (by kernel_rfl)
  have h35 := @run_callFunc_extern Tryz.prog 189 _ (ReflectliteType.relation "AssignableTo" ReflectliteType.assignableTo) Tryz.func189 (by kernel_rfl) (by kernel_rfl) (by kernel_rfl) (by kernel_rfl)
  have h11 := @run_callFunc_extern Tryz.prog 127 _ (ReflectliteValue.method (ReflectliteValue.valueError "reflectlite.Value.Elem" 0) ReflectliteValue.elem) Tryz.func127 (by kernel_rfl) (by kernel_rfl) (by kernel_rfl) (by kernel_rfl)
  have h12 := @run_callFunc_extern Tryz.prog 128 _ ReflectliteValue.set Tryz.func128 (by kernel_rfl) (by kernel_rfl) (by kernel_rfl) (by kernel_rfl)
  have tO := Ae.typeOf25
  have mA := As.methodAssignableTo
  have a25 := Ae.assignable25
  have v25 := Ae.valueOf25
  have f6 := Ae.valueOf27
  have f7 := Ae.type27
  have mK := As.methodKind
  have mE := As.methodElem
  have mI := As.methodImplements
  have k27 := Ae.kind27
  have k25 := Ae.kind25
  have e27 := Ae.elem27
  have i25 := Ae.implements25
  have n8 := Ae.isNil27 ⟨w.heap.size, 0, none⟩ t ((w.alloc (.cells #[.pointer (some t)] 144)).alloc (.cells #[.pointer (some ⟨1, 144, none⟩), .pointer (some ⟨w.heap.size, 0, none⟩), .int .u64 150] 199)) (by simp)
  have hlt : 0 < w.heap.size := by
    rcases Nat.eq_zero_or_pos w.heap.size with h0 | h
    · simp [World.cell?, h0] at hg
    · exact h
  have hg2 : ((w.alloc (.cells #[.pointer (some t)] 144)).alloc (.cells #[.pointer (some ⟨1, 144, none⟩), .pointer (some ⟨w.heap.size, 0, none⟩), .int .u64 150] 199)).cell? ⟨0, 0, none⟩ = some (.iface 235 (.agg #[.pointer (some ⟨1, 74, none⟩)])) := by
    rw [World.cell?_alloc_lt _ _ ⟨0, 0, none⟩ (by simp), World.cell?_alloc_lt _ _ ⟨0, 0, none⟩ hlt]; exact hg
  have htl : t.block < w.heap.size := by
    rcases Nat.lt_or_ge t.block w.heap.size with h | h
    · exact h
    · simp [World.cell?, Array.getElem?_eq_none h] at ht0
  have el := Ae.elemV27 ⟨w.heap.size, 0, none⟩ t (((w.alloc (.cells #[.pointer (some t)] 144)).alloc (.cells #[.pointer (some ⟨1, 144, none⟩), .pointer (some ⟨w.heap.size, 0, none⟩), .int .u64 150] 199)).alloc (.cells #[.pointer (some ⟨1, 144, none⟩), .pointer (some ⟨w.heap.size, 0, none⟩), .int .u64 150] 199)) (by rw [World.cell?_alloc_lt _ _ ⟨w.heap.size, 0, none⟩ (by simp; omega)]; simp)
  have st := Ae.set25 t ⟨w.heap.size + 1 + 1 + 1, 0, none⟩ e old ((((w.alloc (.cells #[.pointer (some t)] 144)).alloc (.cells #[.pointer (some ⟨1, 144, none⟩), .pointer (some ⟨w.heap.size, 0, none⟩), .int .u64 150] 199)).alloc (.cells #[.pointer (some ⟨1, 144, none⟩), .pointer (some ⟨w.heap.size, 0, none⟩), .int .u64 150] 199)).alloc (.cells #[.int .i64 e] 40))
    (by rw [World.cell?_alloc_at _ _ _ _ (by simp)]; rfl)
    (by rw [World.cell?_alloc_lt _ _ t (by simp; omega), World.cell?_alloc_lt _ _ t (by simp; omega), World.cell?_alloc_lt _ _ t (by simp; omega), World.cell?_alloc_lt _ _ t htl]; exact ht0)
    (by rw [World.frozen?_alloc_old _ _ t (by simp; omega), World.frozen?_alloc_old _ _ t (by simp; omega), World.frozen?_alloc_old _ _ t (by simp; omega), World.frozen?_alloc_old _ _ t (Nat.ne_of_lt htl)]; exact hf0)
  have tE := As.typeOf25
  have aE := Ae.assignableE
  have mU := Ae.methodUnwrap
  have nA := Ae.noAs
  have hU := Ae.hasUnwrap
  have d2 := hbe.cell 2
  simp at d2
  have hbl := hbe.lt
  have hbl1 : be < w.heap.size + 1 := by omega
  have hbl2 : be < w.heap.size + 1 + 1 := by omega
  have hbl3 : be < w.heap.size + 1 + 1 + 1 := by omega
  go_enter Tryz.func60, Tryz.ntmps60
  go_wp2
  refine wp_loop_rounds 2 ?_
  rw [rounds_succ]
  go_wp2
  rw [rounds_succ]
  go_wp2
  go_ret
  refine ⟨rfl, ?_, ?_⟩
  · refine Fr.setCell (S := fun k => k = t.block) ?_ (.inl rfl) _
    repeat (first | exact Fr.refl _ _ | refine Fr.alloc ?_ _)
  · refine World.cell?_setCell_same' _ _ _ ?_
    rw [World.cell?_alloc_lt _ _ t (by simp; omega), World.cell?_alloc_lt _ _ t (by simp; omega), World.cell?_alloc_lt _ _ t (by simp; omega), World.cell?_alloc_lt _ _ t htl, ht0]; rfl
end Go.Proofs.Qxb6500575aGreatDoor
