/-
  runm.step: more that its walks lean on: the array of operands; an index among reads. No walk.
-/
import Derived.Test.Qxb6500575aGreatDoorYStep0
import Derived.Test.Qxb6500575aGreatDoorReg5
namespace Go.Proofs.Qxb6500575aGreatDoor
open Go Go.RowKit
set_option linter.unusedVariables false
set_option linter.unusedSimpArgs false

section
variable {ops : Array Oper} {S : World → Prop}
theorem wpChain_cons {P : Program} {Q : Exit → Act → World → Prop} (o : Oper) (l : List Oper) (c : Nat) (a : Act) (w : World) : wpChain P ops Q S (o :: l) (c + 1) a w = wpList P ops (Exit.then (fun a' w' => S w' ∧ wpChain P ops Q S l c a' w') Q) [o] a w := rfl
theorem wpQ_indexVal {T : Act → Prop} {o : Oper} {l : List Oper} {a : Act} (hg : o.guard = none) (x i : Operand) (g len cap j : Nat) (ho : o.op = .indexAddr 37 x i) (hx : a.eval x = .slice (some ⟨g, 0, none⟩) len cap) (hi : a.eval i = .int .i64 j) (hj : j < len) (h : wpQuiet Tryz.prog ops S T l (a.put o.dst (.pointer (some ⟨g, j * 2, none⟩)))) : wpQuiet Tryz.prog ops S T (o :: l) a := by
  refine wpQ_pure hg _ (fun w => ?_) h
  have h1 := run_indexAt_slice (P := Tryz.prog) (w := w) 37 ⟨g, 0, none⟩ len cap .i64 j (by kernel_rfl)
  have h2 : ((sizeOf (Tryz.prog.elem 37)).run Tryz.prog w) = .ok 2 w := by kernel_rfl
  rw [if_pos ⟨by omega, by omega⟩, h2] at h1
  have h3 : (Instr.indexAt 37 (.slice (some ⟨g, 0, none⟩) len cap) (.int .i64 j)).run Tryz.prog w = .ok (.pointer (some ⟨g, j * 2, none⟩)) w := by
    rw [h1]
    simp [Addr.add]
    omega
  simp [execOp, ho, hx, hi, Sem.run_bind, h3]
end
/-- the operands' array, behind the copy -/
def aCells (args : List V) : List Value := stCells args ++ ([.int .u8 0, .int .i64 0, .int .u8 0, .int .i64 0] : List Value).drop (args.length * 2)
theorem ycopyA {w : World} {ba : Nat} (hb : Has w ba #[.int .u8 0, .int .i64 0, .int .u8 0, .int .i64 0] 70) {args : List V} {ga : Option Addr} {gc : Nat} (ho : w.ownsRow 0 70 2 (.slice ga args.length gc) args.length (stCells args)) (hl : args.length ≤ 2) :
    ∃ w', (Builtin.copy_ #[37, 37] 3 #[.slice (some ⟨ba, 0, none⟩) 2 2, .slice ga args.length gc]).run Tryz.prog w = .ok (.int .i64 args.length) w' ∧ Fr (fun k => k = ba) w w' ∧ Has w' ba (aCells args).toArray 70 := by
  have hh : w.heap[ba]? = some (.cells #[.int .u8 0, .int .i64 0, .int .u8 0, .int .i64 0] 70 (0, 0)) := hb
  cases hn : args with
  | nil =>
    subst hn
    refine ⟨w, ?_, Fr.refl _ _, ?_⟩
    · exact run_copy_zero w _ _ _ 70 2 _ _ _ _ _ _ (by kernel_rfl) (by kernel_rfl) (by simp)
    · have e : aCells [] = [.int .u8 0, .int .i64 0, .int .u8 0, .int .i64 0] := by simp [aCells, stCells, bvCells]
      rw [e]
      exact hb
  | cons v r =>
    obtain ⟨gs, hga, hcell⟩ := owns_some ho (by rw [hn]; simp)
    rw [← hn, hga]
    refine ⟨w.setRow ba (([.int .u8 0, .int .i64 0, .int .u8 0, .int .i64 0] : List Value).take 0 ++ stCells args ++ ([.int .u8 0, .int .i64 0, .int .u8 0, .int .i64 0] : List Value).drop (0 + args.length * 2)).toArray, ?_, ⟨rfl, rfl, rfl, by simp [World.setRow], fun j _ hj => setRow_other _ ba j _ hj⟩, ?_⟩
    · refine run_copy_size w _ _ _ 70 2 (by kernel_rfl) (by kernel_rfl) ba 0 2 2 gs 0 args.length gc #[.int .u8 0, .int .i64 0, .int .u8 0, .int .i64 0] 70 hh (stCells args) args.length (by omega) (stCells_len args) (fun j v hj => ?_) (stCells_one args) (by simp; omega)
      have hjl : j < args.length * 2 := by rw [← stCells_len]; exact (List.getElem?_eq_some_iff.1 hj).1
      rw [Nat.zero_add, hcell j hjl]
      exact hj
    · have := setRow_heap w ba #[.int .u8 0, .int .i64 0, .int .u8 0, .int .i64 0] (([.int .u8 0, .int .i64 0, .int .u8 0, .int .i64 0] : List Value).take 0 ++ stCells args ++ ([.int .u8 0, .int .i64 0, .int .u8 0, .int .i64 0] : List Value).drop (0 + args.length * 2)).toArray 70 _ hh
      simp only [List.take_zero, List.nil_append, Nat.zero_add] at this
      simp only [List.take_zero, List.nil_append, Nat.zero_add]
      exact this
section
variable {R : MP} {m : MS} {w w0 w1 : World} {L L0 : NL} {K K0 : ML} {lv : Value} {loc : List V} {bx : Nat} {c : Ins}
/-- the array of operands is made -/
theorem StW.array (h : StW R lv loc w0 w L0 L K0 K m bx c) (o : Array Value) : StW R lv loc w0 (w.alloc (.cells o 70)) L0 L K0 K m bx c ∧ Has (w.alloc (.cells o 70)) w.heap.size o 70 ∧ (w0.heap.size ≤ w.heap.size ∧ ¬ NS R.bn L w.heap.size ∧ ¬ MKS R.bm K w.heap.size ∧ lv.ownBlock ≠ some w.heap.size ∧ bx ≠ w.heap.size) := by
  refine ⟨h.fresh ((Fr.refl _ _).alloc _), Has.new _ _ _, h.step.fr.size, fun e => ?_, fun e => ?_, fun e => ?_, fun e => ?_⟩
  · have := h.mw.inst.lt e; omega
  · obtain ⟨cs, t, h1, _⟩ := h.mw.mem.typed _ e
    have := h1.lt; omega
  · have := owns_lt h.loc.own _ e; omega
  · have := h.box.lt; omega
theorem owns_len {n k cap : Nat} {a : Option Addr} {xs : List Value} {e : TypeId} {s : Nat} (h : w.ownsRow 0 e s (.slice a n cap) k xs) : n = k := by
  rcases h.2 with ⟨h0, h1⟩ | ⟨g, cp, cur, hv, _⟩
  · simp at h0; omega
  · simp at hv; exact hv.2.1
theorem loc_some {la : Option Addr} {ln lc : Nat} (h : LocAt R w L (.slice la ln lc) loc) (hn : 0 < loc.length) : ∃ gv, la = some ⟨gv, 0, none⟩ := by
  have ho := h.own
  rw [owns_len ho] at ho
  obtain ⟨g, h, _⟩ := owns_some ho hn
  exact ⟨g, h⟩
theorem loc_cells (h : LocAt R w L lv loc) {j : Nat} {v : V} (hv : loc.reverse[j]? = some v) {g ln lc : Nat} (hlv : lv = .slice (some ⟨g, 0, none⟩) ln lc) : w.cell? ⟨g, j * 2, none⟩ = some (.int .u8 v.ty.toNat) ∧ w.cell? ⟨g, j * 2 + 1, none⟩ = some (.int .i64 v.num) ∧ g < w.heap.size ∧ ln = loc.length ∧ j < ln := by
  have ho := h.own
  rw [hlv] at ho
  have hj : j < loc.length := by have := (List.getElem?_eq_some_iff.1 hv).1; simpa using this
  have hb := bvCells_at (loc.reverse.map V.bv) j v.bv (by rw [List.getElem?_map, hv]; rfl)
  have hl := owns_len ho
  rw [hl] at ho
  refine ⟨?_, ?_, owns_lt ho g rfl, hl, by omega⟩
  · have c0 := ho.cellAt (j * 2) (show j * 2 < loc.length * 2 by omega)
    rw [c0]; exact hb.1
  · have c0 := ho.cellAt (j * 2 + 1) (show j * 2 + 1 < loc.length * 2 by omega)
    rw [c0]; exact hb.2
end
end Go.Proofs.Qxb6500575aGreatDoor
