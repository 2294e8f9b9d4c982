/-
  moon: THE OUTPUT GROWS BY A TEXT: behind the append and the store of the header. No walk.
-/
import Derived.Test.Qxb6500574aGreatDoorVCoreApp
import Derived.Test.Qxb6500574aGreatDoorVMem2
namespace Go.Proofs.Qxb6500574aGreatDoor
open Go Go.RowKit
set_option linter.unusedVariables false
set_option linter.unusedSimpArgs false
theorem byte_flat : ∀ l : List UInt8, byteCells l = l.flatMap bCells
  | [] => rfl
  | b :: l => by
    have := byte_flat l
    unfold byteCells at this ⊢
    simp [this, bCells]
section
variable {w w1 w2 : World} {o : Nat → Nat} {lab : Nat} {T : TypeId} {k : Nat} {s : Sl} {n : Nat} {xs : List Value}
theorem Row.appS (h : Row w o lab T k s n xs) (hf : Fr (fun _ => False) w w1) {a : Option Addr} {cap n' : Nat} {ys : List Value} (q1 : w2.ownsRow 0 T k (.slice a n' cap) n' ys) (q2 : Fr (fun j => (s.v n).ownBlock = some j) w1 w2) (q3 : ∀ g, (Value.slice a n' cap).ownBlock = some g → (s.v n).ownBlock = some g ∨ w1.heap.size ≤ g) :
    ∃ o', Row w2 o' lab T k ⟨a, cap⟩ n' ys ∧ Stp (fun l => l = lab) w o w2 o' := by
  rcases owns_form q1 with ⟨h1, h2, h3⟩ | ⟨g, h1, h2⟩
  · subst h1
    refine ⟨o, ⟨q1, fun g hg => by simp [Value.ownBlock] at hg⟩, ?_, fun _ _ => rfl, fun x j hj => x j (Nat.le_trans (Nat.le_trans hf.size q2.size) hj)⟩
    exact (hf.weaken (fun _ _ x => x.elim)).trans q2 (fun j _ hj => h.lb j (by rw [ownBlock_any _ _ _ n s.c]; exact hj))
  · subst h1
    have h4 := h.app hf q1 q2 (by
      rcases q3 g rfl with h5 | h5
      · exact .inl h5
      · exact .inr (Nat.le_trans hf.size h5)) (owns_lt q1 g rfl)
    exact ⟨_, h4.1, h4.2⟩
end
section
variable {w w1 w2 : World} {A : VL} {m : VMD} {f e : Nat}
theorem VRep.app_outS (h : VRep w A m f e) (x : Bs) (hf : Fr (fun _ => False) w w1) {a : Option Addr} {cap : Nat}
    (q1 : w2.ownsRow 0 5 1 (.slice a (m.out.length + x.length) cap) (m.out.length + x.length) (m.out.flatMap bCells ++ byteCells x)) (q2 : Fr (fun j => (A.C.out.v m.out.length).ownBlock = some j) w1 w2) (q3 : ∀ g, (Value.slice a (m.out.length + x.length) cap).ownBlock = some g → (A.C.out.v m.out.length).ownBlock = some g ∨ w1.heap.size ≤ g) :
    Has w2 A.b (vmCells A.bn A.bt A.bT A.C m m.ths.length f e) 91 ∧ ∃ o',
    VRep (w2.setCell ⟨A.b, 11, none⟩ (.slice a (m.out.length + x.length) cap)) { A with o := o', C := { A.C with out := ⟨a, cap⟩ } } { m with out := m.out ++ x } f e ∧ VSt (fun k => k = 1 ∨ k = 14) w A (w2.setCell ⟨A.b, 11, none⟩ (.slice a (m.out.length + x.length) cap)) { A with o := o', C := { A.C with out := ⟨a, cap⟩ } } := by
  obtain ⟨o', a1, a2⟩ := h.core.out.appS hf q1 q2 q3
  have hh := h.core.here.st a2 (by omega)
  have s1 : Stp (fun k => k = 1) w2 o' (w2.setCell ⟨A.b, 11, none⟩ (.slice a (m.out.length + x.length) cap)) o' := (Stp.refl _ _ _).setCell (p := ⟨A.b, 11, none⟩) hh.lb _
  have s : Stp (fun k => k = 1 ∨ k = 14) w A.o (w2.setCell ⟨A.b, 11, none⟩ (.slice a (m.out.length + x.length) cap)) o' := (a2.weaken (fun k hk => .inr hk)).trans (s1.weaken (fun k hk => .inl hk))
  have row : Row (w2.setCell ⟨A.b, 11, none⟩ (.slice a (m.out.length + x.length) cap)) o' 14 5 1 ⟨a, cap⟩ (m.out ++ x).length ((m.out ++ x).flatMap bCells) := by
    have := a1.st s1 (by omega)
    rw [byte_flat] at this
    simpa using this
  have hhp := (hh.put 11 (.slice a (m.out.length + x.length) cap) (cs' := vmCells A.bn A.bt A.bT { A.C with out := ⟨a, cap⟩ } { m with out := m.out ++ x } m.ths.length f e) (by simp [vmCells])).1
  have hT := h.setCore (m' := { m with out := m.out ++ x }) (f' := f) (e' := e) (C' := { A.C with out := ⟨a, cap⟩ }) (s.weaken (fun k hk => by unfold isCo; omega)) ⟨hhp, (h.core.protos.st a2 (by omega)).st s1 (by omega), (h.core.descs.st a2 (by omega)).st s1 (by omega), (h.core.consts.st a2 (by omega)).st s1 (by omega), (h.core.code.st a2 (by omega)).st s1 (by omega), (h.core.clos.st a2 (by omega)).st s1 (by omega), (h.core.upix.st a2 (by omega)).st s1 (by omega), (h.core.cells.st a2 (by omega)).st s1 (by omega), row⟩ rfl rfl
  exact ⟨hh.has, o', hT.1, s, rfl, rfl, rfl, rfl, rfl⟩
end
end Go.Proofs.Qxb6500574aGreatDoor
