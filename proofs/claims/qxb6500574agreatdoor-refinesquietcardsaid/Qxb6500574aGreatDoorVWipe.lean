/-
  THE WALK of vm: wipe.
-/
import Derived.Test.Qxb6500574aGreatDoorVSpawn
namespace Go.Proofs.Qxb6500574aGreatDoor
open Go Go.RowKit
set_option linter.unusedVariables false
set_option linter.unusedSimpArgs false

def wipeM (m : VMD) : VMD := { m with protos := [], descs := [], consts := [], code := [], clos := [], upix := [], cells := [], ths := [] }
section
variable {w : World} {A : VL} {m : VMD} {f e i : Nat}
abbrev wpW (w : World) (b bT : Nat) (C : CoL) (e : Nat) : World := ((((((((w.setCell ⟨b, 2, none⟩ (.slice C.protos.a 0 C.protos.c)).setCell ⟨b, 3, none⟩ (.slice C.descs.a 0 C.descs.c)).setCell ⟨b, 4, none⟩ (.slice C.consts.a 0 C.consts.c)).setCell ⟨b, 5, none⟩ (.slice C.code.a 0 C.code.c)).setCell ⟨b, 6, none⟩ (.slice C.clos.a 0 C.clos.c)).setCell ⟨b, 7, none⟩ (.slice C.upix.a 0 C.upix.c)).setCell ⟨b, 8, none⟩ (.slice C.cells.a 0 C.cells.c)).setCell ⟨b, 9, none⟩ (.slice (some ⟨bT, 0, none⟩) 0 5)).setCell ⟨b, 12, none⟩ (.int .i64 e)
theorem VRep.wiped (h : VRep w A m f e) (e' : Nat) :
    VRep (wpW w A.b A.bT A.C e') { A with X := [], Z := m.ths.zip A.X ++ A.Z } (wipeM m) f e' ∧ VSt isCo w A (wpW w A.b A.bT A.C e') { A with X := [], Z := m.ths.zip A.X ++ A.Z } := by
  have hlb := h.core.here.lb
  have k : ∀ {w1 w2 : World} {j : Nat} {u : Value}, Stp (fun l => l = 1) w1 A.o w2 A.o → Stp (fun l => l = 1) w1 A.o (w2.setCell ⟨A.b, j, none⟩ u) A.o := fun s => s.setCell (p := ⟨A.b, _, none⟩) hlb _
  have s1 : Stp (fun k => k = 1) w A.o (wpW w A.b A.bT A.C e') A.o := k (k (k (k (k (k (k (k (k (Stp.refl _ _ _)))))))))
  have hq : Has (wpW w A.b A.bT A.C e') A.b (vmCells A.bn A.bt A.bT A.C (wipeM m) 0 f e') 91 := by
    have h0 := h.core.here.has
    have := (((((((h0.put 2 (.slice A.C.protos.a 0 A.C.protos.c)).put 3 (.slice A.C.descs.a 0 A.C.descs.c)).put 4 (.slice A.C.consts.a 0 A.C.consts.c)).put 5 (.slice A.C.code.a 0 A.C.code.c)).put 6 (.slice A.C.clos.a 0 A.C.clos.c)).put 7 (.slice A.C.upix.a 0 A.C.upix.c)).put 8 (.slice A.C.cells.a 0 A.C.cells.c)).put 9 (.slice (some ⟨A.bT, 0, none⟩) 0 5) |>.put 12 (.int .i64 e')
    simpa [vmCells, wipeM] using this
  have hX := h.lenX
  have h5 := h.len5
  obtain ⟨kk, hk, ht⟩ := h.tabs
  have cut0 : ∀ {lab : Nat} {T : TypeId} {k : Nat} {sl : Sl} {n : Nat} {xs : List Value}, Row w A.o lab T k sl n xs → lab ≠ 1 → Row (wpW w A.b A.bT A.C e') A.o lab T k sl 0 [] := fun r hl => (r.take 0 (Nat.zero_le _) (ys := []) (by simp)).st s1 hl
  refine ⟨⟨⟨⟨hq, hlb⟩, cut0 h.core.protos (by omega), cut0 h.core.descs (by omega), cut0 h.core.consts (by omega), cut0 h.core.code (by omega), cut0 h.core.clos (by omega), cut0 h.core.upix (by omega), cut0 h.core.cells (by omega), h.core.out.st s1 (by omega)⟩, ?_, rfl, ?_, h.num.st s1 (by omega) (by omega), ⟨kk, hk, ht.st s1 (fun l hl hq => by rcases hl with hl | hl | hl <;> omega)⟩, s1.hi h.own⟩, s1.weaken (fun k hk => .inl hk), rfl, rfl, rfl, rfl, rfl⟩
  · have := h.ths.st s1 (by simp [hX]; omega) (fun l hl hq => by rcases hl with hl | hl <;> omega)
    simpa [wipeM] using this
  · simp [wipeM, hX]
    omega
set_option maxRecDepth 100000
set_option maxHeartbeats 1000000
theorem wipe_any (h : VRep w A m f e) (e' : Nat) :
    Calls Tryz.prog 78 #[.pointer (some ⟨A.b, 0, none⟩), .int .i64 e'] w fun ed w' => ed = .returned (.tuple #[]) ∧ ∃ A', VRep w' A' (wipeM m) f e' ∧ VSt isCo w A w' A' := by
  have FIN : Hid (_ ∧ _) := h.wiped e'
  have c2 := h.cell0 2
  have c3 := h.cell0 3
  have c4 := h.cell0 4
  have c5 := h.cell0 5
  have c6 := h.cell0 6
  have c7 := h.cell0 7
  have c8 := h.cell0 8
  have c9 := h.cell0 9
  have c12 := h.cell0 12
  simp only [vmCells, List.getElem?_toArray, List.getElem?_cons_succ, List.getElem?_cons_zero, Sl.v] at c2 c3 c4 c5 c6 c7 c8 c9 c12
  have z := h.core.here.has.frozen
  have z2 := z 2
  have z3 := z 3
  have z4 := z 4
  have z5 := z 5
  have z6 := z 6
  have z7 := z 7
  have z8 := z 8
  have z9 := z 9
  have z12 := z 12
  have hb := h.bl
  obtain ⟨PP, HPP⟩ : ∃ P : World → Prop, Hid ((fun w' => ∃ A', VRep w' A' (wipeM m) f e' ∧ VSt isCo w A w' A') = P) := ⟨_, rfl⟩
  rw [show (fun (ed : Ending) (w' : World) => ed = .returned (.tuple #[]) ∧ ∃ A', VRep w' A' (wipeM m) f e' ∧ VSt isCo w A w' A') = fun ed w' => ed = .returned (.tuple #[]) ∧ PP w' from by rw [← HPP.out]]
  have FIN2 : Hid (PP (wpW w A.b A.bT A.C e')) := by rw [← HPP.out]; exact ⟨_, FIN.out.1, FIN.out.2⟩
  clear h z FIN HPP
  go_enter Tryz.func78, Tryz.ntmps78
  go_wp2_with fail
  go_end0
  exact ⟨rfl, FIN2.out⟩
end
end Go.Proofs.Qxb6500574aGreatDoor
