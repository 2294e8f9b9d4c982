/-
  moon: AN ARENA OF THE MACHINE GROWS: behind the append and the store of the header. No walk. Written by tools/gen_coreapp.py.
-/
import Derived.Test.Qxb6500574aGreatDoorVWipe
namespace Go.Proofs.Qxb6500574aGreatDoor
open Go Go.RowKit
set_option linter.unusedVariables false
set_option linter.unusedSimpArgs false
section
variable {w w1 w2 : World} {A : VL} {m : VMD} {f e : Nat}
theorem row_protos : IsRow Tryz.prog 83 254 (.agg #[.int .i64 0, .int .i64 0, .int .i64 0, .int .i64 0, .int .i64 0, .int .i64 0, .int .i64 0, .int .i64 0]) 8 64 := ⟨by kernel_rfl, by kernel_rfl, rfl, by decide⟩
theorem pCells_oneC (x : PrD) : ∀ u ∈ pCells x, u.oneCell' = true := by
  intro u hu
  simp [pCells] at hu
  rcases hu with h | h | h | h | h | h | h | h <;> subst h <;> rfl
theorem VRep.app_protos (h : VRep w A m f e) (x : PrD) (hf : Fr (fun _ => False) w w1) {g cap : Nat}
    (q1 : w2.ownsRow 0 254 8 (.slice (some ⟨g, 0, none⟩) (m.protos.length + 1) cap) (m.protos.length + 1) (m.protos.flatMap pCells ++ pCells x)) (q2 : Fr (fun j => (A.C.protos.v m.protos.length).ownBlock = some j) w1 w2) (q3 : (A.C.protos.v m.protos.length).ownBlock = some g ∨ w.heap.size ≤ g) (q4 : g < w2.heap.size) :
    Has w2 A.b (vmCells A.bn A.bt A.bT A.C m m.ths.length f e) 91 ∧
    VRep (w2.setCell ⟨A.b, 2, none⟩ (.slice (some ⟨g, 0, none⟩) (m.protos.length + 1) cap)) { A with o := upd A.o g 6, C := { A.C with protos := ⟨some ⟨g, 0, none⟩, cap⟩ } } { m with protos := m.protos ++ [x] } f e ∧ VSt (fun k => k = 1 ∨ k = 6) w A (w2.setCell ⟨A.b, 2, none⟩ (.slice (some ⟨g, 0, none⟩) (m.protos.length + 1) cap)) { A with o := upd A.o g 6, C := { A.C with protos := ⟨some ⟨g, 0, none⟩, cap⟩ } } := by
  obtain ⟨a1, a2⟩ := h.core.protos.app hf q1 q2 q3 q4
  have hh := h.core.here.st a2 (by omega)
  have s1 : Stp (fun k => k = 1) w2 (upd A.o g 6) (w2.setCell ⟨A.b, 2, none⟩ (.slice (some ⟨g, 0, none⟩) (m.protos.length + 1) cap)) (upd A.o g 6) := (Stp.refl _ _ _).setCell (p := ⟨A.b, 2, none⟩) hh.lb _
  have s : Stp (fun k => k = 1 ∨ k = 6) w A.o (w2.setCell ⟨A.b, 2, none⟩ (.slice (some ⟨g, 0, none⟩) (m.protos.length + 1) cap)) (upd A.o g 6) := (a2.weaken (fun k hk => .inr hk)).trans (s1.weaken (fun k hk => .inl hk))
  have row : Row (w2.setCell ⟨A.b, 2, none⟩ (.slice (some ⟨g, 0, none⟩) (m.protos.length + 1) cap)) (upd A.o g 6) 6 254 8 ⟨some ⟨g, 0, none⟩, cap⟩ (m.protos ++ [x]).length ((m.protos ++ [x]).flatMap pCells) := by
    have := a1.st s1 (by omega)
    simpa using this
  have hhp := (hh.put 2 (.slice (some ⟨g, 0, none⟩) (m.protos.length + 1) cap) (cs' := vmCells A.bn A.bt A.bT { A.C with protos := ⟨some ⟨g, 0, none⟩, cap⟩ } { m with protos := m.protos ++ [x] } m.ths.length f e) (by simp [vmCells])).1
  have hT := h.setCore (m' := { m with protos := m.protos ++ [x] }) (f' := f) (e' := e) (C' := { A.C with protos := ⟨some ⟨g, 0, none⟩, cap⟩ }) (s.weaken (fun k hk => by unfold isCo; omega)) ⟨hhp, row, (h.core.descs.st a2 (by omega)).st s1 (by omega), (h.core.consts.st a2 (by omega)).st s1 (by omega), (h.core.code.st a2 (by omega)).st s1 (by omega), (h.core.clos.st a2 (by omega)).st s1 (by omega), (h.core.upix.st a2 (by omega)).st s1 (by omega), (h.core.cells.st a2 (by omega)).st s1 (by omega), (h.core.out.st a2 (by omega)).st s1 (by omega)⟩ rfl rfl
  exact ⟨hh.has, hT.1, s, rfl, rfl, rfl, rfl, rfl⟩
theorem row_descs : IsRow Tryz.prog 84 326 (.agg #[.int .u8 0, .int .u8 0]) 2 2 := ⟨by kernel_rfl, by kernel_rfl, rfl, by decide⟩
theorem dCells_oneC (x : (Nat × Nat)) : ∀ u ∈ dCells x, u.oneCell' = true := by
  intro u hu
  simp [dCells] at hu
  rcases hu with h | h <;> subst h <;> rfl
theorem VRep.app_descs (h : VRep w A m f e) (x : (Nat × Nat)) (hf : Fr (fun _ => False) w w1) {g cap : Nat}
    (q1 : w2.ownsRow 0 326 2 (.slice (some ⟨g, 0, none⟩) (m.descs.length + 1) cap) (m.descs.length + 1) (m.descs.flatMap dCells ++ dCells x)) (q2 : Fr (fun j => (A.C.descs.v m.descs.length).ownBlock = some j) w1 w2) (q3 : (A.C.descs.v m.descs.length).ownBlock = some g ∨ w.heap.size ≤ g) (q4 : g < w2.heap.size) :
    Has w2 A.b (vmCells A.bn A.bt A.bT A.C m m.ths.length f e) 91 ∧
    VRep (w2.setCell ⟨A.b, 3, none⟩ (.slice (some ⟨g, 0, none⟩) (m.descs.length + 1) cap)) { A with o := upd A.o g 7, C := { A.C with descs := ⟨some ⟨g, 0, none⟩, cap⟩ } } { m with descs := m.descs ++ [x] } f e ∧ VSt (fun k => k = 1 ∨ k = 7) w A (w2.setCell ⟨A.b, 3, none⟩ (.slice (some ⟨g, 0, none⟩) (m.descs.length + 1) cap)) { A with o := upd A.o g 7, C := { A.C with descs := ⟨some ⟨g, 0, none⟩, cap⟩ } } := by
  obtain ⟨a1, a2⟩ := h.core.descs.app hf q1 q2 q3 q4
  have hh := h.core.here.st a2 (by omega)
  have s1 : Stp (fun k => k = 1) w2 (upd A.o g 7) (w2.setCell ⟨A.b, 3, none⟩ (.slice (some ⟨g, 0, none⟩) (m.descs.length + 1) cap)) (upd A.o g 7) := (Stp.refl _ _ _).setCell (p := ⟨A.b, 3, none⟩) hh.lb _
  have s : Stp (fun k => k = 1 ∨ k = 7) w A.o (w2.setCell ⟨A.b, 3, none⟩ (.slice (some ⟨g, 0, none⟩) (m.descs.length + 1) cap)) (upd A.o g 7) := (a2.weaken (fun k hk => .inr hk)).trans (s1.weaken (fun k hk => .inl hk))
  have row : Row (w2.setCell ⟨A.b, 3, none⟩ (.slice (some ⟨g, 0, none⟩) (m.descs.length + 1) cap)) (upd A.o g 7) 7 326 2 ⟨some ⟨g, 0, none⟩, cap⟩ (m.descs ++ [x]).length ((m.descs ++ [x]).flatMap dCells) := by
    have := a1.st s1 (by omega)
    simpa using this
  have hhp := (hh.put 3 (.slice (some ⟨g, 0, none⟩) (m.descs.length + 1) cap) (cs' := vmCells A.bn A.bt A.bT { A.C with descs := ⟨some ⟨g, 0, none⟩, cap⟩ } { m with descs := m.descs ++ [x] } m.ths.length f e) (by simp [vmCells])).1
  have hT := h.setCore (m' := { m with descs := m.descs ++ [x] }) (f' := f) (e' := e) (C' := { A.C with descs := ⟨some ⟨g, 0, none⟩, cap⟩ }) (s.weaken (fun k hk => by unfold isCo; omega)) ⟨hhp, (h.core.protos.st a2 (by omega)).st s1 (by omega), row, (h.core.consts.st a2 (by omega)).st s1 (by omega), (h.core.code.st a2 (by omega)).st s1 (by omega), (h.core.clos.st a2 (by omega)).st s1 (by omega), (h.core.upix.st a2 (by omega)).st s1 (by omega), (h.core.cells.st a2 (by omega)).st s1 (by omega), (h.core.out.st a2 (by omega)).st s1 (by omega)⟩ rfl rfl
  exact ⟨hh.has, hT.1, s, rfl, rfl, rfl, rfl, rfl⟩
theorem vCells_oneC (x : Vl) : ∀ u ∈ vCells x, u.oneCell' = true := by
  intro u hu
  simp [vCells] at hu
  rcases hu with h | h | h <;> subst h <;> rfl
theorem VRep.app_consts (h : VRep w A m f e) (x : Vl) (hf : Fr (fun _ => False) w w1) {g cap : Nat}
    (q1 : w2.ownsRow 0 68 3 (.slice (some ⟨g, 0, none⟩) (m.consts.length + 1) cap) (m.consts.length + 1) (m.consts.flatMap vCells ++ vCells x)) (q2 : Fr (fun j => (A.C.consts.v m.consts.length).ownBlock = some j) w1 w2) (q3 : (A.C.consts.v m.consts.length).ownBlock = some g ∨ w.heap.size ≤ g) (q4 : g < w2.heap.size) :
    Has w2 A.b (vmCells A.bn A.bt A.bT A.C m m.ths.length f e) 91 ∧
    VRep (w2.setCell ⟨A.b, 4, none⟩ (.slice (some ⟨g, 0, none⟩) (m.consts.length + 1) cap)) { A with o := upd A.o g 8, C := { A.C with consts := ⟨some ⟨g, 0, none⟩, cap⟩ } } { m with consts := m.consts ++ [x] } f e ∧ VSt (fun k => k = 1 ∨ k = 8) w A (w2.setCell ⟨A.b, 4, none⟩ (.slice (some ⟨g, 0, none⟩) (m.consts.length + 1) cap)) { A with o := upd A.o g 8, C := { A.C with consts := ⟨some ⟨g, 0, none⟩, cap⟩ } } := by
  obtain ⟨a1, a2⟩ := h.core.consts.app hf q1 q2 q3 q4
  have hh := h.core.here.st a2 (by omega)
  have s1 : Stp (fun k => k = 1) w2 (upd A.o g 8) (w2.setCell ⟨A.b, 4, none⟩ (.slice (some ⟨g, 0, none⟩) (m.consts.length + 1) cap)) (upd A.o g 8) := (Stp.refl _ _ _).setCell (p := ⟨A.b, 4, none⟩) hh.lb _
  have s : Stp (fun k => k = 1 ∨ k = 8) w A.o (w2.setCell ⟨A.b, 4, none⟩ (.slice (some ⟨g, 0, none⟩) (m.consts.length + 1) cap)) (upd A.o g 8) := (a2.weaken (fun k hk => .inr hk)).trans (s1.weaken (fun k hk => .inl hk))
  have row : Row (w2.setCell ⟨A.b, 4, none⟩ (.slice (some ⟨g, 0, none⟩) (m.consts.length + 1) cap)) (upd A.o g 8) 8 68 3 ⟨some ⟨g, 0, none⟩, cap⟩ (m.consts ++ [x]).length ((m.consts ++ [x]).flatMap vCells) := by
    have := a1.st s1 (by omega)
    simpa using this
  have hhp := (hh.put 4 (.slice (some ⟨g, 0, none⟩) (m.consts.length + 1) cap) (cs' := vmCells A.bn A.bt A.bT { A.C with consts := ⟨some ⟨g, 0, none⟩, cap⟩ } { m with consts := m.consts ++ [x] } m.ths.length f e) (by simp [vmCells])).1
  have hT := h.setCore (m' := { m with consts := m.consts ++ [x] }) (f' := f) (e' := e) (C' := { A.C with consts := ⟨some ⟨g, 0, none⟩, cap⟩ }) (s.weaken (fun k hk => by unfold isCo; omega)) ⟨hhp, (h.core.protos.st a2 (by omega)).st s1 (by omega), (h.core.descs.st a2 (by omega)).st s1 (by omega), row, (h.core.code.st a2 (by omega)).st s1 (by omega), (h.core.clos.st a2 (by omega)).st s1 (by omega), (h.core.upix.st a2 (by omega)).st s1 (by omega), (h.core.cells.st a2 (by omega)).st s1 (by omega), (h.core.out.st a2 (by omega)).st s1 (by omega)⟩ rfl rfl
  exact ⟨hh.has, hT.1, s, rfl, rfl, rfl, rfl, rfl⟩
theorem row_code : IsRow Tryz.prog 86 329 (.agg #[.int .u8 0, .int .u16 0]) 2 4 := ⟨by kernel_rfl, by kernel_rfl, rfl, by decide⟩
theorem iCells_oneC (x : (Nat × Nat)) : ∀ u ∈ iCells x, u.oneCell' = true := by
  intro u hu
  simp [iCells] at hu
  rcases hu with h | h <;> subst h <;> rfl
theorem VRep.app_code (h : VRep w A m f e) (x : (Nat × Nat)) (hf : Fr (fun _ => False) w w1) {g cap : Nat}
    (q1 : w2.ownsRow 0 329 2 (.slice (some ⟨g, 0, none⟩) (m.code.length + 1) cap) (m.code.length + 1) (m.code.flatMap iCells ++ iCells x)) (q2 : Fr (fun j => (A.C.code.v m.code.length).ownBlock = some j) w1 w2) (q3 : (A.C.code.v m.code.length).ownBlock = some g ∨ w.heap.size ≤ g) (q4 : g < w2.heap.size) :
    Has w2 A.b (vmCells A.bn A.bt A.bT A.C m m.ths.length f e) 91 ∧
    VRep (w2.setCell ⟨A.b, 5, none⟩ (.slice (some ⟨g, 0, none⟩) (m.code.length + 1) cap)) { A with o := upd A.o g 9, C := { A.C with code := ⟨some ⟨g, 0, none⟩, cap⟩ } } { m with code := m.code ++ [x] } f e ∧ VSt (fun k => k = 1 ∨ k = 9) w A (w2.setCell ⟨A.b, 5, none⟩ (.slice (some ⟨g, 0, none⟩) (m.code.length + 1) cap)) { A with o := upd A.o g 9, C := { A.C with code := ⟨some ⟨g, 0, none⟩, cap⟩ } } := by
  obtain ⟨a1, a2⟩ := h.core.code.app hf q1 q2 q3 q4
  have hh := h.core.here.st a2 (by omega)
  have s1 : Stp (fun k => k = 1) w2 (upd A.o g 9) (w2.setCell ⟨A.b, 5, none⟩ (.slice (some ⟨g, 0, none⟩) (m.code.length + 1) cap)) (upd A.o g 9) := (Stp.refl _ _ _).setCell (p := ⟨A.b, 5, none⟩) hh.lb _
  have s : Stp (fun k => k = 1 ∨ k = 9) w A.o (w2.setCell ⟨A.b, 5, none⟩ (.slice (some ⟨g, 0, none⟩) (m.code.length + 1) cap)) (upd A.o g 9) := (a2.weaken (fun k hk => .inr hk)).trans (s1.weaken (fun k hk => .inl hk))
  have row : Row (w2.setCell ⟨A.b, 5, none⟩ (.slice (some ⟨g, 0, none⟩) (m.code.length + 1) cap)) (upd A.o g 9) 9 329 2 ⟨some ⟨g, 0, none⟩, cap⟩ (m.code ++ [x]).length ((m.code ++ [x]).flatMap iCells) := by
    have := a1.st s1 (by omega)
    simpa using this
  have hhp := (hh.put 5 (.slice (some ⟨g, 0, none⟩) (m.code.length + 1) cap) (cs' := vmCells A.bn A.bt A.bT { A.C with code := ⟨some ⟨g, 0, none⟩, cap⟩ } { m with code := m.code ++ [x] } m.ths.length f e) (by simp [vmCells])).1
  have hT := h.setCore (m' := { m with code := m.code ++ [x] }) (f' := f) (e' := e) (C' := { A.C with code := ⟨some ⟨g, 0, none⟩, cap⟩ }) (s.weaken (fun k hk => by unfold isCo; omega)) ⟨hhp, (h.core.protos.st a2 (by omega)).st s1 (by omega), (h.core.descs.st a2 (by omega)).st s1 (by omega), (h.core.consts.st a2 (by omega)).st s1 (by omega), row, (h.core.clos.st a2 (by omega)).st s1 (by omega), (h.core.upix.st a2 (by omega)).st s1 (by omega), (h.core.cells.st a2 (by omega)).st s1 (by omega), (h.core.out.st a2 (by omega)).st s1 (by omega)⟩ rfl rfl
  exact ⟨hh.has, hT.1, s, rfl, rfl, rfl, rfl, rfl⟩
theorem row_clos : IsRow Tryz.prog 87 187 (.agg #[.int .i64 0, .int .i64 0, .int .i64 0]) 3 24 := ⟨by kernel_rfl, by kernel_rfl, rfl, by decide⟩
theorem clCells_oneC (x : ClD) : ∀ u ∈ clCells x, u.oneCell' = true := by
  intro u hu
  simp [clCells] at hu
  rcases hu with h | h | h <;> subst h <;> rfl
theorem VRep.app_clos (h : VRep w A m f e) (x : ClD) (hf : Fr (fun _ => False) w w1) {g cap : Nat}
    (q1 : w2.ownsRow 0 187 3 (.slice (some ⟨g, 0, none⟩) (m.clos.length + 1) cap) (m.clos.length + 1) (m.clos.flatMap clCells ++ clCells x)) (q2 : Fr (fun j => (A.C.clos.v m.clos.length).ownBlock = some j) w1 w2) (q3 : (A.C.clos.v m.clos.length).ownBlock = some g ∨ w.heap.size ≤ g) (q4 : g < w2.heap.size) :
    Has w2 A.b (vmCells A.bn A.bt A.bT A.C m m.ths.length f e) 91 ∧
    VRep (w2.setCell ⟨A.b, 6, none⟩ (.slice (some ⟨g, 0, none⟩) (m.clos.length + 1) cap)) { A with o := upd A.o g 10, C := { A.C with clos := ⟨some ⟨g, 0, none⟩, cap⟩ } } { m with clos := m.clos ++ [x] } f e ∧ VSt (fun k => k = 1 ∨ k = 10) w A (w2.setCell ⟨A.b, 6, none⟩ (.slice (some ⟨g, 0, none⟩) (m.clos.length + 1) cap)) { A with o := upd A.o g 10, C := { A.C with clos := ⟨some ⟨g, 0, none⟩, cap⟩ } } := by
  obtain ⟨a1, a2⟩ := h.core.clos.app hf q1 q2 q3 q4
  have hh := h.core.here.st a2 (by omega)
  have s1 : Stp (fun k => k = 1) w2 (upd A.o g 10) (w2.setCell ⟨A.b, 6, none⟩ (.slice (some ⟨g, 0, none⟩) (m.clos.length + 1) cap)) (upd A.o g 10) := (Stp.refl _ _ _).setCell (p := ⟨A.b, 6, none⟩) hh.lb _
  have s : Stp (fun k => k = 1 ∨ k = 10) w A.o (w2.setCell ⟨A.b, 6, none⟩ (.slice (some ⟨g, 0, none⟩) (m.clos.length + 1) cap)) (upd A.o g 10) := (a2.weaken (fun k hk => .inr hk)).trans (s1.weaken (fun k hk => .inl hk))
  have row : Row (w2.setCell ⟨A.b, 6, none⟩ (.slice (some ⟨g, 0, none⟩) (m.clos.length + 1) cap)) (upd A.o g 10) 10 187 3 ⟨some ⟨g, 0, none⟩, cap⟩ (m.clos ++ [x]).length ((m.clos ++ [x]).flatMap clCells) := by
    have := a1.st s1 (by omega)
    simpa using this
  have hhp := (hh.put 6 (.slice (some ⟨g, 0, none⟩) (m.clos.length + 1) cap) (cs' := vmCells A.bn A.bt A.bT { A.C with clos := ⟨some ⟨g, 0, none⟩, cap⟩ } { m with clos := m.clos ++ [x] } m.ths.length f e) (by simp [vmCells])).1
  have hT := h.setCore (m' := { m with clos := m.clos ++ [x] }) (f' := f) (e' := e) (C' := { A.C with clos := ⟨some ⟨g, 0, none⟩, cap⟩ }) (s.weaken (fun k hk => by unfold isCo; omega)) ⟨hhp, (h.core.protos.st a2 (by omega)).st s1 (by omega), (h.core.descs.st a2 (by omega)).st s1 (by omega), (h.core.consts.st a2 (by omega)).st s1 (by omega), (h.core.code.st a2 (by omega)).st s1 (by omega), row, (h.core.upix.st a2 (by omega)).st s1 (by omega), (h.core.cells.st a2 (by omega)).st s1 (by omega), (h.core.out.st a2 (by omega)).st s1 (by omega)⟩ rfl rfl
  exact ⟨hh.has, hT.1, s, rfl, rfl, rfl, rfl, rfl⟩
theorem row_upix : IsRow Tryz.prog 88 3 (.int .i64 0) 1 8 := ⟨by kernel_rfl, by kernel_rfl, rfl, by decide⟩
theorem nCells_oneC (x : Nat) : ∀ u ∈ nCells x, u.oneCell' = true := by
  intro u hu
  simp [nCells] at hu
  subst hu; rfl
theorem VRep.app_upix (h : VRep w A m f e) (x : Nat) (hf : Fr (fun _ => False) w w1) {g cap : Nat}
    (q1 : w2.ownsRow 0 3 1 (.slice (some ⟨g, 0, none⟩) (m.upix.length + 1) cap) (m.upix.length + 1) (m.upix.flatMap nCells ++ nCells x)) (q2 : Fr (fun j => (A.C.upix.v m.upix.length).ownBlock = some j) w1 w2) (q3 : (A.C.upix.v m.upix.length).ownBlock = some g ∨ w.heap.size ≤ g) (q4 : g < w2.heap.size) :
    Has w2 A.b (vmCells A.bn A.bt A.bT A.C m m.ths.length f e) 91 ∧
    VRep (w2.setCell ⟨A.b, 7, none⟩ (.slice (some ⟨g, 0, none⟩) (m.upix.length + 1) cap)) { A with o := upd A.o g 11, C := { A.C with upix := ⟨some ⟨g, 0, none⟩, cap⟩ } } { m with upix := m.upix ++ [x] } f e ∧ VSt (fun k => k = 1 ∨ k = 11) w A (w2.setCell ⟨A.b, 7, none⟩ (.slice (some ⟨g, 0, none⟩) (m.upix.length + 1) cap)) { A with o := upd A.o g 11, C := { A.C with upix := ⟨some ⟨g, 0, none⟩, cap⟩ } } := by
  obtain ⟨a1, a2⟩ := h.core.upix.app hf q1 q2 q3 q4
  have hh := h.core.here.st a2 (by omega)
  have s1 : Stp (fun k => k = 1) w2 (upd A.o g 11) (w2.setCell ⟨A.b, 7, none⟩ (.slice (some ⟨g, 0, none⟩) (m.upix.length + 1) cap)) (upd A.o g 11) := (Stp.refl _ _ _).setCell (p := ⟨A.b, 7, none⟩) hh.lb _
  have s : Stp (fun k => k = 1 ∨ k = 11) w A.o (w2.setCell ⟨A.b, 7, none⟩ (.slice (some ⟨g, 0, none⟩) (m.upix.length + 1) cap)) (upd A.o g 11) := (a2.weaken (fun k hk => .inr hk)).trans (s1.weaken (fun k hk => .inl hk))
  have row : Row (w2.setCell ⟨A.b, 7, none⟩ (.slice (some ⟨g, 0, none⟩) (m.upix.length + 1) cap)) (upd A.o g 11) 11 3 1 ⟨some ⟨g, 0, none⟩, cap⟩ (m.upix ++ [x]).length ((m.upix ++ [x]).flatMap nCells) := by
    have := a1.st s1 (by omega)
    simpa using this
  have hhp := (hh.put 7 (.slice (some ⟨g, 0, none⟩) (m.upix.length + 1) cap) (cs' := vmCells A.bn A.bt A.bT { A.C with upix := ⟨some ⟨g, 0, none⟩, cap⟩ } { m with upix := m.upix ++ [x] } m.ths.length f e) (by simp [vmCells])).1
  have hT := h.setCore (m' := { m with upix := m.upix ++ [x] }) (f' := f) (e' := e) (C' := { A.C with upix := ⟨some ⟨g, 0, none⟩, cap⟩ }) (s.weaken (fun k hk => by unfold isCo; omega)) ⟨hhp, (h.core.protos.st a2 (by omega)).st s1 (by omega), (h.core.descs.st a2 (by omega)).st s1 (by omega), (h.core.consts.st a2 (by omega)).st s1 (by omega), (h.core.code.st a2 (by omega)).st s1 (by omega), (h.core.clos.st a2 (by omega)).st s1 (by omega), row, (h.core.cells.st a2 (by omega)).st s1 (by omega), (h.core.out.st a2 (by omega)).st s1 (by omega)⟩ rfl rfl
  exact ⟨hh.has, hT.1, s, rfl, rfl, rfl, rfl, rfl⟩
theorem row_cells : IsRow Tryz.prog 89 274 (.agg #[.int .i64 0, .int .i64 0, .int .i64 0, .int .u64 0, sv []]) 5 48 := ⟨by kernel_rfl, by kernel_rfl, rfl, by decide⟩
theorem ceCells_oneC (x : CeD) : ∀ u ∈ ceCells x, u.oneCell' = true := by
  intro u hu
  simp [ceCells] at hu
  rcases hu with h | h | h | h | h <;> subst h <;> rfl
theorem VRep.app_cells (h : VRep w A m f e) (x : CeD) (hf : Fr (fun _ => False) w w1) {g cap : Nat}
    (q1 : w2.ownsRow 0 274 5 (.slice (some ⟨g, 0, none⟩) (m.cells.length + 1) cap) (m.cells.length + 1) (m.cells.flatMap ceCells ++ ceCells x)) (q2 : Fr (fun j => (A.C.cells.v m.cells.length).ownBlock = some j) w1 w2) (q3 : (A.C.cells.v m.cells.length).ownBlock = some g ∨ w.heap.size ≤ g) (q4 : g < w2.heap.size) :
    Has w2 A.b (vmCells A.bn A.bt A.bT A.C m m.ths.length f e) 91 ∧
    VRep (w2.setCell ⟨A.b, 8, none⟩ (.slice (some ⟨g, 0, none⟩) (m.cells.length + 1) cap)) { A with o := upd A.o g 12, C := { A.C with cells := ⟨some ⟨g, 0, none⟩, cap⟩ } } { m with cells := m.cells ++ [x] } f e ∧ VSt (fun k => k = 1 ∨ k = 12) w A (w2.setCell ⟨A.b, 8, none⟩ (.slice (some ⟨g, 0, none⟩) (m.cells.length + 1) cap)) { A with o := upd A.o g 12, C := { A.C with cells := ⟨some ⟨g, 0, none⟩, cap⟩ } } := by
  obtain ⟨a1, a2⟩ := h.core.cells.app hf q1 q2 q3 q4
  have hh := h.core.here.st a2 (by omega)
  have s1 : Stp (fun k => k = 1) w2 (upd A.o g 12) (w2.setCell ⟨A.b, 8, none⟩ (.slice (some ⟨g, 0, none⟩) (m.cells.length + 1) cap)) (upd A.o g 12) := (Stp.refl _ _ _).setCell (p := ⟨A.b, 8, none⟩) hh.lb _
  have s : Stp (fun k => k = 1 ∨ k = 12) w A.o (w2.setCell ⟨A.b, 8, none⟩ (.slice (some ⟨g, 0, none⟩) (m.cells.length + 1) cap)) (upd A.o g 12) := (a2.weaken (fun k hk => .inr hk)).trans (s1.weaken (fun k hk => .inl hk))
  have row : Row (w2.setCell ⟨A.b, 8, none⟩ (.slice (some ⟨g, 0, none⟩) (m.cells.length + 1) cap)) (upd A.o g 12) 12 274 5 ⟨some ⟨g, 0, none⟩, cap⟩ (m.cells ++ [x]).length ((m.cells ++ [x]).flatMap ceCells) := by
    have := a1.st s1 (by omega)
    simpa using this
  have hhp := (hh.put 8 (.slice (some ⟨g, 0, none⟩) (m.cells.length + 1) cap) (cs' := vmCells A.bn A.bt A.bT { A.C with cells := ⟨some ⟨g, 0, none⟩, cap⟩ } { m with cells := m.cells ++ [x] } m.ths.length f e) (by simp [vmCells])).1
  have hT := h.setCore (m' := { m with cells := m.cells ++ [x] }) (f' := f) (e' := e) (C' := { A.C with cells := ⟨some ⟨g, 0, none⟩, cap⟩ }) (s.weaken (fun k hk => by unfold isCo; omega)) ⟨hhp, (h.core.protos.st a2 (by omega)).st s1 (by omega), (h.core.descs.st a2 (by omega)).st s1 (by omega), (h.core.consts.st a2 (by omega)).st s1 (by omega), (h.core.code.st a2 (by omega)).st s1 (by omega), (h.core.clos.st a2 (by omega)).st s1 (by omega), (h.core.upix.st a2 (by omega)).st s1 (by omega), row, (h.core.out.st a2 (by omega)).st s1 (by omega)⟩ rfl rfl
  exact ⟨hh.has, hT.1, s, rfl, rfl, rfl, rfl, rfl⟩
theorem row_out : IsRow Tryz.prog 49 5 (.int .u8 0) 1 1 := ⟨by kernel_rfl, by kernel_rfl, rfl, by decide⟩
theorem bCells_oneC (x : UInt8) : ∀ u ∈ bCells x, u.oneCell' = true := by
  intro u hu
  simp [bCells] at hu
  subst hu; rfl
theorem VRep.app_out (h : VRep w A m f e) (x : UInt8) (hf : Fr (fun _ => False) w w1) {g cap : Nat}
    (q1 : w2.ownsRow 0 5 1 (.slice (some ⟨g, 0, none⟩) (m.out.length + 1) cap) (m.out.length + 1) (m.out.flatMap bCells ++ bCells x)) (q2 : Fr (fun j => (A.C.out.v m.out.length).ownBlock = some j) w1 w2) (q3 : (A.C.out.v m.out.length).ownBlock = some g ∨ w.heap.size ≤ g) (q4 : g < w2.heap.size) :
    Has w2 A.b (vmCells A.bn A.bt A.bT A.C m m.ths.length f e) 91 ∧
    VRep (w2.setCell ⟨A.b, 11, none⟩ (.slice (some ⟨g, 0, none⟩) (m.out.length + 1) cap)) { A with o := upd A.o g 14, C := { A.C with out := ⟨some ⟨g, 0, none⟩, cap⟩ } } { m with out := m.out ++ [x] } f e ∧ VSt (fun k => k = 1 ∨ k = 14) w A (w2.setCell ⟨A.b, 11, none⟩ (.slice (some ⟨g, 0, none⟩) (m.out.length + 1) cap)) { A with o := upd A.o g 14, C := { A.C with out := ⟨some ⟨g, 0, none⟩, cap⟩ } } := by
  obtain ⟨a1, a2⟩ := h.core.out.app hf q1 q2 q3 q4
  have hh := h.core.here.st a2 (by omega)
  have s1 : Stp (fun k => k = 1) w2 (upd A.o g 14) (w2.setCell ⟨A.b, 11, none⟩ (.slice (some ⟨g, 0, none⟩) (m.out.length + 1) cap)) (upd A.o g 14) := (Stp.refl _ _ _).setCell (p := ⟨A.b, 11, none⟩) hh.lb _
  have s : Stp (fun k => k = 1 ∨ k = 14) w A.o (w2.setCell ⟨A.b, 11, none⟩ (.slice (some ⟨g, 0, none⟩) (m.out.length + 1) cap)) (upd A.o g 14) := (a2.weaken (fun k hk => .inr hk)).trans (s1.weaken (fun k hk => .inl hk))
  have row : Row (w2.setCell ⟨A.b, 11, none⟩ (.slice (some ⟨g, 0, none⟩) (m.out.length + 1) cap)) (upd A.o g 14) 14 5 1 ⟨some ⟨g, 0, none⟩, cap⟩ (m.out ++ [x]).length ((m.out ++ [x]).flatMap bCells) := by
    have := a1.st s1 (by omega)
    simpa using this
  have hhp := (hh.put 11 (.slice (some ⟨g, 0, none⟩) (m.out.length + 1) cap) (cs' := vmCells A.bn A.bt A.bT { A.C with out := ⟨some ⟨g, 0, none⟩, cap⟩ } { m with out := m.out ++ [x] } m.ths.length f e) (by simp [vmCells])).1
  have hT := h.setCore (m' := { m with out := m.out ++ [x] }) (f' := f) (e' := e) (C' := { A.C with out := ⟨some ⟨g, 0, none⟩, cap⟩ }) (s.weaken (fun k hk => by unfold isCo; omega)) ⟨hhp, (h.core.protos.st a2 (by omega)).st s1 (by omega), (h.core.descs.st a2 (by omega)).st s1 (by omega), (h.core.consts.st a2 (by omega)).st s1 (by omega), (h.core.code.st a2 (by omega)).st s1 (by omega), (h.core.clos.st a2 (by omega)).st s1 (by omega), (h.core.upix.st a2 (by omega)).st s1 (by omega), (h.core.cells.st a2 (by omega)).st s1 (by omega), row⟩ rfl rfl
  exact ⟨hh.has, hT.1, s, rfl, rfl, rfl, rfl, rfl⟩
end
end Go.Proofs.Qxb6500574aGreatDoor
