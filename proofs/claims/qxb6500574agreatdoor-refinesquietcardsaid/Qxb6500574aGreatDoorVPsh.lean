/-
  THE WALK of vm: push, and that the frames lie where they lay.
-/
import Derived.Test.Qxb6500574aGreatDoorVPop
import Derived.Test.Qxb6500574aGreatDoorVSetUp
namespace Go.Proofs.Qxb6500574aGreatDoor
open Go Go.RowKit
set_option linter.unusedVariables false
set_option linter.unusedSimpArgs false

/-- the frames of thread i lie where they lay -/
def FK (A A' : VL) (i : Nat) : Prop := ∀ l, A.X[i]? = some l → ∃ l', A'.X[i]? = some l' ∧ l'.f = l.f
theorem FK.refl (A : VL) (i : Nat) : FK A A i := fun l hl => ⟨l, hl, rfl⟩
theorem FK.trans {A A1 A2 : VL} {i : Nat} (h : FK A A1 i) (k : FK A1 A2 i) : FK A A2 i := fun l hl => by
  obtain ⟨l1, h1, e1⟩ := h l hl
  obtain ⟨l2, h2, e2⟩ := k l1 h1
  exact ⟨l2, h2, e2.trans e1⟩
theorem FK.of {A A' : VL} {i : Nat} {l l' : ThL} (h : A.X[i]? = some l) (h' : A'.X[i]? = some l') (e : l'.f = l.f) : FK A A' i := fun x hx => by
  rw [h] at hx
  cases hx
  exact ⟨l', h', e⟩
section
variable {w : World} {A : VL} {m : VMD} {f e i : Nat} {t : ThD} {l : ThL}
set_option maxRecDepth 100000
set_option maxHeartbeats 400000
theorem vpush_fk (h : VRep w A m f e) (hi : m.ths[i]? = some t) (vs : List Vl) (hv : 0 < vs.length) (hl : t.stack.length + vs.length ≤ 100000) {B c : Nat} (hB : Has w B (vs.flatMap vCells).toArray 68) :
    Calls Tryz.prog 143 #[.pointer (some ⟨A.bT, i * 5, none⟩), .slice (some ⟨B, 0, none⟩) vs.length c] w fun e' w' => e' = .returned (.tuple #[]) ∧ ∃ A', VRep w' A' (m.setTh i { t with stack := t.stack ++ vs }) f e ∧ VSt (isT i) w A w' A' ∧ FK A A' i := by
  obtain ⟨l, hx⟩ := h.lays hi
  have c2 := h.thCell hi hx (j := 2) (by omega)
  simp only [thCells, List.getElem?_cons_succ, List.getElem?_cons_zero, Sl.v] at c2
  have fz := h.ths.frozen (i * 5 + 2)
  have hb := h.ths.here.has.lt
  have H : Hid (VRep w A m f e) := h
  have HR : Hid (World.ownsRow w 0 68 3 (l.s.v t.stack.length) t.stack.length (t.stack.flatMap vCells)) := (h.one hi hx).s.own
  have HB : Hid (Has w B (vs.flatMap vCells).toArray 68) := hB
  have HI : Hid (m.ths[i]? = some t) := hi
  have HX : Hid (A.X[i]? = some l) := hx
  clear h hi hx hB
  obtain ⟨n, HN⟩ : ∃ n : Nat, Hid (t.stack.length = n) := ⟨_, rfl⟩
  obtain ⟨k, HK⟩ : ∃ k : Nat, Hid (vs.length = k) := ⟨_, rfl⟩
  rw [HK.out] at hv hl ⊢
  rw [HN.out] at hl c2
  go_enter Tryz.func143, Tryz.ntmps143
  go_wp2_with (at_builtin; go_must (refine wpList_appN rowVal _ rfl (.tmp 8) (.tmp 9) rfl (l.s.v t.stack.length) t.stack.length (t.stack.flatMap vCells) (by rw [HN.out]; rfl) HR.out B k c (vs.flatMap vCells) rfl HB.out (by rw [flatMap_len _ 3 vCells_len, HK.out]) hv (vCells_one vs) ?bd ?go))
  case bd => rw [HN.out]; omega
  case go =>
    intro g cap w2 q1 q2 q3 q4
    have hq3 : (l.s.v t.stack.length).ownBlock = some g ∨ w.heap.size ≤ g := by
      rcases q3 with q3 | q3
      · exact .inl q3
      · right; rw [q3]; exact Nat.le_refl _
    rw [← HK.out] at q1
    obtain ⟨hh, A', r1, r2, _, r3⟩ := H.out.pushed HI.out HX.out vs (Fr.refl _ _) q1 q2 hq3 q4
    rw [HK.out, HN.out] at r1 r2
    rw [HN.out]
    have d3 := hh.frozen (i * 5 + 2)
    have d4 : w2.cell? ⟨A.bT, i * 5 + 2, none⟩ = some (.slice l.s.a n l.s.c) := by
      rw [hh.cell, List.getElem?_toArray, flatMap_at _ 5 thCells_len _ i 2 _ (H.out.zipAt HI.out HX.out) (by omega)]
      simp [thCells, HN.out]
    have k3 := hh.lt
    have R1 : Hid (VRep _ _ _ _ _) := r1
    have R2 : Hid (VSt _ _ _ _ _) := r2
    have hx3 : A'.X[i]? = some { l with s := ⟨some ⟨g, 0, none⟩, cap⟩ } := by rw [r3]; simp [(List.getElem?_eq_some_iff.1 HX.out).1]
    have R3 : Hid (FK A A' i) := FK.of HX.out hx3 rfl
    clear q1 q2 q3 q4 hq3 hh r1 r2 r3 hx3
    go_wp2
    go_end0
    exact ⟨rfl, _, R1.out, R2.out, R3.out⟩
end
end Go.Proofs.Qxb6500574aGreatDoor
