/-
  COMPILER AND DRIVER IN ONE HEAP. No walk.
-/
import Derived.Test.Qxb6500574aGreatDoorWIg1
import Derived.Test.Qxb6500574aGreatDoorVRunC
namespace Go.Proofs.Qxb6500574aGreatDoor
open Go Go.RowKit
set_option linter.unusedVariables false
set_option linter.unusedSimpArgs false
/-- what the compiler holds between two calls: nothing yet, or what a text left -/
def HeldC (C : CC) (c : CmD) : Prop := (c = cm00 ∧ C.bl = []) ∨ ∃ src N root, treeP src = .inr (N, root) ∧ c = comP N root ∧ C.bl = layP (comP N root)
/-- compiler and driver; the driver's blocks bear 999 with the compiler -/
structure CM (bc : Nat) (w : World) (o : Nat → Nat) (A : VL) (C : CC) (sx : Nat) (num : Value) (c : CmD) : Prop where
  X : CX w o C sx num c
  I : Idle bc w A
  dv : C.dv = .pointer (some ⟨bc, 0, none⟩)
  m : ∀ k, A.o k ≠ 0 ∨ k = bc → o k = 999
  ok : HeldC C c
  nm : num = .pointer (some ⟨A.bn, 0, none⟩)
/-- labels that a run may turn; 998: a block of a walk's own -/
def QM (l : Nat) : Prop := QI l ∨ l = 999 ∨ l = 998
theorem QI.lo {l : Nat} (h : QI l) : 1040 ≤ l := by
  unfold QI QS QC at h
  omega
section
variable {Q : Nat → Prop} {w w1 : World} {o o1 : Nat → Nat} {C C' : CC} {sx bc : Nat} {num : Value} {c c' : CmD} {A A' : VL}
theorem CX.st (h : CX w o C sx num c) (t : Stp Q w o w1 o1) (h0 : ¬ Q 0) (hq : ∀ l, 1039 ≤ l → ¬ Q l) : CX w1 o1 C sx num c := by
  obtain ⟨T, N, a, b⟩ := h.S
  exact ⟨h.R.stN h.sn t h0 (fun l hl => hq l (by unfold QC at hl; omega)), h.sn, h.ps, T, N, a.st t (hq _ (by omega)) (hq _ (by omega)) (hq _ (by omega)) (hq _ (by omega)), b⟩
theorem Idle.own (I : Idle bc w A) : Ow w A.o := by
  obtain ⟨⟨m, f, e, s, R, _⟩, _⟩ := I
  exact R.own
theorem Idle.lt (I : Idle bc w A) : bc < w.heap.size := by
  obtain ⟨⟨m, f, e, s, _, hc, _⟩, _⟩ := I
  exact hc.lt
theorem Idle.apart {S : Nat → Prop} (I : Idle bc w A) (F : Fr S w w1) (h : ∀ k, A.o k ≠ 0 ∨ k = bc → ¬ S k) : Idle bc w1 A := by
  obtain ⟨⟨m, f, e, s, R, hc, hd⟩, oc⟩ := I
  refine ⟨⟨m, f, e, s, R.zero ⟨F.weaken (fun k _ x => ?_), fun _ _ => rfl, fun y k hk => y k (Nat.le_trans F.size hk)⟩, hc.fr F (h bc (.inr rfl)), hd⟩, oc⟩
  apply Decidable.byContradiction
  intro hn
  exact h k (.inl hn) x
/-- a step of the compiler's -/
theorem CM.turn (h : CM bc w o A C sx num c) (X : CX w1 o1 C' sx num c') (dv : C'.dv = C.dv) (t : Stp Q w o w1 o1) (h9 : ¬ Q 999) (ok : HeldC C' c') : CM bc w1 o1 A C' sx num c' := by
  refine ⟨X, h.I.apart t.fr (fun k hk x => ?_), dv.trans h.dv, fun k hk => ?_, ok, h.nm⟩
  · have e := h.m k hk
    simp only [e] at x
    exact h9 x
  · by_cases hl : k < w.heap.size
    · rw [t.ext k hl]
      exact h.m k hk
    · exfalso
      rcases hk with hk | hk
      · exact hk (h.I.own k (by omega))
      · have := h.I.lt
        omega
theorem CM.st (h : CM bc w o A C sx num c) (t : Stp Q w o w1 o1) (h0 : ¬ Q 0) (h9 : ¬ Q 999) (hq : ∀ l, 1039 ≤ l → ¬ Q l) : CM bc w1 o1 A C sx num c :=
  h.turn (h.X.st t h0 hq) rfl t h9 h.ok
/-- a run of the driver's -/
theorem CM.run (h : CM bc w o A C sx num c) (I' : Idle bc w1 A') (S : CSt bc w A w1 A') : ∃ o', CM bc w1 o' A' C sx num c ∧ Stp (fun l => l = 999) w o w1 o' := by
  have T : Stp (fun l => l = 999) w o w1 (fun k => if w.heap.size ≤ k ∧ A'.o k ≠ 0 then 999 else o k) := by
    refine ⟨S.fr.weaken (fun k _ x => h.m k x), fun k hk => ?_, fun y k hk => ?_⟩
    · have : ¬ (w.heap.size ≤ k ∧ A'.o k ≠ 0) := by omega
      simp only [this, if_false]
    · have : ¬ (w.heap.size ≤ k ∧ A'.o k ≠ 0) := fun z => z.2 (I'.own k hk)
      simp only [this, if_false]
      exact y k (Nat.le_trans S.fr.size hk)
  refine ⟨_, ⟨h.X.st T (by omega) (fun l hl => by omega), I', h.dv, fun k hk => ?_, h.ok, by rw [S.bn]; exact h.nm⟩, T⟩
  by_cases hl : k < w.heap.size
  · have : ¬ (w.heap.size ≤ k ∧ A'.o k ≠ 0) := by omega
    simp only [this, if_false]
    rw [S.ext k hl] at hk
    exact h.m k hk
  · rcases hk with hk | hk
    · have : w.heap.size ≤ k ∧ A'.o k ≠ 0 := ⟨by omega, hk⟩
      simp only [this, not_false_eq_true, and_self, ne_eq, if_true]
    · have := h.I.lt
      omega
/-- a block of a walk's own -/
theorem CM.local (h : CM bc w o A C sx num c) (b : Obj) : CM bc (w.alloc b) (upd o w.heap.size 998) A C sx num c ∧ Stp QM w o (w.alloc b) (upd o w.heap.size 998) :=
  ⟨h.st (Stp.label (fun _ => False) b 998) (fun x => x) (fun x => x) (fun _ _ x => x), Stp.label _ b 998⟩
theorem CM.set (h : CM bc w o A C sx num c) {p : Addr} (hp : o p.block = 998) (u : Value) : CM bc (w.setCell p u) o A C sx num c ∧ Stp QM w o (w.setCell p u) o :=
  ⟨h.st ((Stp.refl (fun l => l = 998) w o).setCell hp u) (by omega) (by omega) (fun l hl => by omega), (Stp.refl QM w o).setCell (.inr (.inr hp)) u⟩
end
end Go.Proofs.Qxb6500574aGreatDoor
