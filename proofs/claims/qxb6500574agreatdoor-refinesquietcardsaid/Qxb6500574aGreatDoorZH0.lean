/-
  THE TWO SIDES in one heap; what both answer. No walk.
-/
import Derived.Test.Qxb6500574aGreatDoorWKp3
import Derived.Test.Qxb6500574aGreatDoorWIg1
import Derived.Test.Qxb6500574aGreatDoorZG0
import Derived.Test.Qxb6500574aGreatDoorZM53
import Derived.Test.Qxb6500574aGreatDoorWScr
import Derived.Test.Qxb6500574aGreatDoorVAns
namespace Go.Proofs.Qxb6500574aGreatDoor
open Go Go.RowKit
set_option linter.unusedVariables false
set_option linter.unusedSimpArgs false
/-- labels that a step of either side may turn -/
def QN (l : Nat) : Prop := QM l ∨ l = 5 ∨ l = 6
/-- the two sides -/
structure TW (bc : Nat) (w : World) (o : Nat → Nat) (C : CC) (sx : Nat) (num : Value) (bm bn bt bs : Nat) (w1 : World) (o1 : Nat → Nat) (A1 : VL) (C1 : CC) (c1 : CmD) : Prop where
  M : CM bc w1 o1 A1 C1 sx num c1
  cb : C1.cb = C.cb
  gF : C1.gF = C.gF
  S : Stp QN w o w1 o1
  m : CpM w1 bm bn bt bs
  ot : o1 bt = 5
  om : o1 bm = 0
  os : o1 bs = 0
theorem QM.n5 : ¬ QM 5 := by unfold QM QI QS QC; omega
section
variable {bc sx bm bn bt bs : Nat} {w w1 w2 : World} {o o1 o2 : Nat → Nat} {C C1 C2 : CC} {num : Value} {A A1 A2 : VL} {c c1 c2 : CmD}
/-- a step of the real side -/
theorem TW.turn {Q : Nat → Prop} (h : TW bc w o C sx num bm bn bt bs w1 o1 A1 C1 c1) (M2 : CM bc w2 o2 A2 C2 sx num c2) (q1 : C2.cb = C1.cb) (q2 : C2.gF = C1.gF) (S2 : Stp Q w1 o1 w2 o2) (h0 : ¬ Q 0) (h5 : ¬ Q 5) (hn : ∀ l, Q l → QN l) : TW bc w o C sx num bm bn bt bs w2 o2 A2 C2 c2 := by
  obtain ⟨s, ht⟩ := h.m.t
  have ex : ∀ k, k < w1.heap.size → o2 k = o1 k := S2.ext
  exact ⟨M2, q1.trans h.cb, q2.trans h.gF, h.S.trans (S2.weaken hn), ⟨S2.has h.m.c (by rw [h.om]; exact h0), ⟨s, S2.has ht (by rw [h.ot]; exact h5)⟩, S2.has h.m.s (by rw [h.os]; exact h0), h.m.n1, h.m.n2⟩, (ex _ ht.lt).trans h.ot, (ex _ h.m.c.lt).trans h.om, (ex _ h.m.s.lt).trans h.os⟩
theorem TW.real (h : TW bc w o C sx num bm bn bt bs w1 o1 A1 C1 c1) (M2 : CM bc w2 o2 A2 C2 sx num c2) (q1 : C2.cb = C1.cb) (q2 : C2.gF = C1.gF) (S2 : Stp QM w1 o1 w2 o2) : TW bc w o C sx num bm bn bt bs w2 o2 A2 C2 c2 := h.turn M2 q1 q2 S2 QM.n0 QM.n5 (fun _ hl => .inl hl)
/-- a step of the model -/
theorem TW.model (h : TW bc w o C sx num bm bn bt bs w1 o1 A1 C1 c1) (f : Fr (fun k => k = bt) w1 w2) (m : CpM w2 bm bn bt bs) : TW bc w o C sx num bm bn bt bs w2 o1 A1 C1 c1 := by
  have t : Stp (fun l => l = 5) w1 o1 w2 o1 := ⟨f.weaken (fun k _ x => by subst x; exact h.ot), fun _ _ => rfl, fun y k hk => y k (Nat.le_trans f.size hk)⟩
  exact ⟨h.M.st t (by omega) (by omega) (fun l hl => by omega), h.cb, h.gF, h.S.trans (t.weaken (fun l hl => .inr (.inl hl))), m, h.ot, h.om, h.os⟩
theorem TW.fresh (h : TW bc w o C sx num bm bn bt bs w1 o1 A1 C1 c1) (f : Fr (fun _ => False) w1 w2) : TW bc w o C sx num bm bn bt bs w2 o1 A1 C1 c1 := h.model (f.weaken (fun _ _ x => x.elim)) (h.m.fresh f)
/-- a block of a walk's own -/
theorem TW.local (h : TW bc w o C sx num bm bn bt bs w1 o1 A1 C1 c1) (b : Obj) : TW bc w o C sx num bm bn bt bs (w1.alloc b) (upd o1 w1.heap.size 6) A1 C1 c1 :=
  h.turn (h.M.st (Stp.label (fun _ => False) b 6) (fun x => x) (fun x => x) (fun _ _ x => x)) rfl rfl (Stp.label (fun _ => False) b 6) (fun x => x) (fun x => x) (fun _ x => x.elim)
theorem TW.set (h : TW bc w o C sx num bm bn bt bs w1 o1 A1 C1 c1) {p : Addr} (hp : o1 p.block = 6) (u : Value) : TW bc w o C sx num bm bn bt bs (w1.setCell p u) o1 A1 C1 c1 :=
  h.turn (h.M.st ((Stp.refl (fun l => l = 6) w1 o1).setCell hp u) (by omega) (by omega) (fun l hl => by omega)) rfl rfl ((Stp.refl (fun l => l = 6) w1 o1).setCell hp u) (by omega) (by omega) (fun l hl => .inr (.inr hl))
theorem QM.n6 : ¬ QM 6 := by unfold QM QI QS QC; omega
end
/-- a new block gets a label -/
theorem Stp.lab1 (Q : Nat → Prop) {w w' : World} {o : Nat → Nat} {b l : Nat} (f : Fr (fun _ => False) w w') (h1 : w.heap.size ≤ b) (h2 : b < w'.heap.size) : Stp Q w o w' (upd o b l) :=
  ⟨f.weaken (fun _ _ x => x.elim), fun k hk => upd_ne o l (by omega), fun y k hk => by rw [upd_ne o l (by omega)]; exact y k (Nat.le_trans f.size hk)⟩
/-- WHAT BOTH SIDES ANSWER to a run -/
theorem both_run (src : Bs) {fuel : Int} (hf : fuel ≤ 9223372036854775807) : ∃ (n n' : Nat) (an : AnD), (∀ img, imageP src = .inr img → runN n img fuel = some an) ∧ (∀ y, imageP src = .inl y → an = ⟨y.1, y.2, 0, [], []⟩) ∧ (∀ N root, treeP src = .inr (N, root) → runM n' N root fuel = some an) ∧ (∀ y, treeP src = .inl y → an = ⟨y.1, y.2, 0, [], []⟩) := by
  cases hx : treeP src with
  | inl y =>
    have hi : imageP src = .inl y := by unfold imageP; rw [hx]
    refine ⟨0, 0, ⟨y.1, y.2, 0, [], []⟩, fun img h => ?_, fun z h => ?_, fun N root h => ?_, fun z h => ?_⟩
    · rw [hi] at h; cases h
    · rw [hi] at h; cases h; rfl
    · cases h
    · cases h; rfl
  | inr x =>
    obtain ⟨N, root⟩ := x
    have hi : imageP src = .inr (layP (comP N root)) := by unfold imageP; rw [hx]
    obtain ⟨n, an, hr, _⟩ := run_good hi fuel
    obtain ⟨n', hm⟩ := tree_sim hx (show fuel < 9223372036854775808 by omega) hr
    refine ⟨n, n', an, fun img h => ?_, fun z h => ?_, fun N' root' h => ?_, fun z h => ?_⟩
    · rw [hi] at h; cases h; exact hr
    · rw [hi] at h; cases h
    · cases h; exact hm
    · cases h
/-- the answer to a step of the script -/
def dAns (k : Int) (an : AnD) : AnD := if k = 1 then an else if k = 3 then ⟨0, 1, 0, [], []⟩ else ⟨0, 0, 0, [], []⟩
end Go.Proofs.Qxb6500574aGreatDoor
