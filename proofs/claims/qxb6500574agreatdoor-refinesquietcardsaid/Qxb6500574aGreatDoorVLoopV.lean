/-
  vm, plain: where an instruction throws, the thread's stack has not grown.
-/
import Derived.Test.Qxb6500574aGreatDoorVLoopU
import Derived.Test.Qxb6500574aGreatDoorVUnw
namespace Go.Proofs.Qxb6500574aGreatDoor
open Go Go.RowKit
set_option linter.unusedVariables false
set_option linter.unusedSimpArgs false
section
variable {m : VMD} {i : Nat} {t : ThD} {α : Type}
/-- where it throws, thread i's stack is at most n long -/
def TL (n : Nat) (i : Nat) (r : RR α) : Prop := ∀ v, r.1 = .inl (.inl v) → (r.2.th i).stack.length ≤ n
theorem TL.ok (n : Nat) {a : α} {m : VMD} : TL n i (.inr a, m) := fun v e => by cases e
theorem TL.trap (n k : Nat) {m : VMD} : TL n i (trapR k m : RR α) := fun v e => by cases e
theorem TL.thr {n : Nat} {s : Bs} {m : VMD} (h : (m.th i).stack.length ≤ n) : TL n i (thrR s m : RR α) := fun v e => h
theorem TL.ite {n : Nat} {c : Prop} [Decidable c] {a b : RR α} (h1 : TL n i a) (h2 : TL n i b) : TL n i (if c then a else b) := by
  split
  · exact h1
  · exact h2
theorem pops_len (hi : m.ths[i]? = some t) (k : Nat) : ((pops m i k).th i).stack.length ≤ t.stack.length := by
  rw [pops_is hi, th_get (setTh_get hi)]
  simp only [List.length_take]
  omega
theorem TL.store {n h : Nat} {k v : Vl} {m : VMD} (hl : (m.th i).stack.length ≤ n) : TL n i (storeP m h k v) := by
  unfold storeP
  dsimp only
  split
  · exact TL.trap _ _
  split
  · exact TL.thr hl
  · exact TL.ok _
theorem TL.plain (hi : m.ths[i]? = some t) (op x : Nat) : TL t.stack.length i (plainP m i op x) := by
  have h0 : (m.th i).stack.length ≤ t.stack.length := by rw [th_get hi]; exact Nat.le_refl _
  have ho : TL t.stack.length i (operP m i op x) := by
    unfold operP
    dsimp only
    repeat' refine TL.ite ?_ ?_
    all_goals first
      | exact TL.ok _
      | exact TL.thr (pops_len hi _)
      | skip
    cases compareP (x : Int) (topV m i 1) (topV m i 0) with
    | none => exact TL.thr (pops_len hi _)
    | some c => exact TL.ok _
  have hf : ∀ y, TL t.stack.length i (forP m i op y) := by
    intro y
    unfold forP
    dsimp only
    repeat' refine TL.ite ?_ ?_
    all_goals first
      | exact TL.ok _
      | exact TL.thr h0
      | skip
    cases (m.tabs.getD ((m.th i).stack.getD y nilV).n tab0).next ((m.th i).stack.getD (y + 1) nilV) with
    | none => exact TL.thr h0
    | some c => exact TL.ok _
  have hc : ∀ b c, TL t.stack.length i (match closure m i b c x with
    | (.inl fl, m1) => (.inl fl, m1)
    | (.inr c, m1) => (.inr (), push m1 i [⟨5, c, []⟩]) : RR Unit) := by
    intro b c
    unfold closure
    dsimp only
    by_cases h : m.clos.length ≥ 24
    · rw [if_pos h]
      exact TL.trap _ _
    · rw [if_neg h]
      exact TL.ok _
  unfold plainP
  dsimp only
  generalize operP m i op x = ro at ho ⊢
  have hf := hf ((topF m i).base + x)
  generalize forP m i op ((topF m i).base + x) = fo at hf ⊢
  repeat' refine TL.ite ?_ ?_
  all_goals first
    | exact TL.ok _
    | exact TL.trap _ _
    | exact TL.thr h0
    | exact TL.thr (pops_len hi _)
    | exact TL.store (pops_len hi _)
    | exact ho
    | exact hf
    | exact hc _ _
theorem TL.built (n b : Nat) {a0 a1 : Vl} {m : VMD} (h : (m.th i).stack.length ≤ n) : TL n i (builtinP m b a0 a1) := by
  unfold builtinP
  dsimp only
  repeat' refine TL.ite ?_ ?_
  all_goals first
    | exact TL.ok _
    | exact TL.trap _ _
    | exact TL.thr h
    | exact fun v e => h
    | skip
  cases (m.tabs.getD a0.n tab0).next a1 with
  | none => exact TL.thr h
  | some c => exact TL.ok _
theorem TL.call (hi : m.ths[i]? = some t) (x : Nat) : TL t.stack.length i (callP m i x) := by
  have h0 : ((setPc m i ((topF m i).pc + 1)).th i).stack.length ≤ t.stack.length := by
    unfold setPc
    dsimp only
    rw [th_get (setTh_get hi), th_get hi]
    exact Nat.le_refl _
  unfold callP
  dsimp only
  generalize setPc m i ((topF m i).pc + 1) = m1 at h0 ⊢
  repeat' refine TL.ite ?_ ?_
  all_goals first
    | exact TL.ok _
    | exact TL.trap _ _
    | exact TL.thr h0
    | skip
  generalize hb : builtinP _ _ _ _ = r
  have h1 := hb ▸ TL.built (i := i) _ _ h0
  obtain ⟨r1, m2⟩ := r
  cases r1 with
  | inl fl => exact fun v e => h1 v (by cases e; rfl)
  | inr p => exact TL.ok _
theorem TL.instr (hi : m.ths[i]? = some t) : TL t.stack.length i (instrP m i).2 := by
  have it : ∀ {c : Prop} [Decidable c] {a b : Bool × RR EvD}, TL t.stack.length i a.2 → TL t.stack.length i b.2 → TL t.stack.length i (if c then a else b).2 := by
    intro c _ a b h1 h2
    split
    · exact h1
    · exact h2
  unfold instrP
  dsimp only
  repeat' refine it ?_ ?_
  all_goals first
    | exact TL.ok _
    | exact TL.trap _ _
    | exact TL.call hi _
    | skip
  · unfold retP
    dsimp only
    exact TL.ite (TL.ok _) (TL.ok _)
  · have h1 := TL.plain hi (m.code.getD ((m.proto (topF m i).clo).code + (topF m i).pc) (0, 0)).1 (m.code.getD ((m.proto (topF m i).clo).code + (topF m i).pc) (0, 0)).2
    generalize plainP _ _ _ _ = r at h1 ⊢
    obtain ⟨r1, m2⟩ := r
    cases r1 with
    | inl fl => exact fun v e => h1 v (by cases e; rfl)
    | inr p => exact TL.ok _
end
end Go.Proofs.Qxb6500574aGreatDoor
