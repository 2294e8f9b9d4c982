/-
  moon: typed frames through an instruction, whatever it is. Plain; no memory, no walk.
-/
import Derived.Test.Qxb6500574aGreatDoorWTy4
namespace Go.Proofs.Qxb6500574aGreatDoor
set_option linter.unusedVariables false
set_option linter.unusedSimpArgs false
section
variable {S : Nat → Nat → Ty → Prop} {K K' : Cx} {m m' m1 : VMD} {i : Nat} {t t1 : ThD} {f : FmD} {a b : Ty}
/-- the function at hand as code sees it -/
structure Fxm (K : Cx) (m : VMD) (f : FmD) (X : Fx) : Prop where
  ns : X.ns = K.ns f.clo
  nup : X.nup = (m.clos.getD f.clo cl0).nup
  nk : X.consts.length = (m.proto f.clo).nk
  ks : ∀ x, x < (m.proto f.clo).nk → X.consts.getD x nilV = m.consts.getD ((m.proto f.clo).k + x) nilV
  nc : X.code.length = (m.proto f.clo).nc
  cd : ∀ x, x < (m.proto f.clo).nc → X.code.getD x (0, 0) = m.code.getD ((m.proto f.clo).code + x) (0, 0)
theorem Run.fx (h : Run S K m i t f a) : Fxm K m f (fxOf m (m.clos.getD f.clo cl0).p) := by
  obtain ⟨q, p, k1, k2, k3, k4, k5, _⟩ := h.at_.vi.proto h.at_.clo
  have P := h.at_.vi.txt.pr p k4
  have e1 : m.clos.getD f.clo cl0 = q := by simp [k1]
  have e2 : m.protos.getD (m.clos.getD f.clo cl0).p pr0 = m.proto f.clo := rfl
  have hp : m.proto f.clo = p := k3
  refine ⟨?_, ?_, ?_, fun x hx => ?_, ?_, fun x hx => ?_⟩
  · rw [← h.at_.ns]; rfl
  · show (m.protos.getD (m.clos.getD f.clo cl0).p pr0).nup = _
    rw [e2, hp, e1, k5]
  · simp only [fxOf, e2, hp, List.length_take, List.length_drop]
    have := P.k
    omega
  · simp only [fxOf, e2, hp] at hx ⊢
    rw [List.getD_eq_getElem?_getD, List.getElem?_take_of_lt hx, List.getElem?_drop, ← List.getD_eq_getElem?_getD]
  · simp only [fxOf, e2, hp, List.length_take, List.length_drop]
    have := P.c
    omega
  · simp only [fxOf, e2, hp] at hx ⊢
    rw [List.getD_eq_getElem?_getD, List.getElem?_take_of_lt hx, List.getElem?_drop, ← List.getD_eq_getElem?_getD]
/-- the plain instructions -/
theorem Run.plain (h : Run S K m i t f a) {op x : Nat} (ho : op ≠ 21 ∧ op ≠ 22 ∧ op ≠ 23 ∧ op ≠ 24 ∧ op ≠ 26 ∧ op ≠ 27)
    (g : opOk (fxOf m (m.clos.getD f.clo cl0).p) f.pc op x a (Goes (S (m.clos.getD f.clo cl0).p))) :
    soundP m i op x = true ∧ need op ≤ a.h ∧ a.h + grow op ≤ 128 ∧ PlTy S m i (plainP m i op x) := by
  have X := h.fx
  have ah := h.G.wf.h
  have hh := h.hh
  have tf := h.at_.topF
  obtain ⟨o1, o2, o3, o4, o5, o6⟩ := ho
  unfold opOk at g
  by_cases e1 : op = 1
  · subst e1
    simp only [if_true] at g
    refine ⟨?_, by simp [need], by simp [grow]; omega, ?_⟩
    · unfold soundP; rw [tf]; simp (config := { decide := true }) only [if_true, if_false, or_true, true_or, or_false, false_or]; rw [decide_eq_true_eq]; rw [← X.nk]; exact g.1
    · unfold plainP; simp only [if_true]; exact h.push g.2.2
  rw [if_neg e1] at g
  by_cases e2 : op = 2 ∨ op = 3 ∨ op = 4 ∨ op = 14
  · rw [if_pos e2] at g
    rcases e2 with rfl | rfl | rfl | rfl
    · exact ⟨by simp [soundP], by simp [need], by simp [grow]; omega, by unfold plainP; simp only [if_true, if_false, show (2 : Nat) ≠ 1 by decide]; exact h.push g.2⟩
    · exact ⟨by simp [soundP], by simp [need], by simp [grow]; omega, by unfold plainP; simp (config := { decide := true }) only [if_true, if_false]; exact h.push g.2⟩
    · exact ⟨by simp [soundP], by simp [need], by simp [grow]; omega, by unfold plainP; simp (config := { decide := true }) only [if_true, if_false]; exact h.push g.2⟩
    · refine ⟨by simp [soundP], by simp [need], by simp [grow]; omega, ?_⟩
      unfold plainP
      simp (config := { decide := true }) only [if_true, if_false]
      split
      · exact PlTy.trap (by decide)
      · rw [push_is (m := { m with tabs := m.tabs ++ [tab0] }) h.at_.hi]
        refine h.pl (k := 0) (vs := [⟨4, m.tabs.length, []⟩]) ⟨⟨rfl, rfl, rfl, rfl, fun _ _ => rfl, Nat.le_refl _⟩, rfl, fun j hj => ?_⟩ (Nat.zero_le _) ?_ g.2 ⟨rfl, rfl⟩ (by simp [Ty.push]) (fun e => by cases e)
        · simp only [VMD.setTh]
          rw [List.getElem?_set_ne (fun e => hj e.symm)]
        · rw [setTh_get (m := { m with tabs := m.tabs ++ [tab0] }) h.at_.hi]
          simp
  rw [if_neg e2] at g
  simp only [not_or] at e2
  obtain ⟨n2, n3, n4, n14⟩ := e2
  by_cases e5 : op = 5
  · subst e5
    simp only [if_true] at g
    refine ⟨?_, by simp [need], by simp [grow]; omega, ?_⟩
    · unfold soundP; rw [tf]; simp (config := { decide := true }) only [if_true, if_false, or_true, true_or, or_false, false_or]; rw [decide_eq_true_eq]; rw [h.at_.ns, ← X.ns]; exact g.1
    · unfold plainP; simp (config := { decide := true }) only [if_true, if_false]; exact h.push g.2.2
  rw [if_neg e5] at g
  by_cases e6 : op = 6
  · subst e6
    simp only [if_true] at g
    refine ⟨?_, by simp [need]; omega, by simp [grow]; omega, ?_⟩
    · unfold soundP; rw [tf]; simp (config := { decide := true }) only [if_true, if_false, or_true, true_or, or_false, false_or]; rw [decide_eq_true_eq]; rw [h.at_.ns, ← X.ns]; exact g.1
    · unfold plainP
      simp (config := { decide := true }) only [if_true, if_false, tf, th_get h.at_.hi]
      exact h.setl (by rw [← X.ns]; exact g.1) g.2.1 g.2.2.1 g.2.2.2
  rw [if_neg e6] at g
  by_cases e7 : op = 7
  · subst e7
    simp only [if_true] at g
    refine ⟨?_, by simp [need], by simp [grow]; omega, ?_⟩
    · unfold soundP; rw [tf]; simp (config := { decide := true }) only [if_true, if_false, or_true, true_or, or_false, false_or]; rw [decide_eq_true_eq]; rw [← X.nup]; exact g.1
    · unfold plainP; simp (config := { decide := true }) only [if_true, if_false]; exact h.push g.2.2
  rw [if_neg e7] at g
  by_cases e8 : op = 8
  · subst e8
    simp only [if_true] at g
    refine ⟨?_, by simp [need]; omega, by simp [grow]; omega, ?_⟩
    · unfold soundP; rw [tf]; simp (config := { decide := true }) only [if_true, if_false, or_true, true_or, or_false, false_or]; rw [decide_eq_true_eq]; rw [← X.nup]; exact g.1
    · unfold plainP
      simp (config := { decide := true }) only [if_true, if_false, tf]
      exact h.setu (by rw [← X.nup]; exact g.1) g.2.1 _ g.2.2
  rw [if_neg e8] at g
  by_cases e9 : op = 9
  · subst e9
    simp only [if_true] at g
    refine ⟨?_, by simp [need], by simp [grow]; omega, ?_⟩
    · unfold soundP
      rw [tf]
      have h1 := g.1
      have h2 := g.2.1
      rw [X.nk] at h1
      rw [X.ks x h1] at h2
      simp (config := { decide := true }) only [if_true, if_false, or_true, true_or, or_false, false_or]
      rw [decide_eq_true_eq]
      exact ⟨h1, h2⟩
    · unfold plainP; simp (config := { decide := true }) only [if_true, if_false]; exact h.push g.2.2.2
  rw [if_neg e9] at g
  by_cases e10 : op = 10
  · subst e10
    simp only [if_true] at g
    refine ⟨?_, by simp [need]; omega, by simp [grow]; omega, ?_⟩
    · unfold soundP
      rw [tf]
      have h1 := g.1
      have h2 := g.2.1
      rw [X.nk] at h1
      rw [X.ks x h1] at h2
      simp (config := { decide := true }) only [if_true, if_false, or_true, true_or, or_false, false_or]
      rw [decide_eq_true_eq]
      exact ⟨h1, h2⟩
    · unfold plainP; simp (config := { decide := true }) only [if_true, if_false]; exact h.store g.2.2.1 _ _ _ g.2.2.2
  rw [if_neg e10] at g
  by_cases e11 : op = 11 ∨ op = 13 ∨ op = 17
  · rw [if_pos e11] at g
    rcases e11 with rfl | rfl | rfl
    · refine ⟨by simp [soundP], by simp [need]; omega, by simp [grow]; omega, ?_⟩
      unfold plainP
      simp (config := { decide := true }) only [if_true, if_false]
      split
      · exact h.fly (h.pops 2).1 g.1 (h.pops 2).2
      · exact h.pp (k := 1) (by omega) g.2 ⟨rfl, rfl⟩ rfl (fun e => by cases e)
    · refine ⟨by simp [soundP], by simp [need]; omega, by simp [grow]; omega, ?_⟩
      unfold plainP
      simp (config := { decide := true }) only [if_true, if_false]
      split
      · exact h.fly (k := 1) (h.pops 1).1 (by omega) (h.pops 1).2
      · exact h.store (by omega) _ _ _ g.2
    · refine ⟨by simp [soundP], by simp [need]; omega, by simp [grow]; omega, ?_⟩
      unfold plainP operP
      simp (config := { decide := true }) only [if_true, if_false]
      split
      · exact h.fly (h.pops 2).1 g.1 (h.pops 2).2
      · split
        · exact h.fly (h.pops 2).1 g.1 (h.pops 2).2
        · exact h.pp (k := 1) (by omega) g.2 ⟨rfl, rfl⟩ rfl (fun e => by cases e)
  rw [if_neg e11] at g
  simp only [not_or] at e11
  by_cases e12 : op = 12
  · subst e12
    simp only [if_true] at g
    refine ⟨by simp [soundP], by simp [need]; omega, by simp [grow]; omega, ?_⟩
    unfold plainP
    simp (config := { decide := true }) only [if_true, if_false]
    split
    · exact h.fly (h.pops 3).1 g.1 (h.pops 3).2
    · exact h.store g.1 _ _ _ g.2
  rw [if_neg e12] at g
  by_cases e15 : op = 15
  · subst e15
    simp only [if_true] at g
    refine ⟨by simp [soundP, g.1, g.2.1], by simp [need]; omega, by simp [grow]; omega, ?_⟩
    unfold plainP operP
    simp (config := { decide := true }) only [if_true, if_false]
    split
    · exact h.fly (h.pops 2).1 g.2.2.1 (h.pops 2).2
    · exact h.pp (k := 1) (by omega) g.2.2.2 ⟨rfl, rfl⟩ rfl (fun _ => rfl)
  rw [if_neg e15] at g
  by_cases e16 : op = 16
  · subst e16
    simp only [if_true] at g
    refine ⟨by simp [soundP, g.1, g.2.1], by simp [need]; omega, by simp [grow]; omega, ?_⟩
    unfold plainP operP
    simp (config := { decide := true }) only [if_true, if_false]
    split
    · exact h.fly (h.pops 2).1 g.2.2.1 (h.pops 2).2
    · exact h.pp (k := 1) (by omega) g.2.2.2 ⟨rfl, rfl⟩ rfl (fun e => by cases e)
  rw [if_neg e16] at g
  by_cases e18 : op = 18 ∨ op = 19 ∨ op = 20
  · rw [if_pos e18] at g
    have pp : ∀ v : Vl, PlTy S m i (.inr (), Go.Proofs.Qxb6500574aGreatDoor.push (Go.Proofs.Qxb6500574aGreatDoor.pops m i 1) i [v]) := fun v => h.pp (k := 0) (by omega) g.2 ⟨rfl, rfl⟩ (by simp [Ty.pop]) (fun e => by cases e)
    rcases e18 with rfl | rfl | rfl
    · refine ⟨by simp [soundP], by simp [need]; omega, by simp [grow]; omega, ?_⟩
      unfold plainP operP
      simp (config := { decide := true }) only [if_true, if_false]
      exact pp _
    · refine ⟨by simp [soundP], by simp [need]; omega, by simp [grow]; omega, ?_⟩
      unfold plainP operP
      simp (config := { decide := true }) only [if_true, if_false]
      split
      · exact h.fly (h.pops 1).1 g.1 (h.pops 1).2
      · exact pp _
    · refine ⟨by simp [soundP], by simp [need]; omega, by simp [grow]; omega, ?_⟩
      unfold plainP operP
      simp (config := { decide := true }) only [if_true, if_false]
      split
      · exact pp _
      · split
        · exact h.fly (h.pops 1).1 g.1 (h.pops 1).2
        · exact pp _
  rw [if_neg e18] at g
  simp only [not_or] at e18
  rw [if_neg o1, if_neg o2, if_neg (by simp [o3, o4])] at g
  by_cases e25 : op = 25
  · subst e25
    simp only [if_true] at g
    refine ⟨by simp [soundP], by simp [need]; omega, by simp [grow]; omega, ?_⟩
    unfold plainP
    simp (config := { decide := true }) only [if_true, if_false]
    exact h.pl (h.pops 1).1 g.1 (vs := []) (by rw [List.append_nil]; exact (h.pops 1).2) g.2 ⟨rfl, rfl⟩ (by simp [Ty.pop]) (fun e => by cases e)
  rw [if_neg e25, if_neg o5, if_neg o6] at g
  by_cases e28 : op = 28
  · subst e28
    simp only [if_true] at g
    obtain ⟨c1, c2⟩ := h.closure g.2.1 g.2.2
    refine ⟨c1, by simp [need], by simp [grow]; omega, ?_⟩
    unfold plainP
    simp (config := { decide := true }) only [if_true, if_false, tf]
    exact c2
  rw [if_neg e28] at g
  by_cases e29 : op = 29
  · subst e29
    simp only [if_true] at g
    have hx : x ≤ K.ns f.clo := by rw [← X.ns]; exact g.1
    refine ⟨?_, by simp [need], by simp [grow]; omega, ?_⟩
    · unfold soundP; rw [tf]; simp (config := { decide := true }) only [if_true, if_false, or_true, true_or, or_false, false_or]; rw [decide_eq_true_eq]; rw [h.at_.ns]; exact hx
    · unfold plainP
      simp (config := { decide := true }) only [if_true, if_false, tf]
      exact h.close hx g.2
  rw [if_neg e29] at g
  by_cases e30 : op = 30
  · subst e30
    simp only [if_true] at g
    have hx : x + 3 < K.ns f.clo := by rw [← X.ns]; exact g.1
    refine ⟨?_, by simp [need], by simp [grow]; omega, ?_⟩
    · unfold soundP; rw [tf]; simp (config := { decide := true }) only [if_true, if_false, or_true, true_or, or_false, false_or]; rw [decide_eq_true_eq]; rw [h.at_.ns]; exact hx
    · unfold plainP
      simp (config := { decide := true }) only [if_true, if_false, tf]
      exact h.chk hx g.2.2
  rw [if_neg e30] at g
  by_cases e31 : op = 31
  · subst e31
    simp only [if_true] at g
    have hx : x + 3 < K.ns f.clo := by rw [← X.ns]; exact g.1
    refine ⟨?_, by simp [need], by simp [grow]; omega, ?_⟩
    · have z0 := h.fi.F x g.2.1 0 (by decide)
      have z1 := h.fi.F x g.2.1 1 (by decide)
      have z2 := h.fi.F x g.2.1 2 (by decide)
      unfold soundP
      rw [tf, th_get h.at_.hi]
      simp (config := { decide := true }) only [if_true, if_false]
      rw [decide_eq_true_eq, h.at_.ns]
      exact ⟨hx, z0, z1, z2⟩
    · unfold plainP forP
      simp (config := { decide := true }) only [if_true, if_false, tf]
      exact h.push g.2.2.2
  rw [if_neg e31] at g
  by_cases e32 : op = 32
  · subst e32
    simp only [if_true] at g
    have hx : x + 3 < K.ns f.clo := by rw [← X.ns]; exact g.1
    refine ⟨?_, by simp [need], by simp [grow]; omega, ?_⟩
    · unfold soundP; rw [tf]; simp (config := { decide := true }) only [if_true, if_false, or_true, true_or, or_false, false_or]; rw [decide_eq_true_eq]; rw [h.at_.ns]; exact hx
    · unfold plainP
      simp (config := { decide := true }) only [if_true, if_false, tf]
      exact h.nxt hx g.2.1 g.2.2.2
  rw [if_neg e32] at g
  exact g.elim
end
end Go.Proofs.Qxb6500574aGreatDoor
