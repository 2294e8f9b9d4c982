/-
  moon: WHAT A RUN OF A SOUND TEXT ANSWERS. Plain; no memory, no walk.
-/
import Derived.Test.Qxb6500574aGreatDoorWIm2
import Derived.Test.Qxb6500574aGreatDoorWEr
import Derived.Test.Qxb6500574aGreatDoorVInv9
namespace Go.Proofs.Qxb6500574aGreatDoor
set_option linter.unusedVariables false
set_option linter.unusedSimpArgs false
theorem run_more {n : Nat} {s : Bs} {A : Int} {a : AnD} {m : VMD} (hl : loadP s = .inr m) (h : runN n s A = some a) (h9 : a.e ≠ 9) (hA : 0 ≤ A) : runN n s (A + 1) = some { a with n := a.n + 1 } := by
  unfold runN at h ⊢
  rw [hl] at h ⊢
  dsimp only at h ⊢
  have e1 : (A + 1).toNat = A.toNat + 1 := by omega
  rw [e1]
  cases h1 : coP n 0 nilV nilV A.toNat m 0 with
  | none => rw [h1] at h; cases h
  | some r =>
    obtain ⟨rb, fu, m1, st⟩ := r
    rw [h1] at h
    dsimp only at h
    by_cases hh : rb.how = 3
    · rw [if_pos hh] at h
      cases h
      have q := coP_more 1 h1 (fun x => h9 x.2)
      rw [q]
      dsimp only
      rw [if_pos hh]
    · rw [if_neg hh] at h
      cases h
      have q := coP_more 1 h1 (fun x => hh x.1)
      rw [q]
      dsimp only
      rw [if_neg hh]
/-- what a run of a sound text answers -/
structure RunK (img : Bs) (A : Int) (a : AnD) : Prop where
  e : a.e = 0 ∨ a.e = 12 ∨ a.e = 9 ∨ a.e = 8 ∨ a.e = 10
  t : a.t ≠ []
  m : a.m < 5
  n : (a.n : Int) ≤ max A 0
  z : A ≤ 0 → a.s = []
  k : 0 ≤ A → ∃ n2 b, runN n2 img (A + 1) = some b ∧ (a.e = 9 → a.s <+: b.s) ∧ (a.e ≠ 9 → b = { a with n := a.n + 1 })
theorem image_load {src img : Bs} (h : imageP src = .inr img) : ∃ m, loadP img = .inr m := by
  obtain ⟨im, S, h1, h2, h3, h4⟩ := image_ok h
  exact ⟨loadM im, by unfold loadP; rw [if_neg (by omega), h3]⟩
theorem run_good {src img : Bs} (h : imageP src = .inr img) (A : Int) : ∃ n a, runN n img A = some a ∧ RunK img A a := by
  obtain ⟨n, a, hr⟩ := run_ends img A
  obtain ⟨m, hl⟩ := image_load h
  have K := run_kept hl hr
  have h11 := image_run h hr
  have he := K.e
  refine ⟨n, a, hr, ⟨by omega, K.t0, K.m, K.n, fun hA => (K.z hA).2.2, fun hA => ?_⟩⟩
  obtain ⟨n2, b, hb⟩ := run_ends img (A + 1)
  refine ⟨n2, b, hb, fun e9 => ?_, fun e9 => run_det hb (run_more hl hr e9 hA)⟩
  by_cases h0 : 0 < A
  · exact ((K.f e9).2 n2 b hb h0).2
  · rw [(K.z (by omega)).2.2]
    exact List.nil_prefix
/-- a text's error, or its image -/
theorem image_cases (src : Bs) : (∃ e p, imageP src = .inl (e, p) ∧ SynE e ∧ p ≤ src.length ∧ (e = 1 ↔ 2048 < src.length)) ∨ ∃ img, imageP src = .inr img ∧ src.length ≤ 2048 ∧ 1 ≤ img.length ∧ img.length ≤ 31748 := by
  unfold imageP
  cases hx : treeP src with
  | inl y =>
    obtain ⟨e, p⟩ := y
    obtain ⟨h1, h2, h3⟩ := tree_err hx
    exact .inl ⟨e, p, rfl, h1, h2, h3⟩
  | inr x =>
    right
    have hi : imageP src = .inr (layP (comP x.1 x.2)) := by unfold imageP; rw [hx]
    obtain ⟨im, S, h1, h2, h3, h4⟩ := image_ok hi
    exact ⟨_, rfl, tree_len hx, h1, h2⟩
end Go.Proofs.Qxb6500574aGreatDoor
