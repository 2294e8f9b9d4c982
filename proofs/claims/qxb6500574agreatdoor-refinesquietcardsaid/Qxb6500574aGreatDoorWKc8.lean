/-
  moon: WHAT A COMPILER HOLDS BETWEEN TWO CALLS IS SOUND. Plain; no walk.
-/
import Derived.Test.Qxb6500574aGreatDoorWRu0
import Derived.Test.Qxb6500574aGreatDoorWKc2
namespace Go.Proofs.Qxb6500574aGreatDoor
open Go Go.RowKit
set_option linter.unusedVariables false
set_option linter.unusedSimpArgs false
/-- what Check asks beyond CheckMid -/
structure ClOk (c : CmD) (x : Nat) : Prop where
  loc : (c.fn x).locals.length = (c.fn x).np
  tl : ∃ s1, (c.fn x).code = s1 ++ [(2, 0), (2, 0), (27, 0)]
  par : x = 0 ↔ (c.fn x).parent = none
theorem DI2.mid {N : List Nd} {D : CmD} {b : Nat} (h : DI2 N D b) (hN : N.length ≤ 301) {x : Nat} (hx : x < D.np) : MidOk D x ∧ ClOk D x := by
  have hnp := h.np
  have hb := h.b12
  obtain ⟨R, hu⟩ := h.one hN (by omega : x ≤ b)
  by_cases e : x = 0
  · subst e
    obtain ⟨f1, f2, f3, f4, f5, f6, f7, f8, f9, f10, f11⟩ := h.f0
    refine ⟨⟨by omega, by omega, by rw [f3]; simp, f6, ⟨by rw [f2]; exact List.nodup_nil, hu, fun d hd => (by rw [f2] at hd; cases hd), fun d hd => (by rw [f2] at hd; cases hd)⟩, by omega, f7, by omega, f4, fun i hi => ?_⟩, ⟨by rw [f1, f3]; rfl, f9, by simp [f5]⟩⟩
    have := (f8 i hi).room (by omega) f6 (by omega) (by omega) (by omega)
    exact ⟨f8 i hi, by omega, by omega⟩
  · have F := h.fn x (by omega) (by omega)
    have c1 := F.cl
    have c2 := F.kl
    have c3 := F.loc
    have c4 := F.npn
    obtain ⟨f, L, p1, p2, p3, p4, p5⟩ := F.par
    refine ⟨⟨F.np3, by omega, by omega, F.n12, ⟨p4, hu, fun d hd => by have := R.us d hd; omega, fun d hd => ⟨f, p1, by omega, ?_⟩⟩, by omega, F.cn, by omega, F.lps, fun i hi => ?_⟩, ⟨F.loc, F.tl, by rw [p1]; simp [e]⟩⟩
    · rcases p5 d hd with ⟨y, s, _, z⟩ | y
      · have := (List.getElem?_eq_some_iff.1 z).1
        exact .inl ⟨y, by omega⟩
      · exact .inr y
    · have := (F.ft i hi).room (by omega) F.n12 (by omega) (by omega) (by omega)
      exact ⟨F.ft i hi, by omega, by omega⟩
/-- all that Check asks of what is held -/
structure HeldK (C : CC) (c : CmD) : Prop where
  one : ∀ x, x < c.np → MidOk c x ∧ ClOk c x
  len : C.bl.length ≤ 32768
  bl : (c.np = 0 ∧ C.bl = []) ∨ (1 ≤ c.np ∧ C.bl = layP c)
theorem HeldC.k {C : CC} {c : CmD} (h : HeldC C c) : HeldK C c := by
  rcases h with ⟨rfl, hb⟩ | ⟨src, N, root, ht, rfl, hb⟩
  · exact ⟨fun x hx => absurd hx (Nat.not_lt_zero x), by rw [hb]; simp, .inl ⟨rfl, hb⟩⟩
  · have T := tree_shape ht
    obtain ⟨h0, hl⟩ := tree_zero ht
    obtain ⟨b, l, al', C', hc, hs⟩ := com_ok T h0
    have F := com_fits T.le h0 C' hc hs
    have hi : imageP src = .inr (layP (comP N root)) := by unfold imageP; rw [ht]
    obtain ⟨im, S, h1, h2, h3, h4⟩ := image_ok hi
    exact ⟨fun x hx => F.mid T.le hx, by rw [hb]; omega, .inr ⟨by have := F.np; omega, hb⟩⟩
end Go.Proofs.Qxb6500574aGreatDoor
