/-
  THE WALK of comp: what Image leans on.
-/
import Derived.Test.Qxb6500574aGreatDoorWLy6
import Derived.Test.Qxb6500574aGreatDoorWPs1
namespace Go.Proofs.Qxb6500574aGreatDoor
open Go Go.RowKit
set_option linter.unusedVariables false
set_option linter.unusedSimpArgs false
open Go.Lib
section
variable {Q : Nat → Prop} {w w1 : World} {o o1 : Nat → Nat} {C : CC} {N : List Nd} {c : CmD}
/-- a block that bore no label gets one: the parser does not mind -/
theorem SyRep.lab {sx : Nat} {num : Value} {T : List Tok} {A : List Nd} (h : SyRep w o sx num T A) {g lb : Nat} (hg : o g = 0) (hl : g < w.heap.size) : SyRep w (upd o g lb) sx num T A := by
  have key : ∀ k l, o k = l → l ≠ 0 → upd o g lb k = l := fun k l e hl => by
    rw [upd_ne o lb (fun e2 => by rw [e2, hg] at e; exact hl e.symm)]
    exact e
  obtain ⟨sl, sn, a1, a2, a3⟩ := h.ex
  refine ⟨⟨sl, sn, ⟨a1.has, key _ _ a1.lb (by decide)⟩, ⟨a2.own, fun k hk => key _ _ (a2.lb k hk) (by decide)⟩, ⟨a3.own, fun k hk => key _ _ (a3.lb k hk) (by decide)⟩⟩, ?_, ?_, ?_, fun k hk => by rw [upd_ne o lb (by omega)]; exact h.ow k hk⟩
  · obtain ⟨b, j, c, h1, h2, h3, h4, h5, h6⟩ := h.k.ex
    exact ⟨b, j, c, h1, h2, h3, key _ _ h4 (by decide), key _ _ h5 (by decide), h6⟩
  · obtain ⟨b, j, c, h1, h2, h3, h4, h5, h6⟩ := h.g.ex
    exact ⟨b, j, c, h1, h2, h3, key _ _ h4 (by decide), key _ _ h5 (by decide), h6⟩
  · obtain ⟨b, j, c, h1, h2, h3, h4, h5, h6⟩ := h.b.ex
    exact ⟨b, j, c, h1, h2, h3, key _ _ h4 (by decide), key _ _ h5 (by decide), h6⟩
/-- with no tree at hand a step of the parser does not touch it -/
theorem CRep.stN (h : CRep w o C [] c) (hsn : C.sn = sl0) (t : Stp Q w o w1 o1) (h0 : ¬ Q 0) (hq : ∀ l, QC l → ¬ Q l) : CRep w1 o1 C [] c := by
  obtain ⟨xs, a1, a2, a3⟩ := h.fns
  exact ⟨h.blk.st t (hq _ (by unfold QC; omega)), by rw [hsn]; exact Row.nil _ _ _ _ _, h.buf.st t (hq _ (by unfold QC; omega)), ⟨xs, a1.st t h0 (hq _ (by unfold QC; omega)) (fun x j => hq _ (by unfold QC labF; omega)), a2, a3⟩, h.len, h.np, t.hi h.ow⟩
/-- a tree is taken up -/
theorem CRep.take (h : CRep w o C N c) {g n : Nat} {N' : List Nd} (hown : w.ownsRow 0 134 8 (.slice (some ⟨g, 0, none⟩) n n) n (N'.flatMap ndV)) (hn : N'.length = n) (hg : o g = 1042) :
    CRep (w.setCell ⟨C.cb, 2, none⟩ (.slice (some ⟨g, 0, none⟩) n n)) o { C with sn := ⟨some ⟨g, 0, none⟩, n⟩ } N' c ∧ Stp (fun l => l = 1050) w o (w.setCell ⟨C.cb, 2, none⟩ (.slice (some ⟨g, 0, none⟩) n n)) o := by
  obtain ⟨p1, p2⟩ := h.blk.put 2 (.slice (some ⟨g, 0, none⟩) n n) (cs' := comC { C with sn := ⟨some ⟨g, 0, none⟩, n⟩ } N'.length c.np) (by simp [comC, Sl.v, hn])
  obtain ⟨xs, a1, a2, a3⟩ := h.fns
  have r : Row w o 1042 134 8 ⟨some ⟨g, 0, none⟩, n⟩ N'.length (N'.flatMap ndV) := ⟨by rw [hn]; exact hown, fun k hk => by simp [Value.ownBlock] at hk; subst hk; exact hg⟩
  exact ⟨⟨p1, r.st p2 (by omega), h.buf.st p2 (by omega), ⟨xs, a1.st p2 (by omega) (by omega) (fun x j => by unfold labF; omega), a2, a3⟩, h.len, h.np, p2.hi h.ow⟩, p2⟩
theorem CRep.drop (h : CRep w o C N c) : CRep (w.setCell ⟨C.cb, 2, none⟩ (.slice none 0 0)) o { C with sn := sl0 } [] c ∧ Stp (fun l => l = 1050) w o (w.setCell ⟨C.cb, 2, none⟩ (.slice none 0 0)) o := by
  obtain ⟨p1, p2⟩ := h.blk.put 2 (.slice none 0 0) (cs' := comC { C with sn := sl0 } 0 c.np) (by simp [comC, Sl.v, sl0])
  obtain ⟨xs, a1, a2, a3⟩ := h.fns
  exact ⟨⟨p1, Row.nil _ _ _ _ _, h.buf.st p2 (by omega), ⟨xs, a1.st p2 (by omega) (by omega) (fun x j => by unfold labF; omega), a2, a3⟩, h.len, h.np, p2.hi h.ow⟩, p2⟩
theorem CRep.zero (h : CRep w o C N c) : CRep (w.setCell ⟨C.cb, 4, none⟩ (.int .i64 0)) o C N cm00 ∧ Stp (fun l => l = 1050) w o (w.setCell ⟨C.cb, 4, none⟩ (.int .i64 0)) o := by
  obtain ⟨p1, p2⟩ := h.blk.put 4 (.int .i64 0) (cs' := comC C N.length 0) (by simp [comC])
  obtain ⟨xs, a1, a2, a3⟩ := h.fns
  exact ⟨⟨p1, h.nds.st p2 (by omega), h.buf.st p2 (by omega), ⟨xs, a1.st p2 (by omega) (by omega) (fun x j => by unfold labF; omega), a2, fun x hx => absurd hx (Nat.not_lt_zero x)⟩, rfl, Nat.zero_le _, p2.hi h.ow⟩, p2⟩
end
/-- every state of a finished compilation can be laid -/
theorem DI2.lay {N : List Nd} {D : CmD} {b : Nat} (h : DI2 N D b) (hN : N.length ≤ 301) : ∀ x, x < D.np → LyOk (D.fn x) ∧ 7 + 2 * (D.fn x).ups.length + 42 * (D.fn x).consts.length + 3 * (D.fn x).code.length ≤ 30000 := by
  intro x hx
  have hnp := h.np
  obtain ⟨F, hu⟩ := h.one hN (by omega : x ≤ b)
  have hk : (D.fn x).consts.length ≤ 300 ∧ (D.fn x).code.length ≤ 5104 := by
    by_cases e : x = 0
    · subst e
      obtain ⟨f1, f2, f3, f4, f5, f6, f7, f8, f9, f10, f11⟩ := h.f0
      omega
    · have G := h.fn x (by omega) (by omega)
      have c1 := G.cl
      have c2 := G.kl
      omega
  have h1 := F.np
  have h2 := F.ns
  exact ⟨⟨by omega, by omega, F.ul, fun d hd => by have := F.us d hd; omega, F.kl, F.ks, F.cl, F.cs⟩, by omega⟩
/-- at the main chunk's beginning -/
theorem main_cb {w : World} {o : Nat → Nat} {C : CC} {N : List Nd} (R : CRep w o C N (cm00.fresh 0 none)) (hN : N.length ≤ 301) : CB w o C N 0 [] [] 0 (17 * (N.length - 1) + 4) (N.length - 1) (cm00.fresh 0 none) := by
  have f0 := fn_fresh cm00 (x := 0) (by decide) none
  have e0 : (cm00.fresh 0 none).fn 0 = { fn0 with parent := none } := by rw [f0, if_pos rfl]
  have I0 : Inv (cm00.fresh 0 none) [(0, [])] := by
    refine ⟨⟨by decide, by rw [e0]; rfl, by rw [e0]; rfl, fun x hx => by cases hx⟩, by rw [e0]; exact ⟨Nat.le_refl _, Nat.zero_le _⟩, ?_, by rw [e0]; exact ⟨List.nodup_nil, fun v hv => by cases hv⟩, (rfl : (cm00.fresh 0 none).fns.length = 13)⟩
    show ((cm00.fresh 0 none).fn 0).ups = []
    rw [e0]
    rfl
  exact ⟨R, I0, Nat.le_refl _, rfl, by rw [e0]; simp [fn0]; omega, by rw [e0]; simp [fn0]; omega⟩
end Go.Proofs.Qxb6500574aGreatDoor
