/-
  moon: WHERE VARIABLES LIE: capturing; a new closure's upvalues. Plain; no memory, no walk.
-/
import Derived.Test.Qxb6500574aGreatDoorZM3
namespace Go.Proofs.Qxb6500574aGreatDoor
set_option linter.unusedVariables false
set_option linter.unusedSimpArgs false
/-- cells and upvalues have grown; stacks stay -/
structure GrC (m m' : VMD) : Prop where
  cl : m.cells.length ≤ m'.cells.length
  ce : ∀ c, c < m.cells.length → m'.cells.getD c ce0 = m.cells.getD c ce0
  st : ∀ y, (m'.th y).stack = (m.th y).stack
  fr : ∀ y, (m'.th y).frames = (m.th y).frames
  ss : ∀ y, (m'.th y).st = (m.th y).st
  fn : ∀ y, (m'.th y).fn = (m.th y).fn
  tl : m'.ths.length = m.ths.length
  ux : m.upix <+: m'.upix
  co : m'.clos = m.clos ∧ m'.protos = m.protos ∧ m'.descs = m.descs ∧ m'.consts = m.consts ∧ m'.code = m.code ∧ m'.tabs = m.tabs ∧ m'.out = m.out
section
variable {m m' m2 : VMD} {E : List EnD} {P : List (Option Lc)} {K : Cx} {i a c n : Nat} {t : ThD}
theorem GrC.refl (m : VMD) : GrC m m := ⟨Nat.le_refl _, fun _ _ => rfl, fun _ => rfl, fun _ => rfl, fun _ => rfl, fun _ => rfl, rfl, List.prefix_refl _, rfl, rfl, rfl, rfl, rfl, rfl, rfl⟩
theorem GrC.trans (h : GrC m m') (g : GrC m' m2) : GrC m m2 :=
  ⟨Nat.le_trans h.cl g.cl, fun c hc => (g.ce c (Nat.lt_of_lt_of_le hc h.cl)).trans (h.ce c hc), fun y => (g.st y).trans (h.st y), fun y => (g.fr y).trans (h.fr y), fun y => (g.ss y).trans (h.ss y), fun y => (g.fn y).trans (h.fn y), g.tl.trans h.tl, h.ux.trans g.ux,
    g.co.1.trans h.co.1, g.co.2.1.trans h.co.2.1, g.co.2.2.1.trans h.co.2.2.1, g.co.2.2.2.1.trans h.co.2.2.2.1, g.co.2.2.2.2.1.trans h.co.2.2.2.2.1, g.co.2.2.2.2.2.1.trans h.co.2.2.2.2.2.1, g.co.2.2.2.2.2.2.trans h.co.2.2.2.2.2.2⟩
theorem VrR.grow (h : VrR m E P) (g : GrC m m') : VrR m' E P := by
  refine ⟨h.len, fun n l hl => ?_, h.inj, fun n x hx => by rw [g.st]; exact h.st n x hx, fun n c hc => ?_⟩
  · rw [h.val n l hl]
    cases l with
    | inl x => show _ = (m'.th x.1).stack.getD x.2 nilV; rw [g.st]; rfl
    | inr c => show _ = (m'.cells.getD c ce0).v; rw [g.ce c (h.ce n c hl).1]; rfl
  · have := h.ce n c hc
    rw [g.ce c this.1]
    exact ⟨Nat.lt_of_lt_of_le this.1 g.cl, this.2⟩
theorem CeN.grow (h : CeN m P c n) (g : GrC m m') (hc : c < m.cells.length) : CeN m' P c n := by
  unfold CeN
  rw [g.ce c hc]
  exact h
theorem th_set {j : Nat} {u : ThD} (hi : m.ths[i]? = some t) : ({ m with ths := m.ths.set i u } : VMD).th j = if j = i then u else m.th j := by
  have hl := (List.getElem?_eq_some_iff.1 hi).1
  by_cases e : j = i
  · subst e
    rw [if_pos rfl]
    simp [VMD.th, hl]
  · rw [if_neg e]
    simp only [VMD.th, List.getD_eq_getElem?_getD]
    rw [List.getElem?_set_ne (fun x => e x.symm)]
/-- the cell of a place -/
theorem cap_ok (V : VI K m) (hi : m.ths[i]? = some t) (a : Nat) : GrC m (capture m i a).2 ∧ (capture m i a).1 < (capture m i a).2.cells.length ∧ ((capture m i a).2.cells.getD (capture m i a).1 ce0).th = (i : Int) ∧ ((capture m i a).2.cells.getD (capture m i a).1 ce0).pos = a ∧ (capture m i a).2.upix = m.upix := by
  have ht : m.th i = t := by simp [VMD.th, hi]
  have hl := (List.getElem?_eq_some_iff.1 hi).1
  have O := (V.th i t hi).op
  unfold capture
  dsimp only
  rw [ht]
  have hle := capI_le m.cells a t.opn.length t.opn
  generalize capI m.cells a t.opn.length t.opn = j at hle
  split
  · rename_i h
    have hk : j - 1 < t.opn.length := by omega
    have e : t.opn.getD (j - 1) 0 = t.opn[j - 1] := by simp [hk]
    have hmem : t.opn.getD (j - 1) 0 ∈ t.opn := by rw [e]; exact List.getElem_mem hk
    obtain ⟨ce, h1, h2, _⟩ := O.ok _ hmem
    have h3 : m.cells.getD (t.opn.getD (j - 1) 0) ce0 = ce := by rw [List.getD_eq_getElem?_getD, h1]; rfl
    refine ⟨GrC.refl m, (List.getElem?_eq_some_iff.1 h1).1, ?_, h.2, rfl⟩
    show (m.cells.getD (t.opn.getD (j - 1) 0) ce0).th = _
    rw [h3]; exact h2
  · have hth : ∀ y, ({ m with cells := m.cells ++ [⟨(i : Int), a, nilV⟩], ths := m.ths.set i { t with opn := t.opn.take j ++ [m.cells.length] ++ t.opn.drop j } } : VMD).th y = if y = i then { t with opn := t.opn.take j ++ [m.cells.length] ++ t.opn.drop j } else m.th y := fun y => by
      by_cases e : y = i
      · subst e; rw [if_pos rfl]; simp [VMD.th, hl]
      · rw [if_neg e]
        simp only [VMD.th, List.getD_eq_getElem?_getD]
        rw [List.getElem?_set_ne (fun x => e x.symm)]
    have hcell : (m.cells ++ [(⟨(i : Int), a, nilV⟩ : CeD)]).getD m.cells.length ce0 = ⟨(i : Int), a, nilV⟩ := by
      rw [List.getD_eq_getElem?_getD, List.getElem?_append_right (Nat.le_refl _)]; simp
    refine ⟨⟨by simp, fun c hc => ?_, fun y => ?_, fun y => ?_, fun y => ?_, fun y => ?_, by simp, List.prefix_refl _, rfl, rfl, rfl, rfl, rfl, rfl, rfl⟩, by simp, ?_, ?_, rfl⟩
    · show (m.cells ++ [_]).getD c ce0 = _
      rw [List.getD_eq_getElem?_getD, List.getElem?_append_left hc, ← List.getD_eq_getElem?_getD]
    · rw [hth]; split
      · rename_i e; subst e; rw [ht]
      · rfl
    · rw [hth]; split
      · rename_i e; subst e; rw [ht]
      · rfl
    · rw [hth]; split
      · rename_i e; subst e; rw [ht]
      · rfl
    · rw [hth]; split
      · rename_i e; subst e; rw [ht]
      · rfl
    · show ((m.cells ++ [(⟨(i : Int), a, nilV⟩ : CeD)]).getD m.cells.length ce0).th = _
      rw [hcell]
    · show ((m.cells ++ [(⟨(i : Int), a, nilV⟩ : CeD)]).getD m.cells.length ce0).pos = _
      rw [hcell]
end
end Go.Proofs.Qxb6500574aGreatDoor
