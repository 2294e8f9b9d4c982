/-
  moon: CODE THAT IS LAID OUT IS TYPED: statements. Plain; no memory, no walk.
-/
import Derived.Test.Qxb6500574aGreatDoorWLt2
namespace Go.Proofs.Qxb6500574aGreatDoor
set_option linter.unusedVariables false
set_option linter.unusedSimpArgs false
section
variable {N : List Nd} {D : CmD} {k f : Nat} {L : List Bs} {r : En}
theorem hidL_pre {L L' : List Bs} (h : L <+: L') : hidL L <+: hidL L' := by
  obtain ⟨t, rfl⟩ := h
  exact ⟨hidL t, by simp [hidL]⟩
theorem Wf.grow {X : Fx} {L L' : List Bs} {F : List Nat} (w : Wf X (hidL L) F) (h : L <+: L') (hl : L'.length ≤ X.ns) : Wf X (hidL L') F := by
  refine ⟨fun b hb e he => ?_, by rw [hidL_len]; exact hl⟩
  exact pre_at (hidL_pre h) (w.F b hb e he)
theorem Wf.new {X : Fx} {L : List Bs} {F : List Nat} (w : Wf X (hidL L) F) {x : Nat} (hx : L.length ≤ x) : ∀ b ∈ F, x < b ∨ b + 3 ≤ x := fun b hb => by
  have := w.le hb
  rw [hidL_len] at this
  exact .inr (by omega)
theorem filt_all {F : List Nat} {x : Nat} (h : ∀ b ∈ F, b + 3 ≤ x) : F.filter (fun b => decide (b + 3 ≤ x)) = F := by
  rw [List.filter_eq_self]
  intro b hb
  simpa using h b hb
theorem hidL_take (L : List Bs) (n : Nat) : (hidL L).take n = hidL (L.take n) := by simp [hidL]
/-- the blank, or an expression -/
theorem TA.exo (T : TA N D k) (h0 : (N.getD 0 nd0).k = 0) {n lo a b w p : Nat} {s : List In} (hy : LayN N D k 1 ((f, L) :: r) n p s [] 0 0) (h : (n = 0 ∧ b = a) ∨ Sh N 1 n lo a b w 0 0 false) (hw : 1 ≤ w) (hb : b < D.np) : TE D f L p s w 1 ∧ TF D a b := by
  rcases h with ⟨rfl, rfl⟩ | h
  · cases k with
    | zero => exact hy.elim
    | succ k =>
    have z : LayB N D (LayN N D k) 1 f L r 0 p s [] 0 0 := hy
    rcases z with ⟨_, z⟩ | ⟨e, _⟩ | ⟨e, _⟩ | ⟨e, _⟩
    · have e : s = [(2, 0)] := by
        rcases z with q | q | q | q | q | q | q | q | q | q | q | q | q <;> first | omega | exact q.2
      subst e
      exact ⟨fun R h F at_ wf hw kk => k_push wf (by omega) at_.head.1 (.inl rfl) kk, TF.nil _ _⟩
    · cases e
    · cases e
    · cases e
  · exact T.ex f L r n lo a b w p s hy h hb
/-- a sequence of statements -/
theorem TA.stmts (T : TA N D k) {lp : Bool} {lb ex : Nat} : ∀ (l : List Nat) (lo hi a b al al' p : Nat) (L L' : List Bs) (s : List In), Stmts (LayN N D k) f r lb ex l L p s L' → SeqS (fun x lo a b al al' => Sh N 0 x lo a b 120 al al' lp) l lo hi a b al al' → b < D.np → L.length ≤ (D.fn f).nslots →
    TS D f L L' p s lp lb ex ∧ TF D a b ∧ L <+: L' ∧ L'.length ≤ (D.fn f).nslots := by
  intro l
  induction l with
  | nil =>
    intro lo hi a b al al' p L L' s h g hb hl
    obtain ⟨rfl, rfl⟩ := h
    obtain ⟨rfl, rfl, rfl⟩ := g
    exact ⟨fun R F _ _ _ kk => kk, TF.nil _ _, List.prefix_refl _, hl⟩
  | cons x l ih =>
    intro lo hi a b al al' p L L' s h g hb hl
    obtain ⟨s1, s2, L1, rfl, h1, h2⟩ := h
    obtain ⟨b1, al1, g1, g2⟩ := g
    have ab := SeqS.ab (fun _ _ _ _ _ _ h => Sh.ab h) g2
    obtain ⟨e1, f1, p1, n1⟩ := T.st f L r x lo a b1 al al1 p s1 L1 lp lb ex h1 g1 (by omega) hl
    obtain ⟨e2, f2, p2, n2⟩ := ih x hi b1 b al1 al' _ L1 L' s2 h2 g2 hb n1
    refine ⟨fun R F at_ wf hlp kk => ?_, f1.add f2, p1.trans p2, n2⟩
    obtain ⟨a1, a2⟩ := at_.split (.inr trivial)
    rw [List.length_append, ← Nat.add_assoc] at kk
    refine e1 R F a1 wf hlp (e2 R F a2 (wf.grow p1 n1) (fun x => ?_) kk)
    obtain ⟨j1, j2, j3⟩ := hlp x
    refine ⟨Nat.le_trans j1 p1.length_le, j2, ?_⟩
    have e : L1.take lb = L.take lb := by
      obtain ⟨t, rfl⟩ := p1
      rw [List.take_append_of_le_length j1]
    rw [e]
    exact j3
theorem TA.b3 (T : TA N D k) : ∀ f L r n l lo hi a b al al' p s L' lp lb ex, LayN N D (k + 1) 3 ((f, L) :: r) n p s L' lb ex → Chain N n l → SeqS (fun x lo a b al al' => Sh N 0 x lo a b 120 al al' lp) l lo hi a b al al' → b < D.np → L.length ≤ (D.fn f).nslots → TS D f L L p s lp lb ex ∧ TF D a b := by
  intro f L r n l lo hi a b al al' p s L' lp lb ex h hc hs hb hl
  have z : LayB N D (LayN N D k) 3 f L r n p s L' lb ex := h
  rcases z with ⟨e, _⟩ | ⟨e, _⟩ | ⟨_, _, z⟩ | ⟨e, _⟩
  · cases e
  · cases e
  · obtain ⟨l', s1, L1, rfl, c1, p1, y⟩ := z
    have el := c1.uniq hc
    subst el
    obtain ⟨e1, f1, p2, n2⟩ := T.stmts l' lo hi a b al al' p L L1 s1 y hs hb hl
    refine ⟨fun R F at_ wf hlp kk => ?_, f1⟩
    obtain ⟨a1, a2⟩ := at_.split (.inr trivial)
    refine e1 R F a1 wf hlp ?_
    rw [List.length_append, ← Nat.add_assoc] at kk
    have w1 := wf.grow p2 n2
    by_cases hlt : L.length < L1.length
    · rw [if_pos hlt] at a2 kk
      refine k_close w1 (by decide) a2.head.1 hl ?_
      have eT : L1.take L.length = L := by obtain ⟨t, rfl⟩ := p2; exact List.take_left
      rw [hidL_take, eT, filt_all fun b hb => by have := wf.le hb; rw [hidL_len] at this; exact this]
      exact kk
    · rw [if_neg hlt] at kk
      have eL : L1 = L := (p2.eq_of_length (by have := p2.length_le; omega)).symm
      subst eL
      exact kk
  · cases e
end
end Go.Proofs.Qxb6500574aGreatDoor
