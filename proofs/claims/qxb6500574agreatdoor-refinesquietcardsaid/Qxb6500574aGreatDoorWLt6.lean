/-
  moon: CODE THAT IS LAID OUT IS TYPED: the whole law. Plain; no memory, no walk.
-/
import Derived.Test.Qxb6500574aGreatDoorWLt5
namespace Go.Proofs.Qxb6500574aGreatDoor
set_option linter.unusedVariables false
set_option linter.unusedSimpArgs false
section
variable {N : List Nd} {D : CmD} {k : Nat}
theorem TA.s0 (T : TA N D k) (h0 : (N.getD 0 nd0).k = 0) : ∀ f L r n lo a b al al' p s L' lp lb ex, LayN N D (k + 1) 0 ((f, L) :: r) n p s L' lb ex → Sh N 0 n lo a b 120 al al' lp → b < D.np → L.length ≤ (D.fn f).nslots → TS D f L L' p s lp lb ex ∧ TF D a b ∧ L <+: L' ∧ L'.length ≤ (D.fn f).nslots := by
  intro f L r n lo a b al al' p s L' lp lb ex h g hb hl
  have z : LayB N D (LayN N D k) 0 f L r n p s L' lb ex := h
  rcases z with ⟨e, _⟩ | ⟨e, _⟩ | ⟨e, _⟩ | ⟨_, z⟩
  · cases e
  · cases e
  · cases e
  obtain ⟨z1, z2, z3⟩ := g.out
  rcases z3 with ⟨e, _⟩ | ⟨_, z3⟩
  · cases e
  -- the same locals behind it
  have same : ∀ {s}, TS D f L L p s lp lb ex ∧ TF D a b → TS D f L L p s lp lb ex ∧ TF D a b ∧ L <+: L ∧ L.length ≤ (D.fn f).nslots := fun h => ⟨h.1, h.2, List.prefix_refl _, hl⟩
  rcases z with ⟨d, rfl, hn, s1, rfl, y⟩ | ⟨d, rfl, hn, s1, rfl, y⟩ | ⟨d, rfl, hn, s1, rfl, y⟩ | ⟨d, rfl, y⟩ | ⟨d, rfl, s1, rfl, y⟩ | ⟨d, rfl, s1, s2, s3, rfl, y1, y2, y3⟩ | ⟨d, rfl, s1, s2, rfl, y1, y2⟩ | ⟨d, rfl, hn, s1, s2, s3, s4, h', e, eh, ee, rfl, y1, y2, y3, y4⟩ | ⟨d, rfl, hn, s1, s2, h', e, eh, ee, rfl, y1, y2⟩ | ⟨d, rfl, s1, s2, rfl, y1, y2⟩ | ⟨d, rfl, y⟩
  · have q : ((N.getD n nd0).a = 0 ∧ n = lo + 1 ∧ b = a) ∨ (n = (N.getD n nd0).a + 1 ∧ Sh N 1 (N.getD n nd0).a lo a b 120 0 0 false) := by
      rcases z3 with q | q | q | q | q | q | q | q | q | q | q <;> first | omega | exact q.2.2.2.2
    obtain ⟨t1, t2⟩ := T.t1 (lp := lp) (lb := lb) (ex := ex) h0 hb hl hn y (q.imp (fun z => ⟨z.1, z.2.2⟩) (fun z => z.2))
    exact ⟨t1, t2, List.prefix_append _ _, hn⟩
  · have q : (N.getD (N.getD n nd0).b nd0).k = 19 ∧ Sh N 1 (N.getD n nd0).b (lo + 2) a b 120 0 0 false := by
      rcases z3 with q | q | q | q | q | q | q | q | q | q | q <;> first | omega | exact q.2.2.2.2.2.2.2
    obtain ⟨t1, t2⟩ := T.t2 (lp := lp) (lb := lb) (ex := ex) hb hl hn y q.1 q.2
    exact ⟨t1, t2, List.prefix_append _ _, hn⟩
  · have q : Sh N 1 (N.getD n nd0).a lo a b 120 0 0 false := by
      rcases z3 with q | q | q | q | q | q | q | q | q | q | q <;> first | omega | exact q.2.2.2.2.2.2
    obtain ⟨t1, t2⟩ := T.t3 (lp := lp) (lb := lb) (ex := ex) hb hl hn y q
    exact ⟨t1, t2, List.prefix_append _ _, hn⟩
  · have q : ∃ b1, Sh N 1 (N.getD n nd0).a lo a b1 110 0 0 false ∧ Sh N 1 (N.getD n nd0).b (N.getD n nd0).a b1 b 110 0 0 false ∧ ((N.getD (N.getD n nd0).a nd0).k = 17 ∨ (N.getD (N.getD n nd0).a nd0).k = 18) := by
      rcases z3 with q | q | q | q | q | q | q | q | q | q | q <;> first | omega | exact (let ⟨b1, u1, u2⟩ := q.2.2.2.2; ⟨b1, u1, u2, q.2.2.2.1⟩)
    obtain ⟨b1, q1, q2, q3⟩ := q
    have ab1 := q1.ab
    have ab2 := q2.ab
    obtain ⟨v1, v2, v3⟩ := q1.out
    rcases y with ⟨d2, s1, i, rfl, y, v⟩ | ⟨d2, s1, s2, s3, rfl, y1, y2, y3⟩
    · have q4 : b1 = a ∧ nmOk (N.getD (N.getD n nd0).a nd0).s := by
        rcases v3 with ⟨_, v3⟩ | ⟨e, _⟩
        · rcases v3 with q | q | q | q | q | q | q | q | q | q | q <;> first | omega | exact ⟨q.2.2.1, q.2.2.2.2⟩
        · cases e
      obtain ⟨rfl, hm⟩ := q4
      exact same (T.t4n hm hb (by decide) y v q2)
    · have q4 : ∃ b2, Sh N 1 (N.getD (N.getD n nd0).a nd0).a lo a b2 110 0 0 false ∧ Sh N 1 (N.getD (N.getD n nd0).a nd0).b (N.getD (N.getD n nd0).a nd0).a b2 b1 109 0 0 false := by
        rcases v3 with ⟨_, v3⟩ | ⟨e, _⟩
        · rcases v3 with q | q | q | q | q | q | q | q | q | q | q <;> first | omega | exact q.2.2.2
        · cases e
      obtain ⟨b2, j1, j2⟩ := q4
      exact same (T.t4i hb (by decide : 110 ≤ 110) y1 y2 y3 j1 j2 q2)
  · have q : (N.getD (N.getD n nd0).a nd0).k = 19 ∧ Sh N 1 (N.getD n nd0).a lo a b 120 0 0 false := by
      rcases z3 with q | q | q | q | q | q | q | q | q | q | q <;> first | omega | exact q.2.2.2
    exact same (T.t5 hb y q.1 q.2)
  · have q : ∃ b1 l h1 b2 l2 h2 x1 x2, n = h2 + 1 ∧ Sh N 1 (N.getD n nd0).a lo a b1 120 0 0 false ∧ Chain N (N.getD n nd0).b l ∧ SeqS (fun x lo a b al al' => Sh N 0 x lo a b 120 al al' lp) l (N.getD n nd0).a h1 b1 b2 al x1 ∧ Chain N (N.getD n nd0).c l2 ∧ SeqS (fun x lo a b al al' => Sh N 0 x lo a b 120 al al' lp) l2 h1 h2 b2 b al x2 := by
      rcases z3 with q | q | q | q | q | q | q | q | q | q | q <;> first | omega | exact q.2.2
    obtain ⟨b1, l, h1, b2, l2, h2, x1, x2, _, q1, q2, q3, q4, q5⟩ := q
    exact same (T.t6 hb hl y1 y2 y3 q1 q2 q3 q4 q5)
  · have q : ∃ b1 l h1 x1, n = h1 + 1 ∧ Sh N 1 (N.getD n nd0).a lo a b1 120 0 0 false ∧ Chain N (N.getD n nd0).b l ∧ SeqS (fun x lo a b al al' => Sh N 0 x lo a b 120 al al' true) l (N.getD n nd0).a h1 b1 b al x1 := by
      rcases z3 with q | q | q | q | q | q | q | q | q | q | q <;> first | omega | exact q.2.2
    obtain ⟨b1, l, h1, x1, _, q1, q2, q3⟩ := q
    exact same (T.t7 hb hl y1 y2 q1 q2 q3)
  · have q : ∃ l0 h0 b0 l h1 x1, n = h1 + 1 ∧ Chain N (N.getD n nd0).a l0 ∧ (l0.length = 2 ∨ l0.length = 3) ∧ SeqE (fun x lo a b w => Sh N 1 x lo a b 120 0 0 false) 0 l0 lo h0 a b0 120 ∧ Chain N (N.getD n nd0).b l ∧ SeqS (fun x lo a b al al' => Sh N 0 x lo a b 120 al al' true) l h0 h1 b0 b (al + 4) x1 := by
      rcases z3 with q | q | q | q | q | q | q | q | q | q | q <;> first | omega | exact q.2.2.2.2
    obtain ⟨l0, h0', b0, l, h1, x1, _, q1, q2, q3, q4, q5⟩ := q
    obtain ⟨u1, l1, el⟩ : ∃ y l', l0 = y :: l' := by cases l0 with | nil => simp at q2 | cons y l' => exact ⟨y, l', rfl⟩
    subst el
    obtain ⟨ea, ea0, gch⟩ := q1
    subst ea
    obtain ⟨u2, l3, el⟩ : ∃ y l', l1 = y :: l' := by cases l1 with | nil => simp at q2 | cons y l' => exact ⟨y, l', rfl⟩
    subst el
    obtain ⟨ea, ea2, gch3⟩ := gch
    rw [ea] at y2 y3
    obtain ⟨b1, gs1, b2, gs2, gs3⟩ := q3
    have gs3 : SeqE (fun x lo a b w => Sh N 1 x lo a b 120 0 0 false) 0 l3 u2 h0' b2 b0 120 := gs3
    have g3 : ((N.getD u2 nd0).next = 0 ∧ b0 = b2) ∨ Sh N 1 (N.getD u2 nd0).next u2 b2 b0 120 0 0 false := by
      cases l3 with
      | nil => exact .inl ⟨gch3, gs3.2⟩
      | cons y l4 =>
        have : l4 = [] := by cases l4 with | nil => rfl | cons _ _ => simp at q2
        subst this
        obtain ⟨e1, e2, e3⟩ := gch3
        obtain ⟨b3, e4, e5, e6⟩ := gs3
        subst e6
        rw [e1]
        exact .inr e4
    exact same (T.t8 hb hn eh ee y1 y2 y3 y4 gs1 gs2 g3 q4 q5)
  · have q : ∃ b0 l h1 x1, n = h1 + 1 ∧ Sh N 1 (N.getD n nd0).b (lo + 2) a b0 120 0 0 false ∧ Chain N (N.getD n nd0).c l ∧ SeqS (fun x lo a b al al' => Sh N 0 x lo a b 120 al al' true) l (N.getD n nd0).b h1 b0 b (al + 4) x1 := by
      rcases z3 with q | q | q | q | q | q | q | q | q | q | q <;> first | omega | exact q.2.2.2.2.2.2
    obtain ⟨b0, l, h1, x1, _, q1, q2, q3⟩ := q
    exact same (T.t9 hb hn eh ee y1 y2 q1 q2 q3)
  · have q : ((N.getD n nd0).a = 0 ∧ (N.getD n nd0).b = 0 ∧ n = lo + 1 ∧ b = a) ∨ ((N.getD n nd0).b = 0 ∧ n = (N.getD n nd0).a + 1 ∧ Sh N 1 (N.getD n nd0).a lo a b 120 0 0 false) ∨ (n = (N.getD n nd0).b + 1 ∧ ∃ b1, Sh N 1 (N.getD n nd0).a lo a b1 120 0 0 false ∧ Sh N 1 (N.getD n nd0).b (N.getD n nd0).a b1 b 119 0 0 false) := by
      rcases z3 with q | q | q | q | q | q | q | q | q | q | q <;> first | omega | exact q.2.2
    rcases q with ⟨e1, e2, e3, e4⟩ | ⟨e1, e2, e3⟩ | ⟨e1, b1, e2, e3⟩
    · exact same (T.t10 (lo := 0) (lo2 := 0) (b1 := a) h0 hb (by omega) y1 y2 (.inl ⟨e1, rfl⟩) (.inl ⟨e2, e4⟩))
    · exact same (T.t10 (lo2 := 0) (b1 := b) h0 hb (by omega) y1 y2 (.inr e3) (.inl ⟨e1, rfl⟩))
    · have := e3.ab
      exact same (T.t10 h0 hb this y1 y2 (.inr e2) (.inr e3))
  · have q : b = a ∧ lp = true := by
      rcases z3 with q | q | q | q | q | q | q | q | q | q | q <;> first | omega | exact q.2.2.2
    obtain ⟨rfl, hlp⟩ := q
    exact same ⟨t11_ty hlp hl y, TF.nil _ _⟩
theorem TA.all (h0 : (N.getD 0 nd0).k = 0) : ∀ k, TA N D k := by
  intro k
  induction k with
  | zero => exact ⟨fun _ _ _ _ _ _ _ _ _ _ h => h.elim, fun _ _ _ _ _ _ _ _ _ _ h => h.elim, fun _ _ _ _ _ _ _ _ _ _ _ _ _ _ _ h => h.elim, fun _ _ _ _ _ _ _ _ _ _ _ _ _ _ _ _ _ h => h.elim⟩
  | succ k T => exact ⟨T.e1 h0, T.c2, T.s0 h0, T.b3⟩
/-- every function of the compiled text is typed -/
theorem com_typed {root b al' : Nat} {l : List Nat} (h0 : (N.getD 0 nd0).k = 0) (C : ComOk N root D b) (hc : Chain N root l) (hs : SeqS (fun x lo a b al al' => Sh N 0 x lo a b 120 al al' false) l 0 (N.length - 1) 0 b 0 al') : ∀ g, g < D.np → FnTy D g := by
  obtain ⟨s1, y, hcode⟩ := C.main
  have hnp := C.np
  obtain ⟨t1, t2⟩ := (TA.all (D := D) h0 (2 * N.length + 5)).bl 0 [] [] root l 0 (N.length - 1) 0 b 0 al' 0 s1 [] false 0 0 y hc hs (by omega) (Nat.zero_le _)
  intro g hg
  by_cases e : g = 0
  · subst e
    unfold FnTy
    rw [C.np0]
    have wf : Wf (fxD D 0) (hidL []) [] := ⟨(fun b hb => by cases hb), Nat.zero_le _⟩
    refine t1 _ [] ⟨[], [(2, 0), (2, 0), (27, 0)], by rw [hcode]; rfl, rfl, by simp⟩ wf (fun x => by cases x) ?_
    rw [Nat.zero_add]
    exact fn_end hcode wf
  · exact t2 g (by omega) (by omega)
end
end Go.Proofs.Qxb6500574aGreatDoor
