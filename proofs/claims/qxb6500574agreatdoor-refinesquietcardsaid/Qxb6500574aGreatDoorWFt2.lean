/-
  moon: COMPILED CODE FITS: statements, the whole. Plain; no memory, no walk.
-/
import Derived.Test.Qxb6500574aGreatDoorWFt
namespace Go.Proofs.Qxb6500574aGreatDoor
set_option linter.unusedVariables false
set_option linter.unusedSimpArgs false
section
variable {N : List Nd} {D : CmD} {k : Nat}
theorem FA.s0 (T : FA N D k) : ∀ f L r n lo a b al al' p s L' lp lb ex, LayN N D (k + 1) 0 ((f, L) :: r) n p s L' lb ex → Sh N 0 n lo a b 120 al al' lp → b < D.np → f ≤ a → L.length ≤ (D.fn f).nslots → p + s.length < (D.fn f).code.length → (lp = true → ex < (D.fn f).code.length) → AF D f s ∧ FF N D a b ∧ L'.length ≤ (D.fn f).nslots := by
  intro f L r n lo a b al al' p s L' lp lb ex h g hb hf hl hp hx
  have z : LayB N D (LayN N D k) 0 f L r n p s L' lb ex := h
  rcases z with ⟨e, _⟩ | ⟨e, _⟩ | ⟨e, _⟩ | ⟨_, z⟩
  · cases e
  · cases e
  · cases e
  obtain ⟨z1, z2, z3⟩ := g.out
  rcases z3 with ⟨e, _⟩ | ⟨_, z3⟩
  · cases e
  have same : ∀ {s}, AF D f s ∧ FF N D a b → AF D f s ∧ FF N D a b ∧ L.length ≤ (D.fn f).nslots := fun h => ⟨h.1, h.2, hl⟩
  rcases z with ⟨d, rfl, hn, s1, rfl, y⟩ | ⟨d, rfl, hn, s1, rfl, y⟩ | ⟨d, rfl, hn, s1, rfl, y⟩ | ⟨d, eL, y⟩ | ⟨d, eL, s1, rfl, y⟩ | ⟨d, eL, s1, s2, s3, rfl, y1, y2, y3⟩ | ⟨d, eL, s1, s2, rfl, y1, y2⟩ | ⟨d, eL, hn, s1, s2, s3, s4, h', e, eh, ee, rfl, y1, y2, y3, y4⟩ | ⟨d, eL, hn, s1, s2, h', e, eh, ee, rfl, y1, y2⟩ | ⟨d, eL, s1, s2, rfl, y1, y2⟩ | ⟨d, eL, y⟩
  · have q : ((N.getD n nd0).a = 0 ∧ n = lo + 1 ∧ b = a) ∨ (n = (N.getD n nd0).a + 1 ∧ Sh N 1 (N.getD n nd0).a lo a b 120 0 0 false) := by
      rcases z3 with q | q | q | q | q | q | q | q | q | q | q <;> first | omega | exact q.2.2.2.2
    rw [List.length_append] at hp
    obtain ⟨e1, f1⟩ := T.ex f L r _ lo a b 120 p s1 y (q.imp (fun z => ⟨z.1, z.2.2⟩) (fun z => z.2)) hb hf hl (by omega)
    refine ⟨e1.app (AF.one (.slot (.inr (.inl rfl)) ?_)), f1, hn⟩
    rw [List.length_append] at hn
    exact hn
  · have q : (N.getD (N.getD n nd0).b nd0).k = 19 ∧ Sh N 1 (N.getD n nd0).b (lo + 2) a b 120 0 0 false := by
      rcases z3 with q | q | q | q | q | q | q | q | q | q | q <;> first | omega | exact q.2.2.2.2.2.2.2
    rw [List.length_append] at hp
    obtain ⟨e1, f1⟩ := T.ca f L r _ _ a b 120 p s1 y q.1 q.2 hb hf hl (by omega)
    have hn' := hn
    rw [List.length_append] at hn'
    have hn' : L.length + 2 ≤ (D.fn f).nslots := hn'
    exact ⟨e1.app (AF.cons (.slot (.inr (.inl rfl)) (by omega)) (AF.one (.slot (.inr (.inl rfl)) (by omega)))), f1, hn⟩
  · have q : Sh N 1 (N.getD n nd0).a lo a b 120 0 0 false := by
      rcases z3 with q | q | q | q | q | q | q | q | q | q | q <;> first | omega | exact q.2.2.2.2.2.2
    rw [List.length_append] at hp
    obtain ⟨e1, f1⟩ := T.ex f _ r _ lo a b 120 p s1 y (.inr q) hb hf hn (by omega)
    refine ⟨e1.app (AF.one (.slot (.inr (.inl rfl)) ?_)), f1, hn⟩
    rw [List.length_append] at hn
    exact hn
  · have eL := eL.symm
    subst eL
    have q : ∃ b1, Sh N 1 (N.getD n nd0).a lo a b1 110 0 0 false ∧ Sh N 1 (N.getD n nd0).b (N.getD n nd0).a b1 b 110 0 0 false ∧ ((N.getD (N.getD n nd0).a nd0).k = 17 ∨ (N.getD (N.getD n nd0).a nd0).k = 18) := by
      rcases z3 with q | q | q | q | q | q | q | q | q | q | q <;> first | omega | exact (let ⟨b1, u1, u2⟩ := q.2.2.2.2; ⟨b1, u1, u2, q.2.2.2.1⟩)
    obtain ⟨b1, q1, q2, q3⟩ := q
    have ab1 := q1.ab
    have ab2 := q2.ab
    obtain ⟨v1, v2, v3⟩ := q1.out
    rcases y with ⟨d2, s1, i, rfl, y, v⟩ | ⟨d2, s1, s2, s3, rfl, y1, y2, y3⟩
    · have q4 : b1 = a := by
        rcases v3 with ⟨_, v3⟩ | ⟨e, _⟩
        · rcases v3 with q | q | q | q | q | q | q | q | q | q | q <;> first | omega | exact q.2.2.1
        · cases e
      subst q4
      rw [List.length_append] at hp
      obtain ⟨e1, f1⟩ := T.ex f L r _ _ b1 b 110 p s1 y (.inr q2) hb hf hl (by omega)
      exact same ⟨e1.app (AF.one (var_ft (by omega) v hl)), f1⟩
    · have q4 : ∃ b2, Sh N 1 (N.getD (N.getD n nd0).a nd0).a lo a b2 110 0 0 false ∧ Sh N 1 (N.getD (N.getD n nd0).a nd0).b (N.getD (N.getD n nd0).a nd0).a b2 b1 109 0 0 false := by
        rcases v3 with ⟨_, v3⟩ | ⟨e, _⟩
        · rcases v3 with q | q | q | q | q | q | q | q | q | q | q <;> first | omega | exact q.2.2.2
        · cases e
      obtain ⟨b2, j1, j2⟩ := q4
      have := j1.ab; have := j2.ab
      simp only [List.length_append, List.length_cons, List.length_nil] at hp
      obtain ⟨e1, f1⟩ := T.ex f L r _ lo a b2 110 p s1 y1 (.inr j1) (by omega) hf hl (by omega)
      obtain ⟨e2, f2⟩ := T.ex f L r _ _ b2 b1 109 _ s2 y2 (.inr j2) (by omega) (by omega) hl (by omega)
      obtain ⟨e3, f3⟩ := T.ex f L r _ _ b1 b 110 _ s3 y3 (.inr q2) hb (by omega) hl (by omega)
      exact same ⟨((e1.app e2).app e3).app (AF.one (.zero (by omega))), (f1.add f2).add f3⟩
  · have eL := eL.symm
    subst eL
    have q : (N.getD (N.getD n nd0).a nd0).k = 19 ∧ Sh N 1 (N.getD n nd0).a lo a b 120 0 0 false := by
      rcases z3 with q | q | q | q | q | q | q | q | q | q | q <;> first | omega | exact q.2.2.2
    rw [List.length_append] at hp
    obtain ⟨e1, f1⟩ := T.ca f L r _ _ a b 120 p s1 y q.1 q.2 hb hf hl (by omega)
    exact same ⟨e1.app (AF.cons (.zero (by omega)) (AF.one (.zero (by omega)))), f1⟩
  · have eL := eL.symm
    subst eL
    have q : ∃ b1 l h1 b2 l2 h2 x1 x2, n = h2 + 1 ∧ Sh N 1 (N.getD n nd0).a lo a b1 120 0 0 false ∧ Chain N (N.getD n nd0).b l ∧ SeqS (fun x lo a b al al' => Sh N 0 x lo a b 120 al al' lp) l (N.getD n nd0).a h1 b1 b2 al x1 ∧ Chain N (N.getD n nd0).c l2 ∧ SeqS (fun x lo a b al al' => Sh N 0 x lo a b 120 al al' lp) l2 h1 h2 b2 b al x2 := by
      rcases z3 with q | q | q | q | q | q | q | q | q | q | q <;> first | omega | exact q.2.2
    obtain ⟨b1, l, h1, b2, l2, h2, x1, x2, _, q1, q2, q3, q4, q5⟩ := q
    have ab0 := q1.ab
    have ab1 := SeqS.ab (fun _ _ _ _ _ _ h => Sh.ab h) q3
    have ab2 := SeqS.ab (fun _ _ _ _ _ _ h => Sh.ab h) q5
    simp only [List.length_append, List.length_cons, List.length_nil] at hp
    obtain ⟨e1, f1⟩ := T.ex f L r _ lo a b1 120 p s1 y1 (.inr q1) (by omega) hf hl (by omega)
    obtain ⟨e2, f2⟩ := T.bl f L r _ l _ h1 b1 b2 al x1 _ s2 L lp lb ex y2 q2 q3 (by omega) (by omega) hl (by omega) hx
    obtain ⟨e3, f3⟩ := T.bl f L r _ l2 _ h2 b2 b al x2 _ s3 L lp lb ex y3 q4 q5 hb (by omega) hl (by omega) hx
    exact same ⟨(e1.app (AF.cons (.jump (by omega) (by omega)) e2)).app (AF.cons (.jump (by omega) (by omega)) e3), (f1.add f2).add f3⟩
  · have eL := eL.symm
    subst eL
    have q : ∃ b1 l h1 x1, n = h1 + 1 ∧ Sh N 1 (N.getD n nd0).a lo a b1 120 0 0 false ∧ Chain N (N.getD n nd0).b l ∧ SeqS (fun x lo a b al al' => Sh N 0 x lo a b 120 al al' true) l (N.getD n nd0).a h1 b1 b al x1 := by
      rcases z3 with q | q | q | q | q | q | q | q | q | q | q <;> first | omega | exact q.2.2
    obtain ⟨b1, l, h1, x1, _, q1, q2, q3⟩ := q
    have ab0 := q1.ab
    have ab1 := SeqS.ab (fun _ _ _ _ _ _ h => Sh.ab h) q3
    simp only [List.length_append, List.length_cons, List.length_nil] at hp
    obtain ⟨e1, f1⟩ := T.ex f L r _ lo a b1 120 p s1 y1 (.inr q1) (by omega) hf hl (by omega)
    obtain ⟨e2, f2⟩ := T.bl f L r _ l _ h1 b1 b al x1 _ s2 L true L.length _ y2 q2 q3 hb (by omega) hl (by omega) (fun _ => by omega)
    exact same ⟨(e1.app (AF.cons (.jump (by omega) (by omega)) e2)).app (AF.one (.jump (by omega) (by omega))), f1.add f2⟩
  · have eL := eL.symm
    subst eL
    have q : ∃ l0 h0 b0 l h1 x1, n = h1 + 1 ∧ Chain N (N.getD n nd0).a l0 ∧ (l0.length = 2 ∨ l0.length = 3) ∧ SeqE (fun x lo a b w => Sh N 1 x lo a b 120 0 0 false) 0 l0 lo h0 a b0 120 ∧ Chain N (N.getD n nd0).b l ∧ SeqS (fun x lo a b al al' => Sh N 0 x lo a b 120 al al' true) l h0 h1 b0 b (al + 4) x1 := by
      rcases z3 with q | q | q | q | q | q | q | q | q | q | q <;> first | omega | exact q.2.2.2.2
    obtain ⟨l0, h0', b0, l, h1, x1, _, q1, q2, q3, q4, q5⟩ := q
    obtain ⟨u1, l1, el⟩ : ∃ y l', l0 = y :: l' := by cases l0 with | nil => simp at q2 | cons y l' => exact ⟨y, l', rfl⟩
    subst el
    obtain ⟨ea, ea0, gch⟩ := q1
    subst ea
    obtain ⟨u2, l3, el⟩ : ∃ y l', l1 = y :: l' := by cases l1 with | nil => simp at q2 | cons y l' => exact ⟨y, l', rfl⟩
    subst el
    obtain ⟨ea, ea2, gch3⟩ := gch
    rw [ea] at y2 y3
    obtain ⟨b1, gs1, b2, gs2, gs3⟩ := q3
    have gs3 : SeqE (fun x lo a b w => Sh N 1 x lo a b 120 0 0 false) 0 l3 u2 h0' b2 b0 120 := gs3
    have g3 : ((N.getD u2 nd0).next = 0 ∧ b0 = b2) ∨ Sh N 1 (N.getD u2 nd0).next u2 b2 b0 120 0 0 false := by
      cases l3 with
      | nil => exact .inl ⟨gch3, gs3.2⟩
      | cons y l4 =>
        have : l4 = [] := by cases l4 with | nil => rfl | cons _ _ => simp at q2
        subst this
        obtain ⟨e1, e2, e3⟩ := gch3
        obtain ⟨b3, e4, e5, e6⟩ := gs3
        subst e6
        rw [e1]
        exact .inr e4
    have ab1 := gs1.ab
    have ab2 := gs2.ab
    have ab4 := SeqS.ab (fun _ _ _ _ _ _ h => Sh.ab h) q5
    have ab3 : b2 ≤ b0 := by rcases g3 with z | z; omega; exact z.ab
    simp only [List.length_append, List.length_cons, List.length_nil] at hp
    obtain ⟨e1, f1⟩ := T.ex f L r _ lo a b1 120 p s1 y1 (.inr gs1) (by omega) hf hl (by omega)
    obtain ⟨e2, f2⟩ := T.ex f _ r _ _ b1 b2 120 _ s2 y2 (.inr gs2) (by omega) (by omega) (by simp; omega) (by omega)
    have st : AF D f s3 ∧ FF N D b2 b0 := by
      rcases y3 with ⟨z, y3⟩ | ⟨z, x, rfl, hx⟩
      · rcases g3 with g3 | g3
        · exact (z g3.1).elim
        · exact T.ex f _ r _ _ b2 b0 120 _ s3 y3 (.inr g3) (by omega) (by omega) (by simp; omega) (by omega)
      · rcases g3 with g3 | g3
        · exact ⟨AF.one (.const (List.getElem?_eq_some_iff.1 hx).1), by rw [g3.2]; exact FF.nil _ _ _⟩
        · have := g3.lt; omega
    obtain ⟨e3, f3⟩ := st
    obtain ⟨e4, f4⟩ := T.bl f _ r _ l _ h1 b0 b _ x1 _ s4 _ true L.length e y4 q4 q5 hb (by omega) (by simp; omega) (by omega) (fun _ => by omega)
    refine same ⟨?_, ((f1.add f2).add f3).add f4⟩
    have S : ∀ {op x}, (op = 5 ∨ op = 6 ∨ op = 29) → x ≤ L.length + 3 → FtD D f (op, x) := fun ho hx => .slot ho (by omega)
    refine ((((e1.app (AF.cons (S (by omega) (by omega)) e2)).app (AF.cons (S (by omega) (by omega)) e3)).app ?_).app e4).app ?_
    · exact AF.cons (S (by omega) (by omega)) (AF.cons (.for_ (by omega) (by omega)) (AF.cons (.for_ (by omega) (by omega)) (AF.cons (.jump (by omega) (by omega)) (AF.cons (S (by omega) (by omega)) (AF.one (S (by omega) (by omega)))))))
    · exact AF.cons (S (by omega) (by omega)) (AF.cons (S (by omega) (by omega)) (AF.cons (S (by omega) (by omega)) (AF.cons (.arith (by omega) (by omega) (by omega)) (AF.cons (S (by omega) (by omega)) (AF.cons (.jump (by omega) (by omega)) (AF.one (S (by omega) (by omega))))))))
  · have eL := eL.symm
    subst eL
    have q : ∃ b0 l h1 x1, n = h1 + 1 ∧ Sh N 1 (N.getD n nd0).b (lo + 2) a b0 120 0 0 false ∧ Chain N (N.getD n nd0).c l ∧ SeqS (fun x lo a b al al' => Sh N 0 x lo a b 120 al al' true) l (N.getD n nd0).b h1 b0 b (al + 4) x1 := by
      rcases z3 with q | q | q | q | q | q | q | q | q | q | q <;> first | omega | exact q.2.2.2.2.2.2
    obtain ⟨b0, l, h1, x1, _, q1, q2, q3⟩ := q
    have ab0 := q1.ab
    have ab1 := SeqS.ab (fun _ _ _ _ _ _ h => Sh.ab h) q3
    simp only [List.length_append, List.length_cons, List.length_nil] at hp
    obtain ⟨e1, f1⟩ := T.ex f L r _ _ a b0 120 p s1 y1 (.inr q1) (by omega) hf hl (by omega)
    obtain ⟨e4, f4⟩ := T.bl f _ r _ l _ h1 b0 b _ x1 _ s2 _ true L.length e y2 q2 q3 hb (by omega) (by simp; omega) (by omega) (fun _ => by omega)
    have S : ∀ {op x}, (op = 5 ∨ op = 6 ∨ op = 29) → x ≤ L.length + 3 → FtD D f (op, x) := fun ho hx => .slot ho (by omega)
    refine same ⟨((e1.app ?_).app e4).app ?_, f1.add f4⟩
    · exact AF.cons (S (by omega) (by omega)) (AF.cons (.zero (by omega)) (AF.cons (S (by omega) (by omega)) (AF.cons (.for_ (by omega) (by omega)) (AF.one (.jump (by omega) (by omega))))))
    · exact AF.cons (S (by omega) (by omega)) (AF.cons (.jump (by omega) (by omega)) (AF.one (S (by omega) (by omega))))
  · have eL := eL.symm
    subst eL
    have q : ((N.getD n nd0).a = 0 ∧ (N.getD n nd0).b = 0 ∧ n = lo + 1 ∧ b = a) ∨ ((N.getD n nd0).b = 0 ∧ n = (N.getD n nd0).a + 1 ∧ Sh N 1 (N.getD n nd0).a lo a b 120 0 0 false) ∨ (n = (N.getD n nd0).b + 1 ∧ ∃ b1, Sh N 1 (N.getD n nd0).a lo a b1 120 0 0 false ∧ Sh N 1 (N.getD n nd0).b (N.getD n nd0).a b1 b 119 0 0 false) := by
      rcases z3 with q | q | q | q | q | q | q | q | q | q | q <;> first | omega | exact q.2.2
    have key : ∃ b1 lo2, (((N.getD n nd0).a = 0 ∧ b1 = a) ∨ Sh N 1 (N.getD n nd0).a lo a b1 120 0 0 false) ∧ (((N.getD n nd0).b = 0 ∧ b = b1) ∨ Sh N 1 (N.getD n nd0).b lo2 b1 b 119 0 0 false) ∧ a ≤ b1 ∧ b1 ≤ b := by
      rcases q with ⟨e1, e2, e3, e4⟩ | ⟨e1, e2, e3⟩ | ⟨e1, b1, e2, e3⟩
      · exact ⟨a, 0, .inl ⟨e1, rfl⟩, .inl ⟨e2, e4⟩, by omega, by omega⟩
      · have := e3.ab
        exact ⟨b, 0, .inr e3, .inl ⟨e1, rfl⟩, by omega, by omega⟩
      · have := e2.ab; have := e3.ab
        exact ⟨b1, _, .inr e2, .inr e3, by omega, by omega⟩
    obtain ⟨b1, lo2, j1, j2, j3, j4⟩ := key
    simp only [List.length_append, List.length_cons, List.length_nil] at hp
    obtain ⟨e1, f1⟩ := T.ex f L r _ lo a b1 120 p s1 y1 j1 (by omega) hf hl (by omega)
    obtain ⟨e2, f2⟩ := T.ex f L r _ lo2 b1 b 119 _ s2 y2 j2 hb (by omega) hl (by omega)
    exact same ⟨(e1.app e2).app (AF.one (.zero (by omega))), f1.add f2⟩
  · have eL := eL.symm
    subst eL
    have q : b = a ∧ lp = true := by
      rcases z3 with q | q | q | q | q | q | q | q | q | q | q <;> first | omega | exact q.2.2.2
    obtain ⟨rfl, hlp⟩ := q
    have hx := hx hlp
    refine same ⟨?_, FF.nil _ _ _⟩
    rcases y with ⟨z, rfl⟩ | ⟨z, rfl⟩
    · exact AF.cons (.slot (by omega) (by omega)) (AF.one (.jump (by omega) hx))
    · exact AF.one (.jump (by omega) hx)
theorem FA.all (hN : N.length ≤ 301) (h0 : (N.getD 0 nd0).k = 0) : ∀ k, FA N D k := by
  intro k
  induction k with
  | zero => exact ⟨fun _ _ _ _ _ _ _ _ _ _ h => h.elim, fun _ _ _ _ _ _ _ _ _ _ h => h.elim, fun _ _ _ _ _ _ _ _ _ _ _ _ _ _ _ h => h.elim, fun _ _ _ _ _ _ _ _ _ _ _ _ _ _ _ _ _ h => h.elim⟩
  | succ k T => exact ⟨T.e1 hN h0, T.c2, T.s0, T.b3⟩
/-- all that holds of the compiled functions -/
structure DI2 (N : List Nd) (D : CmD) (b : Nat) : Prop where
  np : D.np = b + 1
  b12 : b ≤ 12
  len : D.fns.length = 13
  f0 : (D.fn 0).np = 0 ∧ (D.fn 0).ups = [] ∧ (D.fn 0).locals = [] ∧ (D.fn 0).loops = [] ∧ (D.fn 0).parent = none ∧ (D.fn 0).nslots ≤ 12 ∧ CnOk (D.fn 0).consts ∧ (∀ i ∈ (D.fn 0).code, FtD D 0 i) ∧ (∃ s1, (D.fn 0).code = s1 ++ [(2, 0), (2, 0), (27, 0)]) ∧ (D.fn 0).code.length ≤ 17 * (N.length - 1) + 4 ∧ (D.fn 0).consts.length ≤ N.length - 1
  fn : ∀ g, 0 < g → g ≤ b → FnI N D g
theorem com_fits {root b al' : Nat} {l : List Nat} (hN : N.length ≤ 301) (h0 : (N.getD 0 nd0).k = 0) (C : ComOk N root D b) (hc : Chain N root l) (hs : SeqS (fun x lo a b al al' => Sh N 0 x lo a b 120 al al' false) l 0 (N.length - 1) 0 b 0 al') : DI2 N D b := by
  obtain ⟨s1, y, hcode⟩ := C.main
  have hnp := C.np
  obtain ⟨t1, t2⟩ := (FA.all (D := D) hN h0 (2 * N.length + 5)).bl 0 [] [] root l 0 (N.length - 1) 0 b 0 al' 0 s1 [] false 0 0 y hc hs (by omega) (Nat.le_refl _) (Nat.zero_le _) (by rw [hcode, List.length_append]; simp) (fun x => by cases x)
  refine ⟨C.np, C.b12, C.len, ⟨C.np0, C.ups0, C.loc0, C.lps0, C.par0, C.ns0, C.cn0, ?_, ⟨s1, hcode⟩, C.cl0, C.kl0⟩, fun g h1 h2 => t2 g h1 h2⟩
  rw [hcode]
  exact t1.app (AF.cons (.zero (by omega)) (AF.cons (.zero (by omega)) (AF.one (.zero (by omega)))))
/-- few upvalues -/
theorem DI2.ups {b : Nat} (h : DI2 N D b) : ∀ g, g ≤ b → (D.fn g).ups.length ≤ 12 * g := by
  intro g
  induction g using Nat.strongRecOn with
  | _ g ih =>
    intro hg
    by_cases e : g = 0
    · subst e; rw [h.f0.2.1]; simp
    · have F := h.fn g (by omega) hg
      obtain ⟨f, L, p1, p2, p3, p4, p5⟩ := F.par
      have hf := ih f p2 (by omega)
      have n12 : (D.fn f).nslots ≤ 12 := by
        by_cases e : f = 0
        · subst e; exact h.f0.2.2.2.2.2.1
        · exact (h.fn f (by omega) (by omega)).n12
      have := pairs_len (A := 12) (B := (D.fn f).ups.length) p4 (fun d hd => by
        rcases p5 d hd with ⟨x, s, _, y⟩ | x
        · have := (List.getElem?_eq_some_iff.1 y).1
          exact .inl ⟨x, by omega⟩
        · exact .inr x)
      omega
end
end Go.Proofs.Qxb6500574aGreatDoor
