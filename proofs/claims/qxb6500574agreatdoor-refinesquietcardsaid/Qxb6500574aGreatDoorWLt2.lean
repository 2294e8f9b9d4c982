/-
  moon: CODE THAT IS LAID OUT IS TYPED: every expression. Plain; no memory, no walk.
-/
import Derived.Test.Qxb6500574aGreatDoorWLt1
namespace Go.Proofs.Qxb6500574aGreatDoor
set_option linter.unusedVariables false
set_option linter.unusedSimpArgs false
section
variable {N : List Nd} {D : CmD} {k : Nat}
theorem hidL_len (L : List Bs) : (hidL L).length = L.length := List.length_map ..
theorem names_hid {lo hi : Nat} {l : List Nat} (h : Names N l lo hi) : hidL (l.map fun m => (N.getD m nd0).s) = List.replicate l.length false := by
  induction l generalizing lo with
  | nil => rfl
  | cons x l ih =>
    obtain ⟨h1, h2, h3, h4, h5, h6⟩ := h
    have := ih h6
    unfold hidL at *
    simp only [List.map_cons, List.length_cons, List.replicate_succ]
    rw [this]
    congr 1
    cases e : (N.getD x nd0).s with
    | nil => rw [e] at h4; simp at h4
    | cons _ _ => rfl
/-- the end of every function -/
theorem fn_end {g : Nat} {s1 : List In} {hid : List Bool} {F : List Nat} {R : Nat → Ty → Prop} (hc : (D.fn g).code = s1 ++ [(2, 0), (2, 0), (27, 0)]) (w : Wf (fxD D g) hid F) : Kt (fxD D g) R s1.length (ty 0 hid F) := by
  have hc : (fxD D g).code = s1 ++ [(2, 0), (2, 0), (27, 0)] := hc
  refine k_push w (by decide) (op := 2) (x := 0) (by rw [hc]; simp) (.inl rfl) ?_
  refine k_push w (by decide) (op := 2) (x := 0) (by rw [hc]; simp) (.inl rfl) ?_
  refine k_ret (x := 0) w (by decide) (by decide) ?_
  rw [hc, List.getElem?_append_right (by omega), show s1.length + 1 + 1 - s1.length = 2 by omega]
  rfl
/-- a function is typed -/
theorem TA.func (T : TA N D k) {f a b lo h1 h2 al2 : Nat} {L : List Bs} {r : En} {d : Nd} {l l2 : List Nat} (hF : FnR N D (LayN N D k) f L r d) (hn : d.n = a + 1) (g5 : Chain N d.a l) (g7 : Names N l lo h1) (g8 : Chain N d.b l2)
    (g9 : SeqS (fun x lo a b al al' => Sh N 0 x lo a b 120 al al' false) l2 h1 h2 (a + 1) b l.length al2) (hb : b < D.np) : TF D a b ∧ UpV D (D.fn d.n).ups ((f, L) :: r) ∧ d.n < D.np := by
  obtain ⟨l', s1, c1, y, c2, c3, c4, c5, c6, c7, c8, c9, _⟩ := hF
  have el := c1.uniq g5
  subst el
  have ab := SeqS.ab (fun _ _ _ _ _ _ h => Sh.ab h) g9
  obtain ⟨t1, t2⟩ := T.bl d.n _ ((f, L) :: r) d.b l2 h1 h2 (a + 1) b l'.length al2 0 s1 _ false 0 0 y g8 g9 hb (by rw [List.length_map]; exact c8.1)
  refine ⟨fun g i1 i2 => ?_, c7, by omega⟩
  by_cases e : g = d.n
  · subst e
    unfold FnTy
    rw [c3, ← names_hid g7]
    have wf : Wf (fxD D d.n) (hidL (l'.map fun m => (N.getD m nd0).s)) [] := ⟨(fun b hb => by cases hb), by rw [hidL_len, List.length_map]; exact c8.1⟩
    refine t1 _ [] ⟨[], [(2, 0), (2, 0), (27, 0)], by rw [c2]; rfl, rfl, by simp⟩ wf (fun x => by cases x) ?_
    rw [Nat.zero_add]
    exact fn_end c2 wf
  · exact t2 g (by omega) i2
theorem TA.c2 (T : TA N D k) : ∀ f L r n lo a b w p s, LayN N D (k + 1) 2 ((f, L) :: r) n p s [] 0 0 → (N.getD n nd0).k = 19 → Sh N 1 n lo a b w 0 0 false → b < D.np → TE D f L p s w 2 ∧ TF D a b := by
  intro f L r n lo a b w p s h hd g hb
  have z : LayB N D (LayN N D k) 2 f L r n p s [] 0 0 := h
  rcases z with ⟨e, _⟩ | ⟨_, z⟩ | ⟨e, _⟩ | ⟨e, _⟩
  · cases e
  · obtain ⟨l, s1, s2, rfl, y1, y2, y3⟩ := z
    obtain ⟨z1, z2, z3⟩ := g.out
    have q : 2 ≤ w ∧ ∃ l h1 b1, n = h1 + 1 ∧ Sh N 1 (N.getD n nd0).a lo a b1 w 0 0 false ∧ Chain N (N.getD n nd0).b l ∧ l.length ≤ 3 ∧ SeqE (fun x lo a b w => Sh N 1 x lo a b w 0 0 false) 1 l (N.getD n nd0).a h1 b1 b (w - 1) := by
      rcases z3 with ⟨_, z3⟩ | ⟨e, _⟩
      · rcases z3 with q | q | q | q | q | q | q | q | q | q | q <;> first | omega | exact q.2
      · cases e
    obtain ⟨w2, l', h1, b1, q1, q2, q3, q4, q5⟩ := q
    have el := y1.uniq q3
    subst el
    have ab := SeqE.ab (fun _ _ _ _ _ h => Sh.ab h) q5
    obtain ⟨e1, f1⟩ := T.ex f L r _ lo a b1 w p s1 y2 q2 (by omega)
    obtain ⟨e3, e2, f2⟩ := T.args l _ h1 b1 b (w - 1) _ s2 y3 q5 hb
    refine ⟨fun R h F at_ wf hw kk => ?_, f1.add f2⟩
    obtain ⟨a1, a2⟩ := at_.split (.inr trivial)
    obtain ⟨a3, a4⟩ := a1.split (.inr trivial)
    obtain ⟨a5, _⟩ := a2.head
    have := e3 (h + 1) (by omega) (by omega)
    refine e1 R h F a3 wf hw ?_
    refine e2 R (h + 1) F a4 wf (by omega) ?_
    rw [List.length_append, ← Nat.add_assoc] at a5
    refine k_call wf q4 this (by omega) a5 ?_
    simp only [List.length_append, List.length_cons, List.length_nil] at kk
    rw [show p + s1.length + s2.length + 1 = p + (s1.length + s2.length + (0 + 1)) by omega]
    exact kk
  · cases e
  · cases e
theorem binI_ok {n : Nat} (h : opB n) : (binI n = (17, 0)) ∨ (∃ x, binI n = (16, x) ∧ 1 ≤ x ∧ x ≤ 6) ∨ (∃ x, binI n = (15, x) ∧ 1 ≤ x ∧ x ≤ 6) := by
  unfold opB at h
  unfold binI
  split
  · exact .inl rfl
  · split
    · exact .inr (.inl ⟨_, rfl, by omega, by omega⟩)
    · exact .inr (.inr ⟨_, rfl, by omega, by omega⟩)
theorem unI_ok (n : Nat) : ∃ op, unI n = (op, 0) ∧ (op = 18 ∨ op = 19 ∨ op = 20) := by
  unfold unI
  split
  · exact ⟨19, rfl, by decide⟩
  · split
    · exact ⟨18, rfl, by decide⟩
    · exact ⟨20, rfl, by decide⟩
theorem TA.e1 (T : TA N D k) (h0 : (N.getD 0 nd0).k = 0) : ∀ f L r n lo a b w p s, LayN N D (k + 1) 1 ((f, L) :: r) n p s [] 0 0 → Sh N 1 n lo a b w 0 0 false → b < D.np → TE D f L p s w 1 ∧ TF D a b := by
  intro f L r n lo a b w p s h g hb
  have z : LayB N D (LayN N D k) 1 f L r n p s [] 0 0 := h
  rcases z with ⟨_, z⟩ | ⟨e, _⟩ | ⟨e, _⟩ | ⟨e, _⟩
  rotate_left
  · cases e
  · cases e
  · cases e
  obtain ⟨z1, z2, z3⟩ := g.out
  rcases z3 with ⟨_, z3⟩ | ⟨e, _⟩
  rotate_left
  · cases e
  have w1 := g.w1
  have ab := g.ab
  -- a leaf
  have leaf : ∀ {i : In}, b = a → TE D f L p [i] w 1 → TE D f L p [i] w 1 ∧ TF D a b := fun e t => ⟨t, by rw [e]; exact TF.nil _ _⟩
  have lf : (N.getD n nd0).k = 0 ∨ (N.getD n nd0).k = 12 ∨ (N.getD n nd0).k = 13 ∨ (N.getD n nd0).k = 14 ∨ (N.getD n nd0).k = 15 ∨ (N.getD n nd0).k = 16 ∨ (N.getD n nd0).k = 17 → b = a := by
    intro hk
    rcases z3 with q | q | q | q | q | q | q | q | q | q | q <;> first | omega | exact q.2.2.1
  rcases z with ⟨d, rfl⟩ | ⟨d, rfl⟩ | ⟨d, rfl⟩ | ⟨d, x, rfl, y⟩ | ⟨d, x, rfl, y⟩ | ⟨d, i, rfl, y⟩ | ⟨d, s1, s2, rfl, y1, y2⟩ | ⟨d, s1, rfl, y⟩ | ⟨d, rfl, y⟩ | ⟨d, l, s1, rfl, y1, y2⟩ | ⟨d, s1, s2, rfl, y1, y2⟩ | ⟨d, s1, rfl, y⟩ | ⟨d, s1, s2, rfl, y1, y2⟩
  · exact leaf (lf (by omega)) fun R h F at_ wf hw kk => k_push wf (by omega) at_.head.1 (.inl rfl) kk
  · exact leaf (lf (by omega)) fun R h F at_ wf hw kk => k_push wf (by omega) at_.head.1 (.inr (.inl rfl)) kk
  · exact leaf (lf (by omega)) fun R h F at_ wf hw kk => k_push wf (by omega) at_.head.1 (.inr (.inr (.inl rfl))) kk
  · exact leaf (lf (by omega)) fun R h F at_ wf hw kk => k_const wf (by omega) at_.head.1 y kk
  · exact leaf (lf (by omega)) fun R h F at_ wf hw kk => k_const wf (by omega) at_.head.1 y kk
  · exact leaf (lf (by omega)) (var_get y w w1)
  · have q : 2 ≤ w ∧ ∃ b1, Sh N 1 (N.getD n nd0).a lo a b1 w 0 0 false ∧ Sh N 1 (N.getD n nd0).b (N.getD n nd0).a b1 b (w - 1) 0 0 false := by
      rcases z3 with q | q | q | q | q | q | q | q | q | q | q <;> first | omega | exact ⟨q.2.1, q.2.2.2⟩
    obtain ⟨w2, b1, q1, q2⟩ := q
    have := q2.ab
    obtain ⟨e1, f1⟩ := T.ex f L r _ lo a b1 w p s1 y1 q1 (by omega)
    obtain ⟨e2, f2⟩ := T.ex f L r _ _ b1 b (w - 1) _ s2 y2 q2 hb
    refine ⟨fun R h F at_ wf hw kk => ?_, f1.add f2⟩
    obtain ⟨a1, a2⟩ := at_.split (.inr trivial)
    obtain ⟨a3, a4⟩ := a1.split (.inr trivial)
    obtain ⟨a5, _⟩ := a2.head
    rw [List.length_append, ← Nat.add_assoc] at a5
    simp only [List.length_append, List.length_cons, List.length_nil] at kk
    refine e1 R h F a3 wf hw (e2 R (h + 1) F a4 wf (by omega) (k_two wf (by omega) a5 (.inl rfl) ?_))
    rw [show p + s1.length + s2.length + 1 = p + (s1.length + s2.length + (0 + 1)) by omega]
    exact kk
  · obtain ⟨e1, f1⟩ := T.ca f L r n lo a b w p s1 y d g hb
    have q : 2 ≤ w := by
      rcases z3 with q | q | q | q | q | q | q | q | q | q | q <;> first | omega | exact q.2.1
    refine ⟨fun R h F at_ wf hw kk => ?_, f1⟩
    obtain ⟨a1, a2⟩ := at_.split (.inr trivial)
    obtain ⟨a5, _⟩ := a2.head
    simp only [List.length_append, List.length_cons, List.length_nil, Nat.zero_add] at kk
    exact e1 R h F a1 wf hw (k_pop wf (by omega) a5 kk)
  · have q : (N.getD n nd0).n = a + 1 ∧ (N.getD n nd0).n ≤ 12 ∧ ∃ l h1 l2 h2 al2, n = h2 + 1 ∧ Chain N (N.getD n nd0).a l ∧ l.length ≤ 3 ∧ Names N l lo h1 ∧ Chain N (N.getD n nd0).b l2 ∧ SeqS (fun x lo a b al al' => Sh N 0 x lo a b 120 al al' false) l2 h1 h2 (a + 1) b l.length al2 := by
      rcases z3 with q | q | q | q | q | q | q | q | q | q | q <;> first | omega | exact ⟨q.2.2.1, q.2.2.2⟩
    obtain ⟨q1, q2, l, h1, l2, h2, al2, q3, q4, q5, q6, q7, q8⟩ := q
    obtain ⟨t1, t2, t3⟩ := T.func y q1 q4 q6 q7 q8 hb
    refine ⟨fun R h F at_ wf hw kk => ?_, t1⟩
    refine k_clo wf (by omega) at_.head.1 (if_pos t3) (fun e he => ?_) kk
    rcases t2.2 e he with ⟨x1, s, x2, x3⟩ | x
    · exact .inl ⟨x1, hid_at x3 x2⟩
    · exact .inr x
  · have q : 2 ≤ w ∧ ∃ l h1, n = h1 + 1 ∧ Chain N (N.getD n nd0).a l ∧ SeqE (fun x lo a b w => Sh N 1 x lo a b w 0 0 false) 0 l lo h1 a b (w - 1) := by
      rcases z3 with q | q | q | q | q | q | q | q | q | q | q <;> first | omega | exact ⟨q.2.1, q.2.2⟩
    obtain ⟨w2, l', h1, q1, q2, q3⟩ := q
    have el := y1.uniq q2
    subst el
    obtain ⟨e1, f1⟩ := T.items l lo h1 a b (w - 1) 0 _ s1 y2 q3 hb
    refine ⟨fun R h F at_ wf hw kk => ?_, f1⟩
    obtain ⟨a1, a2⟩ := at_.head
    refine k_push wf (by omega) a1 (.inr (.inr (.inr rfl))) (e1 R h F a2 wf (by omega) ?_)
    rw [List.length_cons] at kk
    rw [show p + 1 + s1.length = p + (s1.length + 1) by omega]
    exact kk
  · have q : 2 ≤ w ∧ opB (N.getD n nd0).n ∧ ∃ b1, Sh N 1 (N.getD n nd0).a lo a b1 w 0 0 false ∧ Sh N 1 (N.getD n nd0).b (N.getD n nd0).a b1 b (w - 1) 0 0 false := by
      rcases z3 with q | q | q | q | q | q | q | q | q | q | q <;> first | omega | exact ⟨q.2.1, q.2.2.1, q.2.2.2.2⟩
    obtain ⟨w2, qo, b1, q1, q2⟩ := q
    have := q2.ab
    obtain ⟨e1, f1⟩ := T.ex f L r _ lo a b1 w p s1 y1 q1 (by omega)
    obtain ⟨e2, f2⟩ := T.ex f L r _ _ b1 b (w - 1) _ s2 y2 q2 hb
    refine ⟨fun R h F at_ wf hw kk => ?_, f1.add f2⟩
    obtain ⟨a1, a2⟩ := at_.split (.inr trivial)
    obtain ⟨a3, a4⟩ := a1.split (.inr trivial)
    obtain ⟨a5, _⟩ := a2.head
    rw [List.length_append, ← Nat.add_assoc] at a5
    simp only [List.length_append, List.length_cons, List.length_nil] at kk
    refine e1 R h F a3 wf hw (e2 R (h + 1) F a4 wf (by omega) ?_)
    have kk : Kt (fxD D f) R (p + s1.length + s2.length + 1) (ty (h + 1) (hidL L) F) := by
      rw [show p + s1.length + s2.length + 1 = p + (s1.length + s2.length + (0 + 1)) by omega]
      exact kk
    rcases binI_ok qo with e | ⟨x, e, x1, x6⟩ | ⟨x, e, x1, x6⟩
    · rw [e] at a5
      exact k_two wf (by omega) a5 (.inr (.inr rfl)) kk
    · rw [e] at a5
      exact k_cmp wf (by omega) a5 x1 x6 kk
    · rw [e] at a5
      exact k_arith wf (by omega) a5 x1 x6 (kk.sub (sub_ty _ (List.prefix_refl _) _ _))
  · have q : Sh N 1 (N.getD n nd0).a lo a b w 0 0 false := by
      rcases z3 with q | q | q | q | q | q | q | q | q | q | q <;> first | omega | exact q.2.2.2
    obtain ⟨e1, f1⟩ := T.ex f L r _ lo a b w p s1 y q hb
    refine ⟨fun R h F at_ wf hw kk => ?_, f1⟩
    obtain ⟨a1, a2⟩ := at_.split (.inr trivial)
    obtain ⟨a5, _⟩ := a2.head
    simp only [List.length_append, List.length_cons, List.length_nil, Nat.zero_add] at kk
    obtain ⟨op, e, ho⟩ := unI_ok (N.getD n nd0).n
    rw [e] at a5
    exact e1 R h F a1 wf hw (k_un wf (by omega) a5 ho kk)
  · have q : ∃ b1, Sh N 1 (N.getD n nd0).a lo a b1 w 0 0 false ∧ Sh N 1 (N.getD n nd0).b (N.getD n nd0).a b1 b w 0 0 false := by
      rcases z3 with q | q | q | q | q | q | q | q | q | q | q <;> first | omega | exact q.2.2
    obtain ⟨b1, q1, q2⟩ := q
    have := q2.ab
    obtain ⟨e1, f1⟩ := T.ex f L r _ lo a b1 w p s1 y1 q1 (by omega)
    obtain ⟨e2, f2⟩ := T.ex f L r _ _ b1 b w _ s2 y2 q2 hb
    refine ⟨fun R h F at_ wf hw kk => ?_, f1.add f2⟩
    have alt := at_.lt
    obtain ⟨a1, a2⟩ := at_.split (.inr trivial)
    obtain ⟨a5, a6⟩ := a2.head
    simp only [List.length_append, List.length_cons] at kk alt
    have kk : Kt (fxD D f) R (p + (s1.length + 1 + s2.length)) (ty (h + 1) (hidL L) F) := by
      rw [show p + (s1.length + 1 + s2.length) = p + (s1.length + (s2.length + 1)) by omega]
      exact kk
    refine e1 R h F a1 wf hw (k_jk wf (by omega) a5 (by split <;> simp) (by show _ < (D.fn f).code.length; omega) kk ?_)
    rw [← Nat.add_assoc] at e2
    refine e2 R h F a6 wf (by omega) ?_
    rw [show p + s1.length + 1 + s2.length = p + (s1.length + 1 + s2.length) by omega]
    exact kk
end
end Go.Proofs.Qxb6500574aGreatDoor
