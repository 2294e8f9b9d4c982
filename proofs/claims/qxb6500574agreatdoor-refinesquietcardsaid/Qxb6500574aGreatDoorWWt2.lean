/-
  moon: HOW MUCH THE COMPILER LAYS: statements, the whole. Plain; no memory, no walk.
-/
import Derived.Test.Qxb6500574aGreatDoorWWt
namespace Go.Proofs.Qxb6500574aGreatDoor
set_option linter.unusedVariables false
set_option linter.unusedSimpArgs false
section
variable {N : List Nd} {k : Nat}
theorem WA.exo (T : WA N k) (h0 : (N.getD 0 nd0).k = 0) {f x lo a b w m : Nat} {c : CmD} (h : (x = 0 ∧ b = a) ∨ (Sh N 1 x lo a b w 0 0 false ∧ x - lo ≤ m)) (hf : f < c.fns.length) (hl : c.fns.length = 13) : Wg c (comN N k 1 f x c) (93 * m + 3) := by
  rcases h with ⟨rfl, rfl⟩ | ⟨h, hm⟩
  · exact (T.no f c hf h0).wide (by omega)
  · exact (T.ex f x lo a b w c h hf hl).wide (by omega)
theorem WA.s0 (T : WA N k) (h0 : (N.getD 0 nd0).k = 0) : ∀ f n lo a b al al' lp c, Sh N 0 n lo a b 120 al al' lp → f < c.fns.length → c.fns.length = 13 → Wg c (comN N (k + 1) 0 f n c) (93 * (n - lo)) := by
  intro f n lo a b al al' lp c h hf hl
  obtain ⟨z1, z2, z3⟩ := h.out
  rcases z3 with ⟨e, _⟩ | ⟨_, z3⟩
  · cases e
  have em : ∀ {c c1 : CmD} {j : Nat}, Wg c c1 j → f < c.fns.length → ∀ l : List In, Wg c (c1.emit f l) (j + 3 * l.length) := fun g h l => g.trans (Wg.emit (g.lt h) l)
  have bd : ∀ {c c1 : CmD} {j : Nat}, Wg c c1 j → f < c.fns.length → ∀ s : Bs, Wg c (c1.bind f s) (j + 3) := fun g h s => g.trans (Wg.bind (g.lt h) s)
  rcases z3 with ⟨g, g1, g2, g3, g4⟩ | ⟨g, g1, g2, g3, g4, g5, g6, g7, g8⟩ | ⟨g, g1, g2, g3, g4, g5, g6⟩ | ⟨g, g1, g2, g3, b1, g4, g5⟩ | ⟨g, g1, g2, g3, g4⟩ | ⟨g, g1, b1, l, h1, b2, l2, h2, x1, x2, g2, g3, g4, g5, g6, g7⟩ | ⟨g, g1, b1, l, h1, x1, g2, g3, g4, g5⟩ | ⟨g, g1, g2, g3, l0, h0', b0, l, h1, x1, g4, g5, g6, g7, g8, g9⟩ | ⟨g, g1, g2, g3, g4, g5, b0, l, h1, x1, g6, g7, g8, g9⟩ | ⟨g, g1, g2⟩ | ⟨g, g1, g2, g3, g4⟩
  · rw [com_s1 g]
    have u := T.exo h0 (m := n - lo - 1) (g4.imp (fun z => ⟨z.1, z.2.2⟩) (fun z => ⟨z.2, by omega⟩)) hf hl
    exact (bd u hf _).wide (by omega)
  · rw [com_s2 g]
    have i1 := g8.lt
    have u := T.ca f _ _ a b 120 c g8 g7 hf hl
    have u2 := u.trans (Wg.declare (u.lt hf) (N.getD (N.getD n nd0).a nd0).s)
    exact (em (bd u2 hf _) hf _).wide (by simp only [List.length_cons, List.length_nil]; omega)
  · rw [com_s3 g]
    have i1 := g6.lt
    have u := Wg.declare hf (N.getD n nd0).s
    have u2 := u.trans (T.ex f _ _ a b 120 _ g6 (u.lt hf) (u.len.trans hl))
    exact (em u2 hf _).wide (by simp only [List.length_cons, List.length_nil]; omega)
  · have i1 := g4.lt; have i2 := g5.lt
    rcases g3 with g3 | g3
    · rw [com_s4n g g3]
      have u := T.ex f _ _ _ b 110 c g5 hf hl
      exact (u.trans (Wg.variable (u.lt hf) _ _ _ _)).wide (by omega)
    · rw [com_s4i g g3]
      obtain ⟨v1, v2, v3⟩ := g4.out
      have hz : ∃ b2, (N.getD n nd0).a = (N.getD (N.getD n nd0).a nd0).b + 1 ∧ Sh N 1 (N.getD (N.getD n nd0).a nd0).a lo a b2 110 0 0 false ∧ Sh N 1 (N.getD (N.getD n nd0).a nd0).b (N.getD (N.getD n nd0).a nd0).a b2 b1 109 0 0 false := by
        rcases v3 with ⟨_, v3⟩ | ⟨e, _⟩
        · rcases v3 with q | q | q | q | q | q | q | q | q | q | q <;> first | omega | (obtain ⟨_, _, q1, b2, q2, q3⟩ := q; exact ⟨b2, q1, q2, q3⟩)
        · cases e
      obtain ⟨b2, j1, j2, j3⟩ := hz
      have i3 := j2.lt; have i4 := j3.lt
      have u1 := T.ex f _ _ _ _ _ c j2 hf hl
      have u2 := u1.trans (T.ex f _ _ _ _ _ _ j3 (u1.lt hf) (u1.len.trans hl))
      have u3 := u2.trans (T.ex f _ _ _ _ _ _ g5 (u2.lt hf) (u2.len.trans hl))
      exact (em u3 hf _).wide (by simp only [List.length_cons, List.length_nil]; omega)
  · rw [com_s5 g]
    have i1 := g4.lt
    have u := T.ca f _ _ a b 120 c g4 g3 hf hl
    exact (em u hf _).wide (by simp only [List.length_cons, List.length_nil]; omega)
  · rw [com_s6 g]
    have i1 := g3.lt
    have i2 := (SeqS.in_ Sh.ltS g5).1
    have i3 := (SeqS.in_ Sh.ltS g7).1
    have u1 := T.ex f _ _ a b1 120 c g3 hf hl
    have u2 := u1.trans (Wg.jump (u1.lt hf) 22)
    have u3 := u2.trans (T.bl f _ l _ h1 b1 b2 _ x1 lp _ g4 g5 (by omega) (u2.lt hf) (u2.len.trans hl))
    have u4 := u3.trans (Wg.jump (u3.lt hf) 21)
    have u5 := u4.trans (Wg.land (u4.lt hf) ((comN N k 1 f (N.getD n nd0).a c).here f))
    have u6 := u5.trans (T.bl f _ l2 _ h2 b2 b _ x2 lp _ g6 g7 (by omega) (u5.lt hf) (u5.len.trans hl))
    exact (u6.trans (Wg.land (u6.lt hf) _)).wide (by omega)
  · rw [com_s7 g]
    have i1 := g3.lt
    have i2 := (SeqS.in_ Sh.ltS g5).1
    have u1 := T.ex f _ _ a b1 120 c g3 hf hl
    have u2 := u1.trans (Wg.jump (u1.lt hf) 22)
    have u3 := u2.trans (Wg.open_ (u2.lt hf) (c.fn f).locals.length)
    have u4 := u3.trans (T.bl f _ l _ h1 b1 b _ x1 true _ g4 g5 (by omega) (u3.lt hf) (u3.len.trans hl))
    have u5 := em u4 hf [(21, c.here f % 65536)]
    have u6 := u5.trans (Wg.land (u5.lt hf) ((comN N k 1 f (N.getD n nd0).a c).here f))
    exact (u6.trans (Wg.shut (u6.lt hf))).wide (by simp only [List.length_cons, List.length_nil]; omega)
  · rw [com_s8 g]
    dsimp only
    have i9 := (SeqS.in_ Sh.ltS g9).1
    obtain ⟨u1, l1, el⟩ : ∃ y l', l0 = y :: l' := by cases l0 with | nil => simp at g6 | cons y l' => exact ⟨y, l', rfl⟩
    subst el
    obtain ⟨ea, ea0, gch⟩ := g5
    subst ea
    obtain ⟨u2, l3, el⟩ : ∃ y l', l1 = y :: l' := by cases l1 with | nil => simp at g6 | cons y l' => exact ⟨y, l', rfl⟩
    subst el
    obtain ⟨ea, ea2, gch3⟩ := gch
    rw [ea]
    obtain ⟨b1, gs1, b2, gs2, gs3⟩ := g7
    have gs3 : SeqE (fun x lo a b w => Sh N 1 x lo a b 120 0 0 false) 0 l3 u2 h0' b2 b0 120 := gs3
    have j1 := gs1.lt
    have j2 := gs2.lt
    have v1 := bd (T.ex f _ _ a b1 120 c gs1 hf hl) hf []
    have v2 := bd (v1.trans (T.ex f _ _ b1 b2 120 _ gs2 (v1.lt hf) (v1.len.trans hl))) hf []
    generalize hc2 : (comN N k 1 f u2 ((comN N k 1 f (N.getD n nd0).a c).bind f [])).bind f [] = c2 at *
    have v3 : Wg c (if (N.getD u2 nd0).next ≠ 0 then comN N k 1 f (N.getD u2 nd0).next c2 else (c2.const f (numV one64)).1.emit f [(1, (c2.const f (numV one64)).2)]) (93 * (h0' - lo) + 45) ∧ u2 ≤ h0' := by
      cases l3 with
      | nil =>
        obtain ⟨e1, e2⟩ := gs3
        have hz : (N.getD u2 nd0).next = 0 := gch3
        rw [if_neg (by rw [hz]; simp)]
        have w1 := v2.trans (Wg.const (v2.lt hf) (numV one64))
        exact ⟨(em w1 hf _).wide (by simp only [List.length_cons, List.length_nil]; omega), by omega⟩
      | cons y l4 =>
        have : l4 = [] := by cases l4 with | nil => rfl | cons _ _ => simp at g6
        subst this
        obtain ⟨e1, e2, e3⟩ := gch3
        obtain ⟨b3, e4, e5, e6⟩ := gs3
        have hz : (N.getD u2 nd0).next ≠ 0 := by rw [e1]; exact e2
        rw [if_pos hz, e1]
        have i5 := e4.lt
        exact ⟨(v2.trans (T.ex f _ _ b2 b3 120 _ e4 (v2.lt hf) (v2.len.trans hl))).wide (by omega), by omega⟩
    obtain ⟨v3, j3⟩ := v3
    generalize (if (N.getD u2 nd0).next ≠ 0 then comN N k 1 f (N.getD u2 nd0).next c2 else (c2.const f (numV one64)).1.emit f [(1, (c2.const f (numV one64)).2)]) = c3 at *
    have v4 := em (bd v3 hf []) hf [(30, (c.fn f).locals.length % 65536)]
    generalize (c3.bind f []).emit f [(30, (c.fn f).locals.length % 65536)] = c4 at *
    have v5 := em v4 hf [(31, (c.fn f).locals.length % 65536)]
    generalize c4.emit f [(31, (c.fn f).locals.length % 65536)] = c5 at *
    have v6 := v5.trans (Wg.jump (v5.lt hf) 22)
    have v7 := v6.trans (Wg.open_ (v6.lt hf) (c.fn f).locals.length)
    have v8 := bd (em v7 hf [(5, (c.fn f).locals.length % 65536)]) hf (N.getD n nd0).s
    have v9 := v8.trans (T.bl f _ l _ h1 b0 b _ x1 true _ g8 g9 (by omega) (v8.lt hf) (v8.len.trans hl))
    have v10 := v9.trans (Wg.leave (v9.lt hf) ((c.fn f).locals.length + 3))
    have v11 := em v10 hf [(5, (c.fn f).locals.length % 65536), (5, ((c.fn f).locals.length + 2) % 65536), (15, 1), (6, (c.fn f).locals.length % 65536), (21, c4.here f % 65536)]
    have v12 := v11.trans (Wg.land (v11.lt hf) (c5.here f))
    have v13 := v12.trans (Wg.shut (v12.lt hf))
    exact (v13.trans (Wg.leave (v13.lt hf) _)).wide (by simp only [List.length_cons, List.length_nil]; omega)
  · rw [com_s9 g]
    dsimp only
    have i1 := g7.lt
    have i9 := (SeqS.in_ Sh.ltS g9).1
    have v1 := bd (em (bd (T.ex f _ _ a b0 120 c g7 hf hl) hf []) hf [(2, 0)]) hf []
    generalize (((comN N k 1 f (N.getD n nd0).b c).bind f []).emit f [(2, 0)]).bind f [] = c1 at *
    have v2 := em v1 hf [(32, (c.fn f).locals.length % 65536)]
    generalize c1.emit f [(32, (c.fn f).locals.length % 65536)] = c2 at *
    have v3 := v2.trans (Wg.jump (v2.lt hf) 22)
    have v4 := v3.trans (Wg.open_ (v3.lt hf) (c.fn f).locals.length)
    have v5 := v4.trans (Wg.declare (v4.lt hf) (N.getD (N.getD n nd0).a nd0).s)
    have v6 := v5.trans (Wg.declare (v5.lt hf) (N.getD (N.getD (N.getD n nd0).a nd0).next nd0).s)
    have v7 := v6.trans (T.bl f _ l _ h1 b0 b _ x1 true _ g8 g9 (by omega) (v6.lt hf) (v6.len.trans hl))
    have v8 := v7.trans (Wg.leave (v7.lt hf) ((c.fn f).locals.length + 2))
    have v9 := em v8 hf [(21, c1.here f % 65536)]
    have v10 := v9.trans (Wg.land (v9.lt hf) (c2.here f))
    have v11 := v10.trans (Wg.shut (v10.lt hf))
    exact (v11.trans (Wg.leave (v11.lt hf) _)).wide (by simp only [List.length_cons, List.length_nil]; omega)
  · rw [com_s10 g]
    have key : ∃ b1 m1 m2 lo2, m1 + m2 + 1 ≤ n - lo ∧ (((N.getD n nd0).a = 0 ∧ b1 = a) ∨ (Sh N 1 (N.getD n nd0).a lo a b1 120 0 0 false ∧ (N.getD n nd0).a - lo ≤ m1)) ∧ (((N.getD n nd0).b = 0 ∧ b = b1) ∨ (Sh N 1 (N.getD n nd0).b lo2 b1 b 119 0 0 false ∧ (N.getD n nd0).b - lo2 ≤ m2)) := by
      rcases g2 with ⟨e1, e2, e3, e4⟩ | ⟨e1, e2, e3⟩ | ⟨e1, b1, e2, e3⟩
      · exact ⟨a, 0, 0, 0, by omega, .inl ⟨e1, rfl⟩, .inl ⟨e2, e4⟩⟩
      · have := e3.lt
        exact ⟨b, (N.getD n nd0).a - lo, 0, 0, by omega, .inr ⟨e3, by omega⟩, .inl ⟨e1, rfl⟩⟩
      · have := e2.lt; have := e3.lt
        exact ⟨b1, (N.getD n nd0).a - lo, (N.getD n nd0).b - (N.getD n nd0).a, (N.getD n nd0).a, by omega, .inr ⟨e2, by omega⟩, .inr ⟨e3, by omega⟩⟩
    obtain ⟨b1, m1, m2, lo2, hm, j1, j2⟩ := key
    have v1 := T.exo h0 j1 hf hl
    have v2 := v1.trans (T.exo h0 j2 (v1.lt hf) (v1.len.trans hl))
    exact (em v2 hf _).wide (by simp only [List.length_cons, List.length_nil]; omega)
  · have e : ∃ c1, Wg c c1 3 ∧ comN N (k + 1) 0 f n c = (c1.jump f 21).upd f fun x => { x with loops := x.loops.dropLast ++ [{ (c.fn f).loops.getLastD ⟨0, []⟩ with breaks := ((c.fn f).loops.getLastD ⟨0, []⟩).breaks ++ [c1.here f] }] } := by
      refine ⟨if ((c.fn f).loops.getLastD ⟨0, []⟩).base < (c.fn f).locals.length then c.emit f [(29, ((c.fn f).loops.getLastD ⟨0, []⟩).base % 65536)] else c, ?_, ?_⟩
      · split
        · exact Wg.emit hf _
        · exact (Wg.refl c).wide (by omega)
      · conv => lhs; unfold comN
        simp (config := {decide := true}) only [if_true, if_false, g]
    obtain ⟨c1, v1, e⟩ := e
    rw [e]
    have v2 := v1.trans (Wg.jump (v1.lt hf) 21)
    exact (v2.trans (Wg.upd (k := 0) (v2.lt hf) (u := fun x => { x with loops := x.loops.dropLast ++ [{ (c.fn f).loops.getLastD ⟨0, []⟩ with breaks := ((c.fn f).loops.getLastD ⟨0, []⟩).breaks ++ [c1.here f] }] }) (by simp only [wtF]; omega))).wide (by omega)
theorem WA.all (h0 : (N.getD 0 nd0).k = 0) : ∀ k, WA N k := by
  intro k
  induction k with
  | zero => exact ⟨fun _ _ _ _ _ _ c _ _ _ => (Wg.refl c).wide (by omega), fun _ _ _ _ _ _ c _ _ _ _ => (Wg.refl c).wide (by omega), fun _ _ _ _ _ _ _ _ c _ _ _ => (Wg.refl c).wide (by omega), fun _ _ _ _ _ _ _ _ _ _ c _ _ _ _ _ => (Wg.refl c).wide (by omega), fun _ c _ _ => (Wg.refl c).wide (by omega)⟩
  | succ k T => exact ⟨T.e1, T.c2, T.s0 h0, T.b3, WA.n1⟩
theorem com_wt {root : Nat} (T : TrP N root) (h0 : (N.getD 0 nd0).k = 0) : wtC (comP N root) ≤ 93 * (N.length - 1) + 12 := by
  obtain ⟨l, b, al', hb, hc, hs⟩ := T.ex
  have hn := T.n1
  have u1 : Wg cm00 (cm00.fresh 0 none) 0 := Wg.fresh (by decide) none
  have u2 := u1.trans ((WA.all h0 (2 * N.length + 5)).bl 0 root l 0 (N.length - 1) 0 b 0 al' false _ hc hs (by omega) (u1.lt (by decide)) (by rw [u1.len]; rfl))
  have u3 := u2.trans (Wg.emit (f := 0) (u2.lt (by decide)) [(2, 0), (2, 0), (27, 0)])
  have := u3.le
  have e : wtC cm00 = 0 := by decide
  rw [e] at this
  have hD : comP N root = (comN N (2 * N.length + 5) 3 0 root (cm00.fresh 0 none)).emit 0 [(2, 0), (2, 0), (27, 0)] := rfl
  rw [hD]
  simp only [List.length_cons, List.length_nil] at this
  omega
end
end Go.Proofs.Qxb6500574aGreatDoor
