/-
  moon: THE COMPILER: statements without blocks. Plain; no memory, no walk.
-/
import Derived.Test.Qxb6500574aGreatDoorWCo6
namespace Go.Proofs.Qxb6500574aGreatDoor
set_option linter.unusedVariables false
set_option linter.unusedSimpArgs false
section
variable {N : List Nd} {k f a b n m kc al' lb lo : Nat} {lp : Bool} {L L' : List Bs} {r : En} {c c' : CmD} {seg : List In}
theorem PoS.mk {task : Nat} (e : comN N k task f n c = c') (p : Po f L L' r a b c c' kc) (hk : kc ≤ m) (hL : L <+: L') (ha : L'.length = al') (hc : (c'.fn f).code = (c.fn f).code ++ seg) (hl : (c'.fn f).loops = addB (c.fn f).loops (holes (c.fn f).code.length seg)) (hn : lp = false → NoH seg) (hs : seg.length ≤ 17 * m + (if task = 3 then 1 else 0))
    (hy : ∀ D, Ex D c' f r a b → ∀ ex, ex < 65535 → LayN N D k task ((f, L) :: r) n (c.fn f).code.length (patch ex seg) L' lb ex) : PoS N k task f L r a b n m al' lb lp c := by
  unfold PoS
  rw [e]
  exact ⟨seg, L', kc, p, hk, hL, ha, hc, hl, hn, hs, hy⟩
/-- without a break -/
theorem PoS.nob (e : comN N k 0 f n c = c') (p : Po f L L' r a b c c' kc) (hk : kc ≤ m) (hL : L <+: L') (ha : L'.length = al') (hc : (c'.fn f).code = (c.fn f).code ++ seg) (hl : (c'.fn f).loops = (c.fn f).loops) (hn : NoH seg) (hs : seg.length ≤ 17 * m)
    (hy : ∀ D, Ex D c' f r a b → ∀ ex, LayN N D k 0 ((f, L) :: r) n (c.fn f).code.length seg L' lb ex) : PoS N k 0 f L r a b n m al' lb lp c :=
  PoS.mk e p hk hL ha hc (by rw [hl, addB_noh hn]) (fun _ => hn) (by simp; omega) fun D hD ex _ => by rw [hn.patch]; exact hy D hD ex
/-- an expression, or none -/
theorem CA.exo (C : CA N k) (h0 : (N.getD 0 nd0).k = 0) (hk1 : 1 ≤ k) {x w : Nat} {c : CmD} (h : (x = 0 ∧ b = a) ∨ (Sh N 1 x lo a b w 0 0 false ∧ x - lo ≤ m ∧ 2 * x + 2 ≤ k)) (P : Pre f L r a m c) :
    ∃ seg kc, Po f L L r a b c (comN N k 1 f x c) kc ∧ kc ≤ m ∧ ((comN N k 1 f x c).fn f).code = (c.fn f).code ++ seg ∧ ((comN N k 1 f x c).fn f).loops = (c.fn f).loops ∧ NoH seg ∧ seg.length ≤ 3 * m + 1 ∧
      ∀ D, Ex D (comN N k 1 f x c) f r a b → LayN N D k 1 ((f, L) :: r) x (c.fn f).code.length seg [] 0 0 := by
  rcases h with ⟨rfl, rfl⟩ | ⟨h, hm, hk⟩
  · cases k with
    | zero => omega
    | succ k =>
      have e : comN N (k + 1) 1 f 0 c = c.emit f [(2, 0)] := by
        conv => lhs; unfold comN
        simp (config := {decide := true}) only [if_true, if_false, h0]
      rw [e]
      exact ⟨[(2, 0)], 0, Po.emit b P.iv _, by omega, (emit_code P.iv _).1, (emit_code P.iv _).2, NoH.one (.inl (by decide)), by simp, fun D _ => .inl ⟨rfl, .inl ⟨.inl h0, rfl⟩⟩⟩
  · have i1 := h.lt
    obtain ⟨s1, k1, p1, q1, c1, l1, n1, m1, y1⟩ := C.ex f L r lo a b x w c h ⟨P.iv, P.fa, by have := P.pc; omega, by have := P.kc; omega⟩ hk
    exact ⟨s1, k1, p1, by omega, c1, l1, n1, by omega, y1⟩
section
theorem com_s1 (g : (N.getD n nd0).k = 1) : comN N (k + 1) 0 f n c = (comN N k 1 f (N.getD n nd0).a c).bind f (N.getD n nd0).s := by
  conv => lhs; unfold comN
  simp (config := {decide := true}) only [if_true, if_false, g]
theorem com_s2 (g : (N.getD n nd0).k = 2) : comN N (k + 1) 0 f n c = ((((comN N k 2 f (N.getD n nd0).b c).declare f (N.getD (N.getD n nd0).a nd0).s).bind f (N.getD (N.getD (N.getD n nd0).a nd0).next nd0).s).emit f [(6, ((comN N k 2 f (N.getD n nd0).b c).fn f).locals.length % 65536)]) := by
  conv => lhs; unfold comN
  simp (config := {decide := true}) only [if_true, if_false, g]
theorem com_s3 (g : (N.getD n nd0).k = 3) : comN N (k + 1) 0 f n c = (comN N k 1 f (N.getD n nd0).a (c.declare f (N.getD n nd0).s)).emit f [(6, (c.fn f).locals.length % 65536)] := by
  conv => lhs; unfold comN
  simp (config := {decide := true}) only [if_true, if_false, g]
theorem com_s4n (g : (N.getD n nd0).k = 4) (g2 : (N.getD (N.getD n nd0).a nd0).k = 17) : comN N (k + 1) 0 f n c = (comN N k 1 f (N.getD n nd0).b c).variable f (N.getD (N.getD n nd0).a nd0).s 6 8 10 := by
  conv => lhs; unfold comN
  simp (config := {decide := true}) only [if_true, if_false, g, g2]
theorem com_s4i (g : (N.getD n nd0).k = 4) (g2 : (N.getD (N.getD n nd0).a nd0).k = 18) : comN N (k + 1) 0 f n c = (comN N k 1 f (N.getD n nd0).b (comN N k 1 f (N.getD (N.getD n nd0).a nd0).b (comN N k 1 f (N.getD (N.getD n nd0).a nd0).a c))).emit f [(12, 0)] := by
  conv => lhs; unfold comN
  simp (config := {decide := true}) only [if_true, if_false, g, g2]
theorem com_s5 (g : (N.getD n nd0).k = 5) : comN N (k + 1) 0 f n c = (comN N k 2 f (N.getD n nd0).a c).emit f [(25, 0), (25, 0)] := by
  conv => lhs; unfold comN
  simp (config := {decide := true}) only [if_true, if_false, g]
theorem com_s10 (g : (N.getD n nd0).k = 10) : comN N (k + 1) 0 f n c = (comN N k 1 f (N.getD n nd0).b (comN N k 1 f (N.getD n nd0).a c)).emit f [(27, 0)] := by
  conv => lhs; unfold comN
  simp (config := {decide := true}) only [if_true, if_false, g]
end
theorem CA.t1 (C : CA N k) (h0 : (N.getD 0 nd0).k = 0) (P : Pre f L r a (n - lo) c) (hn : lo < n) (hk : 2 * n + 2 ≤ k + 1) (g : (N.getD n nd0).k = 1) (g1 : nmOk (N.getD n nd0).s) (g2 : al' = L.length + 1) (g3 : al' ≤ 12)
    (g4 : ((N.getD n nd0).a = 0 ∧ n = lo + 1 ∧ b = a) ∨ (n = (N.getD n nd0).a + 1 ∧ Sh N 1 (N.getD n nd0).a lo a b 120 0 0 false)) : PoS N (k + 1) 0 f L r a b n (n - lo) al' lb lp c := by
  obtain ⟨s1, k1, p1, q1, c1, l1, n1, m1, y1⟩ := C.exo (m := n - lo - 1) h0 (by omega) (g4.imp (fun z => ⟨z.1, z.2.2⟩) fun z => ⟨z.2, by omega, by omega⟩) (f := f) (L := L) (r := r) (c := c) ⟨P.iv, P.fa, by have := P.pc; omega, by have := P.kc; omega⟩
  obtain ⟨p2, c2, l2⟩ := Po.bind b p1.iv (N.getD n nd0).s (by omega)
  refine PoS.nob (seg := s1 ++ [(6, L.length)]) (com_s1 g) (p1.trans p2) (by omega) (List.prefix_append _ _) (by simp [g2]) (by rw [c2, c1, List.append_assoc]) (by rw [l2, l1]) (n1.append (NoH.one (.inl (by decide)))) (by simp; omega) fun D hD ex => ?_
  exact .inr (.inr (.inr ⟨rfl, .inl ⟨g, rfl, Nat.le_trans p2.iv.2.1.1 hD.ns, s1, rfl, y1 D (hD.back p2.gr p1.gr.ab P.fa P.iv.1.2.2.2)⟩⟩))
theorem CA.t2 (C : CA N k) (P : Pre f L r a (n - lo) c) (hn : lo < n) (hk : 2 * n + 2 ≤ k + 1) (g : (N.getD n nd0).k = 2) (g2 : al' = L.length + 2) (g3 : al' ≤ 12)
    (g6 : n = (N.getD n nd0).b + 1) (g7 : (N.getD (N.getD n nd0).b nd0).k = 19) (g8 : Sh N 1 (N.getD n nd0).b (lo + 2) a b 120 0 0 false) : PoS N (k + 1) 0 f L r a b n (n - lo) al' lb lp c := by
  have i1 := g8.lt
  obtain ⟨s1, k1, p1, q1, c1, l1, n1, m1, y1⟩ := C.ca f L r _ a b _ _ c g8 g7 ⟨P.iv, P.fa, by have := P.pc; omega, by have := P.kc; omega⟩ (by omega)
  have p2 := Po.declare b p1.iv (N.getD (N.getD n nd0).a nd0).s (by omega)
  obtain ⟨c2, l2⟩ := declare_code p1.iv (N.getD (N.getD n nd0).a nd0).s
  obtain ⟨p3, c3, l3⟩ := Po.bind b p2.iv (N.getD (N.getD (N.getD n nd0).a nd0).next nd0).s (by simp; omega)
  have p4 := Po.emit b p3.iv [(6, L.length)]
  obtain ⟨c4, l4⟩ := emit_code p3.iv [(6, L.length)]
  have e := com_s2 (k := k) (f := f) (c := c) g
  rw [p1.iv.loc, Nat.mod_eq_of_lt (by omega)] at e
  have eL : L ++ [(N.getD (N.getD n nd0).a nd0).s] ++ [(N.getD (N.getD (N.getD n nd0).a nd0).next nd0).s] = L ++ [(N.getD (N.getD n nd0).a nd0).s, (N.getD (N.getD (N.getD n nd0).a nd0).next nd0).s] := by rw [List.append_assoc]; rfl
  rw [eL] at p3 p4
  refine PoS.nob (seg := s1 ++ [(6, L.length + 1), (6, L.length)]) e (((p1.trans p2).trans p3).trans p4) (by omega) (List.prefix_append _ _) (by simp [g2]) (by rw [c4, c3, c2, c1]; simp) (by rw [l4, l3, l2, l1]) (n1.append (NoH.cons (.inl (by decide)) (NoH.one (.inl (by decide))))) (by simp; omega) fun D hD ex => ?_
  exact .inr (.inr (.inr ⟨rfl, .inr (.inl ⟨g, rfl, Nat.le_trans p4.iv.2.1.1 hD.ns, s1, rfl, y1 D (hD.back (p2.gr.trans (p3.gr.trans p4.gr)) p1.gr.ab P.fa P.iv.1.2.2.2)⟩)⟩))
theorem CA.t3 (C : CA N k) (P : Pre f L r a (n - lo) c) (hn : lo < n) (hk : 2 * n + 2 ≤ k + 1) (g : (N.getD n nd0).k = 3) (g2 : al' = L.length + 1) (g3 : al' ≤ 12)
    (g4 : n = (N.getD n nd0).a + 1) (g6 : Sh N 1 (N.getD n nd0).a lo a b 120 0 0 false) : PoS N (k + 1) 0 f L r a b n (n - lo) al' lb lp c := by
  have i1 := g6.lt
  have p0 := Po.declare a P.iv (N.getD n nd0).s (by omega)
  obtain ⟨c0, l0⟩ := declare_code P.iv (N.getD n nd0).s
  have c0' : ((c.declare f (N.getD n nd0).s).fn f).code = (c.fn f).code ++ [] := by rw [c0]; simp
  obtain ⟨s1, k1, p1, q1, c1, l1, n1, m1, y1⟩ := C.ex f _ r _ a b _ _ _ g6 (P.next p0 c0' (by rw [List.length_nil]; omega) (by omega)) (by omega)
  have p2 := Po.emit b p1.iv [(6, L.length)]
  obtain ⟨c2, l2⟩ := emit_code p1.iv [(6, L.length)]
  have e := com_s3 (k := k) (f := f) (c := c) g
  rw [P.iv.loc, Nat.mod_eq_of_lt (by have := P.iv.l12; omega)] at e
  refine PoS.nob (seg := s1 ++ [(6, L.length)]) e ((p0.trans p1).trans p2) (by omega) (List.prefix_append _ _) (by simp [g2]) (by rw [c2, c1, c0, List.append_assoc]) (by rw [l2, l1, l0]) (n1.append (NoH.one (.inl (by decide)))) (by simp; omega) fun D hD ex => ?_
  have Y := y1 D (hD.back p2.gr p1.gr.ab P.fa P.iv.1.2.2.2)
  rw [c0] at Y
  exact .inr (.inr (.inr ⟨rfl, .inr (.inr (.inl ⟨g, rfl, Nat.le_trans p2.iv.2.1.1 hD.ns, s1, rfl, Y⟩))⟩))
theorem CA.t4 (C : CA N k) {b1 : Nat} (P : Pre f L r a (n - lo) c) (hn : lo < n) (hk : 2 * n + 2 ≤ k + 1) (g : (N.getD n nd0).k = 4) (g1 : al' = L.length) (g2 : n = (N.getD n nd0).b + 1) (g3 : (N.getD (N.getD n nd0).a nd0).k = 17 ∨ (N.getD (N.getD n nd0).a nd0).k = 18)
    (g4 : Sh N 1 (N.getD n nd0).a lo a b1 110 0 0 false) (g5 : Sh N 1 (N.getD n nd0).b (N.getD n nd0).a b1 b 110 0 0 false) : PoS N (k + 1) 0 f L r a b n (n - lo) al' lb lp c := by
  have i1 := g4.lt
  have i2 := g5.lt
  have hr := P.iv.1.2.2.2
  obtain ⟨z1, z2, z3⟩ := g4.out
  rcases g3 with g3 | g3
  · have hz : b1 = a ∧ nmOk (N.getD (N.getD n nd0).a nd0).s := by
      rcases z3 with ⟨_, z3⟩ | ⟨e, _⟩
      · rcases z3 with q | q | q | q | q | q | q | q | q | q | q <;> first | omega | exact ⟨q.2.2.1, q.2.2.2.2⟩
      · cases e
    obtain ⟨rfl, hm⟩ := hz
    obtain ⟨s1, k1, p1, q1, c1, l1, n1, m1, y1⟩ := C.ex f L r _ b1 b _ _ c g5 ⟨P.iv, P.fa, by have := P.pc; omega, by have := P.kc; omega⟩ (by omega)
    obtain ⟨i, p2, c2, l2, n2, y2⟩ := Po.variable (a := b) p1.iv hm 6 8 10 (Nat.le_trans P.fa p1.gr.ab) (by have := P.kc; have := p1.cn; omega) (by decide)
    refine PoS.nob (seg := s1 ++ [i]) (com_s4n g g3) (p1.trans p2) (by omega) (List.prefix_refl _) g1.symm (by rw [c2, c1, List.append_assoc]) (by rw [l2, l1]) (n1.append n2) (by simp; omega) fun D hD ex => ?_
    refine .inr (.inr (.inr ⟨rfl, .inr (.inr (.inr (.inl ⟨g, rfl, .inl ⟨g3, s1, i, rfl, y1 D (hD.back p2.gr p1.gr.ab P.fa hr), y2 D (hD.sub p1.gr.ab)⟩⟩)))⟩))
  · have hz : ∃ b2, (N.getD n nd0).a = (N.getD (N.getD n nd0).a nd0).b + 1 ∧ Sh N 1 (N.getD (N.getD n nd0).a nd0).a lo a b2 110 0 0 false ∧ Sh N 1 (N.getD (N.getD n nd0).a nd0).b (N.getD (N.getD n nd0).a nd0).a b2 b1 109 0 0 false := by
      rcases z3 with ⟨_, z3⟩ | ⟨e, _⟩
      · rcases z3 with q | q | q | q | q | q | q | q | q | q | q <;> first | omega | (obtain ⟨_, _, q1, b2, q2, q3⟩ := q; exact ⟨b2, q1, q2, q3⟩)
      · cases e
    obtain ⟨b2, j1, j2, j3⟩ := hz
    have i3 := j2.lt
    have i4 := j3.lt
    obtain ⟨s1, k1, p1, q1, c1, l1, n1, m1, y1⟩ := C.ex f L r _ a b2 _ _ c j2 ⟨P.iv, P.fa, by have := P.pc; omega, by have := P.kc; omega⟩ (by omega)
    obtain ⟨s2, k2, p2, q2, c2, l2, n2, m2, y2⟩ := C.ex f L r _ b2 b1 _ _ _ j3 (P.next p1 c1 (by omega) (by omega)) (by omega)
    have c2' : ((comN N k 1 f (N.getD (N.getD n nd0).a nd0).b (comN N k 1 f (N.getD (N.getD n nd0).a nd0).a c)).fn f).code = (c.fn f).code ++ (s1 ++ s2) := by rw [c2, c1, List.append_assoc]
    obtain ⟨s3, k3, p3, q3, c3, l3, n3, m3, y3⟩ := C.ex f L r _ b1 b _ _ _ g5 (P.next (p1.trans p2) c2' (by rw [List.length_append]; omega) (by omega)) (by omega)
    have p4 := Po.emit b p3.iv [(12, 0)]
    obtain ⟨c4, l4⟩ := emit_code p3.iv [(12, 0)]
    refine PoS.nob (seg := s1 ++ s2 ++ s3 ++ [(12, 0)]) (com_s4i g g3) (((p1.trans p2).trans p3).trans p4) (by omega) (List.prefix_refl _) g1.symm (by rw [c4, c3, c2']; simp) (by rw [l4, l3, l2, l1]) (((n1.append n2).append n3).append (NoH.one (.inl (by decide)))) (by simp only [List.length_append, List.length_cons, List.length_nil]; omega) fun D hD ex => ?_
    have a12 := (p1.trans p2).gr.ab
    have hD3 := hD.back p4.gr ((p1.trans p2).trans p3).gr.ab P.fa hr
    have hD2 := hD3.back p3.gr a12 P.fa hr
    have hD1 := hD2.back p2.gr p1.gr.ab P.fa hr
    have Y2 := y2 D (hD2.sub p1.gr.ab)
    have Y3 := y3 D (hD3.sub a12)
    rw [c1, List.length_append] at Y2
    rw [c2', List.length_append, List.length_append, ← Nat.add_assoc] at Y3
    exact .inr (.inr (.inr ⟨rfl, .inr (.inr (.inr (.inl ⟨g, rfl, .inr ⟨by omega, s1, s2, s3, rfl, y1 D hD1, Y2, Y3⟩⟩)))⟩))
theorem CA.t5 (C : CA N k) (P : Pre f L r a (n - lo) c) (hn : lo < n) (hk : 2 * n + 2 ≤ k + 1) (g : (N.getD n nd0).k = 5) (g1 : al' = L.length) (g2 : n = (N.getD n nd0).a + 1) (g3 : (N.getD (N.getD n nd0).a nd0).k = 19) (g4 : Sh N 1 (N.getD n nd0).a lo a b 120 0 0 false) : PoS N (k + 1) 0 f L r a b n (n - lo) al' lb lp c := by
  have i1 := g4.lt
  obtain ⟨s1, k1, p1, q1, c1, l1, n1, m1, y1⟩ := C.ca f L r _ a b _ _ c g4 g3 ⟨P.iv, P.fa, by have := P.pc; omega, by have := P.kc; omega⟩ (by omega)
  have p2 := Po.emit b p1.iv [(25, 0), (25, 0)]
  obtain ⟨c2, l2⟩ := emit_code p1.iv [(25, 0), (25, 0)]
  refine PoS.nob (seg := s1 ++ [(25, 0), (25, 0)]) (com_s5 g) (p1.trans p2) (by omega) (List.prefix_refl _) g1.symm (by rw [c2, c1, List.append_assoc]) (by rw [l2, l1]) (n1.append (NoH.cons (.inl (by decide)) (NoH.one (.inl (by decide))))) (by simp; omega) fun D hD ex => ?_
  exact .inr (.inr (.inr ⟨rfl, .inr (.inr (.inr (.inr (.inl ⟨g, rfl, s1, rfl, y1 D (hD.back p2.gr p1.gr.ab P.fa P.iv.1.2.2.2)⟩))))⟩))
theorem CA.t10 (C : CA N k) (h0 : (N.getD 0 nd0).k = 0) (P : Pre f L r a (n - lo) c) (hn : lo < n) (hk : 2 * n + 2 ≤ k + 1) (g : (N.getD n nd0).k = 10) (g1 : al' = L.length)
    (g2 : ((N.getD n nd0).a = 0 ∧ (N.getD n nd0).b = 0 ∧ n = lo + 1 ∧ b = a) ∨ ((N.getD n nd0).b = 0 ∧ n = (N.getD n nd0).a + 1 ∧ Sh N 1 (N.getD n nd0).a lo a b 120 0 0 false) ∨ (n = (N.getD n nd0).b + 1 ∧ ∃ b1, Sh N 1 (N.getD n nd0).a lo a b1 120 0 0 false ∧ Sh N 1 (N.getD n nd0).b (N.getD n nd0).a b1 b 119 0 0 false)) : PoS N (k + 1) 0 f L r a b n (n - lo) al' lb lp c := by
  have hr := P.iv.1.2.2.2
  have key : ∃ b1 m1 m2 lo2, m1 + m2 + 1 ≤ n - lo ∧ (((N.getD n nd0).a = 0 ∧ b1 = a) ∨ (Sh N 1 (N.getD n nd0).a lo a b1 120 0 0 false ∧ (N.getD n nd0).a - lo ≤ m1 ∧ 2 * (N.getD n nd0).a + 2 ≤ k)) ∧ (((N.getD n nd0).b = 0 ∧ b = b1) ∨ (Sh N 1 (N.getD n nd0).b lo2 b1 b 119 0 0 false ∧ (N.getD n nd0).b - lo2 ≤ m2 ∧ 2 * (N.getD n nd0).b + 2 ≤ k)) := by
    rcases g2 with ⟨e1, e2, e3, e4⟩ | ⟨e1, e2, e3⟩ | ⟨e1, b1, e2, e3⟩
    · exact ⟨a, 0, 0, 0, by omega, .inl ⟨e1, rfl⟩, .inl ⟨e2, e4⟩⟩
    · have := e3.lt
      exact ⟨b, (N.getD n nd0).a - lo, 0, 0, by omega, .inr ⟨e3, by omega, by omega⟩, .inl ⟨e1, rfl⟩⟩
    · have := e2.lt; have := e3.lt
      exact ⟨b1, (N.getD n nd0).a - lo, (N.getD n nd0).b - (N.getD n nd0).a, (N.getD n nd0).a, by omega, .inr ⟨e2, by omega, by omega⟩, .inr ⟨e3, by omega, by omega⟩⟩
  obtain ⟨b1, m1, m2, lo2, hm, j1, j2⟩ := key
  obtain ⟨s1, k1, p1, q1, c1, l1, n1, w1, y1⟩ := C.exo (m := m1) h0 (by omega) j1 (f := f) (L := L) (r := r) (c := c) ⟨P.iv, P.fa, by have := P.pc; omega, by have := P.kc; omega⟩
  obtain ⟨s2, k2, p2, q2, c2, l2, n2, w2, y2⟩ := C.exo (m := m2) h0 (by omega) j2 (f := f) (L := L) (r := r) (P.next p1 c1 (by omega) (by omega))
  have p3 := Po.emit b p2.iv [(27, 0)]
  obtain ⟨c3, l3⟩ := emit_code p2.iv [(27, 0)]
  refine PoS.nob (seg := s1 ++ s2 ++ [(27, 0)]) (com_s10 g) ((p1.trans p2).trans p3) (by omega) (List.prefix_refl _) g1.symm (by rw [c3, c2, c1]; simp) (by rw [l3, l2, l1]) ((n1.append n2).append (NoH.one (.inl (by decide)))) (by simp; omega) fun D hD ex => ?_
  have hD2 := hD.back p3.gr (p1.trans p2).gr.ab P.fa hr
  have Y2 := y2 D (hD2.sub p1.gr.ab)
  rw [c1, List.length_append] at Y2
  exact .inr (.inr (.inr ⟨rfl, .inr (.inr (.inr (.inr (.inr (.inr (.inr (.inr (.inr (.inl ⟨g, rfl, s1, s2, rfl, y1 D (hD2.back p2.gr p1.gr.ab P.fa hr), Y2⟩)))))))))⟩))
theorem CA.t11 (P : Pre f L r a (n - lo) c) (hn : n = lo + 1) (g : (N.getD n nd0).k = 11) (g1 : al' = L.length) (hlp : lp = true) (hl : LpI lp lb L (c.fn f).loops) : PoS N (k + 1) 0 f L r a a n (n - lo) al' lb lp c := by
  obtain ⟨hb, l', br, hl⟩ := hl hlp
  have h12 := P.iv.l12
  have hc : ∃ s0 : List In, NoH s0 ∧ s0 = (if lb < L.length then [(29, lb)] else []) ∧ (if lb < L.length then c.emit f [(29, lb % 65536)] else c) = c.emit f s0 := by
    by_cases h : lb < L.length
    · exact ⟨[(29, lb)], NoH.one (.inl (by decide)), by rw [if_pos h], by rw [if_pos h, Nat.mod_eq_of_lt (by omega)]⟩
    · refine ⟨[], NoH.nil, by rw [if_neg h], ?_⟩
      rw [if_neg h]
      have hlt := P.iv.lt
      unfold CmD.emit CmD.upd CmD.fn
      simp only [List.append_nil]
      rw [List.getD_eq_getElem?_getD, List.getElem?_eq_getElem hlt]
      show c = ⟨c.fns.set f c.fns[f], c.np⟩
      rw [List.set_getElem_self]
  obtain ⟨s0, ns0, es0, ec⟩ := hc
  have e : comN N (k + 1) 0 f n c = ((c.emit f s0).jump f 21).upd f fun x => { x with loops := x.loops.dropLast ++ [⟨lb, br ++ [(c.emit f s0).here f]⟩] } := by
    conv => lhs; unfold comN
    simp (config := {decide := true}) only [if_true, if_false, g]
    rw [hl]
    simp only [List.getLastD_concat]
    rw [P.iv.loc, ec]
  have p1 := Po.emit a P.iv s0
  obtain ⟨c1, l1⟩ := emit_code P.iv s0
  obtain ⟨p2, c2, l2⟩ := Po.jump (a := a) p1.iv 21
  have p3 : Po f L L r a a ((c.emit f s0).jump f 21) (((c.emit f s0).jump f 21).upd f fun x => { x with loops := x.loops.dropLast ++ [⟨lb, br ++ [(c.emit f s0).here f]⟩] }) 0 := Po.code a p2.iv _ rfl
  have e3 := fn_upd ((c.emit f s0).jump f 21) p2.iv.lt (fun x => { x with loops := x.loops.dropLast ++ [⟨lb, br ++ [(c.emit f s0).here f]⟩] }) f
  rw [if_pos rfl] at e3
  have hs0 : s0.length ≤ 1 := by rw [es0]; split <;> simp
  refine PoS.mk (seg := s0 ++ [holeI]) e ((p1.trans p2).trans p3) (by omega) (List.prefix_refl _) g1.symm ?_ ?_ (fun x => by rw [hlp] at x; cases x) (by simp; omega) fun D hD ex hex => ?_
  · rw [e3]
    simp only
    rw [c2, c1, List.append_assoc]
    rfl
  · rw [e3]
    simp only
    rw [l2, l1, hl, addB_snoc, holes_append, ns0.holes]
    simp only [List.dropLast_concat, CmD.here, c1, List.length_append, holes, if_true, List.nil_append]
  · rw [patch_append, ns0.patch]
    refine .inr (.inr (.inr ⟨rfl, .inr (.inr (.inr (.inr (.inr (.inr (.inr (.inr (.inr (.inr ⟨g, rfl, ?_⟩)))))))))⟩))
    rw [es0]
    by_cases h : lb < L.length
    · exact .inl ⟨h, by rw [if_pos h]; rfl⟩
    · exact .inr ⟨h, by rw [if_neg h]; rfl⟩
end
end Go.Proofs.Qxb6500574aGreatDoor
