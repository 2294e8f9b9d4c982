/-
  moon: THE COMPILER: every expression. Plain; no memory, no walk.
-/
import Derived.Test.Qxb6500574aGreatDoorWCo5
namespace Go.Proofs.Qxb6500574aGreatDoor
set_option linter.unusedVariables false
set_option linter.unusedSimpArgs false
section
variable {N : List Nd} {k : Nat}
theorem Po.jump {f a : Nat} {L : List Bs} {r : En} {c : CmD} (I : Inv c ((f, L) :: r)) (op : Nat) : Po f L L r a a c (c.jump f op) 0 ∧ ((c.jump f op).fn f).code = (c.fn f).code ++ [(op, 65535)] ∧ ((c.jump f op).fn f).loops = (c.fn f).loops :=
  ⟨Po.emit a I _, (emit_code I _).1, (emit_code I _).2⟩
theorem binI_21 (n : Nat) : (binI n).1 ≠ 21 := by
  unfold binI
  split
  · decide
  · split
    · exact (by decide : (16 : Nat) ≠ 21)
    · exact (by decide : (15 : Nat) ≠ 21)
theorem unI_21 (n : Nat) : (unI n).1 ≠ 21 := by
  unfold unI
  split
  · decide
  · split <;> decide
section
variable {f n : Nat} {c : CmD}
theorem com_nil (g : (N.getD n nd0).k = 12) : comN N (k + 1) 1 f n c = c.emit f [(2, 0)] := by
  conv => lhs; unfold comN
  simp (config := {decide := true}) only [if_true, if_false, g]
theorem com_true (g : (N.getD n nd0).k = 13) : comN N (k + 1) 1 f n c = c.emit f [(3, 0)] := by
  conv => lhs; unfold comN
  simp (config := {decide := true}) only [if_true, if_false, g]
theorem com_false (g : (N.getD n nd0).k = 14) : comN N (k + 1) 1 f n c = c.emit f [(4, 0)] := by
  conv => lhs; unfold comN
  simp (config := {decide := true}) only [if_true, if_false, g]
theorem com_num (g : (N.getD n nd0).k = 15) : comN N (k + 1) 1 f n c = (c.const f (numV (N.getD n nd0).n)).1.emit f [(1, (c.const f (numV (N.getD n nd0).n)).2)] := by
  conv => lhs; unfold comN
  simp (config := {decide := true}) only [if_true, if_false, g]
theorem com_str (g : (N.getD n nd0).k = 16) : comN N (k + 1) 1 f n c = (c.const f (strV (N.getD n nd0).s)).1.emit f [(1, (c.const f (strV (N.getD n nd0).s)).2)] := by
  conv => lhs; unfold comN
  simp (config := {decide := true}) only [if_true, if_false, g]
theorem com_idx (g : (N.getD n nd0).k = 18) : comN N (k + 1) 1 f n c = (comN N k 1 f (N.getD n nd0).b (comN N k 1 f (N.getD n nd0).a c)).emit f [(11, 0)] := by
  conv => lhs; unfold comN
  simp (config := {decide := true}) only [if_true, if_false, g]
theorem com_bin (g : (N.getD n nd0).k = 22) : comN N (k + 1) 1 f n c = (comN N k 1 f (N.getD n nd0).b (comN N k 1 f (N.getD n nd0).a c)).emit f [binI (N.getD n nd0).n] := by
  conv => lhs; unfold comN
  simp (config := {decide := true}) only [if_true, if_false, g]
end
/-- two expressions and one instruction -/
theorem CA.two (C : CA N k) {f lo a b1 b n w w2 A B : Nat} {L : List Bs} {r : En} {c : CmD} {i : In} (h1 : Sh N 1 A lo a b1 w 0 0 false) (h2 : Sh N 1 B A b1 b w2 0 0 false) (hn : n = B + 1) (P : Pre f L r a (n - lo) c) (hk : 2 * n + 2 ≤ k + 1) (hi : i.1 ≠ 21)
    (e : comN N (k + 1) 1 f n c = (comN N k 1 f B (comN N k 1 f A c)).emit f [i]) (hL : ∀ D s1 s2, LayN N D k 1 ((f, L) :: r) A (c.fn f).code.length s1 [] 0 0 → LayN N D k 1 ((f, L) :: r) B ((c.fn f).code.length + s1.length) s2 [] 0 0 → LayN N D (k + 1) 1 ((f, L) :: r) n (c.fn f).code.length (s1 ++ s2 ++ [i]) [] 0 0) : PoE N (k + 1) 1 f L r a b n (n - lo) c := by
  have i1 := h1.lt
  have i2 := h2.lt
  obtain ⟨s1, k1, p1, q1, c1, l1, n1, m1, y1⟩ := C.ex f L r lo a b1 A w c h1 ⟨P.iv, P.fa, by have := P.pc; omega, by have := P.kc; omega⟩ (by omega)
  obtain ⟨s2, k2, p2, q2, c2, l2, n2, m2, y2⟩ := C.ex f L r A b1 b B w2 _ h2 (P.next p1 c1 (by omega) (by omega)) (by omega)
  have p3 := Po.emit b p2.iv [i]
  refine PoE.mk (seg := s1 ++ s2 ++ [i]) e ((p1.trans p2).trans p3) (by omega) (by rw [(emit_code p2.iv _).1, c2, c1]; simp) (by rw [(emit_code p2.iv _).2, l2, l1]) ((n1.append n2).append (NoH.one (op := i.1) (x := i.2) (.inl hi))) (by simp; omega) fun D hD => ?_
  have hD2 := hD.back p3.gr (p1.trans p2).gr.ab P.fa P.iv.1.2.2.2
  have Y2 := y2 D (hD2.sub p1.gr.ab)
  rw [c1, List.length_append] at Y2
  exact hL D s1 s2 (y1 D (hD2.back p2.gr p1.gr.ab P.fa P.iv.1.2.2.2)) Y2
theorem CA.e1 (C : CA N k) : ∀ f L r lo a b n w c, Sh N 1 n lo a b w 0 0 false → Pre f L r a (n - lo) c → 2 * n + 2 ≤ k + 1 → PoE N (k + 1) 1 f L r a b n (n - lo) c := by
  intro f L r lo a b n w c h P hk
  obtain ⟨z1, z2, z3⟩ := h.out
  rcases z3 with ⟨_, z3⟩ | ⟨e, _⟩
  rotate_left
  · cases e
  have hr := P.iv.1.2.2.2
  rcases z3 with ⟨g, g1, rfl, g2⟩ | ⟨g, g1, rfl, g2, g3⟩ | ⟨g, g1, rfl, g2, g3⟩ | ⟨g, g1, rfl, g2, g3⟩ | ⟨g, g1, g2, b1, g3, g4⟩ | ⟨g, g1, l, h1, b1, g2, g3, g4, g5, g6⟩ | ⟨g, g1, g2, g3, l, h1, l2, h2, al2, g4, g5, g6, g7, g8, g9⟩ | ⟨g, g1, l, h1, g2, g3, g4⟩ | ⟨g, g1, g2, g3, b1, g4, g5⟩ | ⟨g, g1, g2, g3⟩ | ⟨g, g1, b1, g4, g5⟩
  · rcases g with g | g | g
    · exact PoE.one (op := 2) (x := 0) P (by omega) (com_nil g) (by decide) fun D => .inl ⟨rfl, .inl ⟨.inr g, rfl⟩⟩
    · exact PoE.one (op := 3) (x := 0) P (by omega) (com_true g) (by decide) fun D => .inl ⟨rfl, .inr (.inl ⟨g, rfl⟩)⟩
    · exact PoE.one (op := 4) (x := 0) P (by omega) (com_false g) (by decide) fun D => .inl ⟨rfl, .inr (.inr (.inl ⟨g, rfl⟩))⟩
  · exact PoE.const (v := numV (N.getD n nd0).n) P (by omega) (.inl ⟨rfl, g3⟩) (com_num g) fun D x hx => .inl ⟨rfl, .inr (.inr (.inr (.inl ⟨g, x, rfl, hx⟩)))⟩
  · exact PoE.const (v := strV (N.getD n nd0).s) P (by omega) (.inr ⟨rfl, g3⟩) (com_str g) fun D x hx => .inl ⟨rfl, .inr (.inr (.inr (.inr (.inl ⟨g, x, rfl, hx⟩))))⟩
  · have e : comN N (k + 1) 1 f n c = c.variable f (N.getD n nd0).s 5 7 9 := by
      conv => lhs; unfold comN
      simp (config := {decide := true}) only [if_true, if_false, g]
    obtain ⟨i, p1, c1, l1, n1, y1⟩ := Po.variable (a := b) P.iv g3 5 7 9 P.fa (by have := P.kc; omega) (by decide)
    exact PoE.mk (seg := [i]) e p1 (by omega) c1 l1 n1 (by simp; omega) fun D hD => .inl ⟨rfl, .inr (.inr (.inr (.inr (.inr (.inl ⟨g, i, rfl, y1 D hD⟩)))))⟩
  · refine C.two (i := (11, 0)) g3 g4 g2 P hk (by decide) (com_idx g) fun D s1 s2 x1 x2 => .inl ⟨rfl, .inr (.inr (.inr (.inr (.inr (.inr (.inl ⟨g, s1, s2, rfl, x1, x2⟩))))))⟩
  · have e : comN N (k + 1) 1 f n c = (comN N k 2 f n c).emit f [(25, 0)] := by
      conv => lhs; unfold comN
      simp (config := {decide := true}) only [if_true, if_false, g]
    obtain ⟨s1, k1, p1, q1, c1, l1, n1, m1, y1⟩ := C.ca f L r lo a b n w c h g P (by omega)
    have p3 := Po.emit b p1.iv [(25, 0)]
    refine PoE.mk (seg := s1 ++ [(25, 0)]) e (p1.trans p3) (by omega) (by rw [(emit_code p1.iv _).1, c1]; simp) (by rw [(emit_code p1.iv _).2, l1]) (n1.append (NoH.one (.inl (by decide)))) (by simp; omega) fun D hD => ?_
    exact .inl ⟨rfl, .inr (.inr (.inr (.inr (.inr (.inr (.inr (.inl ⟨g, s1, rfl, y1 D (hD.back p3.gr p1.gr.ab P.fa hr)⟩)))))))⟩
  · refine C.func (d := N.getD n nd0) P g2 g3 g4 z2 g5 g6 g7 g8 g9 (by omega) ?_ fun D s hs hF => .inl ⟨rfl, .inr (.inr (.inr (.inr (.inr (.inr (.inr (.inr (.inl ⟨g, hs, hF⟩))))))))⟩
    have := g7.in_.1
    have hch : nextL N N.length (N.getD n nd0).a = l := chain_eq g5 (by have := Inc.len g7.inc g7.in_.1 (fun x hx => (g7.in_.2 x hx).2); have := (SeqS.in_ Sh.ltS g9).1; omega)
    conv => lhs; unfold comN
    simp (config := {decide := true}) only [if_true, if_false, g]
    rw [hch, Nat.mod_eq_of_lt (by omega)]
  · have hs := SeqE.in_ Sh.ltE g4
    have hinc := Inc.len (SeqE.inc Sh.ltE g4) hs.1 (fun x hx => (hs.2 x hx).2)
    have hch : nextL N N.length (N.getD n nd0).a = l := chain_eq g3 (by omega)
    have e : comN N (k + 1) 1 f n c = (l.foldl (fun (x : CmD × Nat) m => ((comN N k 1 f m x.1).emit f [(13, (x.2 + 1) % 65536)], x.2 + 1)) (c.emit f [(14, 0)], 0)).1 := by
      conv => lhs; unfold comN
      simp (config := {decide := true}) only [if_true, if_false, g]
      rw [hch]
    have p0 := Po.emit a P.iv [(14, 0)]
    obtain ⟨c0, l0⟩ := emit_code P.iv [(14, 0)]
    have := P.pc
    obtain ⟨s1, k1, p1, q1, c1, l1, n1, m1, y1⟩ := C.items (f := f) (L := L) (r := r) l lo h1 a b _ 0 _ g4 (P.next p0 c0 (by simp; omega) (by omega)) (by omega) (by omega)
    refine PoE.mk (seg := (14, 0) :: s1) e (p0.trans p1) (by omega) (by rw [c1, c0]; simp) (by rw [l1, l0]) (NoH.cons (.inl (by decide)) n1) (by simp; omega) fun D hD => ?_
    have Y := y1 D hD
    rw [c0, List.length_append] at Y
    exact .inl ⟨rfl, .inr (.inr (.inr (.inr (.inr (.inr (.inr (.inr (.inr (.inl ⟨g, l, s1, rfl, g3, Y⟩)))))))))⟩
  · refine C.two (i := binI (N.getD n nd0).n) g4 g5 g3 P hk (binI_21 _) (com_bin g) fun D s1 s2 x1 x2 => .inl ⟨rfl, .inr (.inr (.inr (.inr (.inr (.inr (.inr (.inr (.inr (.inr (.inl ⟨g, s1, s2, rfl, x1, x2⟩))))))))))⟩
  · have e : comN N (k + 1) 1 f n c = (comN N k 1 f (N.getD n nd0).a c).emit f [unI (N.getD n nd0).n] := by
      conv => lhs; unfold comN
      simp (config := {decide := true}) only [if_true, if_false, g]
    have i1 := g3.lt
    obtain ⟨s1, k1, p1, q1, c1, l1, n1, m1, y1⟩ := C.ex f L r lo a b _ w c g3 ⟨P.iv, P.fa, by have := P.pc; omega, by have := P.kc; omega⟩ (by omega)
    have p3 := Po.emit b p1.iv [unI (N.getD n nd0).n]
    refine PoE.mk (seg := s1 ++ [unI (N.getD n nd0).n]) e (p1.trans p3) (by omega) (by rw [(emit_code p1.iv _).1, c1]; simp) (by rw [(emit_code p1.iv _).2, l1]) (n1.append (NoH.one (op := (unI (N.getD n nd0).n).1) (x := (unI (N.getD n nd0).n).2) (.inl (unI_21 _)))) (by simp; omega) fun D hD => ?_
    exact .inl ⟨rfl, .inr (.inr (.inr (.inr (.inr (.inr (.inr (.inr (.inr (.inr (.inr (.inl ⟨g, s1, rfl, y1 D (hD.back p3.gr p1.gr.ab P.fa hr)⟩)))))))))))⟩
  · have e : comN N (k + 1) 1 f n c = (comN N k 1 f (N.getD n nd0).b ((comN N k 1 f (N.getD n nd0).a c).jump f (if (N.getD n nd0).k = 25 then 24 else 23))).land f ((comN N k 1 f (N.getD n nd0).a c).here f) := by
      conv => lhs; unfold comN
      rcases g with g | g <;> simp (config := {decide := true}) only [if_true, if_false, g]
    have i1 := g4.lt
    have i2 := g5.lt
    have hop : (if (N.getD n nd0).k = 25 then 24 else 23) ≠ 21 := by split <;> decide
    generalize hO : (if (N.getD n nd0).k = 25 then 24 else 23) = op at *
    obtain ⟨s1, k1, p1, q1, c1, l1, n1, m1, y1⟩ := C.ex f L r lo a b1 _ w c g4 ⟨P.iv, P.fa, by have := P.pc; omega, by have := P.kc; omega⟩ (by omega)
    obtain ⟨pj, cj, lj⟩ := Po.jump (a := b1) p1.iv op
    have cj' : (((comN N k 1 f (N.getD n nd0).a c).jump f op).fn f).code = (c.fn f).code ++ (s1 ++ [(op, 65535)]) := by rw [cj, c1, List.append_assoc]
    obtain ⟨s2, k2, p2, q2, c2, l2, n2, m2, y2⟩ := C.ex f L r _ b1 b _ w _ g5 (P.next (p1.trans pj) cj' (by simp only [List.length_append, List.length_cons, List.length_nil]; omega) (by omega)) (by omega)
    have pl := Po.land b p2.iv ((comN N k 1 f (N.getD n nd0).a c).here f)
    obtain ⟨cl, ll⟩ := land_code p2.iv ((comN N k 1 f (N.getD n nd0).a c).here f)
    have hpc := P.pc
    have ec : (((comN N k 1 f (N.getD n nd0).b ((comN N k 1 f (N.getD n nd0).a c).jump f op)).land f ((comN N k 1 f (N.getD n nd0).a c).here f)).fn f).code = (c.fn f).code ++ (s1 ++ (op, (c.fn f).code.length + (s1.length + 1 + s2.length)) :: s2) := by
      rw [cl, c2, cj']
      unfold CmD.here
      rw [c1]
      have := landL_mid ((c.fn f).code ++ s1) s2 (op, 65535) (((c.fn f).code ++ (s1 ++ [(op, 65535)]) ++ s2).length % 65536)
      rw [show (c.fn f).code ++ (s1 ++ [(op, 65535)]) ++ s2 = (c.fn f).code ++ s1 ++ (op, 65535) :: s2 by simp] at *
      rw [this]
      rw [Nat.mod_eq_of_lt (by simp; omega)]
      simp
      omega
    refine PoE.mk e (((p1.trans pj).trans p2).trans pl) (by omega) ec (by rw [ll, l2, lj, l1]) (n1.append (NoH.cons (.inl hop) n2)) (by simp; omega) fun D hD => ?_
    have hD2 := hD.back pl.gr (by have := p1.gr.ab; have := p2.gr.ab; omega) P.fa hr
    have hD1 := hD2.back (pj.gr.trans p2.gr) p1.gr.ab P.fa hr
    have Y2 := y2 D (hD2.sub p1.gr.ab)
    rw [cj', List.length_append] at Y2
    simp only [List.length_append, List.length_singleton] at Y2
    refine .inl ⟨rfl, .inr (.inr (.inr (.inr (.inr (.inr (.inr (.inr (.inr (.inr (.inr (.inr ⟨g, s1, s2, ?_, y1 D hD1, Y2⟩)))))))))))⟩
    rw [hO]
end
end Go.Proofs.Qxb6500574aGreatDoor
