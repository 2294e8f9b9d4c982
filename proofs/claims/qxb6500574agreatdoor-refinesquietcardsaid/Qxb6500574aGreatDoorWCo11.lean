/-
  moon: THE COMPILER: blocks; the whole law. Plain; no memory, no walk.
-/
import Derived.Test.Qxb6500574aGreatDoorWCo10
namespace Go.Proofs.Qxb6500574aGreatDoor
set_option linter.unusedVariables false
set_option linter.unusedSimpArgs false
section
variable {N : List Nd} {k f : Nat} {r : En}
theorem LpI.next {lp : Bool} {lb : Nat} {L L1 : List Bs} {l : List LpD} {hs : List Nat} (h : LpI lp lb L l) (hp : L <+: L1) : LpI lp lb L1 (addB l hs) := fun x => by
  obtain ⟨h1, l', br, h2⟩ := h x
  refine ⟨Nat.le_trans h1 hp.length_le, l', br ++ hs, ?_⟩
  rw [h2, addB_snoc]
/-- statements one behind the other -/
theorem CA.stmts (C : CA N k) {lp : Bool} {lb : Nat} : ∀ (l : List Nat) (lo hi a b al' : Nat) (L : List Bs) (c : CmD), SeqS (fun x lo a b al al' => Sh N 0 x lo a b 120 al al' lp) l lo hi a b L.length al' → Pre f L r a (hi - lo) c → LpI lp lb L (c.fn f).loops → 2 * hi + 2 ≤ k →
    ∃ seg L1 kc, Po f L L1 r a b c (l.foldl (fun c m => comN N k 0 f m c) c) kc ∧ kc ≤ hi - lo ∧ L <+: L1 ∧ L1.length = al' ∧ ((l.foldl (fun c m => comN N k 0 f m c) c).fn f).code = (c.fn f).code ++ seg ∧ ((l.foldl (fun c m => comN N k 0 f m c) c).fn f).loops = addB (c.fn f).loops (holes (c.fn f).code.length seg) ∧ (lp = false → NoH seg) ∧ seg.length ≤ 17 * (hi - lo) ∧
      ∀ D, Ex D (l.foldl (fun c m => comN N k 0 f m c) c) f r a b → ∀ ex, ex < 65535 → Stmts (LayN N D k) f r lb ex l L (c.fn f).code.length (patch ex seg) L1 := by
  intro l
  induction l with
  | nil =>
    intro lo hi a b al' L c h P _ _
    obtain ⟨rfl, rfl, rfl⟩ := h
    exact ⟨[], L, 0, Po.refl _ P.iv, by omega, List.prefix_refl _, rfl, by simp, (addB_nil _).symm, fun _ => NoH.nil, by simp, fun D _ ex _ => ⟨rfl, rfl⟩⟩
  | cons x l ih =>
    intro lo hi a b al' L c h P hl hk
    obtain ⟨b1, al1, h1, h2⟩ := h
    have i1 := h1.lt
    have i2 := (SeqS.in_ Sh.ltS h2).1
    obtain ⟨s1, L1, k1, p1, q1, pf1, al1', c1, l1, n1, m1, y1⟩ := C.st f L r lo a b1 x al1 lp lb c h1 ⟨P.iv, P.fa, by have := P.pc; omega, by have := P.kc; omega⟩ hl (by omega)
    subst al1'
    simp only [show ¬ (0 = 3) by decide, if_false, Nat.add_zero] at m1
    obtain ⟨s2, L2, k2, p2, q2, pf2, al2', c2, l2, n2, m2, y2⟩ := ih x hi b1 b al' L1 (comN N k 0 f x c) h2 (P.next p1 c1 (by omega) (by omega)) (by rw [l1]; exact hl.next pf1) hk
    rw [List.foldl_cons]
    refine ⟨s1 ++ s2, L2, k1 + k2, p1.trans p2, by omega, pf1.trans pf2, al2', by rw [c2, c1, List.append_assoc], ?_, fun x => (n1 x).append (n2 x), by rw [List.length_append]; omega, fun D hD ex hex => ?_⟩
    · rw [l2, l1, addB_addB, holes_append, c1, List.length_append]
    · rw [patch_append]
      refine ⟨patch ex s1, patch ex s2, L1, rfl, y1 D (hD.back p2.gr p1.gr.ab P.fa P.iv.1.2.2.2) ex hex, ?_⟩
      have := y2 D (hD.sub p1.gr.ab) ex hex
      rw [c1, List.length_append] at this
      rw [patch_len]
      exact this
theorem CA.b3 (C : CA N k) : ∀ f L r lo hi a b n l al' lp lb c, Chain N n l → SeqS (fun x lo a b al al' => Sh N 0 x lo a b 120 al al' lp) l lo hi a b L.length al' → hi < N.length → Pre f L r a (hi - lo) c → LpI lp lb L (c.fn f).loops → 2 * hi + 3 ≤ k + 1 → PoS N (k + 1) 3 f L r a b n (hi - lo) L.length lb lp c := by
  intro f L r lo hi a b n l al' lp lb c hc hs hN P hl hk
  have hin := SeqS.in_ Sh.ltS hs
  have hinc := Inc.len (SeqS.inc Sh.ltS hs) hin.1 (fun x hx => (hin.2 x hx).2)
  have hch : nextL N N.length n = l := chain_eq hc (by omega)
  have e : comN N (k + 1) 3 f n c = (l.foldl (fun c m => comN N k 0 f m c) c).leave f L.length := by
    conv => lhs; unfold comN
    simp (config := {decide := true}) only [if_true, if_false]
    rw [hch, P.iv.loc]
  obtain ⟨s1, L1, k1, p1, q1, pf1, al1, c1, l1, n1, m1, y1⟩ := C.stmts (f := f) (r := r) l lo hi a b al' L c hs P hl (by omega)
  obtain ⟨p2, c2, l2⟩ := Po.leave b p1.iv L.length
  have eT : L1.take L.length = L := by obtain ⟨t, rfl⟩ := pf1; exact List.take_left
  rw [eT] at p2
  have hno : NoH (if L.length < L1.length then [(29, L.length)] else []) := by
    split
    · exact NoH.one (.inl (by decide))
    · exact NoH.nil
  have hle : (if L.length < L1.length then [((29, L.length) : In)] else []).length ≤ 1 := by split <;> simp
  refine PoS.mk (seg := s1 ++ (if L.length < L1.length then [(29, L.length)] else [])) e (p1.trans p2) (by omega) (List.prefix_refl _) rfl (by rw [c2, c1, List.append_assoc]) ?_ (fun x => (n1 x).append hno) ?_ fun D hD ex hex => ?_
  · rw [l2, l1, holes_append, hno.holes, List.append_nil]
  · rw [List.length_append, if_pos rfl]
    omega
  · rw [patch_append, hno.patch]
    exact .inr (.inr (.inl ⟨rfl, rfl, l, patch ex s1, L1, rfl, hc, pf1, y1 D (hD.back p2.gr p1.gr.ab P.fa P.iv.1.2.2.2) ex hex⟩))
theorem CA.s0 (C : CA N k) (h0 : (N.getD 0 nd0).k = 0) : ∀ f L r lo a b n al' lp lb c, Sh N 0 n lo a b 120 L.length al' lp → Pre f L r a (n - lo) c → LpI lp lb L (c.fn f).loops → 2 * n + 2 ≤ k + 1 → PoS N (k + 1) 0 f L r a b n (n - lo) al' lb lp c := by
  intro f L r lo a b n al' lp lb c h P hl hk
  obtain ⟨z1, z2, z3⟩ := h.out
  rcases z3 with ⟨e, _⟩ | ⟨_, z3⟩
  · cases e
  rcases z3 with ⟨g, g1, g2, g3, g4⟩ | ⟨g, g1, g2, g3, g4, g5, g6, g7, g8⟩ | ⟨g, g1, g2, g3, g4, g5, g6⟩ | ⟨g, g1, g2, g3, b1, g4, g5⟩ | ⟨g, g1, g2, g3, g4⟩ | ⟨g, g1, b1, l, h1, b2, l2, h2, x1, x2, g2, g3, g4, g5, g6, g7⟩ | ⟨g, g1, b1, l, h1, x1, g2, g3, g4, g5⟩ | ⟨g, g1, g2, g3, l0, h0', b0, l, h1, x1, g4, g5, g6, g7, g8, g9⟩ | ⟨g, g1, g2, g3, g4, g5, b0, l, h1, x1, g6, g7, g8, g9⟩ | ⟨g, g1, g2⟩ | ⟨g, g1, g2, g3, g4⟩
  · exact C.t1 h0 P z1 hk g g1 g2 g3 g4
  · exact C.t2 P z1 hk g g1 g2 g6 g7 g8
  · exact C.t3 P z1 hk g g2 g3 g4 g6
  · exact C.t4 P z1 hk g g1 g2 g3 g4 g5
  · exact C.t5 P z1 hk g g1 g2 g3 g4
  · exact C.t6 z2 P z1 hk hl g g1 g2 g3 g4 g5 g6 g7
  · exact C.t7 z2 P z1 hk g g1 g2 g3 g4 g5
  · exact C.t8 z2 P z1 hk g g1 g2 g4 g5 g6 g7 g8 g9
  · exact C.t9 z2 P z1 hk g g1 g2 g6 g7 g8 g9
  · exact C.t10 h0 P z1 hk g g1 g2
  · subst g3
    exact CA.t11 P g2 g g1 g4 hl
theorem CA.all (h0 : (N.getD 0 nd0).k = 0) : ∀ k, CA N k := by
  intro k
  induction k with
  | zero => exact ⟨fun _ _ _ _ _ _ _ _ _ _ _ h => by omega, fun _ _ _ _ _ _ _ _ _ _ _ _ h => by omega, fun _ _ _ _ _ _ _ _ _ _ _ _ _ _ h => by omega, fun _ _ _ _ _ _ _ _ _ _ _ _ _ _ _ _ _ _ h => by omega⟩
  | succ k C => exact ⟨C.e1, C.c2, C.s0 h0, C.b3⟩
end
/-- what the compiler leaves -/
structure ComOk (N : List Nd) (root : Nat) (D : CmD) (b : Nat) : Prop where
  np : D.np = b + 1
  b12 : b ≤ 12
  len : D.fns.length = 13
  main : ∃ s1, LayN N D (2 * N.length + 5) 3 [(0, [])] root 0 s1 [] 0 0 ∧ (D.fn 0).code = s1 ++ [(2, 0), (2, 0), (27, 0)]
  np0 : (D.fn 0).np = 0
  ups0 : (D.fn 0).ups = []
  loc0 : (D.fn 0).locals = []
  lps0 : (D.fn 0).loops = []
  par0 : (D.fn 0).parent = none
  ns0 : (D.fn 0).nslots ≤ 12
  cn0 : CnOk (D.fn 0).consts
  cl0 : (D.fn 0).code.length ≤ 17 * (N.length - 1) + 4
  kl0 : (D.fn 0).consts.length ≤ N.length - 1
theorem com_ok {N : List Nd} {root : Nat} (T : TrP N root) (h0 : (N.getD 0 nd0).k = 0) : ∃ b l al', ComOk N root (comP N root) b ∧ Chain N root l ∧ SeqS (fun x lo a b al al' => Sh N 0 x lo a b 120 al al' false) l 0 (N.length - 1) 0 b 0 al' := by
  obtain ⟨l, b, al', hb, hc, hs⟩ := T.ex
  have hn1 := T.n1
  have hle := T.le
  have f0 := fn_fresh cm00 (x := 0) (by decide) none
  have e0 : (cm00.fresh 0 none).fn 0 = { fn0 with parent := none } := by rw [f0, if_pos rfl]
  have I0 : Inv (cm00.fresh 0 none) [(0, [])] := by
    refine ⟨⟨by decide, by rw [e0]; rfl, by rw [e0]; rfl, fun x hx => by cases hx⟩, by rw [e0]; exact ⟨Nat.le_refl _, Nat.zero_le _⟩, ?_, by rw [e0]; exact ⟨List.nodup_nil, fun v hv => by cases hv⟩, (rfl : (cm00.fresh 0 none).fns.length = 13)⟩
    show ((cm00.fresh 0 none).fn 0).ups = []
    rw [e0]
    rfl
  have hcode : ((cm00.fresh 0 none).fn 0).code = [] := by rw [e0]; rfl
  have hloops : ((cm00.fresh 0 none).fn 0).loops = [] := by rw [e0]; rfl
  have hcons : ((cm00.fresh 0 none).fn 0).consts = [] := by rw [e0]; rfl
  obtain ⟨s1, L1, k1, p1, q1, pf1, al1, c1, l1, n1, m1, y1⟩ := (CA.all h0 (2 * N.length + 5)).bl 0 [] [] 0 (N.length - 1) 0 b root l al' false 0 (cm00.fresh 0 none) hc hs (by omega) ⟨I0, Nat.le_refl _, by rw [hcode, List.length_nil]; omega, by rw [hcons, List.length_nil]; omega⟩ (fun x => by cases x) (by omega)
  have eL : L1 = [] := List.eq_nil_of_length_eq_zero al1
  subst eL
  have n1 := n1 rfl
  rw [hcode, List.nil_append] at c1
  rw [hloops] at l1
  have p2 := Po.emit b p1.iv [(2, 0), (2, 0), (27, 0)]
  obtain ⟨c2, l2⟩ := emit_code p1.iv [(2, 0), (2, 0), (27, 0)]
  have hD : comP N root = (comN N (2 * N.length + 5) 3 0 root (cm00.fresh 0 none)).emit 0 [(2, 0), (2, 0), (27, 0)] := rfl
  rw [← hD] at p2 c2 l2
  refine ⟨b, l, al', ⟨p2.gr.np (p1.gr.np ?_), hb, p2.iv.len, ⟨s1, ?_, by rw [c2, c1]⟩, ?_, p2.iv.2.2.1, p2.iv.1.2.1, by rw [l2, l1]; rfl, p2.iv.1.2.2.1, p2.iv.2.1.2, p2.iv.2.2.2.1, ?_, ?_⟩, hc, hs⟩
  · rfl
  · have Y := y1 (comP N root) ⟨fun g h1 h2 => p2.gr.out g (by omega) (fun e he => (by cases he)) (by omega), p2.gr.ups, (fun e he => by cases he), p2.gr.cons, p2.gr.ns⟩ 0 (by decide)
    rw [hcode, n1.patch] at Y
    exact Y
  · rw [p2.gr.npf, p1.gr.npf, e0]; rfl
  · rw [c2, c1, List.length_append]
    simp only [if_true] at m1
    simp only [List.length_cons, List.length_nil]
    omega
  · have := p1.cn
    have := p2.cn
    rw [hcons, List.length_nil] at *
    omega
end Go.Proofs.Qxb6500574aGreatDoor
