/-
  moon: THE COMPILER: expressions. Plain; no memory, no walk.
-/
import Derived.Test.Qxb6500574aGreatDoorWCo3
namespace Go.Proofs.Qxb6500574aGreatDoor
set_option linter.unusedVariables false
set_option linter.unusedSimpArgs false
section
variable {N : List Nd} {k f a b n m kc : Nat} {L : List Bs} {r : En} {c c' : CmD} {seg : List In}
theorem PoE.mk {task : Nat} (e : comN N k task f n c = c') (p : Po f L L r a b c c' kc) (hk : kc ≤ m) (hc : (c'.fn f).code = (c.fn f).code ++ seg) (hl : (c'.fn f).loops = (c.fn f).loops) (hn : NoH seg) (hs : seg.length + task ≤ 3 * m)
    (hL : ∀ D, Ex D c' f r a b → LayN N D k task ((f, L) :: r) n (c.fn f).code.length seg [] 0 0) : PoE N k task f L r a b n m c := by
  unfold PoE
  rw [e]
  exact ⟨seg, kc, p, hk, hc, hl, hn, hs, hL⟩
/-- one instruction -/
theorem PoE.one {op x : Nat} (P : Pre f L r a m c) (hm : 1 ≤ m) (e : comN N k 1 f n c = c.emit f [(op, x)]) (h21 : op ≠ 21) (hL : ∀ D, LayN N D k 1 ((f, L) :: r) n (c.fn f).code.length [(op, x)] [] 0 0) : PoE N k 1 f L r a a n m c :=
  PoE.mk e (Po.emit a P.iv _) (by omega) (emit_code P.iv _).1 (emit_code P.iv _).2 (NoH.one (.inl h21)) (by simp; omega) fun D _ => hL D
/-- a constant -/
theorem PoE.const {v : Vl} (P : Pre f L r a m c) (hm : 1 ≤ m) (hv : v.ok) (e : comN N k 1 f n c = (c.const f v).1.emit f [(1, (c.const f v).2)]) (hL : ∀ D x, (D.fn f).consts[x]? = some v → LayN N D k 1 ((f, L) :: r) n (c.fn f).code.length [(1, x)] [] 0 0) : PoE N k 1 f L r a a n m c := by
  obtain ⟨p2, c2, l2, k2⟩ := Po.const a P.iv v hv (by have := P.kc; omega)
  have p3 := Po.emit a p2.iv [(1, (c.const f v).2)]
  refine PoE.mk e (p2.trans p3) (by omega) (by rw [(emit_code p2.iv _).1, c2]) (by rw [(emit_code p2.iv _).2, l2]) (NoH.one (.inl (by decide))) (by simp; omega) fun D hD => hL D _ ?_
  exact pre_at (hD.back p3.gr (Nat.le_refl _) P.fa P.iv.1.2.2.2).cons k2
/-- the arguments of a call -/
theorem CA.args (C : CA N k) {dec : Nat} : ∀ (l : List Nat) (lo hi a b w : Nat) (c : CmD), SeqE (fun x lo a b w => Sh N 1 x lo a b w 0 0 false) dec l lo hi a b w → Pre f L r a (hi - lo) c → 2 * hi + 2 ≤ k →
    ∃ seg kc, Po f L L r a b c (l.foldl (fun c m => comN N k 1 f m c) c) kc ∧ kc ≤ hi - lo ∧ ((l.foldl (fun c m => comN N k 1 f m c) c).fn f).code = (c.fn f).code ++ seg ∧ ((l.foldl (fun c m => comN N k 1 f m c) c).fn f).loops = (c.fn f).loops ∧ NoH seg ∧ seg.length ≤ 3 * (hi - lo) ∧
      ∀ D, Ex D (l.foldl (fun c m => comN N k 1 f m c) c) f r a b → Exprs (LayN N D k) ((f, L) :: r) l (c.fn f).code.length seg := by
  intro l
  induction l with
  | nil =>
    intro lo hi a b w c h P _
    obtain ⟨rfl, rfl⟩ := h
    exact ⟨[], 0, Po.refl _ P.iv, by omega, by simp, rfl, NoH.nil, by simp, fun D _ => rfl⟩
  | cons x l ih =>
    intro lo hi a b w c h P hk
    obtain ⟨b1, h1, h2⟩ := h
    have i1 := h1.lt
    have i2 := (SeqE.in_ Sh.ltE h2).1
    obtain ⟨s1, k1, p1, q1, c1, l1, n1, m1, y1⟩ := C.ex f L r lo a b1 x w c h1 ⟨P.iv, P.fa, by have := P.pc; omega, by have := P.kc; omega⟩ (by omega)
    obtain ⟨s2, k2, p2, q2, c2, l2, n2, m2, y2⟩ := ih x hi b1 b _ (comN N k 1 f x c) h2 (P.next p1 c1 (by omega) (by omega)) hk
    rw [List.foldl_cons]
    refine ⟨s1 ++ s2, k1 + k2, p1.trans p2, by omega, by rw [c2, c1, List.append_assoc], by rw [l2, l1], n1.append n2, by rw [List.length_append]; omega, fun D hD => ⟨s1, s2, rfl, y1 D (hD.back p2.gr p1.gr.ab P.fa P.iv.1.2.2.2), ?_⟩⟩
    have := y2 D (hD.sub p1.gr.ab)
    rw [c1, List.length_append] at this
    exact this
theorem CA.c2 (C : CA N k) : ∀ f L r lo a b n w c, Sh N 1 n lo a b w 0 0 false → (N.getD n nd0).k = 19 → Pre f L r a (n - lo) c → 2 * n + 1 ≤ k + 1 → PoE N (k + 1) 2 f L r a b n (n - lo) c := by
  intro f L r lo a b n w c h hd P hk
  obtain ⟨z1, z2, z3⟩ := h.out
  have hc : ∃ l h1 b1, n = h1 + 1 ∧ Sh N 1 (N.getD n nd0).a lo a b1 w 0 0 false ∧ Chain N (N.getD n nd0).b l ∧ l.length ≤ 3 ∧ SeqE (fun x lo a b w => Sh N 1 x lo a b w 0 0 false) 1 l (N.getD n nd0).a h1 b1 b (w - 1) := by
    rcases z3 with ⟨_, z3⟩ | ⟨e, _⟩
    · rcases z3 with g | g | g | g | g | g | g | g | g | g | g
      · omega
      · omega
      · omega
      · omega
      · omega
      · exact g.2.2
      · omega
      · omega
      · omega
      · omega
      · omega
    · cases e
  obtain ⟨l, h1, b1, g1, g2, g3, g4, g5⟩ := hc
  have i1 := g2.lt
  have i2 := (SeqE.in_ Sh.ltE g5).1
  have hch : nextL N N.length (N.getD n nd0).b = l := chain_eq g3 (by omega)
  have e : comN N (k + 1) 2 f n c = (l.foldl (fun c m => comN N k 1 f m c) (comN N k 1 f (N.getD n nd0).a c)).emit f [(26, l.length)] := by
    conv => lhs; unfold comN
    simp (config := {decide := true}) only [if_true, if_false]
    rw [hch, Nat.mod_eq_of_lt (by omega)]
  obtain ⟨s1, k1, p1, q1, c1, l1, n1, m1, y1⟩ := C.ex f L r lo a b1 _ w c g2 ⟨P.iv, P.fa, by have := P.pc; omega, by have := P.kc; omega⟩ (by omega)
  obtain ⟨s2, k2, p2, q2, c2, l2, n2, m2, y2⟩ := C.args (f := f) (L := L) (r := r) l _ h1 b1 b _ _ g5 (P.next p1 c1 (by omega) (by omega)) (by omega)
  have p3 := Po.emit b p2.iv [(26, l.length)]
  refine PoE.mk (seg := s1 ++ s2 ++ [(26, l.length)]) e ((p1.trans p2).trans p3) (by omega) (by rw [(emit_code p2.iv _).1, c2, c1]; simp) (by rw [(emit_code p2.iv _).2, l2, l1]) ((n1.append n2).append (NoH.one (.inl (by decide)))) (by simp; omega) fun D hD => ?_
  have hD2 := hD.back p3.gr (p1.trans p2).gr.ab P.fa P.iv.1.2.2.2
  refine .inr (.inl ⟨rfl, l, s1, s2, rfl, g3, y1 D (hD2.back p2.gr p1.gr.ab P.fa P.iv.1.2.2.2), ?_⟩)
  have := y2 D (hD2.sub p1.gr.ab)
  rw [c1, List.length_append] at this
  exact this
end
end Go.Proofs.Qxb6500574aGreatDoor
