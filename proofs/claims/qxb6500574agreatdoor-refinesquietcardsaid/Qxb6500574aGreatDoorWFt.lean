/-
  moon: COMPILED CODE FITS: every operand in its range. Plain; no memory, no walk.
-/
import Derived.Test.Qxb6500574aGreatDoorWLt6
namespace Go.Proofs.Qxb6500574aGreatDoor
set_option linter.unusedVariables false
set_option linter.unusedSimpArgs false
def FtD (D : CmD) (f : Nat) (i : In) : Prop :=
  (i.1 = 1 ∧ i.2 < (D.fn f).consts.length) ∨
  ((i.1 = 9 ∨ i.1 = 10) ∧ ∃ s, (D.fn f).consts[i.2]? = some (strV s)) ∨
  ((i.1 = 5 ∨ i.1 = 6 ∨ i.1 = 29) ∧ i.2 < (D.fn f).nslots) ∨
  ((i.1 = 30 ∨ i.1 = 31 ∨ i.1 = 32) ∧ i.2 + 3 < (D.fn f).nslots) ∨
  ((i.1 = 7 ∨ i.1 = 8) ∧ i.2 < (D.fn f).ups.length) ∨
  ((i.1 = 15 ∨ i.1 = 16) ∧ 1 ≤ i.2 ∧ i.2 ≤ 6) ∨
  ((i.1 = 21 ∨ i.1 = 22 ∨ i.1 = 23 ∨ i.1 = 24) ∧ i.2 < (D.fn f).code.length) ∨
  (i.1 = 26 ∧ i.2 ≤ 3) ∨
  (i.1 = 13 ∧ 1 ≤ i.2 ∧ i.2 ≤ 300) ∨
  (i.1 = 28 ∧ f < i.2 ∧ i.2 < D.np ∧ (D.fn i.2).parent = some f) ∨
  ((i.1 = 2 ∨ i.1 = 3 ∨ i.1 = 4 ∨ i.1 = 11 ∨ i.1 = 12 ∨ i.1 = 14 ∨ i.1 = 17 ∨ i.1 = 18 ∨ i.1 = 19 ∨ i.1 = 20 ∨ i.1 = 25 ∨ i.1 = 27) ∧ i.2 = 0)
section
variable {D : CmD} {f x : Nat}
theorem FtD.const (h : x < (D.fn f).consts.length) : FtD D f (1, x) := .inl ⟨rfl, h⟩
theorem FtD.slot {op : Nat} (ho : op = 5 ∨ op = 6 ∨ op = 29) (h : x < (D.fn f).nslots) : FtD D f (op, x) := .inr (.inr (.inl ⟨ho, h⟩))
theorem FtD.for_ {op : Nat} (ho : op = 30 ∨ op = 31 ∨ op = 32) (h : x + 3 < (D.fn f).nslots) : FtD D f (op, x) := .inr (.inr (.inr (.inl ⟨ho, h⟩)))
theorem FtD.arith {op : Nat} (ho : op = 15 ∨ op = 16) (h1 : 1 ≤ x) (h6 : x ≤ 6) : FtD D f (op, x) := .inr (.inr (.inr (.inr (.inr (.inl ⟨ho, h1, h6⟩)))))
theorem FtD.jump {op : Nat} (ho : op = 21 ∨ op = 22 ∨ op = 23 ∨ op = 24) (h : x < (D.fn f).code.length) : FtD D f (op, x) := .inr (.inr (.inr (.inr (.inr (.inr (.inl ⟨ho, h⟩))))))
theorem FtD.call (h : x ≤ 3) : FtD D f (26, x) := .inr (.inr (.inr (.inr (.inr (.inr (.inr (.inl ⟨rfl, h⟩)))))))
theorem FtD.item (h1 : 1 ≤ x) (h : x ≤ 300) : FtD D f (13, x) := .inr (.inr (.inr (.inr (.inr (.inr (.inr (.inr (.inl ⟨rfl, h1, h⟩))))))))
theorem FtD.clo (h1 : f < x) (h2 : x < D.np) (h3 : (D.fn x).parent = some f) : FtD D f (28, x) := .inr (.inr (.inr (.inr (.inr (.inr (.inr (.inr (.inr (.inl ⟨rfl, h1, h2, h3⟩)))))))))
theorem FtD.zero {op : Nat} (ho : op = 2 ∨ op = 3 ∨ op = 4 ∨ op = 11 ∨ op = 12 ∨ op = 14 ∨ op = 17 ∨ op = 18 ∨ op = 19 ∨ op = 20 ∨ op = 25 ∨ op = 27) : FtD D f (op, 0) := .inr (.inr (.inr (.inr (.inr (.inr (.inr (.inr (.inr (.inr ⟨ho, rfl⟩)))))))))
/-- opcodes and operands have room in the image -/
theorem FtD.room {i : In} (h : FtD D f i) (h1 : (D.fn f).consts.length ≤ 65535) (h2 : (D.fn f).nslots ≤ 12) (h3 : (D.fn f).ups.length ≤ 255) (h4 : (D.fn f).code.length ≤ 65535) (h5 : D.np ≤ 13) : 1 ≤ i.1 ∧ i.1 ≤ 32 ∧ i.2 < 65536 := by
  rcases h with h | ⟨h, s, hs⟩ | h | h | h | h | h | h | h | h | h
  · omega
  · have := (List.getElem?_eq_some_iff.1 hs).1
    omega
  · omega
  · omega
  · omega
  · omega
  · omega
  · omega
  · omega
  · omega
  · omega
end
/-- a finished function -/
structure FnI (N : List Nd) (D : CmD) (g : Nat) : Prop where
  np3 : (D.fn g).np ≤ 3
  npn : (D.fn g).np ≤ (D.fn g).nslots
  n12 : (D.fn g).nslots ≤ 12
  loc : (D.fn g).locals.length = (D.fn g).np
  lps : (D.fn g).loops = []
  cn : CnOk (D.fn g).consts
  ft : ∀ i ∈ (D.fn g).code, FtD D g i
  tl : ∃ s1, (D.fn g).code = s1 ++ [(2, 0), (2, 0), (27, 0)]
  cl : (D.fn g).code.length ≤ 17 * (N.length - 1) + 4
  kl : (D.fn g).consts.length ≤ N.length - 1
  par : ∃ (f : Nat) (L : List Bs), (D.fn g).parent = some f ∧ f < g ∧ L.length ≤ (D.fn f).nslots ∧ (D.fn g).ups.Nodup ∧ ∀ d ∈ (D.fn g).ups, (d.1 = 1 ∧ ∃ s : Bs, s ≠ [] ∧ L[d.2]? = some s) ∨ (d.1 = 0 ∧ d.2 < (D.fn f).ups.length)
def FF (N : List Nd) (D : CmD) (a b : Nat) : Prop := ∀ g, a < g → g ≤ b → FnI N D g
def AF (D : CmD) (f : Nat) (s : List In) : Prop := ∀ i ∈ s, FtD D f i
section
variable {N : List Nd} {D : CmD} {f a b b1 : Nat} {s t : List In} {i : In}
theorem FF.add (h : FF N D a b1) (g : FF N D b1 b) : FF N D a b := fun x h1 h2 => by
  by_cases e : x ≤ b1
  · exact h x h1 e
  · exact g x (by omega) h2
theorem FF.nil (N : List Nd) (D : CmD) (a : Nat) : FF N D a a := fun x h1 h2 => by omega
theorem AF.nil : AF D f [] := fun i h => by cases h
theorem AF.app (h : AF D f s) (g : AF D f t) : AF D f (s ++ t) := fun i hi => by
  rcases List.mem_append.1 hi with x | x
  · exact h i x
  · exact g i x
theorem AF.cons (h : FtD D f i) (g : AF D f s) : AF D f (i :: s) := fun j hj => by
  rcases List.mem_cons.1 hj with rfl | x
  · exact h
  · exact g j x
theorem AF.one (h : FtD D f i) : AF D f [i] := AF.cons h AF.nil
theorem var_ft {L : List Bs} {r : En} {s : Bs} {lo up gl : Nat} (ho : (lo = 5 ∨ lo = 6 ∨ lo = 29) ∧ (up = 7 ∨ up = 8) ∧ (gl = 9 ∨ gl = 10)) (h : VarR D f L r s lo up gl i) (hl : L.length ≤ (D.fn f).nslots) : FtD D f i := by
  rcases h with ⟨k, h1, rfl⟩ | ⟨h1, j, h2, rfl⟩ | ⟨h1, h2, x, h3, rfl⟩
  · have := (List.getElem?_eq_some_iff.1 (slotL_at h1)).1
    exact .slot ho.1 (by omega)
  · exact .inr (.inr (.inr (.inr (.inl ⟨ho.2.1, h2.lt⟩))))
  · exact .inr (.inl ⟨ho.2.2, s, h3⟩)
end
structure FA (N : List Nd) (D : CmD) (k : Nat) : Prop where
  ex : ∀ f L r n lo a b w p s, LayN N D k 1 ((f, L) :: r) n p s [] 0 0 → (n = 0 ∧ b = a) ∨ Sh N 1 n lo a b w 0 0 false → b < D.np → f ≤ a → L.length ≤ (D.fn f).nslots → p + s.length < (D.fn f).code.length → AF D f s ∧ FF N D a b
  ca : ∀ f L r n lo a b w p s, LayN N D k 2 ((f, L) :: r) n p s [] 0 0 → (N.getD n nd0).k = 19 → Sh N 1 n lo a b w 0 0 false → b < D.np → f ≤ a → L.length ≤ (D.fn f).nslots → p + s.length < (D.fn f).code.length → AF D f s ∧ FF N D a b
  st : ∀ f L r n lo a b al al' p s L' lp lb ex, LayN N D k 0 ((f, L) :: r) n p s L' lb ex → Sh N 0 n lo a b 120 al al' lp → b < D.np → f ≤ a → L.length ≤ (D.fn f).nslots → p + s.length < (D.fn f).code.length → (lp = true → ex < (D.fn f).code.length) → AF D f s ∧ FF N D a b ∧ L'.length ≤ (D.fn f).nslots
  bl : ∀ f L r n l lo hi a b al al' p s L' lp lb ex, LayN N D k 3 ((f, L) :: r) n p s L' lb ex → Chain N n l → SeqS (fun x lo a b al al' => Sh N 0 x lo a b 120 al al' lp) l lo hi a b al al' → b < D.np → f ≤ a → L.length ≤ (D.fn f).nslots → p + s.length < (D.fn f).code.length → (lp = true → ex < (D.fn f).code.length) → AF D f s ∧ FF N D a b
section
variable {N : List Nd} {D : CmD} {k f : Nat} {L : List Bs} {r : En}
theorem FA.args (T : FA N D k) {dec : Nat} : ∀ (l : List Nat) (lo hi a b w p : Nat) (s : List In), Exprs (LayN N D k) ((f, L) :: r) l p s → SeqE (fun x lo a b w => Sh N 1 x lo a b w 0 0 false) dec l lo hi a b w → b < D.np → f ≤ a → L.length ≤ (D.fn f).nslots → p + s.length < (D.fn f).code.length → AF D f s ∧ FF N D a b := by
  intro l
  induction l with
  | nil =>
    intro lo hi a b w p s h g hb _ _ _
    obtain ⟨rfl, rfl⟩ := g
    have h : s = [] := h
    subst h
    exact ⟨AF.nil, FF.nil _ _ _⟩
  | cons x l ih =>
    intro lo hi a b w p s h g hb hf hl hc
    obtain ⟨s1, s2, rfl, h1, h2⟩ := h
    obtain ⟨b1, g1, g2⟩ := g
    have ab := SeqE.ab (fun _ _ _ _ _ h => Sh.ab h) g2
    have ab1 := g1.ab
    rw [List.length_append] at hc
    obtain ⟨e1, f1⟩ := T.ex f L r x lo a b1 w p s1 h1 (.inr g1) (by omega) hf hl (by omega)
    obtain ⟨e2, f2⟩ := ih x hi b1 b _ _ s2 h2 g2 hb (by omega) hl (by omega)
    exact ⟨e1.app e2, f1.add f2⟩
theorem FA.items (T : FA N D k) : ∀ (l : List Nat) (lo hi a b w i p : Nat) (s : List In), Items (LayN N D k) ((f, L) :: r) l i p s → SeqE (fun x lo a b w => Sh N 1 x lo a b w 0 0 false) 0 l lo hi a b w → b < D.np → f ≤ a → L.length ≤ (D.fn f).nslots → p + s.length < (D.fn f).code.length → i + l.length ≤ 300 → AF D f s ∧ FF N D a b := by
  intro l
  induction l with
  | nil =>
    intro lo hi a b w i p s h g hb _ _ _ _
    obtain ⟨rfl, rfl⟩ := g
    have h : s = [] := h
    subst h
    exact ⟨AF.nil, FF.nil _ _ _⟩
  | cons x l ih =>
    intro lo hi a b w i p s h g hb hf hl hc hi'
    obtain ⟨s1, s2, rfl, h1, h2⟩ := h
    obtain ⟨b1, g1, g2⟩ := g
    have ab := SeqE.ab (fun _ _ _ _ _ h => Sh.ab h) g2
    have ab1 := g1.ab
    rw [List.length_append, List.length_cons] at hc
    rw [List.length_cons] at hi'
    obtain ⟨e1, f1⟩ := T.ex f L r x lo a b1 w p s1 h1 (.inr g1) (by omega) hf hl (by omega)
    obtain ⟨e2, f2⟩ := ih x hi b1 b _ _ _ s2 h2 g2 hb (by omega) hl (by omega) (by omega)
    exact ⟨e1.app (AF.cons (.item (by omega) (by omega)) e2), f1.add f2⟩
theorem FA.stmts (T : FA N D k) {lp : Bool} {lb ex : Nat} : ∀ (l : List Nat) (lo hi a b al al' p : Nat) (L L' : List Bs) (s : List In), Stmts (LayN N D k) f r lb ex l L p s L' → SeqS (fun x lo a b al al' => Sh N 0 x lo a b 120 al al' lp) l lo hi a b al al' → b < D.np → f ≤ a → L.length ≤ (D.fn f).nslots → p + s.length < (D.fn f).code.length → (lp = true → ex < (D.fn f).code.length) → AF D f s ∧ FF N D a b ∧ L'.length ≤ (D.fn f).nslots := by
  intro l
  induction l with
  | nil =>
    intro lo hi a b al al' p L L' s h g hb _ hl _ _
    obtain ⟨rfl, rfl⟩ := h
    obtain ⟨rfl, rfl, rfl⟩ := g
    exact ⟨AF.nil, FF.nil _ _ _, hl⟩
  | cons x l ih =>
    intro lo hi a b al al' p L L' s h g hb hf hl hc hx
    obtain ⟨s1, s2, L1, rfl, h1, h2⟩ := h
    obtain ⟨b1, al1, g1, g2⟩ := g
    have ab := SeqS.ab (fun _ _ _ _ _ _ h => Sh.ab h) g2
    have ab1 := g1.ab
    rw [List.length_append] at hc
    obtain ⟨e1, f1, n1⟩ := T.st f L r x lo a b1 al al1 p s1 L1 lp lb ex h1 g1 (by omega) hf hl (by omega) hx
    obtain ⟨e2, f2, n2⟩ := ih x hi b1 b al1 al' _ L1 L' s2 h2 g2 hb (by omega) n1 (by omega) hx
    exact ⟨e1.app e2, f1.add f2, n2⟩
theorem FA.b3 (T : FA N D k) : ∀ f L r n l lo hi a b al al' p s L' lp lb ex, LayN N D (k + 1) 3 ((f, L) :: r) n p s L' lb ex → Chain N n l → SeqS (fun x lo a b al al' => Sh N 0 x lo a b 120 al al' lp) l lo hi a b al al' → b < D.np → f ≤ a → L.length ≤ (D.fn f).nslots → p + s.length < (D.fn f).code.length → (lp = true → ex < (D.fn f).code.length) → AF D f s ∧ FF N D a b := by
  intro f L r n l lo hi a b al al' p s L' lp lb ex h hc hs hb hf hl hp hx
  have z : LayB N D (LayN N D k) 3 f L r n p s L' lb ex := h
  rcases z with ⟨e, _⟩ | ⟨e, _⟩ | ⟨_, _, z⟩ | ⟨e, _⟩
  · cases e
  · cases e
  · obtain ⟨l', s1, L1, rfl, c1, p1, y⟩ := z
    have el := c1.uniq hc
    subst el
    rw [List.length_append] at hp
    obtain ⟨e1, f1, n2⟩ := T.stmts l' lo hi a b al al' p L L1 s1 y hs hb hf hl (by omega) hx
    refine ⟨e1.app ?_, f1⟩
    split
    · exact AF.one (.slot (.inr (.inr rfl)) (by omega))
    · exact AF.nil
  · cases e
theorem FA.c2 (T : FA N D k) : ∀ f L r n lo a b w p s, LayN N D (k + 1) 2 ((f, L) :: r) n p s [] 0 0 → (N.getD n nd0).k = 19 → Sh N 1 n lo a b w 0 0 false → b < D.np → f ≤ a → L.length ≤ (D.fn f).nslots → p + s.length < (D.fn f).code.length → AF D f s ∧ FF N D a b := by
  intro f L r n lo a b w p s h hd g hb hf hl hp
  have z : LayB N D (LayN N D k) 2 f L r n p s [] 0 0 := h
  rcases z with ⟨e, _⟩ | ⟨_, z⟩ | ⟨e, _⟩ | ⟨e, _⟩
  · cases e
  · obtain ⟨l, s1, s2, rfl, y1, y2, y3⟩ := z
    obtain ⟨z1, z2, z3⟩ := g.out
    have q : ∃ l h1 b1, n = h1 + 1 ∧ Sh N 1 (N.getD n nd0).a lo a b1 w 0 0 false ∧ Chain N (N.getD n nd0).b l ∧ l.length ≤ 3 ∧ SeqE (fun x lo a b w => Sh N 1 x lo a b w 0 0 false) 1 l (N.getD n nd0).a h1 b1 b (w - 1) := by
      rcases z3 with ⟨_, z3⟩ | ⟨e, _⟩
      · rcases z3 with q | q | q | q | q | q | q | q | q | q | q <;> first | omega | exact q.2.2
      · cases e
    obtain ⟨l', h1, b1, q1, q2, q3, q4, q5⟩ := q
    have el := y1.uniq q3
    subst el
    have ab := SeqE.ab (fun _ _ _ _ _ h => Sh.ab h) q5
    have ab1 := q2.ab
    simp only [List.length_append, List.length_cons, List.length_nil] at hp
    obtain ⟨e1, f1⟩ := T.ex f L r _ lo a b1 w p s1 y2 (.inr q2) (by omega) hf hl (by omega)
    obtain ⟨e2, f2⟩ := T.args l _ h1 b1 b (w - 1) _ s2 y3 q5 hb (by omega) hl (by omega)
    exact ⟨(e1.app e2).app (AF.one (.call q4)), f1.add f2⟩
  · cases e
  · cases e
theorem FA.e1 (T : FA N D k) (hN : N.length ≤ 301) (h0 : (N.getD 0 nd0).k = 0) : ∀ f L r n lo a b w p s, LayN N D (k + 1) 1 ((f, L) :: r) n p s [] 0 0 → (n = 0 ∧ b = a) ∨ Sh N 1 n lo a b w 0 0 false → b < D.np → f ≤ a → L.length ≤ (D.fn f).nslots → p + s.length < (D.fn f).code.length → AF D f s ∧ FF N D a b := by
  intro f L r n lo a b w p s h g hb hf hl hp
  have z : LayB N D (LayN N D k) 1 f L r n p s [] 0 0 := h
  rcases z with ⟨_, z⟩ | ⟨e, _⟩ | ⟨e, _⟩ | ⟨e, _⟩
  rotate_left
  · cases e
  · cases e
  · cases e
  rcases g with ⟨rfl, rfl⟩ | g
  · have e : s = [(2, 0)] := by
      rcases z with q | q | q | q | q | q | q | q | q | q | q | q | q <;> first | omega | exact q.2
    subst e
    exact ⟨AF.one (.zero (by omega)), FF.nil _ _ _⟩
  obtain ⟨z1, z2, z3⟩ := g.out
  rcases z3 with ⟨_, z3⟩ | ⟨e, _⟩
  rotate_left
  · cases e
  have ab := g.ab
  have leaf : ∀ {i : In}, b = a → FtD D f i → AF D f [i] ∧ FF N D a b := fun e t => ⟨AF.one t, by rw [e]; exact FF.nil _ _ _⟩
  have lf : (N.getD n nd0).k = 0 ∨ (N.getD n nd0).k = 12 ∨ (N.getD n nd0).k = 13 ∨ (N.getD n nd0).k = 14 ∨ (N.getD n nd0).k = 15 ∨ (N.getD n nd0).k = 16 ∨ (N.getD n nd0).k = 17 → b = a := by
    intro hk
    rcases z3 with q | q | q | q | q | q | q | q | q | q | q <;> first | omega | exact q.2.2.1
  rcases z with ⟨d, rfl⟩ | ⟨d, rfl⟩ | ⟨d, rfl⟩ | ⟨d, x, rfl, y⟩ | ⟨d, x, rfl, y⟩ | ⟨d, i, rfl, y⟩ | ⟨d, s1, s2, rfl, y1, y2⟩ | ⟨d, s1, rfl, y⟩ | ⟨d, rfl, y⟩ | ⟨d, l, s1, rfl, y1, y2⟩ | ⟨d, s1, s2, rfl, y1, y2⟩ | ⟨d, s1, rfl, y⟩ | ⟨d, s1, s2, rfl, y1, y2⟩
  · exact leaf (lf (by omega)) (.zero (by omega))
  · exact leaf (lf (by omega)) (.zero (by omega))
  · exact leaf (lf (by omega)) (.zero (by omega))
  · exact leaf (lf (by omega)) (.const (List.getElem?_eq_some_iff.1 y).1)
  · exact leaf (lf (by omega)) (.const (List.getElem?_eq_some_iff.1 y).1)
  · exact leaf (lf (by omega)) (var_ft (by omega) y hl)
  · have q : ∃ b1, Sh N 1 (N.getD n nd0).a lo a b1 w 0 0 false ∧ Sh N 1 (N.getD n nd0).b (N.getD n nd0).a b1 b (w - 1) 0 0 false := by
      rcases z3 with q | q | q | q | q | q | q | q | q | q | q <;> first | omega | exact q.2.2.2
    obtain ⟨b1, q1, q2⟩ := q
    have := q1.ab; have := q2.ab
    simp only [List.length_append, List.length_cons, List.length_nil] at hp
    obtain ⟨e1, f1⟩ := T.ex f L r _ lo a b1 w p s1 y1 (.inr q1) (by omega) hf hl (by omega)
    obtain ⟨e2, f2⟩ := T.ex f L r _ _ b1 b (w - 1) _ s2 y2 (.inr q2) hb (by omega) hl (by omega)
    exact ⟨(e1.app e2).app (AF.one (.zero (by omega))), f1.add f2⟩
  · simp only [List.length_append, List.length_cons, List.length_nil] at hp
    obtain ⟨e1, f1⟩ := T.ca f L r n lo a b w p s1 y d g hb hf hl (by omega)
    exact ⟨e1.app (AF.one (.zero (by omega))), f1⟩
  · have q : (N.getD n nd0).n = a + 1 ∧ (N.getD n nd0).n ≤ 12 ∧ ∃ l h1 l2 h2 al2, n = h2 + 1 ∧ Chain N (N.getD n nd0).a l ∧ l.length ≤ 3 ∧ Names N l lo h1 ∧ Chain N (N.getD n nd0).b l2 ∧ SeqS (fun x lo a b al al' => Sh N 0 x lo a b 120 al al' false) l2 h1 h2 (a + 1) b l.length al2 := by
      rcases z3 with q | q | q | q | q | q | q | q | q | q | q <;> first | omega | exact ⟨q.2.2.1, q.2.2.2⟩
    obtain ⟨q1, q2, l, h1, l2, h2, al2, q3, q4, q5, q6, q7, q8⟩ := q
    obtain ⟨l', s1, c1, y', c2, c3, c4, c5, c6, c7, c8, c9, c10, c11⟩ := y
    have el := c1.uniq q4
    subst el
    have ab1 := SeqS.ab (fun _ _ _ _ _ _ h => Sh.ab h) q8
    obtain ⟨e1, f1⟩ := T.bl _ _ _ _ l2 h1 h2 (a + 1) b l'.length al2 0 s1 _ false 0 0 y' q7 q8 hb (Nat.le_of_eq q1) (by rw [List.length_map]; exact c8.1) (by rw [c2, List.length_append]; simp) (fun x => by cases x)
    refine ⟨AF.one (.clo (by omega) (by omega) c4), fun g i1 i2 => ?_⟩
    by_cases e : g = (N.getD n nd0).n
    · subst e
      refine ⟨by rw [c3]; exact q5, by rw [c3]; exact c8.1, c8.2, by rw [c5, c3, List.length_map], c6, c9, ?_, ⟨s1, c2⟩, c10, c11, f, L, c4, by omega, hl, c7.1, c7.2⟩
      rw [c2]
      exact e1.app (AF.cons (.zero (by omega)) (AF.cons (.zero (by omega)) (AF.one (.zero (by omega)))))
    · exact f1 g (by omega) i2
  · have q : ∃ l h1, n = h1 + 1 ∧ Chain N (N.getD n nd0).a l ∧ SeqE (fun x lo a b w => Sh N 1 x lo a b w 0 0 false) 0 l lo h1 a b (w - 1) := by
      rcases z3 with q | q | q | q | q | q | q | q | q | q | q <;> first | omega | exact q.2.2
    obtain ⟨l', h1, q1, q2, q3⟩ := q
    have el := y1.uniq q2
    subst el
    have hin := SeqE.in_ Sh.ltE q3
    have hinc := Inc.len (SeqE.inc Sh.ltE q3) hin.1 (fun x hx => (hin.2 x hx).2)
    rw [List.length_cons] at hp
    obtain ⟨e1, f1⟩ := T.items l lo h1 a b (w - 1) 0 _ s1 y2 q3 hb hf hl (by omega) (by omega)
    exact ⟨AF.cons (.zero (by omega)) e1, f1⟩
  · have q : opB (N.getD n nd0).n ∧ ∃ b1, Sh N 1 (N.getD n nd0).a lo a b1 w 0 0 false ∧ Sh N 1 (N.getD n nd0).b (N.getD n nd0).a b1 b (w - 1) 0 0 false := by
      rcases z3 with q | q | q | q | q | q | q | q | q | q | q <;> first | omega | exact ⟨q.2.2.1, q.2.2.2.2⟩
    obtain ⟨qo, b1, q1, q2⟩ := q
    have := q1.ab; have := q2.ab
    simp only [List.length_append, List.length_cons, List.length_nil] at hp
    obtain ⟨e1, f1⟩ := T.ex f L r _ lo a b1 w p s1 y1 (.inr q1) (by omega) hf hl (by omega)
    obtain ⟨e2, f2⟩ := T.ex f L r _ _ b1 b (w - 1) _ s2 y2 (.inr q2) hb (by omega) hl (by omega)
    refine ⟨(e1.app e2).app (AF.one ?_), f1.add f2⟩
    rcases binI_ok qo with e | ⟨x, e, x1, x6⟩ | ⟨x, e, x1, x6⟩
    · rw [e]; exact .zero (by omega)
    · rw [e]; exact .arith (.inr rfl) x1 x6
    · rw [e]; exact .arith (.inl rfl) x1 x6
  · have q : Sh N 1 (N.getD n nd0).a lo a b w 0 0 false := by
      rcases z3 with q | q | q | q | q | q | q | q | q | q | q <;> first | omega | exact q.2.2.2
    simp only [List.length_append, List.length_cons, List.length_nil] at hp
    obtain ⟨e1, f1⟩ := T.ex f L r _ lo a b w p s1 y (.inr q) hb hf hl (by omega)
    refine ⟨e1.app (AF.one ?_), f1⟩
    obtain ⟨op, e, ho⟩ := unI_ok (N.getD n nd0).n
    rw [e]
    exact .zero (by omega)
  · have q : ∃ b1, Sh N 1 (N.getD n nd0).a lo a b1 w 0 0 false ∧ Sh N 1 (N.getD n nd0).b (N.getD n nd0).a b1 b w 0 0 false := by
      rcases z3 with q | q | q | q | q | q | q | q | q | q | q <;> first | omega | exact q.2.2
    obtain ⟨b1, q1, q2⟩ := q
    have := q1.ab; have := q2.ab
    simp only [List.length_append, List.length_cons, List.length_nil] at hp
    obtain ⟨e1, f1⟩ := T.ex f L r _ lo a b1 w p s1 y1 (.inr q1) (by omega) hf hl (by omega)
    obtain ⟨e2, f2⟩ := T.ex f L r _ _ b1 b w _ s2 y2 (.inr q2) hb (by omega) hl (by omega)
    exact ⟨e1.app (AF.cons (.jump (by split <;> simp) (by omega)) e2), f1.add f2⟩
end
end Go.Proofs.Qxb6500574aGreatDoor
