/-
  moon: HOW COMPILED CODE LIES. Plain; no memory, no walk.
-/
import Derived.Test.Qxb6500574aGreatDoorWCo2
namespace Go.Proofs.Qxb6500574aGreatDoor
set_option linter.unusedVariables false
set_option linter.unusedSimpArgs false
/-- a name's instruction -/
def VarR (D : CmD) (f : Nat) (L : List Bs) (r : En) (s : Bs) (lo up gl : Nat) (i : In) : Prop :=
  (∃ k, slotL L s = some k ∧ i = (lo, k)) ∨ (slotL L s = none ∧ ∃ j, UpR D ((f, L) :: r) s (some j) ∧ i = (up, j)) ∨
  (slotL L s = none ∧ UpR D ((f, L) :: r) s none ∧ ∃ x, (D.fn f).consts[x]? = some (strV s) ∧ i = (gl, x))
/-- what the code of a node is: task, around, node, place, code, the locals behind it, the loop's base and its exit -/
abbrev LR := Nat → En → Nat → Nat → List In → List Bs → Nat → Nat → Prop
def Exprs (R : LR) (E : En) : List Nat → Nat → List In → Prop
  | [], _, s => s = []
  | x :: l, p, s => ∃ s1 s2, s = s1 ++ s2 ∧ R 1 E x p s1 [] 0 0 ∧ Exprs R E l (p + s1.length) s2
def Items (R : LR) (E : En) : List Nat → Nat → Nat → List In → Prop
  | [], _, _, s => s = []
  | x :: l, i, p, s => ∃ s1 s2, s = s1 ++ (13, i + 1) :: s2 ∧ R 1 E x p s1 [] 0 0 ∧ Items R E l (i + 1) (p + s1.length + 1) s2
def Stmts (R : LR) (f : Nat) (r : En) (lb ex : Nat) : List Nat → List Bs → Nat → List In → List Bs → Prop
  | [], L, _, s, L' => s = [] ∧ L' = L
  | x :: l, L, p, s, L' => ∃ s1 s2 L1, s = s1 ++ s2 ∧ R 0 ((f, L) :: r) x p s1 L1 lb ex ∧ Stmts R f r lb ex l L1 (p + s1.length) s2 L'
/-- a nested function stands in D -/
def FnR (N : List Nd) (D : CmD) (R : LR) (f : Nat) (L : List Bs) (r : En) (d : Nd) : Prop :=
  ∃ l s1, Chain N d.a l ∧ R 3 ((d.n, l.map fun m => (N.getD m nd0).s) :: (f, L) :: r) d.b 0 s1 (l.map fun m => (N.getD m nd0).s) 0 0 ∧
    (D.fn d.n).code = s1 ++ [(2, 0), (2, 0), (27, 0)] ∧ (D.fn d.n).np = l.length ∧ (D.fn d.n).parent = some f ∧ (D.fn d.n).locals = (l.map fun m => (N.getD m nd0).s) ∧ (D.fn d.n).loops = [] ∧
    UpV D (D.fn d.n).ups ((f, L) :: r) ∧ (l.length ≤ (D.fn d.n).nslots ∧ (D.fn d.n).nslots ≤ 12) ∧ CnOk (D.fn d.n).consts ∧ (D.fn d.n).code.length ≤ 17 * (N.length - 1) + 4 ∧ (D.fn d.n).consts.length ≤ N.length - 1
def LayB (N : List Nd) (D : CmD) (R : LR) (task : Nat) (f : Nat) (L : List Bs) (r : En) (n p : Nat) (s : List In) (L' : List Bs) (lb ex : Nat) : Prop :=
  let d := N.getD n nd0
  let E := (f, L) :: r
  (task = 1 ∧ (
    ((d.k = 0 ∨ d.k = 12) ∧ s = [(2, 0)]) ∨
    (d.k = 13 ∧ s = [(3, 0)]) ∨
    (d.k = 14 ∧ s = [(4, 0)]) ∨
    (d.k = 15 ∧ ∃ x, s = [(1, x)] ∧ (D.fn f).consts[x]? = some (numV d.n)) ∨
    (d.k = 16 ∧ ∃ x, s = [(1, x)] ∧ (D.fn f).consts[x]? = some (strV d.s)) ∨
    (d.k = 17 ∧ ∃ i, s = [i] ∧ VarR D f L r d.s 5 7 9 i) ∨
    (d.k = 18 ∧ ∃ s1 s2, s = s1 ++ s2 ++ [(11, 0)] ∧ R 1 E d.a p s1 [] 0 0 ∧ R 1 E d.b (p + s1.length) s2 [] 0 0) ∨
    (d.k = 19 ∧ ∃ s1, s = s1 ++ [(25, 0)] ∧ R 2 E n p s1 [] 0 0) ∨
    (d.k = 20 ∧ s = [(28, d.n)] ∧ FnR N D R f L r d) ∨
    (d.k = 21 ∧ ∃ l s1, s = (14, 0) :: s1 ∧ Chain N d.a l ∧ Items R E l 0 (p + 1) s1) ∨
    (d.k = 22 ∧ ∃ s1 s2, s = s1 ++ s2 ++ [binI d.n] ∧ R 1 E d.a p s1 [] 0 0 ∧ R 1 E d.b (p + s1.length) s2 [] 0 0) ∨
    (d.k = 23 ∧ ∃ s1, s = s1 ++ [unI d.n] ∧ R 1 E d.a p s1 [] 0 0) ∨
    ((d.k = 24 ∨ d.k = 25) ∧ ∃ s1 s2, s = s1 ++ (if d.k = 25 then 24 else 23, p + (s1.length + 1 + s2.length)) :: s2 ∧ R 1 E d.a p s1 [] 0 0 ∧ R 1 E d.b (p + (s1.length + 1)) s2 [] 0 0))) ∨
  (task = 2 ∧ ∃ l s1 s2, s = s1 ++ s2 ++ [(26, l.length)] ∧ Chain N d.b l ∧ R 1 E d.a p s1 [] 0 0 ∧ Exprs R E l (p + s1.length) s2) ∨
  (task = 3 ∧ L' = L ∧ ∃ l s1 L1, s = s1 ++ (if L.length < L1.length then [(29, L.length)] else []) ∧ Chain N n l ∧ L <+: L1 ∧ Stmts R f r lb ex l L p s1 L1) ∨
  (task = 0 ∧ (
    (d.k = 1 ∧ L' = L ++ [d.s] ∧ L'.length ≤ (D.fn f).nslots ∧ ∃ s1, s = s1 ++ [(6, L.length)] ∧ R 1 E d.a p s1 [] 0 0) ∨
    (d.k = 2 ∧ L' = L ++ [(N.getD d.a nd0).s, (N.getD (N.getD d.a nd0).next nd0).s] ∧ L'.length ≤ (D.fn f).nslots ∧ ∃ s1, s = s1 ++ [(6, L.length + 1), (6, L.length)] ∧ R 2 E d.b p s1 [] 0 0) ∨
    (d.k = 3 ∧ L' = L ++ [d.s] ∧ L'.length ≤ (D.fn f).nslots ∧ ∃ s1, s = s1 ++ [(6, L.length)] ∧ R 1 ((f, L ++ [d.s]) :: r) d.a p s1 [] 0 0) ∨
    (d.k = 4 ∧ L' = L ∧ (((N.getD d.a nd0).k = 17 ∧ ∃ s1 i, s = s1 ++ [i] ∧ R 1 E d.b p s1 [] 0 0 ∧ VarR D f L r (N.getD d.a nd0).s 6 8 10 i) ∨
      ((N.getD d.a nd0).k ≠ 17 ∧ ∃ s1 s2 s3, s = s1 ++ s2 ++ s3 ++ [(12, 0)] ∧ R 1 E (N.getD d.a nd0).a p s1 [] 0 0 ∧ R 1 E (N.getD d.a nd0).b (p + s1.length) s2 [] 0 0 ∧ R 1 E d.b (p + s1.length + s2.length) s3 [] 0 0))) ∨
    (d.k = 5 ∧ L' = L ∧ ∃ s1, s = s1 ++ [(25, 0), (25, 0)] ∧ R 2 E d.a p s1 [] 0 0) ∨
    (d.k = 6 ∧ L' = L ∧ ∃ s1 s2 s3, s = s1 ++ (22, p + (s1.length + 1 + s2.length + 1)) :: s2 ++ (21, p + (s1.length + 1 + s2.length + 1 + s3.length)) :: s3 ∧ R 1 E d.a p s1 [] 0 0 ∧ R 3 E d.b (p + (s1.length + 1)) s2 L lb ex ∧ R 3 E d.c (p + (s1.length + 1 + s2.length + 1)) s3 L lb ex) ∨
    (d.k = 7 ∧ L' = L ∧ ∃ s1 s2, s = s1 ++ (22, p + (s1.length + 1 + s2.length + 1)) :: s2 ++ [(21, p)] ∧ R 1 E d.a p s1 [] 0 0 ∧ R 3 E d.b (p + (s1.length + 1)) s2 L L.length (p + (s1.length + 1 + s2.length + 1))) ∨
    (d.k = 8 ∧ L' = L ∧ L.length + 4 ≤ (D.fn f).nslots ∧ ∃ s1 s2 s3 s4 h e, h = p + (s1.length + 1 + s2.length + 1 + s3.length + 2) ∧ e = h + 4 + s4.length + 6 ∧
      s = s1 ++ (6, L.length) :: s2 ++ (6, L.length + 1) :: s3 ++ [(6, L.length + 2), (30, L.length), (31, L.length), (22, e), (5, L.length), (6, L.length + 3)] ++ s4 ++ [(29, L.length + 3), (5, L.length), (5, L.length + 2), (15, 1), (6, L.length), (21, h), (29, L.length)] ∧
      R 1 E d.a p s1 [] 0 0 ∧ R 1 ((f, L ++ [[]]) :: r) (N.getD d.a nd0).next (p + (s1.length + 1)) s2 [] 0 0 ∧
      (((N.getD (N.getD d.a nd0).next nd0).next ≠ 0 ∧ R 1 ((f, L ++ [[], []]) :: r) (N.getD (N.getD d.a nd0).next nd0).next (p + (s1.length + 1 + s2.length + 1)) s3 [] 0 0) ∨ ((N.getD (N.getD d.a nd0).next nd0).next = 0 ∧ ∃ x, s3 = [(1, x)] ∧ (D.fn f).consts[x]? = some (numV one64))) ∧
      R 3 ((f, L ++ [[], [], [], d.s]) :: r) d.b (h + 4) s4 (L ++ [[], [], [], d.s]) L.length e) ∨
    (d.k = 9 ∧ L' = L ∧ L.length + 4 ≤ (D.fn f).nslots ∧ ∃ s1 s2 h e, h = p + (s1.length + 3) ∧ e = h + 2 + s2.length + 2 ∧
      s = s1 ++ [(6, L.length), (2, 0), (6, L.length + 1), (32, L.length), (22, e)] ++ s2 ++ [(29, L.length + 2), (21, h), (29, L.length)] ∧
      R 1 E d.b p s1 [] 0 0 ∧ R 3 ((f, L ++ [[], [], (N.getD d.a nd0).s, (N.getD (N.getD d.a nd0).next nd0).s]) :: r) d.c (h + 2) s2 (L ++ [[], [], (N.getD d.a nd0).s, (N.getD (N.getD d.a nd0).next nd0).s]) L.length e) ∨
    (d.k = 10 ∧ L' = L ∧ ∃ s1 s2, s = s1 ++ s2 ++ [(27, 0)] ∧ R 1 E d.a p s1 [] 0 0 ∧ R 1 E d.b (p + s1.length) s2 [] 0 0) ∨
    (d.k = 11 ∧ L' = L ∧ ((lb < L.length ∧ s = [(29, lb), (21, ex)]) ∨ (¬ lb < L.length ∧ s = [(21, ex)])))))
def LayN (N : List Nd) (D : CmD) : Nat → LR
  | 0 => fun _ _ _ _ _ _ _ _ => False
  | k + 1 => fun task E n p s L' lb ex => match E with
    | [] => False
    | (f, L) :: r => LayB N D (LayN N D k) task f L r n p s L' lb ex
/-- breaks that were added to the innermost loop -/
def addB (l : List LpD) (h : List Nat) : List LpD := match l.getLast? with
  | none => []
  | some x => l.dropLast ++ [⟨x.base, x.breaks ++ h⟩]
theorem addB_snoc (l : List LpD) (x : LpD) (h : List Nat) : addB (l ++ [x]) h = l ++ [⟨x.base, x.breaks ++ h⟩] := by simp [addB]
theorem snoc_ex (l : List LpD) : l = [] ∨ ∃ l' x, l = l' ++ [x] := by
  rcases List.eq_nil_or_concat l with h | ⟨l', x, h⟩
  · exact .inl h
  · exact .inr ⟨l', x, by simpa using h⟩
theorem addB_nil (l : List LpD) : addB l [] = l := by
  rcases snoc_ex l with rfl | ⟨l', x, rfl⟩
  · rfl
  · rw [addB_snoc]; simp
theorem addB_addB (l : List LpD) (h g : List Nat) : addB (addB l h) g = addB l (h ++ g) := by
  rcases snoc_ex l with rfl | ⟨l', x, rfl⟩
  · rfl
  · rw [addB_snoc, addB_snoc, addB_snoc]; simp
theorem addB_noh {l : List LpD} {s : List In} {p : Nat} (h : NoH s) : addB l (holes p s) = l := by rw [h.holes]; exact addB_nil l
/-- a list's members -/
theorem chain_eq {N : List Nd} : ∀ {l : List Nat} {n k : Nat}, Chain N n l → l.length ≤ k → nextL N k n = l := by
  intro l
  induction l with
  | nil =>
    intro n k h hk
    have h : n = 0 := h
    subst h
    cases k <;> simp [nextL]
  | cons x l ih =>
    intro n k h hk
    obtain ⟨rfl, h2, h3⟩ := h
    cases k with
    | zero => simp at hk
    | succ k =>
      unfold nextL
      rw [if_neg h2, ih h3 (by simpa using hk)]
theorem Inc.len : ∀ {l : List Nat} {lo hi : Nat}, Inc l lo → lo ≤ hi → (∀ x ∈ l, x ≤ hi) → l.length + lo ≤ hi := by
  intro l
  induction l with
  | nil => intro lo hi _ h _; simpa using h
  | cons x l ih =>
    intro lo hi h _ g
    have := ih h.2 (g x (by simp)) (fun y hy => g y (by simp [hy]))
    have := h.1
    simp only [List.length_cons]
    omega
/-! ### the law of the compiler -/
section
variable (N : List Nd) (k : Nat)
/-- the law's form for expressions (task 1) and calls (task 2): q most new nodes -/
def PoE (task f : Nat) (L : List Bs) (r : En) (a b n m : Nat) (c : CmD) : Prop :=
  ∃ seg kc, Po f L L r a b c (comN N k task f n c) kc ∧ kc ≤ m ∧ ((comN N k task f n c).fn f).code = (c.fn f).code ++ seg ∧ ((comN N k task f n c).fn f).loops = (c.fn f).loops ∧ NoH seg ∧ seg.length + task ≤ 3 * m ∧
    ∀ D, Ex D (comN N k task f n c) f r a b → LayN N D k task ((f, L) :: r) n (c.fn f).code.length seg [] 0 0
def PoS (task f : Nat) (L : List Bs) (r : En) (a b n m al' lb : Nat) (lp : Bool) (c : CmD) : Prop :=
  ∃ seg L' kc, Po f L L' r a b c (comN N k task f n c) kc ∧ kc ≤ m ∧ L <+: L' ∧ L'.length = al' ∧ ((comN N k task f n c).fn f).code = (c.fn f).code ++ seg ∧ ((comN N k task f n c).fn f).loops = addB (c.fn f).loops (holes (c.fn f).code.length seg) ∧ (lp = false → NoH seg) ∧ seg.length ≤ 17 * m + (if task = 3 then 1 else 0) ∧
    ∀ D, Ex D (comN N k task f n c) f r a b → ∀ ex, ex < 65535 → LayN N D k task ((f, L) :: r) n (c.fn f).code.length (patch ex seg) L' lb ex
/-- the premises at a place: m more nodes find room -/
structure Pre (f : Nat) (L : List Bs) (r : En) (a m : Nat) (c : CmD) : Prop where
  iv : Inv c ((f, L) :: r)
  fa : f ≤ a
  pc : (c.fn f).code.length + 17 * m ≤ 65000
  kc : (c.fn f).consts.length + m ≤ 65000
/-- the loop around -/
def LpI (lp : Bool) (lb : Nat) (L : List Bs) (l : List LpD) : Prop := lp = true → lb ≤ L.length ∧ ∃ l' br, l = l' ++ [⟨lb, br⟩]
structure CA : Prop where
  ex : ∀ f L r lo a b n w c, Sh N 1 n lo a b w 0 0 false → Pre f L r a (n - lo) c → 2 * n + 2 ≤ k → PoE N k 1 f L r a b n (n - lo) c
  ca : ∀ f L r lo a b n w c, Sh N 1 n lo a b w 0 0 false → (N.getD n nd0).k = 19 → Pre f L r a (n - lo) c → 2 * n + 1 ≤ k → PoE N k 2 f L r a b n (n - lo) c
  st : ∀ f L r lo a b n al' lp lb c, Sh N 0 n lo a b 120 L.length al' lp → Pre f L r a (n - lo) c → LpI lp lb L (c.fn f).loops → 2 * n + 2 ≤ k → PoS N k 0 f L r a b n (n - lo) al' lb lp c
  bl : ∀ f L r lo hi a b n l al' lp lb c, Chain N n l → SeqS (fun x lo a b al al' => Sh N 0 x lo a b 120 al al' lp) l lo hi a b L.length al' → hi < N.length → Pre f L r a (hi - lo) c → LpI lp lb L (c.fn f).loops → 2 * hi + 3 ≤ k → PoS N k 3 f L r a b n (hi - lo) L.length lb lp c
end
section
variable {f a b1 m m2 kc : Nat} {r : En} {L L' : List Bs} {c c1 : CmD} {seg : List In}
theorem Pre.next (h : Pre f L r a m c) (p : Po f L L' r a b1 c c1 kc) (hc : (c1.fn f).code = (c.fn f).code ++ seg) (hl : seg.length + 17 * m2 ≤ 17 * m) (hk : kc + m2 ≤ m) : Pre f L' r b1 m2 c1 := by
  refine ⟨p.iv, Nat.le_trans h.fa p.gr.ab, ?_, ?_⟩
  · have := h.pc
    rw [hc, List.length_append]
    omega
  · have := h.kc
    have := p.cn
    omega
/-- a name is loaded or stored -/
theorem Po.variable (I : Inv c ((f, L) :: r)) {s : Bs} (hn : nmOk s) (lo up gl : Nat) (ha : f ≤ a) (hc : (c.fn f).consts.length < 65536) (h21 : lo ≠ 21 ∧ up ≠ 21 ∧ gl ≠ 21) :
    ∃ i, Po f L L r a a c (c.variable f s lo up gl) 1 ∧ ((c.variable f s lo up gl).fn f).code = (c.fn f).code ++ [i] ∧ ((c.variable f s lo up gl).fn f).loops = (c.fn f).loops ∧ NoH [i] ∧ ∀ D, Ex D (c.variable f s lo up gl) f r a a → VarR D f L r s lo up gl i := by
  have hr : ∀ e ∈ r, e.1 < f := I.1.2.2.2
  have hs : s ≠ [] := by intro e; subst e; exact absurd hn.1 (by simp)
  unfold CmD.variable
  rw [I.loc]
  cases hsl : slotL L s with
  | some k =>
    simp only
    have hk := (List.getElem?_eq_some_iff.1 (slotL_at hsl)).1
    have h12 := I.l12
    rw [Nat.mod_eq_of_lt (by omega)]
    have p := Po.emit a I [(lo, k)]
    exact ⟨(lo, k), ⟨p.gr, p.iv, by have := p.cn; omega⟩, (emit_code I _).1, (emit_code I _).2, NoH.one (.inl h21.1), fun D _ => .inl ⟨k, hsl, rfl⟩⟩
  | none =>
    simp only
    obtain ⟨p1, c1, l1, k1, u1⟩ := Po.up a I hs
    generalize upN c s 20 f = U at *
    obtain ⟨cu, o⟩ := U
    cases o with
    | some k =>
      simp only at *
      have hk := k1 k rfl
      rw [Nat.mod_eq_of_lt (by omega)]
      have p2 := Po.emit a p1.iv [(up, k)]
      refine ⟨(up, k), ⟨p1.gr.trans p2.gr, p2.iv, by have := p1.cn; have := p2.cn; omega⟩, by rw [(emit_code p1.iv _).1, c1], by rw [(emit_code p1.iv _).2, l1], NoH.one (.inl h21.2.1), fun D hD => .inr (.inl ⟨hsl, k, u1 D (hD.back p2.gr (Nat.le_refl _) ha hr), rfl⟩)⟩
    | none =>
      simp only at *
      have hv : (strV s).ok := .inr ⟨rfl, hn.2⟩
      obtain ⟨p2, c2, l2, k2⟩ := Po.const a p1.iv (strV s) hv (by have := p1.cn; omega)
      have p3 := Po.emit a p2.iv [(gl, (cu.const f (strV s)).2)]
      refine ⟨(gl, (cu.const f (strV s)).2), ⟨p1.gr.trans (p2.gr.trans p3.gr), p3.iv, by have := p1.cn; have := p2.cn; have := p3.cn; omega⟩, by rw [(emit_code p2.iv _).1, c2, c1], by rw [(emit_code p2.iv _).2, l2, l1], NoH.one (.inl h21.2.2), fun D hD => .inr (.inr ⟨hsl, ?_, _, ?_, rfl⟩)⟩
      · exact u1 D (hD.back (p2.gr.trans p3.gr) (Nat.le_refl _) ha hr)
      · exact pre_at (hD.back p3.gr (Nat.le_refl _) ha hr).cons k2
end
end Go.Proofs.Qxb6500574aGreatDoor
