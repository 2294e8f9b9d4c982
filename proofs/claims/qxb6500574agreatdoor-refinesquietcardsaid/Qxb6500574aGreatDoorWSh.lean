/-
  moon: THE SHAPE OF A TREE laid flat. Plain; no memory, no walk.
-/
import Derived.Test.Qxb6500574aGreatDoorWPlain
namespace Go.Proofs.Qxb6500574aGreatDoor
set_option linter.unusedVariables false
set_option linter.unusedSimpArgs false

/-- the list of nodes that begins at n -/
def Chain (N : List Nd) : Nat → List Nat → Prop
  | n, [] => n = 0
  | n, x :: l => n = x ∧ x ≠ 0 ∧ Chain N (N.getD x nd0).next l
/-- names, one a node, from lo on -/
def Names (N : List Nd) : List Nat → Nat → Nat → Prop
  | [], lo, hi => hi = lo
  | x :: l, lo, hi => x = lo + 1 ∧ x < N.length ∧ (N.getD x nd0).k = 17 ∧ 1 ≤ (N.getD x nd0).s.length ∧ (N.getD x nd0).s.length ≤ 40 ∧ Names N l (lo + 1) hi
/-- expressions one behind the other; dec: how much room each one takes of the next -/
def SeqE (R : Nat → Nat → Nat → Nat → Nat → Prop) (dec : Nat) : List Nat → Nat → Nat → Nat → Nat → Nat → Prop
  | [], lo, hi, a, b, w => hi = lo ∧ b = a
  | x :: l, lo, hi, a, b, w => ∃ b1, R x lo a b1 w ∧ SeqE R dec l x hi b1 b (w - dec)
/-- statements one behind the other -/
def SeqS (R : Nat → Nat → Nat → Nat → Nat → Nat → Prop) : List Nat → Nat → Nat → Nat → Nat → Nat → Nat → Prop
  | [], lo, hi, a, b, al, al' => hi = lo ∧ b = a ∧ al' = al
  | x :: l, lo, hi, a, b, al, al' => ∃ b1 al1, R x lo a b1 al al1 ∧ SeqS R l x hi b1 b al1 al'
def opB (n : Nat) : Prop := (1 ≤ n ∧ n ≤ 6) ∨ (11 ≤ n ∧ n ≤ 16) ∨ n = 20
def nmOk (s : Bs) : Prop := 1 ≤ s.length ∧ s.length ≤ 40
/-- node n (task 1: an expression, 0: a statement) and all below it are the nodes behind lo up to n; its functions are a + 1 .. b; w operands are enough; al locals are alive ahead of it, al' behind it; lp: within a loop -/
def ShB (N : List Nd) (R : Nat → Nat → Nat → Nat → Nat → Nat → Nat → Nat → Bool → Prop) (d : Nd) (task n lo a b w al al' : Nat) (lp : Bool) : Prop :=
    lo < n ∧ n < N.length ∧
    ((task = 1 ∧ (
      ((d.k = 12 ∨ d.k = 13 ∨ d.k = 14) ∧ n = lo + 1 ∧ b = a ∧ 1 ≤ w) ∨
      ((d.k = 15) ∧ n = lo + 1 ∧ b = a ∧ 1 ≤ w ∧ d.n < 18446744073709551616 ∧ isNan d.n = false) ∨
      ((d.k = 16) ∧ n = lo + 1 ∧ b = a ∧ 1 ≤ w ∧ d.s.length ≤ 40) ∨
      ((d.k = 17) ∧ n = lo + 1 ∧ b = a ∧ 1 ≤ w ∧ nmOk d.s) ∨
      ((d.k = 18) ∧ 2 ≤ w ∧ n = d.b + 1 ∧ ∃ b1, R 1 d.a lo a b1 w 0 0 false ∧ R 1 d.b d.a b1 b (w - 1) 0 0 false) ∨
      ((d.k = 19) ∧ 2 ≤ w ∧ ∃ l h1 b1, n = h1 + 1 ∧ R 1 d.a lo a b1 w 0 0 false ∧ Chain N d.b l ∧ l.length ≤ 3 ∧ SeqE (fun x lo a b w => R 1 x lo a b w 0 0 false) 1 l d.a h1 b1 b (w - 1)) ∨
      ((d.k = 20) ∧ 1 ≤ w ∧ d.n = a + 1 ∧ d.n ≤ 12 ∧ ∃ l h1 l2 h2 al2, n = h2 + 1 ∧ Chain N d.a l ∧ l.length ≤ 3 ∧ Names N l lo h1 ∧ Chain N d.b l2 ∧ SeqS (fun x lo a b al al' => R 0 x lo a b 120 al al' false) l2 h1 h2 (a + 1) b l.length al2) ∨
      ((d.k = 21) ∧ 2 ≤ w ∧ ∃ l h1, n = h1 + 1 ∧ Chain N d.a l ∧ SeqE (fun x lo a b w => R 1 x lo a b w 0 0 false) 0 l lo h1 a b (w - 1)) ∨
      ((d.k = 22) ∧ 2 ≤ w ∧ opB d.n ∧ n = d.b + 1 ∧ ∃ b1, R 1 d.a lo a b1 w 0 0 false ∧ R 1 d.b d.a b1 b (w - 1) 0 0 false) ∨
      ((d.k = 23) ∧ (1 ≤ d.n ∧ d.n ≤ 3) ∧ n = d.a + 1 ∧ R 1 d.a lo a b w 0 0 false) ∨
      ((d.k = 24 ∨ d.k = 25) ∧ n = d.b + 1 ∧ ∃ b1, R 1 d.a lo a b1 w 0 0 false ∧ R 1 d.b d.a b1 b w 0 0 false))) ∨
    (task = 0 ∧ (
      ((d.k = 1) ∧ nmOk d.s ∧ al' = al + 1 ∧ al' ≤ 12 ∧ ((d.a = 0 ∧ n = lo + 1 ∧ b = a) ∨ (n = d.a + 1 ∧ R 1 d.a lo a b 120 0 0 false))) ∨
      ((d.k = 2) ∧ al' = al + 2 ∧ al' ≤ 12 ∧ d.a = lo + 1 ∧ (N.getD d.a nd0).next = lo + 2 ∧ Names N [lo + 1, lo + 2] lo (lo + 2) ∧ n = d.b + 1 ∧ (N.getD d.b nd0).k = 19 ∧ R 1 d.b (lo + 2) a b 120 0 0 false) ∨
      ((d.k = 3) ∧ nmOk d.s ∧ al' = al + 1 ∧ al' ≤ 12 ∧ n = d.a + 1 ∧ (N.getD d.a nd0).k = 20 ∧ R 1 d.a lo a b 120 0 0 false) ∨
      ((d.k = 4) ∧ al' = al ∧ n = d.b + 1 ∧ ((N.getD d.a nd0).k = 17 ∨ (N.getD d.a nd0).k = 18) ∧ ∃ b1, R 1 d.a lo a b1 110 0 0 false ∧ R 1 d.b d.a b1 b 110 0 0 false) ∨
      ((d.k = 5) ∧ al' = al ∧ n = d.a + 1 ∧ (N.getD d.a nd0).k = 19 ∧ R 1 d.a lo a b 120 0 0 false) ∨
      ((d.k = 6) ∧ al' = al ∧ ∃ b1 l h1 b2 l2 h2 x1 x2, n = h2 + 1 ∧ R 1 d.a lo a b1 120 0 0 false ∧ Chain N d.b l ∧ SeqS (fun x lo a b al al' => R 0 x lo a b 120 al al' lp) l d.a h1 b1 b2 al x1 ∧ Chain N d.c l2 ∧ SeqS (fun x lo a b al al' => R 0 x lo a b 120 al al' lp) l2 h1 h2 b2 b al x2) ∨
      ((d.k = 7) ∧ al' = al ∧ ∃ b1 l h1 x1, n = h1 + 1 ∧ R 1 d.a lo a b1 120 0 0 false ∧ Chain N d.b l ∧ SeqS (fun x lo a b al al' => R 0 x lo a b 120 al al' true) l d.a h1 b1 b al x1) ∨
      ((d.k = 8) ∧ al' = al ∧ al + 4 ≤ 12 ∧ nmOk d.s ∧ ∃ l0 h0 b0 l h1 x1, n = h1 + 1 ∧ Chain N d.a l0 ∧ (l0.length = 2 ∨ l0.length = 3) ∧ SeqE (fun x lo a b w => R 1 x lo a b 120 0 0 false) 0 l0 lo h0 a b0 120 ∧ Chain N d.b l ∧ SeqS (fun x lo a b al al' => R 0 x lo a b 120 al al' true) l h0 h1 b0 b (al + 4) x1) ∨
      ((d.k = 9) ∧ al' = al ∧ al + 4 ≤ 12 ∧ d.a = lo + 1 ∧ (N.getD d.a nd0).next = lo + 2 ∧ Names N [lo + 1, lo + 2] lo (lo + 2) ∧ ∃ b0 l h1 x1, n = h1 + 1 ∧ R 1 d.b (lo + 2) a b0 120 0 0 false ∧ Chain N d.c l ∧ SeqS (fun x lo a b al al' => R 0 x lo a b 120 al al' true) l d.b h1 b0 b (al + 4) x1) ∨
      ((d.k = 10) ∧ al' = al ∧ ((d.a = 0 ∧ d.b = 0 ∧ n = lo + 1 ∧ b = a) ∨ (d.b = 0 ∧ n = d.a + 1 ∧ R 1 d.a lo a b 120 0 0 false) ∨ (n = d.b + 1 ∧ ∃ b1, R 1 d.a lo a b1 120 0 0 false ∧ R 1 d.b d.a b1 b 119 0 0 false))) ∨
      ((d.k = 11) ∧ al' = al ∧ n = lo + 1 ∧ b = a ∧ lp = true))))
def ShN (N : List Nd) : Nat → Nat → Nat → Nat → Nat → Nat → Nat → Nat → Nat → Bool → Prop
  | 0 => fun _ _ _ _ _ _ _ _ _ => False
  | k + 1 => fun task n => ShB N (ShN N k) (N.getD n nd0) task n
theorem SeqE.imp {R R' : Nat → Nat → Nat → Nat → Nat → Prop} {dec : Nat} (h : ∀ x lo a b w, R x lo a b w → R' x lo a b w) : ∀ {l : List Nat} {lo hi a b w : Nat}, SeqE R dec l lo hi a b w → SeqE R' dec l lo hi a b w := by
  intro l
  induction l with
  | nil => intro lo hi a b w g; exact g
  | cons x l ih => intro lo hi a b w g; obtain ⟨b1, g1, g2⟩ := g; exact ⟨b1, h _ _ _ _ _ g1, ih g2⟩
theorem SeqS.imp {R R' : Nat → Nat → Nat → Nat → Nat → Nat → Prop} (h : ∀ x lo a b al al', R x lo a b al al' → R' x lo a b al al') : ∀ {l : List Nat} {lo hi a b al al' : Nat}, SeqS R l lo hi a b al al' → SeqS R' l lo hi a b al al' := by
  intro l
  induction l with
  | nil => intro lo hi a b al al' g; exact g
  | cons x l ih => intro lo hi a b al al' g; obtain ⟨b1, a1, g1, g2⟩ := g; exact ⟨b1, a1, h _ _ _ _ _ _ g1, ih g2⟩
theorem ShB.imp {N : List Nd} {R R' : Nat → Nat → Nat → Nat → Nat → Nat → Nat → Nat → Bool → Prop} (ih : ∀ {task n lo a b w al al' : Nat} {lp : Bool}, R task n lo a b w al al' lp → R' task n lo a b w al al' lp) {d : Nd} {task n lo a b w al al' : Nat} {lp : Bool} (h : ShB N R d task n lo a b w al al' lp) : ShB N R' d task n lo a b w al al' lp := by
  have iE : ∀ (l : List Nat) (dec lo hi a b w : Nat), SeqE (fun x lo a b w => R 1 x lo a b w 0 0 false) dec l lo hi a b w → SeqE (fun x lo a b w => R' 1 x lo a b w 0 0 false) dec l lo hi a b w := fun l dec lo hi a b w g => g.imp fun _ _ _ _ _ => ih
  have iE2 : ∀ (l : List Nat) (dec lo hi a b w : Nat), SeqE (fun x lo a b w => R 1 x lo a b 120 0 0 false) dec l lo hi a b w → SeqE (fun x lo a b w => R' 1 x lo a b 120 0 0 false) dec l lo hi a b w := fun l dec lo hi a b w g => g.imp fun _ _ _ _ _ => ih
  have iS : ∀ (lp : Bool) (l : List Nat) (lo hi a b al al' : Nat), SeqS (fun x lo a b al al' => R 0 x lo a b 120 al al' lp) l lo hi a b al al' → SeqS (fun x lo a b al al' => R' 0 x lo a b 120 al al' lp) l lo hi a b al al' := fun lp l lo hi a b al al' g => g.imp fun _ _ _ _ _ _ => ih
  obtain ⟨h1, h2, h3⟩ := h
  refine ⟨h1, h2, ?_⟩
  rcases h3 with ⟨ht, h3⟩ | ⟨ht, h3⟩
  · refine .inl ⟨ht, ?_⟩
    rcases h3 with g | g | g | g | ⟨e, g1, g2, b1, g3, g4⟩ | ⟨e, g1, l, h1, b1, g2, g3, g4, g5, g6⟩ | ⟨e, g1, g2, g3, l, h1, l2, h2, al2, g4, g5, g6, g7, g8, g9⟩ | ⟨e, g1, l, h1, g2, g3, g4⟩ | ⟨e, g1, g2, g3, b1, g4, g5⟩ | ⟨e, g1, g2, g3⟩ | ⟨e, g1, b1, g4, g5⟩
    · exact .inl g
    · exact .inr (.inl g)
    · exact .inr (.inr (.inl g))
    · exact .inr (.inr (.inr (.inl g)))
    · exact .inr (.inr (.inr (.inr (.inl ⟨e, g1, g2, b1, ih g3, ih g4⟩))))
    · exact .inr (.inr (.inr (.inr (.inr (.inl ⟨e, g1, l, h1, b1, g2, ih g3, g4, g5, iE _ _ _ _ _ _ _ g6⟩)))))
    · exact .inr (.inr (.inr (.inr (.inr (.inr (.inl ⟨e, g1, g2, g3, l, h1, l2, h2, al2, g4, g5, g6, g7, g8, iS _ _ _ _ _ _ _ _ g9⟩))))))
    · exact .inr (.inr (.inr (.inr (.inr (.inr (.inr (.inl ⟨e, g1, l, h1, g2, g3, iE _ _ _ _ _ _ _ g4⟩)))))))
    · exact .inr (.inr (.inr (.inr (.inr (.inr (.inr (.inr (.inl ⟨e, g1, g2, g3, b1, ih g4, ih g5⟩))))))))
    · exact .inr (.inr (.inr (.inr (.inr (.inr (.inr (.inr (.inr (.inl ⟨e, g1, g2, ih g3⟩)))))))))
    · exact .inr (.inr (.inr (.inr (.inr (.inr (.inr (.inr (.inr (.inr ⟨e, g1, b1, ih g4, ih g5⟩)))))))))
  · refine .inr ⟨ht, ?_⟩
    rcases h3 with ⟨e, g1, g2, g3, g4⟩ | ⟨e, g1, g2, g3, g4, g5, g6, g7, g8⟩ | ⟨e, g1, g2, g3, g4, g5, g6⟩ | ⟨e, g1, g2, g3, b1, g4, g5⟩ | ⟨e, g1, g2, g3, g4⟩ | ⟨e, g1, b1, l, h1, b2, l2, h2, x1, x2, g2, g3, g4, g5, g6, g7⟩ | ⟨e, g1, b1, l, h1, x1, g2, g3, g4, g5⟩ | ⟨e, g1, g2, g3, l0, h0, b0, l, h1, x1, g4, g5, g6, g7, g8, g9⟩ | ⟨e, g1, g2, g3, g4, g5, b0, l, h1, x1, g6, g7, g8, g9⟩ | ⟨e, g1, g2⟩ | g
    · exact .inl ⟨e, g1, g2, g3, g4.imp id fun z => ⟨z.1, ih z.2⟩⟩
    · exact .inr (.inl ⟨e, g1, g2, g3, g4, g5, g6, g7, ih g8⟩)
    · exact .inr (.inr (.inl ⟨e, g1, g2, g3, g4, g5, ih g6⟩))
    · exact .inr (.inr (.inr (.inl ⟨e, g1, g2, g3, b1, ih g4, ih g5⟩)))
    · exact .inr (.inr (.inr (.inr (.inl ⟨e, g1, g2, g3, ih g4⟩))))
    · exact .inr (.inr (.inr (.inr (.inr (.inl ⟨e, g1, b1, l, h1, b2, l2, h2, x1, x2, g2, ih g3, g4, iS _ _ _ _ _ _ _ _ g5, g6, iS _ _ _ _ _ _ _ _ g7⟩)))))
    · exact .inr (.inr (.inr (.inr (.inr (.inr (.inl ⟨e, g1, b1, l, h1, x1, g2, ih g3, g4, iS _ _ _ _ _ _ _ _ g5⟩))))))
    · exact .inr (.inr (.inr (.inr (.inr (.inr (.inr (.inl ⟨e, g1, g2, g3, l0, h0, b0, l, h1, x1, g4, g5, g6, iE2 _ _ _ _ _ _ _ g7, g8, iS _ _ _ _ _ _ _ _ g9⟩)))))))
    · exact .inr (.inr (.inr (.inr (.inr (.inr (.inr (.inr (.inl ⟨e, g1, g2, g3, g4, g5, b0, l, h1, x1, g6, ih g7, g8, iS _ _ _ _ _ _ _ _ g9⟩))))))))
    · refine .inr (.inr (.inr (.inr (.inr (.inr (.inr (.inr (.inr (.inl ⟨e, g1, ?_⟩)))))))))
      rcases g2 with z | z | ⟨z1, b1, z2, z3⟩
      · exact .inl z
      · exact .inr (.inl ⟨z.1, z.2.1, ih z.2.2⟩)
      · exact .inr (.inr ⟨z1, b1, ih z2, ih z3⟩)
    · exact .inr (.inr (.inr (.inr (.inr (.inr (.inr (.inr (.inr (.inr g)))))))))
/-- more fuel -/
theorem ShN.succ (N : List Nd) : ∀ (k : Nat) {task n lo a b w al al' : Nat} {lp : Bool}, ShN N k task n lo a b w al al' lp → ShN N (k + 1) task n lo a b w al al' lp := by
  intro k
  induction k with
  | zero => intro task n lo a b w al al' lp h; exact h.elim
  | succ k ih => intro task n lo a b w al al' lp h; exact ShB.imp (R := ShN N k) ih h
theorem ShN.le {N : List Nd} {k k' : Nat} (h : k ≤ k') {task n lo a b w al al' : Nat} {lp : Bool} (g : ShN N k task n lo a b w al al' lp) : ShN N k' task n lo a b w al al' lp := by
  induction h with
  | refl => exact g
  | step _ ih => exact ShN.succ N _ ih
end Go.Proofs.Qxb6500574aGreatDoor
