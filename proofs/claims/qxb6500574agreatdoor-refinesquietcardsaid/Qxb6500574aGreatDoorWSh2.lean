/-
  moon: a shape stays when the arena grows. Plain; no memory, no walk.
-/
import Derived.Test.Qxb6500574aGreatDoorWSh
namespace Go.Proofs.Qxb6500574aGreatDoor
set_option linter.unusedVariables false
set_option linter.unusedSimpArgs false

/-- two nodes are alike but for the link to the next -/
structure NdE (d e : Nd) : Prop where
  k : e.k = d.k
  a : e.a = d.a
  b : e.b = d.b
  c : e.c = d.c
  n : e.n = d.n
  s : e.s = d.s
theorem NdE.refl (d : Nd) : NdE d d := ⟨rfl, rfl, rfl, rfl, rfl, rfl⟩
theorem NdE.of {d e : Nd} (h : e = d) : NdE d e := h ▸ NdE.refl d
section
variable {N N' : List Nd}
theorem Chain.mono {l : List Nat} : ∀ {n : Nat}, Chain N n l → (∀ x ∈ l, N'.getD x nd0 = N.getD x nd0) → Chain N' n l := by
  induction l with
  | nil => intro n h _; exact h
  | cons x l ih =>
    intro n h e
    refine ⟨h.1, h.2.1, ?_⟩
    rw [e x (by simp)]
    exact ih h.2.2 fun y hy => e y (by simp [hy])
theorem Names.in_ {l : List Nat} : ∀ {lo hi : Nat}, Names N l lo hi → lo ≤ hi ∧ ∀ x ∈ l, lo < x ∧ x ≤ hi := by
  induction l with
  | nil => intro lo hi h; exact ⟨Nat.le_of_eq h.symm, by simp⟩
  | cons x l ih =>
    intro lo hi h
    obtain ⟨h1, h2, h3, h4, h5, h6⟩ := h
    obtain ⟨g1, g2⟩ := ih h6
    refine ⟨by omega, fun y hy => ?_⟩
    rcases List.mem_cons.1 hy with rfl | hy
    · omega
    · have := g2 y hy; omega
theorem Names.mono {l : List Nat} : ∀ {lo hi : Nat}, Names N l lo hi → (∀ x ∈ l, N'.getD x nd0 = N.getD x nd0 ∧ x < N'.length) → Names N' l lo hi := by
  induction l with
  | nil => intro lo hi h _; exact h
  | cons x l ih =>
    intro lo hi h e
    obtain ⟨h1, h2, h3, h4, h5, h6⟩ := h
    obtain ⟨e1, e2⟩ := e x (by simp)
    exact ⟨h1, e2, by rw [e1]; exact h3, by rw [e1]; exact h4, by rw [e1]; exact h5, ih h6 fun y hy => e y (by simp [hy])⟩
theorem SeqE.in_ {R : Nat → Nat → Nat → Nat → Nat → Prop} {dec : Nat} (hR : ∀ x lo a b w, R x lo a b w → lo < x) {l : List Nat} : ∀ {lo hi a b w : Nat}, SeqE R dec l lo hi a b w → lo ≤ hi ∧ ∀ x ∈ l, lo < x ∧ x ≤ hi := by
  induction l with
  | nil => intro lo hi a b w h; exact ⟨Nat.le_of_eq h.1.symm, by simp⟩
  | cons x l ih =>
    intro lo hi a b w h
    obtain ⟨b1, h1, h2⟩ := h
    obtain ⟨g1, g2⟩ := ih h2
    have := hR _ _ _ _ _ h1
    refine ⟨by omega, fun y hy => ?_⟩
    rcases List.mem_cons.1 hy with rfl | hy
    · omega
    · have := g2 y hy; omega
theorem SeqS.in_ {R : Nat → Nat → Nat → Nat → Nat → Nat → Prop} (hR : ∀ x lo a b al al', R x lo a b al al' → lo < x) {l : List Nat} : ∀ {lo hi a b al al' : Nat}, SeqS R l lo hi a b al al' → lo ≤ hi ∧ ∀ x ∈ l, lo < x ∧ x ≤ hi := by
  induction l with
  | nil => intro lo hi a b al al' h; exact ⟨Nat.le_of_eq h.1.symm, by simp⟩
  | cons x l ih =>
    intro lo hi a b al al' h
    obtain ⟨b1, a1, h1, h2⟩ := h
    obtain ⟨g1, g2⟩ := ih h2
    have := hR _ _ _ _ _ _ h1
    refine ⟨by omega, fun y hy => ?_⟩
    rcases List.mem_cons.1 hy with rfl | hy
    · omega
    · have := g2 y hy; omega
/-- under what lies in an interval -/
theorem SeqE.impIn {R R' : Nat → Nat → Nat → Nat → Nat → Prop} {dec L H : Nat} (hR : ∀ x lo a b w, R x lo a b w → lo < x) (h : ∀ x lo a b w, L ≤ lo → x ≤ H → R x lo a b w → R' x lo a b w) : ∀ {l : List Nat} {lo hi a b w : Nat}, L ≤ lo → hi ≤ H → SeqE R dec l lo hi a b w → SeqE R' dec l lo hi a b w := by
  intro l
  induction l with
  | nil => intro lo hi a b w _ _ g; exact g
  | cons x l ih =>
    intro lo hi a b w hl hh g
    obtain ⟨b1, g1, g2⟩ := g
    have := hR _ _ _ _ _ g1
    have := (SeqE.in_ hR g2).1
    exact ⟨b1, h _ _ _ _ _ hl (by omega) g1, ih (by omega) hh g2⟩
theorem SeqS.impIn {R R' : Nat → Nat → Nat → Nat → Nat → Nat → Prop} {L H : Nat} (hR : ∀ x lo a b al al', R x lo a b al al' → lo < x) (h : ∀ x lo a b al al', L ≤ lo → x ≤ H → R x lo a b al al' → R' x lo a b al al') : ∀ {l : List Nat} {lo hi a b al al' : Nat}, L ≤ lo → hi ≤ H → SeqS R l lo hi a b al al' → SeqS R' l lo hi a b al al' := by
  intro l
  induction l with
  | nil => intro lo hi a b al al' _ _ g; exact g
  | cons x l ih =>
    intro lo hi a b al al' hl hh g
    obtain ⟨b1, a1, g1, g2⟩ := g
    have := hR _ _ _ _ _ _ g1
    have := (SeqS.in_ hR g2).1
    exact ⟨b1, a1, h _ _ _ _ _ _ hl (by omega) g1, ih (by omega) hh g2⟩
theorem ShN.lt {k task n lo a b w al al' : Nat} {lp : Bool} (h : ShN N k task n lo a b w al al' lp) : lo < n := by
  cases k with
  | zero => exact h.elim
  | succ k => exact h.1
/-- the arena grows; links of roots may turn -/
theorem ShN.mono : ∀ (k : Nat) {task n lo a b w al al' : Nat} {lp : Bool}, ShN N k task n lo a b w al al' lp → (∀ x, lo < x → x < n → N'.getD x nd0 = N.getD x nd0) → NdE (N.getD n nd0) (N'.getD n nd0) → n < N'.length → ShN N' k task n lo a b w al al' lp := by
  intro k
  induction k with
  | zero => intro task n lo a b w al al' lp h; exact h.elim
  | succ k ih =>
    intro task n lo a b w al al' lp h eq en hl
    have lt1 : ∀ x lo a b w, ShN N k 1 x lo a b w 0 0 false → lo < x := fun _ _ _ _ _ h => h.lt
    have lt2 : ∀ (x lo a b w : Nat), ShN N k 1 x lo a b 120 0 0 false → lo < x := fun _ _ _ _ _ h => h.lt
    have lt3 : ∀ lp x lo a b al al', ShN N k 0 x lo a b 120 al al' lp → lo < x := fun _ _ _ _ _ _ _ h => h.lt
    -- a node below n
    have sub : ∀ {task x lo' a b w al al' : Nat} {lp : Bool}, lo ≤ lo' → x < n → ShN N k task x lo' a b w al al' lp → ShN N' k task x lo' a b w al al' lp := by
      intro task x lo' a b w al al' lp h1 h2 g
      have := g.lt
      exact ih g (fun y h3 h4 => eq y (by omega) (by omega)) (NdE.of (eq x (by omega) h2)) (by omega)
    have iE : ∀ {l : List Nat} {dec lo' hi a b w : Nat}, lo ≤ lo' → hi < n → SeqE (fun x lo a b w => ShN N k 1 x lo a b w 0 0 false) dec l lo' hi a b w → SeqE (fun x lo a b w => ShN N' k 1 x lo a b w 0 0 false) dec l lo' hi a b w := by
      intro l dec lo' hi a b w h1 h2 g
      exact SeqE.impIn (L := lo) (H := n - 1) lt1 (fun x lo a b w h3 h4 g => sub h3 (by omega) g) h1 (by omega) g
    have iE2 : ∀ {l : List Nat} {dec lo' hi a b w : Nat}, lo ≤ lo' → hi < n → SeqE (fun x lo a b w => ShN N k 1 x lo a b 120 0 0 false) dec l lo' hi a b w → SeqE (fun x lo a b w => ShN N' k 1 x lo a b 120 0 0 false) dec l lo' hi a b w := by
      intro l dec lo' hi a b w h1 h2 g
      exact SeqE.impIn (L := lo) (H := n - 1) lt2 (fun x lo a b w h3 h4 g => sub h3 (by omega) g) h1 (by omega) g
    have iS : ∀ {lp : Bool} {l : List Nat} {lo' hi a b al al' : Nat}, lo ≤ lo' → hi < n → SeqS (fun x lo a b al al' => ShN N k 0 x lo a b 120 al al' lp) l lo' hi a b al al' → SeqS (fun x lo a b al al' => ShN N' k 0 x lo a b 120 al al' lp) l lo' hi a b al al' := by
      intro lp l lo' hi a b al al' h1 h2 g
      exact SeqS.impIn (L := lo) (H := n - 1) (lt3 lp) (fun x lo a b al al' h3 h4 g => sub h3 (by omega) g) h1 (by omega) g
    have cE : ∀ {l : List Nat} {m dec lo' hi a b w : Nat}, lo ≤ lo' → hi < n → SeqE (fun x lo a b w => ShN N k 1 x lo a b w 0 0 false) dec l lo' hi a b w → Chain N m l → Chain N' m l := by
      intro l m dec lo' hi a b w h1 h2 g c
      have := (SeqE.in_ lt1 g).2
      exact c.mono fun x hx => eq x (by have := this x hx; omega) (by have := this x hx; omega)
    have cE2 : ∀ {l : List Nat} {m dec lo' hi a b w : Nat}, lo ≤ lo' → hi < n → SeqE (fun x lo a b w => ShN N k 1 x lo a b 120 0 0 false) dec l lo' hi a b w → Chain N m l → Chain N' m l := by
      intro l m dec lo' hi a b w h1 h2 g c
      have := (SeqE.in_ lt2 g).2
      exact c.mono fun x hx => eq x (by have := this x hx; omega) (by have := this x hx; omega)
    have cS : ∀ {lp : Bool} {l : List Nat} {m lo' hi a b al al' : Nat}, lo ≤ lo' → hi < n → SeqS (fun x lo a b al al' => ShN N k 0 x lo a b 120 al al' lp) l lo' hi a b al al' → Chain N m l → Chain N' m l := by
      intro lp l m lo' hi a b al al' h1 h2 g c
      have := (SeqS.in_ (lt3 lp) g).2
      exact c.mono fun x hx => eq x (by have := this x hx; omega) (by have := this x hx; omega)
    have nm : ∀ {l : List Nat} {lo' hi : Nat}, lo ≤ lo' → hi < n → Names N l lo' hi → Names N' l lo' hi := by
      intro l lo' hi h1 h2 g
      have := g.in_.2
      exact g.mono fun x hx => ⟨eq x (by have := this x hx; omega) (by have := this x hx; omega), by have := this x hx; omega⟩
    have kk : ∀ x, lo < x → x < n → (N'.getD x nd0).k = (N.getD x nd0).k ∧ (N'.getD x nd0).next = (N.getD x nd0).next := fun x h1 h2 => by rw [eq x h1 h2]; exact ⟨rfl, rfl⟩
    obtain ⟨h1, h2, h3⟩ := h
    refine ⟨h1, hl, ?_⟩
    rw [en.k, en.a, en.b, en.c, en.n, en.s]
    rcases h3 with ⟨ht, h3⟩ | ⟨ht, h3⟩
    · refine .inl ⟨ht, ?_⟩
      rcases h3 with g | g | g | g | ⟨e, g1, g2, b1, g3, g4⟩ | ⟨e, g1, l, h1, b1, g2, g3, g4, g5, g6⟩ | ⟨e, g1, g2, g3, l, h1, l2, h2, al2, g4, g5, g6, g7, g8, g9⟩ | ⟨e, g1, l, h1, g2, g3, g4⟩ | ⟨e, g1, g2, g3, b1, g4, g5⟩ | ⟨e, g1, g2, g3⟩ | ⟨e, g1, b1, g4, g5⟩
      · exact .inl g
      · exact .inr (.inl g)
      · exact .inr (.inr (.inl g))
      · exact .inr (.inr (.inr (.inl g)))
      · have := g3.lt; have := g4.lt
        exact .inr (.inr (.inr (.inr (.inl ⟨e, g1, g2, b1, sub (by omega) (by omega) g3, sub (by omega) (by omega) g4⟩))))
      · have := g3.lt; have := (SeqE.in_ lt1 g6).1
        exact .inr (.inr (.inr (.inr (.inr (.inl ⟨e, g1, l, h1, b1, g2, sub (by omega) (by omega) g3, cE (by omega) (by omega) g6 g4, g5, iE (by omega) (by omega) g6⟩)))))
      · have := g7.in_.1; have := (SeqS.in_ (lt3 _) g9).1
        have c1 : Chain N' (N.getD n nd0).a l := by
          have := g7.in_.2
          exact g5.mono fun x hx => by have := this x hx; exact eq x (by omega) (by omega)
        exact .inr (.inr (.inr (.inr (.inr (.inr (.inl ⟨e, g1, g2, g3, l, h1, l2, h2, al2, g4, c1, g6, nm (by omega) (by omega) g7, cS (by omega) (by omega) g9 g8, iS (by omega) (by omega) g9⟩))))))
      · have := (SeqE.in_ lt1 g4).1
        exact .inr (.inr (.inr (.inr (.inr (.inr (.inr (.inl ⟨e, g1, l, h1, g2, cE (by omega) (by omega) g4 g3, iE (by omega) (by omega) g4⟩)))))))
      · have := g4.lt; have := g5.lt
        exact .inr (.inr (.inr (.inr (.inr (.inr (.inr (.inr (.inl ⟨e, g1, g2, g3, b1, sub (by omega) (by omega) g4, sub (by omega) (by omega) g5⟩))))))))
      · exact .inr (.inr (.inr (.inr (.inr (.inr (.inr (.inr (.inr (.inl ⟨e, g1, g2, sub (by omega) (by omega) g3⟩)))))))))
      · have := g4.lt; have := g5.lt
        exact .inr (.inr (.inr (.inr (.inr (.inr (.inr (.inr (.inr (.inr ⟨e, g1, b1, sub (by omega) (by omega) g4, sub (by omega) (by omega) g5⟩)))))))))
    · refine .inr ⟨ht, ?_⟩
      rcases h3 with ⟨e, g1, g2, g3, g4⟩ | ⟨e, g1, g2, g3, g4, g5, g6, g7, g8⟩ | ⟨e, g1, g2, g3, g4, g5, g6⟩ | ⟨e, g1, g2, g3, b1, g4, g5⟩ | ⟨e, g1, g2, g3, g4⟩ | ⟨e, g1, b1, l, h1, b2, l2, h2, x1, x2, g2, g3, g4, g5, g6, g7⟩ | ⟨e, g1, b1, l, h1, x1, g2, g3, g4, g5⟩ | ⟨e, g1, g2, g3, l0, h0, b0, l, h1, x1, g4, g5, g6, g7, g8, g9⟩ | ⟨e, g1, g2, g3, g4, g5, b0, l, h1, x1, g6, g7, g8, g9⟩ | ⟨e, g1, g2⟩ | g
      · exact .inl ⟨e, g1, g2, g3, g4.imp id fun z => ⟨z.1, sub (by omega) (by omega) z.2⟩⟩
      · have := g8.lt
        exact .inr (.inl ⟨e, g1, g2, g3, by rw [(kk _ (by omega) (by omega)).2]; exact g4, nm (by omega) (by omega) g5, g6, by rw [(kk _ (by omega) (by omega)).1]; exact g7, sub (by omega) (by omega) g8⟩)
      · have := g6.lt
        exact .inr (.inr (.inl ⟨e, g1, g2, g3, g4, by rw [(kk _ (by omega) (by omega)).1]; exact g5, sub (by omega) (by omega) g6⟩))
      · have := g4.lt; have := g5.lt
        exact .inr (.inr (.inr (.inl ⟨e, g1, g2, by rw [(kk _ (by omega) (by omega)).1]; exact g3, b1, sub (by omega) (by omega) g4, sub (by omega) (by omega) g5⟩)))
      · have := g4.lt
        exact .inr (.inr (.inr (.inr (.inl ⟨e, g1, g2, by rw [(kk _ (by omega) (by omega)).1]; exact g3, sub (by omega) (by omega) g4⟩))))
      · have := g3.lt; have := (SeqS.in_ (lt3 _) g5).1; have := (SeqS.in_ (lt3 _) g7).1
        exact .inr (.inr (.inr (.inr (.inr (.inl ⟨e, g1, b1, l, h1, b2, l2, h2, x1, x2, g2, sub (by omega) (by omega) g3, cS (by omega) (by omega) g5 g4, iS (by omega) (by omega) g5, cS (by omega) (by omega) g7 g6, iS (by omega) (by omega) g7⟩)))))
      · have := g3.lt; have := (SeqS.in_ (lt3 _) g5).1
        exact .inr (.inr (.inr (.inr (.inr (.inr (.inl ⟨e, g1, b1, l, h1, x1, g2, sub (by omega) (by omega) g3, cS (by omega) (by omega) g5 g4, iS (by omega) (by omega) g5⟩))))))
      · have := (SeqE.in_ lt2 g7).1; have := (SeqS.in_ (lt3 _) g9).1
        exact .inr (.inr (.inr (.inr (.inr (.inr (.inr (.inl ⟨e, g1, g2, g3, l0, h0, b0, l, h1, x1, g4, cE2 (by omega) (by omega) g7 g5, g6, iE2 (by omega) (by omega) g7, cS (by omega) (by omega) g9 g8, iS (by omega) (by omega) g9⟩)))))))
      · have := g7.lt; have := (SeqS.in_ (lt3 _) g9).1
        exact .inr (.inr (.inr (.inr (.inr (.inr (.inr (.inr (.inl ⟨e, g1, g2, g3, by rw [(kk _ (by omega) (by omega)).2]; exact g4, nm (by omega) (by omega) g5, b0, l, h1, x1, g6, sub (by omega) (by omega) g7, cS (by omega) (by omega) g9 g8, iS (by omega) (by omega) g9⟩))))))))
      · refine .inr (.inr (.inr (.inr (.inr (.inr (.inr (.inr (.inr (.inl ⟨e, g1, ?_⟩)))))))))
        rcases g2 with z | z | ⟨z1, b1, z2, z3⟩
        · exact .inl z
        · exact .inr (.inl ⟨z.1, z.2.1, sub (by omega) (by omega) z.2.2⟩)
        · have := z2.lt; have := z3.lt
          exact .inr (.inr ⟨z1, b1, sub (by omega) (by omega) z2, sub (by omega) (by omega) z3⟩)
      · exact .inr (.inr (.inr (.inr (.inr (.inr (.inr (.inr (.inr (.inr g)))))))))
end
end Go.Proofs.Qxb6500574aGreatDoor
