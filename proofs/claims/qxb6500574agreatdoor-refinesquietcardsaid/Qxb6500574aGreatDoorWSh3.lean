/-
  moon: more room for operands; lists from room to room. Plain; no memory, no walk.
-/
import Derived.Test.Qxb6500574aGreatDoorWSh2
namespace Go.Proofs.Qxb6500574aGreatDoor
set_option linter.unusedVariables false
set_option linter.unusedSimpArgs false
section
variable {N N' : List Nd}
theorem SeqE.wide {R : Nat → Nat → Nat → Nat → Nat → Prop} (h : ∀ x lo a b w w', w ≤ w' → R x lo a b w → R x lo a b w') {dec : Nat} : ∀ {l : List Nat} {lo hi a b w w' : Nat}, w ≤ w' → SeqE R dec l lo hi a b w → SeqE R dec l lo hi a b w' := by
  intro l
  induction l with
  | nil => intro lo hi a b w w' _ g; exact g
  | cons x l ih => intro lo hi a b w w' hw g; obtain ⟨b1, g1, g2⟩ := g; exact ⟨b1, h _ _ _ _ _ _ hw g1, ih (by omega) g2⟩
theorem SeqE.dec1 {R : Nat → Nat → Nat → Nat → Nat → Prop} (h : ∀ x lo a b w w', w ≤ w' → R x lo a b w → R x lo a b w') : ∀ {l : List Nat} {lo hi a b w w' : Nat}, w + l.length ≤ w' + 1 → SeqE R 0 l lo hi a b w → SeqE R 1 l lo hi a b w' := by
  intro l
  induction l with
  | nil => intro lo hi a b w w' _ g; exact g
  | cons x l ih =>
    intro lo hi a b w w' hw g
    obtain ⟨b1, g1, g2⟩ := g
    simp at hw
    exact ⟨b1, h _ _ _ _ _ _ (by omega) g1, ih (w := w) (by omega) g2⟩
/-- an expression with more room -/
theorem ShN.wide : ∀ (k : Nat) {n lo a b w w' : Nat}, w ≤ w' → ShN N k 1 n lo a b w 0 0 false → ShN N k 1 n lo a b w' 0 0 false := by
  intro k
  induction k with
  | zero => intro n lo a b w w' _ h; exact h.elim
  | succ k ih =>
    intro n lo a b w w' hw h
    have iw : ∀ x lo a b w w', w ≤ w' → ShN N k 1 x lo a b w 0 0 false → ShN N k 1 x lo a b w' 0 0 false := fun _ _ _ _ _ _ h g => ih h g
    obtain ⟨h1, h2, h3⟩ := h
    refine ⟨h1, h2, ?_⟩
    rcases h3 with ⟨ht, h3⟩ | ⟨ht, h3⟩
    · refine .inl ⟨ht, ?_⟩
      rcases h3 with ⟨e, g1, g2, g3⟩ | ⟨e, g1, g2, g3, g4⟩ | ⟨e, g1, g2, g3, g4⟩ | ⟨e, g1, g2, g3, g4⟩ | ⟨e, g1, g2, b1, g3, g4⟩ | ⟨e, g1, l, h1, b1, g2, g3, g4, g5, g6⟩ | ⟨e, g1, g2⟩ | ⟨e, g1, l, h1, g2, g3, g4⟩ | ⟨e, g1, g2, g3, b1, g4, g5⟩ | ⟨e, g1, g2, g3⟩ | ⟨e, g1, b1, g4, g5⟩
      · exact .inl ⟨e, g1, g2, by omega⟩
      · exact .inr (.inl ⟨e, g1, g2, by omega, g4⟩)
      · exact .inr (.inr (.inl ⟨e, g1, g2, by omega, g4⟩))
      · exact .inr (.inr (.inr (.inl ⟨e, g1, g2, by omega, g4⟩)))
      · exact .inr (.inr (.inr (.inr (.inl ⟨e, by omega, g2, b1, ih hw g3, ih (by omega) g4⟩))))
      · exact .inr (.inr (.inr (.inr (.inr (.inl ⟨e, by omega, l, h1, b1, g2, ih hw g3, g4, g5, SeqE.wide iw (by omega) g6⟩)))))
      · exact .inr (.inr (.inr (.inr (.inr (.inr (.inl ⟨e, by omega, g2⟩))))))
      · exact .inr (.inr (.inr (.inr (.inr (.inr (.inr (.inl ⟨e, by omega, l, h1, g2, g3, SeqE.wide iw (by omega) g4⟩)))))))
      · exact .inr (.inr (.inr (.inr (.inr (.inr (.inr (.inr (.inl ⟨e, by omega, g2, g3, b1, ih hw g4, ih (by omega) g5⟩))))))))
      · exact .inr (.inr (.inr (.inr (.inr (.inr (.inr (.inr (.inr (.inl ⟨e, g1, g2, ih hw g3⟩)))))))))
      · exact .inr (.inr (.inr (.inr (.inr (.inr (.inr (.inr (.inr (.inr ⟨e, g1, b1, ih hw g4, ih hw g5⟩)))))))))
    · cases ht
/-- some fuel is enough -/
def Sh (N : List Nd) (task n lo a b w al al' : Nat) (lp : Bool) : Prop := ∃ k, ShN N k task n lo a b w al al' lp
theorem Sh.lt {task n lo a b w al al' : Nat} {lp : Bool} (h : Sh N task n lo a b w al al' lp) : lo < n := by
  obtain ⟨k, g⟩ := h; exact g.lt
theorem Sh.mono {task n lo a b w al al' : Nat} {lp : Bool} (h : Sh N task n lo a b w al al' lp) (e : ∀ x, lo < x → x < n → N'.getD x nd0 = N.getD x nd0) (en : NdE (N.getD n nd0) (N'.getD n nd0)) (hl : n < N'.length) : Sh N' task n lo a b w al al' lp := by
  obtain ⟨k, g⟩ := h; exact ⟨k, g.mono k e en hl⟩
theorem Sh.wide {n lo a b w w' : Nat} (hw : w ≤ w') (h : Sh N 1 n lo a b w 0 0 false) : Sh N 1 n lo a b w' 0 0 false := by
  obtain ⟨k, g⟩ := h; exact ⟨k, g.wide k hw⟩
theorem SeqE.fuel {dec : Nat} {W : Nat → Nat} : ∀ {l : List Nat} {lo hi a b w : Nat}, SeqE (fun x lo a b w => Sh N 1 x lo a b (W w) 0 0 false) dec l lo hi a b w → ∃ k, SeqE (fun x lo a b w => ShN N k 1 x lo a b (W w) 0 0 false) dec l lo hi a b w := by
  intro l
  induction l with
  | nil => intro lo hi a b w g; exact ⟨0, g⟩
  | cons x l ih =>
    intro lo hi a b w g
    obtain ⟨b1, ⟨k1, g1⟩, g2⟩ := g
    obtain ⟨k2, g2⟩ := ih g2
    exact ⟨max k1 k2, b1, g1.le (Nat.le_max_left _ _), g2.imp fun _ _ _ _ _ g => g.le (Nat.le_max_right _ _)⟩
theorem SeqS.fuel {lp : Bool} : ∀ {l : List Nat} {lo hi a b al al' : Nat}, SeqS (fun x lo a b al al' => Sh N 0 x lo a b 120 al al' lp) l lo hi a b al al' → ∃ k, SeqS (fun x lo a b al al' => ShN N k 0 x lo a b 120 al al' lp) l lo hi a b al al' := by
  intro l
  induction l with
  | nil => intro lo hi a b al al' g; exact ⟨0, g⟩
  | cons x l ih =>
    intro lo hi a b al al' g
    obtain ⟨b1, a1, ⟨k1, g1⟩, g2⟩ := g
    obtain ⟨k2, g2⟩ := ih g2
    exact ⟨max k1 k2, b1, a1, g1.le (Nat.le_max_left _ _), g2.imp fun _ _ _ _ _ _ g => g.le (Nat.le_max_right _ _)⟩
theorem Sh.out {task n lo a b w al al' : Nat} {lp : Bool} (h : Sh N task n lo a b w al al' lp) : ShB N (Sh N) (N.getD n nd0) task n lo a b w al al' lp := by
  obtain ⟨k, g⟩ := h
  cases k with
  | zero => exact g.elim
  | succ k => exact ShB.imp (R := ShN N k) (fun g => ⟨k, g⟩) g
theorem Sh.mk {task n lo a b w al al' : Nat} {lp : Bool} (h : ShB N (Sh N) (N.getD n nd0) task n lo a b w al al' lp) : Sh N task n lo a b w al al' lp := by
  obtain ⟨h1, h2, h3⟩ := h
  suffices h : ∃ k, ShB N (ShN N k) (N.getD n nd0) task n lo a b w al al' lp from (let ⟨k, g⟩ := h; ⟨k + 1, g⟩)
  have mx : ∀ {k1 k2 : Nat}, k1 ≤ max k1 k2 ∧ k2 ≤ max k1 k2 := fun {k1 k2} => ⟨Nat.le_max_left _ _, Nat.le_max_right _ _⟩
  rcases h3 with ⟨ht, h3⟩ | ⟨ht, h3⟩
  · rcases h3 with g | g | g | g | ⟨e, g1, g2, b1, ⟨k1, g3⟩, ⟨k2, g4⟩⟩ | ⟨e, g1, l, h1', b1, g2, ⟨k1, g3⟩, g4, g5, g6⟩ | ⟨e, g1, g2, g3, l, h1', l2, h2', al2, g4, g5, g6, g7, g8, g9⟩ | ⟨e, g1, l, h1', g2, g3, g4⟩ | ⟨e, g1, g2, g3, b1, ⟨k1, g4⟩, ⟨k2, g5⟩⟩ | ⟨e, g1, g2, ⟨k1, g3⟩⟩ | ⟨e, g1, b1, ⟨k1, g4⟩, ⟨k2, g5⟩⟩
    · exact ⟨0, h1, h2, .inl ⟨ht, .inl g⟩⟩
    · exact ⟨0, h1, h2, .inl ⟨ht, .inr (.inl g)⟩⟩
    · exact ⟨0, h1, h2, .inl ⟨ht, .inr (.inr (.inl g))⟩⟩
    · exact ⟨0, h1, h2, .inl ⟨ht, .inr (.inr (.inr (.inl g)))⟩⟩
    · exact ⟨max k1 k2, h1, h2, .inl ⟨ht, .inr (.inr (.inr (.inr (.inl ⟨e, g1, g2, b1, g3.le mx.1, g4.le mx.2⟩))))⟩⟩
    · obtain ⟨k2, g6⟩ := SeqE.fuel (W := id) g6
      exact ⟨max k1 k2, h1, h2, .inl ⟨ht, .inr (.inr (.inr (.inr (.inr (.inl ⟨e, g1, l, h1', b1, g2, g3.le mx.1, g4, g5, g6.imp fun _ _ _ _ _ g => g.le mx.2⟩)))))⟩⟩
    · obtain ⟨k2, g9⟩ := SeqS.fuel g9
      exact ⟨k2, h1, h2, .inl ⟨ht, .inr (.inr (.inr (.inr (.inr (.inr (.inl ⟨e, g1, g2, g3, l, h1', l2, h2', al2, g4, g5, g6, g7, g8, g9⟩))))))⟩⟩
    · obtain ⟨k2, g4⟩ := SeqE.fuel (W := id) g4
      exact ⟨k2, h1, h2, .inl ⟨ht, .inr (.inr (.inr (.inr (.inr (.inr (.inr (.inl ⟨e, g1, l, h1', g2, g3, g4⟩)))))))⟩⟩
    · exact ⟨max k1 k2, h1, h2, .inl ⟨ht, .inr (.inr (.inr (.inr (.inr (.inr (.inr (.inr (.inl ⟨e, g1, g2, g3, b1, g4.le mx.1, g5.le mx.2⟩))))))))⟩⟩
    · exact ⟨k1, h1, h2, .inl ⟨ht, .inr (.inr (.inr (.inr (.inr (.inr (.inr (.inr (.inr (.inl ⟨e, g1, g2, g3⟩)))))))))⟩⟩
    · exact ⟨max k1 k2, h1, h2, .inl ⟨ht, .inr (.inr (.inr (.inr (.inr (.inr (.inr (.inr (.inr (.inr ⟨e, g1, b1, g4.le mx.1, g5.le mx.2⟩)))))))))⟩⟩
  · rcases h3 with ⟨e, g1, g2, g3, g4⟩ | ⟨e, g1, g2, g3, g4, g5, g6, g7, ⟨k1, g8⟩⟩ | ⟨e, g1, g2, g3, g4, g5, ⟨k1, g6⟩⟩ | ⟨e, g1, g2, g3, b1, ⟨k1, g4⟩, ⟨k2, g5⟩⟩ | ⟨e, g1, g2, g3, ⟨k1, g4⟩⟩ | ⟨e, g1, b1, l, h1', b2, l2, h2', x1, x2, g2, ⟨k1, g3⟩, g4, g5, g6, g7⟩ | ⟨e, g1, b1, l, h1', x1, g2, ⟨k1, g3⟩, g4, g5⟩ | ⟨e, g1, g2, g3, l0, h0, b0, l, h1', x1, g4, g5, g6, g7, g8, g9⟩ | ⟨e, g1, g2, g3, g4, g5, b0, l, h1', x1, g6, ⟨k1, g7⟩, g8, g9⟩ | ⟨e, g1, g2⟩ | g
    · rcases g4 with z | ⟨z1, k1, z2⟩
      · exact ⟨0, h1, h2, .inr ⟨ht, .inl ⟨e, g1, g2, g3, .inl z⟩⟩⟩
      · exact ⟨k1, h1, h2, .inr ⟨ht, .inl ⟨e, g1, g2, g3, .inr ⟨z1, z2⟩⟩⟩⟩
    · exact ⟨k1, h1, h2, .inr ⟨ht, .inr (.inl ⟨e, g1, g2, g3, g4, g5, g6, g7, g8⟩)⟩⟩
    · exact ⟨k1, h1, h2, .inr ⟨ht, .inr (.inr (.inl ⟨e, g1, g2, g3, g4, g5, g6⟩))⟩⟩
    · exact ⟨max k1 k2, h1, h2, .inr ⟨ht, .inr (.inr (.inr (.inl ⟨e, g1, g2, g3, b1, g4.le mx.1, g5.le mx.2⟩)))⟩⟩
    · exact ⟨k1, h1, h2, .inr ⟨ht, .inr (.inr (.inr (.inr (.inl ⟨e, g1, g2, g3, g4⟩))))⟩⟩
    · obtain ⟨k2, g5⟩ := SeqS.fuel g5
      obtain ⟨k3, g7⟩ := SeqS.fuel g7
      exact ⟨max k1 (max k2 k3), h1, h2, .inr ⟨ht, .inr (.inr (.inr (.inr (.inr (.inl ⟨e, g1, b1, l, h1', b2, l2, h2', x1, x2, g2, g3.le mx.1, g4, g5.imp fun _ _ _ _ _ _ g => g.le (Nat.le_trans mx.1 mx.2), g6, g7.imp fun _ _ _ _ _ _ g => g.le (Nat.le_trans mx.2 mx.2)⟩)))))⟩⟩
    · obtain ⟨k2, g5⟩ := SeqS.fuel g5
      exact ⟨max k1 k2, h1, h2, .inr ⟨ht, .inr (.inr (.inr (.inr (.inr (.inr (.inl ⟨e, g1, b1, l, h1', x1, g2, g3.le mx.1, g4, g5.imp fun _ _ _ _ _ _ g => g.le mx.2⟩))))))⟩⟩
    · obtain ⟨k1, g7⟩ := SeqE.fuel (W := fun _ => 120) g7
      obtain ⟨k2, g9⟩ := SeqS.fuel g9
      exact ⟨max k1 k2, h1, h2, .inr ⟨ht, .inr (.inr (.inr (.inr (.inr (.inr (.inr (.inl ⟨e, g1, g2, g3, l0, h0, b0, l, h1', x1, g4, g5, g6, g7.imp fun _ _ _ _ _ g => g.le mx.1, g8, g9.imp fun _ _ _ _ _ _ g => g.le mx.2⟩)))))))⟩⟩
    · obtain ⟨k2, g9⟩ := SeqS.fuel g9
      exact ⟨max k1 k2, h1, h2, .inr ⟨ht, .inr (.inr (.inr (.inr (.inr (.inr (.inr (.inr (.inl ⟨e, g1, g2, g3, g4, g5, b0, l, h1', x1, g6, g7.le mx.1, g8, g9.imp fun _ _ _ _ _ _ g => g.le mx.2⟩))))))))⟩⟩
    · rcases g2 with z | ⟨z1, z2, k1, z3⟩ | ⟨z1, b1, ⟨k1, z2⟩, ⟨k2, z3⟩⟩
      · exact ⟨0, h1, h2, .inr ⟨ht, .inr (.inr (.inr (.inr (.inr (.inr (.inr (.inr (.inr (.inl ⟨e, g1, .inl z⟩)))))))))⟩⟩
      · exact ⟨k1, h1, h2, .inr ⟨ht, .inr (.inr (.inr (.inr (.inr (.inr (.inr (.inr (.inr (.inl ⟨e, g1, .inr (.inl ⟨z1, z2, z3⟩)⟩)))))))))⟩⟩
      · exact ⟨max k1 k2, h1, h2, .inr ⟨ht, .inr (.inr (.inr (.inr (.inr (.inr (.inr (.inr (.inr (.inl ⟨e, g1, .inr (.inr ⟨z1, b1, z2.le mx.1, z3.le mx.2⟩)⟩)))))))))⟩⟩
    · exact ⟨0, h1, h2, .inr ⟨ht, .inr (.inr (.inr (.inr (.inr (.inr (.inr (.inr (.inr (.inr g)))))))))⟩⟩
end
end Go.Proofs.Qxb6500574aGreatDoor
