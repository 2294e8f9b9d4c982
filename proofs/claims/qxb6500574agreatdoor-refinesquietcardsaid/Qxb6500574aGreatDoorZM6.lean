/-
  moon: HOW COMPILED CODE LIES, for some number of steps. Plain; no memory, no walk.
-/
import Derived.Test.Qxb6500574aGreatDoorZM5
import Derived.Test.Qxb6500574aGreatDoorWLt6
namespace Go.Proofs.Qxb6500574aGreatDoor
set_option linter.unusedVariables false
set_option linter.unusedSimpArgs false
theorem Exprs.imp {R R' : LR} (h : ∀ {task E n p s L' lb ex}, R task E n p s L' lb ex → R' task E n p s L' lb ex) {E : En} : ∀ {l : List Nat} {p : Nat} {s : List In}, Exprs R E l p s → Exprs R' E l p s
  | [], _, _, g => g
  | x :: l, p, s, ⟨s1, s2, g1, g2, g3⟩ => ⟨s1, s2, g1, h g2, Exprs.imp h g3⟩
theorem Items.imp {R R' : LR} (h : ∀ {task E n p s L' lb ex}, R task E n p s L' lb ex → R' task E n p s L' lb ex) {E : En} : ∀ {l : List Nat} {i p : Nat} {s : List In}, Items R E l i p s → Items R' E l i p s
  | [], _, _, _, g => g
  | x :: l, i, p, s, ⟨s1, s2, g1, g2, g3⟩ => ⟨s1, s2, g1, h g2, Items.imp h g3⟩
theorem Stmts.imp {R R' : LR} (h : ∀ {task E n p s L' lb ex}, R task E n p s L' lb ex → R' task E n p s L' lb ex) {f : Nat} {r : En} {lb ex : Nat} : ∀ {l : List Nat} {L : List Bs} {p : Nat} {s : List In} {L' : List Bs}, Stmts R f r lb ex l L p s L' → Stmts R' f r lb ex l L p s L'
  | [], _, _, _, _, g => g
  | x :: l, L, p, s, L', ⟨s1, s2, L1, g1, g2, g3⟩ => ⟨s1, s2, L1, g1, h g2, Stmts.imp h g3⟩
theorem FnR.imp {N : List Nd} {D : CmD} {R R' : LR} (h : ∀ {task E n p s L' lb ex}, R task E n p s L' lb ex → R' task E n p s L' lb ex) {f : Nat} {L : List Bs} {r : En} {d : Nd} (g : FnR N D R f L r d) : FnR N D R' f L r d := by
  obtain ⟨l, s1, g1, g2, g3⟩ := g
  exact ⟨l, s1, g1, h g2, g3⟩
theorem LayB.imp {N : List Nd} {D : CmD} {R R' : LR} (ih : ∀ {task E n p s L' lb ex}, R task E n p s L' lb ex → R' task E n p s L' lb ex) {task f : Nat} {L : List Bs} {r : En} {n p : Nat} {s : List In} {L' : List Bs} {lb ex : Nat} (h : LayB N D R task f L r n p s L' lb ex) : LayB N D R' task f L r n p s L' lb ex := by
  unfold LayB at h ⊢
  dsimp only at h ⊢
  rcases h with ⟨ht, h⟩ | ⟨ht, l, s1, s2, g1, g2, g3, g4⟩ | ⟨ht, g0, l, s1, L1, g1, g2, g3, g4⟩ | ⟨ht, h⟩
  · refine .inl ⟨ht, ?_⟩
    rcases h with g | g | g | g | g | g | ⟨k, s1, s2, g1, g2, g3⟩ | ⟨k, s1, g1, g2⟩ | ⟨k, g1, g2⟩ | ⟨k, l, s1, g1, g2, g3⟩ | ⟨k, s1, s2, g1, g2, g3⟩ | ⟨k, s1, g1, g2⟩ | ⟨k, s1, s2, g1, g2, g3⟩
    · exact .inl g
    · exact .inr (.inl g)
    · exact .inr (.inr (.inl g))
    · exact .inr (.inr (.inr (.inl g)))
    · exact .inr (.inr (.inr (.inr (.inl g))))
    · exact .inr (.inr (.inr (.inr (.inr (.inl g)))))
    · exact .inr (.inr (.inr (.inr (.inr (.inr (.inl ⟨k, s1, s2, g1, ih g2, ih g3⟩))))))
    · exact .inr (.inr (.inr (.inr (.inr (.inr (.inr (.inl ⟨k, s1, g1, ih g2⟩)))))))
    · exact .inr (.inr (.inr (.inr (.inr (.inr (.inr (.inr (.inl ⟨k, g1, g2.imp ih⟩))))))))
    · exact .inr (.inr (.inr (.inr (.inr (.inr (.inr (.inr (.inr (.inl ⟨k, l, s1, g1, g2, g3.imp ih⟩)))))))))
    · exact .inr (.inr (.inr (.inr (.inr (.inr (.inr (.inr (.inr (.inr (.inl ⟨k, s1, s2, g1, ih g2, ih g3⟩))))))))))
    · exact .inr (.inr (.inr (.inr (.inr (.inr (.inr (.inr (.inr (.inr (.inr (.inl ⟨k, s1, g1, ih g2⟩)))))))))))
    · exact .inr (.inr (.inr (.inr (.inr (.inr (.inr (.inr (.inr (.inr (.inr (.inr ⟨k, s1, s2, g1, ih g2, ih g3⟩)))))))))))
  · exact .inr (.inl ⟨ht, l, s1, s2, g1, g2, ih g3, g4.imp ih⟩)
  · exact .inr (.inr (.inl ⟨ht, g0, l, s1, L1, g1, g2, g3, g4.imp ih⟩))
  · refine .inr (.inr (.inr ⟨ht, ?_⟩))
    rcases h with ⟨k, a1, a2, s1, g1, g2⟩ | ⟨k, a1, a2, s1, g1, g2⟩ | ⟨k, a1, a2, s1, g1, g2⟩ | ⟨k, a1, g⟩ | ⟨k, a1, s1, g1, g2⟩ | ⟨k, a1, s1, s2, s3, g1, g2, g3, g4⟩ | ⟨k, a1, s1, s2, g1, g2, g3⟩ | ⟨k, a1, a2, s1, s2, s3, s4, h, e, g1, g2, g3, g4, g5, g6, g7⟩ | ⟨k, a1, a2, s1, s2, h, e, g1, g2, g3, g4, g5⟩ | ⟨k, a1, s1, s2, g1, g2, g3⟩ | g
    · exact .inl ⟨k, a1, a2, s1, g1, ih g2⟩
    · exact .inr (.inl ⟨k, a1, a2, s1, g1, ih g2⟩)
    · exact .inr (.inr (.inl ⟨k, a1, a2, s1, g1, ih g2⟩))
    · refine .inr (.inr (.inr (.inl ⟨k, a1, ?_⟩)))
      rcases g with ⟨g1, s1, i, g2, g3, g4⟩ | ⟨g1, s1, s2, s3, g2, g3, g4, g5⟩
      · exact .inl ⟨g1, s1, i, g2, ih g3, g4⟩
      · exact .inr ⟨g1, s1, s2, s3, g2, ih g3, ih g4, ih g5⟩
    · exact .inr (.inr (.inr (.inr (.inl ⟨k, a1, s1, g1, ih g2⟩))))
    · exact .inr (.inr (.inr (.inr (.inr (.inl ⟨k, a1, s1, s2, s3, g1, ih g2, ih g3, ih g4⟩)))))
    · exact .inr (.inr (.inr (.inr (.inr (.inr (.inl ⟨k, a1, s1, s2, g1, ih g2, ih g3⟩))))))
    · refine .inr (.inr (.inr (.inr (.inr (.inr (.inr (.inl ⟨k, a1, a2, s1, s2, s3, s4, h, e, g1, g2, g3, ih g4, ih g5, ?_, ih g7⟩)))))))
      rcases g6 with ⟨z1, z2⟩ | z
      · exact .inl ⟨z1, ih z2⟩
      · exact .inr z
    · exact .inr (.inr (.inr (.inr (.inr (.inr (.inr (.inr (.inl ⟨k, a1, a2, s1, s2, h, e, g1, g2, g3, ih g4, ih g5⟩))))))))
    · exact .inr (.inr (.inr (.inr (.inr (.inr (.inr (.inr (.inr (.inl ⟨k, a1, s1, s2, g1, ih g2, ih g3⟩)))))))))
    · exact .inr (.inr (.inr (.inr (.inr (.inr (.inr (.inr (.inr (.inr g)))))))))
/-- how code lies, for some number of steps -/
def Lay (N : List Nd) (D : CmD) : LR := fun task E n p s L' lb ex => ∃ k, LayN N D k task E n p s L' lb ex
theorem Lay.out {N : List Nd} {D : CmD} {task f : Nat} {L : List Bs} {r : En} {n p : Nat} {s : List In} {L' : List Bs} {lb ex : Nat} (h : Lay N D task ((f, L) :: r) n p s L' lb ex) : LayB N D (Lay N D) task f L r n p s L' lb ex := by
  obtain ⟨k, h⟩ := h
  cases k with
  | zero => exact h.elim
  | succ k => exact LayB.imp (R := LayN N D k) (fun g => ⟨k, g⟩) h
end Go.Proofs.Qxb6500574aGreatDoor
