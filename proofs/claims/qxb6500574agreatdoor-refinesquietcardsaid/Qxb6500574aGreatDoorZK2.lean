/-
  moon: THE PARSER's COUNTERS ARE PAID BY TOKENS, as the model reads. Plain; no memory, no walk.
-/
import Derived.Test.Qxb6500574aGreatDoorZK1
namespace Go.Proofs.Qxb6500574aGreatDoor
set_option linter.unusedVariables false
set_option linter.unusedSimpArgs false
/-- what is alive, open, numbered has been paid -/
structure LTz (s s' : PSt) : Prop where
  i : s.i ≤ s'.i
  al : s'.alive + 4 * s.i ≤ s.alive + 4 * s'.i
  lo : s'.loops = s.loops
  fu : s'.funcs + s.i ≤ s.funcs + s'.i
def LRz (s : PSt) (R : PR) : Prop := ∀ v s', R = .inr (v, s') → LTz s s'
section
variable {T : List Tok} {s s1 s2 : PSt} {R : PR} {f : List Nat → PSt → PR}
theorem LTz.refl (s : PSt) : LTz s s := ⟨Nat.le_refl _, Nat.le_refl _, rfl, Nat.le_refl _⟩
theorem LTz.trans (h : LTz s s1) (g : LTz s1 s2) : LTz s s2 := ⟨by have := h.i; have := g.i; omega, by have := h.al; have := g.al; omega, g.lo.trans h.lo, by have := h.fu; have := g.fu; omega⟩
theorem LTz.nxt (h : LTz s s1) : LTz s s1.nxt := ⟨by have := h.i; show _ ≤ s1.i + 1; omega, by have := h.al; show s1.alive + _ ≤ _ + 4 * (s1.i + 1); omega, h.lo, by have := h.fu; show s1.funcs + _ ≤ _ + (s1.i + 1); omega⟩
theorem LTz.add (h : LTz s s1) (d : Nd) : LTz s (s1.add d) := ⟨h.i, h.al, h.lo, h.fu⟩
theorem LTz.link (h : LTz s s1) (l x : Nat) : LTz s (s1.link l x) := by
  obtain ⟨a, b, c, d⟩ := link_same s1 l x
  exact ⟨by rw [a]; exact h.i, by rw [a, b]; exact h.al, by rw [c]; exact h.lo, by rw [a, d]; exact h.fu⟩
theorem LRz.inr (v : List Nat) (h : LTz s s1) : LRz s (.inr (v, s1)) := fun u s' e => by cases e; exact h
theorem LRz.ok (h : LTz s s1) (d : Nd) : LRz s (okP s1 d) := fun u s' e => by cases e; exact h.add d
theorem LRz.fail (s1 : PSt) (e : Nat) : LRz s (failP T s1 e) := fun u s' z => by cases z
theorem LRz.bind (h : LRz s1 R) (g : ∀ v s2, LTz s1 s2 → LRz s (f v s2)) : LRz s (PBd R f) := fun u s' e => by
  cases R with
  | inl y => cases e
  | inr x => exact g x.1 x.2 (h x.1 x.2 rfl) u s' e
theorem LRz.ite {p : Prop} [Decidable p] {a b : PR} (h : LRz s a) (g : LRz s b) : LRz s (if p then a else b) := by
  split
  · exact h
  · exact g
theorem LRz.expect {k : Nat} {f : PSt → PR} (h : LRz s (f s1.nxt)) : LRz s (expectP T s1 k f) := by
  unfold expectP
  exact LRz.ite h (LRz.fail _ _)
theorem LRz.name {k : Nat} {f : Tok → PSt → PR} (h : LRz s (f (curT T s1) s1.nxt)) : LRz s (nameP T s1 k f) := by
  unfold nameP
  exact LRz.ite (LRz.fail _ _) (LRz.ite (LRz.fail _ _) h)
theorem LRz.of (h : LTz s s1) (g : LRz s1 R) : LRz s R := fun v s' e => h.trans (g v s' e)
end
set_option maxHeartbeats 4000000 in
theorem par_lt {T : List Tok} : ∀ (n task room : Nat) (x : List Nat) (s : PSt), (task = 15 → x.getD 0 0 ≤ 4) → LRz s (parM T n task room x s) := by
  intro n
  induction n with
  | zero => intro task room x s _ v s' h; cases h
  | succ n ih =>
    intro task room x s h15
    have ih' : ∀ {s0 : PSt} (task room : Nat) (x : List Nat) (s1 : PSt), LTz s0 s1 → task ≠ 15 → LRz s0 (parM T n task room x s1) := fun task room x s1 h ht => LRz.of h (ih task room x s1 (fun e => absurd e ht))
    have ih15 : ∀ {s0 : PSt} (room y : Nat) (s1 : PSt), LTz s0 s1 → y ≤ 4 → LRz s0 (parM T n 15 room [y] s1) := fun room y s1 h hy => LRz.of h (ih 15 room [y] s1 (fun _ => hy))
    have bd : ∀ {s0 s1 : PSt} {task room : Nat} {x : List Nat} {f : List Nat → PSt → PR}, task ≠ 15 → (∀ v s2, LTz s1 s2 → LRz s0 (f v s2)) → LRz s0 (PBd (parM T n task room x s1) f) := fun ht g => LRz.bind (ih _ _ _ _ (fun e => absurd e ht)) g
    have bd15 : ∀ {s0 s1 : PSt} {room y : Nat} {f : List Nat → PSt → PR}, y ≤ 4 → (∀ v s2, LTz s1 s2 → LRz s0 (f v s2)) → LRz s0 (PBd (parM T n 15 room [y] s1) f) := fun hy g => LRz.bind (ih _ _ _ _ (fun _ => hy)) g
    have r0 := LTz.refl s
    unfold parM
    dsimp only
    by_cases t0 : task = 0
    · rw [if_pos t0]
      refine LRz.ite (bd (by decide) fun v s1 h1 => LRz.ite (bd (by decide) fun u s2 h2 => LRz.ok ((h1.nxt).trans h2) _) (LRz.inr _ h1)) (LRz.ite (bd (by decide) fun v s1 h1 => LRz.inr _ h1) (bd (by decide) fun v s1 h1 => ih' _ _ _ _ h1 (by decide)))
    rw [if_neg t0]
    by_cases t1 : task = 1
    · rw [if_pos t1]
      exact LRz.ite (bd (by decide) fun v s1 h1 => ih' _ _ _ _ ((r0.nxt.trans h1).add _) (by decide)) (LRz.inr _ r0)
    rw [if_neg t1]
    by_cases t2 : task = 2
    · rw [if_pos t2]
      exact LRz.ite (LRz.fail _ _) (LRz.ite (bd (by decide) fun v s1 h1 => LRz.ok (r0.nxt.trans h1) _) (ih' _ _ _ _ r0 (by decide)))
    rw [if_neg t2]
    by_cases t3 : task = 3
    · rw [if_pos t3]
      exact LRz.ite (LRz.fail _ _) (bd (by decide) fun v s1 h1 => ih' _ _ _ _ h1 (by decide))
    rw [if_neg t3]
    by_cases t4 : task = 4
    · rw [if_pos t4]
      refine LRz.ite (LRz.name (ih' _ _ _ _ ((r0.nxt.nxt.add _).add _) (by decide))) (LRz.ite (bd (by decide) fun v s1 h1 => LRz.expect (ih' _ _ _ _ ((r0.nxt.trans h1).nxt.add _) (by decide))) (LRz.ite (bd (by decide) fun v s1 h1 => ih' _ _ _ _ ((r0.nxt.trans h1).add _) (by decide)) (LRz.inr _ r0)))
    rw [if_neg t4]
    by_cases t5 : task = 5
    · rw [if_pos t5]
      refine LRz.ite (LRz.ok r0.nxt _) (LRz.ite (LRz.ok r0.nxt _) (LRz.ite (LRz.ok r0.nxt _) (LRz.ite (LRz.ok r0.nxt _) (LRz.ite (LRz.ok r0.nxt _) (LRz.ite (LRz.ok r0.nxt _) (LRz.ite (bd (by decide) fun v s1 h1 => LRz.expect (LRz.inr _ (r0.nxt.trans h1).nxt)) (LRz.ite (LRz.ite (LRz.fail _ _) (ih' _ _ _ _ r0.nxt (by decide))) (LRz.ite (bd (by decide) fun v s1 h1 => LRz.ok (r0.nxt.trans h1) _) (LRz.fail _ _)))))))))
    rw [if_neg t5]
    by_cases t6 : task = 6
    · rw [if_pos t6]
      refine LRz.ite (LRz.inr _ r0.nxt) ?_
      have go : ∀ s1, LTz s s1 → LRz s (if x.getD 1 0 ≠ 0 ∧ x.getD 2 0 + 1 = x.getD 1 0 then failP T s1 19 else PBd (parM T n 0 room [1] s1) fun v s => parM T n 6 room [x.getD 0 0, x.getD 1 0, x.getD 2 0 + 1, if x.getD 4 0 = 0 then v.getD 0 0 else x.getD 3 0, v.getD 0 0] (s.link (x.getD 4 0) (v.getD 0 0))) := fun s1 h => LRz.ite (LRz.fail _ _) (bd (by decide) fun v s2 h2 => ih' _ _ _ _ ((h.trans h2).link _ _) (by decide))
      exact LRz.ite (LRz.expect (go _ r0.nxt)) (go _ r0)
    rw [if_neg t6]
    by_cases t7 : task = 7
    · rw [if_pos t7]
      refine LRz.expect (bd (by decide) fun v s1 h1 => bd (by decide) fun u s2 h2 => LRz.expect (LRz.ok ?_ _))
      have h1 : LTz { s.nxt with funcs := s.nxt.funcs + 1 } s1 := h1
      have i1 : s.i + 1 ≤ s1.i := h1.i
      have i2 : s1.i ≤ s2.i := h2.i
      have f1 : s1.funcs + (s.i + 1) ≤ s.funcs + 1 + s1.i := h1.fu
      have f2 : s2.funcs + s1.i ≤ s1.funcs + s2.i := h2.fu
      exact ⟨by show s.i ≤ s2.i + 1; omega, by show s.alive + _ ≤ _ + 4 * (s2.i + 1); omega, rfl, by show s2.funcs + _ ≤ _ + (s2.i + 1); omega⟩
    rw [if_neg t7]
    by_cases t8 : task = 8
    · rw [if_pos t8]
      refine LRz.ite (LRz.inr _ r0.nxt) ?_
      have go : ∀ s1, LTz s s1 → LRz s (if x.getD 0 0 = 3 then failP T s1 19 else nameP T s1 0 fun m s => parM T n 8 room [x.getD 0 0 + 1, if x.getD 2 0 = 0 then s.nodes.length else x.getD 1 0, s.nodes.length] ((s.add ⟨17, 0, 0, 0, 0, 0, m.s, m.p⟩).link (x.getD 2 0) s.nodes.length)) := fun s1 h => LRz.ite (LRz.fail _ _) (LRz.name (ih' _ _ _ _ ((h.nxt.add _).link _ _) (by decide)))
      exact LRz.ite (LRz.expect (go _ r0.nxt)) (go _ r0)
    rw [if_neg t8]
    by_cases t9 : task = 9
    · rw [if_pos t9]
      refine LRz.ite (LRz.fail _ _) (bd (by decide) fun v s1 h1 => LRz.inr _ ⟨h1.i, ?_, h1.lo, h1.fu⟩)
      have := h1.i
      show s.alive + 4 * s.i ≤ s.alive + 4 * s1.i
      omega
    rw [if_neg t9]
    by_cases t10 : task = 10
    · rw [if_pos t10]
      exact LRz.ite (LRz.inr _ r0) (LRz.ite (LRz.fail _ _) (bd (by decide) fun v s1 h1 => ih' _ _ _ _ (h1.link _ _) (by decide)))
    rw [if_neg t10]
    by_cases t11 : task = 11
    · rw [if_pos t11]
      refine LRz.ite (ih' _ _ _ _ r0.nxt (by decide)) (LRz.ite (ih' _ _ _ _ r0 (by decide)) (LRz.ite (ih' _ _ _ _ r0.nxt (by decide)) (LRz.ite (bd (by decide) fun v s1 h1 => bd15 (by decide) fun u s2 h2 => LRz.ok ((r0.nxt.trans h1).trans h2) _) (LRz.ite (LRz.ite (LRz.fail _ _) (LRz.ok r0.nxt _)) (LRz.ite (ih' _ _ _ _ r0.nxt (by decide)) (bd (by decide) fun v s1 h1 => LRz.ite (LRz.ite (LRz.ok h1 _) (LRz.fail _ _)) (LRz.ite (LRz.fail _ _) (bd (by decide) fun u s2 h2 => LRz.ok (h1.nxt.trans h2) _))))))))
    rw [if_neg t11]
    have up : ∀ {s0 s1 : PSt} (c : Nat), LTz s0 s1 → s1.alive + c + 4 * s0.i ≤ s0.alive + 4 * s1.i → LTz s0 { s1 with alive := s1.alive + c } := fun c h e => ⟨h.i, e, h.lo, h.fu⟩
    by_cases t12 : task = 12
    · rw [if_pos t12]
      refine LRz.ite (LRz.ite (LRz.fail _ _) (LRz.name (bd (by decide) fun v s1 h1 => LRz.ok ?_ _))) (LRz.name (LRz.ite (LRz.name (LRz.expect (bd (by decide) fun v s1 h1 => LRz.ite (LRz.fail _ _) (LRz.ok (up 2 ?_ ?_) _)))) (LRz.ite (bd (by decide) fun v s1 h1 => LRz.ok (up 1 ?_ ?_) _) (LRz.ok (up 1 r0.nxt ?_) _))))
      · have h1 : LTz { s.nxt.nxt with alive := s.nxt.nxt.alive + 1 } s1 := h1
        exact ⟨by have := h1.i; simp only [PSt.nxt] at this; omega, by have := h1.al; simp only [PSt.nxt] at this; omega, h1.lo, by have := h1.fu; simp only [PSt.nxt] at this; omega⟩
      · exact (((r0.nxt.nxt.nxt.nxt).add _).add _).trans h1
      · have b := h1.al
        simp only [PSt.nxt, PSt.add] at b
        omega
      · exact r0.nxt.nxt.trans h1
      · have b := h1.al
        simp only [PSt.nxt, PSt.add] at b
        omega
      · show s.alive + 1 + 4 * s.i ≤ s.alive + 4 * (s.i + 1)
        omega
    rw [if_neg t12]
    by_cases t13 : task = 13
    · rw [if_pos t13]
      refine bd (by decide) fun v s1 h1 => LRz.expect (bd (by decide) fun u s2 h2 => LRz.ite (bd (by decide) fun z s3 h3 => LRz.ok ?_ _) (LRz.ite (bd (by decide) fun z s3 h3 => LRz.expect (LRz.ok ?_ _)) (LRz.expect (LRz.ok ?_ _))))
      · exact ((r0.nxt.trans h1).nxt.trans h2).trans h3
      · exact (((r0.nxt.trans h1).nxt.trans h2).nxt.trans h3).nxt
      · exact ((r0.nxt.trans h1).nxt.trans h2).nxt
    rw [if_neg t13]
    by_cases t14 : task = 14
    · rw [if_pos t14]
      refine LRz.name (LRz.ite (LRz.name (LRz.expect (bd (by decide) fun v s1 h1 => bd15 (by decide) fun u s2 h2 => LRz.ok ?_ _))) (LRz.expect (bd (by decide) fun v s1 h1 => LRz.expect (bd (by decide) fun u s2 h2 => LRz.ite (bd (by decide) fun z s3 h3 => bd15 (by decide) fun q s4 h4 => LRz.ok ?_ _) (bd15 (by decide) fun q s4 h4 => LRz.ok ?_ _)))))
      · exact ((((r0.nxt.nxt.nxt.nxt).add _).add _).trans h1).trans h2
      · exact ((((((r0.nxt.nxt.trans h1).nxt.trans h2).link _ _).nxt.trans h3).link _ _).trans h4)
      · exact ((((r0.nxt.nxt.trans h1).nxt.trans h2).link _ _).trans h4)
    rw [if_neg t14]
    by_cases t15 : task = 15
    · rw [if_pos t15]
      have h4 := h15 t15
      refine LRz.expect (bd (by decide) fun v s1 h1 => LRz.expect (LRz.inr _ ?_))
      exact ⟨by have := h1.i; simp only [PSt.nxt] at this ⊢; omega, by have := h1.al; simp only [PSt.nxt] at this ⊢; omega, by have := h1.lo; simp only [PSt.nxt] at this ⊢; omega, by have := h1.fu; simp only [PSt.nxt] at this ⊢; omega⟩
    rw [if_neg t15]
    exact LRz.ite (LRz.ok r0 _) (bd (by decide) fun v s1 h1 => LRz.ite (bd (by decide) fun u s2 h2 => LRz.ok (h1.nxt.trans h2) _) (LRz.ok h1 _))
end Go.Proofs.Qxb6500574aGreatDoor
