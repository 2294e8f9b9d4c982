/-
  moon: THE PARSER HAS STEPS ENOUGH. Plain; no memory, no walk.
-/
import Derived.Test.Qxb6500574aGreatDoorWPar10
namespace Go.Proofs.Qxb6500574aGreatDoor
set_option linter.unusedVariables false
set_option linter.unusedSimpArgs false
theorem link_i (s : PSt) (l x : Nat) : (s.link l x).i = s.i := (link_same s l x).1
theorem cur_lt {T : List Tok} {s : PSt} (h : (curT T s).k ≠ 0) : s.i < T.length := by
  refine Decidable.byContradiction fun hn => h ?_
  unfold curT
  rw [List.getD_eq_getElem?_getD, List.getElem?_eq_none (by omega)]
  rfl
/-- tasks that pass a token at least -/
def strict (task : Nat) : Bool := task == 0 || task == 2 || task == 3 || task == 5 || task == 6 || task == 7 || task == 8 || task == 11 || task == 12 || task == 13 || task == 14 || task == 15
def Pg (task : Nat) (s s' : PSt) : Prop := s.i ≤ s'.i ∧ (strict task = true → s.i < s'.i)
theorem expectP_out {T : List Tok} {s : PSt} {k : Nat} {f : PSt → PR} {x : List Nat × PSt} (h : expectP T s k f = .inr x) : (curT T s).k = k ∧ f s.nxt = .inr x := by
  unfold expectP at h
  split at h
  · rename_i hk; exact ⟨hk, h⟩
  · exact (failP_inr h).elim
theorem nameP_out {T : List Tok} {s : PSt} {e : Nat} {f : Tok → PSt → PR} {x : List Nat × PSt} (h : nameP T s e f = .inr x) : (curT T s).k = 2 ∧ f (curT T s) s.nxt = .inr x := by
  unfold nameP at h
  split at h
  · exact (failP_inr h).elim
  · split at h
    · exact (failP_inr h).elim
    · exact ⟨by omega, h⟩
theorem nxt_i (s : PSt) : s.nxt.i = s.i + 1 := rfl
theorem add_i (s : PSt) (d : Nd) : (s.add d).i = s.i := rfl
section
variable {T : List Tok}
set_option maxHeartbeats 4000000 in
theorem par_pr : ∀ (n task room : Nat) (x : List Nat) (s : PSt) (r : List Nat × PSt), parN T n task room x s = .inr r → Pg task s r.2 := by
  intro n
  induction n with
  | zero => intro task room x s r h; cases h
  | succ n ih =>
    intro task room x s r h
    have P : ∀ {task room x s v s'}, parN T n task room x s = .inr (v, s') → s.i ≤ s'.i ∧ (strict task = true → s.i < s'.i) := fun h => ih _ _ _ _ _ h
    unfold parN at h
    dsimp only at h
    by_cases t0 : task = 0
    · subst t0
      simp (config := {decide := true}) only [if_true, if_false] at h
      obtain ⟨v, s1, h1, h2⟩ := PB_inr h
      have a1 := P h1
      have a2 := ih _ _ _ _ _ h2
      have := a1.2 rfl
      exact ⟨by have := a2.1; omega, fun _ => by have := a2.1; omega⟩
    rw [if_neg t0] at h
    by_cases t1 : task = 1
    · subst t1
      rw [if_pos rfl] at h
      split at h
      · cases h; exact ⟨Nat.le_refl _, fun e => by cases e⟩
      · split at h
        · cases h; exact ⟨Nat.le_refl _, fun e => by cases e⟩
        · obtain ⟨v, s2, h1, h2⟩ := PB_inr h
          have a2 := (ih _ _ _ _ _ h2).1
          have a1 : s.i + 1 ≤ s2.i := by
            split at h1
            · exact (P h1).1
            · exact (P h1).1
          rw [add_i] at a2
          exact ⟨by omega, fun e => by cases e⟩
    rw [if_neg t1] at h
    by_cases t2 : task = 2
    · subst t2
      rw [if_pos rfl] at h
      split at h
      · exact (failP_inr h).elim
      · split at h
        · obtain ⟨v, s2, h1, h2⟩ := PB_inr h
          have a1 := (P h1).1
          rw [okP_inr h2]
          rw [nxt_i] at a1
          exact ⟨by show s.i ≤ s2.i; omega, fun _ => by show s.i < s2.i; omega⟩
        · exact ⟨(ih _ _ _ _ _ h).1, fun _ => (ih _ _ _ _ _ h).2 rfl⟩
    rw [if_neg t2] at h
    by_cases t3 : task = 3
    · subst t3
      rw [if_pos rfl] at h
      split at h
      · exact (failP_inr h).elim
      · obtain ⟨v, s1, h1, h2⟩ := PB_inr h
        have a1 := (P h1).2 rfl
        have a2 := (ih _ _ _ _ _ h2).1
        exact ⟨by omega, fun _ => by omega⟩
    rw [if_neg t3] at h
    by_cases t4 : task = 4
    · subst t4
      rw [if_pos rfl] at h
      split at h
      · obtain ⟨_, h⟩ := nameP_out h
        have a := (ih _ _ _ _ _ h).1
        simp only [add_i, nxt_i] at a
        exact ⟨by omega, fun e => by cases e⟩
      · split at h
        · obtain ⟨v, s1, h1, h2⟩ := PB_inr h
          obtain ⟨_, h2⟩ := expectP_out h2
          have a1 := (P h1).1
          have a2 := (ih _ _ _ _ _ h2).1
          simp only [add_i, nxt_i] at a1 a2
          exact ⟨by omega, fun e => by cases e⟩
        · split at h
          · obtain ⟨v, s1, h1, h2⟩ := PB_inr h
            have a1 := (P h1).1
            have a2 := (ih _ _ _ _ _ h2).1
            simp only [add_i, nxt_i] at a1 a2
            exact ⟨by omega, fun e => by cases e⟩
          · cases h; exact ⟨Nat.le_refl _, fun e => by cases e⟩
    rw [if_neg t4] at h
    by_cases t5 : task = 5
    · subst t5
      rw [if_pos rfl] at h
      have leaf : ∀ {d}, okP s.nxt d = .inr r → Pg 5 s r.2 := fun h => by
        rw [okP_inr h]
        exact ⟨by show s.i ≤ s.i + 1; omega, fun _ => by show s.i < s.i + 1; omega⟩
      split at h
      · exact leaf h
      split at h
      · exact leaf h
      split at h
      · exact leaf h
      split at h
      · exact leaf h
      split at h
      · exact leaf h
      split at h
      · exact leaf h
      split at h
      · obtain ⟨v, s1, h1, h2⟩ := PB_inr h
        obtain ⟨_, h2⟩ := expectP_out h2
        have a1 := (P h1).1
        cases h2
        rw [nxt_i] at a1
        exact ⟨by show s.i ≤ s1.i + 1; omega, fun _ => by show s.i < s1.i + 1; omega⟩
      split at h
      · split at h
        · exact (failP_inr h).elim
        · have a := (ih _ _ _ _ _ h).1
          rw [nxt_i] at a
          exact ⟨by omega, fun _ => by omega⟩
      split at h
      · obtain ⟨v, s1, h1, h2⟩ := PB_inr h
        have a1 := (P h1).1
        rw [okP_inr h2]
        rw [nxt_i] at a1
        exact ⟨by show s.i ≤ s1.i; omega, fun _ => by show s.i < s1.i; omega⟩
      exact (failP_inr h).elim
    rw [if_neg t5] at h
    by_cases t6 : task = 6
    · subst t6
      rw [if_pos rfl] at h
      split at h
      · cases h; exact ⟨by show s.i ≤ s.i + 1; omega, fun _ => by show s.i < s.i + 1; omega⟩
      · have key : ∀ t : PSt, s.i ≤ t.i → (if x.getD 1 0 ≠ 0 ∧ x.getD 2 0 + 1 = x.getD 1 0 then failP T t 19 else PBd (parN T n 0 room [1] t) fun v s =>
          parN T n 6 room [x.getD 0 0, x.getD 1 0, x.getD 2 0 + 1, if x.getD 4 0 = 0 then v.getD 0 0 else x.getD 3 0, v.getD 0 0] (s.link (x.getD 4 0) (v.getD 0 0))) = .inr r → Pg 6 s r.2 := by
          intro t ht h
          split at h
          · exact (failP_inr h).elim
          · obtain ⟨v, s1, h1, h2⟩ := PB_inr h
            have a1 := (P h1).2 rfl
            have a2 := (ih _ _ _ _ _ h2).1
            rw [link_i] at a2
            exact ⟨by omega, fun _ => by omega⟩
        split at h
        · obtain ⟨_, h⟩ := expectP_out h
          exact key _ (by rw [nxt_i]; omega) h
        · exact key _ (Nat.le_refl _) h
    rw [if_neg t6] at h
    by_cases t7 : task = 7
    · subst t7
      rw [if_pos rfl] at h
      obtain ⟨_, h⟩ := expectP_out h
      obtain ⟨v, s1, h1, h⟩ := PB_inr h
      obtain ⟨u, s2, h2, h⟩ := PB_inr h
      obtain ⟨_, h⟩ := expectP_out h
      rw [okP_inr h]
      have a1 := (P h1).1
      have a2 := (P h2).1
      have a1 : s.i + 1 ≤ s1.i := a1
      have a2 : s1.i ≤ s2.i := a2
      exact ⟨by show s.i ≤ s2.i + 1; omega, fun _ => by show s.i < s2.i + 1; omega⟩
    rw [if_neg t7] at h
    by_cases t8 : task = 8
    · subst t8
      rw [if_pos rfl] at h
      split at h
      · cases h; exact ⟨by show s.i ≤ s.i + 1; omega, fun _ => by show s.i < s.i + 1; omega⟩
      · have key : ∀ t : PSt, s.i ≤ t.i → (if x.getD 0 0 = 3 then failP T t 19 else nameP T t 0 fun m s =>
          parN T n 8 room [x.getD 0 0 + 1, if x.getD 2 0 = 0 then s.nodes.length else x.getD 1 0, s.nodes.length] ((s.add ⟨17, 0, 0, 0, 0, 0, m.s, m.p⟩).link (x.getD 2 0) s.nodes.length)) = .inr r → Pg 8 s r.2 := by
          intro t ht h
          split at h
          · exact (failP_inr h).elim
          · obtain ⟨_, h⟩ := nameP_out h
            have a2 := (ih _ _ _ _ _ h).1
            rw [link_i, add_i, nxt_i] at a2
            exact ⟨by omega, fun _ => by omega⟩
        split at h
        · obtain ⟨_, h⟩ := expectP_out h
          exact key _ (by rw [nxt_i]; omega) h
        · exact key _ (Nat.le_refl _) h
    rw [if_neg t8] at h
    by_cases t9 : task = 9
    · subst t9
      rw [if_pos rfl] at h
      split at h
      · exact (failP_inr h).elim
      · obtain ⟨v, s1, h1, h2⟩ := PB_inr h
        cases h2
        exact ⟨(P h1).1, fun e => by cases e⟩
    rw [if_neg t9] at h
    by_cases t10 : task = 10
    · subst t10
      rw [if_pos rfl] at h
      split at h
      · cases h; exact ⟨Nat.le_refl _, fun e => by cases e⟩
      · split at h
        · exact (failP_inr h).elim
        · obtain ⟨v, s1, h1, h2⟩ := PB_inr h
          have a1 := (P h1).1
          have a2 := (ih _ _ _ _ _ h2).1
          rw [link_i] at a2
          exact ⟨by omega, fun e => by cases e⟩
    rw [if_neg t10] at h
    by_cases t11 : task = 11
    · subst t11
      rw [if_pos rfl] at h
      split at h
      · have a := (ih _ _ _ _ _ h).1
        rw [nxt_i] at a
        exact ⟨by omega, fun _ => by omega⟩
      split at h
      · exact ⟨(ih _ _ _ _ _ h).1, fun _ => (ih _ _ _ _ _ h).2 rfl⟩
      split at h
      · have a := (ih _ _ _ _ _ h).1
        rw [nxt_i] at a
        exact ⟨by omega, fun _ => by omega⟩
      split at h
      · obtain ⟨v, s1, h1, h⟩ := PB_inr h
        obtain ⟨u, s2, h2, h⟩ := PB_inr h
        rw [okP_inr h]
        have a1 := (P h1).1
        have a2 := (P h2).1
        rw [nxt_i] at a1
        exact ⟨by show s.i ≤ s2.i; omega, fun _ => by show s.i < s2.i; omega⟩
      split at h
      · split at h
        · exact (failP_inr h).elim
        · rw [okP_inr h]
          exact ⟨by show s.i ≤ s.i + 1; omega, fun _ => by show s.i < s.i + 1; omega⟩
      split at h
      · have a := (ih _ _ _ _ _ h).1
        rw [nxt_i] at a
        exact ⟨by omega, fun _ => by omega⟩
      obtain ⟨v, s1, h1, h⟩ := PB_inr h
      have a1 := (P h1).2 rfl
      split at h
      · split at h
        · rw [okP_inr h]
          exact ⟨by show s.i ≤ s1.i; omega, fun _ => by show s.i < s1.i; omega⟩
        · exact (failP_inr h).elim
      · split at h
        · exact (failP_inr h).elim
        · obtain ⟨u, s2, h2, h⟩ := PB_inr h
          have a2 := (P h2).1
          rw [okP_inr h]
          rw [nxt_i] at a2
          exact ⟨by show s.i ≤ s2.i; omega, fun _ => by show s.i < s2.i; omega⟩
    rw [if_neg t11] at h
    by_cases t12 : task = 12
    · subst t12
      rw [if_pos rfl] at h
      split at h
      · split at h
        · exact (failP_inr h).elim
        · obtain ⟨_, h⟩ := nameP_out h
          obtain ⟨v, s1, h1, h⟩ := PB_inr h
          rw [okP_inr h]
          have a1 := (P h1).1
          have a1 : s.i + 1 + 1 ≤ s1.i := a1
          exact ⟨by show s.i ≤ s1.i; omega, fun _ => by show s.i < s1.i; omega⟩
      · obtain ⟨_, h⟩ := nameP_out h
        split at h
        · obtain ⟨_, h⟩ := nameP_out h
          obtain ⟨_, h⟩ := expectP_out h
          obtain ⟨v, s1, h1, h⟩ := PB_inr h
          have a1 := (P h1).1
          have a1 : s.i + 1 + 1 + 1 + 1 ≤ s1.i := a1
          split at h
          · exact (failP_inr h).elim
          · rw [okP_inr h]
            exact ⟨by show s.i ≤ s1.i; omega, fun _ => by show s.i < s1.i; omega⟩
        · split at h
          · obtain ⟨v, s1, h1, h⟩ := PB_inr h
            have a1 := (P h1).1
            have a1 : s.i + 1 + 1 ≤ s1.i := a1
            rw [okP_inr h]
            exact ⟨by show s.i ≤ s1.i; omega, fun _ => by show s.i < s1.i; omega⟩
          · rw [okP_inr h]
            exact ⟨by show s.i ≤ s.i + 1; omega, fun _ => by show s.i < s.i + 1; omega⟩
    rw [if_neg t12] at h
    by_cases t13 : task = 13
    · subst t13
      rw [if_pos rfl] at h
      obtain ⟨v, s1, h1, h⟩ := PB_inr h
      obtain ⟨_, h⟩ := expectP_out h
      obtain ⟨u, s2, h2, h⟩ := PB_inr h
      have a1 := (P h1).1
      have a2 := (P h2).1
      rw [nxt_i] at a1 a2
      split at h
      · obtain ⟨z, s3, h3, h⟩ := PB_inr h
        have a3 := (P h3).1
        rw [okP_inr h]
        exact ⟨by show s.i ≤ s3.i; omega, fun _ => by show s.i < s3.i; omega⟩
      · split at h
        · obtain ⟨z, s3, h3, h⟩ := PB_inr h
          have a3 := (P h3).1
          rw [nxt_i] at a3
          obtain ⟨_, h⟩ := expectP_out h
          rw [okP_inr h]
          exact ⟨by show s.i ≤ s3.i + 1; omega, fun _ => by show s.i < s3.i + 1; omega⟩
        · obtain ⟨_, h⟩ := expectP_out h
          rw [okP_inr h]
          exact ⟨by show s.i ≤ s2.i + 1; omega, fun _ => by show s.i < s2.i + 1; omega⟩
    rw [if_neg t13] at h
    by_cases t14 : task = 14
    · subst t14
      rw [if_pos rfl] at h
      obtain ⟨_, h⟩ := nameP_out h
      split at h
      · obtain ⟨_, h⟩ := nameP_out h
        obtain ⟨_, h⟩ := expectP_out h
        obtain ⟨v, s1, h1, h⟩ := PB_inr h
        obtain ⟨u, s2, h2, h⟩ := PB_inr h
        have a1 := (P h1).1
        have a1 : s.i + 1 + 1 + 1 + 1 ≤ s1.i := a1
        have a2 := (P h2).1
        rw [okP_inr h]
        exact ⟨by show s.i ≤ s2.i; omega, fun _ => by show s.i < s2.i; omega⟩
      · obtain ⟨_, h⟩ := expectP_out h
        obtain ⟨v, s1, h1, h⟩ := PB_inr h
        obtain ⟨_, h⟩ := expectP_out h
        obtain ⟨u, s2, h2, h⟩ := PB_inr h
        have a1 := (P h1).1
        have a2 := (P h2).1
        have a1 : s.i + 1 + 1 ≤ s1.i := a1
        rw [nxt_i] at a2
        split at h
        · obtain ⟨z, s3, h3, h⟩ := PB_inr h
          obtain ⟨q, s4, h4, h⟩ := PB_inr h
          have a3 := (P h3).1
          have a4 := (P h4).1
          rw [nxt_i, link_i] at a3
          rw [link_i] at a4
          rw [okP_inr h]
          exact ⟨by show s.i ≤ s4.i; omega, fun _ => by show s.i < s4.i; omega⟩
        · obtain ⟨q, s4, h4, h⟩ := PB_inr h
          have a4 := (P h4).1
          rw [link_i] at a4
          rw [okP_inr h]
          exact ⟨by show s.i ≤ s4.i; omega, fun _ => by show s.i < s4.i; omega⟩
    rw [if_neg t14] at h
    by_cases t15 : task = 15
    · subst t15
      rw [if_pos rfl] at h
      obtain ⟨_, h⟩ := expectP_out h
      obtain ⟨v, s1, h1, h⟩ := PB_inr h
      obtain ⟨_, h⟩ := expectP_out h
      have a1 := (P h1).1
      have a1 : s.i + 1 ≤ s1.i := a1
      cases h
      exact ⟨by show s.i ≤ s1.i + 1; omega, fun _ => by show s.i < s1.i + 1; omega⟩
    rw [if_neg t15] at h
    have hs : strict task = false := by
      unfold strict
      simp [t0, t2, t3, t5, t6, t7, t8, t11, t12, t13, t14, t15]
    refine ⟨?_, fun e => by rw [hs] at e; cases e⟩
    split at h
    · rw [okP_inr h]; exact Nat.le_refl _
    · obtain ⟨v, s1, h1, h⟩ := PB_inr h
      have a1 := (P h1).1
      split at h
      · obtain ⟨u, s2, h2, h⟩ := PB_inr h
        have a2 := (P h2).1
        rw [nxt_i] at a2
        rw [okP_inr h]
        show s.i ≤ s2.i
        omega
      · rw [okP_inr h]
        exact a1
end
end Go.Proofs.Qxb6500574aGreatDoor
