/-
  moon: THE PARSER HAS STEPS ENOUGH: it never answers 99. Plain; no memory, no walk.
-/
import Derived.Test.Qxb6500574aGreatDoorWNf
namespace Go.Proofs.Qxb6500574aGreatDoor
set_option linter.unusedVariables false
set_option linter.unusedSimpArgs false
def E14 (T : List Tok) : Prop := ∀ i, (T.getD i tok0).e ≤ 14
def cT (task : Nat) : Nat := match task with
  | 0 => 4 | 1 => 1 | 2 => 3 | 3 => 2 | 4 => 1 | 5 => 1 | 6 => 5 | 7 => 1 | 8 => 1 | 9 => 9 | 10 => 8 | 11 => 7 | 12 => 1 | 13 => 6 | 14 => 1 | 15 => 1 | _ => 5
def x99 : PR := .inl (99, 0)
section
variable {T : List Tok}
theorem PB_nf {r : PR} {f : List Nat → PSt → PR} (h : r ≠ x99) (g : ∀ v s, r = .inr (v, s) → f v s ≠ x99) : PBd r f ≠ x99 := by
  cases r with
  | inl e => exact h
  | inr y => exact g y.1 y.2 rfl
theorem failP_nf (E : E14 T) {s : PSt} {e : Nat} (he : e ≠ 99) : failP T s e ≠ x99 := by
  intro h
  unfold failP x99 at h
  have h := Sum.inl.inj h
  have h := congrArg Prod.fst h
  have := E s.i
  simp only at h
  split at h
  · unfold curT at h; omega
  · exact he h
theorem expectP_nf (E : E14 T) {s : PSt} {k : Nat} {f : PSt → PR} (h : (curT T s).k = k → f s.nxt ≠ x99) : expectP T s k f ≠ x99 := by
  unfold expectP
  split
  · rename_i hk; exact h hk
  · exact failP_nf E (by decide)
theorem nameP_nf (E : E14 T) {s : PSt} {e : Nat} {f : Tok → PSt → PR} (h : (curT T s).k = 2 → f (curT T s) s.nxt ≠ x99) : nameP T s e f ≠ x99 := by
  unfold nameP
  split
  · exact failP_nf E (by decide)
  · split
    · exact failP_nf E (by decide)
    · exact h (by omega)
theorem okP_nf {s : PSt} {d : Nd} : okP s d ≠ x99 := fun h => by cases h
theorem inr_nf {x : List Nat × PSt} : (.inr x : PR) ≠ x99 := fun h => by cases h
theorem no5 {n room : Nat} {x : List Nat} {s : PSt} {r : List Nat × PSt} (hk : (curT T s).k = 0) (h : parN T n 5 room x s = .inr r) : False := by
  cases n with
  | zero => cases h
  | succ n =>
    unfold parN at h
    simp (config := {decide := true}) only [if_true, if_false, hk] at h
    exact failP_inr h
theorem no3 {n room : Nat} {x : List Nat} {s : PSt} {r : List Nat × PSt} (hk : (curT T s).k = 0) (h : parN T n 3 room x s = .inr r) : False := by
  cases n with
  | zero => cases h
  | succ n =>
    unfold parN at h
    simp (config := {decide := true}) only [if_true, if_false] at h
    split at h
    · exact failP_inr h
    · obtain ⟨v, s1, h1, _⟩ := PB_inr h
      exact no5 hk h1
theorem no2 {n room : Nat} {x : List Nat} {s : PSt} {r : List Nat × PSt} (hk : (curT T s).k = 0) (h : parN T n 2 room x s = .inr r) : False := by
  cases n with
  | zero => cases h
  | succ n =>
    unfold parN at h
    simp (config := {decide := true}) only [if_true, if_false] at h
    split at h
    · exact failP_inr h
    · split at h
      · rename_i h2; rw [hk] at h2; omega
      · exact no3 hk h
theorem no0 {n room : Nat} {x : List Nat} {s : PSt} {r : List Nat × PSt} (hk : (curT T s).k = 0) (h : parN T n 0 room x s = .inr r) : False := by
  cases n with
  | zero => cases h
  | succ n =>
    unfold parN at h
    simp (config := {decide := true}) only [if_true, if_false] at h
    obtain ⟨v, s1, h1, _⟩ := PB_inr h
    exact no2 hk h1
theorem no11 {n room : Nat} {x : List Nat} {s : PSt} {r : List Nat × PSt} (hk : (curT T s).k = 0) (h : parN T n 11 room x s = .inr r) : False := by
  cases n with
  | zero => cases h
  | succ n =>
    unfold parN at h
    simp (config := {decide := true}) only [if_true, if_false, hk] at h
    obtain ⟨v, s1, h1, _⟩ := PB_inr h
    exact no3 hk h1
/-- at the end of the tokens -/
theorem eof_k {s : PSt} (h : ¬ s.i < T.length) : (curT T s).k = 0 := Decidable.byContradiction fun g => h (cur_lt g)
set_option maxHeartbeats 4000000 in
theorem par_nf (E : E14 T) : ∀ (n task room : Nat) (x : List Nat) (s : PSt), 12 * (T.length - s.i) + cT task ≤ n → parN T n task room x s ≠ x99 := by
  intro n
  induction n with
  | zero =>
    intro task room x s h
    exfalso
    have : 1 ≤ cT task := by unfold cT; split <;> decide
    omega
  | succ n ih =>
    intro task room x s hn
    have P : ∀ {n task room x s v s'}, parN T n task room x s = .inr (v, s') → s.i ≤ s'.i ∧ (strict task = true → s.i < s'.i) := fun h => par_pr _ _ _ _ _ _ h
    have C : ∀ {s : PSt}, (curT T s).k ≠ 0 → s.i < T.length := cur_lt
    unfold parN
    dsimp only
    by_cases t0 : task = 0
    · subst t0
      simp only [cT] at hn
      rw [if_pos rfl]
      refine PB_nf (ih _ _ _ _ (by simp only [cT]; omega)) fun v s1 h1 => ih _ _ _ _ ?_
      have := (P h1).1
      simp only [cT]; omega
    rw [if_neg t0]
    by_cases t1 : task = 1
    · subst t1
      simp only [cT] at hn
      rw [if_pos rfl]
      split
      · exact inr_nf
      · rename_i hk
        have hc := C (s := s) (by omega)
        split
        · exact inr_nf
        · refine PB_nf ?_ fun v s1 h1 => ih _ _ _ _ ?_
          · split
            · exact ih _ _ _ _ (by rw [nxt_i]; simp only [cT]; omega)
            · exact ih _ _ _ _ (by rw [nxt_i]; simp only [cT]; omega)
          · have a1 : s.i + 1 ≤ s1.i := by
              split at h1
              · exact (P h1).1
              · exact (P h1).1
            rw [add_i]
            simp only [cT]; omega
    rw [if_neg t1]
    by_cases t2 : task = 2
    · subst t2
      simp only [cT] at hn
      rw [if_pos rfl]
      split
      · exact failP_nf E (by decide)
      · split
        · rename_i hk
          have hc := C (s := s) (by omega)
          exact PB_nf (ih _ _ _ _ (by rw [nxt_i]; simp only [cT]; omega)) fun v s1 h1 => okP_nf
        · exact ih _ _ _ _ (by simp only [cT]; omega)
    rw [if_neg t2]
    by_cases t3 : task = 3
    · subst t3
      simp only [cT] at hn
      rw [if_pos rfl]
      split
      · exact failP_nf E (by decide)
      · refine PB_nf (ih _ _ _ _ (by simp only [cT]; omega)) fun v s1 h1 => ih _ _ _ _ ?_
        have := (P h1).1
        simp only [cT]; omega
    rw [if_neg t3]
    by_cases t4 : task = 4
    · subst t4
      simp only [cT] at hn
      rw [if_pos rfl]
      split
      · rename_i hk
        have hc := C (s := s) (by omega)
        refine nameP_nf E fun hk2 => ih _ _ _ _ ?_
        simp only [add_i, nxt_i, cT]; omega
      · split
        · rename_i hk
          have hc := C (s := s) (by omega)
          refine PB_nf (ih _ _ _ _ (by rw [nxt_i]; simp only [cT]; omega)) fun v s1 h1 => expectP_nf E fun _ => ih _ _ _ _ ?_
          have a1 := (P h1).1
          rw [nxt_i] at a1
          simp only [add_i, nxt_i, cT]; omega
        · split
          · rename_i hk
            have hc := C (s := s) (by omega)
            refine PB_nf (ih _ _ _ _ (by rw [nxt_i]; simp only [cT]; omega)) fun v s1 h1 => ih _ _ _ _ ?_
            have a1 := (P h1).1
            rw [nxt_i] at a1
            simp only [add_i, cT]; omega
          · exact inr_nf
    rw [if_neg t4]
    by_cases t5 : task = 5
    · subst t5
      simp only [cT] at hn
      rw [if_pos rfl]
      split
      · exact okP_nf
      split
      · exact okP_nf
      split
      · exact okP_nf
      split
      · exact okP_nf
      split
      · exact okP_nf
      split
      · exact okP_nf
      split
      · rename_i hk
        have hc := C (s := s) (by omega)
        exact PB_nf (ih _ _ _ _ (by rw [nxt_i]; simp only [cT]; omega)) fun v s1 h1 => expectP_nf E fun _ => inr_nf
      split
      · rename_i hk
        have hc := C (s := s) (by omega)
        split
        · exact failP_nf E (by decide)
        · exact ih _ _ _ _ (by rw [nxt_i]; simp only [cT]; omega)
      split
      · rename_i hk
        have hc := C (s := s) (by omega)
        exact PB_nf (ih _ _ _ _ (by rw [nxt_i]; simp only [cT]; omega)) fun v s1 h1 => okP_nf
      exact failP_nf E (by decide)
    rw [if_neg t5]
    by_cases t6 : task = 6
    · subst t6
      simp only [cT] at hn
      rw [if_pos rfl]
      split
      · exact inr_nf
      · have key : ∀ t : PSt, s.i ≤ t.i → (if x.getD 1 0 ≠ 0 ∧ x.getD 2 0 + 1 = x.getD 1 0 then failP T t 19 else PBd (parN T n 0 room [1] t) fun v s =>
          parN T n 6 room [x.getD 0 0, x.getD 1 0, x.getD 2 0 + 1, if x.getD 4 0 = 0 then v.getD 0 0 else x.getD 3 0, v.getD 0 0] (s.link (x.getD 4 0) (v.getD 0 0))) ≠ x99 := by
          intro t ht
          split
          · exact failP_nf E (by decide)
          · refine PB_nf (ih _ _ _ _ (by simp only [cT]; omega)) fun v s1 h1 => ih _ _ _ _ ?_
            have a1 := (P h1).2 rfl
            rw [link_i]
            by_cases hz : t.i < T.length
            · simp only [cT]; omega
            · exact (no0 (eof_k hz) h1).elim
        split
        · exact expectP_nf E fun _ => key _ (by rw [nxt_i]; omega)
        · exact key _ (Nat.le_refl _)
    rw [if_neg t6]
    by_cases t7 : task = 7
    · subst t7
      simp only [cT] at hn
      rw [if_pos rfl]
      refine expectP_nf E fun hk => ?_
      have hc := C (s := s) (by omega)
      refine PB_nf (ih _ _ _ _ ?_) fun v s1 h1 => PB_nf (ih _ _ _ _ ?_) fun u s2 h2 => expectP_nf E fun _ => okP_nf
      · show 12 * (T.length - (s.i + 1)) + cT 8 ≤ n
        simp only [cT]; omega
      · have a1 := (P h1).1
        have a1 : s.i + 1 ≤ s1.i := a1
        show 12 * (T.length - s1.i) + cT 9 ≤ n
        simp only [cT]; omega
    rw [if_neg t7]
    by_cases t8 : task = 8
    · subst t8
      simp only [cT] at hn
      rw [if_pos rfl]
      split
      · exact inr_nf
      · have key : ∀ t : PSt, s.i ≤ t.i → (if x.getD 0 0 = 3 then failP T t 19 else nameP T t 0 fun m s =>
          parN T n 8 room [x.getD 0 0 + 1, if x.getD 2 0 = 0 then s.nodes.length else x.getD 1 0, s.nodes.length] ((s.add ⟨17, 0, 0, 0, 0, 0, m.s, m.p⟩).link (x.getD 2 0) s.nodes.length)) ≠ x99 := by
          intro t ht
          split
          · exact failP_nf E (by decide)
          · refine nameP_nf E fun hk => ih _ _ _ _ ?_
            have hc := C (s := t) (by omega)
            rw [link_i, add_i, nxt_i]
            simp only [cT]; omega
        split
        · exact expectP_nf E fun _ => key _ (by rw [nxt_i]; omega)
        · exact key _ (Nat.le_refl _)
    rw [if_neg t8]
    by_cases t9 : task = 9
    · subst t9
      simp only [cT] at hn
      rw [if_pos rfl]
      split
      · exact failP_nf E (by decide)
      · exact PB_nf (ih _ _ _ _ (by simp only [cT]; omega)) fun v s1 h1 => inr_nf
    rw [if_neg t9]
    by_cases t10 : task = 10
    · subst t10
      simp only [cT] at hn
      rw [if_pos rfl]
      split
      · exact inr_nf
      · split
        · exact failP_nf E (by decide)
        · refine PB_nf (ih _ _ _ _ (by simp only [cT]; omega)) fun v s1 h1 => ih _ _ _ _ ?_
          have a1 := (P h1).2 rfl
          rw [link_i]
          by_cases hz : s.i < T.length
          · simp only [cT]; omega
          · exact (no11 (eof_k hz) h1).elim
    rw [if_neg t10]
    by_cases t11 : task = 11
    · subst t11
      simp only [cT] at hn
      rw [if_pos rfl]
      split
      · rename_i hk
        have hc := C (s := s) (by omega)
        exact ih _ _ _ _ (by rw [nxt_i]; simp only [cT]; omega)
      split
      · exact ih _ _ _ _ (by simp only [cT]; omega)
      split
      · rename_i hk
        have hc := C (s := s) (by omega)
        exact ih _ _ _ _ (by rw [nxt_i]; simp only [cT]; omega)
      split
      · rename_i hk
        have hc := C (s := s) (by omega)
        refine PB_nf (ih _ _ _ _ (by rw [nxt_i]; simp only [cT]; omega)) fun v s1 h1 => PB_nf (ih _ _ _ _ ?_) fun u s2 h2 => okP_nf
        have a1 := (P h1).1
        rw [nxt_i] at a1
        simp only [cT]; omega
      split
      · split
        · exact failP_nf E (by decide)
        · exact okP_nf
      split
      · rename_i hk
        have hc := C (s := s) (by omega)
        exact ih _ _ _ _ (by rw [nxt_i]; simp only [cT]; omega)
      refine PB_nf (ih _ _ _ _ (by simp only [cT]; omega)) fun v s1 h1 => ?_
      have a1 := (P h1).1
      split
      · split
        · exact okP_nf
        · exact failP_nf E (by decide)
      · rename_i hk
        have hc := C (s := s1) (by omega)
        split
        · exact failP_nf E (by decide)
        · exact PB_nf (ih _ _ _ _ (by rw [nxt_i]; simp only [cT]; omega)) fun u s2 h2 => okP_nf
    rw [if_neg t11]
    by_cases t12 : task = 12
    · subst t12
      simp only [cT] at hn
      rw [if_pos rfl]
      split
      · rename_i hk
        have hc := C (s := s) (by omega)
        split
        · exact failP_nf E (by decide)
        · refine nameP_nf E fun hk2 => PB_nf (ih _ _ _ _ ?_) fun v s1 h1 => okP_nf
          show 12 * (T.length - (s.i + 1 + 1)) + cT 7 ≤ n
          simp only [cT]; omega
      · refine nameP_nf E fun hk2 => ?_
        have hc := C (s := s) (by omega)
        split
        · refine nameP_nf E fun hk3 => expectP_nf E fun hk4 => PB_nf (ih _ _ _ _ ?_) fun v s1 h1 => ?_
          · show 12 * (T.length - (s.i + 1 + 1 + 1 + 1)) + cT 0 ≤ n
            simp only [cT]; omega
          · split
            · exact failP_nf E (by decide)
            · exact okP_nf
        · split
          · refine PB_nf (ih _ _ _ _ ?_) fun v s1 h1 => okP_nf
            show 12 * (T.length - (s.i + 1 + 1)) + cT 0 ≤ n
            simp only [cT]; omega
          · exact okP_nf
    rw [if_neg t12]
    by_cases t13 : task = 13
    · subst t13
      simp only [cT] at hn
      rw [if_pos rfl]
      by_cases hz : s.i < T.length
      · refine PB_nf (ih _ _ _ _ (by rw [nxt_i]; simp only [cT]; omega)) fun v s1 h1 => expectP_nf E fun hk => PB_nf (ih _ _ _ _ ?_) fun u s2 h2 => ?_
        · have a1 := (P h1).1
          rw [nxt_i] at a1
          rw [nxt_i]
          simp only [cT]; omega
        · have a1 := (P h1).1
          have a2 := (P h2).1
          rw [nxt_i] at a1 a2
          split
          · exact PB_nf (ih _ _ _ _ (by simp only [cT]; omega)) fun z s3 h3 => okP_nf
          · split
            · exact PB_nf (ih _ _ _ _ (by rw [nxt_i]; simp only [cT]; omega)) fun z s3 h3 => expectP_nf E fun _ => okP_nf
            · exact expectP_nf E fun _ => okP_nf
      · refine PB_nf (ih _ _ _ _ (by rw [nxt_i]; simp only [cT]; omega)) fun v s1 h1 => ?_
        exact (no0 (eof_k (s := s.nxt) (by rw [nxt_i]; omega)) h1).elim
    rw [if_neg t13]
    by_cases t14 : task = 14
    · subst t14
      simp only [cT] at hn
      rw [if_pos rfl]
      refine nameP_nf E fun hk => ?_
      have hc := C (s := s) (by omega)
      split
      · refine nameP_nf E fun hk3 => expectP_nf E fun hk4 => PB_nf (ih _ _ _ _ ?_) fun v s1 h1 => PB_nf (ih _ _ _ _ ?_) fun u s2 h2 => okP_nf
        · show 12 * (T.length - (s.i + 1 + 1 + 1 + 1)) + cT 0 ≤ n
          simp only [cT]; omega
        · have a1 := (P h1).1
          have a1 : s.i + 1 + 1 + 1 + 1 ≤ s1.i := a1
          simp only [cT]; omega
      · refine expectP_nf E fun hk2 => PB_nf (ih _ _ _ _ ?_) fun v s1 h1 => expectP_nf E fun hk3 => PB_nf (ih _ _ _ _ ?_) fun u s2 h2 => ?_
        · show 12 * (T.length - (s.i + 1 + 1)) + cT 0 ≤ n
          simp only [cT]; omega
        · have a1 := (P h1).1
          have a1 : s.i + 1 + 1 ≤ s1.i := a1
          rw [nxt_i]
          simp only [cT]; omega
        · have a1 := (P h1).1
          have a1 : s.i + 1 + 1 ≤ s1.i := a1
          have a2 := (P h2).1
          rw [nxt_i] at a2
          split
          · refine PB_nf (ih _ _ _ _ ?_) fun z s3 h3 => PB_nf (ih _ _ _ _ ?_) fun q s4 h4 => okP_nf
            · rw [nxt_i, link_i]; simp only [cT]; omega
            · have a3 := (P h3).1
              rw [nxt_i, link_i] at a3
              rw [link_i]
              simp only [cT]; omega
          · refine PB_nf (ih _ _ _ _ ?_) fun q s4 h4 => okP_nf
            rw [link_i]
            simp only [cT]; omega
    rw [if_neg t14]
    by_cases t15 : task = 15
    · subst t15
      simp only [cT] at hn
      rw [if_pos rfl]
      refine expectP_nf E fun hk => PB_nf (ih _ _ _ _ ?_) fun v s1 h1 => expectP_nf E fun _ => inr_nf
      have hc := C (s := s) (by omega)
      show 12 * (T.length - (s.i + 1)) + cT 9 ≤ n
      simp only [cT]; omega
    rw [if_neg t15]
    have hc5 : cT task = 5 := by
      unfold cT
      split <;> first | contradiction | rfl
    rw [hc5] at hn
    split
    · exact okP_nf
    · refine PB_nf (ih _ _ _ _ (by simp only [cT]; omega)) fun v s1 h1 => ?_
      have a1 := (P h1).1
      split
      · rename_i hk
        have hc := C (s := s1) (by omega)
        exact PB_nf (ih _ _ _ _ (by rw [nxt_i]; simp only [cT]; omega)) fun u s2 h2 => okP_nf
      · exact okP_nf
end
end Go.Proofs.Qxb6500574aGreatDoor
