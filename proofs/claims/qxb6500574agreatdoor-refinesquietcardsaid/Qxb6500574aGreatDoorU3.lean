/-
  moon: THE OPEN CELLS ARE COUNTED BY THE OPEN LISTS. Plain; no walk.
-/
import Derived.Test.Qxb6500574aGreatDoorU2
import Derived.Test.Qxb6500574aGreatDoorVInv2
namespace Go.Proofs.Qxb6500574aGreatDoor
set_option linter.unusedVariables false
theorem sub_len : ∀ (l r : List Nat), l.Nodup → (∀ x ∈ l, x ∈ r) → l.length ≤ r.length := by
  intro l
  induction l with
  | nil => intro r _ _; exact Nat.zero_le _
  | cons a l ih =>
    intro r hn hs
    obtain ⟨h1, h2⟩ := List.nodup_cons.1 hn
    have ha := hs a (by simp)
    have hp := List.perm_cons_erase ha
    have hl : r.length = (r.erase a).length + 1 := by have := hp.length_eq; simpa using this
    have := ih (r.erase a) h2 (fun x hx => (List.mem_erase_of_ne (fun e => h1 (by rw [← e]; exact hx))).2 (hs x (by simp [hx])))
    simp only [List.length_cons]
    omega
theorem cells_range (cells : List CeD) : (List.range cells.length).map (fun c => cells.getD c ce0) = cells := by
  apply List.ext_getElem?
  intro i
  by_cases hi : i < cells.length
  · simp [hi]
  · simp [hi]
theorem filt_len (cells : List CeD) (p : CeD → Bool) : ((List.range cells.length).filter (fun c => p (cells.getD c ce0))).length = cells.countP p := by
  conv => rhs; rw [← cells_range cells]
  rw [List.countP_map, List.countP_eq_length_filter]
  rfl
/-- the open list of thread i is as long as there are cells of thread i -/
theorem opn_count {K : Cx} {m : VMD} (V : VI K m) {i : Nat} {t : ThD} (hi : m.ths[i]? = some t) : t.opn.length = m.cells.countP (fun c => decide (c.th = (i : Int))) := by
  have T := V.th i t hi
  rw [← filt_len]
  apply Nat.le_antisymm
  · refine sub_len _ _ T.op.nodup (fun c hc => ?_)
    obtain ⟨ce, h1, h2, _⟩ := T.op.ok c hc
    have hl := (List.getElem?_eq_some_iff.1 h1).1
    rw [List.mem_filter]
    exact ⟨List.mem_range.2 hl, by simp [h1, h2]⟩
  · refine sub_len _ _ (List.Nodup.sublist List.filter_sublist List.nodup_range) (fun c hc => ?_)
    obtain ⟨h1, h2⟩ := List.mem_filter.1 hc
    have hl := List.mem_range.1 h1
    have hce := List.getElem?_eq_getElem hl
    have h2 : (m.cells.getD c ce0).th = (i : Int) := by simpa using h2
    rw [show m.cells.getD c ce0 = m.cells[c] by simp [hl]] at h2
    rcases V.ce c _ hce with ⟨e, _⟩ | ⟨y, u, e1, e2, e3⟩
    · omega
    · have : y = i := by omega
      subst this
      rw [hi] at e2
      cases e2
      exact e3
theorem one_sum (y : Nat) : ∀ n, ((List.range n).map (fun i => if y = i then 1 else 0)).sum = if y < n then 1 else 0 := by
  intro n
  induction n with
  | zero => simp
  | succ n ih =>
    rw [List.range_succ, List.map_append, List.sum_append, ih]
    simp only [List.map_cons, List.map_nil, List.sum_cons, List.sum_nil]
    split <;> split <;> split <;> omega
theorem sum_add (f g : Nat → Nat) : ∀ l : List Nat, (l.map (fun i => f i + g i)).sum = (l.map f).sum + (l.map g).sum := by
  intro l
  induction l with
  | nil => rfl
  | cons a r ih => simp only [List.map_cons, List.sum_cons, ih]; omega
theorem zero_sum : ∀ l : List Nat, (l.map (fun _ => 0)).sum = 0
  | [] => rfl
  | a :: r => by rw [List.map_cons, List.sum_cons, zero_sum r]
theorem cnt_sum (n : Nat) : ∀ cells : List CeD, (∀ c ∈ cells, c.th = -1 ∨ ∃ y : Nat, y < n ∧ c.th = (y : Int)) → ((List.range n).map (fun i => cells.countP (fun c => decide (c.th = ((i : Nat) : Int))))).sum = cells.countP (fun c => decide (0 ≤ c.th)) := by
  intro cells
  induction cells with
  | nil => intro _; exact zero_sum _
  | cons c r ih =>
    intro h
    have h1 := ih (fun x hx => h x (by simp [hx]))
    simp only [List.countP_cons]
    rw [sum_add (fun i => r.countP (fun c => decide (c.th = ((i : Nat) : Int)))) (fun i => if decide (c.th = ((i : Nat) : Int)) = true then 1 else 0), h1]
    rcases h c (by simp) with e | ⟨y, hy, e⟩
    · have e2 : (List.range n).map (fun i => if decide (c.th = ((i : Nat) : Int)) = true then 1 else 0) = (List.range n).map (fun i => 0) := by
        apply List.map_congr_left
        intro i _
        rw [if_neg (by rw [decide_eq_true_eq]; omega)]
      rw [e2, if_neg (by rw [decide_eq_true_eq]; omega)]
      rw [zero_sum]
    · have e2 : (List.range n).map (fun i => if decide (c.th = ((i : Nat) : Int)) = true then 1 else 0) = (List.range n).map (fun i => if y = i then 1 else 0) := by
        apply List.map_congr_left
        intro i _
        by_cases hyi : y = i
        · rw [if_pos hyi, if_pos (by rw [decide_eq_true_eq]; omega)]
        · rw [if_neg hyi, if_neg (by rw [decide_eq_true_eq]; omega)]
      rw [e2, one_sum, if_pos hy, if_pos (by rw [decide_eq_true_eq]; omega)]
/-- the open lists together are as long as there are open cells -/
theorem open_sum {K : Cx} {m : VMD} (V : VI K m) : (m.ths.map (fun t => t.opn.length)).sum = m.cells.countP (fun c => decide (0 ≤ c.th)) := by
  rw [← cnt_sum m.ths.length m.cells (fun c hc => ?_)]
  · have e : m.ths.map (fun t => t.opn.length) = (List.range m.ths.length).map (fun i => m.cells.countP (fun c => decide (c.th = ((i : Nat) : Int)))) := by
      apply List.ext_getElem?
      intro i
      by_cases hi : i < m.ths.length
      · rw [List.getElem?_map, List.getElem?_map, List.getElem?_range hi, List.getElem?_eq_getElem hi]
        simp only [Option.map_some]
        rw [opn_count V (List.getElem?_eq_getElem hi)]
      · simp [hi]
    rw [e]
  · obtain ⟨k, hk⟩ := List.getElem?_of_mem hc
    rcases V.ce k c hk with ⟨e, _⟩ | ⟨y, t, e1, e2, _⟩
    · exact .inl e
    · exact .inr ⟨y, (List.getElem?_eq_some_iff.1 e2).1, e1⟩
end Go.Proofs.Qxb6500574aGreatDoor
