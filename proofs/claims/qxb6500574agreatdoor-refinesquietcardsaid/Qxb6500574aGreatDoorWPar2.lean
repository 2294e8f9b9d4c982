/-
  moon: WHAT THE PARSER LAYS: lists that grow. Plain; no memory, no walk.
-/
import Derived.Test.Qxb6500574aGreatDoorWPar
namespace Go.Proofs.Qxb6500574aGreatDoor
set_option linter.unusedVariables false
set_option linter.unusedSimpArgs false
section
variable {N N' : List Nd}
/-- a list's members rise, above lo -/
def Inc : List Nat → Nat → Prop
  | [], _ => True
  | x :: l, lo => lo < x ∧ Inc l x
theorem Inc.above : ∀ {l : List Nat} {lo : Nat}, Inc l lo → ∀ x ∈ l, lo < x := by
  intro l
  induction l with
  | nil => intro lo _ x hx; cases hx
  | cons y l ih =>
    intro lo h x hx
    rcases List.mem_cons.1 hx with rfl | hx
    · exact h.1
    · have := ih h.2 x hx
      have := h.1
      omega
theorem SeqE.inc {R : Nat → Nat → Nat → Nat → Nat → Prop} {dec : Nat} (hR : ∀ x lo a b w, R x lo a b w → lo < x) {l : List Nat} : ∀ {lo hi a b w : Nat}, SeqE R dec l lo hi a b w → Inc l lo := by
  induction l with
  | nil => intro lo hi a b w _; exact trivial
  | cons x l ih => intro lo hi a b w h; obtain ⟨b1, h1, h2⟩ := h; exact ⟨hR _ _ _ _ _ h1, ih h2⟩
theorem SeqS.inc {R : Nat → Nat → Nat → Nat → Nat → Nat → Prop} (hR : ∀ x lo a b al al', R x lo a b al al' → lo < x) {l : List Nat} : ∀ {lo hi a b al al' : Nat}, SeqS R l lo hi a b al al' → Inc l lo := by
  induction l with
  | nil => intro lo hi a b al al' _; exact trivial
  | cons x l ih => intro lo hi a b al al' h; obtain ⟨b1, a1, h1, h2⟩ := h; exact ⟨hR _ _ _ _ _ _ h1, ih h2⟩
theorem Names.inc {l : List Nat} : ∀ {lo hi : Nat}, Names N l lo hi → Inc l lo := by
  induction l with
  | nil => intro lo hi _; exact trivial
  | cons x l ih =>
    intro lo hi h
    obtain ⟨h1, h2, h3, h4, h5, h6⟩ := h
    refine ⟨by omega, ?_⟩
    rw [h1]
    exact ih h6
theorem lastD_mem : ∀ {l : List Nat} (d : Nat), l ≠ [] → l.getLastD d ∈ l := by
  intro l
  induction l with
  | nil => intro d h; exact (h rfl).elim
  | cons x l ih =>
    intro d _
    rw [List.getLastD_cons]
    by_cases e : l = []
    · subst e; simp
    · exact List.mem_cons_of_mem _ (ih x e)
theorem lastD_any : ∀ {l : List Nat} (d e : Nat), l ≠ [] → l.getLastD d = l.getLastD e := by
  intro l d e h
  cases l with
  | nil => exact (h rfl).elim
  | cons x l => rw [List.getLastD_cons, List.getLastD_cons]
/-- one more member -/
theorem Chain.snoc {v : Nat} (hv : v ≠ 0) (hz : (N'.getD v nd0).next = 0) : ∀ {l : List Nat} {first lo : Nat}, Chain N first l → Inc l lo → (∀ x ∈ l, x ≠ l.getLastD 0 → N'.getD x nd0 = N.getD x nd0) → (l ≠ [] → (N'.getD (l.getLastD 0) nd0).next = v) → Chain N' (if l = [] then v else first) (l ++ [v]) := by
  intro l
  induction l with
  | nil => intro first lo h _ _ _; exact ⟨rfl, hv, hz⟩
  | cons x l ih =>
    intro first lo h hi he hl
    obtain ⟨h1, h2, h3⟩ := h
    rw [if_neg (by simp)]
    refine ⟨h1, h2, ?_⟩
    by_cases e : l = []
    · subst e
      have := hl (by simp)
      simp only [List.getLastD_cons, List.getLastD_nil] at this
      rw [this]
      exact ⟨rfl, hv, hz⟩
    · have hx : x ≠ (x :: l).getLastD 0 := by
        have hm : (x :: l).getLastD 0 ∈ l := by
          rw [List.getLastD_cons]
          exact lastD_mem x e
        have := hi.2.above _ hm
        omega
      rw [he x (by simp) hx]
      have eL : (x :: l).getLastD 0 = l.getLastD 0 := by rw [List.getLastD_cons]; exact lastD_any _ _ e
      rw [eL] at he hl
      have g := ih h3 hi.2 (fun y hy hy' => he y (by simp [hy]) hy') (fun _ => hl (by simp))
      rw [if_neg e] at g
      exact g
theorem link_len (s : PSt) (l x : Nat) : (s.link l x).nodes.length = s.nodes.length := by
  unfold PSt.link
  split
  · rfl
  · simp
theorem link_ne (s : PSt) {l x y : Nat} (h : y ≠ l) : (s.link l x).nodes.getD y nd0 = s.nodes.getD y nd0 := by
  unfold PSt.link
  split
  · rfl
  · simp only
    rw [List.getD_eq_getElem?_getD, List.getElem?_set_ne (fun e => h e.symm), ← List.getD_eq_getElem?_getD]
theorem link_eq (s : PSt) {l x : Nat} (h0 : l ≠ 0) (h : l < s.nodes.length) : (s.link l x).nodes.getD l nd0 = { s.nodes.getD l nd0 with next := x } := by
  unfold PSt.link
  rw [if_neg h0]
  simp only
  rw [List.getD_eq_getElem?_getD, List.getElem?_set_self h]
  rfl
theorem link_nde (s : PSt) (l x y : Nat) : NdE (s.nodes.getD y nd0) ((s.link l x).nodes.getD y nd0) := by
  by_cases e : y = l
  · subst e
    unfold PSt.link
    split
    · exact NdE.refl _
    · simp only
      by_cases hl : y < s.nodes.length
      · rw [List.getD_eq_getElem?_getD (l := s.nodes.set _ _), List.getElem?_set_self hl]
        exact ⟨rfl, rfl, rfl, rfl, rfl, rfl⟩
      · rw [List.set_eq_of_length_le (by omega)]
        exact NdE.refl _
  · exact NdE.of (link_ne s e)
theorem link_same (s : PSt) (l x : Nat) : (s.link l x).i = s.i ∧ (s.link l x).alive = s.alive ∧ (s.link l x).loops = s.loops ∧ (s.link l x).funcs = s.funcs := by
  unfold PSt.link
  split <;> exact ⟨rfl, rfl, rfl, rfl⟩
/-- a shape over a link that turns at or above its root, or below its beginning -/
theorem Sh.link {s : PSt} {l x : Nat} {task n lo a b w al al' : Nat} {lp : Bool} (h : Sh s.nodes task n lo a b w al al' lp) (hl : n ≤ l ∨ l ≤ lo) : Sh (s.link l x).nodes task n lo a b w al al' lp := by
  have hn : n < s.nodes.length := by obtain ⟨k, g⟩ := h; cases k with | zero => exact g.elim | succ k => exact g.2.1
  exact h.mono (fun y h1 h2 => link_ne s (by omega)) (link_nde s l x n) (by rw [link_len]; exact hn)
end
end Go.Proofs.Qxb6500574aGreatDoor
