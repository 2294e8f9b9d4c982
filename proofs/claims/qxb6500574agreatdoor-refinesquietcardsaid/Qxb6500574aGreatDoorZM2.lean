/-
  moon: WHERE VARIABLES LIE: on a thread's stack or in a closed cell. Plain; no memory, no walk.
-/
import Derived.Test.Qxb6500574aGreatDoorZM1
import Derived.Test.Qxb6500574aGreatDoorVInv9
namespace Go.Proofs.Qxb6500574aGreatDoor
set_option linter.unusedVariables false
set_option linter.unusedSimpArgs false
/-- a place: on the stack of a thread, or a closed cell -/
abbrev Lc := Sum (Nat × Nat) Nat
def valAt (m : VMD) : Lc → Vl
  | .inl x => (m.th x.1).stack.getD x.2 nilV
  | .inr c => (m.cells.getD c ce0).v
/-- every variable that lives has a place of its own -/
structure VrR (m : VMD) (E : List EnD) (P : List (Option Lc)) : Prop where
  len : P.length = E.length
  val : ∀ (i : Nat) (l : Lc), P[i]? = some (some l) → (E.getD i en0).v = valAt m l
  inj : ∀ (i j : Nat) (l : Lc), P[i]? = some (some l) → P[j]? = some (some l) → i = j
  st : ∀ (i : Nat) (x : Nat × Nat), P[i]? = some (some (.inl x)) → x.2 < (m.th x.1).stack.length
  ce : ∀ (i c : Nat), P[i]? = some (some (.inr c)) → c < m.cells.length ∧ (m.cells.getD c ce0).th = -1
/-- cell c is variable i -/
def CeN (m : VMD) (P : List (Option Lc)) (c i : Nat) : Prop :=
  P[i]? = some (some (.inr c)) ∨ ∃ x : Nat × Nat, P[i]? = some (some (.inl x)) ∧ (m.cells.getD c ce0).th = (x.1 : Int) ∧ (m.cells.getD c ce0).pos = x.2
section
variable {m m' : VMD} {E : List EnD} {P : List (Option Lc)} {K : Cx} {i a c n : Nat} {t : ThD}
/-- a cell's value is the variable's -/
theorem VrR.up (h : VrR m E P) (g : CeN m P c n) : (E.getD n en0).v = (if (m.cells.getD c ce0).th ≥ 0 then (m.th (m.cells.getD c ce0).th.toNat).stack.getD (m.cells.getD c ce0).pos nilV else (m.cells.getD c ce0).v) := by
  rcases g with g | ⟨x, g, h1, h2⟩
  · rw [h.val _ _ g, (h.ce _ _ g).2, if_neg (by omega)]
    rfl
  · rw [h.val _ _ g, h1, h2, if_pos (by omega)]
    simp [valAt]
/-- places stay when stacks keep what is alive -/
theorem VrR.keep (h : VrR m E P) (hs : ∀ (n : Nat) (x : Nat × Nat), P[n]? = some (some (.inl x)) → x.2 < (m'.th x.1).stack.length ∧ (m'.th x.1).stack.getD x.2 nilV = (m.th x.1).stack.getD x.2 nilV) (hc : m'.cells = m.cells) : VrR m' E P := by
  refine ⟨h.len, fun n l hl => ?_, h.inj, fun n x hx => (hs n x hx).1, fun n c hx => by rw [hc]; exact h.ce n c hx⟩
  rw [h.val n l hl]
  cases l with
  | inl x => exact (hs n x hl).2.symm
  | inr c => show _ = (m'.cells.getD c ce0).v; rw [hc]; rfl
theorem CeN.keep (h : CeN m P c n) (hc : m'.cells = m.cells) : CeN m' P c n := by
  unfold CeN
  rw [hc]
  exact h
/-- a new variable at a place that no other has -/
theorem VrR.new (h : VrR m E P) {e : EnD} {l : Lc} (hn : ∀ j : Nat, P[j]? ≠ some (some l)) (hv : e.v = valAt m l) (hs : ∀ x, l = .inl x → x.2 < (m.th x.1).stack.length) (hc : ∀ c, l = .inr c → c < m.cells.length ∧ (m.cells.getD c ce0).th = -1) : VrR m (E ++ [e]) (P ++ [some l]) := by
  have key : ∀ (j : Nat) (q : Option Lc), (P ++ [some l])[j]? = some q → (P[j]? = some q ∧ j < E.length) ∨ (j = E.length ∧ q = some l) := by
    intro j q hj
    by_cases hl : j < P.length
    · rw [List.getElem?_append_left hl] at hj
      exact .inl ⟨hj, by rw [← h.len]; exact hl⟩
    · rw [List.getElem?_append_right (by omega)] at hj
      have h0 : j - P.length = 0 := by
        have := (List.getElem?_eq_some_iff.1 hj).1
        simp at this
        omega
      rw [h0] at hj
      simp at hj
      exact .inr ⟨by rw [← h.len]; omega, hj.symm⟩
  refine ⟨by simp [h.len], fun j q hj => ?_, fun j k q hj hk => ?_, fun j x hj => ?_, fun j c hj => ?_⟩
  · rcases key j _ hj with ⟨h1, h2⟩ | ⟨rfl, h2⟩
    · rw [List.getD_eq_getElem?_getD, List.getElem?_append_left h2, ← List.getD_eq_getElem?_getD]
      exact h.val j q h1
    · cases h2
      rw [List.getD_eq_getElem?_getD, List.getElem?_append_right (Nat.le_refl _)]
      simpa using hv
  · rcases key j _ hj with ⟨h1, h2⟩ | ⟨rfl, h2⟩
    · rcases key k _ hk with ⟨g1, g2⟩ | ⟨rfl, g2⟩
      · exact h.inj j k q h1 g1
      · cases g2
        exact absurd h1 (hn j)
    · cases h2
      rcases key k _ hk with ⟨g1, g2⟩ | ⟨rfl, g2⟩
      · exact absurd g1 (hn k)
      · rfl
  · rcases key j _ hj with ⟨h1, h2⟩ | ⟨rfl, h2⟩
    · exact h.st j x h1
    · exact hs x (Option.some.inj h2).symm
  · rcases key j _ hj with ⟨h1, h2⟩ | ⟨rfl, h2⟩
    · exact h.ce j c h1
    · exact hc c (Option.some.inj h2).symm
theorem CeN.more (h : CeN m P c n) (Q : List (Option Lc)) : CeN m (P ++ Q) c n := by
  have up : ∀ q, P[n]? = some q → (P ++ Q)[n]? = some q := fun q hq => by
    rw [List.getElem?_append_left (List.getElem?_eq_some_iff.1 hq).1]
    exact hq
  rcases h with h | ⟨x, h, h1⟩
  · exact .inl (up _ h)
  · exact .inr ⟨x, up _ h, h1⟩
/-- a variable is written where it lies -/
theorem VrR.setV (h : VrR m E P) {l : Lc} (hl : P[n]? = some (some l)) {v : Vl} (hw : valAt m' l = v) (ho : ∀ (j : Nat) (q : Lc), P[j]? = some (some q) → q ≠ l → valAt m' q = valAt m q) (hs : ∀ y, (m'.th y).stack.length = (m.th y).stack.length) (hc : m'.cells.length = m.cells.length) (ht : ∀ c, (m'.cells.getD c ce0).th = (m.cells.getD c ce0).th) : VrR m' (E.set n { E.getD n en0 with v := v }) P := by
  have hn : n < E.length := by rw [← h.len]; exact (List.getElem?_eq_some_iff.1 hl).1
  refine ⟨by simp [h.len], fun j q hj => ?_, h.inj, fun j x hj => by rw [hs]; exact h.st j x hj, fun j c hj => by rw [hc, ht]; exact h.ce j c hj⟩
  by_cases e : j = n
  · subst e
    rw [hl] at hj
    cases hj
    rw [List.getD_eq_getElem?_getD, List.getElem?_set_self hn]
    exact hw.symm
  · rw [List.getD_eq_getElem?_getD, List.getElem?_set_ne (fun x => e x.symm), ← List.getD_eq_getElem?_getD, h.val j q hj]
    refine (ho j q hj (fun x => e ?_)).symm
    rw [x] at hj
    exact h.inj j n l hj hl
/-! ### cells are closed -/
theorem closeN_cells : ∀ (n : Nat) (m : VMD) (t : ThD), m.ths[i]? = some t → (∀ c ∈ t.opn, c < m.cells.length ∧ (m.cells.getD c ce0).th = (i : Int)) → t.opn.Nodup → n ≤ t.opn.length → ∀ c,
    (closeN n m i a).cells.getD c ce0 = m.cells.getD c ce0 ∨ ((m.cells.getD c ce0).th = (i : Int) ∧ a ≤ (m.cells.getD c ce0).pos ∧ (closeN n m i a).cells.getD c ce0 = ⟨-1, 0, t.stack.getD (m.cells.getD c ce0).pos nilV⟩) := by
  intro n
  induction n with
  | zero => intro m t _ _ _ _ c; exact .inl rfl
  | succ n ih =>
    intro m t hi ho hd hn c
    have ht : m.th i = t := by simp [VMD.th, hi]
    have hlt := (List.getElem?_eq_some_iff.1 hi).1
    unfold closeN
    dsimp only
    rw [ht]
    split
    · exact .inl rfl
    · rename_i hp
      have hk : n < t.opn.length := by omega
      have hcn : t.opn.getD n 0 = t.opn[n] := by simp [hk]
      have hmem : t.opn[n] ∈ t.opn := List.getElem_mem hk
      have h1 : ({ m with cells := m.cells.set (t.opn.getD n 0) ⟨-1, 0, t.stack.getD (m.cells.getD (t.opn.getD n 0) ce0).pos nilV⟩, ths := m.ths.set i { t with opn := t.opn.take n } } : VMD).ths[i]? = some { t with opn := t.opn.take n } := List.getElem?_set_self hlt
      have hout : ∀ d ∈ t.opn.take n, d ≠ t.opn.getD n 0 := by
        intro d hd2 e
        rw [hcn] at e
        obtain ⟨j, hj, e2⟩ := List.getElem_of_mem hd2
        rw [List.length_take] at hj
        rw [List.getElem_take] at e2
        have := List.pairwise_iff_getElem.1 hd j n (by omega) hk (by omega)
        exact this (e2.trans e)
      have h2 := ih _ _ h1 (fun d hd2 => by
        show d < (m.cells.set _ _).length ∧ ((m.cells.set _ _).getD d ce0).th = _
        rw [List.length_set, List.getD_eq_getElem?_getD, List.getElem?_set_ne (fun e => hout d hd2 e.symm), ← List.getD_eq_getElem?_getD]
        exact ho d (List.mem_of_mem_take hd2)) (hd.sublist (List.take_sublist _ _)) (by simp; omega) c
      by_cases e : c = t.opn.getD n 0
      · subst e
        by_cases hl : t.opn.getD n 0 < m.cells.length
        · have hv : (m.cells.set (t.opn.getD n 0) ⟨-1, 0, t.stack.getD (m.cells.getD (t.opn.getD n 0) ce0).pos nilV⟩).getD (t.opn.getD n 0) ce0 = ⟨-1, 0, t.stack.getD (m.cells.getD (t.opn.getD n 0) ce0).pos nilV⟩ := by
            rw [List.getD_eq_getElem?_getD, List.getElem?_set_self hl]; rfl
          refine .inr ⟨(ho _ (by rw [hcn]; exact hmem)).2, by omega, ?_⟩
          rcases h2 with h2 | ⟨h3, _, _⟩
          · rw [h2]; exact hv
          · exfalso
            have h3 : ((m.cells.set (t.opn.getD n 0) ⟨-1, 0, t.stack.getD (m.cells.getD (t.opn.getD n 0) ce0).pos nilV⟩).getD (t.opn.getD n 0) ce0).th = (i : Int) := h3
            rw [hv] at h3
            have h3 : (-1 : Int) = (i : Int) := h3
            omega
        · exact absurd (ho _ (by rw [hcn]; exact hmem)).1 hl
      · have hsame : (m.cells.set (t.opn.getD n 0) ⟨-1, 0, t.stack.getD (m.cells.getD (t.opn.getD n 0) ce0).pos nilV⟩).getD c ce0 = m.cells.getD c ce0 := by
          rw [List.getD_eq_getElem?_getD, List.getElem?_set_ne (fun x => e x.symm), ← List.getD_eq_getElem?_getD]
        rcases h2 with h2 | ⟨h3, h4, h5⟩
        · left
          rw [h2]
          exact hsame
        · right
          have h3 : ((m.cells.set (t.opn.getD n 0) ⟨-1, 0, t.stack.getD (m.cells.getD (t.opn.getD n 0) ce0).pos nilV⟩).getD c ce0).th = (i : Int) := h3
          have h4 : a ≤ ((m.cells.set (t.opn.getD n 0) ⟨-1, 0, t.stack.getD (m.cells.getD (t.opn.getD n 0) ce0).pos nilV⟩).getD c ce0).pos := h4
          have h5 : _ = (⟨-1, 0, t.stack.getD ((m.cells.set (t.opn.getD n 0) ⟨-1, 0, t.stack.getD (m.cells.getD (t.opn.getD n 0) ce0).pos nilV⟩).getD c ce0).pos nilV⟩ : CeD) := h5
          rw [hsame] at h3 h4 h5
          exact ⟨h3, h4, h5⟩
end
end Go.Proofs.Qxb6500574aGreatDoor
