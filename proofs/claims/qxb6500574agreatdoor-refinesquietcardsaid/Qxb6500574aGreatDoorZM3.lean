/-
  moon: WHERE VARIABLES LIE: closing and capturing. Plain; no memory, no walk.
-/
import Derived.Test.Qxb6500574aGreatDoorZM2
namespace Go.Proofs.Qxb6500574aGreatDoor
set_option linter.unusedVariables false
set_option linter.unusedSimpArgs false
/-- the open cell of a place -/
def cellOf (m : VMD) (i p : Nat) : Option Nat := m.cells.findIdx? (fun ce => decide (ce.th = (i : Int) ∧ ce.pos = p))
def cloL (m : VMD) (i a : Nat) (o : Option Lc) : Option Lc := match o with
  | some (.inl x) => if x.1 = i ∧ a ≤ x.2 then (cellOf m i x.2).map .inr else some (.inl x)
  | o => o
section
variable {m : VMD} {E : List EnD} {P : List (Option Lc)} {K : Cx} {i a : Nat} {t : ThD}
theorem cellOf_some {p c : Nat} (h : cellOf m i p = some c) : c < m.cells.length ∧ (m.cells.getD c ce0).th = (i : Int) ∧ (m.cells.getD c ce0).pos = p := by
  unfold cellOf at h
  obtain ⟨h1, h2, _⟩ := List.findIdx?_eq_some_iff_getElem.1 h
  have h2 := of_decide_eq_true h2
  rw [List.getD_eq_getElem?_getD, List.getElem?_eq_getElem h1]
  exact ⟨h1, h2⟩
/-- an open cell lies in its thread's list -/
theorem VI.inOpn (V : VI K m) (hi : m.ths[i]? = some t) {c : Nat} (hc : c < m.cells.length) (ht : (m.cells.getD c ce0).th = (i : Int)) : c ∈ t.opn := by
  rw [List.getD_eq_getElem?_getD, List.getElem?_eq_getElem hc] at ht
  have ht : m.cells[c].th = (i : Int) := ht
  rcases V.ce c _ (List.getElem?_eq_getElem hc) with ⟨h1, _⟩ | ⟨y, u, h1, h2, h3⟩
  · rw [ht] at h1; omega
  · have : y = i := by rw [ht] at h1; omega
    subst this
    rw [hi] at h2
    cases h2
    exact h3
/-- one open cell a place -/
theorem VI.oneCell (V : VI K m) (hi : m.ths[i]? = some t) {c d : Nat} (hc : c < m.cells.length) (hd : d < m.cells.length) (h1 : (m.cells.getD c ce0).th = (i : Int)) (h2 : (m.cells.getD d ce0).th = (i : Int)) (h3 : (m.cells.getD c ce0).pos = (m.cells.getD d ce0).pos) : c = d := by
  have a1 := V.inOpn hi hc h1
  have a2 := V.inOpn hi hd h2
  obtain ⟨j, hj, e1⟩ := List.getElem_of_mem a1
  obtain ⟨k, hk, e2⟩ := List.getElem_of_mem a2
  have so := (V.th i t hi).op.so
  rcases Nat.lt_trichotomy j k with h | h | h
  · have := List.pairwise_iff_getElem.1 so j k hj hk h
    rw [e1, e2] at this
    omega
  · subst h
    rw [← e1, ← e2]
  · have := List.pairwise_iff_getElem.1 so k j hk hj h
    rw [e1, e2] at this
    omega
theorem VI.cellIs (V : VI K m) (hi : m.ths[i]? = some t) {c p : Nat} (hc : c < m.cells.length) (h1 : (m.cells.getD c ce0).th = (i : Int)) (h3 : (m.cells.getD c ce0).pos = p) : cellOf m i p = some c := by
  cases h : cellOf m i p with
  | none =>
    unfold cellOf at h
    rw [List.findIdx?_eq_none_iff] at h
    have := h m.cells[c] (List.getElem_mem hc)
    rw [List.getD_eq_getElem?_getD, List.getElem?_eq_getElem hc] at h1 h3
    have h1 : m.cells[c].th = (i : Int) := h1
    have h3 : m.cells[c].pos = p := h3
    simp [h1, h3] at this
  | some d =>
    obtain ⟨g1, g2, g3⟩ := cellOf_some h
    rw [V.oneCell hi g1 hc g2 h1 (g3.trans h3.symm)]
/-- what closing comes to -/
structure CloP (m m' : VMD) (E : List EnD) (P P' : List (Option Lc)) (i a : Nat) : Prop where
  vr : VrR m' E P'
  ce : ∀ c n, c < m.cells.length → CeN m P c n → CeN m' P' c n
  old : ∀ (n : Nat) (l : Lc), P[n]? = some (some l) → (∀ x, l = .inl x → ¬ (x.1 = i ∧ a ≤ x.2)) → P'[n]? = some (some l)
  new : ∀ (n : Nat) (x : Nat × Nat), P'[n]? = some (some (.inl x)) → P[n]? = some (some (.inl x)) ∧ ¬ (x.1 = i ∧ a ≤ x.2)
theorem VrR.close (h : VrR m E P) (V : VI K m) (hi : m.ths[i]? = some t) (a : Nat) : CloP m (closeFrom m i a) E P (P.map (cloL m i a)) i a := by
  have C := closeFrom_inv V hi a
  have hth : m.th i = t := by simp [VMD.th, hi]
  have O := (V.th i t hi).op
  have nd : t.opn.Nodup := O.nodup
  have ok : ∀ c ∈ t.opn, c < m.cells.length ∧ (m.cells.getD c ce0).th = (i : Int) := fun c hc => by
    obtain ⟨ce, h1, h2, _⟩ := O.ok c hc
    have hl := (List.getElem?_eq_some_iff.1 h1).1
    refine ⟨hl, ?_⟩
    rw [List.getD_eq_getElem?_getD, h1]
    exact h2
  have S : ∀ c, (closeFrom m i a).cells.getD c ce0 = m.cells.getD c ce0 ∨ ((m.cells.getD c ce0).th = (i : Int) ∧ a ≤ (m.cells.getD c ce0).pos ∧ (closeFrom m i a).cells.getD c ce0 = ⟨-1, 0, t.stack.getD (m.cells.getD c ce0).pos nilV⟩) := by
    intro c
    unfold closeFrom
    rw [hth]
    exact closeN_cells _ m t hi ok nd (Nat.le_refl _) c
  obtain ⟨k, hk⟩ := C.th
  have hst : ∀ y, ((closeFrom m i a).th y).stack = (m.th y).stack := by
    intro y
    by_cases e : y = i
    · subst e
      simp [VMD.th, hk, hi]
    · have := C.ot y e
      simp [VMD.th, this]
  -- what is open beyond a is closed
  have shut : ∀ c, c < m.cells.length → (m.cells.getD c ce0).th = (i : Int) → a ≤ (m.cells.getD c ce0).pos → (closeFrom m i a).cells.getD c ce0 = ⟨-1, 0, t.stack.getD (m.cells.getD c ce0).pos nilV⟩ := by
    intro c hc h1 h2
    rcases S c with e | ⟨_, _, e⟩
    · exfalso
      have hin := C.vi.inOpn hk (by rw [C.ln]; exact hc) (by rw [e]; exact h1)
      have hlo := C.lo c (by simp only [VMD.th, List.getD_eq_getElem?_getD, hk, Option.getD_some]; exact hin)
      rw [e] at hlo
      omega
    · exact e
  have keep : ∀ c, (¬ ((m.cells.getD c ce0).th = (i : Int) ∧ a ≤ (m.cells.getD c ce0).pos)) → (closeFrom m i a).cells.getD c ce0 = m.cells.getD c ce0 := by
    intro c hn
    rcases S c with e | ⟨h1, h2, _⟩
    · exact e
    · exact absurd ⟨h1, h2⟩ hn
  have at_ : ∀ (n : Nat) (q : Option Lc), (P.map (cloL m i a))[n]? = some q → ∃ o, P[n]? = some o ∧ cloL m i a o = q := by
    intro n q hq
    rw [List.getElem?_map] at hq
    cases hp : P[n]? with
    | none => rw [hp] at hq; simp at hq
    | some o => rw [hp] at hq; exact ⟨o, rfl, by simpa using hq⟩
  have to_ : ∀ (n : Nat) (o : Option Lc), P[n]? = some o → (P.map (cloL m i a))[n]? = some (cloL m i a o) := fun n o hp => by rw [List.getElem?_map, hp]; rfl
  -- the cases of a place
  have cs : ∀ (n : Nat) (l : Lc), (P.map (cloL m i a))[n]? = some (some l) → (P[n]? = some (some l) ∧ ∀ x, l = .inl x → ¬ (x.1 = i ∧ a ≤ x.2)) ∨ ∃ x c, P[n]? = some (some (.inl x)) ∧ x.1 = i ∧ a ≤ x.2 ∧ l = .inr c ∧ cellOf m i x.2 = some c := by
    intro n l hl
    obtain ⟨o, h1, h2⟩ := at_ n _ hl
    cases o with
    | none => cases h2
    | some q =>
      cases q with
      | inr c =>
        have h2 : some (Sum.inr c : Lc) = some l := h2
        cases h2
        exact .inl ⟨h1, fun x hx => by cases hx⟩
      | inl x =>
        have h2 : (if x.1 = i ∧ a ≤ x.2 then (cellOf m i x.2).map .inr else some (.inl x)) = some l := h2
        split at h2
        · rename_i hx
          cases hc : cellOf m i x.2 with
          | none => rw [hc] at h2; cases h2
          | some c =>
            rw [hc] at h2
            have h2 : some (Sum.inr c : Lc) = some l := h2
            cases h2
            exact .inr ⟨x, c, h1, hx.1, hx.2, rfl, hc⟩
        · rename_i hx
          cases h2
          exact .inl ⟨h1, fun y hy => by cases hy; exact hx⟩
  refine ⟨⟨by rw [List.length_map]; exact h.len, fun n l hl => ?_, fun n n' l hl hl' => ?_, fun n x hx => ?_, fun n c hc => ?_⟩, fun c n hcl hcn => ?_, fun n l hl hx => ?_, fun n x hx => ?_⟩
  · rcases cs n l hl with ⟨h1, h2⟩ | ⟨x, c, h1, h2, h3, rfl, h4⟩
    · rw [h.val n l h1]
      cases l with
      | inl x => show _ = ((closeFrom m i a).th x.1).stack.getD x.2 nilV; rw [hst]; rfl
      | inr c =>
        show (m.cells.getD c ce0).v = ((closeFrom m i a).cells.getD c ce0).v
        rw [keep c (fun x => by have := (h.ce n c h1).2; omega)]
    · obtain ⟨g1, g2, g3⟩ := cellOf_some h4
      rw [h.val n _ h1]
      show (m.th x.1).stack.getD x.2 nilV = ((closeFrom m i a).cells.getD c ce0).v
      rw [shut c g1 g2 (by omega), g3, h2, hth]
  · rcases cs n l hl with ⟨h1, h2⟩ | ⟨x, c, h1, h2, h3, rfl, h4⟩
    · rcases cs n' l hl' with ⟨g1, g2⟩ | ⟨y, d, g1, g2, g3, rfl, g4⟩
      · exact h.inj n n' l h1 g1
      · exfalso
        have := (h.ce n d h1).2
        obtain ⟨_, q, _⟩ := cellOf_some g4
        omega
    · rcases cs n' _ hl' with ⟨g1, g2⟩ | ⟨y, d, g1, g2, g3, e, g4⟩
      · exfalso
        have := (h.ce n' c g1).2
        obtain ⟨_, q, _⟩ := cellOf_some h4
        omega
      · cases e
        obtain ⟨_, _, q1⟩ := cellOf_some h4
        obtain ⟨_, _, q2⟩ := cellOf_some g4
        have : x = y := Prod.ext (by omega) (by omega)
        subst this
        exact h.inj n n' _ h1 g1
  · rcases cs n _ hx with ⟨h1, _⟩ | ⟨y, c, _, _, _, e, _⟩
    · rw [hst]; exact h.st n x h1
    · cases e
  · rcases cs n _ hc with ⟨h1, _⟩ | ⟨y, d, h1, h2, h3, e, h4⟩
    · have := h.ce n c h1
      rw [C.ln, keep c (fun x => by omega)]
      exact this
    · cases e
      obtain ⟨g1, g2, g3⟩ := cellOf_some h4
      rw [C.ln, shut c g1 g2 (by omega)]
      exact ⟨g1, rfl⟩
  · rcases hcn with h1 | ⟨x, h1, h2, h3⟩
    · exact .inl (to_ n _ h1)
    · by_cases hx : x.1 = i ∧ a ≤ x.2
      · refine .inl ?_
        have := to_ n _ h1
        have e : cloL m i a (some (.inl x)) = some (.inr c) := by
          show (if x.1 = i ∧ a ≤ x.2 then (cellOf m i x.2).map .inr else some (.inl x)) = (some (.inr c) : Option Lc)
          rw [if_pos hx, V.cellIs hi hcl (by rw [h2, hx.1]) h3]
          rfl
        rw [e] at this
        exact this
      · refine .inr ⟨x, ?_, ?_, ?_⟩
        · have := to_ n _ h1
          have e : cloL m i a (some (.inl x)) = some (.inl x) := if_neg hx
          rw [e] at this
          exact this
        · rw [keep c (fun q => hx ⟨by omega, by omega⟩)]; exact h2
        · rw [keep c (fun q => hx ⟨by omega, by omega⟩)]; exact h3
  · have := to_ n _ hl
    cases l with
    | inr c => exact this
    | inl x =>
      have e : cloL m i a (some (.inl x)) = some (.inl x) := if_neg (hx x rfl)
      rw [e] at this
      exact this
  · rcases cs n _ hx with ⟨h1, h2⟩ | ⟨y, c, _, _, _, e, _⟩
    · exact ⟨h1, h2 x rfl⟩
    · cases e
end
end Go.Proofs.Qxb6500574aGreatDoor
