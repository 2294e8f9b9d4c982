/-
  moon: A NEW CLOSURE's UPVALUES ARE ITS VARIABLES. Plain; no memory, no walk.
-/
import Derived.Test.Qxb6500574aGreatDoorZM4
namespace Go.Proofs.Qxb6500574aGreatDoor
set_option linter.unusedVariables false
set_option linter.unusedSimpArgs false
/-- a frame's own variables: their nodes, the newest first; each at its slot -/
structure FrE (E : List EnD) (P : List (Option Lc)) (i base : Nat) (L : List Bs) (lf : List Nat) : Prop where
  nm : nmN E lf = nmL L
  at_ : ∀ (j : Nat) (s : Bs), L[j]? = some s → s ≠ [] → ∃ n, lf[slotN L j]? = some n ∧ P[n]? = some (some (.inl (i, base + j)))
/-- closure c of function g, made in the contexts r: its variables -/
structure ClRZ (D : CmD) (m : VMD) (E : List EnD) (P : List (Option Lc)) (c g : Nat) (r : En) (lc : List Nat) : Prop where
  nm : nmN E lc = nmR r
  ux : (m.clos.getD c cl0).up + (D.fn g).ups.length ≤ m.upix.length
  up : ∀ x, x < (D.fn g).ups.length → ∃ n, upNode D r g lc x = some n ∧ CeN m P (m.upix.getD ((m.clos.getD c cl0).up + x) 0) n ∧ m.upix.getD ((m.clos.getD c cl0).up + x) 0 < m.cells.length
/-- a descriptor means variable n -/
def NodeD (m : VMD) (P : List (Option Lc)) (i base clo : Nat) (d : Nat × Nat) (n : Nat) : Prop :=
  (d.1 = 1 ∧ P[n]? = some (some (.inl (i, base + d.2)))) ∨
  (d.1 ≠ 1 ∧ (m.clos.getD clo cl0).up + d.2 < m.upix.length ∧ CeN m P (m.upix.getD ((m.clos.getD clo cl0).up + d.2) 0) n ∧ m.upix.getD ((m.clos.getD clo cl0).up + d.2) 0 < m.cells.length)
section
variable {m m' : VMD} {E : List EnD} {P : List (Option Lc)} {K : Cx} {i base clo n : Nat} {t : ThD} {D : CmD}
theorem pre_getD {l l' : List Nat} (h : l <+: l') {x : Nat} (hx : x < l.length) : l'.getD x 0 = l.getD x 0 := by
  obtain ⟨k, rfl⟩ := h
  rw [List.getD_eq_getElem?_getD, List.getElem?_append_left hx, ← List.getD_eq_getElem?_getD]
theorem NodeD.grow {d : Nat × Nat} (h : NodeD m P i base clo d n) (g : GrC m m') : NodeD m' P i base clo d n := by
  rcases h with h | ⟨h1, h2, h3, h4⟩
  · exact .inl h
  · have e : m'.upix.getD ((m'.clos.getD clo cl0).up + d.2) 0 = m.upix.getD ((m.clos.getD clo cl0).up + d.2) 0 := by
      rw [g.co.1]
      exact pre_getD g.ux h2
    refine .inr ⟨h1, ?_, ?_, ?_⟩
    · rw [g.co.1]
      obtain ⟨k, hk⟩ := g.ux
      rw [← hk, List.length_append]
      omega
    · rw [e]; exact h3.grow g h4
    · rw [e]; exact Nat.lt_of_lt_of_le h4 g.cl
theorem ClRZ.grow {c g : Nat} {r : En} {lc : List Nat} (h : ClRZ D m E P c g r lc) (G : GrC m m') : ClRZ D m' E P c g r lc := by
  have hl : m.upix.length ≤ m'.upix.length := G.ux.length_le
  refine ⟨h.nm, by rw [G.co.1]; have := h.ux; omega, fun x hx => ?_⟩
  obtain ⟨n, h1, h2, h3⟩ := h.up x hx
  have e : m'.upix.getD ((m'.clos.getD c cl0).up + x) 0 = m.upix.getD ((m.clos.getD c cl0).up + x) 0 := by
    rw [G.co.1]
    exact pre_getD G.ux (by have := h.ux; omega)
  rw [e]
  exact ⟨n, h1, h2.grow G h3, Nat.lt_of_lt_of_le h3 G.cl⟩
theorem closL_ok {f : FmD} : ∀ (ds : List (Nat × Nat)) (m : VMD) (t : ThD), VI K m → m.ths[i]? = some t → f ∈ t.frames → (∀ d ∈ ds, d.1 = 1 → f.base + d.2 < f.base + K.ns f.clo) → (∀ d ∈ ds, d.1 ≠ 1 → (m.clos.getD clo cl0).up + d.2 < m.upix.length) →
    ∃ cs, (closL i f.base clo ds m).upix = m.upix ++ cs ∧ cs.length = ds.length ∧ GrC m (closL i f.base clo ds m) ∧ ∀ (x : Nat) d, ds[x]? = some d → ∀ n, NodeD m P i f.base clo d n → CeN (closL i f.base clo ds m) P (cs.getD x 0) n ∧ cs.getD x 0 < (closL i f.base clo ds m).cells.length := by
  intro ds
  induction ds with
  | nil => intro m t V hi hf h1 h2; exact ⟨[], by simp [closL], rfl, GrC.refl m, fun x d hd => by simp at hd⟩
  | cons d ds ih =>
    intro m t V hi hf h1 h2
    unfold closL
    by_cases hd : d.1 = 1
    · rw [if_pos hd]
      dsimp only
      obtain ⟨G, c1, c2, c3, c4⟩ := cap_ok V hi (f.base + d.2)
      have CU := (capU_inv V hi hf (a := f.base + d.2) (by omega) (h1 d (by simp) hd)).1
      obtain ⟨o, ho⟩ := CU.th
      have G1 : GrC m (capU m i (f.base + d.2)) := ⟨G.cl, G.ce, G.st, G.fr, G.ss, G.fn, G.tl, by show m.upix <+: (capture m i (f.base + d.2)).2.upix ++ _; rw [c4]; exact List.prefix_append _ _, G.co⟩
      have hux : (capU m i (f.base + d.2)).upix = m.upix ++ [(capture m i (f.base + d.2)).1] := by show (capture m i (f.base + d.2)).2.upix ++ _ = _; rw [c4]
      obtain ⟨cs, e1, e2, e3, e4⟩ := ih (capU m i (f.base + d.2)) _ CU.vi ho (by exact hf) (fun x hx => h1 x (by simp [hx])) (fun x hx hn => by
        have := h2 x (by simp [hx]) hn
        rw [G1.co.1]
        rw [hux, List.length_append]
        omega)
      refine ⟨(capture m i (f.base + d.2)).1 :: cs, ?_, by simp [e2], G1.trans e3, fun x y hy n hn => ?_⟩
      · show (closL i f.base clo ds (capU m i (f.base + d.2))).upix = _
        rw [e1, hux]; simp
      · cases x with
        | zero =>
          simp at hy
          subst hy
          rcases hn with ⟨_, hn⟩ | ⟨hn, _⟩
          · have hc : CeN (capU m i (f.base + d.2)) P (capture m i (f.base + d.2)).1 n := .inr ⟨_, hn, c2, c3⟩
            exact ⟨hc.grow e3 c1, Nat.lt_of_lt_of_le c1 e3.cl⟩
          · exact absurd hd hn
        | succ x =>
          simp only [List.getElem?_cons_succ] at hy
          have := e4 x y hy n (hn.grow G1)
          rw [List.getD_cons_succ]
          exact this
    · rw [if_neg hd]
      have hlt := h2 d (by simp) hd
      have hux : m.upix.getD ((m.clos.getD clo cl0).up + d.2) 0 < m.cells.length := V.ux _ (by
        rw [List.getD_eq_getElem?_getD, List.getElem?_eq_getElem hlt]
        exact List.getElem_mem hlt)
      have V1 := V.addUp hux
      have G1 : GrC m { m with upix := m.upix ++ [m.upix.getD ((m.clos.getD clo cl0).up + d.2) 0] } := ⟨Nat.le_refl _, fun _ _ => rfl, fun _ => rfl, fun _ => rfl, fun _ => rfl, fun _ => rfl, rfl, List.prefix_append _ _, rfl, rfl, rfl, rfl, rfl, rfl, rfl⟩
      obtain ⟨cs, e1, e2, e3, e4⟩ := ih _ t V1 hi hf (fun x hx => h1 x (by simp [hx])) (fun x hx hn => by
        have := h2 x (by simp [hx]) hn
        show (m.clos.getD clo cl0).up + x.2 < (m.upix ++ [_]).length
        rw [List.length_append]
        omega)
      refine ⟨m.upix.getD ((m.clos.getD clo cl0).up + d.2) 0 :: cs, by rw [e1]; simp, by simp [e2], G1.trans e3, fun x y hy n hn => ?_⟩
      cases x with
      | zero =>
        simp at hy
        subst hy
        rcases hn with ⟨hn, _⟩ | ⟨_, _, hn, hl⟩
        · exact absurd hn hd
        · exact ⟨(hn.grow G1 hl).grow e3 hl, Nat.lt_of_lt_of_le hl e3.cl⟩
      | succ x =>
        simp only [List.getElem?_cons_succ] at hy
        have := e4 x y hy n (hn.grow G1)
        simpa using this
end
end Go.Proofs.Qxb6500574aGreatDoor
