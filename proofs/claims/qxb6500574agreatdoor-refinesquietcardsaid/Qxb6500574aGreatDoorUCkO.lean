/-
  moon: THE OPEN LIST ALONG THE FRAMES. Plain; no walk.
-/
import Derived.Test.Qxb6500574aGreatDoorUCkT
namespace Go.Proofs.Qxb6500574aGreatDoor
open Go Go.RowKit
set_option linter.unusedVariables false
set_option linter.unusedSimpArgs false
/-- o open cells lie below frame j's slots, the others at or above the slots of the frames below j -/
structure OI (K : Cx) (m : VMD) (t : ThD) (j o : Nat) : Prop where
  le : o ≤ t.opn.length
  hi : ∀ (q c : Nat) (ce : CeD), o ≤ q → t.opn[q]? = some c → m.cells[c]? = some ce → ∀ (k : Nat) (f : FmD), t.frames[k]? = some f → k < j → f.base + K.ns f.clo ≤ ce.pos
section
variable {K : Cx} {m : VMD} {t : ThD} {i j o : Nat}
theorem OI.start : OI K m t 0 0 := ⟨Nat.zero_le _, fun _ _ _ _ _ _ k _ _ hk => by omega⟩
theorem OI.at (h : OI K m t j o) (T : ThOk K m.cells i t) {c : Nat} (hc : t.opn[o]? = some c) {fm : FmD} (hj : t.frames[j]? = some fm) : ∃ ce, m.cells[c]? = some ce ∧ ce.th = (i : Int) ∧ fm.base ≤ ce.pos := by
  obtain ⟨ce, h1, h2, f, h3, h4, h5⟩ := T.op.ok c (List.mem_of_getElem? hc)
  obtain ⟨k, hk⟩ := List.getElem?_of_mem h3
  refine ⟨ce, h1, h2, ?_⟩
  by_cases hkj : k < j
  · have := h.hi o c ce (Nat.le_refl _) hc h1 k f hk hkj
    omega
  · have := T.fr.mono (k - j) j fm f hj (by rw [show j + (k - j) = k by omega]; exact hk)
    omega
theorem OI.next (h : OI K m t j o) (hl : o < t.opn.length) : OI K m t j (o + 1) := ⟨hl, fun q c ce hq => h.hi q c ce (by omega)⟩
theorem OI.full (h : OI K m t j o) (hl : o = t.opn.length) : OI K m t (j + 1) o := ⟨h.le, fun q c ce hq hc => by
  have := (List.getElem?_eq_some_iff.1 hc).1
  omega⟩
theorem opn_pos (T : ThOk K m.cells i t) {q r c d : Nat} {ce de : CeD} (hqr : q < r) (hc : t.opn[q]? = some c) (hd : t.opn[r]? = some d) (h1 : m.cells[c]? = some ce) (h2 : m.cells[d]? = some de) : ce.pos < de.pos := by
  have hp := List.pairwise_iff_getElem.1 T.op.so
  obtain ⟨lq, eq⟩ := List.getElem?_eq_some_iff.1 hc
  obtain ⟨lr, er⟩ := List.getElem?_eq_some_iff.1 hd
  have := hp q r lq lr hqr
  rw [eq, er] at this
  simpa [h1, h2] using this
theorem OI.up (h : OI K m t j o) (T : ThOk K m.cells i t) {c : Nat} {ce : CeD} (hc : t.opn[o]? = some c) (h1 : m.cells[c]? = some ce) {fm : FmD} (hj : t.frames[j]? = some fm) (hp : fm.base + K.ns fm.clo ≤ ce.pos) : OI K m t (j + 1) o := by
  refine ⟨h.le, fun q d de hq hd h2 k f hk hkj => ?_⟩
  have hpos : ce.pos ≤ de.pos := by
    rcases Nat.lt_or_ge o q with hlt | hge
    · exact Nat.le_of_lt (opn_pos T hlt hc hd h1 h2)
    · have : q = o := by omega
      subst this
      rw [hc] at hd
      cases hd
      rw [h1] at h2
      cases h2
      exact Nat.le_refl _
  rcases Nat.lt_or_ge k j with hlt | hge
  · exact h.hi q d de hq hd h2 k f hk hlt
  · have : k = j := by omega
    subst this
    rw [hj] at hk
    cases hk
    omega
theorem OI.end (h : OI K m t j o) (T : ThOk K m.cells i t) (hj : j = t.frames.length) : o = t.opn.length := by
  rcases Nat.lt_or_ge o t.opn.length with hlt | hge
  · have hc := List.getElem?_eq_getElem hlt
    obtain ⟨ce, h1, h2, f, h3, h4, h5⟩ := T.op.ok _ (List.mem_of_getElem? hc)
    obtain ⟨k, hk⟩ := List.getElem?_of_mem h3
    have := h.hi o _ ce (Nat.le_refl _) hc h1 k f hk (by have := (List.getElem?_eq_some_iff.1 hk).1; omega)
    omega
  · have := h.le; omega
end
end Go.Proofs.Qxb6500574aGreatDoor
