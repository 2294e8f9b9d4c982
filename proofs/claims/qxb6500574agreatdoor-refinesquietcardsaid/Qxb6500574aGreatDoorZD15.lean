/-
  THE WALKS of compm: step: a value is turned whole. No walk.
-/
import Derived.Test.Qxb6500574aGreatDoorZD14
namespace Go.Proofs.Qxb6500574aGreatDoor
open Go Go.RowKit
set_option linter.unusedVariables false
set_option linter.unusedSimpArgs false
section
variable {w W W1 : World} {A A1 A2 : RnP} {N : List Nd} {root : Nat} {M m : MD} {xb : Nat}
theorem RB.setVv (B : RB w A N root W A1 m) (hx : ∃ x, A1.X[m.cur]? = some x ∧ x.b = xb) {g c L : Nat} (h4 : W.cell? ⟨xb, 4, none⟩ = some (.slice (some ⟨g, 0, none⟩) L c)) {i : Nat} (hi : i < m.th.vals.length) (v : Vl) :
    (∀ j, W.frozen? ⟨g, j, none⟩ = false) ∧ ∃ A', RB w A N root (((W.setCell ⟨g, i * 3, none⟩ (.int .i64 v.t)).setCell ⟨g, i * 3 + 1, none⟩ (.int .u64 v.n)).setCell ⟨g, i * 3 + 2, none⟩ (sv v.s)) A' (m.upT fun t => { t with vals := t.vals.set i v }) ∧ MSt W A1 (((W.setCell ⟨g, i * 3, none⟩ (.int .i64 v.t)).setCell ⟨g, i * 3 + 1, none⟩ (.int .u64 v.n)).setCell ⟨g, i * 3 + 2, none⟩ (sv v.s)) A' := by
  obtain ⟨x, hx, rfl⟩ := hx
  have O := B.r.one _ _ _ (th_cur B.c) hx
  have c4 := O.b.has.cell 4
  simp only [thV, List.getElem?_toArray, List.getElem?_cons_succ, List.getElem?_cons_zero, Sl.v] at c4
  rw [h4] at c4
  injection c4 with c4
  injection c4 with e1 e2 e3
  obtain ⟨⟨vt, vn, vs⟩, hv0⟩ : ∃ v, m.th.vals[i]? = some v := ⟨_, List.getElem?_eq_getElem hi⟩
  obtain ⟨g', ga, gc, _, gl, gx, gf⟩ := O.vl.cells (by omega)
  have eg : g' = g := by
    rw [← e1] at ga
    injection ga with ga
    injection ga with ga
    exact ga.symm
  subst eg
  obtain ⟨p1, p2⟩ := O.vl.put ga (i * 3 + 0) (.int .i64 v.t) (ys := (m.th.vals.set i ⟨v.t, vn, vs⟩).flatMap vCells) (flatMap_set vCells 3 vCells_len m.th.vals i 0 ⟨vt, vn, vs⟩ ⟨v.t, vn, vs⟩ (.int .i64 v.t) hv0 (by decide) rfl).symm
  have h1 : (m.th.vals.set i ⟨v.t, vn, vs⟩)[i]? = some ⟨v.t, vn, vs⟩ := List.getElem?_set_self hi
  obtain ⟨q1, q2⟩ := p1.put ga (i * 3 + 1) (.int .u64 v.n) (ys := ((m.th.vals.set i ⟨v.t, vn, vs⟩).set i ⟨v.t, v.n, vs⟩).flatMap vCells) (flatMap_set vCells 3 vCells_len _ i 1 ⟨v.t, vn, vs⟩ ⟨v.t, v.n, vs⟩ (.int .u64 v.n) h1 (by decide) rfl).symm
  have h2 : ((m.th.vals.set i ⟨v.t, vn, vs⟩).set i ⟨v.t, v.n, vs⟩)[i]? = some ⟨v.t, v.n, vs⟩ := List.getElem?_set_self (by rw [List.length_set]; exact hi)
  obtain ⟨r1, r2⟩ := q1.put ga (i * 3 + 2) (sv v.s) (ys := (((m.th.vals.set i ⟨v.t, vn, vs⟩).set i ⟨v.t, v.n, vs⟩).set i v).flatMap vCells) (flatMap_set vCells 3 vCells_len _ i 2 ⟨v.t, v.n, vs⟩ v (sv v.s) h2 (by decide) rfl).symm
  have es : ((m.th.vals.set i ⟨v.t, vn, vs⟩).set i ⟨v.t, v.n, vs⟩).set i v = m.th.vals.set i v := by simp
  rw [es] at r1
  have t := (p2.trans q2).trans r2
  obtain ⟨s1, s2⟩ := B.r.turn (th_cur B.c) hx (t.weaken (fun l hl => by omega)) (x' := x) (T' := { m.th with vals := m.th.vals.set i v }) ⟨by
    have := O.b.st t (by omega)
    have e : thV x { m.th with vals := m.th.vals.set i v } = thV x m.th := by simp [thV]
    rw [e]
    exact this, O.tk.st t (by omega), by
    show Row _ _ _ _ _ _ (m.th.vals.set i v).length _
    rw [List.length_set]
    exact r1⟩ rfl
  exact ⟨gf, _, ⟨s1, B.s.trans s2, by rw [upT_len]; exact B.c⟩, s2⟩
end
end Go.Proofs.Qxb6500574aGreatDoor
