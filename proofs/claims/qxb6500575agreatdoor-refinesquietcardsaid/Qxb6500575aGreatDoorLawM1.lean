/-
  THE PLAIN LAW, model and real: what they share. No program.
-/
import Derived.Test.Qxb6500575aGreatDoorPlainM
import Derived.Test.Qxb6500575aGreatDoorLaw3
namespace Go.Proofs.Qxb6500575aGreatDoor
open Go Go.RowKit
set_option linter.unusedVariables false
set_option linter.unusedSimpArgs false

def Blk.fg (b : Blk) : Blk := { b with head := -1, alt := none, wait := [] }
/-- what real and model share -/
def Ck.fg (s : Ck) : Ck := { st := s.st, opn := s.opn.map Blk.fg, code := [] }
theorem fg_pop (s : Ck) (t : UInt8) : s.fg.pop t = ((s.pop t).1.fg, (s.pop t).2) := by
  unfold Ck.pop
  cases ho : s.opn with
  | nil => simp [Ck.fg, ho]
  | cons b r =>
    simp only [Ck.fg, ho, List.map_cons]
    have e1 : (Blk.fg b).height = b.height := rfl
    have e2 : (Blk.fg b).dead = b.dead := rfl
    rw [e1, e2]
    split
    · simp [ho]
    · cases hs : s.st with
      | nil => simp [ho, hs]
      | cons x st' => simp only; split <;> simp
theorem fg_popsR : ∀ (l : List UInt8) (s : Ck), Ck.popsR l s.fg = ((Ck.popsR l s).1.fg, (Ck.popsR l s).2)
  | [], s => rfl
  | t :: ts, s => by
    unfold Ck.popsR
    rw [fg_pop]
    simp only
    split
    · rw [fg_popsR ts]
    · rfl
theorem fg_pops (s : Ck) (l : List UInt8) : s.fg.pops l = ((s.pops l).1.fg, (s.pops l).2) := fg_popsR _ _
theorem mk_pop (m : Mk) (t : UInt8) : (m.pop t).1.ck = (m.ck.pop t).1 := by
  have h1 := m.ck.pop_opn t
  have h2 := m.ck.pop_code t
  unfold Mk.pop
  show Ck.mk (m.ck.pop t).1.st m.ck.opn m.ck.code = _
  rw [← h1, ← h2]
theorem mk_pops (m : Mk) (l : List UInt8) : (m.pops l).1.ck = (m.ck.pops l).1 := by
  have h1 := m.ck.pops_opn l
  have h2 := m.ck.pops_code l
  unfold Mk.pops
  show Ck.mk (m.ck.pops l).1.st m.ck.opn m.ck.code = _
  rw [← h1, ← h2]

section
variable {s : Ck} {m : Mk}
theorem fg_st (h : s.fg = m.ck) : s.st = m.st := congrArg Ck.st h
theorem fg_opn (h : s.fg = m.ck) : s.opn.map Blk.fg = m.cs.map Ctl.blk := congrArg Ck.opn h
theorem fg_len (h : s.fg = m.ck) : s.opn.length = m.cs.length := by simpa using congrArg List.length (fg_opn h)
theorem fg_at (h : s.fg = m.ck) (k : Nat) : (s.opn[k]?).map Blk.fg = (m.cs[k]?).map Ctl.blk := by
  rw [← List.getElem?_map, fg_opn h, List.getElem?_map]
theorem fg_both (h : s.fg = m.ck) {k : Nat} {b : Blk} {c : Ctl} (hb : s.opn[k]? = some b) (hc : m.cs[k]? = some c) : b.fg = c.blk := by
  have := fg_at h k
  rw [hb, hc] at this
  simpa using this
theorem fg_cons (h : s.fg = m.ck) {b : Blk} {r : List Blk} (hb : s.opn = b :: r) : ∃ c q, m.cs = c :: q ∧ b.fg = c.blk ∧ r.map Blk.fg = q.map Ctl.blk := by
  have := fg_opn h
  rw [hb] at this
  cases hc : m.cs with
  | nil => rw [hc] at this; simp at this
  | cons c q => rw [hc] at this; simp at this; exact ⟨c, q, rfl, this.1, this.2⟩
theorem rel_pop (h : s.fg = m.ck) (t : UInt8) : (s.pop t).1.fg = (m.pop t).1.ck ∧ (s.pop t).2 = (m.pop t).2 := by
  have h1 := fg_pop s t
  rw [h] at h1
  refine ⟨?_, ?_⟩
  · rw [mk_pop, h1]
  · unfold Mk.pop; rw [h1]
theorem rel_pops (h : s.fg = m.ck) (l : List UInt8) : (s.pops l).1.fg = (m.pops l).1.ck ∧ decide ((s.pops l).2 = 0) = (m.pops l).2 := by
  have h1 := fg_pops s l
  rw [h] at h1
  refine ⟨?_, ?_⟩
  · rw [mk_pops, h1]
  · unfold Mk.pops; rw [h1]
theorem rel_swap (h : s.fg = m.ck) (i o : List UInt8) : (s.swap i o).1.fg = (m.swap i o).1.ck ∧ decide ((s.swap i o).2 = 0) = (m.swap i o).2 := by
  obtain ⟨h1, h2⟩ := rel_pops h i
  refine ⟨?_, h2⟩
  have a := congrArg Ck.st h1
  have b := congrArg Ck.opn h1
  unfold Ck.swap Mk.swap
  simp only [Ck.fg, Mk.ck] at a b ⊢
  rw [a]
  simp
  rw [b]
  unfold Mk.pops
  rfl
theorem Mk.pops_cs (m : Mk) (l : List UInt8) : (m.pops l).1.cs = m.cs := rfl
theorem Mk.pops_code (m : Mk) (l : List UInt8) : (m.pops l).1.code = m.code := rfl
theorem Mk.pop_cs (m : Mk) (l : UInt8) : (m.pop l).1.cs = m.cs := rfl
theorem Mk.pop_code (m : Mk) (l : UInt8) : (m.pop l).1.code = m.code := rfl
theorem Mk.swap_cs (m : Mk) (i o : List UInt8) : (m.swap i o).1.cs = m.cs := rfl
theorem Mk.swap_code (m : Mk) (i o : List UInt8) : (m.swap i o).1.code = m.code := rfl
theorem rel_leaves (h : s.fg = m.ck) (l : List UInt8) : (s.leaves l).1.fg = (m.pops l).1.kill.ck ∧ decide ((s.leaves l).2 = 0) = (m.pops l).2 := by
  obtain ⟨h1, h2⟩ := rel_pops h l
  unfold Ck.leaves
  have ho := s.pops_opn l
  cases hb : s.opn with
  | nil =>
    rw [hb] at ho
    rw [ho]
    have hc : m.cs = [] := by
      have := fg_len h
      rw [hb] at this
      exact List.eq_nil_of_length_eq_zero this.symm
    refine ⟨?_, h2⟩
    unfold Mk.kill
    rw [m.pops_cs, hc]
    exact h1
  | cons b r =>
    rw [hb] at ho
    rw [ho]
    obtain ⟨c, q, hc, e1, e2⟩ := fg_cons h hb
    refine ⟨?_, h2⟩
    unfold Mk.kill
    rw [m.pops_cs, hc]
    have a := congrArg Ck.st h1
    simp only [Ck.fg, Mk.ck, List.map_cons] at a ⊢
    have e3 : b.height = c.height := congrArg Blk.height e1
    have e4 : Blk.fg { b with dead := true } = Ctl.blk { c with dead := true } := by
      have g1 : b.res = resOf c.bt := congrArg Blk.res e1
      have g2 : b.carry = c.label := congrArg Blk.carry e1
      simp [Blk.fg, Ctl.blk, g1, g2, e3]
      rfl
    rw [a, e2, ← e4, e3]
theorem rel_closes (h : s.fg = m.ck) (hne : s.opn ≠ []) : s.closes.1.fg = m.closes.1.ck ∧ decide (s.closes.2 = 0) = m.closes.2 := by
  cases hb : s.opn with
  | nil => exact absurd hb hne
  | cons b r =>
    obtain ⟨c, q, hc, e1, e2⟩ := fg_cons h hb
    have g1 : b.res = resOf c.bt := congrArg Blk.res e1
    have e3 : b.height = c.height := congrArg Blk.height e1
    have k1 : s.closes = ((s.pops (resOf c.bt)).1, if (s.pops (resOf c.bt)).1.st.length ≠ c.height then 6 else (s.pops (resOf c.bt)).2) := by
      unfold Ck.closes; rw [hb, ← g1, ← e3]
    have k2 : m.closes = ((m.pops (resOf c.bt)).1, (m.pops (resOf c.bt)).2 && decide ((m.pops (resOf c.bt)).1.st.length = c.height)) := by
      unfold Mk.closes; rw [hc]
    rw [k1, k2]
    obtain ⟨h1, h2⟩ := rel_pops h (resOf c.bt)
    refine ⟨h1, ?_⟩
    simp only
    rw [← h2]
    have a : (s.pops (resOf c.bt)).1.st = (m.pops (resOf c.bt)).1.st := fg_st h1
    rw [a]
    by_cases hh : (m.pops (resOf c.bt)).1.st.length = c.height
    · simp [hh]
    · simp [hh]
theorem Mk.closes_cs (m : Mk) : m.closes.1.cs = m.cs := by
  unfold Mk.closes
  split
  · rfl
  · exact m.pops_cs _
theorem Mk.closes_code (m : Mk) : m.closes.1.code = m.code := by
  unfold Mk.closes
  split
  · rfl
  · exact m.pops_code _
theorem rel_sel (h : s.fg = m.ck) : s.sel.1.fg = m.sel.1.ck ∧ decide (s.sel.2 = 0) = m.sel.2 := by
  obtain ⟨a1, a2⟩ := rel_pops h [105]
  obtain ⟨b1, b2⟩ := rel_pop a1 0
  have b3 : ((s.pops [105]).1.pop 0).2.1 = ((m.pops [105]).1.pop 0).2.1 := by rw [b2]
  obtain ⟨c1, c2⟩ := rel_pop b1 ((s.pops [105]).1.pop 0).2.1
  unfold Ck.sel Mk.sel
  rw [← b3]
  refine ⟨?_, ?_⟩
  · have x1 := congrArg Ck.st c1
    have x2 := congrArg Ck.opn c1
    simp only [Ck.fg, Mk.ck] at x1 x2 ⊢
    rw [x1, x2, c2]
  · simp only
    rw [← b2, ← c2, ← a2]
    by_cases p1 : ((s.pops [105]).1.pop 0).2.2 <;> by_cases p2 : (((s.pops [105]).1.pop 0).1.pop ((s.pops [105]).1.pop 0).2.1).2.2 <;> simp [p1, p2]
end
end Go.Proofs.Qxb6500575aGreatDoor
