/-
  moon: WHAT THE MACHINE'S PARTS KEEP TO: words. No memory, no walk.
-/
import Derived.Test.Qxb6500574aGreatDoorVPlain
namespace Go.Proofs.Qxb6500574aGreatDoor

/-- what a table's own parts keep to -/
structure TFit (t : TabD) : Prop where
  ol : t.order.length ≤ 32
  al : t.arr.length ≤ 32
  ap : ∀ p ∈ t.arr, p < t.order.length
  np : ∀ e ∈ t.nums, e.2 < t.order.length
  nb : ∀ e ∈ t.nums, e.1 < 18446744073709551616
  sm : t.arr.length + t.nums.length ≤ t.order.length
  nk : ∀ e ∈ t.nums, ∃ x, t.order[e.2]? = some x ∧ x.1.n = e.1
  sp : ∀ e ∈ t.strs, e.2 < t.order.length
  rp : ∀ e ∈ t.refs, e.2 < t.order.length
  dd : t.dead = t.order.countP (fun e => isNilV e.2)
def findI (o : Option Nat) : Int := match o with | none => -1 | some p => p
theorem look_mem {α : Type} [BEq α] {l : List (α × Nat)} {k : α} {p : Nat} (h : look l k = some p) : ∃ e ∈ l, e.2 = p := by
  unfold look at h
  cases hf : l.find? (fun e => e.1 == k) with
  | none => rw [hf] at h; cases h
  | some e =>
    rw [hf] at h
    simp at h
    exact ⟨e, List.mem_of_find?_eq_some hf, h⟩
theorem TFit.find {t : TabD} (h : TFit t) {k : Vl} {i : Int} {p : Nat} (hf : t.find k i = some p) : p < t.order.length := by
  unfold TabD.find at hf
  split at hf
  · exact h.ap p (List.mem_of_getElem? hf)
  · split at hf
    · obtain ⟨e, h1, h2⟩ := look_mem hf; rw [← h2]; exact h.np e h1
    · split at hf
      · obtain ⟨e, h1, h2⟩ := look_mem hf; rw [← h2]; exact h.sp e h1
      · obtain ⟨e, h1, h2⟩ := look_mem hf; rw [← h2]; exact h.rp e h1
/-- valid -/
def validV (m : VMD) (v : Vl) : Bool :=
  if !wellV v then false
  else if v.t = 2 then (!isNan v.n || v.n == nanB)
  else if v.t = 4 then decide (v.n < m.tabs.length)
  else if v.t = 5 then decide (v.n < m.clos.length)
  else if v.t = 7 then decide (v.n < m.ths.length)
  else true
/-- the open list names cells of the stack -/
structure OpnOk (m : VMD) (t : ThD) : Prop where
  ok : ∀ c ∈ t.opn, ∃ ce, m.cells[c]? = some ce ∧ ce.pos < t.stack.length
  ol : t.opn.length ≤ 100000
  sl : t.stack.length ≤ 100000
  cl : m.cells.length ≤ 100000
end Go.Proofs.Qxb6500574aGreatDoor
