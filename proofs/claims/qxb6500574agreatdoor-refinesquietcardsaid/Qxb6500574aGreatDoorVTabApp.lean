/-
  moon: A TABLE GROWS: a place more in the list, a place more in the array part. No walk.
-/
import Derived.Test.Qxb6500574aGreatDoorVTabs
namespace Go.Proofs.Qxb6500574aGreatDoor
open Go Go.RowKit
set_option linter.unusedVariables false
set_option linter.unusedSimpArgs false
section
variable {w w1 w2 : World} {o : Nat → Nat} {bt bn n h g : Nat} {s : Sl} {xs : List (TabD × TbL)} {t : TabD} {l : TbL}
theorem TabsRep.appArr (r : TabsRep w o bt bn s n xs) (hx : xs[h]? = some (t, l)) (hg : s.a = some ⟨g, 0, none⟩) (hn : h < n) (hf : Fr (fun _ => False) w w1) (p : Nat) {g2 cap : Nat}
    (q1 : w2.ownsRow 0 21 1 (.slice (some ⟨g2, 0, none⟩) (t.arr.length + 1) cap) (t.arr.length + 1) (t.arr.flatMap aCells ++ [.int .i32 p])) (q2 : Fr (fun j => (l.arr.v t.arr.length).ownBlock = some j) w1 w2) (q3 : (l.arr.v t.arr.length).ownBlock = some g2 ∨ w.heap.size ≤ g2) (q4 : g2 < w2.heap.size) :
    (∀ j, j < 6 → w2.cell? ⟨g, h * 6 + j, none⟩ = (tbCells (t, l))[j]?) ∧ (∀ j, w2.frozen? ⟨g, j, none⟩ = false) ∧ g < w2.heap.size ∧
    TabsRep (w2.setCell ⟨g, h * 6 + 1, none⟩ (.slice (some ⟨g2, 0, none⟩) (t.arr.length + 1) cap)) (upd o g2 (101 + 5 * h)) bt bn s n (xs.set h ({ t with arr := t.arr ++ [p] }, { l with arr := ⟨some ⟨g2, 0, none⟩, cap⟩ })) ∧ Stp (isB h) w o (w2.setCell ⟨g, h * 6 + 1, none⟩ (.slice (some ⟨g2, 0, none⟩) (t.arr.length + 1) cap)) (upd o g2 (101 + 5 * h)) := by
  have one := r.one h _ hx
  obtain ⟨a1, a2⟩ := one.arr.app hf q1 q2 q3 q4
  have row2 := r.row.st a2 (by omega)
  have hi : h < xs.length := (List.getElem?_eq_some_iff.1 hx).1
  obtain ⟨g', e1, _, _, e4, e5, e6⟩ := row2.cells (by omega)
  rw [hg] at e1
  cases e1
  obtain ⟨p1, p2⟩ := TabsRep.rowPut (t' := { t with arr := t.arr ++ [p] }) (l' := { l with arr := ⟨some ⟨g2, 0, none⟩, cap⟩ }) (j := 1) (u := .slice (some ⟨g2, 0, none⟩) (t.arr.length + 1) cap) row2 hx hg (by omega) (by simp [tbCells])
  have one2 := one
  have q : Stp (isB h) w o (w2.setCell ⟨g, h * 6 + 1, none⟩ (.slice (some ⟨g2, 0, none⟩) (t.arr.length + 1) cap)) (upd o g2 (101 + 5 * h)) := (a2.weaken (fun k hk => .inr (by omega))).trans (p2.weaken (fun k hk => .inl hk))
  refine ⟨fun j hj => ?_, e6, e4, r.turn hx q p1 ⟨(one.ord.st a2 (by omega)).st p2 (by omega), ?_, (one.nums.st a2 (by omega)).st p2 (by omega), (one.strs.st a2 (by omega)).st p2 (by omega), (one.refs.st a2 (by omega)).st p2 (by omega)⟩ hn, q⟩
  · rw [e5 _ (by omega)]
    exact flatMap_at _ 6 tbCells_len xs h j _ hx hj
  · have := a1.st p2 (by omega)
    simpa [aCells] using this
theorem TabsRep.appOrd (r : TabsRep w o bt bn s n xs) (hx : xs[h]? = some (t, l)) (hg : s.a = some ⟨g, 0, none⟩) (hn : h < n) (hf : Fr (fun _ => False) w w1) (e : Vl × Vl) {g2 cap : Nat}
    (q1 : w2.ownsRow 0 259 6 (.slice (some ⟨g2, 0, none⟩) (t.order.length + 1) cap) (t.order.length + 1) (t.order.flatMap eCells ++ eCells e)) (q2 : Fr (fun j => (l.ord.v t.order.length).ownBlock = some j) w1 w2) (q3 : (l.ord.v t.order.length).ownBlock = some g2 ∨ w.heap.size ≤ g2) (q4 : g2 < w2.heap.size) :
    (∀ j, j < 6 → w2.cell? ⟨g, h * 6 + j, none⟩ = (tbCells (t, l))[j]?) ∧ (∀ j, w2.frozen? ⟨g, j, none⟩ = false) ∧ g < w2.heap.size ∧
    TabsRep (w2.setCell ⟨g, h * 6 + 0, none⟩ (.slice (some ⟨g2, 0, none⟩) (t.order.length + 1) cap)) (upd o g2 (100 + 5 * h)) bt bn s n (xs.set h ({ t with order := t.order ++ [e] }, { l with ord := ⟨some ⟨g2, 0, none⟩, cap⟩ })) ∧ Stp (isB h) w o (w2.setCell ⟨g, h * 6 + 0, none⟩ (.slice (some ⟨g2, 0, none⟩) (t.order.length + 1) cap)) (upd o g2 (100 + 5 * h)) := by
  have one := r.one h _ hx
  obtain ⟨a1, a2⟩ := one.ord.app hf q1 q2 q3 q4
  have row2 := r.row.st a2 (by omega)
  have hi : h < xs.length := (List.getElem?_eq_some_iff.1 hx).1
  obtain ⟨g', e1, _, _, e4, e5, e6⟩ := row2.cells (by omega)
  rw [hg] at e1
  cases e1
  obtain ⟨p1, p2⟩ := TabsRep.rowPut (t' := { t with order := t.order ++ [e] }) (l' := { l with ord := ⟨some ⟨g2, 0, none⟩, cap⟩ }) (j := 0) (u := .slice (some ⟨g2, 0, none⟩) (t.order.length + 1) cap) row2 hx hg (by omega) (by simp [tbCells])
  have q : Stp (isB h) w o (w2.setCell ⟨g, h * 6 + 0, none⟩ (.slice (some ⟨g2, 0, none⟩) (t.order.length + 1) cap)) (upd o g2 (100 + 5 * h)) := (a2.weaken (fun k hk => .inr (by omega))).trans (p2.weaken (fun k hk => .inl hk))
  refine ⟨fun j hj => ?_, e6, e4, r.turn hx q p1 ⟨?_, (one.arr.st a2 (by omega)).st p2 (by omega), (one.nums.st a2 (by omega)).st p2 (by omega), (one.strs.st a2 (by omega)).st p2 (by omega), (one.refs.st a2 (by omega)).st p2 (by omega)⟩ hn, q⟩
  · rw [e5 _ (by omega)]
    exact flatMap_at _ 6 tbCells_len xs h j _ hx hj
  · have := a1.st p2 (by omega)
    simpa using this
end
end Go.Proofs.Qxb6500574aGreatDoor
