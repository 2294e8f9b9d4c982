/-
  moon: A TABLE TURNED: a place's value, a new place, the array part, the maps. No walk.
-/
import Derived.Test.Qxb6500574aGreatDoorVTh
namespace Go.Proofs.Qxb6500574aGreatDoor
open Go Go.RowKit
set_option linter.unusedVariables false
set_option linter.unusedSimpArgs false

/-- the labels of table h, and of the arena -/
def isB (h k : Nat) : Prop := k = 5 ∨ (100 + 5 * h ≤ k ∧ k < 105 + 5 * h)
theorem isB_tb {h k : Nat} (x : isB h k) : isTb k := by
  rcases x with x | x
  · exact .inr (.inl x)
  · exact .inr (.inr (by omega))
section
variable {w w1 w2 : World} {o o1 : Nat → Nat} {bt bn n h g : Nat} {s : Sl} {xs : List (TabD × TbL)} {t t' : TabD} {l l' : TbL}
theorem TabsRep.turn (r : TabsRep w o bt bn s n xs) (hx : xs[h]? = some (t, l)) (q : Stp (isB h) w o w1 o1) (row : Row w1 o1 5 247 6 s xs.length ((xs.set h (t', l')).flatMap tbCells)) (one : TabOne w1 o1 h (t', l')) (hn : h < n) :
    TabsRep w1 o1 bt bn s n (xs.set h (t', l')) := by
  have hi : h < xs.length := (List.getElem?_eq_some_iff.1 hx).1
  refine ⟨?_, by simpa using row, fun j y hj => ?_, fun j y hj hjn => ?_, by simpa using r.le⟩
  · have := r.here.st q (fun x => by rcases x with x | x <;> omega)
    simpa using this
  · by_cases e : h = j
    · subst e
      rw [List.getElem?_set_self hi] at hj
      cases hj
      exact one
    · rw [List.getElem?_set_ne e] at hj
      refine (r.one j y hj).st q (fun d hd hc => ?_)
      rcases hc with hc | hc <;> omega
  · rw [List.getElem?_set_ne (by omega)] at hj
    exact r.wait j y hj hjn
/-- where the arena lies, the cells of table h -/
theorem TabsRep.at (r : TabsRep w o bt bn s n xs) (hx : xs[h]? = some (t, l)) : ∃ g, s.a = some ⟨g, 0, none⟩ ∧ xs.length ≤ s.c ∧ o g = 5 ∧ g < w.heap.size ∧ (∀ j, j < 6 → w.cell? ⟨g, h * 6 + j, none⟩ = (tbCells (t, l))[j]?) ∧ ∀ j, w.frozen? ⟨g, j, none⟩ = false := by
  have hi : h < xs.length := (List.getElem?_eq_some_iff.1 hx).1
  obtain ⟨g, h1, h2, h3, h4, h5, h6⟩ := r.row.cells (by omega)
  refine ⟨g, h1, h2, h3, h4, fun j hj => ?_, h6⟩
  rw [h5 _ (by omega)]
  exact flatMap_at _ 6 tbCells_len xs h j _ hx hj
/-- a cell of the table's own struct -/
theorem TabsRep.rowPut (row : Row w o 5 247 6 s xs.length (xs.flatMap tbCells)) (hx : xs[h]? = some (t, l)) (hg : s.a = some ⟨g, 0, none⟩) {j : Nat} (hj : j < 6) {u : Value} (e : tbCells (t', l') = (tbCells (t, l)).set j u) :
    Row (w.setCell ⟨g, h * 6 + j, none⟩ u) o 5 247 6 s xs.length ((xs.set h (t', l')).flatMap tbCells) ∧ Stp (fun k => k = 5) w o (w.setCell ⟨g, h * 6 + j, none⟩ u) o :=
  row.put hg (h * 6 + j) u (flatMap_set _ 6 tbCells_len xs h j _ _ u hx hj e).symm
/-- the count of the dead -/
theorem TabsRep.setDead (r : TabsRep w o bt bn s n xs) (hx : xs[h]? = some (t, l)) (hg : s.a = some ⟨g, 0, none⟩) (hn : h < n) (d : Nat) :
    TabsRep (w.setCell ⟨g, h * 6 + 5, none⟩ (.int .i64 d)) o bt bn s n (xs.set h ({ t with dead := d }, l)) ∧ Stp (isB h) w o (w.setCell ⟨g, h * 6 + 5, none⟩ (.int .i64 d)) o := by
  obtain ⟨r1, r2⟩ := TabsRep.rowPut (t' := { t with dead := d }) (l' := l) (j := 5) (u := .int .i64 d) r.row hx hg (by omega) rfl
  have q : Stp (isB h) w o (w.setCell ⟨g, h * 6 + 5, none⟩ (.int .i64 d)) o := r2.weaken (fun k hk => .inl hk)
  have one := (r.one h _ hx).st r2 (fun j _ => by omega)
  exact ⟨r.turn hx q r1 ⟨one.ord, one.arr, one.nums, one.strs, one.refs⟩ hn, q⟩
/-- a row of the table turned in its own block(s), the struct stays -/
theorem TabsRep.inRow (r : TabsRep w o bt bn s n xs) (hx : xs[h]? = some (t, l)) (hn : h < n) (q : Stp (fun k => 100 + 5 * h ≤ k ∧ k < 105 + 5 * h) w o w1 o1) (e : tbCells (t', l) = tbCells (t, l)) (one : TabOne w1 o1 h (t', l)) :
    TabsRep w1 o1 bt bn s n (xs.set h (t', l)) ∧ Stp (isB h) w o w1 o1 := by
  have q2 : Stp (isB h) w o w1 o1 := q.weaken (fun k hk => .inr hk)
  refine ⟨r.turn hx q2 ?_ one hn, q2⟩
  have := r.row.st q (by omega)
  have e2 : (xs.set h (t', l)).flatMap tbCells = xs.flatMap tbCells := by
    have hi : h < xs.length := (List.getElem?_eq_some_iff.1 hx).1
    rw [flatMap_set _ 6 tbCells_len xs h 0 (t, l) (t', l) (l.ord.v t.order.length) hx (by omega) (by rw [e]; rfl)]
    apply List.ext_getElem?
    intro j
    rw [List.getElem?_set]
    split
    · rename_i ej
      subst ej
      rw [flatMap_at _ 6 tbCells_len xs h 0 _ hx (by omega)]
      split
      · rfl
      · rename_i hh
        rw [flatMap_len _ 6 tbCells_len] at hh
        omega
    · rfl
  rw [e2]
  exact this
/-- a place's value -/
theorem ord_set3 (xs : List (Vl × Vl)) (p : Nat) {e : Vl × Vl} (h : xs[p]? = some e) (v : Vl) : (((xs.flatMap eCells).set (p * 6 + 3) (.int .i64 v.t)).set (p * 6 + 4) (.int .u64 v.n)).set (p * 6 + 5) (sv v.s) = (xs.set p (e.1, v)).flatMap eCells := by
  have hp : p < xs.length := (List.getElem?_eq_some_iff.1 h).1
  rw [← flatMap_set _ 6 eCells_len xs p 3 e (e.1, ⟨v.t, e.2.n, e.2.s⟩) (.int .i64 v.t) h (by omega) rfl]
  rw [← flatMap_set _ 6 eCells_len (xs.set p (e.1, ⟨v.t, e.2.n, e.2.s⟩)) p 4 (e.1, ⟨v.t, e.2.n, e.2.s⟩) (e.1, ⟨v.t, v.n, e.2.s⟩) (.int .u64 v.n) (by rw [List.getElem?_set_self hp]) (by omega) rfl]
  rw [List.set_set]
  rw [← flatMap_set _ 6 eCells_len (xs.set p (e.1, ⟨v.t, v.n, e.2.s⟩)) p 5 (e.1, ⟨v.t, v.n, e.2.s⟩) (e.1, v) (sv v.s) (by rw [List.getElem?_set_self hp]) (by omega) rfl]
  rw [List.set_set]
theorem TabsRep.setVal (r : TabsRep w o bt bn s n xs) (hx : xs[h]? = some (t, l)) (hn : h < n) {go p : Nat} (hg : l.ord.a = some ⟨go, 0, none⟩) {e : Vl × Vl} (hp : t.order[p]? = some e) (v : Vl) :
    TabsRep (((w.setCell ⟨go, p * 6 + 3, none⟩ (.int .i64 v.t)).setCell ⟨go, p * 6 + 4, none⟩ (.int .u64 v.n)).setCell ⟨go, p * 6 + 5, none⟩ (sv v.s)) o bt bn s n (xs.set h ({ t with order := t.order.set p (e.1, v) }, l)) ∧ Stp (isB h) w o (((w.setCell ⟨go, p * 6 + 3, none⟩ (.int .i64 v.t)).setCell ⟨go, p * 6 + 4, none⟩ (.int .u64 v.n)).setCell ⟨go, p * 6 + 5, none⟩ (sv v.s)) o := by
  have one := r.one h _ hx
  obtain ⟨r1, s1⟩ := one.ord.put hg (p * 6 + 3) (.int .i64 v.t) rfl
  obtain ⟨r2, s2⟩ := r1.put hg (p * 6 + 4) (.int .u64 v.n) rfl
  obtain ⟨r3, s3⟩ := r2.put hg (p * 6 + 5) (sv v.s) (ord_set3 t.order p hp v)
  have q := (s1.trans s2).trans s3
  refine r.inRow hx hn (q.weaken (fun k hk => by omega)) (by simp [tbCells]) ⟨?_, one.arr.st q (by omega), one.nums.st q (by omega), one.strs.st q (by omega), one.refs.st q (by omega)⟩
  simpa using r3
end
end Go.Proofs.Qxb6500574aGreatDoor
