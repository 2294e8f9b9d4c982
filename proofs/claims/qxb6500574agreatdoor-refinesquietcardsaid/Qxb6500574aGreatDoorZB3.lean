/-
  THE WALKS of tablem: a table turned; Set.
-/
import Derived.Test.Qxb6500574aGreatDoorZB2
import Derived.Test.Qxb6500574aGreatDoorURg
namespace Go.Proofs.Qxb6500574aGreatDoor
open Go Go.RowKit
set_option linter.unusedVariables false
set_option linter.unusedSimpArgs false
theorem set_in {α : Type} {xs : List α} {h i : Nat} {x y : α} (hi : (xs.set h y)[i]? = some x) : (i = h ∧ x = y) ∨ (i ≠ h ∧ xs[i]? = some x) := by
  by_cases e : h = i
  · subst e
    have hl : h < xs.length := by
      rcases Nat.lt_or_ge h xs.length with z | z
      · exact z
      · rw [List.getElem?_eq_none (by simp; omega)] at hi; cases hi
    rw [List.getElem?_set_self hl] at hi
    exact .inl ⟨rfl, (Option.some.inj hi).symm⟩
  · rw [List.getElem?_set_ne e] at hi
    exact .inr ⟨fun z => e z.symm, hi⟩
section
variable {w w1 : World} {o o1 : Nat → Nat} {bt bn h : Nat} {s sl sl' : Sl} {xs : List TmX} {l l' : PrL}
/-- a table's row has turned in place -/
theorem TmRep.same (r : TmRep w o bt bn s xs) (hx : xs[h]? = some (sl, l)) (t : Stp (fun k => k = 40 + h) w o w1 o1) (n : Row w1 o1 (40 + h) 217 6 sl l'.length (l'.flatMap eCells)) (hl : l'.length = l.length) : TmRep w1 o1 bt bn s (xs.set h (sl, l')) := by
  have hlt := (List.getElem?_eq_some_iff.1 hx).1
  have l12 := r.le
  have e1 : (xs.set h (sl, l')).flatMap trV = xs.flatMap trV := by
    rw [flatMap_set trV 1 trV_len xs h 0 (sl, l) (sl, l') (sl.v l.length) hx (by omega) (by simp [trV, hl])]
    have a := flatMap_at trV 1 trV_len xs h 0 _ hx (by omega)
    apply List.ext_getElem?
    intro i
    by_cases e : h * 1 + 0 = i
    · subst e
      rw [List.getElem?_set_self (by rw [flatMap_len _ 1 trV_len]; omega), a]
      rfl
    · rw [List.getElem?_set_ne e]
  refine ⟨?_, ?_, fun i x hi => ?_, by rw [List.length_set]; exact l12, fun x hx2 => ?_⟩
  · rw [List.length_set]; exact r.here.st t (by omega)
  · rw [List.length_set, e1]; exact r.row.st t (by omega)
  · rcases set_in hi with ⟨rfl, rfl⟩ | ⟨e, hi⟩
    · exact n
    · exact (r.one i x hi).st t (by omega)
  · rcases List.mem_or_eq_of_mem_set hx2 with z | z
    · exact r.ld x z
    · rw [z]; show l'.length ≤ 32; rw [hl]; exact r.ld _ (List.mem_of_getElem? hx)
/-- a table's row lies elsewhere, or is longer -/
theorem TmRep.turn (r : TmRep w o bt bn s xs) (hx : xs[h]? = some (sl, l)) (t : Stp (fun k => k = 40 + h) w o w1 o1) (n : Row w1 o1 (40 + h) 217 6 sl' l'.length (l'.flatMap eCells)) (hl : l'.length ≤ 32) {g : Nat} (ga : s.a = some ⟨g, 0, none⟩) :
    TmRep (w1.setCell ⟨g, h, none⟩ (.slice sl'.a l'.length sl'.c)) o1 bt bn s (xs.set h (sl', l')) ∧ Stp isTm w o (w1.setCell ⟨g, h, none⟩ (.slice sl'.a l'.length sl'.c)) o1 := by
  have hlt := (List.getElem?_eq_some_iff.1 hx).1
  have l12 := r.le
  have r1 := r.row.st t (by omega)
  obtain ⟨p1, p2⟩ := r1.put ga h (.slice sl'.a l'.length sl'.c) (ys := (xs.set h (sl', l')).flatMap trV) (by
    rw [flatMap_set trV 1 trV_len xs h 0 (sl, l) (sl', l') (.slice sl'.a l'.length sl'.c) hx (by omega) (by simp [trV])]
    congr 1
    omega)
  refine ⟨⟨?_, ?_, fun i x hi => ?_, by rw [List.length_set]; exact l12, fun x hx2 => ?_⟩, (t.weaken (fun k hk => by unfold isTm; omega)).trans (p2.weaken (fun k hk => by unfold isTm; omega))⟩
  · rw [List.length_set]; exact (r.here.st t (by omega)).st p2 (by omega)
  · rw [List.length_set]; exact p1
  · rcases set_in hi with ⟨rfl, rfl⟩ | ⟨e, hi⟩
    · exact n.st p2 (by omega)
    · exact ((r.one i x hi).st t (by omega)).st p2 (by omega)
  · rcases List.mem_or_eq_of_mem_set hx2 with z | z
    · exact r.ld x z
    · rw [z]; exact hl
/-- a value of table h turned -/
theorem TmRep.setV (r : TmRep w o bt bn s xs) (hx : xs[h]? = some (sl, l)) {p q : Nat} {e : Vl × Vl} (hj : l[p]? = some e) (qa : sl.a = some ⟨q, 0, none⟩) (v : Vl) :
    TmRep (((w.setCell ⟨q, p * 6 + 3, none⟩ (.int .i64 v.t)).setCell ⟨q, p * 6 + 4, none⟩ (.int .u64 v.n)).setCell ⟨q, p * 6 + 5, none⟩ (sv v.s)) o bt bn s (xs.set h (sl, l.set p (e.1, v))) ∧
    Stp isTm w o (((w.setCell ⟨q, p * 6 + 3, none⟩ (.int .i64 v.t)).setCell ⟨q, p * 6 + 4, none⟩ (.int .u64 v.n)).setCell ⟨q, p * 6 + 5, none⟩ (sv v.s)) o := by
  have hp := (List.getElem?_eq_some_iff.1 hj).1
  have lt := (List.getElem?_eq_some_iff.1 hx).1
  have l12 := r.le
  obtain ⟨a1, a2⟩ := (r.one h _ hx).put qa (p * 6 + 3) (.int .i64 v.t) (ys := (l.set p (e.1, ⟨v.t, e.2.n, e.2.s⟩)).flatMap eCells) (by rw [flatMap_set eCells 6 eCells_len l p 3 e _ (.int .i64 v.t) hj (by omega) rfl])
  have hj1 : (l.set p (e.1, ⟨v.t, e.2.n, e.2.s⟩))[p]? = some (e.1, ⟨v.t, e.2.n, e.2.s⟩) := List.getElem?_set_self hp
  obtain ⟨b1, b2⟩ := a1.put qa (p * 6 + 4) (.int .u64 v.n) (ys := (l.set p (e.1, ⟨v.t, v.n, e.2.s⟩)).flatMap eCells) (by
    have := flatMap_set eCells 6 eCells_len _ p 4 _ (e.1, ⟨v.t, v.n, e.2.s⟩) (.int .u64 v.n) hj1 (by omega) rfl
    rw [List.set_set] at this
    exact this.symm)
  have hj2 : (l.set p (e.1, ⟨v.t, v.n, e.2.s⟩))[p]? = some (e.1, ⟨v.t, v.n, e.2.s⟩) := List.getElem?_set_self hp
  obtain ⟨c1, c2⟩ := b1.put qa (p * 6 + 5) (sv v.s) (ys := (l.set p (e.1, v)).flatMap eCells) (by
    have := flatMap_set eCells 6 eCells_len _ p 5 _ (e.1, v) (sv v.s) hj2 (by omega) rfl
    rw [List.set_set] at this
    exact this.symm)
  have T := (a2.trans b2).trans c2
  refine ⟨r.same hx T ?_ (List.length_set ..), T.weaken (fun k hk => by unfold isTm; omega)⟩
  rw [List.length_set]
  exact c1
end
end Go.Proofs.Qxb6500574aGreatDoor
