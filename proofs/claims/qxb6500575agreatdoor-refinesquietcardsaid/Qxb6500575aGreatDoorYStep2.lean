/-
  runm.step: the locals are written; the stack's second value is written. No walk.
-/
import Derived.Test.Qxb6500575aGreatDoorYStep1
import Derived.Test.Qxb6500575aGreatDoorCk2
namespace Go.Proofs.Qxb6500575aGreatDoor
open Go Go.RowKit
set_option linter.unusedVariables false
set_option linter.unusedSimpArgs false

theorem bv_setB (l : List BV) (i : Nat) {b : BV} (h : l[i]? = some b) (b' : BV) : ((bvCells l).set (i * 2 + 0) (.int .u8 b'.t.toNat)).set (i * 2 + 1) (.int .i64 b'.v) = bvCells (l.set i b') := by
  have hi : i < l.length := (List.getElem?_eq_some_iff.1 h).1
  unfold bvCells
  rw [← flatMap_set _ 2 (fun _ => rfl) l i 0 b ⟨b'.t, b.v⟩ (.int .u8 b'.t.toNat) h (by omega) rfl]
  rw [← flatMap_set _ 2 (fun _ => rfl) (l.set i ⟨b'.t, b.v⟩) i 1 ⟨b'.t, b.v⟩ b' (.int .i64 b'.v) (by rw [List.getElem?_set_self hi]) (by omega) rfl]
  rw [List.set_set]
theorem bv_setV (l : List BV) (i : Nat) {b : BV} (h : l[i]? = some b) (b' : BV) (ht : b'.t = b.t) : (bvCells l).set (i * 2 + 1) (.int .i64 b'.v) = bvCells (l.set i b') := by
  unfold bvCells
  rw [← flatMap_set _ 2 (fun _ => rfl) l i 1 b b' (.int .i64 b'.v) h (by omega) (by rw [← ht]; rfl)]
section
variable {R : MP} {m : MS} {w w0 : World} {L L0 : NL} {K K0 : ML} {lv : Value} {loc : List V} {bx : Nat} {c : Ins}
theorem StW.setLoc {g ln lc : Nat} (h : StW R (.slice (some ⟨g, 0, none⟩) ln lc) loc w0 w L0 L K0 K m bx c) {j : Nat} {u v : V} (hj : loc.reverse[j]? = some u) (ht : v.ty = u.ty) :
    StW R (.slice (some ⟨g, 0, none⟩) ln lc) (loc.reverse.set j v).reverse w0 (w.setCell ⟨g, j * 2 + 1, none⟩ (.int .i64 v.num)) L0 L K0 K m bx c := by
  have hF : Fr (fun k => (Value.slice (some ⟨g, 0, none⟩) ln lc).ownBlock = some k) w (w.setCell ⟨g, j * 2 + 1, none⟩ (.int .i64 v.num)) := Fr.setCell (S := fun k => (Value.slice (some ⟨g, 0, none⟩) ln lc).ownBlock = some k) (Fr.refl _ _) (p := ⟨g, j * 2 + 1, none⟩) (.inl rfl) _
  have ho := h.loc.own
  have hln := owns_len ho
  rw [hln] at ho
  have hs := (ho.stored (j * 2 + 1) (.int .i64 v.num)).1
  refine ⟨h.mw.setLoc h.loc hF, ⟨?_, h.loc.ap⟩, h.box.fr hF h.own.2.2, ?_, h.own⟩
  · have e : (stCells loc).set (j * 2 + 1) (.int .i64 v.num) = stCells (loc.reverse.set j v).reverse := by
      unfold stCells
      rw [List.reverse_reverse, List.map_set]
      exact bv_setV (loc.reverse.map V.bv) j (b := u.bv) (by rw [List.getElem?_map, hj]; rfl) v.bv ht
    rw [e] at hs
    rw [hln]
    simpa using hs
  · exact h.step.trans ⟨hF.weaken (fun _ _ h => .inr h), fun _ _ h => h, fun _ _ h => h⟩
end
section
variable {w : World} {bn : Nat} {q : NF} {L : NL} {x : ND}
/-- the two values on top -/
theorem NRep.top2 (h : NRep w bn q L x) {b a : V} {r : List V} (hst : x.st = b :: a :: r) : ∃ g, L.sa = some ⟨g, 0, none⟩ ∧ w.cell? ⟨g, (r.length + 1) * 2, none⟩ = some (.int .u8 b.ty.toNat) ∧ w.cell? ⟨g, (r.length + 1) * 2 + 1, none⟩ = some (.int .i64 b.num) ∧ w.cell? ⟨g, r.length * 2, none⟩ = some (.int .u8 a.ty.toNat) ∧ w.cell? ⟨g, r.length * 2 + 1, none⟩ = some (.int .i64 a.num) ∧ g < w.heap.size ∧ r.length + 2 ≤ L.sc ∧ g ≠ bn ∧ w.frozen? ⟨g, r.length * 2, none⟩ = false ∧ w.frozen? ⟨g, r.length * 2 + 1, none⟩ = false := by
  obtain ⟨g, ha, hc⟩ := owns_some h.st (by rw [hst]; simp)
  have ho := h.st
  unfold NL.stV at ho
  rw [ha] at ho
  have hb := bvCells_at (x.st.reverse.map V.bv) (r.length + 1) b.bv (by rw [hst]; simp)
  have hb2 := bvCells_at (x.st.reverse.map V.bv) r.length a.bv (by rw [hst]; simp)
  have hlen : x.st.length = r.length + 2 := by rw [hst]; simp
  obtain ⟨cur, hcur⟩ := owns_typed ho (g := g) rfl
  refine ⟨g, ha, ?_, ?_, ?_, ?_, owns_lt ho g rfl, ?_, ?_, hcur.frozen _, hcur.frozen _⟩
  · rw [hc _ (by omega)]; exact hb.1
  · rw [hc _ (by omega)]; exact hb.2
  · rw [hc _ (by omega)]; exact hb2.1
  · rw [hc _ (by omega)]; exact hb2.2
  · rcases owns_form h.st with ⟨h1, h2, _⟩ | ⟨_, _, h1⟩
    · omega
    · omega
  · intro e
    exact owns_ne ho h.here (by decide) (by rw [← e]; rfl)
/-- the second value is written over by the first -/
theorem NRep.copyTop (h : NRep w bn q L x) {b a : V} {r : List V} (hst : x.st = b :: a :: r) {g : Nat} (hg : L.sa = some ⟨g, 0, none⟩) : NRep ((w.setCell ⟨g, r.length * 2, none⟩ (.int .u8 b.ty.toNat)).setCell ⟨g, r.length * 2 + 1, none⟩ (.int .i64 b.num)) bn q L { x with st := b :: b :: r } ∧ NStep w ((w.setCell ⟨g, r.length * 2, none⟩ (.int .u8 b.ty.toNat)).setCell ⟨g, r.length * 2 + 1, none⟩ (.int .i64 b.num)) bn L L := by
  have ho := h.st
  unfold NL.stV at ho
  rw [hg] at ho
  have hF : Fr (fun k => k = g) w ((w.setCell ⟨g, r.length * 2, none⟩ (.int .u8 b.ty.toNat)).setCell ⟨g, r.length * 2 + 1, none⟩ (.int .i64 b.num)) := Fr.setCell (S := fun k => k = g) (Fr.setCell (S := fun k => k = g) (Fr.refl _ _) (p := ⟨g, r.length * 2, none⟩) (.inl rfl) _) (p := ⟨g, r.length * 2 + 1, none⟩) (.inl rfl) _
  have hgn : g ≠ bn := fun e => owns_ne ho h.here (by decide) (by rw [← e]; rfl)
  refine ⟨⟨?_, ?_⟩, hF.weaken (fun k _ e => .inr (by rw [hg, e]; rfl)), fun _ _ h => h⟩
  · have := h.here.fr hF (fun e => hgn e.symm)
    rw [hst] at this
    exact this
  · have h1 := (ho.stored (r.length * 2) (.int .u8 b.ty.toNat)).1
    have h2 := (h1.stored (r.length * 2 + 1) (.int .i64 b.num)).1
    have e := bv_setB (x.st.reverse.map V.bv) r.length (b := a.bv) (by rw [hst]; simp) b.bv
    rw [Nat.add_zero] at e
    have e2 : (x.st.reverse.map V.bv).set r.length b.bv = (b :: b :: r).reverse.map V.bv := by
      rw [hst]
      simp [List.set_append]
    unfold stCells at h2 ⊢
    rw [show (Value.int .u8 b.ty.toNat) = .int .u8 b.bv.t.toNat from rfl, show (Value.int .i64 b.num) = .int .i64 b.bv.v from rfl, e, e2] at h2
    unfold NL.stV
    rw [hg]
    have hlen : x.st.length = (b :: b :: r).length := by rw [hst]; simp
    rw [hlen] at h2
    exact h2
end
end Go.Proofs.Qxb6500575aGreatDoor
