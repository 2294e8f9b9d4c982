/-
  THE CHECKER's STATE: a hole waits for a block's end. No walk.
-/
import Derived.Test.Qxb6500575aGreatDoorCk2
namespace Go.Proofs.Qxb6500575aGreatDoor
open Go Go.RowKit
set_option linter.unusedVariables false
set_option linter.unusedSimpArgs false
section
variable {B : Nat} {w w2 : World} {bk : Nat} {fx : CkF} {L : CkL} {s : Ck}
/-- 'b.wait = append(b.wait, fix)': o: the block that the closure was laid in first -/
theorem CkRep.pushWait (h : CkRep B w bk fx L s) (i : Nat) {b : Blk} {l : Value × Value} {go : Nat} (hb : s.opn[i]? = some b) (hgo : L.oa = some ⟨go, 0, none⟩) (hl : L.ls[i]? = some l) {v : Value} {p : Nat} (hv : HoleV w bk v p)
    {hvs : List Value} (hw0 : w.ownsRow 0 221 1 l.2 b.wait.length hvs) (hh0 : ∀ (i : Nat) u a, hvs[i]? = some u → b.wait[i]? = some a → HoleV w bk u a) (hA : AltV w bk l.1 b.alt)
    {o : Obj} {g cap : Nat} (q1 : w2.ownsRow 0 221 1 (.slice (some ⟨g, 0, none⟩) (b.wait.length + 1) cap) (b.wait.length + 1) (hvs ++ [v]))
    (q2 : Fr (fun k => l.2.ownBlock = some k) (w.alloc o) w2) (q3 : l.2.ownBlock = some g ∨ g = w.heap.size + 1) :
    (w2.cell? ⟨go, (s.opn.length - 1 - i) * 7 + 6, none⟩ = some l.2 ∧ (∀ j, w2.frozen? ⟨go, j, none⟩ = false)) ∧
    CkRep B (w2.setCell ⟨go, (s.opn.length - 1 - i) * 7 + 6, none⟩ (.slice (some ⟨g, 0, none⟩) (b.wait.length + 1) cap)) bk fx { L with ls := L.ls.set i (l.1, .slice (some ⟨g, 0, none⟩) (b.wait.length + 1) cap) } { s with opn := s.opn.set i { b with wait := b.wait ++ [p] } } ∧
    CkStep w (w2.setCell ⟨go, (s.opn.length - 1 - i) * 7 + 6, none⟩ (.slice (some ⟨g, 0, none⟩) (b.wait.length + 1) cap)) bk L { L with ls := L.ls.set i (l.1, .slice (some ⟨g, 0, none⟩) (b.wait.length + 1) cap) } := by
  obtain ⟨go', l', ha', hl', hc, hf, hlt, _⟩ := h.at i hb
  obtain rfl : go = go' := by have := hgo.symm.trans ha'; simpa using this
  obtain rfl : l = l' := by have := hl.symm.trans hl'; simpa using this
  have hown : (L.opnV s).ownBlock = some go := by unfold CkL.opnV; rw [hgo]; rfl
  have hgo2 : l.2.ownBlock ≠ some go := fun e => owns_apart hw0 h.opn (by decide) go e hown
  have hopn2 : w2.ownsRow 0 226 7 (L.opnV s) s.opn.length ((s.opn.zip L.ls).reverse.flatMap blkCells) :=
    owns_fr (owns_alloc h.opn _) q2 (fun k hk hk' => owns_apart hw0 h.opn (by decide) k hk' hk)
  have hgne : (Value.slice (some ⟨g, 0, none⟩) (b.wait.length + 1) cap).ownBlock ≠ some go := fun e => owns_apart q1 hopn2 (by decide) go e hown
  have blkeq := q2.block go (by simp; omega) hgo2
  have m6 : w2.cell? ⟨go, (s.opn.length - 1 - i) * 7 + 6, none⟩ = some l.2 := by
    rw [World.cell?_of_block (w := w.alloc o) blkeq, World.cell?_alloc_past _ _ _ hlt, hc 6 (by decide)]; rfl
  have e6 : ∀ j, w2.frozen? ⟨go, j, none⟩ = false := fun j => by
    rw [World.frozen?_of_block (w := w.alloc o) blkeq, World.frozen?_alloc_past _ _ _ hlt, hf]
  have knd : ∀ k cs T, Has w k cs T → (l.2.ownBlock = some k ∨ k = go) → T ≠ 189 ∧ T ≠ 3 := by
    rintro k cs T hk (h1 | rfl)
    · rw [owns_type hw0 h1 hk]; decide
    · rw [owns_type h.opn hown hk]; decide
  have F3 : Fr (fun k => l.2.ownBlock = some k ∨ k = go) w (w2.setCell ⟨go, (s.opn.length - 1 - i) * 7 + 6, none⟩ (.slice (some ⟨g, 0, none⟩) (b.wait.length + 1) cap)) :=
    (Fr.trans (S := fun k => l.2.ownBlock = some k ∨ k = go) ((Fr.refl _ w).alloc _) q2 (fun k _ hk => .inl hk)).setCell (p := ⟨go, (s.opn.length - 1 - i) * 7 + 6, none⟩) (.inl (.inr rfl)) _
  have hO := h.opnSet i 6 hb hgo hl { b with wait := b.wait ++ [p] } (l.1, .slice (some ⟨g, 0, none⟩) (b.wait.length + 1) cap) (.slice (some ⟨g, 0, none⟩) (b.wait.length + 1) cap) (by decide) rfl hopn2
  refine ⟨⟨m6, e6⟩, h.putBlk i hb hgo hl { b with wait := b.wait ++ [p] } (l.1, .slice (some ⟨g, 0, none⟩) (b.wait.length + 1) cap) F3 hO
        ⟨hA.fr F3 knd, _, by have := owns_other q1 (p := ⟨go, (s.opn.length - 1 - i) * 7 + 6, none⟩) hgne (.slice (some ⟨g, 0, none⟩) (b.wait.length + 1) cap); simpa using this, ?_⟩ ?_⟩
  · intro i u a hi ha'
    by_cases hlt2 : i < b.wait.length
    · have hil : i < hvs.length := by have := hw0.1; omega
      rw [List.getElem?_append_left hil] at hi
      rw [List.getElem?_append_left hlt2] at ha'
      exact (hh0 i u a hi ha').fr F3 knd
    · have hvl : hvs.length = b.wait.length := by have := hw0.1; omega
      have hib : i = b.wait.length := by
        have := (List.getElem?_eq_some_iff.1 ha').1
        simp at this; omega
      subst hib
      rw [List.getElem?_append_right (by omega), hvl] at hi
      simp at hi ha'
      subst hi; subst ha'
      exact hv.fr F3 knd
  · intro k hk
    simp [Value.ownBlock] at hk
    subst hk
    rcases q3 with q3 | q3
    · exact .inl q3
    · right; omega
/-- none of the checker's own blocks is a hole's -/
theorem CkRep.typ (h : CkRep B w bk fx L s) : ∀ k cs T, Has w k cs T → CkS bk L k → T ≠ 189 ∧ T ≠ 3 := by
  rintro k cs T hk (rfl | h1 | h1 | h1 | ⟨i, l, hl, h1⟩)
  · have := hk.symm.trans h.here
    simp at this
    rw [this.2]; decide
  · rw [owns_type h.st (by rw [ownBlock_any]; exact h1) hk]; decide
  · rw [owns_type h.opn (by rw [ownBlock_any]; exact h1) hk]; decide
  · rw [owns_type h.code (by rw [ownBlock_any]; exact h1) hk]; decide
  · have hi : i < s.opn.length := by rw [← h.lsl]; exact (List.getElem?_eq_some_iff.1 hl).1
    obtain ⟨_, hv, h2, _⟩ := h.blk i s.opn[i] l (by simp [hi]) hl
    rw [owns_type h2 h1 hk]; decide
theorem HoleV.step {w w1 : World} {bk a : Nat} {v : Value} {fx : CkF} {B : Nat} {L L1 : CkL} {s : Ck} (h : HoleV w bk v a) (hr : CkRep B w bk fx L s) (hs : CkStep w w1 bk L L1) : HoleV w1 bk v a := h.fr hs.fr hr.typ
/-- a row of holes that waits no more in an open block -/
structure HolesAt (w : World) (bk : Nat) (v : Value) (ps : List Nat) (hv : List Value) : Prop where
  row : w.ownsRow 0 221 1 v ps.length hv
  hole : ∀ (i : Nat) u a, hv[i]? = some u → ps[i]? = some a → HoleV w bk u a
theorem HolesAt.step {w1 : World} {v : Value} {ps : List Nat} {hv : List Value} {L1 : CkL} (h : HolesAt w bk v ps hv) (hr : CkRep B w bk fx L s) (hs : CkStep w w1 bk L L1) (hn : ∀ g, v.ownBlock = some g → ¬ CkS bk L g) : HolesAt w1 bk v ps hv :=
  ⟨owns_fr h.row hs.fr hn, fun i u a hi ha => (h.hole i u a hi ha).step hr hs⟩
end
end Go.Proofs.Qxb6500575aGreatDoor
