/-
  THE CHECKER's STATE: an open block turned, pushed, popped; the flat code patched. No walk.
-/
import Derived.Test.Qxb6500575aGreatDoorPlain2
namespace Go.Proofs.Qxb6500575aGreatDoor
open Go Go.RowKit
set_option linter.unusedVariables false
set_option linter.unusedSimpArgs false

theorem flatMap_set {α : Type} (f : α → List Value) (k : Nat) (hf : ∀ a, (f a).length = k) : ∀ (l : List α) (i j : Nat) (a a' : α) (u : Value), l[i]? = some a → j < k → f a' = (f a).set j u → (l.set i a').flatMap f = (l.flatMap f).set (i * k + j) u
  | [], i, j, a, a', u, h, _, _ => by simp at h
  | b :: l, 0, j, a, a', u, h, hj, hu => by
    simp at h; subst h
    simp only [List.set_cons_zero, List.flatMap_cons, Nat.zero_mul, Nat.zero_add]
    rw [List.set_append_left _ _ (by rw [hf]; exact hj), hu]
  | b :: l, i + 1, j, a, a', u, h, hj, hu => by
    simp at h
    simp only [List.set_cons_succ, List.flatMap_cons]
    rw [List.set_append_right _ _ (by rw [hf, Nat.add_mul]; omega), hf, flatMap_set f k hf l i j a a' u h hj hu]
    congr 2
    rw [Nat.add_mul]; omega

theorem reverse_set {α : Type} (l : List α) (i : Nat) (a : α) (hi : i < l.length) : (l.set i a).reverse = l.reverse.set (l.length - 1 - i) a := by
  apply List.ext_getElem?
  intro j
  by_cases hj : j < l.length
  · rw [List.getElem?_reverse (by simpa using hj)]
    simp only [List.length_set]
    rw [List.getElem?_set, List.getElem?_set]
    by_cases hij : i = l.length - 1 - j
    · have : l.length - 1 - i = j := by omega
      rw [if_pos hij, if_pos this, if_pos hi, if_pos (by simp; omega)]
    · have h2 : ¬ l.length - 1 - i = j := by omega
      rw [if_neg hij, if_neg h2, List.getElem?_reverse hj]
  · rw [List.getElem?_eq_none (by simp; omega), List.getElem?_eq_none (by simp; omega)]
theorem zip_set {α β : Type} : ∀ (l : List α) (l2 : List β) (i : Nat) (a : α) (b : β), (l.set i a).zip (l2.set i b) = (l.zip l2).set i (a, b)
  | [], _, _, _, _ => by simp
  | _ :: _, [], i, _, _ => by cases i <;> simp
  | _ :: _, _ :: _, 0, _, _ => by simp
  | _ :: l, _ :: l2, i + 1, a, b => by simp [zip_set l l2 i a b]

section
variable {B : Nat} {w w2 : World} {bk : Nat} {fx : CkF} {L : CkL} {s : Ck}

/-- a store into cell j of the i-th open block -/
theorem CkRep.opnSet (h : CkRep B w bk fx L s) (i j : Nat) {b : Blk} {l : Value × Value} {go : Nat} (hb : s.opn[i]? = some b) (hgo : L.oa = some ⟨go, 0, none⟩) (hl : L.ls[i]? = some l) (b' : Blk) (l' : Value × Value) (u : Value) (hj : j < 7)
    (hu : blkCells (b', l') = (blkCells (b, l)).set j u) {w1 : World} (hO : w1.ownsRow 0 226 7 (L.opnV s) s.opn.length ((s.opn.zip L.ls).reverse.flatMap blkCells)) :
    (w1.setCell ⟨go, (s.opn.length - 1 - i) * 7 + j, none⟩ u).ownsRow 0 226 7 (.slice (some ⟨go, 0, none⟩) s.opn.length L.oc) s.opn.length (((s.opn.set i b').zip (L.ls.set i l')).reverse.flatMap blkCells) := by
  have hi : i < s.opn.length := (List.getElem?_eq_some_iff.1 hb).1
  have hz : (s.opn.zip L.ls).length = s.opn.length := by simp [h.lsl]
  unfold CkL.opnV at hO
  rw [hgo] at hO
  have := (hO.stored ((s.opn.length - 1 - i) * 7 + j) u).1
  rw [zip_set, reverse_set _ _ _ (by omega), hz]
  rw [flatMap_set blkCells 7 blkCells_len (s.opn.zip L.ls).reverse (s.opn.length - 1 - i) j (b, l) (b', l') u ?_ hj hu]
  · exact this
  · rw [List.getElem?_reverse (by rw [hz]; omega), hz]
    have : s.opn.length - 1 - (s.opn.length - 1 - i) = i := by omega
    rw [this, List.getElem?_zip_eq_some]
    exact ⟨hb, hl⟩

/-- the i-th open block has turned (and with it, it may be, its row of waiting holes) -/
theorem CkRep.putBlk (h : CkRep B w bk fx L s) (i : Nat) {b : Blk} {l : Value × Value} {go : Nat} (hb : s.opn[i]? = some b) (hgo : L.oa = some ⟨go, 0, none⟩) (hl : L.ls[i]? = some l) (b' : Blk) (l' : Value × Value)
    (hF : Fr (fun k => l.2.ownBlock = some k ∨ k = go) w w2)
    (hO : w2.ownsRow 0 226 7 (.slice (some ⟨go, 0, none⟩) s.opn.length L.oc) s.opn.length (((s.opn.set i b').zip (L.ls.set i l')).reverse.flatMap blkCells))
    (hR : BlkRep w2 bk b' l') (hat : ∀ g, l'.2.ownBlock = some g → l.2.ownBlock = some g ∨ w.heap.size ≤ g) :
    CkRep B w2 bk fx { L with ls := L.ls.set i l' } { s with opn := s.opn.set i b' } ∧ CkStep w w2 bk L { L with ls := L.ls.set i l' } := by
  have hi : i < s.opn.length := (List.getElem?_eq_some_iff.1 hb).1
  have hil : i < L.ls.length := by rw [h.lsl]; exact hi
  have hr0 := h.blk i b l hb hl
  obtain ⟨_, hv0, hw0, _⟩ := hr0
  have hown : (L.opnV s).ownBlock = some go := by unfold CkL.opnV; rw [hgo]; rfl
  have hL : CkL.opnV { L with ls := L.ls.set i l' } { s with opn := s.opn.set i b' } = .slice (some ⟨go, 0, none⟩) s.opn.length L.oc := by unfold CkL.opnV; simp [hgo]
  -- what is not the row of the open blocks, nor this block's row of holes
  have far : ∀ {v : Value} {e : TypeId} {size n : Nat} {xs : List Value}, w.ownsRow 0 e size v n xs → 226 ≠ e → (∀ k, v.ownBlock = some k → l.2.ownBlock ≠ some k) → w2.ownsRow 0 e size v n xs := by
    intro v e size n xs ho he hi'
    refine owns_fr ho hF (fun k hk hk' => ?_)
    rcases hk' with hk' | rfl
    · exact hi' k hk hk'
    · exact owns_apart h.opn ho he k hown hk
  have knd : ∀ k cs T, Has w k cs T → (l.2.ownBlock = some k ∨ k = go) → T ≠ 189 ∧ T ≠ 3 := by
    rintro k cs T hk (h1 | rfl)
    · rw [owns_type hw0 h1 hk]; decide
    · rw [owns_type h.opn hown hk]; decide
  have lsat : ∀ (j : Nat) x, (L.ls.set i l')[j]? = some x → (j = i ∧ x = l') ∨ (j ≠ i ∧ L.ls[j]? = some x) := by
    intro j x hx
    by_cases hji : j = i
    · subst hji; left; refine ⟨rfl, ?_⟩; simpa [hil] using hx.symm
    · right; refine ⟨hji, ?_⟩; rwa [List.getElem?_set_ne (Ne.symm hji)] at hx
  have fx0 : Has w2 bk _ _ := h.here.fr hF (fun hk => by
      rcases hk with hk | hk
      · exact owns_ne hw0 h.here (by decide) hk
      · exact owns_ne h.opn h.here (by decide) (by rw [hown, hk]))
  refine ⟨?_, ⟨hF.weaken ?_, ?_⟩⟩
  · refine { here := ?_, st := ?_, opn := ?_, code := ?_, lsl := ?_, blk := ?_, apart := ?_, base := h.base, baseS := h.baseS, baseO := ?_, baseC := h.baseC, baseW := ?_ }
    · simpa using fx0
    · exact far h.st (by decide) (fun k hk hk' => owns_apart h.st hw0 (by decide) k hk hk')
    · rw [hL]; simpa using hO
    · exact far h.code (by decide) (fun k hk hk' => owns_apart h.code hw0 (by decide) k hk hk')
    · simp [h.lsl]
    · intro j bj x hbj hx
      rcases lsat j x hx with ⟨rfl, rfl⟩ | ⟨hji, hx⟩
      · have : bj = b' := by simpa [hi] using hbj.symm
        rw [this]; exact hR
      · have hbj' : s.opn[j]? = some bj := by
          have := hbj; simp only at this; rwa [List.getElem?_set_ne (Ne.symm hji)] at this
        have hrj := h.blk j bj x hbj' hx
        obtain ⟨_, _, hwj, _⟩ := hrj
        exact (h.blk j bj x hbj' hx).fr hF knd (fun g hg hk => by
          rcases hk with hk | rfl
          · exact h.apart j i x l hx hl hji g hg hk
          · exact owns_apart h.opn hwj (by decide) g hown hg)
    · intro j j' x x' hx hx' hjj g hg hg'
      rcases lsat j x hx with ⟨rfl, rfl⟩ | ⟨hji, hy⟩ <;> rcases lsat j' x' hx' with ⟨h0, h00⟩ | ⟨hji', hy'⟩
      · exact hjj h0.symm
      · rcases hat g hg with h1 | h1
        · exact h.apart _ j' l x' hl hy' hjj g h1 hg'
        · have := h.lt (k := g) (.inr (.inr (.inr (.inr ⟨j', x', hy', hg'⟩)))); omega
      · subst h0; subst h00
        rcases hat g hg' with h1 | h1
        · exact h.apart j _ x l hy hl hjj g hg h1
        · have := h.lt (k := g) (.inr (.inr (.inr (.inr ⟨j, x, hy, hg⟩)))); omega
      · exact h.apart j j' x x' hy hy' hjj g hg hg'
    · intro g hg
      rw [hL] at hg
      exact h.baseO g (by unfold CkL.opnV; rw [hgo]; exact hg)
    · intro j x hx g hg
      rcases lsat j x hx with ⟨rfl, rfl⟩ | ⟨hji, hx⟩
      · rcases hat g hg with h1 | h1
        · exact h.baseW _ l hl g h1
        · have := h.here.lt; have := h.base; omega
      · exact h.baseW j x hx g hg
  · rintro k _ (hk | rfl)
    · exact .inr (.inr (.inr (.inr ⟨i, l, hl, hk⟩)))
    · exact .inr (.inr (.inl (by rw [ownBlock_any _ _ _ s.opn.length L.oc]; exact hown)))
  · rintro k hk (rfl | h1 | h1 | h1 | ⟨j, x, hx, hg⟩)
    · exact .inl rfl
    · exact .inr (.inl h1)
    · exact .inr (.inr (.inl h1))
    · exact .inr (.inr (.inr (.inl h1)))
    · rcases lsat j x hx with ⟨rfl, rfl⟩ | ⟨hji, hx⟩
      · rcases hat k hg with h2 | h2
        · exact .inr (.inr (.inr (.inr ⟨_, l, hl, h2⟩)))
        · omega
      · exact .inr (.inr (.inr (.inr ⟨j, x, hx, hg⟩)))

/-- a plain cell of the i-th open block is stored -/
theorem CkRep.setBlk (h : CkRep B w bk fx L s) (i j : Nat) {b : Blk} {l : Value × Value} {go : Nat} (hb : s.opn[i]? = some b) (hgo : L.oa = some ⟨go, 0, none⟩) (hl : L.ls[i]? = some l) (b' : Blk) (l' : Value × Value) (u : Value) (hj : j < 7)
    (hu : blkCells (b', l') = (blkCells (b, l)).set j u) (hw : l'.2 = l.2) (hwt : b'.wait = b.wait) (hA : AltV w bk l'.1 b'.alt) :
    CkRep B (w.setCell ⟨go, (s.opn.length - 1 - i) * 7 + j, none⟩ u) bk fx { L with ls := L.ls.set i l' } { s with opn := s.opn.set i b' } ∧ CkStep w (w.setCell ⟨go, (s.opn.length - 1 - i) * 7 + j, none⟩ u) bk L { L with ls := L.ls.set i l' } := by
  have hown : (L.opnV s).ownBlock = some go := by unfold CkL.opnV; rw [hgo]; rfl
  have hF : Fr (fun k => l.2.ownBlock = some k ∨ k = go) w (w.setCell ⟨go, (s.opn.length - 1 - i) * 7 + j, none⟩ u) := Fr.setCell (Fr.refl _ _) (p := ⟨go, (s.opn.length - 1 - i) * 7 + j, none⟩) (.inl (.inr rfl)) u
  have hF2 : Fr (fun k => k = go) w (w.setCell ⟨go, (s.opn.length - 1 - i) * 7 + j, none⟩ u) := Fr.setCell (S := fun k => k = go) (Fr.refl _ _) (p := ⟨go, (s.opn.length - 1 - i) * 7 + j, none⟩) (.inl rfl) u
  have knd : ∀ k cs T, Has w k cs T → (k = go) → T ≠ 189 ∧ T ≠ 3 := by
    rintro k cs T hk rfl
    rw [owns_type h.opn hown hk]; decide
  obtain ⟨_, hv0, hw0, hh0⟩ := h.blk i b l hb hl
  refine h.putBlk i hb hgo hl b' l' hF (h.opnSet i j hb hgo hl b' l' u hj hu h.opn) ⟨hA.fr hF2 knd, hv0, ?_, ?_⟩ (fun g hg => .inl (by rw [← hw]; exact hg))
  · rw [hw, hwt]
    refine owns_fr hw0 hF2 (fun g hg e => ?_)
    subst e
    exact owns_apart h.opn hw0 (by decide) g hown hg
  · rw [hwt]
    exact fun i v a hi ha => (hh0 i v a hi ha).fr hF2 knd
/-- a block is opened: 'k.open = append(k.open, b)' -/
theorem CkRep.pushOpn (h : CkRep B w bk fx L s) (b : Blk) (av : Value) {g cap : Nat}
    (hF : Fr (fun k => (L.opnV s).ownBlock = some k ∨ k = bk) w w2)
    (hH : Has w2 bk (#[fx.p, fx.u, .slice L.sa s.st.length L.sc, .slice L.oa s.opn.length L.oc, .slice L.ca s.code.length L.cc, .map (some fx.on)].setIfInBounds 3 (.slice (some ⟨g, 0, none⟩) (s.opn.length + 1) cap)) 195)
    (hO : w2.ownsRow 0 226 7 (.slice (some ⟨g, 0, none⟩) (s.opn.length + 1) cap) (s.opn.length + 1) ((s.opn.zip L.ls).reverse.flatMap blkCells ++ blkCells (b, av, .slice none 0 0)))
    (hat : (L.opnV s).ownBlock = some g ∨ w.heap.size ≤ g) (hA : AltV w2 bk av b.alt) (hw : b.wait = []) :
    CkRep B w2 bk fx { L with oa := some ⟨g, 0, none⟩, oc := cap, ls := (av, .slice none 0 0) :: L.ls } { s with opn := b :: s.opn } ∧ CkStep w w2 bk L { L with oa := some ⟨g, 0, none⟩, oc := cap, ls := (av, .slice none 0 0) :: L.ls } := by
  have knd := h.kind h.opn (by decide)
  refine ⟨{ here := ?_, st := h.far hF h.st (by decide) (owns_apart h.st h.opn (by decide)), opn := ?_, code := h.far hF h.code (by decide) (owns_apart h.code h.opn (by decide)), lsl := by simp [h.lsl], blk := ?_, apart := ?_, base := h.base, baseS := h.baseS, baseO := ?_, baseC := h.baseC, baseW := ?_ }, ⟨hF.weaken ?_, ?_⟩⟩
  · simpa using hH
  · simpa [CkL.opnV] using hO
  · intro i b' l hb hl
    cases i with
    | zero =>
      simp at hb hl
      subst hb; subst hl
      refine ⟨hA, [], ?_, ?_⟩
      · rw [hw]; exact World.ownsRow_nil _ _ _ _
      · intro i v a hi; simp at hi
    | succ i =>
      simp at hb hl
      have hr := h.blk i b' l hb hl
      obtain ⟨_, hv, h2, _⟩ := hr
      exact (h.blk i b' l hb hl).fr hF knd (fun g hg hk => by
        rcases hk with hk | rfl
        · exact owns_apart h2 h.opn (by decide) g hg hk
        · exact owns_ne h2 h.here (by decide) hg)
  · intro i j l l' hl hl' hij g hg hg'
    cases i with
    | zero => simp at hl; subst hl; simp [Value.ownBlock] at hg
    | succ i =>
      cases j with
      | zero => simp at hl'; subst hl'; simp [Value.ownBlock] at hg'
      | succ j => simp at hl hl'; exact h.apart i j l l' hl hl' (by omega) g hg hg'
  · intro k hk
    simp [Value.ownBlock] at hk
    subst hk
    rcases hat with hat | hat
    · exact h.baseO _ hat
    · have := h.here.lt; have := h.base; omega
  · intro i l hl g hg
    cases i with
    | zero => simp at hl; subst hl; simp [Value.ownBlock] at hg
    | succ i => simp at hl; exact h.baseW i l hl g hg
  · rintro k _ (hk | rfl)
    · exact .inr (.inr (.inl (by rw [ownBlock_any _ _ _ s.opn.length L.oc]; exact hk)))
    · exact .inl rfl
  · rintro k hk (rfl | h1 | h1 | h1 | ⟨i, l, hl, hg⟩)
    · exact .inl rfl
    · exact .inr (.inl h1)
    · simp [Value.ownBlock] at h1
      subst h1
      rcases hat with hat | hat
      · exact .inr (.inr (.inl (by rw [ownBlock_any _ _ _ s.opn.length L.oc]; exact hat)))
      · omega
    · exact .inr (.inr (.inr (.inl h1)))
    · cases i with
      | zero => simp at hl; subst hl; simp [Value.ownBlock] at hg
      | succ i => simp at hl; exact .inr (.inr (.inr (.inr ⟨i, l, hl, hg⟩)))

/-- a block is closed: 'k.open = k.open[:len(k.open)-1]' -/
theorem CkRep.popOpn (h : CkRep B w bk fx L s) {b : Blk} {r : List Blk} (hr : s.opn = b :: r) :
    CkRep B (w.setCell ⟨bk, 3, none⟩ (.slice L.oa r.length L.oc)) bk fx { L with ls := L.ls.tail } { s with opn := r } ∧ CkStep w (w.setCell ⟨bk, 3, none⟩ (.slice L.oa r.length L.oc)) bk L { L with ls := L.ls.tail } := by
  have hol : s.opn.length = r.length + 1 := by rw [hr]; rfl
  have hF : Fr (fun k => k = bk) w (w.setCell ⟨bk, 3, none⟩ (.slice L.oa r.length L.oc)) := Fr.setCell (S := fun k => k = bk) (Fr.refl _ _) (p := ⟨bk, 3, none⟩) (.inl rfl) _
  have hot := owns_take h.opn r.length (by omega)
  have hlt : ∀ (i : Nat), L.ls.tail[i]? = L.ls[i + 1]? := fun i => by simp
  have knd : ∀ k cs T, Has w k cs T → (k = bk) → T ≠ 189 ∧ T ≠ 3 := by
    rintro k cs T hk rfl
    have := hk.symm.trans h.here
    simp at this
    rw [this.2]; decide
  have bne : ∀ {v : Value} {e : TypeId} {size n : Nat} {xs : List Value}, w.ownsRow 0 e size v n xs → 195 ≠ e → v.ownBlock ≠ some bk := fun ho he => owns_ne ho h.here he
  refine ⟨{ here := ?_, st := owns_other h.st (bne h.st (by decide)) _, opn := ?_, code := owns_other h.code (bne h.code (by decide)) _, lsl := by simp [h.lsl, hol], blk := ?_, apart := ?_, base := h.base, baseS := h.baseS, baseO := ?_, baseC := h.baseC, baseW := ?_ }, ⟨hF.weaken ?_, ?_⟩⟩
  · have := h.here.put 3 (.slice L.oa r.length L.oc)
    simpa using this
  · refine owns_other ?_ (p := ⟨bk, 3, none⟩) (by rw [CkL.opnV, ownBlock_any _ _ _ s.opn.length L.oc]; exact bne h.opn (by decide)) _
    have e : (r.zip L.ls.tail).reverse.flatMap blkCells = List.take (r.length * 7) ((s.opn.zip L.ls).reverse.flatMap blkCells) := by
      cases hls : L.ls with
      | nil => have := h.lsl; rw [hls, hol] at this; simp at this
      | cons x xs =>
        rw [hr]
        simp only [List.zip_cons_cons, List.reverse_cons, List.flatMap_append, List.tail_cons]
        have hxl : xs.length = r.length := by have := h.lsl; rw [hls, hol] at this; simpa using this
        rw [List.take_append_of_le_length (by rw [flatMap_len blkCells 7 blkCells_len]; simp [hxl]), List.take_of_length_le (by rw [flatMap_len blkCells 7 blkCells_len]; simp [hxl])]
    rw [e]; exact hot
  · intro i b' l hb hl
    simp only at hb hl
    rw [hlt] at hl
    have hb' : s.opn[i + 1]? = some b' := by rw [hr]; simpa using hb
    have hrr := h.blk (i + 1) b' l hb' hl
    obtain ⟨_, hv, h2, _⟩ := hrr
    exact (h.blk (i + 1) b' l hb' hl).fr hF knd (fun g hg e => by subst e; exact bne h2 (by decide) hg)
  · intro i j l l' hl hl' hij
    simp only at hl hl'
    rw [hlt] at hl hl'
    exact h.apart (i + 1) (j + 1) l l' hl hl' (by omega)
  · intro g hg
    exact h.baseO g (by rw [CkL.opnV, ownBlock_any _ _ _ r.length L.oc]; exact hg)
  · intro i l hl
    simp only at hl
    rw [hlt] at hl
    exact h.baseW (i + 1) l hl
  · rintro k _ rfl
    exact .inl rfl
  · rintro k hk (rfl | h1 | h1 | h1 | ⟨i, l, hl, hg⟩)
    · exact .inl rfl
    · exact .inr (.inl h1)
    · exact .inr (.inr (.inl h1))
    · exact .inr (.inr (.inr (.inl h1)))
    · simp only at hl
      rw [hlt] at hl
      exact .inr (.inr (.inr (.inr ⟨i + 1, l, hl, hg⟩)))
end
end Go.Proofs.Qxb6500575aGreatDoor
