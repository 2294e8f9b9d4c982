/-
  THE WALK of runm.cut.
-/
import Derived.Test.Qxb6500575aGreatDoorYPop
import Derived.Test.Qxb6500575aGreatDoorYCopy
import Derived.Laws.CopyOwn
namespace Go.Proofs.Qxb6500575aGreatDoor
open Go Go.RowKit
set_option linter.unusedVariables false
set_option linter.unusedSimpArgs false

theorem run_copy_zero {P : Program} (w : World) (dT sT ty elem : TypeId) (sz : Nat) (d a : Option Addr) (dLen dCap sLen sCap : Nat) (hu : P.underlying dT = some (.slice elem)) (hs : (P.info? elem).map (·.size) = some sz) (hn : Nat.min sLen dLen = 0) :
    (Builtin.copy_ #[dT, sT] ty #[.slice d dLen dCap, .slice a sLen sCap]).run P w = .ok (goInt 0) w := by
  cases hq : P.info? elem with
  | none => simp [hq] at hs
  | some i =>
    have hl : ∀ (x : Addr), (loadCells x 0).run P w = .ok #[] w := fun x => by simpa using run_loadCells_list (P := P) w x [] (by simp)
    cases d <;> cases a <;> simp [Builtin.copy_, run_underlying hu, Builtin.lenOf, Builtin.firstCells, sizeOf, typeInfo, hq, hn, storeCells, hl]
theorem stCells_app (xs ys : List V) : stCells (xs ++ ys) = stCells ys ++ stCells xs := by
  unfold stCells
  simp [bvCells]
theorem stCells_len (xs : List V) : (stCells xs).length = xs.length * 2 := by
  unfold stCells
  rw [bvCells_len]
  simp
theorem stCells_one (xs : List V) : ∀ u ∈ stCells xs, u.oneCell' = true := by
  intro u hu
  unfold stCells bvCells at hu
  simp only [List.mem_flatMap] at hu
  obtain ⟨b, _, hb⟩ := hu
  simp at hb
  rcases hb with rfl | rfl <;> rfl
section
variable {w : World} {bn : Nat} {q : NF} {L : NL} {x : ND}
theorem NRep.cutRow (h : NRep w bn q L x) {xs ys zs : List V} (hs : x.st = xs ++ (ys ++ zs)) {g : Nat} (hg : L.sa = some ⟨g, 0, none⟩) :
    ∃ cur : Array Value, w.heap[g]? = some (.cells cur 70 (0, 0)) ∧ zs.length * 2 + xs.length * 2 ≤ cur.size ∧ bn ≠ g ∧ xs.length + (ys.length + zs.length) ≤ L.sc ∧
      (∀ j v, (stCells xs)[j]? = some v → w.cell? ⟨g, (ys.length + zs.length) * 2 + j, none⟩ = some v) ∧
      (∀ W w1, Fr (fun _ => False) w W → w1 = W.setRow g (cur.toList.take (zs.length * 2) ++ stCells xs ++ cur.toList.drop (zs.length * 2 + xs.length * 2)).toArray → NRep (w1.setCell ⟨bn, 3, none⟩ (.slice (some ⟨g, 0, none⟩) (zs.length + xs.length : Nat) L.sc)) bn q L { x with st := xs ++ zs } ∧ NStep w (w1.setCell ⟨bn, 3, none⟩ (.slice (some ⟨g, 0, none⟩) (zs.length + xs.length : Nat) L.sc)) bn L L) ∧
      (∀ W, Fr (fun _ => False) w W → xs = [] → NRep (W.setCell ⟨bn, 3, none⟩ (.slice (some ⟨g, 0, none⟩) zs.length L.sc)) bn q L { x with st := zs } ∧ NStep w (W.setCell ⟨bn, 3, none⟩ (.slice (some ⟨g, 0, none⟩) zs.length L.sc)) bn L L) := by
  have hsl : x.st.length = xs.length + (ys.length + zs.length) := by rw [hs]; simp
  have ho := h.st
  unfold NL.stV at ho
  rw [hg] at ho
  have hbg : bn ≠ g := fun e => owns_ne ho h.here (by decide) (by rw [e]; rfl)
  have hl := ho.1
  rcases ho.2 with ⟨h1, _⟩ | ⟨g', cap', cur, hv, hb, hcur, hnc, hcm, hcs, htake⟩
  · cases h1
  simp at hv
  obtain ⟨rfl, rfl⟩ := hv
  have hcs' : cur.size = L.sc * 2 := hcs
  have htk : cur.toList.take (x.st.length * 2) = stCells x.st := htake
  have hx2 : stCells x.st = stCells zs ++ (stCells ys ++ stCells xs) := by rw [hs, stCells_app, stCells_app, List.append_assoc]
  have hzs : cur.toList.take (zs.length * 2) = stCells zs := by
    have := congrArg (List.take (zs.length * 2)) htk
    rw [List.take_take, Nat.min_eq_left (by omega), hx2, List.take_append_of_le_length (by rw [stCells_len]; omega)] at this
    rw [this, List.take_of_length_le (by rw [stCells_len]; omega)]
  have KEY : ∀ W w1, Fr (fun _ => False) w W → w1 = W.setRow g (cur.toList.take (zs.length * 2) ++ stCells xs ++ cur.toList.drop (zs.length * 2 + xs.length * 2)).toArray → NRep (w1.setCell ⟨bn, 3, none⟩ (.slice (some ⟨g, 0, none⟩) (zs.length + xs.length : Nat) L.sc)) bn q L { x with st := xs ++ zs } ∧ NStep w (w1.setCell ⟨bn, 3, none⟩ (.slice (some ⟨g, 0, none⟩) (zs.length + xs.length : Nat) L.sc)) bn L L := by
    rintro W w1 hW rfl
    have h' := h.fresh hW
    have hcur' : W.heap[g]? = some (.cells cur 70 (0, 0)) := (show Has w g cur 70 from hcur).fr hW (fun e => e)
    have hF : Fr (fun j => j = g) W (W.setRow g (cur.toList.take (zs.length * 2) ++ stCells xs ++ cur.toList.drop (zs.length * 2 + xs.length * 2)).toArray) :=
      ⟨rfl, rfl, rfl, by simp [World.setRow], fun j _ hj => setRow_other _ g j _ hj⟩
    have e9 : (xs ++ zs).length = zs.length + xs.length := by simp; omega
    have hnew : (W.setRow g (cur.toList.take (zs.length * 2) ++ stCells xs ++ cur.toList.drop (zs.length * 2 + xs.length * 2)).toArray).ownsRow 0 70 2 (.slice (some ⟨g, 0, none⟩) (zs.length + xs.length : Nat) L.sc) (zs.length + xs.length) (stCells (xs ++ zs)) := by
      refine ⟨by rw [stCells_len, e9], .inr ⟨g, L.sc, _, rfl, hb, setRow_heap _ g cur _ _ _ hcur', by omega, hcm, ?_, ?_⟩⟩
      · simp [stCells_len]
        omega
      · rw [hzs, stCells_app]
        show List.take _ (stCells zs ++ stCells xs ++ _) = _
        exact List.take_left' (by rw [List.length_append, stCells_len, stCells_len]; omega)
    have hH : Has (W.setRow g (cur.toList.take (zs.length * 2) ++ stCells xs ++ cur.toList.drop (zs.length * 2 + xs.length * 2)).toArray) bn _ _ := h'.here.fr hF (fun e => hbg e)
    have hne : (Value.slice (some ⟨g, 0, none⟩) (zs.length + xs.length : Nat) L.sc).ownBlock ≠ some bn := fun e => hbg (by simp [Value.ownBlock] at e; exact e.symm)
    have hF2 : Fr (NS bn L) w (W.setRow g (cur.toList.take (zs.length * 2) ++ stCells xs ++ cur.toList.drop (zs.length * 2 + xs.length * 2)).toArray) := (hW.weaken (fun _ _ h => h.elim)).trans hF (fun j _ hj => .inr (by rw [hg, hj]; rfl))
    refine ⟨⟨?_, ?_⟩, hF2.setCell (.inl (.inl rfl)) _, fun _ _ h => h⟩
    · have := hH.put 3 (.slice (some ⟨g, 0, none⟩) (zs.length + xs.length : Nat) L.sc)
      rw [e9, hg]
      simpa using this
    · have := owns_other hnew (p := ⟨bn, 3, none⟩) hne (.slice (some ⟨g, 0, none⟩) (zs.length + xs.length : Nat) L.sc)
      unfold NL.stV
      rw [e9, hg]
      exact this
  refine ⟨cur, hcur, by omega, hbg, by omega, fun j v hj => ?_, KEY, ?_⟩
  · have hjl : j < xs.length * 2 := by have := (List.getElem?_eq_some_iff.1 hj).1; rw [stCells_len] at this; exact this
    have : cur.toList[(ys.length + zs.length) * 2 + j]? = some v := by
      have e1 : (cur.toList.take (x.st.length * 2))[(ys.length + zs.length) * 2 + j]? = cur.toList[(ys.length + zs.length) * 2 + j]? := by
        rw [List.getElem?_take, if_pos (by omega)]
      rw [← e1, htk, hx2, List.getElem?_append_right (by rw [stCells_len]; omega), List.getElem?_append_right (by rw [stCells_len, stCells_len]; omega), ← hj]
      congr 1
      rw [stCells_len, stCells_len]
      omega
    simpa [World.cell?, hcur] using this
  · intro W hW he
    subst he
    have := (h.fresh hW).cutSt ys zs (by rw [hs]; rfl)
    rw [hg] at this
    exact ⟨this.1, (NStep.fresh hW).trans this.2⟩
end
end Go.Proofs.Qxb6500575aGreatDoor
