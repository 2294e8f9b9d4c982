/-
  THE OPEN LIST grows in its middle. No walk.
-/
import Derived.Test.Qxb6500574aGreatDoorVCoreApp
import Derived.Test.Qxb6500574aGreatDoorVCopy
import Derived.Laws.CopyRow
namespace Go.Proofs.Qxb6500574aGreatDoor
open Go Go.RowKit
set_option linter.unusedVariables false
set_option linter.unusedSimpArgs false

section
variable {w w1 w2 : World} {A : VL} {m : VMD} {f e i : Nat} {t : ThD} {l : ThL}
/-- a row written over as a whole -/
theorem Row.setRow {o : Nat → Nat} {lab : Nat} {T : TypeId} {k : Nat} {s : Sl} {n : Nat} {xs : List Value} (h : Row w o lab T k s n xs) {g : Nat} (hg : s.a = some ⟨g, 0, none⟩) {cur cur' : Array Value} (hc : Has w g cur T) (hsz : cur'.size = cur.size) {ys : List Value} (hl : ys.length = n * k) (ht : cur'.toList.take (n * k) = ys) :
    Row (w.setRow g cur') o lab T k s n ys ∧ Stp (fun l => l = lab) w o (w.setRow g cur') o := by
  have hlb := h.lb g (by rw [hg]; rfl)
  refine ⟨⟨⟨hl, ?_⟩, h.lb⟩, ⟨⟨rfl, rfl, rfl, by simp, fun j hj hq => setRow_other w g j _ (fun e => hq (by rw [e]; exact hlb))⟩, fun _ _ => rfl, fun x j hj => x j (by simpa using hj)⟩⟩
  rcases h.own.2 with ⟨h1, _⟩ | ⟨g', cap, c0, hv, hbg, hg0, hnc, hcm, hcs, htake⟩
  · unfold Sl.v at h1
    rw [hg] at h1
    cases h1
  · unfold Sl.v at hv ⊢
    rw [hg] at hv ⊢
    cases hv
    have : c0 = cur := by
      have := hc
      unfold Has at this
      rw [hg0] at this
      cases this
      rfl
    subst this
    exact .inr ⟨g, s.c, cur', rfl, hbg, setRow_heap w g c0 cur' T _ hg0, hnc, hcm, by rw [hsz, hcs], ht⟩
/-- a place more in the open list: behind the append and the store of the header -/
theorem VRep.pushedP (h : VRep w A m f e) (hi : m.ths[i]? = some t) (hl : A.X[i]? = some l) (r : Nat) (hf : Fr (fun _ => False) w w1) {g cap : Nat}
    (q1 : w2.ownsRow 0 3 1 (.slice (some ⟨g, 0, none⟩) (t.opn.length + 1) cap) (t.opn.length + 1) (t.opn.flatMap nCells ++ nCells r)) (q2 : Fr (fun j => (l.p.v t.opn.length).ownBlock = some j) w1 w2) (q3 : (l.p.v t.opn.length).ownBlock = some g ∨ w.heap.size ≤ g) (q4 : g < w2.heap.size) :
    Has w2 A.bT ((m.ths.zip A.X ++ A.Z).flatMap thCells).toArray 265 ∧
    VRep (w2.setCell ⟨A.bT, i * 5 + 4, none⟩ (.slice (some ⟨g, 0, none⟩) (t.opn.length + 1) cap)) { A with o := upd A.o g (22 + 3 * i), X := A.X.set i { l with p := ⟨some ⟨g, 0, none⟩, cap⟩ } } (m.setTh i { t with opn := t.opn ++ [r] }) f e ∧ VSt (isT i) w A (w2.setCell ⟨A.bT, i * 5 + 4, none⟩ (.slice (some ⟨g, 0, none⟩) (t.opn.length + 1) cap)) { A with o := upd A.o g (22 + 3 * i), X := A.X.set i { l with p := ⟨some ⟨g, 0, none⟩, cap⟩ } } := by
  obtain ⟨r1, r2⟩ := (h.one hi hl).p.app hf q1 q2 q3 q4
  have hh : Has w2 A.bT ((m.ths.zip A.X ++ A.Z).flatMap thCells).toArray 265 := r2.has h.ths.here.has (by rw [h.ths.here.lb]; omega)
  have r2' : Stp (isT i) w A.o w2 (upd A.o g (22 + 3 * i)) := r2.weaken (fun k hk => .inr (by omega))
  have hb : upd A.o g (22 + 3 * i) A.bT = 13 := (r2.ext _ h.ths.here.has.lt).trans h.ths.here.lb
  have s1 := r2'.setCell (p := ⟨A.bT, i * 5 + 4, none⟩) (.inl hb) (.slice (some ⟨g, 0, none⟩) (t.opn.length + 1) cap)
  have s2 : Stp (fun k => k = 13) w2 (upd A.o g (22 + 3 * i)) (w2.setCell ⟨A.bT, i * 5 + 4, none⟩ (.slice (some ⟨g, 0, none⟩) (t.opn.length + 1) cap)) (upd A.o g (22 + 3 * i)) := (Stp.refl _ _ _).setCell (p := ⟨A.bT, i * 5 + 4, none⟩) hb _
  have o := h.one hi hl
  have hT := h.turn hi hl (t' := { t with opn := t.opn ++ [r] }) (l' := { l with p := ⟨some ⟨g, 0, none⟩, cap⟩ }) s1 (ThRep.putCell hh (h.zipAt hi hl) (by omega) (by simp [thCells])) ⟨(o.s.st r2 (by omega)).st s2 (by omega), (o.f.st r2 (by omega)).st s2 (by omega), by have r := r1.st s2 (by omega); simpa using r⟩
  exact ⟨hh, hT.1, hT.2⟩
/-- the open list written over as a whole -/
theorem VRep.setP (h : VRep w A m f e) (hi : m.ths[i]? = some t) (hl : A.X[i]? = some l) {g : Nat} (hg : l.p.a = some ⟨g, 0, none⟩) {cur cur' : Array Value} (hc : Has w g cur 3) (hsz : cur'.size = cur.size) {ys : List Nat} (hyl : ys.length = t.opn.length) (ht : cur'.toList.take ys.length = ys.flatMap nCells) :
    VRep (w.setRow g cur') A (m.setTh i { t with opn := ys }) f e ∧ VSt (isT i) w A (w.setRow g cur') A := by
  have one := h.one hi hl
  obtain ⟨r1, s1⟩ := one.p.setRow hg hc hsz (ys := ys.flatMap nCells) (by rw [flatMap_len _ 1 nCells_len, hyl]) (by rw [← hyl, Nat.mul_one]; exact ht)
  refine h.inTh hi hl (s1.weaken (fun k hk => by omega)) (by simp [thCells, hyl]) ⟨one.s.st s1 (by omega), one.f.st s1 (by omega), ?_⟩
  have := r1
  rw [show t.opn.length = ys.length from hyl.symm] at this
  exact this
/-- a place of the open list written -/
theorem VRep.putP (h : VRep w A m f e) (hi : m.ths[i]? = some t) (hl : A.X[i]? = some l) {g j : Nat} (hg : l.p.a = some ⟨g, 0, none⟩) {u : Nat} (hj : t.opn[j]? = some u) (x : Nat) :
    VRep (w.setCell ⟨g, j, none⟩ (.int .i64 x)) A (m.setTh i { t with opn := t.opn.set j x }) f e ∧ VSt (isT i) w A (w.setCell ⟨g, j, none⟩ (.int .i64 x)) A := by
  have one := h.one hi hl
  have e1 : (t.opn.flatMap nCells).set j (.int .i64 x) = (t.opn.set j x).flatMap nCells := by
    have := flatMap_set _ 1 nCells_len t.opn j 0 u x (.int .i64 x) hj (by omega) rfl
    rw [Nat.mul_one, Nat.add_zero] at this
    exact this.symm
  obtain ⟨r1, s1⟩ := one.p.put hg j (.int .i64 x) e1
  refine h.inTh hi hl (s1.weaken (fun k hk => by omega)) (by simp [thCells]) ⟨one.s.st s1 (by omega), one.f.st s1 (by omega), ?_⟩
  simpa using r1
/-- the plain middle: copy by one place, then the new one -/
theorem ins_mid (xs : List Nat) (j c : Nat) (hj : j ≤ xs.length) (z : Nat) : (xs.take j ++ [(xs ++ [z]).getD j 0] ++ xs.drop j).set j c = xs.take j ++ [c] ++ xs.drop j := by
  have hl : (xs.take j).length = j := by rw [List.length_take]; omega
  rw [List.append_assoc, List.set_append_right _ _ (by omega), hl, Nat.sub_self]
  simp
/-- the open list with a place made free at J: what copy does -/
theorem VRep.insP (h : VRep w A m f e) (hi : m.ths[i]? = some t) (hl : A.X[i]? = some l) {g : Nat} (hg : l.p.a = some ⟨g, 0, none⟩) {xs : List Nat} {z J : Nat} (hx : t.opn = xs ++ [z]) (hJ : J ≤ xs.length) (c : Nat) :
    ∃ cur' : Array Value,
      (∀ ty q n1 c1 s n2 c2, (q = J + 1 ∨ (q = 0 ∧ xs.length = J)) → n1 = xs.length - J → s = J → n2 = xs.length + 1 - J → (Builtin.copy_ #[88, 88] ty #[.slice (some ⟨g, q, none⟩) n1 c1, .slice (some ⟨g, s, none⟩) n2 c2]).run Tryz.prog w = .ok (.int .i64 (xs.length - J : Nat)) (w.setRow g cur')) ∧
      VRep (w.setRow g cur') A (m.setTh i { t with opn := xs.take J ++ [(xs ++ [z]).getD J 0] ++ xs.drop J }) f e ∧ VSt (isT i) w A (w.setRow g cur') A ∧
      VRep ((w.setRow g cur').setCell ⟨g, J, none⟩ (.int .i64 c)) A (m.setTh i { t with opn := xs.take J ++ [c] ++ xs.drop J }) f e ∧ VSt (isT i) w A ((w.setRow g cur').setCell ⟨g, J, none⟩ (.int .i64 c)) A := by
  have one := h.one hi hl
  have hp := one.p
  rw [hx] at hp
  have hll : (xs ++ [z]).length = xs.length + 1 := by simp
  have nflat : ∀ ys : List Nat, ys.flatMap nCells = ys.map (fun x : Nat => Value.int .i64 x) := by
    intro ys
    induction ys with
    | nil => rfl
    | cons a b ih => rw [List.flatMap_cons, ih]; rfl
  rcases hp.own.2 with ⟨h1, _⟩ | ⟨g', cap, cur, hv, hbg, hg0, hnc, hcm, hcs, htake⟩
  · unfold Sl.v at h1
    rw [hg] at h1
    cases h1
  · unfold Sl.v at hv
    rw [hg] at hv
    cases hv
    rw [Nat.mul_one] at htake hcs
    rw [hll] at hnc htake
    have hge : xs.length + 1 ≤ cur.size := by rw [hcs]; exact hnc
    have hc : Has w g cur 3 := hg0
    have htk : cur.toList.take (xs.length + 1) = (xs ++ [z]).map (fun x : Nat => Value.int .i64 x) := by rw [htake, nflat]
    have hlen : ((xs.drop J).map (fun x : Nat => Value.int .i64 x)).length = (xs.length - J) * 1 := by simp
    have hcp : ∀ ty q n1 c1 s n2 c2, (q = J + 1 ∨ (q = 0 ∧ xs.length = J)) → n1 = xs.length - J → s = J → n2 = xs.length + 1 - J → (Builtin.copy_ #[88, 88] ty #[.slice (some ⟨g, q, none⟩) n1 c1, .slice (some ⟨g, s, none⟩) n2 c2]).run Tryz.prog w = .ok (.int .i64 (xs.length - J : Nat)) (w.setRow g (cur.toList.take (J + 1) ++ (xs.drop J).map (fun x : Nat => Value.int .i64 x) ++ cur.toList.drop (J + 1 + (xs.length - J) * 1)).toArray) := by
      intro ty q n1 c1 s n2 c2 hq e1' e2' e3'
      rw [e1', e2', e3']
      have hsrc : ∀ (j : Nat) (v : Value), ((xs.drop J).map (fun x : Nat => Value.int .i64 x))[j]? = some v → w.cell? ⟨g, J + j, none⟩ = some v := by
        intro j v hj
        rw [hc.cell]
        have hj2 : j < xs.length - J := by have := (List.getElem?_eq_some_iff.1 hj).1; simpa using this
        have e1 : cur[J + j]? = (cur.toList.take (xs.length + 1))[J + j]? := by rw [List.getElem?_take_of_lt (by omega)]; simp
        rw [e1, htk, ← hj]
        rw [List.getElem?_map, List.getElem?_append_left (by omega), List.getElem?_map, List.getElem?_drop]
      have hone : ∀ u ∈ (xs.drop J).map (fun x : Nat => Value.int .i64 x), u.oneCell' = true := by
        intro u hu
        obtain ⟨x, _, rfl⟩ := List.mem_map.1 hu
        rfl
      rcases hq with rfl | ⟨rfl, hq⟩
      · exact run_copy_size w 88 88 ty 3 1 (by kernel_rfl) (by kernel_rfl) g (J + 1) _ _ g J _ _ cur 3 hg0 _ _ (by omega) hlen hsrc hone (by omega)
      · have h1 := run_copy_size (P := Tryz.prog) w 88 88 ty 3 1 (by kernel_rfl) (by kernel_rfl) g 0 (xs.length - J) c1 g J (xs.length + 1 - J) c2 cur 3 hg0 ((xs.drop J).map (fun x : Nat => Value.int .i64 x)) (xs.length - J) (by omega) hlen hsrc hone (by omega)
        rw [h1]
        have hz : xs.length - J = 0 := by omega
        have hd : xs.drop J = [] := List.drop_eq_nil_of_le (by omega)
        have e1 : (cur.toList.take 0 ++ (xs.drop J).map (fun x : Nat => Value.int .i64 x) ++ cur.toList.drop (0 + (xs.length - J) * 1)).toArray = cur := by rw [hd, hz]; simp
        have e2 : (cur.toList.take (J + 1) ++ (xs.drop J).map (fun x : Nat => Value.int .i64 x) ++ cur.toList.drop (J + 1 + (xs.length - J) * 1)).toArray = cur := by rw [hd, hz]; simp
        rw [e1, e2]
    refine ⟨_, hcp, ?_⟩
    have hsz : (cur.toList.take (J + 1) ++ (xs.drop J).map (fun x : Nat => Value.int .i64 x) ++ cur.toList.drop (J + 1 + (xs.length - J) * 1)).toArray.size = cur.size := by
      simp
      omega
    have hyl : (xs.take J ++ [(xs ++ [z]).getD J 0] ++ xs.drop J).length = t.opn.length := by
      rw [hx]
      simp
      omega
    have htk2 : (cur.toList.take (J + 1) ++ (xs.drop J).map (fun x : Nat => Value.int .i64 x) ++ cur.toList.drop (J + 1 + (xs.length - J) * 1)).toArray.toList.take (xs.take J ++ [(xs ++ [z]).getD J 0] ++ xs.drop J).length = (xs.take J ++ [(xs ++ [z]).getD J 0] ++ xs.drop J).flatMap nCells := by
      rw [hyl, hx, hll, nflat]
      have e1 : cur.toList.take (J + 1) = ((xs ++ [z]).take (J + 1)).map (fun x : Nat => Value.int .i64 x) := by
        rw [List.map_take, ← htk, List.take_take]
        congr 1
        omega
      have e2 : (xs ++ [z]).take (J + 1) = xs.take J ++ [(xs ++ [z]).getD J 0] := by
        rw [List.take_add_one]
        congr 1
        · exact List.take_append_of_le_length hJ
        · rw [List.getD_eq_getElem?_getD]
          have : J < (xs ++ [z]).length := by rw [hll]; omega
          rw [List.getElem?_eq_getElem this]
          rfl
      simp only [List.toList_toArray]
      rw [e1, e2, ← List.map_append]
      rw [List.take_append_of_le_length (by simp; omega), List.take_of_length_le (by simp; omega)]
    obtain ⟨r1, s1⟩ := h.setP hi hl hg hc hsz hyl htk2
    have hi2 : (m.setTh i { t with opn := xs.take J ++ [(xs ++ [z]).getD J 0] ++ xs.drop J }).ths[i]? = some { t with opn := xs.take J ++ [(xs ++ [z]).getD J 0] ++ xs.drop J } := by
      simp [VMD.setTh, (List.getElem?_eq_some_iff.1 hi).1]
    have hj2 : ({ t with opn := xs.take J ++ [(xs ++ [z]).getD J 0] ++ xs.drop J } : ThD).opn[J]? = some ((xs ++ [z]).getD J 0) := by
      dsimp only
      rw [List.append_assoc, List.getElem?_append_right (by simp; omega)]
      simp [hJ]
    obtain ⟨r2, s2⟩ := r1.putP hi2 hl hg hj2 c
    refine ⟨r1, s1, ?_, s1.trans s2⟩
    dsimp only at r2
    rw [ins_mid xs J c hJ z] at r2
    have e : (m.setTh i { t with opn := xs.take J ++ [(xs ++ [z]).getD J 0] ++ xs.drop J }).setTh i { t with opn := xs.take J ++ [c] ++ xs.drop J } = m.setTh i { t with opn := xs.take J ++ [c] ++ xs.drop J } := by simp [VMD.setTh]
    rw [e] at r2
    exact r2
end
end Go.Proofs.Qxb6500574aGreatDoor
