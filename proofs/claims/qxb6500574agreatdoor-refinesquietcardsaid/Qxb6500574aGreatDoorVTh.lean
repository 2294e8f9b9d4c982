/-
  moon: A THREAD OF THE MACHINE TURNED: its state, its stack, its frames, its open list. No walk.
-/
import Derived.Test.Qxb6500574aGreatDoorVMem
namespace Go.Proofs.Qxb6500574aGreatDoor
open Go Go.RowKit
set_option linter.unusedVariables false
set_option linter.unusedSimpArgs false

theorem zip_set {α β : Type} : ∀ (l : List α) (l2 : List β) (i : Nat) (a : α) (b : β), (l.set i a).zip (l2.set i b) = (l.zip l2).set i (a, b)
  | [], _, _, _, _ => by simp
  | _ :: _, [], i, _, _ => by cases i <;> simp
  | _ :: _, _ :: _, 0, _, _ => by simp
  | _ :: l, _ :: l2, i + 1, a, b => by simp [zip_set l l2 i a b]
/-- the labels of thread i -/
def isT (i k : Nat) : Prop := k = 13 ∨ (20 + 3 * i ≤ k ∧ k < 23 + 3 * i)
theorem isT_th {i : Nat} (hi : i < 5) {k : Nat} (h : isT i k) : isTh k := by
  rcases h with h | h
  · exact .inl h
  · exact .inr (by omega)
theorem VMD.th_some {m : VMD} {i : Nat} {t : ThD} (h : m.ths[i]? = some t) : m.th i = t := by simp [VMD.th, h]
section
variable {w w1 w2 : World} {A : VL} {m : VMD} {f e i : Nat} {t t' : ThD} {l l' : ThL} {o' : Nat → Nat}
theorem VRep.lays (h : VRep w A m f e) (hi : m.ths[i]? = some t) : ∃ l, A.X[i]? = some l := by
  have h1 := (List.getElem?_eq_some_iff.1 hi).1
  have h2 := h.lenX
  exact ⟨A.X[i]'(by omega), by simp⟩
theorem VRep.zipAt (h : VRep w A m f e) (hi : m.ths[i]? = some t) (hl : A.X[i]? = some l) : (m.ths.zip A.X ++ A.Z)[i]? = some (t, l) := by
  have h1 := (List.getElem?_eq_some_iff.1 hi).1
  have h2 := h.lenX
  rw [List.getElem?_append_left (by simp; omega)]
  simp [List.getElem?_zip_eq_some, hi, hl]
theorem VRep.i5 (h : VRep w A m f e) (hi : m.ths[i]? = some t) : i < 5 := by
  have h1 := (List.getElem?_eq_some_iff.1 hi).1
  have h2 := h.len5
  omega
theorem VRep.one (h : VRep w A m f e) (hi : m.ths[i]? = some t) (hl : A.X[i]? = some l) : ThOne w A.o i (t, l) := h.ths.one i _ (h.zipAt hi hl)
theorem VRep.thCell (h : VRep w A m f e) (hi : m.ths[i]? = some t) (hl : A.X[i]? = some l) {j : Nat} (hj : j < 5) : w.cell? ⟨A.bT, i * 5 + j, none⟩ = (thCells (t, l))[j]? := h.ths.cell (h.zipAt hi hl) hj
/-- thread i turned -/
theorem VRep.turn (h : VRep w A m f e) (hi : m.ths[i]? = some t) (hl : A.X[i]? = some l) (s : Stp (isT i) w A.o w1 o')
    (hh : Has w1 A.bT (((m.ths.zip A.X ++ A.Z).set i (t', l')).flatMap thCells).toArray 265) (ho : ThOne w1 o' i (t', l')) :
    VRep w1 { A with o := o', X := A.X.set i l' } (m.setTh i t') f e ∧ VSt (isT i) w A w1 { A with o := o', X := A.X.set i l' } := by
  have h1 := (List.getElem?_eq_some_iff.1 hi).1
  have h2 := h.lenX
  have h3 := h.i5 hi
  have hth : ∀ k, isT i k → isTh k := fun k => isT_th h3
  have hT := h.ths.set (x' := (t', l')) (h.zipAt hi hl) s (fun l hl => hl) hh ho
  rw [List.set_append_left _ _ (by simp; omega), ← zip_set] at hT
  obtain ⟨k, hk, ht⟩ := h.tabs
  have hc := h.core.st s (fun l hl hq => by
    have := hth l hq
    rcases hl with hl | hl | hl <;> rcases this with this | this <;> omega)
  refine ⟨⟨?_, hT, by simp [VMD.setTh, h2], by simp [VMD.setTh]; exact h.len5, h.num.st s (fun hq => ?_) (fun hq => ?_), ⟨k, hk, ht.st s (fun l hl hq => ?_)⟩, s.hi h.own⟩, s, rfl, rfl, rfl, rfl, rfl⟩
  · have hlen : (m.setTh i t').ths.length = m.ths.length := by simp [VMD.setTh]
    rw [hlen]
    exact ⟨hc.here, hc.protos, hc.descs, hc.consts, hc.code, hc.clos, hc.upix, hc.cells, hc.out⟩
  · rcases hth _ hq with hq | hq <;> omega
  · rcases hth _ hq with hq | hq <;> omega
  · rcases hth l hq with hq | hq <;> rcases hl with hl | hl | hl <;> omega
theorem VL.same (A : VL) (hl : A.X[i]? = some l) : { A with o := A.o, X := A.X.set i l } = A := by
  have : A.X.set i l = A.X := by
    apply List.ext_getElem?
    intro j
    rw [List.getElem?_set]
    split
    · rename_i e
      subst e
      rw [hl]
      have := (List.getElem?_eq_some_iff.1 hl).1
      simp [this]
    · rfl
  rw [this]
/-- a cell of the thread's own struct turned, the rows stay -/
theorem VRep.field (h : VRep w A m f e) (hi : m.ths[i]? = some t) (hl : A.X[i]? = some l) {j : Nat} (hj : j < 5) {u : Value} (hu : thCells (t', l) = (thCells (t, l)).set j u) (ho : ThOne w A.o i (t, l) → ThOne w A.o i (t', l)) :
    VRep (w.setCell ⟨A.bT, i * 5 + j, none⟩ u) A (m.setTh i t') f e ∧ VSt (isT i) w A (w.setCell ⟨A.bT, i * 5 + j, none⟩ u) A := by
  have hs : Stp (isT i) w A.o (w.setCell ⟨A.bT, i * 5 + j, none⟩ u) A.o := (Stp.refl _ _ _).setCell (p := ⟨A.bT, i * 5 + j, none⟩) (.inl h.ths.here.lb) u
  have hs2 : Stp (fun k => k = 13) w A.o (w.setCell ⟨A.bT, i * 5 + j, none⟩ u) A.o := (Stp.refl _ _ _).setCell (p := ⟨A.bT, i * 5 + j, none⟩) h.ths.here.lb u
  have := h.turn hi hl (t' := t') (l' := l) hs (ThRep.putCell h.ths.here.has (h.zipAt hi hl) hj hu) ((ho (h.one hi hl)).st hs2 (fun d hd => by omega))
  rw [VL.same A hl] at this
  exact this
/-- the stack cut to n values -/
theorem VRep.cutS (h : VRep w A m f e) (hi : m.ths[i]? = some t) (hl : A.X[i]? = some l) {n : Nat} (hn : n ≤ t.stack.length) :
    VRep (w.setCell ⟨A.bT, i * 5 + 2, none⟩ (.slice l.s.a n l.s.c)) A (m.setTh i { t with stack := t.stack.take n }) f e ∧ VSt (isT i) w A (w.setCell ⟨A.bT, i * 5 + 2, none⟩ (.slice l.s.a n l.s.c)) A := by
  have hle : (t.stack.take n).length = n := by rw [List.length_take]; omega
  refine h.field hi hl (by omega) (by simp [thCells, Nat.min_eq_left hn]) (fun o => ⟨?_, o.f, o.p⟩)
  show Row w A.o (20 + 3 * i) 68 3 l.s (t.stack.take n).length ((t.stack.take n).flatMap vCells)
  rw [hle]
  exact o.s.take n hn (flatMap_take _ 3 vCells_len t.stack n).symm
theorem VRep.cutF (h : VRep w A m f e) (hi : m.ths[i]? = some t) (hl : A.X[i]? = some l) {n : Nat} (hn : n ≤ t.frames.length) :
    VRep (w.setCell ⟨A.bT, i * 5 + 3, none⟩ (.slice l.f.a n l.f.c)) A (m.setTh i { t with frames := t.frames.take n }) f e ∧ VSt (isT i) w A (w.setCell ⟨A.bT, i * 5 + 3, none⟩ (.slice l.f.a n l.f.c)) A := by
  have hle : (t.frames.take n).length = n := by rw [List.length_take]; omega
  refine h.field hi hl (by omega) (by simp [thCells, Nat.min_eq_left hn]) (fun o => ⟨o.s, ?_, o.p⟩)
  show Row w A.o (21 + 3 * i) 336 5 l.f (t.frames.take n).length ((t.frames.take n).flatMap fCells)
  rw [hle]
  exact o.f.take n hn (flatMap_take _ 5 fCells_len t.frames n).symm
theorem VRep.cutP (h : VRep w A m f e) (hi : m.ths[i]? = some t) (hl : A.X[i]? = some l) {n : Nat} (hn : n ≤ t.opn.length) :
    VRep (w.setCell ⟨A.bT, i * 5 + 4, none⟩ (.slice l.p.a n l.p.c)) A (m.setTh i { t with opn := t.opn.take n }) f e ∧ VSt (isT i) w A (w.setCell ⟨A.bT, i * 5 + 4, none⟩ (.slice l.p.a n l.p.c)) A := by
  have hle : (t.opn.take n).length = n := by rw [List.length_take]; omega
  refine h.field hi hl (by omega) (by simp [thCells, Nat.min_eq_left hn]) (fun o => ⟨o.s, o.f, ?_⟩)
  show Row w A.o (22 + 3 * i) 3 1 l.p (t.opn.take n).length ((t.opn.take n).flatMap nCells)
  rw [hle]
  exact o.p.take n hn (flatMap_take _ 1 nCells_len t.opn n).symm
theorem VRep.setSt (h : VRep w A m f e) (hi : m.ths[i]? = some t) (hl : A.X[i]? = some l) (st : Nat) :
    VRep (w.setCell ⟨A.bT, i * 5 + 0, none⟩ (.int .i64 st)) A (m.setTh i { t with st := st }) f e ∧ VSt (isT i) w A (w.setCell ⟨A.bT, i * 5 + 0, none⟩ (.int .i64 st)) A :=
  h.field hi hl (by omega) rfl (fun o => ⟨o.s, o.f, o.p⟩)
/-- values pushed: behind the append and the store of the header -/
theorem VRep.pushed (h : VRep w A m f e) (hi : m.ths[i]? = some t) (hl : A.X[i]? = some l) (vs : List Vl) (hf : Fr (fun _ => False) w w1) {g cap : Nat}
    (q1 : w2.ownsRow 0 68 3 (.slice (some ⟨g, 0, none⟩) (t.stack.length + vs.length) cap) (t.stack.length + vs.length) (t.stack.flatMap vCells ++ vs.flatMap vCells)) (q2 : Fr (fun j => (l.s.v t.stack.length).ownBlock = some j) w1 w2) (q3 : (l.s.v t.stack.length).ownBlock = some g ∨ w.heap.size ≤ g) (q4 : g < w2.heap.size) :
    Has w2 A.bT ((m.ths.zip A.X ++ A.Z).flatMap thCells).toArray 265 ∧
    ∃ A', VRep (w2.setCell ⟨A.bT, i * 5 + 2, none⟩ (.slice (some ⟨g, 0, none⟩) (t.stack.length + vs.length) cap)) A' (m.setTh i { t with stack := t.stack ++ vs }) f e ∧ VSt (isT i) w A (w2.setCell ⟨A.bT, i * 5 + 2, none⟩ (.slice (some ⟨g, 0, none⟩) (t.stack.length + vs.length) cap)) A' ∧ A'.Z = A.Z ∧ A'.X = A.X.set i { l with s := ⟨some ⟨g, 0, none⟩, cap⟩ } := by
  obtain ⟨r1, r2⟩ := (h.one hi hl).s.app hf q1 q2 q3 q4
  have hh : Has w2 A.bT ((m.ths.zip A.X ++ A.Z).flatMap thCells).toArray 265 := r2.has h.ths.here.has (by rw [h.ths.here.lb]; omega)
  have r2' : Stp (isT i) w A.o w2 (upd A.o g (20 + 3 * i)) := r2.weaken (fun k hk => .inr (by omega))
  have hb : upd A.o g (20 + 3 * i) A.bT = 13 := (r2.ext _ h.ths.here.has.lt).trans h.ths.here.lb
  have s1 := r2'.setCell (p := ⟨A.bT, i * 5 + 2, none⟩) (.inl hb) (.slice (some ⟨g, 0, none⟩) (t.stack.length + vs.length) cap)
  have s2 : Stp (fun k => k = 13) w2 (upd A.o g (20 + 3 * i)) (w2.setCell ⟨A.bT, i * 5 + 2, none⟩ (.slice (some ⟨g, 0, none⟩) (t.stack.length + vs.length) cap)) (upd A.o g (20 + 3 * i)) := (Stp.refl _ _ _).setCell (p := ⟨A.bT, i * 5 + 2, none⟩) hb _
  have o := h.one hi hl
  refine ⟨hh, _, (h.turn hi hl (t' := { t with stack := t.stack ++ vs }) (l' := { l with s := ⟨some ⟨g, 0, none⟩, cap⟩ }) s1 (ThRep.putCell hh (h.zipAt hi hl) (by omega) (by simp [thCells])) ⟨?_, ?_, ?_⟩).1, (h.turn hi hl (t' := { t with stack := t.stack ++ vs }) (l' := { l with s := ⟨some ⟨g, 0, none⟩, cap⟩ }) s1 (ThRep.putCell hh (h.zipAt hi hl) (by omega) (by simp [thCells])) ⟨?_, ?_, ?_⟩).2, rfl, rfl⟩
  all_goals first
    | (have r := r1.st s2 (by omega); simpa using r)
    | exact (o.f.st r2 (by omega)).st s2 (by omega)
    | exact (o.p.st r2 (by omega)).st s2 (by omega)
end
end Go.Proofs.Qxb6500574aGreatDoor
