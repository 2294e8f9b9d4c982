/-
  run.Inst: plain data, and how it lies in memory. No walk.
-/
import Derived.Test.Qxb6500575aGreatDoorProg
import Derived.Test.Qxb6500575aGreatDoorCk2
import Derived.Test.Qxb6500575aGreatDoorRegApp
namespace Go.Proofs.Qxb6500575aGreatDoor
open Go Go.RowKit
set_option linter.unusedVariables false
set_option linter.unusedSimpArgs false

/-- run.value: an i32, an i64 -/
abbrev V : Type := Sum Int Int
abbrev V.w (n : Int) : V := Sum.inl n
abbrev V.d (n : Int) : V := Sum.inr n
def V.ty : V → UInt8
  | Sum.inl _ => 105
  | Sum.inr _ => 108
def V.num : V → Int
  | Sum.inl n => n
  | Sum.inr n => n
def V.val : V → Value
  | Sum.inl n => .iface 208 (.int .i32 n)
  | Sum.inr n => .iface 209 (.int .i64 n)
def V.Fits : V → Prop
  | Sum.inl n => -2147483648 ≤ n ∧ n < 2147483648
  | Sum.inr n => -9223372036854775808 ≤ n ∧ n < 9223372036854775808
theorem V.on {P : V → Prop} (w : ∀ n, P (V.w n)) (d : ∀ n, P (V.d n)) (v : V) : P v :=
  match v with
  | Sum.inl n => w n
  | Sum.inr n => d n
theorem V.cells (v : V) : v.val.cells = #[v.val] := by cases v <;> rfl
theorem V.oneCell (v : V) : v.val.oneCell' = true := by cases v <;> rfl
structure Frm where
  f : Int
  pc : Int
  base : Nat
  floor : Nat
  res : List UInt8
def frmCells (r : Frm) : List Value := [.int .i64 r.f, .int .i64 r.pc, .int .i64 r.base, .int .i64 r.floor, sv r.res]
theorem frmCells_len (r : Frm) : (frmCells r).length = 5 := rfl
/-- run.Inst: st, fr: the top first -/
structure InD where
  st : List V
  fr : List Frm
  used : Int
  high : Int
structure InL where
  sa : Option Addr
  fa : Option Addr
  sc : Nat
  fc : Nat
abbrev InL.stV (L : InL) (x : InD) : Value := .slice L.sa x.st.length L.sc
abbrev InL.frV (L : InL) (x : InD) : Value := .slice L.fa x.fr.length L.fc
structure InRep (w : World) (bx : Nat) (p k : Value) (L : InL) (x : InD) : Prop where
  here : Has w bx #[p, k, .slice L.sa x.st.length L.sc, .slice L.fa x.fr.length L.fc, .int .i64 x.used, .int .i64 x.high] 62
  st : w.ownsRow 0 150 1 (L.stV x) x.st.length (x.st.reverse.map V.val)
  fr : w.ownsRow 0 213 5 (L.frV x) x.fr.length (x.fr.reverse.flatMap frmCells)

/-- the blocks that a step of the machine may turn -/
def InS (bx : Nat) (L : InL) (k : Nat) : Prop := k = bx ∨ (Value.slice L.sa 0 0).ownBlock = some k ∨ (Value.slice L.fa 0 0).ownBlock = some k
structure InStep (w w' : World) (bx : Nat) (L L' : InL) : Prop where
  fr : Fr (InS bx L) w w'
  sub : ∀ k, k < w.heap.size → InS bx L' k → InS bx L k
theorem InStep.refl (w : World) (bx : Nat) (L : InL) : InStep w w bx L L := ⟨Fr.refl _ _, fun _ _ h => h⟩
theorem InStep.trans {w w1 w2 : World} {bx : Nat} {L L1 L2 : InL} (h : InStep w w1 bx L L1) (h' : InStep w1 w2 bx L1 L2) : InStep w w2 bx L L2 :=
  ⟨h.fr.trans h'.fr h.sub, fun k hk hS => h.sub k hk (h'.sub k (Nat.lt_of_lt_of_le hk h.fr.size) hS)⟩
theorem InStep.drewN {w w1 : World} {bx : Nat} {L L1 : InL} (h : InStep w w1 bx L L1) (n : Nat) : InStep w (w1.drewN n) bx L L1 := ⟨h.fr.drewN n, h.sub⟩
theorem InStep.drew {w w1 : World} {bx : Nat} {L L1 : InL} (h : InStep w w1 bx L L1) : InStep w w1.drew bx L L1 := ⟨h.fr.drew, h.sub⟩
theorem InStep.alloc {w w1 : World} {bx : Nat} {L L1 : InL} (h : InStep w w1 bx L L1) (o : Obj) : InStep w (w1.alloc o) bx L L1 := ⟨h.fr.alloc o, h.sub⟩

section
variable {w w2 : World} {bx : Nat} {p k : Value} {L : InL} {x : InD}
theorem InRep.lt (h : InRep w bx p k L x) {j : Nat} (hj : InS bx L j) : j < w.heap.size := by
  rcases hj with rfl | hj | hj
  · exact h.here.lt
  · exact owns_lt h.st j (by rw [ownBlock_any]; exact hj)
  · exact owns_lt h.fr j (by rw [ownBlock_any]; exact hj)
/-- the types of the machine's blocks -/
theorem InRep.typ (h : InRep w bx p k L x) {j : Nat} (hj : InS bx L j) {cs : Array Value} {T : TypeId} (hh : Has w j cs T) : T = 62 ∨ T = 150 ∨ T = 213 := by
  rcases hj with rfl | hj | hj
  · have := hh.symm.trans h.here
    simp at this
    exact .inl this.2
  · exact .inr (.inl (owns_type h.st (by rw [ownBlock_any]; exact hj) hh))
  · exact .inr (.inr (owns_type h.fr (by rw [ownBlock_any]; exact hj) hh))
/-- a row of another type is none of them -/
theorem InRep.row (h : InRep w bx p k L x) {v : Value} {e : TypeId} {size n : Nat} {xs : List Value} (ho : w.ownsRow 0 e size v n xs) (h1 : e ≠ 62) (h2 : e ≠ 150) (h3 : e ≠ 213) : ∀ g, v.ownBlock = some g → ¬ InS bx L g := by
  intro g hg hS
  rcases hS with rfl | hj | hj
  · exact owns_ne ho h.here (Ne.symm h1) hg
  · exact owns_apart ho h.st h2 g hg (by rw [ownBlock_any]; exact hj)
  · exact owns_apart ho h.fr h3 g hg (by rw [ownBlock_any]; exact hj)
theorem InRep.has (h : InRep w bx p k L x) {j : Nat} {cs : Array Value} {T : TypeId} (hh : Has w j cs T) (h1 : T ≠ 62) (h2 : T ≠ 150) (h3 : T ≠ 213) : ¬ InS bx L j := by
  intro hS
  rcases h.typ hS hh with e | e | e
  · exact h1 e
  · exact h2 e
  · exact h3 e
theorem InRep.fr' (h : InRep w bx p k L x) {S : Nat → Prop} (hf : Fr S w w2) (hS : ∀ j, InS bx L j → ¬ S j) : InRep w2 bx p k L x :=
  { here := h.here.fr hf (hS _ (.inl rfl))
    st := owns_fr h.st hf (fun g hg => hS g (.inr (.inl (by rw [ownBlock_any]; exact hg))))
    fr := owns_fr h.fr hf (fun g hg => hS g (.inr (.inr (by rw [ownBlock_any]; exact hg)))) }
theorem InRep.fresh (h : InRep w bx p k L x) (hf : Fr (fun _ => False) w w2) : InRep w2 bx p k L x := h.fr' hf (fun _ _ h => h)
theorem InRep.drewN (h : InRep w bx p k L x) (n : Nat) : InRep (w.drewN n) bx p k L x := h.fresh ((Fr.refl _ w).drewN n)
theorem InRep.drew (h : InRep w bx p k L x) : InRep w.drew bx p k L x := h.fresh ((Fr.refl _ w).drew)
theorem InRep.alloc (h : InRep w bx p k L x) (o : Obj) : InRep (w.alloc o) bx p k L x := h.fresh ((Fr.refl _ w).alloc o)
theorem InRep.far (h : InRep w bx p k L x) {v0 : Value} (hF : Fr (fun k => v0.ownBlock = some k ∨ k = bx) w w2) {v : Value} {e : TypeId} {size n : Nat} {xs : List Value} (ho : w.ownsRow 0 e size v n xs) (hb : 62 ≠ e) (hi : ∀ k, v.ownBlock = some k → v0.ownBlock ≠ some k) : w2.ownsRow 0 e size v n xs :=
  owns_fr ho hF (fun k hk hk' => by
      rcases hk' with hk' | rfl
      · exact hi k hk hk'
      · exact owns_ne ho h.here hb hk)
/-- the stack is laid anew -/
theorem InRep.putSt (h : InRep w bx p k L x) (st2 : List V) {sa2 : Option Addr} {sc2 : Nat}
    (hF : Fr (fun k => (L.stV x).ownBlock = some k ∨ k = bx) w w2)
    (hH : Has w2 bx (#[p, k, .slice L.sa x.st.length L.sc, .slice L.fa x.fr.length L.fc, .int .i64 x.used, .int .i64 x.high].setIfInBounds 2 (.slice sa2 st2.length sc2)) 62)
    (hO : w2.ownsRow 0 150 1 (.slice sa2 st2.length sc2) st2.length (st2.reverse.map V.val))
    (hat : ∀ g, (Value.slice sa2 st2.length sc2).ownBlock = some g → (L.stV x).ownBlock = some g ∨ w.heap.size ≤ g) :
    InRep w2 bx p k { L with sa := sa2, sc := sc2 } { x with st := st2 } ∧ InStep w w2 bx L { L with sa := sa2, sc := sc2 } := by
  refine ⟨{ here := by simpa using hH, st := hO, fr := h.far hF h.fr (by decide) (owns_apart h.fr h.st (by decide)) }, ⟨hF.weaken ?_, ?_⟩⟩
  · rintro k _ (hk | rfl)
    · exact .inr (.inl (by rw [ownBlock_any]; exact hk))
    · exact .inl rfl
  · rintro k hk (rfl | h1 | h1)
    · exact .inl rfl
    · rcases hat k (by rw [ownBlock_any]; exact h1) with h2 | h2
      · exact .inr (.inl (by rw [ownBlock_any]; exact h2))
      · omega
    · exact .inr (.inr h1)
/-- the frames are laid anew -/
theorem InRep.putFr (h : InRep w bx p k L x) (fr2 : List Frm) {fa2 : Option Addr} {fc2 : Nat}
    (hF : Fr (fun k => (L.frV x).ownBlock = some k ∨ k = bx) w w2)
    (hH : Has w2 bx (#[p, k, .slice L.sa x.st.length L.sc, .slice L.fa x.fr.length L.fc, .int .i64 x.used, .int .i64 x.high].setIfInBounds 3 (.slice fa2 fr2.length fc2)) 62)
    (hO : w2.ownsRow 0 213 5 (.slice fa2 fr2.length fc2) fr2.length (fr2.reverse.flatMap frmCells))
    (hat : ∀ g, (Value.slice fa2 fr2.length fc2).ownBlock = some g → (L.frV x).ownBlock = some g ∨ w.heap.size ≤ g) :
    InRep w2 bx p k { L with fa := fa2, fc := fc2 } { x with fr := fr2 } ∧ InStep w w2 bx L { L with fa := fa2, fc := fc2 } := by
  refine ⟨{ here := by simpa using hH, fr := hO, st := h.far hF h.st (by decide) (owns_apart h.st h.fr (by decide)) }, ⟨hF.weaken ?_, ?_⟩⟩
  · rintro k _ (hk | rfl)
    · exact .inr (.inr (by rw [ownBlock_any]; exact hk))
    · exact .inl rfl
  · rintro k hk (rfl | h1 | h1)
    · exact .inl rfl
    · exact .inr (.inl h1)
    · rcases hat k (by rw [ownBlock_any]; exact h1) with h2 | h2
      · exact .inr (.inr (by rw [ownBlock_any]; exact h2))
      · omega
/-- used, high -/
theorem InRep.putHead (h : InRep w bx p k L x) (i : Nat) (v : Value) {x' : InD} (hs : x'.st = x.st) (hf : x'.fr = x.fr)
    (he : #[p, k, .slice L.sa x.st.length L.sc, .slice L.fa x.fr.length L.fc, .int .i64 x.used, .int .i64 x.high].setIfInBounds i v = #[p, k, .slice L.sa x'.st.length L.sc, .slice L.fa x'.fr.length L.fc, .int .i64 x'.used, .int .i64 x'.high]) :
    InRep (w.setCell ⟨bx, i, none⟩ v) bx p k L x' ∧ InStep w (w.setCell ⟨bx, i, none⟩ v) bx L L := by
  have h1 := owns_ne h.st h.here (by decide)
  have h2 := owns_ne h.fr h.here (by decide)
  refine ⟨{ here := by rw [← he]; exact h.here.put i v, st := ?_, fr := ?_ }, ⟨Fr.setCell (S := InS bx L) (Fr.refl _ _) (p := ⟨bx, i, none⟩) (.inl (.inl rfl)) _, fun _ _ h => h⟩⟩
  · have := owns_other h.st (p := ⟨bx, i, none⟩) h1 v
    rw [InL.stV, hs]; exact this
  · have := owns_other h.fr (p := ⟨bx, i, none⟩) h2 v
    rw [InL.frV, hf]; exact this
theorem InRep.setUsed (h : InRep w bx p k L x) (n : Int) : InRep (w.setCell ⟨bx, 4, none⟩ (.int .i64 n)) bx p k L { x with used := n } ∧ InStep w (w.setCell ⟨bx, 4, none⟩ (.int .i64 n)) bx L L :=
  h.putHead 4 _ (x' := { x with used := n }) rfl rfl rfl
theorem InRep.setHigh (h : InRep w bx p k L x) (n : Int) : InRep (w.setCell ⟨bx, 5, none⟩ (.int .i64 n)) bx p k L { x with high := n } ∧ InStep w (w.setCell ⟨bx, 5, none⟩ (.int .i64 n)) bx L L :=
  h.putHead 5 _ (x' := { x with high := n }) rfl rfl rfl
/-- the value at place i from the bottom -/
theorem InRep.stAt (h : InRep w bx p k L x) {i : Nat} {v : V} (hv : x.st.reverse[i]? = some v) :
    ∃ g, L.sa = some ⟨g, 0, none⟩ ∧ w.cell? ⟨g, i, none⟩ = some v.val ∧ (∀ j, w.frozen? ⟨g, j, none⟩ = false) ∧ g < w.heap.size ∧ x.st.length ≤ L.sc ∧ bx ≠ g := by
  have hi : i < x.st.length := by simpa using (List.getElem?_eq_some_iff.1 hv).1
  obtain ⟨g, ha, hc⟩ := owns_some h.st (by omega)
  have ho := h.st
  unfold InL.stV at ho
  rw [ha] at ho
  refine ⟨g, ha, ?_, fun j => ho.frozenAt j, owns_lt ho g rfl, ?_, fun e => owns_ne ho h.here (by decide) (by rw [e]; rfl)⟩
  · rw [hc i (by omega), List.getElem?_map, hv]; rfl
  · rcases owns_form h.st with ⟨h1, h2, _⟩ | ⟨_, _, h1⟩
    · omega
    · exact h1
/-- the top frame -/
theorem InRep.top (h : InRep w bx p k L x) {r : Frm} {rs : List Frm} (hr : x.fr = r :: rs) :
    ∃ g, L.fa = some ⟨g, 0, none⟩ ∧ (∀ j, j < 5 → w.cell? ⟨g, rs.length * 5 + j, none⟩ = (frmCells r)[j]?) ∧ (∀ j, w.frozen? ⟨g, j, none⟩ = false) ∧ g < w.heap.size ∧ rs.length + 1 ≤ L.fc ∧ bx ≠ g ∧ (Value.slice L.sa 0 0).ownBlock ≠ some g := by
  have hl : x.fr.length = rs.length + 1 := by rw [hr]; rfl
  obtain ⟨g, ha, hc⟩ := owns_some h.fr (by omega)
  have ho := h.fr
  unfold InL.frV at ho
  rw [ha] at ho
  refine ⟨g, ha, fun j hj => ?_, fun j => ho.frozenAt j, owns_lt ho g rfl, ?_, fun e => owns_ne ho h.here (by decide) (by rw [e]; rfl), fun e => owns_apart h.st ho (by decide) g (by rw [ownBlock_any _ _ _ 0 0]; exact e) rfl⟩
  · rw [hc _ (by rw [hl]; omega), hr, List.reverse_cons, List.flatMap_append]
    have hfl : ∀ l : List Frm, (l.flatMap frmCells).length = l.length * 5 := by
      intro l
      induction l with
      | nil => rfl
      | cons a l ih => simp only [List.flatMap_cons, List.length_append, ih, frmCells_len, List.length_cons]; omega
    rw [List.getElem?_append_right (by rw [hfl]; simp), hfl]
    simp
  · rcases owns_form h.fr with ⟨h1, h2, _⟩ | ⟨_, _, h1⟩
    · omega
    · omega
/-- the top frame's program counter -/
theorem InRep.setPc (h : InRep w bx p k L x) {r : Frm} {rs : List Frm} (hr : x.fr = r :: rs) {g : Nat} (hg : L.fa = some ⟨g, 0, none⟩) (n : Int) :
    InRep (w.setCell ⟨g, rs.length * 5 + 1, none⟩ (.int .i64 n)) bx p k L { x with fr := { r with pc := n } :: rs } ∧ InStep w (w.setCell ⟨g, rs.length * 5 + 1, none⟩ (.int .i64 n)) bx L L := by
  have ho := h.fr
  unfold InL.frV at ho
  rw [hg] at ho
  have hb : bx ≠ g := fun e => owns_ne ho h.here (by decide) (by rw [e]; rfl)
  have hst := (ho.stored (rs.length * 5 + 1) (.int .i64 n)).1
  have hfl : ∀ l : List Frm, (l.flatMap frmCells).length = l.length * 5 := by
    intro l
    induction l with
    | nil => rfl
    | cons a l ih => simp only [List.flatMap_cons, List.length_append, ih, frmCells_len, List.length_cons]; omega
  refine ⟨{ here := ?_, st := ?_, fr := ?_ }, ⟨Fr.setCell (S := InS bx L) (Fr.refl _ _) (p := ⟨g, rs.length * 5 + 1, none⟩) (.inl (.inr (.inr (by rw [hg]; rfl)))) _, fun _ _ h => h⟩⟩
  · have := h.here.other (p := ⟨g, rs.length * 5 + 1, none⟩) hb (.int .i64 n)
    rw [hr] at this
    simpa using this
  · exact owns_other h.st (p := ⟨g, rs.length * 5 + 1, none⟩) (fun e => owns_apart h.st ho (by decide) g e rfl) _
  · unfold InL.frV
    rw [hg]
    have e1 : ({ r with pc := n } :: rs : List Frm).length = x.fr.length := by rw [hr]; rfl
    have e2 : (({ r with pc := n } :: rs : List Frm).reverse.flatMap frmCells) = (x.fr.reverse.flatMap frmCells).set (rs.length * 5 + 1) (.int .i64 n) := by
      rw [hr]
      simp only [List.reverse_cons, List.flatMap_append, List.flatMap_singleton]
      rw [List.set_append_right _ _ (by rw [hfl]; simp), hfl]
      simp [frmCells]
    simp only [e1, e2]
    exact hst
/-- a value below the top is replaced -/
theorem InRep.setAt (h : InRep w bx p k L x) {i : Nat} (hi : i < x.st.length) {g : Nat} (hg : L.sa = some ⟨g, 0, none⟩) (v : V) :
    InRep (w.setCell ⟨g, i, none⟩ v.val) bx p k L { x with st := (x.st.reverse.set i v).reverse } ∧ InStep w (w.setCell ⟨g, i, none⟩ v.val) bx L L := by
  have ho := h.st
  unfold InL.stV at ho
  rw [hg] at ho
  have hb : bx ≠ g := fun e => owns_ne ho h.here (by decide) (by rw [e]; rfl)
  have hst := (ho.stored i v.val).1
  refine ⟨{ here := ?_, st := ?_, fr := ?_ }, ⟨Fr.setCell (S := InS bx L) (Fr.refl _ _) (p := ⟨g, i, none⟩) (.inl (.inr (.inl (by rw [hg]; rfl)))) _, fun _ _ h => h⟩⟩
  · have := h.here.other (p := ⟨g, i, none⟩) hb v.val
    simpa using this
  · unfold InL.stV
    rw [hg]
    simp only [List.length_reverse, List.length_set, List.reverse_reverse, List.map_set]
    exact hst
  · exact owns_other h.fr (p := ⟨g, i, none⟩) (fun e => owns_apart ho h.fr (by decide) g rfl e) _
end
end Go.Proofs.Qxb6500575aGreatDoor
