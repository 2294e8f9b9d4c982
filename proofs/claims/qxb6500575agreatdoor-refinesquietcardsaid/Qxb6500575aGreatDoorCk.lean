/-
  THE CHECKER's STATE as plain data, and how it lies in memory.
-/
import Derived.Test.Qxb6500575aGreatDoorData
namespace Go.Proofs.Qxb6500575aGreatDoor
open Go Go.RowKit
set_option linter.unusedVariables false
set_option linter.unusedSimpArgs false

/-- prep.block: alt, wait: the places of the holes -/
structure Blk where
  res : List UInt8
  carry : List UInt8
  height : Nat
  head : Int
  dead : Bool
  alt : Option Nat
  wait : List Nat
/-- prep.checker: st, opn: the top first -/
structure Ck where
  st : List UInt8
  opn : List Blk
  code : List Flat

def byteCells (l : List UInt8) : List Value := l.map fun b => .int .u8 b.toNat
theorem byteCells_len (l : List UInt8) : (byteCells l).length = l.length := by simp [byteCells]
/-- a block's seven cells; beside it the values of alt and wait -/
def blkCells (x : Blk × Value × Value) : List Value := [sv x.1.res, sv x.1.carry, .int .i64 x.1.height, .int .i64 x.1.head, .bool x.1.dead, x.2.1, x.2.2]
theorem blkCells_len (x : Blk × Value × Value) : (blkCells x).length = 7 := rfl

/-- the closure that fills the hole at place 'at' of the checker in block bk -/
def HoleV (w : World) (bk : Nat) (v : Value) (at_ : Nat) : Prop :=
  ∃ b1 b2, v = .func (.func 144) #[] #[.pointer (some ⟨b1, 0, none⟩), .pointer (some ⟨b2, 0, none⟩)] ∧ Has w b1 #[.pointer (some ⟨bk, 0, none⟩)] 189 ∧ Has w b2 #[.int .i64 at_] 3
def AltV (w : World) (bk : Nat) (v : Value) : Option Nat → Prop
  | none => v = .nilFunc
  | some a => HoleV w bk v a
structure BlkRep (w : World) (bk : Nat) (b : Blk) (l : Value × Value) : Prop where
  alt : AltV w bk l.1 b.alt
  wait : ∃ hv : List Value, w.ownsRow 0 221 1 l.2 b.wait.length hv ∧ ∀ (i : Nat) v a, hv[i]? = some v → b.wait[i]? = some a → HoleV w bk v a

structure CkL where
  sa : Option Addr
  oa : Option Addr
  ca : Option Addr
  sc : Nat
  oc : Nat
  cc : Nat
  ls : List (Value × Value)
/-- what does not turn: p, u, the map on -/
structure CkF where
  p : Value
  u : Value
  on : Nat

abbrev CkL.stV (L : CkL) (s : Ck) : Value := .slice L.sa s.st.length L.sc
abbrev CkL.opnV (L : CkL) (s : Ck) : Value := .slice L.oa s.opn.length L.oc
abbrev CkL.codeV (L : CkL) (s : Ck) : Value := .slice L.ca s.code.length L.cc

structure CkRep (B : Nat) (w : World) (bk : Nat) (fx : CkF) (L : CkL) (s : Ck) : Prop where
  here : Has w bk #[fx.p, fx.u, .slice L.sa s.st.length L.sc, .slice L.oa s.opn.length L.oc, .slice L.ca s.code.length L.cc, .map (some fx.on)] 195
  st : w.ownsRow 0 5 1 (L.stV s) s.st.length (byteCells s.st.reverse)
  opn : w.ownsRow 0 226 7 (L.opnV s) s.opn.length ((s.opn.zip L.ls).reverse.flatMap blkCells)
  code : w.ownsRow 0 176 4 (L.codeV s) s.code.length (flatCells s.code)
  lsl : L.ls.length = s.opn.length
  blk : ∀ (i : Nat) b l, s.opn[i]? = some b → L.ls[i]? = some l → BlkRep w bk b l
  apart : ∀ (i j : Nat) l l', L.ls[i]? = some l → L.ls[j]? = some l' → i ≠ j → ∀ g, l.2.ownBlock = some g → l'.2.ownBlock ≠ some g
  base : B ≤ bk
  baseS : ∀ g, (L.stV s).ownBlock = some g → B ≤ g
  baseO : ∀ g, (L.opnV s).ownBlock = some g → B ≤ g
  baseC : ∀ g, (L.codeV s).ownBlock = some g → B ≤ g
  baseW : ∀ (i : Nat) l, L.ls[i]? = some l → ∀ g, l.2.ownBlock = some g → B ≤ g

theorem HoleV.fr {S : Nat → Prop} {w w' : World} {bk a : Nat} {v : Value} (h : HoleV w bk v a) (hf : Fr S w w') (hS : ∀ k cs T, Has w k cs T → S k → T ≠ 189 ∧ T ≠ 3) : HoleV w' bk v a := by
  obtain ⟨b1, b2, hv, h1, h2⟩ := h
  exact ⟨b1, b2, hv, h1.fr hf (fun hk => (hS _ _ _ h1 hk).1 rfl), h2.fr hf (fun hk => (hS _ _ _ h2 hk).2 rfl)⟩
theorem AltV.fr {S : Nat → Prop} {w w' : World} {bk : Nat} {v : Value} {a : Option Nat} (h : AltV w bk v a) (hf : Fr S w w') (hS : ∀ k cs T, Has w k cs T → S k → T ≠ 189 ∧ T ≠ 3) : AltV w' bk v a := by
  cases a with
  | none => exact h
  | some a => exact HoleV.fr h hf hS
theorem BlkRep.fr {S : Nat → Prop} {w w' : World} {bk : Nat} {b : Blk} {l : Value × Value} (h : BlkRep w bk b l) (hf : Fr S w w') (hS : ∀ k cs T, Has w k cs T → S k → T ≠ 189 ∧ T ≠ 3) (hw : ∀ g, l.2.ownBlock = some g → ¬ S g) : BlkRep w' bk b l := by
  obtain ⟨h1, hv, h2, h3⟩ := h
  exact ⟨h1.fr hf hS, hv, owns_fr h2 hf hw, fun i v a hi ha => (h3 i v a hi ha).fr hf hS⟩

/-- A block of the owned row has the row's type. -/
theorem owns_type {w : World} {e : TypeId} {size : Nat} {v : Value} {n : Nat} {xs : List Value} (h : w.ownsRow 0 e size v n xs) {k : Nat} (hk : v.ownBlock = some k) {cs : Array Value} {T : TypeId} (hh : Has w k cs T) : T = e := by
  rcases h.2 with ⟨rfl, _⟩ | ⟨g, cap, cur, rfl, _, hgg, _⟩
  · simp [Value.ownBlock] at hk
  · simp [Value.ownBlock] at hk
    subst hk
    have := hh.symm.trans hgg
    simp at this
    exact this.2

/-- the blocks that a step of the checker may turn -/
def CkS (bk : Nat) (L : CkL) (k : Nat) : Prop :=
  k = bk ∨ (Value.slice L.sa 0 0).ownBlock = some k ∨ (Value.slice L.oa 0 0).ownBlock = some k ∨ (Value.slice L.ca 0 0).ownBlock = some k ∨ ∃ (i : Nat) (l : Value × Value), L.ls[i]? = some l ∧ l.2.ownBlock = some k
theorem ownBlock_any (a : Option Addr) (n c n' c' : Nat) : (Value.slice a n c).ownBlock = (Value.slice a n' c').ownBlock := by cases a <;> rfl
structure CkStep (w w' : World) (bk : Nat) (L L' : CkL) : Prop where
  fr : Fr (CkS bk L) w w'
  sub : ∀ k, k < w.heap.size → CkS bk L' k → CkS bk L k
theorem CkStep.refl (w : World) (bk : Nat) (L : CkL) : CkStep w w bk L L := ⟨Fr.refl _ _, fun _ _ h => h⟩
theorem CkStep.trans {w w1 w2 : World} {bk : Nat} {L L1 L2 : CkL} (h : CkStep w w1 bk L L1) (h' : CkStep w1 w2 bk L1 L2) : CkStep w w2 bk L L2 :=
  ⟨h.fr.trans h'.fr h.sub, fun k hk hS => h.sub k hk (h'.sub k (Nat.lt_of_lt_of_le hk h.fr.size) hS)⟩
theorem CkStep.drewN {w w1 : World} {bk : Nat} {L L1 : CkL} (h : CkStep w w1 bk L L1) (n : Nat) : CkStep w (w1.drewN n) bk L L1 := ⟨h.fr.drewN n, h.sub⟩
theorem CkStep.drew {w w1 : World} {bk : Nat} {L L1 : CkL} (h : CkStep w w1 bk L L1) : CkStep w w1.drew bk L L1 := ⟨h.fr.drew, h.sub⟩
theorem CkStep.alloc {w w1 : World} {bk : Nat} {L L1 : CkL} (h : CkStep w w1 bk L L1) (o : Obj) : CkStep w (w1.alloc o) bk L L1 := ⟨h.fr.alloc o, h.sub⟩
theorem CkStep.has {w w1 : World} {bk : Nat} {L L1 : CkL} (h : CkStep w w1 bk L L1) {b : Nat} {cs : Array Value} {T : TypeId} (hb : Has w b cs T) (hn : ¬ CkS bk L b) : Has w1 b cs T := hb.fr h.fr hn

section
variable {B : Nat} {w w2 : World} {bk : Nat} {fx : CkF} {L : CkL} {s : Ck}

theorem CkRep.lt (h : CkRep B w bk fx L s) {k : Nat} (hk : CkS bk L k) : k < w.heap.size := by
  rcases hk with rfl | hk | hk | hk | ⟨i, l, hl, hk⟩
  · exact h.here.lt
  · exact owns_lt h.st k (by rw [ownBlock_any]; exact hk)
  · exact owns_lt h.opn k (by rw [ownBlock_any]; exact hk)
  · exact owns_lt h.code k (by rw [ownBlock_any]; exact hk)
  · have hi : i < s.opn.length := by rw [← h.lsl]; exact (List.getElem?_eq_some_iff.1 hl).1
    obtain ⟨_, hv, h2, _⟩ := h.blk i s.opn[i] l (by simp [hi]) hl
    exact owns_lt h2 k hk
theorem CkRep.ge (h : CkRep B w bk fx L s) {k : Nat} (hk : CkS bk L k) : B ≤ k := by
  rcases hk with rfl | hk | hk | hk | ⟨i, l, hl, hk⟩
  · exact h.base
  · exact h.baseS k (by rw [ownBlock_any]; exact hk)
  · exact h.baseO k (by rw [ownBlock_any]; exact hk)
  · exact h.baseC k (by rw [ownBlock_any]; exact hk)
  · exact h.baseW i l hl k hk
/-- a step that turns none of the checker's blocks, nor its holes' -/
theorem CkRep.fr (h : CkRep B w bk fx L s) {S : Nat → Prop} (hf : Fr S w w2) (hS : ∀ k, CkS bk L k → ¬ S k) (hT : ∀ k cs T, Has w k cs T → S k → T ≠ 189 ∧ T ≠ 3) : CkRep B w2 bk fx L s :=
  { h with
    here := h.here.fr hf (hS _ (.inl rfl))
    st := owns_fr h.st hf (fun g hg => hS g (.inr (.inl (by rw [ownBlock_any]; exact hg))))
    opn := owns_fr h.opn hf (fun g hg => hS g (.inr (.inr (.inl (by rw [ownBlock_any]; exact hg)))))
    code := owns_fr h.code hf (fun g hg => hS g (.inr (.inr (.inr (.inl (by rw [ownBlock_any]; exact hg))))))
    blk := fun i b l hb hl => (h.blk i b l hb hl).fr hf hT (fun g hg => hS g (.inr (.inr (.inr (.inr ⟨i, l, hl, hg⟩))))) }
theorem CkRep.drewN (h : CkRep B w bk fx L s) (n : Nat) : CkRep B (w.drewN n) bk fx L s := h.fr (S := fun _ => False) ((Fr.refl _ w).drewN n) (fun _ _ h => h) (fun _ _ _ _ h => h.elim)
theorem CkRep.drew (h : CkRep B w bk fx L s) : CkRep B w.drew bk fx L s := h.fr (S := fun _ => False) ((Fr.refl _ w).drew) (fun _ _ h => h) (fun _ _ _ _ h => h.elim)
theorem CkRep.alloc (h : CkRep B w bk fx L s) (o : Obj) : CkRep B (w.alloc o) bk fx L s := h.fr (S := fun _ => False) ((Fr.refl _ w).alloc o) (fun _ _ h => h) (fun _ _ _ _ h => h.elim)
/-- a block that is made behind the rep is none of the checker's -/
theorem CkRep.new (h : CkRep B w bk fx L s) {k : Nat} (hk : w.heap.size ≤ k) : ¬ CkS bk L k := fun hS => by have := h.lt hS; omega

/-- what the step may have turned is the row v0 (of element type e) and the checker's own block: all that holds holes lies elsewhere -/
theorem CkRep.kind (h : CkRep B w bk fx L s) {v0 : Value} {e : TypeId} {size n : Nat} {xs : List Value} (h0 : w.ownsRow 0 e size v0 n xs) (he : e ≠ 189 ∧ e ≠ 3) :
    ∀ k cs T, Has w k cs T → (v0.ownBlock = some k ∨ k = bk) → T ≠ 189 ∧ T ≠ 3 := by
  rintro k cs T hk (h1 | rfl)
  · rw [owns_type h0 h1 hk]; exact he
  · have := hk.symm.trans h.here
    simp at this
    rw [this.2]; decide
theorem CkRep.far (h : CkRep B w bk fx L s) {v0 : Value} (hF : Fr (fun k => v0.ownBlock = some k ∨ k = bk) w w2) {v : Value} {e : TypeId} {size n : Nat} {xs : List Value} (ho : w.ownsRow 0 e size v n xs) (hb : 195 ≠ e) (hi : ∀ k, v.ownBlock = some k → v0.ownBlock ≠ some k) : w2.ownsRow 0 e size v n xs :=
  owns_fr ho hF (fun k hk hk' => by
      rcases hk' with hk' | rfl
      · exact hi k hk hk'
      · exact owns_ne ho h.here hb hk)

/-- the stack of operand types is laid anew -/
theorem CkRep.putSt (h : CkRep B w bk fx L s) (st2 : List UInt8) {sa2 : Option Addr} {sc2 : Nat}
    (hF : Fr (fun k => (L.stV s).ownBlock = some k ∨ k = bk) w w2)
    (hH : Has w2 bk (#[fx.p, fx.u, .slice L.sa s.st.length L.sc, .slice L.oa s.opn.length L.oc, .slice L.ca s.code.length L.cc, .map (some fx.on)].setIfInBounds 2 (.slice sa2 st2.length sc2)) 195)
    (hO : w2.ownsRow 0 5 1 (.slice sa2 st2.length sc2) st2.length (byteCells st2.reverse))
    (hat : ∀ g, (Value.slice sa2 st2.length sc2).ownBlock = some g → (L.stV s).ownBlock = some g ∨ w.heap.size ≤ g) :
    CkRep B w2 bk fx { L with sa := sa2, sc := sc2 } { s with st := st2 } ∧ CkStep w w2 bk L { L with sa := sa2, sc := sc2 } := by
  refine ⟨{ h with
    here := by simpa using hH
    st := hO
    opn := h.far hF h.opn (by decide) (owns_apart h.opn h.st (by decide))
    code := h.far hF h.code (by decide) (owns_apart h.code h.st (by decide))
    blk := fun i b l hb hl => by
      have hr := h.blk i b l hb hl
      obtain ⟨_, hv, h2, _⟩ := hr
      exact (h.blk i b l hb hl).fr hF (h.kind h.st (by decide)) (fun g hg hk => by
        rcases hk with hk | rfl
        · exact owns_apart h2 h.st (by decide) g hg hk
        · exact owns_ne h2 h.here (by decide) hg)
    baseS := fun g hg => by
      rcases hat g hg with h1 | h1
      · exact h.baseS g h1
      · have := h.here.lt; have := h.base; omega }, ⟨hF.weaken ?_, ?_⟩⟩
  · rintro k _ (hk | rfl)
    · exact .inr (.inl (by rw [ownBlock_any]; exact hk))
    · exact .inl rfl
  · rintro k hk (rfl | h1 | h1 | h1 | h1)
    · exact .inl rfl
    · rcases hat k (by rw [ownBlock_any]; exact h1) with h2 | h2
      · exact .inr (.inl (by rw [ownBlock_any]; exact h2))
      · omega
    · exact .inr (.inr (.inl h1))
    · exact .inr (.inr (.inr (.inl h1)))
    · exact .inr (.inr (.inr (.inr h1)))
/-- the flat code is laid anew -/
theorem CkRep.putCode (h : CkRep B w bk fx L s) (code2 : List Flat) {ca2 : Option Addr} {cc2 : Nat}
    (hF : Fr (fun k => (L.codeV s).ownBlock = some k ∨ k = bk) w w2)
    (hH : Has w2 bk (#[fx.p, fx.u, .slice L.sa s.st.length L.sc, .slice L.oa s.opn.length L.oc, .slice L.ca s.code.length L.cc, .map (some fx.on)].setIfInBounds 4 (.slice ca2 code2.length cc2)) 195)
    (hO : w2.ownsRow 0 176 4 (.slice ca2 code2.length cc2) code2.length (flatCells code2))
    (hat : ∀ g, (Value.slice ca2 code2.length cc2).ownBlock = some g → (L.codeV s).ownBlock = some g ∨ w.heap.size ≤ g) :
    CkRep B w2 bk fx { L with ca := ca2, cc := cc2 } { s with code := code2 } ∧ CkStep w w2 bk L { L with ca := ca2, cc := cc2 } := by
  refine ⟨{ h with
    here := by simpa using hH
    code := hO
    opn := h.far hF h.opn (by decide) (owns_apart h.opn h.code (by decide))
    st := h.far hF h.st (by decide) (owns_apart h.st h.code (by decide))
    blk := fun i b l hb hl => by
      have hr := h.blk i b l hb hl
      obtain ⟨_, hv, h2, _⟩ := hr
      exact (h.blk i b l hb hl).fr hF (h.kind h.code (by decide)) (fun g hg hk => by
        rcases hk with hk | rfl
        · exact owns_apart h2 h.code (by decide) g hg hk
        · exact owns_ne h2 h.here (by decide) hg)
    baseC := fun g hg => by
      rcases hat g hg with h1 | h1
      · exact h.baseC g h1
      · have := h.here.lt; have := h.base; omega }, ⟨hF.weaken ?_, ?_⟩⟩
  · rintro k _ (hk | rfl)
    · exact .inr (.inr (.inr (.inl (by rw [ownBlock_any]; exact hk))))
    · exact .inl rfl
  · rintro k hk (rfl | h1 | h1 | h1 | h1)
    · exact .inl rfl
    · exact .inr (.inl h1)
    · exact .inr (.inr (.inl h1))
    · rcases hat k (by rw [ownBlock_any]; exact h1) with h2 | h2
      · exact .inr (.inr (.inr (.inl (by rw [ownBlock_any]; exact h2))))
      · omega
    · exact .inr (.inr (.inr (.inr h1)))
/-- the i-th open block (from the top), cell by cell -/
theorem CkRep.at (h : CkRep B w bk fx L s) (i : Nat) {b : Blk} (hb : s.opn[i]? = some b) :
    ∃ go l, L.oa = some ⟨go, 0, none⟩ ∧ L.ls[i]? = some l ∧ (∀ j, j < 7 → w.cell? ⟨go, (s.opn.length - 1 - i) * 7 + j, none⟩ = (blkCells (b, l))[j]?) ∧ (∀ j, w.frozen? ⟨go, j, none⟩ = false) ∧ go < w.heap.size ∧ bk ≠ go := by
  have hi : i < s.opn.length := (List.getElem?_eq_some_iff.1 hb).1
  obtain ⟨go, ha, hc⟩ := owns_some h.opn (by omega)
  have hil : i < L.ls.length := by rw [h.lsl]; exact hi
  have hz : (s.opn.zip L.ls).length = s.opn.length := by simp [h.lsl]
  have hbi : s.opn[i] = b := by simpa [hi] using hb
  refine ⟨go, L.ls[i], ha, by simp [hil], fun j hj => ?_, fun j => ?_, ?_, ?_⟩
  · have hj2 : (s.opn.length - 1 - i) * 7 + j < s.opn.length * 7 := by
      have : (s.opn.length - 1 - i) * 7 + 7 ≤ s.opn.length * 7 := by
        rw [← Nat.succ_mul]; exact Nat.mul_le_mul_right _ (by omega)
      omega
    rw [hc _ hj2]
    refine flatMap_at blkCells 7 blkCells_len _ _ j _ ?_ hj
    rw [List.getElem?_reverse (by rw [hz]; omega), hz]
    have : s.opn.length - 1 - (s.opn.length - 1 - i) = i := by omega
    rw [this, List.getElem?_zip_eq_some]
    exact ⟨hb, by simp [hil]⟩
  · have ho := h.opn
    unfold CkL.opnV at ho
    rw [ha] at ho
    exact ho.frozenAt j
  · refine owns_lt h.opn go ?_
    unfold CkL.opnV
    rw [ha]; rfl
  · intro e
    exact owns_ne h.opn h.here (by decide) (by unfold CkL.opnV; rw [ha, e]; rfl)
/-- the stack's top -/
theorem CkRep.stTop (h : CkRep B w bk fx L s) {t : UInt8} {st' : List UInt8} (hs : s.st = t :: st') :
    ∃ gs, L.sa = some ⟨gs, 0, none⟩ ∧ w.cell? ⟨gs, st'.length, none⟩ = some (.int .u8 t.toNat) := by
  have hn : s.st.length = st'.length + 1 := by rw [hs]; rfl
  obtain ⟨gs, ha, hc⟩ := owns_some h.st (by omega)
  refine ⟨gs, ha, ?_⟩
  rw [hc st'.length (by omega), hs]
  simp [byteCells]
end
end Go.Proofs.Qxb6500575aGreatDoor
