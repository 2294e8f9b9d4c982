/-
  THE MODEL's STATE (prepm.chk) as it lies in memory. No walk.
-/
import Derived.Test.Qxb6500575aGreatDoorPlainM
import Derived.Test.Qxb6500575aGreatDoorCk2
import Derived.Test.Qxb6500575aGreatDoorMem2
namespace Go.Proofs.Qxb6500575aGreatDoor
open Go Go.RowKit
set_option linter.unusedVariables false
set_option linter.unusedSimpArgs false

def ctlCells (c : Ctl) : List Value := [.int .i64 c.op, .int .i64 c.bt, .int .i64 c.height, .int .i64 c.at_, .bool c.dead]
theorem ctlCells_len (c : Ctl) : (ctlCells c).length = 5 := rfl
structure MkL where
  sa : Option Addr
  sc : Nat
  ca : Option Addr
  cc : Nat
abbrev MkL.stV (L : MkL) (s : Mk) : Value := .slice L.sa s.st.length L.sc
abbrev MkL.csV (L : MkL) (s : Mk) : Value := .slice L.ca s.cs.length L.cc
structure MkRep (w : World) (bk : Nat) (L : MkL) (s : Mk) : Prop where
  here : Has w bk #[.slice L.sa s.st.length L.sc, .slice L.ca s.cs.length L.cc] 136
  st : w.ownsRow 0 5 1 (L.stV s) s.st.length (byteCells s.st.reverse)
  cs : w.ownsRow 0 132 5 (L.csV s) s.cs.length (s.cs.reverse.flatMap ctlCells)
/-- the blocks that a step of the model's checker may turn -/
def MkS (bk : Nat) (L : MkL) (k : Nat) : Prop := k = bk ∨ (Value.slice L.sa 0 0).ownBlock = some k ∨ (Value.slice L.ca 0 0).ownBlock = some k
structure MkStep (w w' : World) (bk : Nat) (L L' : MkL) : Prop where
  fr : Fr (MkS bk L) w w'
  sub : ∀ k, k < w.heap.size → MkS bk L' k → MkS bk L k
theorem MkStep.refl (w : World) (bk : Nat) (L : MkL) : MkStep w w bk L L := ⟨Fr.refl _ _, fun _ _ h => h⟩
theorem MkStep.trans {w w1 w2 : World} {bk : Nat} {L L1 L2 : MkL} (h : MkStep w w1 bk L L1) (h' : MkStep w1 w2 bk L1 L2) : MkStep w w2 bk L L2 :=
  ⟨h.fr.trans h'.fr h.sub, fun k hk hS => h.sub k hk (h'.sub k (Nat.lt_of_lt_of_le hk h.fr.size) hS)⟩
theorem MkStep.drewN {w w1 : World} {bk : Nat} {L L1 : MkL} (h : MkStep w w1 bk L L1) (n : Nat) : MkStep w (w1.drewN n) bk L L1 := ⟨h.fr.drewN n, h.sub⟩
theorem MkStep.drew {w w1 : World} {bk : Nat} {L L1 : MkL} (h : MkStep w w1 bk L L1) : MkStep w w1.drew bk L L1 := ⟨h.fr.drew, h.sub⟩
theorem MkStep.alloc {w w1 : World} {bk : Nat} {L L1 : MkL} (h : MkStep w w1 bk L L1) (o : Obj) : MkStep w (w1.alloc o) bk L L1 := ⟨h.fr.alloc o, h.sub⟩
/-- a block that is new, stored to -/
theorem MkStep.put {w w1 : World} {bk : Nat} {L L1 : MkL} (h : MkStep w w1 bk L L1) {p : Addr} (hp : w.heap.size ≤ p.block) (u : Value) : MkStep w (w1.setCell p u) bk L L1 := ⟨h.fr.setCell (.inr hp) u, h.sub⟩

section
variable {w w2 : World} {bk : Nat} {L : MkL} {s : Mk}
theorem MkRep.lt (h : MkRep w bk L s) {k : Nat} (hk : MkS bk L k) : k < w.heap.size := by
  rcases hk with rfl | hk | hk
  · exact h.here.lt
  · exact owns_lt h.st k (by rw [ownBlock_any]; exact hk)
  · exact owns_lt h.cs k (by rw [ownBlock_any]; exact hk)
theorem MkRep.fr (h : MkRep w bk L s) {S : Nat → Prop} (hf : Fr S w w2) (hS : ∀ k, MkS bk L k → ¬ S k) : MkRep w2 bk L s :=
  ⟨h.here.fr hf (hS _ (.inl rfl)), owns_fr h.st hf (fun g hg => hS g (.inr (.inl (by rw [ownBlock_any]; exact hg)))), owns_fr h.cs hf (fun g hg => hS g (.inr (.inr (by rw [ownBlock_any]; exact hg))))⟩
theorem MkRep.drewN (h : MkRep w bk L s) (n : Nat) : MkRep (w.drewN n) bk L s := h.fr (S := fun _ => False) ((Fr.refl _ w).drewN n) (fun _ _ h => h)
theorem MkRep.drew (h : MkRep w bk L s) : MkRep w.drew bk L s := h.fr (S := fun _ => False) ((Fr.refl _ w).drew) (fun _ _ h => h)
theorem MkRep.alloc (h : MkRep w bk L s) (o : Obj) : MkRep (w.alloc o) bk L s := h.fr (S := fun _ => False) ((Fr.refl _ w).alloc o) (fun _ _ h => h)
theorem MkRep.new (h : MkRep w bk L s) {k : Nat} (hk : w.heap.size ≤ k) : ¬ MkS bk L k := fun hS => by have := h.lt hS; omega
theorem MkRep.code (h : MkRep w bk L s) (c : List Flat) : MkRep w bk L { s with code := c } := ⟨h.here, h.st, h.cs⟩
/-- the code is not the checker's -/
theorem MkRep.same (h : MkRep w bk L s) {s' : Mk} (h1 : s'.st = s.st) (h2 : s'.cs = s.cs) : MkRep w bk L s' := by
  obtain ⟨a, b, c⟩ := s'
  obtain ⟨a', b', c'⟩ := s
  simp at h1 h2
  subst h1; subst h2
  exact ⟨h.here, h.st, h.cs⟩
theorem MkRep.putSt (h : MkRep w bk L s) (st2 : List UInt8) {sa2 : Option Addr} {sc2 : Nat}
    (hF : Fr (fun k => (L.stV s).ownBlock = some k ∨ k = bk) w w2)
    (hH : Has w2 bk (#[.slice L.sa s.st.length L.sc, .slice L.ca s.cs.length L.cc].setIfInBounds 0 (.slice sa2 st2.length sc2)) 136)
    (hO : w2.ownsRow 0 5 1 (.slice sa2 st2.length sc2) st2.length (byteCells st2.reverse))
    (hat : ∀ g, (Value.slice sa2 st2.length sc2).ownBlock = some g → (L.stV s).ownBlock = some g ∨ w.heap.size ≤ g) :
    MkRep w2 bk { L with sa := sa2, sc := sc2 } { s with st := st2 } ∧ MkStep w w2 bk L { L with sa := sa2, sc := sc2 } := by
  refine ⟨⟨by simpa using hH, hO, ?_⟩, ⟨hF.weaken ?_, ?_⟩⟩
  · refine owns_fr h.cs hF (fun k hk hk' => ?_)
    rcases hk' with hk' | rfl
    · exact owns_apart h.cs h.st (by decide) k hk hk'
    · exact owns_ne h.cs h.here (by decide) hk
  · rintro k _ (hk | rfl)
    · exact .inr (.inl (by rw [ownBlock_any]; exact hk))
    · exact .inl rfl
  · rintro k hk (rfl | h1 | h1)
    · exact .inl rfl
    · rcases hat k (by rw [ownBlock_any]; exact h1) with h2 | h2
      · exact .inr (.inl (by rw [ownBlock_any]; exact h2))
      · omega
    · exact .inr (.inr h1)
theorem MkRep.putCs (h : MkRep w bk L s) (cs2 : List Ctl) {ca2 : Option Addr} {cc2 : Nat}
    (hF : Fr (fun k => (L.csV s).ownBlock = some k ∨ k = bk) w w2)
    (hH : Has w2 bk (#[.slice L.sa s.st.length L.sc, .slice L.ca s.cs.length L.cc].setIfInBounds 1 (.slice ca2 cs2.length cc2)) 136)
    (hO : w2.ownsRow 0 132 5 (.slice ca2 cs2.length cc2) cs2.length (cs2.reverse.flatMap ctlCells))
    (hat : ∀ g, (Value.slice ca2 cs2.length cc2).ownBlock = some g → (L.csV s).ownBlock = some g ∨ w.heap.size ≤ g) :
    MkRep w2 bk { L with ca := ca2, cc := cc2 } { s with cs := cs2 } ∧ MkStep w w2 bk L { L with ca := ca2, cc := cc2 } := by
  refine ⟨⟨by simpa using hH, ?_, hO⟩, ⟨hF.weaken ?_, ?_⟩⟩
  · refine owns_fr h.st hF (fun k hk hk' => ?_)
    rcases hk' with hk' | rfl
    · exact owns_apart h.st h.cs (by decide) k hk hk'
    · exact owns_ne h.st h.here (by decide) hk
  · rintro k _ (hk | rfl)
    · exact .inr (.inr (by rw [ownBlock_any]; exact hk))
    · exact .inl rfl
  · rintro k hk (rfl | h1 | h1)
    · exact .inl rfl
    · exact .inr (.inl h1)
    · rcases hat k (by rw [ownBlock_any]; exact h1) with h2 | h2
      · exact .inr (.inr (by rw [ownBlock_any]; exact h2))
      · omega
/-- the i-th open block (from the top), cell by cell -/
theorem MkRep.at (h : MkRep w bk L s) (i : Nat) {c : Ctl} (hc : s.cs[i]? = some c) :
    ∃ go, L.ca = some ⟨go, 0, none⟩ ∧ (∀ j, j < 5 → w.cell? ⟨go, (s.cs.length - 1 - i) * 5 + j, none⟩ = (ctlCells c)[j]?) ∧ (∀ j, w.frozen? ⟨go, j, none⟩ = false) ∧ go < w.heap.size ∧ bk ≠ go := by
  have hi : i < s.cs.length := (List.getElem?_eq_some_iff.1 hc).1
  obtain ⟨go, ha, hcl⟩ := owns_some h.cs (by omega)
  refine ⟨go, ha, fun j hj => ?_, fun j => ?_, ?_, ?_⟩
  · have hj2 : (s.cs.length - 1 - i) * 5 + j < s.cs.length * 5 := by omega
    rw [hcl _ hj2]
    refine flatMap_at ctlCells 5 ctlCells_len _ _ j _ ?_ hj
    rw [List.getElem?_reverse (by omega)]
    have : s.cs.length - 1 - (s.cs.length - 1 - i) = i := by omega
    rw [this]; exact hc
  · have ho := h.cs
    unfold MkL.csV at ho
    rw [ha] at ho
    exact ho.frozenAt j
  · refine owns_lt h.cs go ?_
    unfold MkL.csV
    rw [ha]; rfl
  · intro e
    exact owns_ne h.cs h.here (by decide) (by unfold MkL.csV; rw [ha, e]; rfl)
theorem MkRep.stTop (h : MkRep w bk L s) {t : UInt8} {st' : List UInt8} (hs : s.st = t :: st') :
    ∃ gs, L.sa = some ⟨gs, 0, none⟩ ∧ w.cell? ⟨gs, st'.length, none⟩ = some (.int .u8 t.toNat) := by
  have hn : s.st.length = st'.length + 1 := by rw [hs]; rfl
  obtain ⟨gs, ha, hc⟩ := owns_some h.st (by omega)
  refine ⟨gs, ha, ?_⟩
  rw [hc st'.length (by omega), hs]
  simp [byteCells]
/-- a store into cell j of the innermost block -/
theorem MkRep.setTop (h : MkRep w bk L s) (j : Nat) {c : Ctl} {r : List Ctl} {go : Nat} (hc : s.cs = c :: r) (hgo : L.ca = some ⟨go, 0, none⟩) (c' : Ctl) (u : Value) (hj : j < 5) (hu : ctlCells c' = (ctlCells c).set j u) :
    MkRep (w.setCell ⟨go, r.length * 5 + j, none⟩ u) bk L { s with cs := c' :: r } ∧ MkStep w (w.setCell ⟨go, r.length * 5 + j, none⟩ u) bk L L := by
  have hl : s.cs.length = r.length + 1 := by rw [hc]; rfl
  have ho := h.cs
  unfold MkL.csV at ho
  rw [hgo] at ho
  have hst := (ho.stored (r.length * 5 + j) u).1
  have hown : (L.csV s).ownBlock = some go := by unfold MkL.csV; rw [hgo]; rfl
  have hne : bk ≠ go := fun e => owns_ne h.cs h.here (by decide) (by rw [hown, e])
  have hrow : (w.setCell ⟨go, r.length * 5 + j, none⟩ u).ownsRow 0 132 5 (.slice (some ⟨go, 0, none⟩) s.cs.length L.cc) s.cs.length ((c' :: r).reverse.flatMap ctlCells) := by
    have e : (c' :: r).reverse.flatMap ctlCells = (s.cs.reverse.flatMap ctlCells).set (r.length * 5 + j) u := by
      rw [hc]
      have e2 : (c' :: r).reverse = (c :: r).reverse.set r.length c' := by
        simp only [List.reverse_cons]
        rw [List.set_append_right _ _ (by simp)]
        simp
      rw [e2]
      exact flatMap_set ctlCells 5 ctlCells_len (c :: r).reverse r.length j c c' u (by simp [List.getElem?_append_right]) hj hu
    rw [e]
    exact hst
  refine ⟨⟨?_, ?_, ?_⟩, ⟨Fr.setCell (Fr.refl _ _) (p := ⟨go, r.length * 5 + j, none⟩) (.inl (.inr (.inr (by rw [hgo]; rfl)))) u, fun _ _ h => h⟩⟩
  · have := h.here.other (p := ⟨go, r.length * 5 + j, none⟩) hne u
    rw [hl] at this
    simpa using this
  · exact owns_other h.st (p := ⟨go, r.length * 5 + j, none⟩) (fun e => owns_apart h.st h.cs (by decide) go e hown) u
  · rw [hl] at hrow
    unfold MkL.csV
    rw [hgo]
    simpa using hrow
/-- 'k.st = k.st[:n]' -/
theorem MkRep.cutSt (h : MkRep w bk L s) (n : Nat) (hn : n ≤ s.st.length) :
    MkRep (w.setCell ⟨bk, 0, none⟩ (.slice L.sa n L.sc)) bk L { s with st := cut n s.st } ∧ MkStep w (w.setCell ⟨bk, 0, none⟩ (.slice L.sa n L.sc)) bk L L := by
  have hot := owns_take h.st n hn
  have hbs : (Value.slice L.sa n L.sc).ownBlock ≠ some bk := owns_ne hot h.here (by decide)
  have e : byteCells (cut n s.st).reverse = List.take (n * 1) (byteCells s.st.reverse) := by
    simp only [byteCells, cut, Nat.mul_one, ← List.map_take]
    congr 1
    rw [List.reverse_drop, Nat.sub_sub_self hn]
  have := h.putSt (cut n s.st) (w2 := w.setCell ⟨bk, 0, none⟩ (.slice L.sa n L.sc)) (sa2 := L.sa) (sc2 := L.sc)
    (Fr.setCell (S := fun k => (L.stV s).ownBlock = some k ∨ k = bk) (Fr.refl _ _) (p := ⟨bk, 0, none⟩) (.inl (.inr rfl)) _) (by rw [cut_len hn]; exact h.here.put 0 _)
    (by rw [cut_len hn, e]; exact owns_other hot hbs _)
    (fun g hg => .inl (by rw [ownBlock_any _ _ _ s.st.length L.sc] at hg; exact hg))
  exact this
/-- 'k.cs = k.cs[:len(k.cs) - 1]' -/
theorem MkRep.popCs (h : MkRep w bk L s) {c : Ctl} {r : List Ctl} (hc : s.cs = c :: r) :
    MkRep (w.setCell ⟨bk, 1, none⟩ (.slice L.ca r.length L.cc)) bk L { s with cs := r } ∧ MkStep w (w.setCell ⟨bk, 1, none⟩ (.slice L.ca r.length L.cc)) bk L L := by
  have hl : s.cs.length = r.length + 1 := by rw [hc]; rfl
  have hot := owns_take h.cs r.length (by omega)
  have hbs : (Value.slice L.ca r.length L.cc).ownBlock ≠ some bk := owns_ne hot h.here (by decide)
  have e : r.reverse.flatMap ctlCells = List.take (r.length * 5) (s.cs.reverse.flatMap ctlCells) := by
    rw [hc, List.reverse_cons, List.flatMap_append, List.take_append_of_le_length (by rw [flatMap_len ctlCells 5 ctlCells_len]; simp), List.take_of_length_le (by rw [flatMap_len ctlCells 5 ctlCells_len]; simp)]
  exact h.putCs r (w2 := w.setCell ⟨bk, 1, none⟩ (.slice L.ca r.length L.cc)) (ca2 := L.ca) (cc2 := L.cc)
    (Fr.setCell (S := fun k => (L.csV s).ownBlock = some k ∨ k = bk) (Fr.refl _ _) (p := ⟨bk, 1, none⟩) (.inl (.inr rfl)) _) (h.here.put 1 _)
    (by rw [e]; exact owns_other hot hbs _)
    (fun g hg => .inl (by rw [ownBlock_any _ _ _ s.cs.length L.cc] at hg; exact hg))
end
/-- the innermost open block, its floor within the stack -/
structure Mk.Top (s : Mk) (c : Ctl) (r : List Ctl) : Prop where
  cs : s.cs = c :: r
  fl : c.height ≤ s.st.length
theorem Mk.Top.ck {s : Mk} {c : Ctl} {r : List Ctl} (h : s.Top c r) : s.ck.Top c.blk (r.map Ctl.blk) := ⟨by unfold Mk.ck; rw [h.cs]; rfl, h.fl⟩
theorem Mk.pop_len2 (s : Mk) (t : UInt8) : (s.pop t).1.st.length ≤ s.st.length := s.ck.pop_len t
theorem Mk.pops_len2 (s : Mk) (l : List UInt8) : (s.pops l).1.st.length ≤ s.st.length := s.ck.pops_len l
theorem Mk.pop_top {s : Mk} {c : Ctl} {r : List Ctl} (h : s.Top c r) (t : UInt8) : (s.pop t).1.Top c r := ⟨h.cs, (Ck.pop_top h.ck t).fl⟩
theorem Mk.pops_top {s : Mk} {c : Ctl} {r : List Ctl} (h : s.Top c r) (l : List UInt8) : (s.pops l).1.Top c r := ⟨h.cs, (Ck.pops_top h.ck l).fl⟩
end Go.Proofs.Qxb6500575aGreatDoor
