/-
  vm: while an image is read: the machine and the reader. No walk.
-/
import Derived.Test.Qxb6500574aGreatDoorVRd
import Derived.Test.Qxb6500574aGreatDoorVNum
import Derived.Test.Qxb6500574aGreatDoorVPop
namespace Go.Proofs.Qxb6500574aGreatDoor
open Go Go.RowKit
set_option linter.unusedVariables false
set_option linter.unusedSimpArgs false
/-- the machine, and the reader beside it (in a block of label 15, over bytes in a block of label 0) -/
structure LD (w : World) (A : VL) (m : VMD) (f e br bb c : Nat) (s : Bs) (i : Nat) (bad : Bool) : Prop where
  rep : VRep w A m f e
  rd : Rd w br bb c s i bad
  l1 : A.o br = 15
  l2 : A.o bb = 0
section
variable {w w' : World} {A A' : VL} {m m' : VMD} {f e br bb c i i' : Nat} {s : Bs} {bad bad' : Bool}
theorem VRep.mine (h : VRep w A m f e) (t : Stp (fun l => l = 15) w A.o w' A.o) : VRep w' A m f e := by
  obtain ⟨k, hk, ht⟩ := h.tabs
  exact ⟨h.core.st t (fun l hl x => by rcases hl with hl | hl | hl <;> omega), h.ths.st t (by have := h.lenX; have := h.len5; simp; omega) (fun l hl x => by rcases hl with hl | hl <;> omega), h.lenX, h.len5, h.num.st t (by omega) (by omega), ⟨k, hk, ht.st t (fun l hl x => by rcases hl with hl | hl | hl <;> omega)⟩, t.hi h.own⟩
theorem LD.ofRd (h : LD w A m f e br bb c s i bad) (r : Rd w' br bb c s i' bad') (hf : Fr (fun k => k = br) w w') : LD w' A m f e br bb c s i' bad' ∧ VSt isVM w A w' A := by
  have t : Stp (fun l => l = 15) w A.o w' A.o := ⟨hf.weaken (fun k _ hk => by rw [hk]; exact h.l1), fun _ _ => rfl, fun ow k hk => ow k (Nat.le_trans hf.size hk)⟩
  exact ⟨⟨h.rep.mine t, r, h.l1, h.l2⟩, t.weaken (fun l hl => by unfold isVM; omega), rfl, rfl, rfl, rfl, rfl⟩
theorem LD.ofVM {Q : Nat → Prop} (h : LD w A m f e br bb c s i bad) (r : VRep w' A' m' f e) (S : VSt Q w A w' A') (h0 : ¬ Q 0) (h15 : ¬ Q 15) : LD w' A' m' f e br bb c s i bad :=
  ⟨r, h.rd.fr S.st.fr (by rw [h.l1]; exact h15) (by rw [h.l2]; exact h0), (S.st.ext _ h.rd.here.lt).trans h.l1, (S.st.ext _ h.rd.lt).trans h.l2⟩
theorem LD.fresh (h : LD w A m f e br bb c s i bad) (hf : Fr (fun _ => False) w w') : LD w' A m f e br bb c s i bad := ⟨h.rep.fresh hf, h.rd.fr hf (fun x => x) (fun x => x), h.l1, h.l2⟩
theorem LD.spoil (h : LD w A m f e br bb c s i bad) : LD (w.setCell ⟨br, 2, none⟩ (.bool true)) A m f e br bb c s i true ∧ VSt isVM w A (w.setCell ⟨br, 2, none⟩ (.bool true)) A :=
  h.ofRd h.rd.setB (Fr.setCell (S := fun k => k = br) (Fr.refl _ _) (p := ⟨br, 2, none⟩) (.inl rfl) _)
/-- what a part of the reading comes to: r: the plain answer -/
def LdPost (w : World) (A : VL) (m : VMD) (f e br bb c : Nat) (s : Bs) (i : Nat) (ok : VMD → Bs → Prop) (no : VMD → Prop) (e' : Ending) (w' : World) : Prop :=
  ∃ A' m' i' bad', e' = .returned (.tuple #[]) ∧ LD w' A' m' f e br bb c s i' bad' ∧ VSt isVM w A w' A' ∧ i ≤ i' ∧
    (m'.ths = m.ths ∧ m'.tabs = m.tabs ∧ m'.out = m.out ∧ m'.clos = m.clos ∧ m'.upix = m.upix ∧ m'.cells = m.cells) ∧
    (m'.protos.length ≤ i' ∧ m'.descs.length ≤ i' ∧ m'.consts.length ≤ i' ∧ m'.code.length ≤ i') ∧
    ((bad' = false ∧ ok m' (s.drop i')) ∨ (bad' = true ∧ no m'))
end
/-- an 8-byte number, its bytes from the top -/
theorem leN_drop {W : Bs} {n : Nat} (hn : n < W.length) : leN (W.drop n) = W[n].toNat + 256 * leN (W.drop (n + 1)) := by
  rw [List.drop_eq_getElem_cons hn]
  rfl
theorem leN_below : ∀ W : Bs, leN W < 256 ^ W.length
  | [] => by simp [leN]
  | b :: r => by
    have h := leN_below r
    have hb := b.toNat_lt
    simp only [leN, List.length_cons, Nat.pow_succ]
    omega
set_option maxRecDepth 100000 in
theorem or_u64 {x y : Nat} (hx : x < 256) (hy : y < 72057594037927936) : bits .or .u64 ((y : Int) * 256) (x : Int) = ((x + 256 * y : Nat) : Int) := by
  have e : ((y : Int) * 256) = ((y * 256 : Nat) : Int) := by omega
  rw [e, u64_or_nat (y * 256) x (by omega) (by omega)]
  have h := Nat.shiftLeft_add_eq_or_of_lt (i := 8) (b := x) (by omega) y
  rw [Nat.shiftLeft_eq] at h
  rw [show y * 256 = y * 2 ^ 8 by omega, ← h]
  omega
end Go.Proofs.Qxb6500574aGreatDoor
