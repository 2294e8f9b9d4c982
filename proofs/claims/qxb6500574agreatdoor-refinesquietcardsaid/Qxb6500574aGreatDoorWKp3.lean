/-
  THE LAW's STATE between two calls. No walk.
-/
import Derived.Test.Qxb6500574aGreatDoorWKp1
import Derived.Test.Qxb6500574aGreatDoorWKcA
import Derived.Test.Qxb6500574aGreatDoorWKr
namespace Go.Proofs.Qxb6500574aGreatDoor
open Go Go.RowKit
set_option linter.unusedVariables false
set_option linter.unusedSimpArgs false
/-- how a clause ends -/
def KpQ (bc : Nat) (w : World) (o : Nat → Nat) (C : CC) (sx : Nat) (num : Value) (e : Ending) (w' : World) : Prop :=
  e = .returned (.bool true) ∧ ∃ o' A' C' c', CM bc w' o' A' C' sx num c' ∧ C'.cb = C.cb ∧ C'.gF = C.gF ∧ Stp QM w o w' o'
/-- so far -/
structure KS (bc : Nat) (w : World) (o : Nat → Nat) (C : CC) (sx : Nat) (num : Value) (w1 : World) (o1 : Nat → Nat) (A1 : VL) (C1 : CC) (c1 : CmD) : Prop where
  M : CM bc w1 o1 A1 C1 sx num c1
  cb : C1.cb = C.cb
  gF : C1.gF = C.gF
  S : Stp QM w o w1 o1
theorem QM.n0 : ¬ QM 0 := by unfold QM QI QS QC; omega
section
variable {bc sx : Nat} {w w1 w2 : World} {o o1 o2 : Nat → Nat} {C C1 : CC} {num : Value} {A A1 : VL} {c c1 : CmD}
theorem KS.refl (h : CM bc w o A C sx num c) : KS bc w o C sx num w o A C c := ⟨h, rfl, rfl, Stp.refl _ _ _⟩
theorem KS.fresh (h : KS bc w o C sx num w1 o1 A1 C1 c1) (hf : Fr (fun _ => False) w1 w2) : KS bc w o C sx num w2 o1 A1 C1 c1 :=
  ⟨h.M.st (Stp.fresh (fun _ => False) o1 hf) (fun x => x) (fun x => x) (fun _ _ x => x), h.cb, h.gF, h.S.trans (Stp.fresh QM o1 hf)⟩
theorem KS.fin (h : KS bc w o C sx num w1 o1 A1 C1 c1) : KpQ bc w o C sx num (.returned (.bool true)) w1 := ⟨rfl, o1, A1, C1, c1, h.M, h.cb, h.gF, h.S⟩
theorem KS.own (h : KS bc w o C sx num w1 o1 A1 C1 c1) : o1 w1.heap.size = 0 := h.M.X.R.ow _ (Nat.le_refl _)
/-- what Run comes to from here -/
def KsR (bc : Nat) (w : World) (o : Nat → Nat) (C : CC) (sx : Nat) (num : Value) (w1 : World) (o1 : Nat → Nat) (an : AnD) (e : Ending) (w2 : World) : Prop :=
  e = .returned (.agg (anCells an)) ∧ ∃ o2 A2 C2 c2, KS bc w o C sx num w2 o2 A2 C2 c2 ∧ Stp QM w1 o1 w2 o2
theorem KS.runC (h : KS bc w o C sx num w1 o1 A1 C1 c1) {src : Bs} {fuel : Int} (hf1 : fuel ≤ 9223372036854775807) {n : Nat} {an : AnD} (hr : ∀ img, imageP src = .inr img → runN n img fuel = some an) (he : ∀ y, imageP src = .inl y → an = ⟨y.1, y.2, 0, [], []⟩) :
    Calls Tryz.prog 17 #[.pointer (some ⟨C.cb, 0, none⟩), sv src, .int .i64 fuel] w1 (KsR bc w o C sx num w1 o1 an) := by
  rw [← h.cb]
  refine (crun_any h.M hf1 hr he).mono ?_
  rintro e w2 ⟨rfl, o2, A2, C2, c2, M2, q1, q2, S2⟩
  exact ⟨rfl, o2, A2, C2, c2, ⟨M2, q1.trans h.cb, q2.trans h.gF, h.S.trans S2⟩, S2⟩
theorem KS.leftC (h : KS bc w o C sx num w1 o1 A1 C1 c1) : Calls Tryz.prog 18 #[.pointer (some ⟨C.cb, 0, none⟩)] w1 fun e' w' => e' = .returned (.int .i64 0) ∧ w' = w1 := by
  rw [← h.cb]
  exact cleft_any h.M
theorem KS.checkC (h : KS bc w o C sx num w1 o1 A1 C1 c1) : Calls Tryz.prog 19 #[.pointer (some ⟨C.cb, 0, none⟩)] w1 fun e' w' => e' = .returned (.bool true) ∧ Fr (fun _ => False) w1 w' := by
  rw [← h.cb]
  exact ccheck_any h.M
theorem keep0M {b : Nat} {cs : Array Value} {T : TypeId} (h : Has w1 b cs T) (h0 : o1 b = 0) (t : Stp QM w1 o1 w2 o2) : Has w2 b cs T ∧ o2 b = 0 :=
  ⟨t.has h (by rw [h0]; exact QM.n0), (t.ext b h.lt).trans h0⟩
end
end Go.Proofs.Qxb6500574aGreatDoor
