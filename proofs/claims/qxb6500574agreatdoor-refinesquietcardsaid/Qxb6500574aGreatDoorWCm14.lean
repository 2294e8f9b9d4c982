/-
  THE WALK of comp: expressions: what stands at the head; the plain kinds.
-/
import Derived.Test.Qxb6500574aGreatDoorWCm13
namespace Go.Proofs.Qxb6500574aGreatDoor
open Go Go.RowKit
set_option linter.unusedVariables false
set_option linter.unusedSimpArgs false
open Go.Lib
/-- what a step of the compiler comes to -/
def CQ (w : World) (o : Nat → Nat) (C : CC) (N : List Nd) (c' : CmD) (e : Ending) (w' : World) : Prop := e = .returned (.tuple #[]) ∧ ∃ o', CRep w' o' C N c' ∧ Stp QC w o w' o'
/-- the local variables of expr: the function state, the node -/
structure Bx (w : World) (o : Nat → Nat) (C : CC) (f : Nat) (d : Nd) (b : Nat) : Prop where
  hf : Has w b #[fptr C.gF f] 94
  hd : Has w (b + 1) (ndV d).toArray 134
  lf : o b = 0
  ld : o (b + 1) = 0
section
variable {w w1 : World} {o o1 : Nat → Nat} {C : CC} {N : List Nd} {c : CmD} {f : Nat} {d : Nd} {b : Nat}
theorem Bx.st (h : Bx w o C f d b) (t : Stp QC w o w1 o1) : Bx w1 o1 C f d b := by
  have q0 : ¬ QC 0 := by unfold QC; omega
  exact ⟨t.has h.hf (by rw [h.lf]; exact q0), t.has h.hd (by rw [h.ld]; exact q0), (t.ext _ h.hf.lt).trans h.lf, (t.ext _ h.hd.lt).trans h.ld⟩
/-- all that is read of them -/
theorem Bx.read (h : Bx w o C f d b) : b < w.heap.size ∧ b + 1 < w.heap.size ∧ w.cell? ⟨b, 0, none⟩ = some (.pointer (some ⟨C.gF, f * 11, none⟩)) ∧ w.cell? ⟨b + 1, 0, none⟩ = some (.int .i64 (d.k : Nat)) ∧ w.cell? ⟨b + 1, 1, none⟩ = some (.int .i64 (d.a : Nat)) ∧ w.cell? ⟨b + 1, 2, none⟩ = some (.int .i64 (d.b : Nat)) ∧ w.cell? ⟨b + 1, 3, none⟩ = some (.int .i64 (d.c : Nat)) ∧ w.cell? ⟨b + 1, 4, none⟩ = some (.int .i64 (d.next : Nat)) ∧ w.cell? ⟨b + 1, 5, none⟩ = some (.int .u64 (d.n : Nat)) ∧ w.cell? ⟨b + 1, 6, none⟩ = some (sv d.s) ∧ w.cell? ⟨b + 1, 7, none⟩ = some (.int .i64 (d.p : Nat)) := by
  refine ⟨h.hf.lt, h.hd.lt, ?_, ?_, ?_, ?_, ?_, ?_, ?_, ?_, ?_⟩
  · rw [h.hf.cell]; rfl
  all_goals rw [h.hd.cell]; rfl
/-- behind the head: both are laid -/
theorem Bx.new (R : CRep w o C N c) (d : Nd) : Bx ((w.alloc (.cells #[fptr C.gF f] 94)).alloc (.cells (ndV d).toArray 134)) o C f d w.heap.size := by
  refine ⟨(Has.new w _ _).alloc _, ?_, R.ow _ (Nat.le_refl _), R.ow _ (by omega)⟩
  have := Has.new (w.alloc (.cells #[fptr C.gF f] 94)) (ndV d).toArray 134
  simpa using this
end
end Go.Proofs.Qxb6500574aGreatDoor
