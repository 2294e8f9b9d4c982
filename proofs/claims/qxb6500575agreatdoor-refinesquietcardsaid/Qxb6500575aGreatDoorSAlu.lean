/-
  THE WALK of run.alu.
-/
import Derived.Test.Qxb6500575aGreatDoorSLoop1
import Derived.Test.Qxb6500575aGreatDoorKC
namespace Go.Proofs.Qxb6500575aGreatDoor
open Go Go.RowKit
set_option linter.unusedVariables false
set_option linter.unusedSimpArgs false

/-- the opcodes of the unit -/
def AluOp (op : Int) : Prop := (29 ≤ op ∧ op ≤ 33) ∨ (40 ≤ op ∧ op < 56) ∨ (60 ≤ op ∧ op < 76)
def aluFrom (op : Int) : UInt8 := if (60 ≤ op ∧ op < 76) ∨ op = 30 ∨ op = 31 then 108 else 105
def aluTo (op : Int) : UInt8 := if (60 ≤ op ∧ op < 73) ∨ op = 32 ∨ op = 33 then 108 else 105
def aluTwo (op : Int) : Bool := decide (40 ≤ op ∧ op < 56) || decide (60 ≤ op ∧ op < 76)
theorem sigs_alu {op : Int} (h : AluOp op) : sigsP op = (if aluTwo op then [aluFrom op, aluFrom op] else [aluFrom op], [aluTo op], true) := by
  unfold AluOp at h
  unfold sigsP aluTwo aluFrom aluTo
  rcases h with h | h | h
  · have : op = 29 ∨ op = 30 ∨ op = 31 ∨ op = 32 ∨ op = 33 := by omega
    rcases this with rfl | rfl | rfl | rfl | rfl <;> rfl
  · have h1 : ¬ (op = 15 ∨ op = 17) := by omega
    have h2 : ¬ (op = 18) := by omega
    have h3 : ¬ (op = 16 ∨ op = 29 ∨ op = 19 ∨ op = 21 ∨ op = 22 ∨ op = 23 ∨ op = 24) := by omega
    have h4 : ¬ (op = 20 ∨ op = 32 ∨ op = 33) := by omega
    have h5 : ¬ (op = 25 ∨ op = 27 ∨ op = 28) := by omega
    have h6 : ¬ (op = 26) := by omega
    have h7 : ¬ (op = 30 ∨ op = 31) := by omega
    have h8 : ¬ ((60 ≤ op ∧ op < 76) ∨ op = 30 ∨ op = 31) := by omega
    have h9 : ¬ ((60 ≤ op ∧ op < 73) ∨ op = 32 ∨ op = 33) := by omega
    rw [if_neg h1, if_neg h2, if_neg h3, if_neg h4, if_neg h5, if_neg h6, if_neg h7, if_pos h, if_neg h8, if_neg h9]
    simp [h]
  · have h1 : ¬ (op = 15 ∨ op = 17) := by omega
    have h2 : ¬ (op = 18) := by omega
    have h3 : ¬ (op = 16 ∨ op = 29 ∨ op = 19 ∨ op = 21 ∨ op = 22 ∨ op = 23 ∨ op = 24) := by omega
    have h4 : ¬ (op = 20 ∨ op = 32 ∨ op = 33) := by omega
    have h5 : ¬ (op = 25 ∨ op = 27 ∨ op = 28) := by omega
    have h6 : ¬ (op = 26) := by omega
    have h7 : ¬ (op = 30 ∨ op = 31) := by omega
    have h0 : ¬ (40 ≤ op ∧ op < 56) := by omega
    have h8 : ((60 ≤ op ∧ op < 76) ∨ op = 30 ∨ op = 31) := by omega
    rw [if_neg h1, if_neg h2, if_neg h3, if_neg h4, if_neg h5, if_neg h6, if_neg h7, if_neg h0, if_pos h, if_pos h8]
    by_cases hc : op = 73 ∨ op = 74 ∨ op = 75
    · have h9 : ¬ ((60 ≤ op ∧ op < 73) ∨ op = 32 ∨ op = 33) := by omega
      rw [if_pos hc, if_neg h9]
      simp [h]
    · have h9 : ((60 ≤ op ∧ op < 73) ∨ op = 32 ∨ op = 33) := by omega
      rw [if_neg hc, if_pos h9]
      simp [h]
end Go.Proofs.Qxb6500575aGreatDoor
