/-
  mach's contracts, as the interpreter leans on them: what it is asked, not what it answers. No walk.
-/
import Derived.Test.Qxb6500575aGreatDoorKOps
import Derived.Test.Qxb6500575aGreatDoorSigs
namespace Go.Proofs.Qxb6500575aGreatDoor
open Go Go.RowKit
set_option linter.unusedVariables false
set_option linter.unusedSimpArgs false

abbrev I64 (n : Int) : Prop := -9223372036854775808 ≤ n ∧ n < 9223372036854775808
/-- the operands that an opcode of the unit takes -/
structure MachC : Prop where
  grow : ∀ {w bk L d} (n : Int), KRep w bk L d → Calls Tryz.prog 103 #[.pointer (some ⟨bk, 0, none⟩), .int .i64 n] w fun e w' => ∃ r L' d', e = .returned (.int .i64 r) ∧ I64 r ∧ KRep w' bk L' d' ∧ KStep w w' bk L L'
  load : ∀ {w bk L d} (op a off : Int), KRep w bk L d → 19 ≤ op → op ≤ 24 → Calls Tryz.prog 43 #[.pointer (some ⟨bk, 0, none⟩), .int .i64 op, .int .i64 a, .int .i64 off] w fun e w' => ∃ n er, e = .returned (.tuple #[.int .i64 n, .int .i64 er]) ∧ (er = 0 ∨ er = 12) ∧ I64 n ∧ Fr (fun _ => False) w w'
  store : ∀ {w bk L d} (op a off v : Int), KRep w bk L d → 25 ≤ op → op ≤ 28 → Calls Tryz.prog 104 #[.pointer (some ⟨bk, 0, none⟩), .int .i64 op, .int .i64 a, .int .i64 off, .int .i64 v] w fun e w' => ∃ er L' d', e = .returned (.int .i64 er) ∧ (er = 0 ∨ er = 12) ∧ KRep w' bk L' d' ∧ KStep w w' bk L L'
  alu : ∀ {w bk} (op a b : Int), I64 a → I64 b → (29 ≤ op ∧ op ≤ 33) ∨ (40 ≤ op ∧ op < 56) ∨ (60 ≤ op ∧ op < 76) → Calls Tryz.prog 131 #[.pointer (some ⟨bk, 0, none⟩), .int .i64 op, .int .i64 a, .int .i64 b] w fun e w' => ∃ n er, e = .returned (.tuple #[.int .i64 n, .int .i64 er]) ∧ (er = 0 ∨ er = 11) ∧ I64 n ∧ Fr (fun _ => False) w w'
end Go.Proofs.Qxb6500575aGreatDoor
