/-
  THE WALK of the parser layer: the parser: all its functions.
-/
import Derived.Test.Qxb6500574aGreatDoorWPa13
import Derived.Test.Qxb6500574aGreatDoorWPa14
import Derived.Test.Qxb6500574aGreatDoorWPa17
import Derived.Test.Qxb6500574aGreatDoorWPa18
import Derived.Test.Qxb6500574aGreatDoorWPa19
import Derived.Test.Qxb6500574aGreatDoorWPa20
namespace Go.Proofs.Qxb6500574aGreatDoor
open Go Go.RowKit
set_option linter.unusedVariables false
set_option linter.unusedSimpArgs false
open Go.Lib
theorem PCs.zero (T : List Tok) : PCs T 0 where
  c0 := fun _ _ _ _ h => absurd rfl h
  c2 := fun _ _ h => absurd rfl h
  c3 := fun _ _ h => absurd rfl h
  c5 := fun _ _ _ h => absurd rfl h
  c6 := fun _ _ _ _ _ h => absurd rfl h
  c7 := fun _ _ _ _ h => absurd rfl h
  c9 := fun _ _ h => absurd rfl h
  c11 := fun _ _ _ h => absurd rfl h
  c12 := fun _ _ _ h => absurd rfl h
  c13 := fun _ _ _ _ h => absurd rfl h
  c14 := fun _ _ _ h => absurd rfl h
  c15 := fun _ _ _ _ h => absurd rfl h
  c16 := fun _ _ _ h => absurd rfl h
theorem PCs.succ {T : List Tok} {n : Nat} (C : ∀ m, m ≤ n → PCs T m) : PCs T (n + 1) where
  c0 := fun g h1 h2 h3 h => expr_any C g h1 h2 h3 h
  c2 := fun g h1 h => unary_any (C n (Nat.le_refl _)) g h1 h
  c3 := fun g h1 h => post_any C g h1 h
  c5 := fun g h1 h2 h => prim_any (C n (Nat.le_refl _)) g h1 h2 h
  c6 := fun g h1 k m h2 h => list_any C g h1 k m h2 h
  c7 := fun g h1 h2 h3 h => literal_any C g h1 h2 h3 h
  c9 := fun g h1 h => block_any C g h1 h
  c11 := fun g h1 h2 h => stmt_any (C n (Nat.le_refl _)) g h1 h2 h
  c12 := fun g h1 h2 h => local_any (C n (Nat.le_refl _)) g h1 h2 h
  c13 := fun g h1 h2 h3 h => branch_any (C n (Nat.le_refl _)) g h1 h2 h3 h
  c14 := fun g h1 h2 h => loopFor_any (C n (Nat.le_refl _)) g h1 h2 h
  c15 := fun g h1 h2 h3 h => body_any (C n (Nat.le_refl _)) g h1 h2 h3 h
  c16 := fun g h1 h2 h => results_any (C n (Nat.le_refl _)) g h1 h2 h
theorem PCs.upto (T : List Tok) : ∀ n m, m ≤ n → PCs T m
  | 0, m, h => by
    obtain rfl : m = 0 := by omega
    exact PCs.zero T
  | n + 1, m, h => by
    by_cases e : m = n + 1
    · subst e
      exact PCs.succ (PCs.upto T n)
    · exact PCs.upto T n m (by omega)
theorem PCs.all (T : List Tok) (n : Nat) : PCs T n := PCs.upto T n n (Nat.le_refl _)
end Go.Proofs.Qxb6500574aGreatDoor
