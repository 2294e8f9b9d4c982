/-
  THE WALKS of syntaxm: every function of the parser.
-/
import Derived.Test.Qxb6500574aGreatDoorZR9
import Derived.Test.Qxb6500574aGreatDoorZR13
namespace Go.Proofs.Qxb6500574aGreatDoor
open Go Go.RowKit
set_option linter.unusedVariables false
set_option linter.unusedSimpArgs false
theorem PCz.succ {T : List Tok} {n : Nat} (C : ∀ m, m ≤ n → PCz T m) : PCz T (n + 1) where
  e := fun h0 hn hr hx => expr_z C h0 hn hr hx
  a := fun h0 hn hr h1 hx => andE_z C h0 hn hr h1 hx
  l := fun r r' h0 hn hr a b e c hx => by
    subst e
    have : r = 1 ∨ r = 2 ∨ r = 3 ∨ r = 4 ∨ r = 5 := by omega
    rcases this with rfl | rfl | rfl | rfl | rfl
    · exact left1_z C h0 hn hr (c.resolve_left (by decide)) hx
    · exact left2_z C h0 hn hr hx
    · exact left3_z C h0 hn hr (c.resolve_left (by decide)) hx
    · exact left4_z C h0 hn hr (c.resolve_left (by decide)) hx
    · exact left5_z C h0 hn hr (c.resolve_left (by decide)) hx
  u := fun h0 hn hr hx => unary_z C h0 hn hr hx
  p := fun h0 hn hr hx => post_z C h0 hn hr hx
  pr := fun h0 hn hr h1 hx => prim_z C h0 hn hr h1 hx
  li := fun h0 hn hr h5 h46 hc hm hx => list_z C h0 hn hr h5 h46 hc hm hx
  fn := fun h0 hn hr h1 hk e hx => by subst e; exact fun_z C h0 hn hr h1 hk hx
  b := fun h0 hn hr hx => block_z C h0 hn hr hx
  st := fun h0 hn hr h1 hx => stmt_z C h0 hn hr h1 hx
  lo := fun h0 hn hr h1 hk hx => local_z C h0 hn hr h1 hk hx
  i := fun h0 hn hr h1 hk hx => if_z C h0 hn hr h1 hk hx
  f := fun h0 hn hr h1 hk hx => for_z C h0 hn hr h1 hk hx
  bo := fun h0 hn hr h1 h4 e hx => by subst e; exact body_z C h0 hn hr h1 h4 hx
theorem PCz.le (T : List Tok) : ∀ n m, m ≤ n → PCz T m
  | 0, m, h => by
    have : m = 0 := by omega
    rw [this]
    exact PCz.zero T
  | n + 1, m, h => by
    by_cases e : m = n + 1
    · rw [e]
      exact PCz.succ (PCz.le T n)
    · exact PCz.le T n m (by omega)
theorem PCz.all (T : List Tok) (n : Nat) : PCz T n := PCz.le T n n (Nat.le_refl _)
end Go.Proofs.Qxb6500574aGreatDoor
