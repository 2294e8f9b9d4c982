/-
  moon: THE PARSER's ERRORS ARE ERRORS. Plain; no memory, no walk.
-/
import Derived.Test.Qxb6500574aGreatDoorWNf2
namespace Go.Proofs.Qxb6500574aGreatDoor
set_option linter.unusedVariables false
set_option linter.unusedSimpArgs false
/-- a bad token names its error -/
def ETk (T : List Tok) : Prop := ∀ i, (T.getD i tok0).k = 1 → (T.getD i tok0).e ≠ 0
def EO (r : PR) : Prop := ∀ y, r = .inl y → y.1 ≠ 0
theorem EO.inr (x : List Nat × PSt) : EO (.inr x) := fun y h => by cases h
theorem EO.ok (s : PSt) (d : Nd) : EO (okP s d) := fun y h => by cases h
theorem EO.fail {T : List Tok} (E : ETk T) (s : PSt) {e : Nat} (he : e ≠ 0) : EO (failP T s e) := fun y h => by
  have := Sum.inl.inj h
  rw [← this]
  dsimp only
  split
  · rename_i hk; exact E s.i hk
  · exact he
theorem EO.bind {r : PR} {f : List Nat → PSt → PR} (h : EO r) (g : ∀ v s, EO (f v s)) : EO (PBd r f) := fun y e => by
  cases r with
  | inl z => exact h y e
  | inr z => exact g _ _ y e
theorem EO.ite {p : Prop} [Decidable p] {a b : PR} (h : EO a) (g : EO b) : EO (if p then a else b) := by
  split
  · exact h
  · exact g
theorem EO.expect {T : List Tok} (E : ETk T) (s : PSt) (k : Nat) {f : PSt → PR} (g : ∀ s, EO (f s)) : EO (expectP T s k f) := by
  unfold expectP
  split
  · exact g _
  · exact EO.fail E s (by decide)
theorem EO.name {T : List Tok} (E : ETk T) (s : PSt) (k : Nat) {f : Tok → PSt → PR} (g : ∀ t s, EO (f t s)) : EO (nameP T s k f) := by
  unfold nameP
  split
  · exact EO.fail E s (by decide)
  · split
    · exact EO.fail E s (by decide)
    · exact g _ _
set_option maxHeartbeats 4000000 in
theorem par_eo {T : List Tok} (E : ETk T) : ∀ (n task room : Nat) (x : List Nat) (s : PSt), EO (parN T n task room x s) := by
  intro n
  induction n with
  | zero => intro task room x s y h; cases h; decide
  | succ n ih =>
    intro task room x s
    unfold parN
    dsimp only
    repeat' first
      | exact ih _ _ _ _
      | exact EO.inr _
      | exact EO.ok _ _
      | exact EO.fail E _ (by decide)
      | refine EO.bind ?_ (fun _ _ => ?_)
      | refine EO.expect E _ _ (fun _ => ?_)
      | refine EO.name E _ _ (fun _ _ => ?_)
      | refine EO.ite ?_ ?_
end Go.Proofs.Qxb6500574aGreatDoor
