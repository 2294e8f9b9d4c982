/-
  THE LOOP: its code's shape.
-/
import Derived.Test.Qxb6500575aGreatDoorSLoopM
namespace Go.Proofs.Qxb6500575aGreatDoor
open Go Go.RowKit
set_option linter.unusedVariables false
set_option linter.unusedSimpArgs false

section
variable {σ : Type} {R : RP σ} {fuel : Int} {h : Value}
set_option maxRecDepth 100000
/-- the loop by its rounds: I holds at each round's head -/
theorem loop_rounds {w : World} {Post : Ending → World → Prop} (I : World → Prop) (h0 : I w)
    (round : ∀ w1, I w1 → ∀ a, Fr65 R fuel h a → ∀ Q : Exit → Act → World → Prop,
      (∀ c a t v w, Q (.panic c) (a.put (some t) v) w → Q (.panic c) a w) →
      (∀ a' w', Fr65 R fuel h a' → I w' → rmeas fuel R.bx w' < rmeas fuel R.bx w1 → Q .normal a' w' ∧ Q (.exit 1) a' w') →
      (∀ a' w', Fr65 R fuel h a' → Post (.returned (.tuple #[])) w' → Q .ret a' w') →
      (∀ a' w' t, a'.defers = [] → Post (.panicked (trapV t)) w' → Q (.panic (trapV t)) a' w') → (roundOf Tryz.f65.body).wp Tryz.prog Q a w1) :
    Calls Tryz.prog 65 #[.pointer (some ⟨R.bx, 0, none⟩), .int .i64 fuel, h] w Post := by
  go_enter Tryz.func65, Tryz.ntmps65
  refine wp_scope_straight ?_
  refine wp_seq (wp_label ?_)
  refine wp_block ?_
  refine wp_loop (fun a' w' => Fr65 R fuel h a' ∧ I w') (fun _ w' => rmeas fuel R.bx w') ⟨⟨by kernel_rfl, by kernel_rfl, by kernel_rfl, by kernel_rfl, rfl⟩, h0⟩ ?_
  rintro a w1 ⟨ha, hI⟩
  refine wp_block ?_
  refine round w1 hI a ha _ ?_ ?_ ?_ ?_
  · intro c a t v w h
    exact h
  · intro a' w' ha' hI' hm
    exact ⟨⟨⟨ha', hI'⟩, hm⟩, ⟨⟨ha', hI'⟩, hm⟩⟩
  · intro a' w' ha' hp
    exact ⟨ha'.df, _, results_none rfl _ _ _, hp⟩
  · intro a' w' t hd hp
    exact ⟨hd, hp⟩
end
end Go.Proofs.Qxb6500575aGreatDoor
