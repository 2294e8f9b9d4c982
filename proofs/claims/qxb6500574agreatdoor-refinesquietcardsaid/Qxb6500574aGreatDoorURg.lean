/-
  A DRAWN REGION THAT ONLY READS AND ASSIGNS TEMPORARIES: its text order serves. No program.
-/
import Derived.Test.Qxb6500574aGreatDoorReg9
namespace Go.Proofs.Qxb6500574aGreatDoor
open Go Go.RowKit
set_option linter.unusedVariables false
set_option linter.unusedSimpArgs false
section
variable {P : Program} {Q : Exit → Act → World → Prop}
theorem wpQuiet_to {ops : Array Oper} {C : World → Prop} : ∀ (l' : List Oper) (T T' : Act → Prop) (a : Act), (∀ a, T a → T' a) → wpQuiet P ops C T l' a → wpQuiet P ops C T' l' a
  | [], _, _, a, hT, h => hT a h
  | o :: r, T, T', a, hT, h => by
    unfold wpQuiet at h ⊢
    split
    · rename_i hw; rw [if_pos hw] at h; exact Oper.quiet_mono (fun a => wpQuiet_to r T T' a hT) h
    · rename_i hw; rw [if_neg hw] at h; exact wpQuiet_to r T T' _ hT h
/-- all of the region's operations are quiet: planB of all of them says so -/
theorem wp_region_all {id : Nat} {a : Act} {w : World} {l : List Oper} (n : Nat) (hn : n = l.length) (hm : P.follows .mixedOrders = true) (hB : planB l.toArray (List.range n) .done n = true)
    (hQ : ∀ c a t v w, Q (.panic c) (a.put (some t) v) w → Q (.panic c) a w)
    (h : wpQuiet P l.toArray (fun x => x = w.drew) (fun a' => wpList P l.toArray Q [] a' w.drew) l a) : (Code.region id l.toArray true).wp P Q a w := by
  subst hn
  refine wp_region_plan (List.range l.length) .done l.length (fun x => x = w.drew) hm hB hQ rfl l ?_ [] (by simp) ?_
  · apply List.ext_getElem?
    intro i
    by_cases hi : i < l.length
    · simp [hi]
    · simp [hi]
  · refine wpQuiet_to l _ _ a (fun a' h' => ?_) h
    refine ⟨fun a1 a2 W => a2 = a1 ∧ W = w.drew, ?_, ?_⟩
    · rintro a2 W _ ⟨rfl, rfl⟩
      rw [show ([] : List Oper).length = 0 from rfl, wpChain_zero]
      exact h'
    · rintro G HG
      show G _ _
      rw [HG.out]
      exact ⟨rfl, rfl⟩
end
end Go.Proofs.Qxb6500574aGreatDoor
