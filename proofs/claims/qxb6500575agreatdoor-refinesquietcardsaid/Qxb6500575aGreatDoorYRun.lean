/-
  runm: seq, block, invoke together: by induction on the bound.
-/
import Derived.Test.Qxb6500575aGreatDoorYInv
namespace Go.Proofs.Qxb6500575aGreatDoor
open Go Go.RowKit
set_option linter.unusedVariables false
set_option linter.unusedSimpArgs false

theorem yrun_any {R : MP} {H : HF HS} (hM : MOk R) (n : Nat) : SeqW R H n ∧ InvW R H n := by
  induction n using Nat.strongRecOn with
  | _ n ih =>
    have hS : ∀ g, g < n → SeqW R H g := fun g hg => (ih g hg).1
    refine ⟨yseq_any hM fun g hg => ⟨yblk_any hM fun g' hg' => hS g' (Nat.lt_trans hg' hg), (ih g hg).2⟩, yinv_any hM hS⟩
end Go.Proofs.Qxb6500575aGreatDoor
