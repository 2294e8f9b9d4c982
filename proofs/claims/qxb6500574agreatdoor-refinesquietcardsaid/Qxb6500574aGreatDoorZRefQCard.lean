/-
  RefinesQuiet: the row and the card.
-/
import Derived.Test.Qxb6500574aGreatDoorRows
import Derived.Test.Qxb6500574aGreatDoorTie
import Derived.Test.Qxb6500574aGreatDoorCards
import Derived.Test.Qxb6500574aGreatDoorZH5
import Derived.Test.Qxb6500574aGreatDoorWGlob
import Derived.Test.Qxb6500574aGreatDoorWDoor
import Derived.Test.Qxb6500574aGreatDoorZFb3
import Derived.Test.Qxb6500574aGreatDoorZFb4
import Derived.LaidMore
import Derived.OpenShut
import Derived.ChangeSame
import Derived.ChangeVars
import Derived.JoinedOf
import Derived.RowKit
import Derived.RowKitTokens
import Derived.LaidLaws
import Derived.LaidHandle
import Derived.Stop.Joined
import Derived.SevenTiedAt
import Derived.ProofKit
namespace Go.Proofs.Qxb6500574aGreatDoor
open Go Go.RowKit
set_option linter.unusedVariables false
set_option linter.unusedSimpArgs false
open Go.ChangeShapes Go.WideShapes Go.ChangeAt Go.RowKit Go.Deep

set_option maxRecDepth 100000 in
theorem refinesQuiet_lifted (os : Os) (started : os.Started) (H : Type) (enc : TypeId × Value → H) :
    ReturnsInHanded {} Tryz.checked os 5 .any (fun w args => (Rows.refinesQuietSpec.pre enc Tryz.prog Tryz.f5 [] false w args ∧ laidMetH Tryz.prog Rows.refinesQuietRow.laid w) ∧ sizedMet enc Tryz.prog Tryz.f5 (OpenSpec.ofChange Rows.refinesQuietSpec) false w args)
      (Rows.refinesQuietSpec.post enc Tryz.prog Tryz.f5 false true false false) := by
  refine returnsInHanded_of_change_and (C := Tryz.checked) (X := fun w _ => laidMetH Tryz.prog Rows.refinesQuietRow.laid w) (fun _ _ _ hh h => h.of_heap hh) ownKnobNone2 started (by kernel_rfl) Tryz.func5
    (ChangeSpec.witness_shaped (enc := enc) (C := Tryz.checked) (os := os) (X := fun w _ => laidMetH Tryz.prog Rows.refinesQuietRow.laid w) false (World.doorLaid Tryz.prog 800 os) #[.slice none 0 0] 8 rfl (World.shaped_of_RefB (by kernel_rfl) (by kernel_rfl)) (by kernel_rfl) (by kernel_rfl) (by kernel_rfl) (door_met os _)) ?_
  intro W base args ds gs before hval0 hW _ _ hL _
  have hval : ∀ (j : Nat) t v, Tryz.f5.params[j]? = some t → args[j]? = some v → Value.okWide Tryz.prog W .any base t v := hval0
  have hW' := hW
  obtain ⟨p, q, hA0, hV0, rfl, hfz, hnd⟩ := hW
  have hA : DataW.TrodAll enc Tryz.prog W 0 (fun _ => true) true Tryz.f5.params.toList args.toList ds p := hA0
  have hV : DataW.TrodVars enc Tryz.prog W (fun _ => true) [] gs q := hV0
  rw [Tryz.params5] at hA hval
  obtain ⟨v0, d0, rfl, rfl, h0⟩ := trodAll_one hA
  obtain ⟨rfl, rfl⟩ : gs = [] ∧ q = [] := by
    cases gs with
    | nil => exact ⟨rfl, hV⟩
    | cons g r => exact absurd hV (by intro h; cases h)
  simp only [List.append_nil] at hW'
  have hlt : ∀ x ∈ p, x.block < W.heap.size := fun x hx => by simpa using hW'.lt x hx
  obtain ⟨a0, len, cap, rfl⟩ := okWide_slice Tryz.underlying22 (hval 0 22 v0 rfl rfl)
  obtain ⟨sc, hsc⟩ := script_open h0
  have hgl : Glob W := glob_of_laid hL
  have e1 : Rows.refinesQuietSpec.fn H ([d0] ++ []) = { results := [.lit (.bool true)], args := [d0] } := by simp [Rows.refinesQuietSpec]
  refine (refinesQuiet_any a0 len cap sc hsc hgl).mono fun e W' ⟨he, hF⟩ => ?_
  subst he
  refine ⟨_, rfl, _, _, _, [], p, [], hW', ?_, ?_, ?_, hF.below2.frame _, fun h => by cases h⟩
  · rw [e1]; exact trodAll_mk1 (shut_bool Tryz.underlying4 true)
  · rw [e1]; exact trodAll_mk1 (Below.trod laidOut2 (by kernel_rfl) (of_decide_eq_true (by kernel_rfl)) h0 hF.below2 hlt)
  · rw [e1]; rfl

theorem refinesQuiet_holds : Rows.RefinesQuietSaid :=
  OpenClaim.holds_of_wide 5 Tryz.f5 rfl rfl rfl rfl rfl rfl rfl ⟨rfl, rfl, rfl, rfl, rfl⟩ rfl rfl rfl rfl rfl jf_named Tryz.func5 jf_all
    jf_inst jf_wrap (fun os started H enc _ => refinesQuiet_lifted os started H enc)
theorem refinesQuiet_card : Rows.RefinesQuietCardSaid :=
  Claim7.holds_tied_plain_at .later [] [.data, .data, .data] true (true, "59f44c0c18f90f29dc9a21f24d37b0bd2eda79666d0f1580c6217fcd071beceb") true
    refinesQuiet_holds (fun _ h => by cases h) cf_wf (fun _ h => by cases h) refinesQuiet_row_tie rfl ⟨rfl, rfl⟩ cf_main rfl
    (fun f fn hf hfn => by
      obtain rfl : f = 5 := Option.some.inj (jf_named.symm.trans hf) |>.symm
      obtain rfl : fn = Tryz.f5 := (Option.some.inj (Tryz.func5.symm.trans hfn)).symm
      exact ⟨cf_looks, fun j t ht => by
        rw [Tryz.params5] at ht
        have h3 : t = 22 := by
          rcases j with _ | j
          · simpa using ht.symm
          · simp at ht
        subst h3
        exact cf_stand⟩)
    cf_goes
end Go.Proofs.Qxb6500574aGreatDoor
