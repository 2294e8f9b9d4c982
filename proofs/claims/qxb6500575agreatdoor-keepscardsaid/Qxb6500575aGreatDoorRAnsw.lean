/-
  The hosts of runlaw: the tape, the nil *Tape.
-/
import Derived.Test.Qxb6500575aGreatDoorRTape
import Derived.Test.Qxb6500575aGreatDoorRAsk
import Derived.Test.Qxb6500575aGreatDoorRCall
import Derived.Test.Qxb6500575aGreatDoorRGround
namespace Go.Proofs.Qxb6500575aGreatDoor
open Go Go.RowKit
set_option linter.unusedVariables false
set_option linter.unusedSimpArgs false

theorem answ_nil {σ : Type} (R : RP σ) : AnswC R (.pointer none) := by
  intro w L K x n d s imp args aa ac hr hal hown hap
  refine (tcall_nil imp _ w).mono ?_
  rintro e w' ⟨h, rfl⟩
  exact ⟨.inr h, s, hr⟩
theorem answ_tape (R : RP TapeD) (bt : Nat) (hH : R.H = tapeH bt) : AnswC R (.pointer (some ⟨bt, 0, none⟩)) := by
  obtain ⟨bx, bp, bk, LP, P, H, w0, L0, K0, d0, s0⟩ := R
  simp only at hH
  subst hH
  intro w L K x n d s imp args aa ac hr hal hown hap
  have hrep : TapeRep bt w s ∧ TapeOk s := hr.host
  have hkl := hrep.2.kle
  by_cases hk : s.k = 7
  · refine (tcall_done hrep.1 hk imp _).mono ?_
    rintro e w' ⟨h, rfl⟩
    exact ⟨.inr h, s, hr⟩
  · refine (tcall_on hrep.1 hrep.2 (by omega) imp args hal aa ac hown (fun g hg => (hap g hg).2)).mono ?_
    rintro e w' ⟨s', h1, h2, h3, h4, h5⟩
    exact ⟨h5, s', hr.asked (R := ⟨bx, bp, bk, LP, P, tapeH bt, w0, L0, K0, d0, s0⟩) ⟨h1, h2⟩ hown (fun g hg => (hap g hg).1) h3 h4⟩
end Go.Proofs.Qxb6500575aGreatDoor
