/-
  THE WALK of vmlaw: Probe, whatever the registers hold.
-/
import Derived.Test.Qxb6500579aGreatULawQ1
import Derived.Test.Qxb6500579aGreatULawQ2
import Derived.Test.Qxb6500579aGreatULawQ3
import Derived.Test.Qxb6500579aGreatULawQ4
namespace Go.Proofs.Qxb6500579aGreat
open Go Go.RowKit
set_option linter.unusedVariables false
set_option linter.unusedSimpArgs false
theorem probe_any {w : World} {A : VL} {σ : St} {r : RegD} (R : VRep w A σ.m σ.f σ.e) (hG : RegIn r) : Calls Tryz.prog 21 #[.pointer (some ⟨A.b, 0, none⟩), r.val] w fun e' w' => e' = .returned (.bool true) ∧ ∃ σ' A', VRep w' A' (St.m σ') (St.f σ') (St.e σ') ∧ VSt isVM w A w' A' := by
  obtain ⟨cm0, cm1, cm2, cm3, cm4, C⟩ := cat1_ex
  cases ha : fitD r.a with
  | false =>
    cases hb : fitD r.b with
    | false => exact probe_noff R hG C ha hb
    | true => exact probe_noft R hG C ha hb
  | true =>
    cases hb : fitD r.b with
    | false => exact probe_notf R hG C ha hb
    | true =>
      cases hta : truthy r.a with
      | false =>
        cases htb : truthy r.b with
        | false => exact probe_yesff R hG C ha hb hta htb
        | true => exact probe_yesft R hG C ha hb hta htb
      | true =>
        cases htb : truthy r.b with
        | false => exact probe_yestf R hG C ha hb hta htb
        | true => exact probe_yestt R hG C ha hb hta htb
end Go.Proofs.Qxb6500579aGreat
