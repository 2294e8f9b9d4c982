/-
  THE WALK of vmlaw: Do.
-/
import Derived.Test.Qxb6500579aGreatULaw4
import Derived.Test.Qxb6500579aGreatUExec
namespace Go.Proofs.Qxb6500579aGreat
open Go Go.RowKit
set_option linter.unusedVariables false
set_option linter.unusedSimpArgs false
theorem evBad_shw : Shw evBad.v ∧ Shw evBad.w := ⟨⟨by decide, by decide, by decide, by decide, .inl rfl⟩, ⟨by decide, by decide, by decide, by decide, .inl rfl⟩⟩
/-- an Exec's event can be shown -/
theorem ExecR.shw {σ σ' : St} (D : DI σ) {i : Int} {a b : Vl} (ha : a.n < 18446744073709551616) (hb : b.n < 18446744073709551616) {ev : EvD} (h : ExecR σ i a b ev σ') : Shw ev.v ∧ Shw ev.w := by
  rcases exec_law D ha hb h with ⟨rfl, _⟩ | ⟨_, F⟩
  · exact evBad_shw
  · obtain ⟨K1, h1⟩ := F.v
    obtain ⟨K2, h2⟩ := F.w
    exact ⟨h1.shw, h2.shw⟩
/-- an Exec leaves a machine at rest -/
theorem ExecR.di {σ σ' : St} (D : DI σ) {i : Int} {a b : Vl} (ha : a.n < 18446744073709551616) (hb : b.n < 18446744073709551616) {ev : EvD} (h : ExecR σ i a b ev σ') : DI σ' := by
  rcases exec_law D ha hb h with ⟨_, rfl⟩ | ⟨_, F⟩
  · exact D
  · exact F.d
end Go.Proofs.Qxb6500579aGreat
