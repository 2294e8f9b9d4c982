/-
  Load of a machine, and the small observers, in terms of the machine's state.
-/
import Derived.Test.Qxb6500579aGreatVLoad
import Derived.Test.Qxb6500579aGreatUShow2
import Derived.Test.Qxb6500579aGreatUNew
namespace Go.Proofs.Qxb6500579aGreat
open Go Go.RowKit
set_option linter.unusedVariables false
set_option linter.unusedSimpArgs false
/-- what Load answers and leaves -/
def loadS (s : Bs) (fuel : Int) : Nat × St :=
  match loadP s with
  | .inl er => (er, st0)
  | .inr m => (0, ⟨m, fuel.toNat, 0⟩)
theorem loadS_no {s : Bs} {fuel : Int} {er : Nat} (h : loadP s = .inl er) : loadS s fuel = (er, st0) := by unfold loadS; rw [h]
theorem loadS_ok {s : Bs} {fuel : Int} {m : VMD} (h : loadP s = .inr m) : loadS s fuel = (0, ⟨m, fuel.toNat, 0⟩) := by unfold loadS; rw [h]
theorem loadS_di (s : Bs) {fuel : Int} (hf : fuel ≤ 9223372036854775807) : DI (loadS s fuel).2 := by
  cases h : loadP s with
  | inl er => rw [loadS_no h]; exact DI.zero
  | inr m =>
    rw [loadS_ok h]
    unfold loadP at h
    split at h
    · cases h
    · rename_i hl
      split at h
      · cases h
      · rename_i im hd
        cases h
        have S := load_ok (by omega) hd
        refine ⟨fun _ => ⟨⟨K0 im, S⟩, fun t ht => ?_⟩, fun x => absurd rfl x, by dsimp only; omega, S.vi.ol, .inl rfl, fun t ht => ⟨(S.vi.tb t ht).1, S.vi.tk t ht⟩, by have := S.vi.kt; have := S.vi.tn; dsimp only; omega, ⟨K0 im, fun t ht => (S.vi.tb t ht).2⟩⟩
        simp [loadM] at ht
        rw [← ht]
        simp [loadM]
/-- the numbers that Load answers -/
theorem loadS_er (s : Bs) (fuel : Int) : ((loadS s fuel).1 = 0 ∧ (loadS s fuel).2.e = 0 ∨ (loadS s fuel).1 = 11 ∧ (loadS s fuel).2 = st0 ∨ (loadS s fuel).1 = 1 ∧ (loadS s fuel).2 = st0) ∧ ((loadS s fuel).1 = 1 ↔ s.length > 32768) := by
  unfold loadS loadP
  split
  · rename_i er h
    split at h
    · cases h; rename_i hl; exact ⟨.inr (.inr ⟨rfl, rfl⟩), by simp [hl]⟩
    · rename_i hl
      split at h
      · cases h; exact ⟨.inr (.inl ⟨rfl, rfl⟩), by simp; omega⟩
      · cases h
  · rename_i m h
    split at h
    · cases h
    · rename_i hl; exact ⟨.inl ⟨rfl, rfl⟩, by simp; omega⟩
theorem load_all {w : World} {A : VL} {σ : St} (R : VRep w A σ.m σ.f σ.e) (s : Bs) {fuel : Int} (hf : fuel ≤ 9223372036854775807) :
    Calls Tryz.prog 36 #[.pointer (some ⟨A.b, 0, none⟩), sv s, .int .i64 fuel] w fun e' w' => e' = .returned (.int .i64 (loadS s fuel).1) ∧ ∃ A', VRep w' A' (loadS s fuel).2.m (loadS s fuel).2.f (loadS s fuel).2.e ∧ VSt isVM w A w' A' := by
  refine (load_any (s := s) R fuel hf).mono ?_
  rintro e' w' ⟨A', m', f', e9, R', S', ⟨er, h1, rfl, rfl, rfl, rfl⟩ | ⟨h1, rfl, rfl, rfl⟩⟩
  · rw [loadS_no h1]
    exact ⟨rfl, A', R', S'⟩
  · rw [loadS_ok h1]
    exact ⟨rfl, A', R', S'⟩
section
variable {w : World} {A : VL} {σ : St}
theorem DI.e100 (D : DI σ) : σ.e < 100 := by
  by_cases h : σ.e = 0
  · omega
  · have := (D.dead h).2.1; omega
theorem show_all (R : VRep w A σ.m σ.f σ.e) (D : DI σ) : Calls Tryz.prog 7 #[.pointer (some ⟨A.b, 0, none⟩)] w fun e' w' => e' = .returned (sv (showM σ)) ∧ Fr (fun _ => False) w w' := by
  obtain ⟨K, O⟩ := D.sh
  exact show_any R O D.fu D.e100
end
end Go.Proofs.Qxb6500579aGreat
