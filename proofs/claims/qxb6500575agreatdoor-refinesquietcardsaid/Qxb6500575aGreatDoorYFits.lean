/-
  THE WALK of runm.Fits.
-/
import Derived.Test.Qxb6500575aGreatDoorRFits
namespace Go.Proofs.Qxb6500575aGreatDoor
open Go Go.RowKit
set_option linter.unusedVariables false
set_option linter.unusedSimpArgs false

theorem fitsB_of {b : BV} {t : UInt8} : fitsB b t = (decide (b.t = t) && (decide (t = 108) || (decide (-2147483648 ≤ b.v) && decide (b.v < 2147483648)))) := by
  have e : (b.v == wrap32 b.v) = (decide (-2147483648 ≤ b.v) && decide (b.v < 2147483648)) := by
    rw [Bool.eq_iff_iff]
    simp only [beq_iff_eq, Bool.and_eq_true, decide_eq_true_eq]
    unfold wrap32
    omega
  unfold fitsB
  rw [e]
  simp [BEq.beq]
set_option maxRecDepth 100000
set_option maxHeartbeats 400000
theorem yfits_any (b : BV) (t : UInt8) (w : World) : Calls Tryz.prog 109 #[.agg #[.int .u8 b.t.toNat, .int .i64 b.v], .int .u8 t.toNat] w fun e w' => e = .returned (.bool (fitsB b t)) ∧ Fr (fun _ => False) w w' := by
  obtain ⟨bt, bv⟩ := b
  simp only
  rw [fitsB_of]
  by_cases h1 : bt = t
  · subst h1
    by_cases h2 : bt = 108
    · subst h2
      go_enter Tryz.func109, Tryz.ntmps109
      go_wp2
      go_ret
      exact ⟨by simp, (Fr.refl _ _).alloc _⟩
    · have n2 : ((bt.toNat : Int) == 108) = false := by
        have h3 : bt.toNat ≠ (108 : UInt8).toNat := fun e => h2 (UInt8.toNat_inj.1 e)
        exact beq_eq_false_iff_ne.2 (by have : (108 : UInt8).toNat = 108 := rfl; omega)
      by_cases h4 : -2147483648 ≤ bv
      · by_cases h5 : bv < 2147483648
        · go_enter Tryz.func109, Tryz.ntmps109
          go_wp2
          go_ret
          exact ⟨by simp [h2, h4, h5], (Fr.refl _ _).alloc _⟩
        · have h5' : decide (bv < 2147483648) = false := decide_eq_false h5
          go_enter Tryz.func109, Tryz.ntmps109
          go_wp2
          go_ret
          exact ⟨by simp [h2, h5], (Fr.refl _ _).alloc _⟩
      · have h4' : decide (-2147483648 ≤ bv) = false := decide_eq_false h4
        go_enter Tryz.func109, Tryz.ntmps109
        go_wp2
        go_ret
        exact ⟨by simp [h2, h4], (Fr.refl _ _).alloc _⟩
  · have n1 : ((bt.toNat : Int) != (t.toNat : Int)) = true := by
      rw [bne_iff_ne]
      intro e
      exact h1 (UInt8.toNat_inj.1 (by omega))
    go_enter Tryz.func109, Tryz.ntmps109
    go_wp2
    go_ret
    exact ⟨by simp [h1], (Fr.refl _ _).alloc _⟩
end Go.Proofs.Qxb6500575aGreatDoor
