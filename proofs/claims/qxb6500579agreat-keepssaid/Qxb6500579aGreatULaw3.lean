/-
  THE WALKS of vmlaw: fit.
-/
import Derived.Test.Qxb6500579aGreatULaw2
import Derived.Test.Qxb6500579aGreatUValid
namespace Go.Proofs.Qxb6500579aGreat
open Go Go.RowKit
set_option linter.unusedVariables false
set_option linter.unusedSimpArgs false
def fitD (v : Vl) : Bool :=
  wellV v && (if v.t = 2 then decide (v.n % 9223372036854775808 ≤ 9218868437227405312) || v.n == nanB else if v.t = 4 then decide (v.n < 1) else if v.t = 5 ∨ v.t = 7 then decide (v.n < 2) else true)
section
variable {w : World}
set_option maxRecDepth 100000
set_option maxHeartbeats 1000000
theorem fit_any (v : Vl) (hn : v.n < 18446744073709551616) : Calls Tryz.prog 38 #[v.val] w fun e' w' => e' = .returned (.bool (fitD v)) ∧ Fr (fun _ => False) w w' := by
  have hW : ∀ W, Calls Tryz.prog 62 #[.agg #[.int .i64 v.t, .int .u64 v.n, sv v.s]] W fun e w' => e = .returned (.bool (wellV v)) ∧ Fr (fun _ => False) W w' := fun W => well_any (w := W) v
  obtain ⟨z, HZ⟩ : ∃ z, Hid (wellV v = z) := ⟨_, rfl⟩
  rw [HZ.out] at hW
  have HW : Hid (∀ W, Calls Tryz.prog 62 #[.agg #[.int .i64 v.t, .int .u64 v.n, sv v.s]] W fun e w' => e = .returned (.bool z) ∧ Fr (fun _ => False) W w') := hW
  have hF : fitD v = (z && (if v.t = 2 then decide (v.n % 9223372036854775808 ≤ 9218868437227405312) || v.n == nanB else if v.t = 4 then decide (v.n < 1) else if v.t = 5 ∨ v.t = 7 then decide (v.n < 2) else true)) := by unfold fitD; rw [HZ.out]
  rw [hF]
  clear hF hW HZ
  obtain ⟨vt, vn, vs⟩ := v
  dsimp only at *
  have hand : bits .and .u64 (vn : Int) 9223372036854775807 = ((vn % 9223372036854775808 : Nat) : Int) := by
    rw [show (9223372036854775807 : Int) = ((9223372036854775807 : Nat) : Int) from rfl, bits_and_u64_nat _ _ (by omega) (by omega), show (9223372036854775807 : Nat) = 2 ^ 63 - 1 from rfl, Nat.and_two_pow_sub_one_eq_mod]
  obtain ⟨fz, HFZ⟩ : ∃ fz : Bool, Hid ((z && (if vt = 2 then decide (vn % 9223372036854775808 ≤ 9218868437227405312) || vn == nanB else if vt = 4 then decide (vn < 1) else if vt = 5 ∨ vt = 7 then decide (vn < 2) else true)) = fz) := ⟨_, rfl⟩
  rw [HFZ.out]
  cases z with
  | false =>
    have hz : fz = false := by rw [← HFZ.out]; rfl
    subst hz
    go_enter Tryz.func38, Tryz.ntmps38
    go_wp2_with fail
    refine (HW.out _).mono ?_
    rintro e' w1 ⟨rfl, F1⟩
    have f1 : Fr (fun _ => False) w w1 := ((Fr.refl _ _).alloc _).trans F1 (fun _ _ x => x)
    clear F1
    go_wp2_with fail
    go_ret
    exact ⟨rfl, f1⟩
  | true =>
    have go : ∀ w1, Fr (fun _ => False) (w.alloc (.cells #[.int .i64 vt, .int .u64 vn, sv vs] 33)) w1 → w1.cell? ⟨w.heap.size, 0, none⟩ = some (.int .i64 vt) ∧ w1.cell? ⟨w.heap.size, 1, none⟩ = some (.int .u64 vn) ∧ w.heap.size < w1.heap.size := fun w1 F1 => by
      have k1 : Has w1 w.heap.size #[.int .i64 vt, .int .u64 vn, sv vs] 33 := (Has.new _ _ _).fr F1 (fun x => x)
      obtain ⟨k10, k11, k12⟩ := Has.cells3 (v := ⟨vt, vn, vs⟩) k1
      exact ⟨k10, k11, k1.lt⟩
    by_cases e2 : vt = 2
    · subst e2
      go_enter Tryz.func38, Tryz.ntmps38
      go_wp2_with fail
      refine (HW.out _).mono ?_
      rintro e' w1 ⟨rfl, F1⟩
      have f1 : Fr (fun _ => False) w w1 := ((Fr.refl _ _).alloc _).trans F1 (fun _ _ x => x)
      obtain ⟨k0, k1, kl⟩ := go w1 F1
      clear F1 go
      have hnan : ((vn : Int) == 9221120237041090561) = (vn == nanB) := by
        rw [Bool.eq_iff_iff, beq_iff_eq, beq_iff_eq]
        have : (nanB : Int) = 9221120237041090561 := rfl
        omega
      by_cases hd : vn % 9223372036854775808 ≤ 9218868437227405312
      · have gd : decide ((vn : Int) % 9223372036854775808 ≤ 9218868437227405312) = true := by rw [decide_eq_true_eq]; omega
        have hz : fz = true := by rw [← HFZ.out]; simp [hd]
        subst hz
        go_wp2_with fail
        go_ret
        exact ⟨rfl, f1⟩
      · have gd : decide ((vn : Int) % 9223372036854775808 ≤ 9218868437227405312) = false := by rw [decide_eq_false_iff_not]; omega
        have hz : (vn == nanB) = fz := by rw [← HFZ.out]; simp [hd]
        rw [hz] at hnan
        go_wp2_with fail
        go_ret
        exact ⟨rfl, f1⟩
    · by_cases e4 : vt = 4
      · subst e4
        have hz : decide (vn < 1) = fz := by rw [← HFZ.out]; simp
        go_enter Tryz.func38, Tryz.ntmps38
        go_wp2_with fail
        refine (HW.out _).mono ?_
        rintro e' w1 ⟨rfl, F1⟩
        have f1 : Fr (fun _ => False) w w1 := ((Fr.refl _ _).alloc _).trans F1 (fun _ _ x => x)
        obtain ⟨k0, k1, kl⟩ := go w1 F1
        clear F1 go
        go_wp2_with fail
        go_ret
        exact ⟨congrArg (fun b => Ending.returned (Value.bool b)) (by rw [← hz, Bool.eq_iff_iff]; simp only [decide_eq_true_eq]; omega), f1⟩
      · by_cases e5 : vt = 5
        · subst e5
          have hz : decide (vn < 2) = fz := by rw [← HFZ.out]; simp
          go_enter Tryz.func38, Tryz.ntmps38
          go_wp2_with fail
          refine (HW.out _).mono ?_
          rintro e' w1 ⟨rfl, F1⟩
          have f1 : Fr (fun _ => False) w w1 := ((Fr.refl _ _).alloc _).trans F1 (fun _ _ x => x)
          obtain ⟨k0, k1, kl⟩ := go w1 F1
          clear F1 go
          go_wp2_with fail
          go_ret
          exact ⟨congrArg (fun b => Ending.returned (Value.bool b)) (by rw [← hz, Bool.eq_iff_iff]; simp only [decide_eq_true_eq]; omega), f1⟩
        · by_cases e7 : vt = 7
          · subst e7
            have hz : decide (vn < 2) = fz := by rw [← HFZ.out]; simp
            go_enter Tryz.func38, Tryz.ntmps38
            go_wp2_with fail
            refine (HW.out _).mono ?_
            rintro e' w1 ⟨rfl, F1⟩
            have f1 : Fr (fun _ => False) w w1 := ((Fr.refl _ _).alloc _).trans F1 (fun _ _ x => x)
            obtain ⟨k0, k1, kl⟩ := go w1 F1
            clear F1 go
            go_wp2_with fail
            go_ret
            exact ⟨congrArg (fun b => Ending.returned (Value.bool b)) (by rw [← hz, Bool.eq_iff_iff]; simp only [decide_eq_true_eq]; omega), f1⟩
          · have b2 : (vt == 2) = false := by simpa using e2
            have b4 : (vt == 4) = false := by simpa using e4
            have b5 : (vt == 5) = false := by simpa using e5
            have b7 : (vt == 7) = false := by simpa using e7
            have hz : fz = true := by rw [← HFZ.out, if_neg e2, if_neg e4, if_neg (fun x => x.elim e5 e7)]; rfl
            subst hz
            clear e2 e4 e5 e7
            go_enter Tryz.func38, Tryz.ntmps38
            go_wp2_with fail
            refine (HW.out _).mono ?_
            rintro e' w1 ⟨rfl, F1⟩
            have f1 : Fr (fun _ => False) w w1 := ((Fr.refl _ _).alloc _).trans F1 (fun _ _ x => x)
            obtain ⟨k0, k1, kl⟩ := go w1 F1
            clear F1 go
            go_wp2_with fail
            go_ret
            exact ⟨rfl, f1⟩
end
end Go.Proofs.Qxb6500579aGreat
