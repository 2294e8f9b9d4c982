/-
  THE WALKS of runlaw.Bounded, Sound. What a call says.
-/
import Derived.Test.Qxb6500575aGreatDoorROwed
namespace Go.Proofs.Qxb6500575aGreatDoor
open Go Go.RowKit
set_option linter.unusedVariables false
set_option linter.unusedSimpArgs false

set_option maxRecDepth 100000
set_option maxHeartbeats 1000000
theorem bounded_owed (ow e frame res : Int) (h : ow ≠ 0) (w : World) : Calls Tryz.prog 23 #[.int .i64 0, .int .i64 ow, .int .i64 e, .int .i64 frame, .int .i64 res] w fun r w' => r = .returned (.bool true) ∧ w' = w := by
  have h1 : (ow != 0) = true := by rw [bne_iff_ne]; exact h
  go_enter Tryz.func23, Tryz.ntmps23
  go_wp2
  go_ret
  exact ⟨rfl, rfl⟩
theorem bounded_ok (hi frame res : Int) (hf : 0 ≤ frame ∧ frame ≤ 100) (hr : 0 ≤ res ∧ res ≤ 100) (h : frame + res ≤ hi) (h2 : hi ≤ 124) (w : World) : Calls Tryz.prog 23 #[.int .i64 hi, .int .i64 0, .int .i64 0, .int .i64 frame, .int .i64 res] w fun r w' => r = .returned (.bool true) ∧ w' = w := by
  go_enter Tryz.func23, Tryz.ntmps23
  go_wp2
  go_ret
  exact ⟨rfl, rfl⟩
theorem bounded_trap (hi e frame res : Int) (he : e ≠ 0) (h : frame ≤ hi) (h2 : hi ≤ 124) (w : World) : Calls Tryz.prog 23 #[.int .i64 hi, .int .i64 0, .int .i64 e, .int .i64 frame, .int .i64 res] w fun r w' => r = .returned (.bool true) ∧ w' = w := by
  have h1 : (e == 0) = false := beq_eq_false_iff_ne.2 he
  go_enter Tryz.func23, Tryz.ntmps23
  go_wp2
  go_ret
  exact ⟨rfl, rfl⟩
abbrev ansV (er us len : Int) (str : List UInt8) : Value := .agg #[.int .i64 er, .int .i64 us, .int .i64 len, sv str]
theorem sound_owed (o : OpD) (er : Int) (he : er = 1 ∨ er = 8 ∨ er = 7) (z rs : List UInt8) (w : World) : Calls Tryz.prog 24 #[o.val, ansV er 0 0 [124], sv z, sv z, .int .i64 0, sv rs] w fun r w' => r = .returned (.bool true) ∧ Fr (fun _ => False) w w' := by
  obtain ⟨kind, oa, ob, oc, os, ot⟩ := o
  unfold OpD.val
  simp only
  rcases he with rfl | rfl | rfl
  all_goals
    go_enter Tryz.func24, Tryz.ntmps24
    go_wp2
    go_ret
    exact ⟨rfl, ((Fr.refl _ _).alloc _).alloc _⟩
theorem sound_trap (o : OpD) (er us : Int) (he : 11 ≤ er ∧ er ≤ 17) (hu : 0 ≤ us ∧ (us = 0 ∨ us ≤ o.b)) (str z zw rs : List UInt8) (n : Int) (hb : o.b ≤ 0 → er = 17 ∧ str = [124] ∧ zw = z) (w : World) : Calls Tryz.prog 24 #[o.val, ansV er us 0 str, sv z, sv zw, .int .i64 n, sv rs] w fun r w' => r = .returned (.bool true) ∧ Fr (fun _ => False) w w' := by
  obtain ⟨kind, oa, ob, oc, os, ot⟩ := o
  unfold OpD.val
  simp only at *
  have h1 : (er == 1) = false := beq_eq_false_iff_ne.2 (by omega)
  have h2 : (er == 8) = false := beq_eq_false_iff_ne.2 (by omega)
  have h3 : (er == 7) = false := beq_eq_false_iff_ne.2 (by omega)
  have h4 : (er != 0) = true := by rw [bne_iff_ne]; omega
  have h5 : decide (er < 11) = false := by simp; omega
  have h6 : decide (18 ≤ er) = false := by simp; omega
  have h7 : decide (us < 0) = false := by simp; omega
  by_cases hb0 : ob ≤ 0
  · obtain ⟨rfl, rfl, rfl⟩ := hb hb0
    obtain rfl : us = 0 := by omega
    clear hb
    by_cases hb1 : ob < 0
    · go_enter Tryz.func24, Tryz.ntmps24
      go_wp2
      go_ret
      exact ⟨rfl, ((Fr.refl _ _).alloc _).alloc _⟩
    · obtain rfl : ob = 0 := by omega
      go_enter Tryz.func24, Tryz.ntmps24
      go_wp2
      go_ret
      exact ⟨rfl, ((Fr.refl _ _).alloc _).alloc _⟩
  · have h8 : decide (ob ≤ 0) = false := by simp; omega
    have h9 : decide (ob < us) = false := by simp; omega
    clear hb hb0 hu he
    go_enter Tryz.func24, Tryz.ntmps24
    go_wp2
    go_ret
    exact ⟨rfl, ((Fr.refl _ _).alloc _).alloc _⟩
theorem sound_ok (o : OpD) (us : Int) (hu : 0 ≤ us ∧ (us = 0 ∨ us ≤ o.b)) (str z zw rs : List UInt8) (hs : ∀ t l, rs = t :: l → ∃ r, str = t :: r) (n : Int) (hb : o.b ≤ 0 → str = [124] ∧ zw = z) (w : World) : Calls Tryz.prog 24 #[o.val, ansV 0 us rs.length str, sv z, sv zw, .int .i64 n, sv rs] w fun r w' => r = .returned (.bool true) ∧ Fr (fun _ => False) w w' := by
  obtain ⟨kind, oa, ob, oc, os, ot⟩ := o
  unfold OpD.val
  simp only at *
  have h7 : decide (us < 0) = false := by simp; omega
  have STR : (rs = [] ∨ ∃ t l r, rs = t :: l ∧ str = t :: r) := by
    cases rs with
    | nil => exact .inl rfl
    | cons t l =>
      obtain ⟨r, hr⟩ := hs t l rfl
      exact .inr ⟨t, l, r, rfl, hr⟩
  have FIN : Hid (∀ (o1 o2 : Obj) nq, Fr (fun _ => False) w (((w.alloc o1).alloc o2).drewN nq)) := fun o1 o2 nq => (((Fr.refl _ _).alloc _).alloc _).drewN nq
  clear hs
  rcases STR with rfl | ⟨t, l, r, rfl, rfl⟩
  · by_cases hb0 : ob ≤ 0
    · obtain ⟨rfl, rfl⟩ := hb hb0
      obtain rfl : us = 0 := by omega
      clear hb
      by_cases hb1 : ob < 0
      · go_enter Tryz.func24, Tryz.ntmps24
        go_wp2
        refine wp_region_quiet_lit (by kernel_rfl) (by kernel_rfl) ?_
        repeat go_big_quiet_step (fail)
        refine wpQuiet_nil ?_
        rintro w' ⟨nq, rfl⟩
        go_wp2
        go_ret
        exact ⟨rfl, FIN.out _ _ nq⟩
      · obtain rfl : ob = 0 := by omega
        go_enter Tryz.func24, Tryz.ntmps24
        go_wp2
        refine wp_region_quiet_lit (by kernel_rfl) (by kernel_rfl) ?_
        repeat go_big_quiet_step (fail)
        refine wpQuiet_nil ?_
        rintro w' ⟨nq, rfl⟩
        go_wp2
        go_ret
        exact ⟨rfl, FIN.out _ _ nq⟩
    · have h8 : decide (ob ≤ 0) = false := by simp; omega
      have h9 : decide (ob < us) = false := by simp; omega
      clear hb hb0 hu
      go_enter Tryz.func24, Tryz.ntmps24
      go_wp2
      refine wp_region_quiet_lit (by kernel_rfl) (by kernel_rfl) ?_
      repeat go_big_quiet_step (fail)
      refine wpQuiet_nil ?_
      rintro w' ⟨nq, rfl⟩
      go_wp2
      go_ret
      exact ⟨rfl, FIN.out _ _ nq⟩
  · obtain ⟨R, HR, hR0⟩ : ∃ R : List UInt8, Hid (R = t :: l) ∧ R[0]? = some t := ⟨_, rfl, rfl⟩
    have i1 := fun w => run_index_str R 0 0 rfl hR0 w
    have n1 : R.isEmpty = false := by rw [HR.out]; rfl
    rw [← HR.out]
    by_cases hb0 : ob ≤ 0
    · obtain ⟨h, rfl⟩ := hb hb0
      simp at h
      obtain ⟨rfl, rfl⟩ := h
      obtain rfl : us = 0 := by omega
      have i2 := fun w => run_index_str [124] 0 0 rfl rfl w
      clear hb hR0
      by_cases hb1 : ob < 0
      · go_enter Tryz.func24, Tryz.ntmps24
        go_wp2
        refine wp_region_quiet_lit (by kernel_rfl) (by kernel_rfl) ?_
        repeat go_big_quiet_step (fail)
        refine wpQuiet_nil ?_
        rintro w' ⟨nq, rfl⟩
        go_wp2
        go_ret
        exact ⟨rfl, FIN.out _ _ nq⟩
      · obtain rfl : ob = 0 := by omega
        go_enter Tryz.func24, Tryz.ntmps24
        go_wp2
        refine wp_region_quiet_lit (by kernel_rfl) (by kernel_rfl) ?_
        repeat go_big_quiet_step (fail)
        refine wpQuiet_nil ?_
        rintro w' ⟨nq, rfl⟩
        go_wp2
        go_ret
        exact ⟨rfl, FIN.out _ _ nq⟩
    · have h8 : decide (ob ≤ 0) = false := by simp; omega
      have h9 : decide (ob < us) = false := by simp; omega
      obtain ⟨Z, HZ, hZ0⟩ : ∃ Z : List UInt8, Hid (Z = t :: r) ∧ Z[0]? = some t := ⟨_, rfl, rfl⟩
      have i2 := fun w => run_index_str Z 0 0 rfl hZ0 w
      rw [← HZ.out]
      clear hb hb0 hu hR0 hZ0
      go_enter Tryz.func24, Tryz.ntmps24
      go_wp2
      refine wp_region_quiet_lit (by kernel_rfl) (by kernel_rfl) ?_
      repeat go_big_quiet_step (fail)
      refine wpQuiet_nil ?_
      rintro w' ⟨nq, rfl⟩
      go_wp2
      go_ret
      exact ⟨rfl, FIN.out _ _ nq⟩
end Go.Proofs.Qxb6500575aGreatDoor
