/-
  THE WALKS of compm: step: the chain of tests.
-/
import Derived.Test.Qxb6500574aGreatDoorZD1
namespace Go.Proofs.Qxb6500574aGreatDoor
open Go Go.RowKit
set_option linter.unusedVariables false
set_option linter.unusedSimpArgs false
section
variable {Q : Exit → Act → World → Prop} {a : Act} {W : World} {v0 v2 v3 v4 : Value} {kk : Nat}
set_option maxRecDepth 100000
set_option maxHeartbeats 2000000
theorem st_dn0 (H : FrZs v0 v2 v3 v4 (.int .i64 kk) a) (hk : kk ≠ 1) (h : ∀ a', FrZs v0 v2 v3 v4 (.int .i64 kk) a' → (stC 1 (cI (stB Tryz.f77.body))).wp Tryz.prog Q a' W) : (stC 0 (cI (stB Tryz.f77.body))).wp Tryz.prog Q a W := by
  obtain ⟨u, rfl⟩ := H.form
  have EQ : stC 0 (cI (stB Tryz.f77.body)) = Code.seq (cL (stC 0 (cI (stB Tryz.f77.body)))) (Code.cond (.tmp 93) (cTz (stC 0 (cI (stB Tryz.f77.body)))) (stC 1 (cI (stB Tryz.f77.body)))) := by kernel_rfl
  obtain ⟨X, HX⟩ : ∃ X, Hid (cTz (stC 0 (cI (stB Tryz.f77.body))) = X) := ⟨_, rfl⟩
  obtain ⟨Y, HY⟩ : ∃ Y, Hid (stC 1 (cI (stB Tryz.f77.body)) = Y) := ⟨_, rfl⟩
  obtain ⟨c, hc⟩ : ∃ c, c = cL (stC 0 (cI (stB Tryz.f77.body))) := ⟨_, rfl⟩
  rw [HX.out, HY.out, ← hc] at EQ
  rw [HY.out] at h
  rw [EQ]
  clear EQ HX HY
  simp only [cL, cE, cI, cR, stC, stB, Tryz.f77, Option.getD_some] at hc
  subst hc
  have hb : ((kk : Int) == 1) = false := by rw [beq_eq_false_iff_ne]; omega
  have HH := hid h
  clear h hk H
  go_wp2_with fail
  exact HH.out _ ⟨by kernel_rfl, by kernel_rfl, by kernel_rfl, by kernel_rfl, by kernel_rfl, by kernel_rfl, rfl⟩
theorem st_up0 (H : FrZs v0 v2 v3 v4 (.int .i64 kk) a) (hk : kk = 1) (h : ∀ a', FrZs v0 v2 v3 v4 (.int .i64 kk) a' → (cTz (stC 0 (cI (stB Tryz.f77.body)))).wp Tryz.prog Q a' W) : (stC 0 (cI (stB Tryz.f77.body))).wp Tryz.prog Q a W := by
  obtain ⟨u, rfl⟩ := H.form
  have EQ : stC 0 (cI (stB Tryz.f77.body)) = Code.seq (cL (stC 0 (cI (stB Tryz.f77.body)))) (Code.cond (.tmp 93) (cTz (stC 0 (cI (stB Tryz.f77.body)))) (stC 1 (cI (stB Tryz.f77.body)))) := by kernel_rfl
  obtain ⟨X, HX⟩ : ∃ X, Hid (cTz (stC 0 (cI (stB Tryz.f77.body))) = X) := ⟨_, rfl⟩
  obtain ⟨Y, HY⟩ : ∃ Y, Hid (stC 1 (cI (stB Tryz.f77.body)) = Y) := ⟨_, rfl⟩
  obtain ⟨c, hc⟩ : ∃ c, c = cL (stC 0 (cI (stB Tryz.f77.body))) := ⟨_, rfl⟩
  rw [HX.out, HY.out, ← hc] at EQ
  rw [HX.out] at h
  rw [EQ]
  clear EQ HX HY
  simp only [cL, cE, cI, cR, stC, stB, Tryz.f77, Option.getD_some] at hc
  subst hc
  have hb : ((kk : Int) == 1) = true := by rw [hk]; rfl
  have HH := hid h
  clear h hk H
  go_wp2_with fail
  exact HH.out _ ⟨by kernel_rfl, by kernel_rfl, by kernel_rfl, by kernel_rfl, by kernel_rfl, by kernel_rfl, rfl⟩
theorem st_dn1 (H : FrZs v0 v2 v3 v4 (.int .i64 kk) a) (hk : kk ≠ 2) (h : ∀ a', FrZs v0 v2 v3 v4 (.int .i64 kk) a' → (stC 2 (cI (stB Tryz.f77.body))).wp Tryz.prog Q a' W) : (stC 1 (cI (stB Tryz.f77.body))).wp Tryz.prog Q a W := by
  obtain ⟨u, rfl⟩ := H.form
  have EQ : stC 1 (cI (stB Tryz.f77.body)) = Code.seq (cL (stC 1 (cI (stB Tryz.f77.body)))) (Code.cond (.tmp 104) (cTz (stC 1 (cI (stB Tryz.f77.body)))) (stC 2 (cI (stB Tryz.f77.body)))) := by kernel_rfl
  obtain ⟨X, HX⟩ : ∃ X, Hid (cTz (stC 1 (cI (stB Tryz.f77.body))) = X) := ⟨_, rfl⟩
  obtain ⟨Y, HY⟩ : ∃ Y, Hid (stC 2 (cI (stB Tryz.f77.body)) = Y) := ⟨_, rfl⟩
  obtain ⟨c, hc⟩ : ∃ c, c = cL (stC 1 (cI (stB Tryz.f77.body))) := ⟨_, rfl⟩
  rw [HX.out, HY.out, ← hc] at EQ
  rw [HY.out] at h
  rw [EQ]
  clear EQ HX HY
  simp only [cL, cE, cI, cR, stC, stB, Tryz.f77, Option.getD_some] at hc
  subst hc
  have hb : ((kk : Int) == 2) = false := by rw [beq_eq_false_iff_ne]; omega
  have HH := hid h
  clear h hk H
  go_wp2_with fail
  exact HH.out _ ⟨by kernel_rfl, by kernel_rfl, by kernel_rfl, by kernel_rfl, by kernel_rfl, by kernel_rfl, rfl⟩
theorem st_up1 (H : FrZs v0 v2 v3 v4 (.int .i64 kk) a) (hk : kk = 2) (h : ∀ a', FrZs v0 v2 v3 v4 (.int .i64 kk) a' → (cTz (stC 1 (cI (stB Tryz.f77.body)))).wp Tryz.prog Q a' W) : (stC 1 (cI (stB Tryz.f77.body))).wp Tryz.prog Q a W := by
  obtain ⟨u, rfl⟩ := H.form
  have EQ : stC 1 (cI (stB Tryz.f77.body)) = Code.seq (cL (stC 1 (cI (stB Tryz.f77.body)))) (Code.cond (.tmp 104) (cTz (stC 1 (cI (stB Tryz.f77.body)))) (stC 2 (cI (stB Tryz.f77.body)))) := by kernel_rfl
  obtain ⟨X, HX⟩ : ∃ X, Hid (cTz (stC 1 (cI (stB Tryz.f77.body))) = X) := ⟨_, rfl⟩
  obtain ⟨Y, HY⟩ : ∃ Y, Hid (stC 2 (cI (stB Tryz.f77.body)) = Y) := ⟨_, rfl⟩
  obtain ⟨c, hc⟩ : ∃ c, c = cL (stC 1 (cI (stB Tryz.f77.body))) := ⟨_, rfl⟩
  rw [HX.out, HY.out, ← hc] at EQ
  rw [HX.out] at h
  rw [EQ]
  clear EQ HX HY
  simp only [cL, cE, cI, cR, stC, stB, Tryz.f77, Option.getD_some] at hc
  subst hc
  have hb : ((kk : Int) == 2) = true := by rw [hk]; rfl
  have HH := hid h
  clear h hk H
  go_wp2_with fail
  exact HH.out _ ⟨by kernel_rfl, by kernel_rfl, by kernel_rfl, by kernel_rfl, by kernel_rfl, by kernel_rfl, rfl⟩
theorem st_dn2 (H : FrZs v0 v2 v3 v4 (.int .i64 kk) a) (hk : kk ≠ 3) (h : ∀ a', FrZs v0 v2 v3 v4 (.int .i64 kk) a' → (stC 3 (cI (stB Tryz.f77.body))).wp Tryz.prog Q a' W) : (stC 2 (cI (stB Tryz.f77.body))).wp Tryz.prog Q a W := by
  obtain ⟨u, rfl⟩ := H.form
  have EQ : stC 2 (cI (stB Tryz.f77.body)) = Code.seq (cL (stC 2 (cI (stB Tryz.f77.body)))) (Code.cond (.tmp 114) (cTz (stC 2 (cI (stB Tryz.f77.body)))) (stC 3 (cI (stB Tryz.f77.body)))) := by kernel_rfl
  obtain ⟨X, HX⟩ : ∃ X, Hid (cTz (stC 2 (cI (stB Tryz.f77.body))) = X) := ⟨_, rfl⟩
  obtain ⟨Y, HY⟩ : ∃ Y, Hid (stC 3 (cI (stB Tryz.f77.body)) = Y) := ⟨_, rfl⟩
  obtain ⟨c, hc⟩ : ∃ c, c = cL (stC 2 (cI (stB Tryz.f77.body))) := ⟨_, rfl⟩
  rw [HX.out, HY.out, ← hc] at EQ
  rw [HY.out] at h
  rw [EQ]
  clear EQ HX HY
  simp only [cL, cE, cI, cR, stC, stB, Tryz.f77, Option.getD_some] at hc
  subst hc
  have hb : ((kk : Int) == 3) = false := by rw [beq_eq_false_iff_ne]; omega
  have HH := hid h
  clear h hk H
  go_wp2_with fail
  exact HH.out _ ⟨by kernel_rfl, by kernel_rfl, by kernel_rfl, by kernel_rfl, by kernel_rfl, by kernel_rfl, rfl⟩
theorem st_up2 (H : FrZs v0 v2 v3 v4 (.int .i64 kk) a) (hk : kk = 3) (h : ∀ a', FrZs v0 v2 v3 v4 (.int .i64 kk) a' → (cTz (stC 2 (cI (stB Tryz.f77.body)))).wp Tryz.prog Q a' W) : (stC 2 (cI (stB Tryz.f77.body))).wp Tryz.prog Q a W := by
  obtain ⟨u, rfl⟩ := H.form
  have EQ : stC 2 (cI (stB Tryz.f77.body)) = Code.seq (cL (stC 2 (cI (stB Tryz.f77.body)))) (Code.cond (.tmp 114) (cTz (stC 2 (cI (stB Tryz.f77.body)))) (stC 3 (cI (stB Tryz.f77.body)))) := by kernel_rfl
  obtain ⟨X, HX⟩ : ∃ X, Hid (cTz (stC 2 (cI (stB Tryz.f77.body))) = X) := ⟨_, rfl⟩
  obtain ⟨Y, HY⟩ : ∃ Y, Hid (stC 3 (cI (stB Tryz.f77.body)) = Y) := ⟨_, rfl⟩
  obtain ⟨c, hc⟩ : ∃ c, c = cL (stC 2 (cI (stB Tryz.f77.body))) := ⟨_, rfl⟩
  rw [HX.out, HY.out, ← hc] at EQ
  rw [HX.out] at h
  rw [EQ]
  clear EQ HX HY
  simp only [cL, cE, cI, cR, stC, stB, Tryz.f77, Option.getD_some] at hc
  subst hc
  have hb : ((kk : Int) == 3) = true := by rw [hk]; rfl
  have HH := hid h
  clear h hk H
  go_wp2_with fail
  exact HH.out _ ⟨by kernel_rfl, by kernel_rfl, by kernel_rfl, by kernel_rfl, by kernel_rfl, by kernel_rfl, rfl⟩
theorem st_dn3 (H : FrZs v0 v2 v3 v4 (.int .i64 kk) a) (hk : kk ≠ 4) (h : ∀ a', FrZs v0 v2 v3 v4 (.int .i64 kk) a' → (stC 4 (cI (stB Tryz.f77.body))).wp Tryz.prog Q a' W) : (stC 3 (cI (stB Tryz.f77.body))).wp Tryz.prog Q a W := by
  obtain ⟨u, rfl⟩ := H.form
  have EQ : stC 3 (cI (stB Tryz.f77.body)) = Code.seq (cL (stC 3 (cI (stB Tryz.f77.body)))) (Code.cond (.tmp 130) (cTz (stC 3 (cI (stB Tryz.f77.body)))) (stC 4 (cI (stB Tryz.f77.body)))) := by kernel_rfl
  obtain ⟨X, HX⟩ : ∃ X, Hid (cTz (stC 3 (cI (stB Tryz.f77.body))) = X) := ⟨_, rfl⟩
  obtain ⟨Y, HY⟩ : ∃ Y, Hid (stC 4 (cI (stB Tryz.f77.body)) = Y) := ⟨_, rfl⟩
  obtain ⟨c, hc⟩ : ∃ c, c = cL (stC 3 (cI (stB Tryz.f77.body))) := ⟨_, rfl⟩
  rw [HX.out, HY.out, ← hc] at EQ
  rw [HY.out] at h
  rw [EQ]
  clear EQ HX HY
  simp only [cL, cE, cI, cR, stC, stB, Tryz.f77, Option.getD_some] at hc
  subst hc
  have hb : ((kk : Int) == 4) = false := by rw [beq_eq_false_iff_ne]; omega
  have HH := hid h
  clear h hk H
  go_wp2_with fail
  exact HH.out _ ⟨by kernel_rfl, by kernel_rfl, by kernel_rfl, by kernel_rfl, by kernel_rfl, by kernel_rfl, rfl⟩
theorem st_up3 (H : FrZs v0 v2 v3 v4 (.int .i64 kk) a) (hk : kk = 4) (h : ∀ a', FrZs v0 v2 v3 v4 (.int .i64 kk) a' → (cTz (stC 3 (cI (stB Tryz.f77.body)))).wp Tryz.prog Q a' W) : (stC 3 (cI (stB Tryz.f77.body))).wp Tryz.prog Q a W := by
  obtain ⟨u, rfl⟩ := H.form
  have EQ : stC 3 (cI (stB Tryz.f77.body)) = Code.seq (cL (stC 3 (cI (stB Tryz.f77.body)))) (Code.cond (.tmp 130) (cTz (stC 3 (cI (stB Tryz.f77.body)))) (stC 4 (cI (stB Tryz.f77.body)))) := by kernel_rfl
  obtain ⟨X, HX⟩ : ∃ X, Hid (cTz (stC 3 (cI (stB Tryz.f77.body))) = X) := ⟨_, rfl⟩
  obtain ⟨Y, HY⟩ : ∃ Y, Hid (stC 4 (cI (stB Tryz.f77.body)) = Y) := ⟨_, rfl⟩
  obtain ⟨c, hc⟩ : ∃ c, c = cL (stC 3 (cI (stB Tryz.f77.body))) := ⟨_, rfl⟩
  rw [HX.out, HY.out, ← hc] at EQ
  rw [HX.out] at h
  rw [EQ]
  clear EQ HX HY
  simp only [cL, cE, cI, cR, stC, stB, Tryz.f77, Option.getD_some] at hc
  subst hc
  have hb : ((kk : Int) == 4) = true := by rw [hk]; rfl
  have HH := hid h
  clear h hk H
  go_wp2_with fail
  exact HH.out _ ⟨by kernel_rfl, by kernel_rfl, by kernel_rfl, by kernel_rfl, by kernel_rfl, by kernel_rfl, rfl⟩
theorem st_dn4 (H : FrZs v0 v2 v3 v4 (.int .i64 kk) a) (hk : kk ≠ 5) (h : ∀ a', FrZs v0 v2 v3 v4 (.int .i64 kk) a' → (stC 5 (cI (stB Tryz.f77.body))).wp Tryz.prog Q a' W) : (stC 4 (cI (stB Tryz.f77.body))).wp Tryz.prog Q a W := by
  obtain ⟨u, rfl⟩ := H.form
  have EQ : stC 4 (cI (stB Tryz.f77.body)) = Code.seq (cL (stC 4 (cI (stB Tryz.f77.body)))) (Code.cond (.tmp 132) (cTz (stC 4 (cI (stB Tryz.f77.body)))) (stC 5 (cI (stB Tryz.f77.body)))) := by kernel_rfl
  obtain ⟨X, HX⟩ : ∃ X, Hid (cTz (stC 4 (cI (stB Tryz.f77.body))) = X) := ⟨_, rfl⟩
  obtain ⟨Y, HY⟩ : ∃ Y, Hid (stC 5 (cI (stB Tryz.f77.body)) = Y) := ⟨_, rfl⟩
  obtain ⟨c, hc⟩ : ∃ c, c = cL (stC 4 (cI (stB Tryz.f77.body))) := ⟨_, rfl⟩
  rw [HX.out, HY.out, ← hc] at EQ
  rw [HY.out] at h
  rw [EQ]
  clear EQ HX HY
  simp only [cL, cE, cI, cR, stC, stB, Tryz.f77, Option.getD_some] at hc
  subst hc
  have hb : ((kk : Int) == 5) = false := by rw [beq_eq_false_iff_ne]; omega
  have HH := hid h
  clear h hk H
  go_wp2_with fail
  exact HH.out _ ⟨by kernel_rfl, by kernel_rfl, by kernel_rfl, by kernel_rfl, by kernel_rfl, by kernel_rfl, rfl⟩
theorem st_up4 (H : FrZs v0 v2 v3 v4 (.int .i64 kk) a) (hk : kk = 5) (h : ∀ a', FrZs v0 v2 v3 v4 (.int .i64 kk) a' → (cTz (stC 4 (cI (stB Tryz.f77.body)))).wp Tryz.prog Q a' W) : (stC 4 (cI (stB Tryz.f77.body))).wp Tryz.prog Q a W := by
  obtain ⟨u, rfl⟩ := H.form
  have EQ : stC 4 (cI (stB Tryz.f77.body)) = Code.seq (cL (stC 4 (cI (stB Tryz.f77.body)))) (Code.cond (.tmp 132) (cTz (stC 4 (cI (stB Tryz.f77.body)))) (stC 5 (cI (stB Tryz.f77.body)))) := by kernel_rfl
  obtain ⟨X, HX⟩ : ∃ X, Hid (cTz (stC 4 (cI (stB Tryz.f77.body))) = X) := ⟨_, rfl⟩
  obtain ⟨Y, HY⟩ : ∃ Y, Hid (stC 5 (cI (stB Tryz.f77.body)) = Y) := ⟨_, rfl⟩
  obtain ⟨c, hc⟩ : ∃ c, c = cL (stC 4 (cI (stB Tryz.f77.body))) := ⟨_, rfl⟩
  rw [HX.out, HY.out, ← hc] at EQ
  rw [HX.out] at h
  rw [EQ]
  clear EQ HX HY
  simp only [cL, cE, cI, cR, stC, stB, Tryz.f77, Option.getD_some] at hc
  subst hc
  have hb : ((kk : Int) == 5) = true := by rw [hk]; rfl
  have HH := hid h
  clear h hk H
  go_wp2_with fail
  exact HH.out _ ⟨by kernel_rfl, by kernel_rfl, by kernel_rfl, by kernel_rfl, by kernel_rfl, by kernel_rfl, rfl⟩
theorem st_dn5 (H : FrZs v0 v2 v3 v4 (.int .i64 kk) a) (hk : kk ≠ 6) (h : ∀ a', FrZs v0 v2 v3 v4 (.int .i64 kk) a' → (stC 6 (cI (stB Tryz.f77.body))).wp Tryz.prog Q a' W) : (stC 5 (cI (stB Tryz.f77.body))).wp Tryz.prog Q a W := by
  obtain ⟨u, rfl⟩ := H.form
  have EQ : stC 5 (cI (stB Tryz.f77.body)) = Code.seq (cL (stC 5 (cI (stB Tryz.f77.body)))) (Code.cond (.tmp 136) (cTz (stC 5 (cI (stB Tryz.f77.body)))) (stC 6 (cI (stB Tryz.f77.body)))) := by kernel_rfl
  obtain ⟨X, HX⟩ : ∃ X, Hid (cTz (stC 5 (cI (stB Tryz.f77.body))) = X) := ⟨_, rfl⟩
  obtain ⟨Y, HY⟩ : ∃ Y, Hid (stC 6 (cI (stB Tryz.f77.body)) = Y) := ⟨_, rfl⟩
  obtain ⟨c, hc⟩ : ∃ c, c = cL (stC 5 (cI (stB Tryz.f77.body))) := ⟨_, rfl⟩
  rw [HX.out, HY.out, ← hc] at EQ
  rw [HY.out] at h
  rw [EQ]
  clear EQ HX HY
  simp only [cL, cE, cI, cR, stC, stB, Tryz.f77, Option.getD_some] at hc
  subst hc
  have hb : ((kk : Int) == 6) = false := by rw [beq_eq_false_iff_ne]; omega
  have HH := hid h
  clear h hk H
  go_wp2_with fail
  exact HH.out _ ⟨by kernel_rfl, by kernel_rfl, by kernel_rfl, by kernel_rfl, by kernel_rfl, by kernel_rfl, rfl⟩
theorem st_up5 (H : FrZs v0 v2 v3 v4 (.int .i64 kk) a) (hk : kk = 6) (h : ∀ a', FrZs v0 v2 v3 v4 (.int .i64 kk) a' → (cTz (stC 5 (cI (stB Tryz.f77.body)))).wp Tryz.prog Q a' W) : (stC 5 (cI (stB Tryz.f77.body))).wp Tryz.prog Q a W := by
  obtain ⟨u, rfl⟩ := H.form
  have EQ : stC 5 (cI (stB Tryz.f77.body)) = Code.seq (cL (stC 5 (cI (stB Tryz.f77.body)))) (Code.cond (.tmp 136) (cTz (stC 5 (cI (stB Tryz.f77.body)))) (stC 6 (cI (stB Tryz.f77.body)))) := by kernel_rfl
  obtain ⟨X, HX⟩ : ∃ X, Hid (cTz (stC 5 (cI (stB Tryz.f77.body))) = X) := ⟨_, rfl⟩
  obtain ⟨Y, HY⟩ : ∃ Y, Hid (stC 6 (cI (stB Tryz.f77.body)) = Y) := ⟨_, rfl⟩
  obtain ⟨c, hc⟩ : ∃ c, c = cL (stC 5 (cI (stB Tryz.f77.body))) := ⟨_, rfl⟩
  rw [HX.out, HY.out, ← hc] at EQ
  rw [HX.out] at h
  rw [EQ]
  clear EQ HX HY
  simp only [cL, cE, cI, cR, stC, stB, Tryz.f77, Option.getD_some] at hc
  subst hc
  have hb : ((kk : Int) == 6) = true := by rw [hk]; rfl
  have HH := hid h
  clear h hk H
  go_wp2_with fail
  exact HH.out _ ⟨by kernel_rfl, by kernel_rfl, by kernel_rfl, by kernel_rfl, by kernel_rfl, by kernel_rfl, rfl⟩
theorem st_dn6 (H : FrZs v0 v2 v3 v4 (.int .i64 kk) a) (hk : kk ≠ 7) (h : ∀ a', FrZs v0 v2 v3 v4 (.int .i64 kk) a' → (stC 7 (cI (stB Tryz.f77.body))).wp Tryz.prog Q a' W) : (stC 6 (cI (stB Tryz.f77.body))).wp Tryz.prog Q a W := by
  obtain ⟨u, rfl⟩ := H.form
  have EQ : stC 6 (cI (stB Tryz.f77.body)) = Code.seq (cL (stC 6 (cI (stB Tryz.f77.body)))) (Code.cond (.tmp 151) (cTz (stC 6 (cI (stB Tryz.f77.body)))) (stC 7 (cI (stB Tryz.f77.body)))) := by kernel_rfl
  obtain ⟨X, HX⟩ : ∃ X, Hid (cTz (stC 6 (cI (stB Tryz.f77.body))) = X) := ⟨_, rfl⟩
  obtain ⟨Y, HY⟩ : ∃ Y, Hid (stC 7 (cI (stB Tryz.f77.body)) = Y) := ⟨_, rfl⟩
  obtain ⟨c, hc⟩ : ∃ c, c = cL (stC 6 (cI (stB Tryz.f77.body))) := ⟨_, rfl⟩
  rw [HX.out, HY.out, ← hc] at EQ
  rw [HY.out] at h
  rw [EQ]
  clear EQ HX HY
  simp only [cL, cE, cI, cR, stC, stB, Tryz.f77, Option.getD_some] at hc
  subst hc
  have hb : ((kk : Int) == 7) = false := by rw [beq_eq_false_iff_ne]; omega
  have HH := hid h
  clear h hk H
  go_wp2_with fail
  exact HH.out _ ⟨by kernel_rfl, by kernel_rfl, by kernel_rfl, by kernel_rfl, by kernel_rfl, by kernel_rfl, rfl⟩
theorem st_up6 (H : FrZs v0 v2 v3 v4 (.int .i64 kk) a) (hk : kk = 7) (h : ∀ a', FrZs v0 v2 v3 v4 (.int .i64 kk) a' → (cTz (stC 6 (cI (stB Tryz.f77.body)))).wp Tryz.prog Q a' W) : (stC 6 (cI (stB Tryz.f77.body))).wp Tryz.prog Q a W := by
  obtain ⟨u, rfl⟩ := H.form
  have EQ : stC 6 (cI (stB Tryz.f77.body)) = Code.seq (cL (stC 6 (cI (stB Tryz.f77.body)))) (Code.cond (.tmp 151) (cTz (stC 6 (cI (stB Tryz.f77.body)))) (stC 7 (cI (stB Tryz.f77.body)))) := by kernel_rfl
  obtain ⟨X, HX⟩ : ∃ X, Hid (cTz (stC 6 (cI (stB Tryz.f77.body))) = X) := ⟨_, rfl⟩
  obtain ⟨Y, HY⟩ : ∃ Y, Hid (stC 7 (cI (stB Tryz.f77.body)) = Y) := ⟨_, rfl⟩
  obtain ⟨c, hc⟩ : ∃ c, c = cL (stC 6 (cI (stB Tryz.f77.body))) := ⟨_, rfl⟩
  rw [HX.out, HY.out, ← hc] at EQ
  rw [HX.out] at h
  rw [EQ]
  clear EQ HX HY
  simp only [cL, cE, cI, cR, stC, stB, Tryz.f77, Option.getD_some] at hc
  subst hc
  have hb : ((kk : Int) == 7) = true := by rw [hk]; rfl
  have HH := hid h
  clear h hk H
  go_wp2_with fail
  exact HH.out _ ⟨by kernel_rfl, by kernel_rfl, by kernel_rfl, by kernel_rfl, by kernel_rfl, by kernel_rfl, rfl⟩
theorem st_dn7 (H : FrZs v0 v2 v3 v4 (.int .i64 kk) a) (hk : kk ≠ 8) (h : ∀ a', FrZs v0 v2 v3 v4 (.int .i64 kk) a' → (stC 8 (cI (stB Tryz.f77.body))).wp Tryz.prog Q a' W) : (stC 7 (cI (stB Tryz.f77.body))).wp Tryz.prog Q a W := by
  obtain ⟨u, rfl⟩ := H.form
  have EQ : stC 7 (cI (stB Tryz.f77.body)) = Code.seq (cL (stC 7 (cI (stB Tryz.f77.body)))) (Code.cond (.tmp 190) (cTz (stC 7 (cI (stB Tryz.f77.body)))) (stC 8 (cI (stB Tryz.f77.body)))) := by kernel_rfl
  obtain ⟨X, HX⟩ : ∃ X, Hid (cTz (stC 7 (cI (stB Tryz.f77.body))) = X) := ⟨_, rfl⟩
  obtain ⟨Y, HY⟩ : ∃ Y, Hid (stC 8 (cI (stB Tryz.f77.body)) = Y) := ⟨_, rfl⟩
  obtain ⟨c, hc⟩ : ∃ c, c = cL (stC 7 (cI (stB Tryz.f77.body))) := ⟨_, rfl⟩
  rw [HX.out, HY.out, ← hc] at EQ
  rw [HY.out] at h
  rw [EQ]
  clear EQ HX HY
  simp only [cL, cE, cI, cR, stC, stB, Tryz.f77, Option.getD_some] at hc
  subst hc
  have hb : ((kk : Int) == 8) = false := by rw [beq_eq_false_iff_ne]; omega
  have HH := hid h
  clear h hk H
  go_wp2_with fail
  exact HH.out _ ⟨by kernel_rfl, by kernel_rfl, by kernel_rfl, by kernel_rfl, by kernel_rfl, by kernel_rfl, rfl⟩
theorem st_up7 (H : FrZs v0 v2 v3 v4 (.int .i64 kk) a) (hk : kk = 8) (h : ∀ a', FrZs v0 v2 v3 v4 (.int .i64 kk) a' → (cTz (stC 7 (cI (stB Tryz.f77.body)))).wp Tryz.prog Q a' W) : (stC 7 (cI (stB Tryz.f77.body))).wp Tryz.prog Q a W := by
  obtain ⟨u, rfl⟩ := H.form
  have EQ : stC 7 (cI (stB Tryz.f77.body)) = Code.seq (cL (stC 7 (cI (stB Tryz.f77.body)))) (Code.cond (.tmp 190) (cTz (stC 7 (cI (stB Tryz.f77.body)))) (stC 8 (cI (stB Tryz.f77.body)))) := by kernel_rfl
  obtain ⟨X, HX⟩ : ∃ X, Hid (cTz (stC 7 (cI (stB Tryz.f77.body))) = X) := ⟨_, rfl⟩
  obtain ⟨Y, HY⟩ : ∃ Y, Hid (stC 8 (cI (stB Tryz.f77.body)) = Y) := ⟨_, rfl⟩
  obtain ⟨c, hc⟩ : ∃ c, c = cL (stC 7 (cI (stB Tryz.f77.body))) := ⟨_, rfl⟩
  rw [HX.out, HY.out, ← hc] at EQ
  rw [HX.out] at h
  rw [EQ]
  clear EQ HX HY
  simp only [cL, cE, cI, cR, stC, stB, Tryz.f77, Option.getD_some] at hc
  subst hc
  have hb : ((kk : Int) == 8) = true := by rw [hk]; rfl
  have HH := hid h
  clear h hk H
  go_wp2_with fail
  exact HH.out _ ⟨by kernel_rfl, by kernel_rfl, by kernel_rfl, by kernel_rfl, by kernel_rfl, by kernel_rfl, rfl⟩
theorem st_dn8 (H : FrZs v0 v2 v3 v4 (.int .i64 kk) a) (hk : kk ≠ 9) (h : ∀ a', FrZs v0 v2 v3 v4 (.int .i64 kk) a' → (stC 9 (cI (stB Tryz.f77.body))).wp Tryz.prog Q a' W) : (stC 8 (cI (stB Tryz.f77.body))).wp Tryz.prog Q a W := by
  obtain ⟨u, rfl⟩ := H.form
  have EQ : stC 8 (cI (stB Tryz.f77.body)) = Code.seq (cL (stC 8 (cI (stB Tryz.f77.body)))) (Code.cond (.tmp 204) (cTz (stC 8 (cI (stB Tryz.f77.body)))) (stC 9 (cI (stB Tryz.f77.body)))) := by kernel_rfl
  obtain ⟨X, HX⟩ : ∃ X, Hid (cTz (stC 8 (cI (stB Tryz.f77.body))) = X) := ⟨_, rfl⟩
  obtain ⟨Y, HY⟩ : ∃ Y, Hid (stC 9 (cI (stB Tryz.f77.body)) = Y) := ⟨_, rfl⟩
  obtain ⟨c, hc⟩ : ∃ c, c = cL (stC 8 (cI (stB Tryz.f77.body))) := ⟨_, rfl⟩
  rw [HX.out, HY.out, ← hc] at EQ
  rw [HY.out] at h
  rw [EQ]
  clear EQ HX HY
  simp only [cL, cE, cI, cR, stC, stB, Tryz.f77, Option.getD_some] at hc
  subst hc
  have hb : ((kk : Int) == 9) = false := by rw [beq_eq_false_iff_ne]; omega
  have HH := hid h
  clear h hk H
  go_wp2_with fail
  exact HH.out _ ⟨by kernel_rfl, by kernel_rfl, by kernel_rfl, by kernel_rfl, by kernel_rfl, by kernel_rfl, rfl⟩
theorem st_up8 (H : FrZs v0 v2 v3 v4 (.int .i64 kk) a) (hk : kk = 9) (h : ∀ a', FrZs v0 v2 v3 v4 (.int .i64 kk) a' → (cTz (stC 8 (cI (stB Tryz.f77.body)))).wp Tryz.prog Q a' W) : (stC 8 (cI (stB Tryz.f77.body))).wp Tryz.prog Q a W := by
  obtain ⟨u, rfl⟩ := H.form
  have EQ : stC 8 (cI (stB Tryz.f77.body)) = Code.seq (cL (stC 8 (cI (stB Tryz.f77.body)))) (Code.cond (.tmp 204) (cTz (stC 8 (cI (stB Tryz.f77.body)))) (stC 9 (cI (stB Tryz.f77.body)))) := by kernel_rfl
  obtain ⟨X, HX⟩ : ∃ X, Hid (cTz (stC 8 (cI (stB Tryz.f77.body))) = X) := ⟨_, rfl⟩
  obtain ⟨Y, HY⟩ : ∃ Y, Hid (stC 9 (cI (stB Tryz.f77.body)) = Y) := ⟨_, rfl⟩
  obtain ⟨c, hc⟩ : ∃ c, c = cL (stC 8 (cI (stB Tryz.f77.body))) := ⟨_, rfl⟩
  rw [HX.out, HY.out, ← hc] at EQ
  rw [HX.out] at h
  rw [EQ]
  clear EQ HX HY
  simp only [cL, cE, cI, cR, stC, stB, Tryz.f77, Option.getD_some] at hc
  subst hc
  have hb : ((kk : Int) == 9) = true := by rw [hk]; rfl
  have HH := hid h
  clear h hk H
  go_wp2_with fail
  exact HH.out _ ⟨by kernel_rfl, by kernel_rfl, by kernel_rfl, by kernel_rfl, by kernel_rfl, by kernel_rfl, rfl⟩
theorem st_dn9 (H : FrZs v0 v2 v3 v4 (.int .i64 kk) a) (hk : kk ≠ 10) (h : ∀ a', FrZs v0 v2 v3 v4 (.int .i64 kk) a' → (stC 10 (cI (stB Tryz.f77.body))).wp Tryz.prog Q a' W) : (stC 9 (cI (stB Tryz.f77.body))).wp Tryz.prog Q a W := by
  obtain ⟨u, rfl⟩ := H.form
  have EQ : stC 9 (cI (stB Tryz.f77.body)) = Code.seq (cL (stC 9 (cI (stB Tryz.f77.body)))) (Code.cond (.tmp 226) (cTz (stC 9 (cI (stB Tryz.f77.body)))) (stC 10 (cI (stB Tryz.f77.body)))) := by kernel_rfl
  obtain ⟨X, HX⟩ : ∃ X, Hid (cTz (stC 9 (cI (stB Tryz.f77.body))) = X) := ⟨_, rfl⟩
  obtain ⟨Y, HY⟩ : ∃ Y, Hid (stC 10 (cI (stB Tryz.f77.body)) = Y) := ⟨_, rfl⟩
  obtain ⟨c, hc⟩ : ∃ c, c = cL (stC 9 (cI (stB Tryz.f77.body))) := ⟨_, rfl⟩
  rw [HX.out, HY.out, ← hc] at EQ
  rw [HY.out] at h
  rw [EQ]
  clear EQ HX HY
  simp only [cL, cE, cI, cR, stC, stB, Tryz.f77, Option.getD_some] at hc
  subst hc
  have hb : ((kk : Int) == 10) = false := by rw [beq_eq_false_iff_ne]; omega
  have HH := hid h
  clear h hk H
  go_wp2_with fail
  exact HH.out _ ⟨by kernel_rfl, by kernel_rfl, by kernel_rfl, by kernel_rfl, by kernel_rfl, by kernel_rfl, rfl⟩
theorem st_up9 (H : FrZs v0 v2 v3 v4 (.int .i64 kk) a) (hk : kk = 10) (h : ∀ a', FrZs v0 v2 v3 v4 (.int .i64 kk) a' → (cTz (stC 9 (cI (stB Tryz.f77.body)))).wp Tryz.prog Q a' W) : (stC 9 (cI (stB Tryz.f77.body))).wp Tryz.prog Q a W := by
  obtain ⟨u, rfl⟩ := H.form
  have EQ : stC 9 (cI (stB Tryz.f77.body)) = Code.seq (cL (stC 9 (cI (stB Tryz.f77.body)))) (Code.cond (.tmp 226) (cTz (stC 9 (cI (stB Tryz.f77.body)))) (stC 10 (cI (stB Tryz.f77.body)))) := by kernel_rfl
  obtain ⟨X, HX⟩ : ∃ X, Hid (cTz (stC 9 (cI (stB Tryz.f77.body))) = X) := ⟨_, rfl⟩
  obtain ⟨Y, HY⟩ : ∃ Y, Hid (stC 10 (cI (stB Tryz.f77.body)) = Y) := ⟨_, rfl⟩
  obtain ⟨c, hc⟩ : ∃ c, c = cL (stC 9 (cI (stB Tryz.f77.body))) := ⟨_, rfl⟩
  rw [HX.out, HY.out, ← hc] at EQ
  rw [HX.out] at h
  rw [EQ]
  clear EQ HX HY
  simp only [cL, cE, cI, cR, stC, stB, Tryz.f77, Option.getD_some] at hc
  subst hc
  have hb : ((kk : Int) == 10) = true := by rw [hk]; rfl
  have HH := hid h
  clear h hk H
  go_wp2_with fail
  exact HH.out _ ⟨by kernel_rfl, by kernel_rfl, by kernel_rfl, by kernel_rfl, by kernel_rfl, by kernel_rfl, rfl⟩
theorem st_dn10 (H : FrZs v0 v2 v3 v4 (.int .i64 kk) a) (hk : kk ≠ 11) (h : ∀ a', FrZs v0 v2 v3 v4 (.int .i64 kk) a' → (stC 11 (cI (stB Tryz.f77.body))).wp Tryz.prog Q a' W) : (stC 10 (cI (stB Tryz.f77.body))).wp Tryz.prog Q a W := by
  obtain ⟨u, rfl⟩ := H.form
  have EQ : stC 10 (cI (stB Tryz.f77.body)) = Code.seq (cL (stC 10 (cI (stB Tryz.f77.body)))) (Code.cond (.tmp 239) (cTz (stC 10 (cI (stB Tryz.f77.body)))) (stC 11 (cI (stB Tryz.f77.body)))) := by kernel_rfl
  obtain ⟨X, HX⟩ : ∃ X, Hid (cTz (stC 10 (cI (stB Tryz.f77.body))) = X) := ⟨_, rfl⟩
  obtain ⟨Y, HY⟩ : ∃ Y, Hid (stC 11 (cI (stB Tryz.f77.body)) = Y) := ⟨_, rfl⟩
  obtain ⟨c, hc⟩ : ∃ c, c = cL (stC 10 (cI (stB Tryz.f77.body))) := ⟨_, rfl⟩
  rw [HX.out, HY.out, ← hc] at EQ
  rw [HY.out] at h
  rw [EQ]
  clear EQ HX HY
  simp only [cL, cE, cI, cR, stC, stB, Tryz.f77, Option.getD_some] at hc
  subst hc
  have hb : ((kk : Int) == 11) = false := by rw [beq_eq_false_iff_ne]; omega
  have HH := hid h
  clear h hk H
  go_wp2_with fail
  exact HH.out _ ⟨by kernel_rfl, by kernel_rfl, by kernel_rfl, by kernel_rfl, by kernel_rfl, by kernel_rfl, rfl⟩
theorem st_up10 (H : FrZs v0 v2 v3 v4 (.int .i64 kk) a) (hk : kk = 11) (h : ∀ a', FrZs v0 v2 v3 v4 (.int .i64 kk) a' → (cTz (stC 10 (cI (stB Tryz.f77.body)))).wp Tryz.prog Q a' W) : (stC 10 (cI (stB Tryz.f77.body))).wp Tryz.prog Q a W := by
  obtain ⟨u, rfl⟩ := H.form
  have EQ : stC 10 (cI (stB Tryz.f77.body)) = Code.seq (cL (stC 10 (cI (stB Tryz.f77.body)))) (Code.cond (.tmp 239) (cTz (stC 10 (cI (stB Tryz.f77.body)))) (stC 11 (cI (stB Tryz.f77.body)))) := by kernel_rfl
  obtain ⟨X, HX⟩ : ∃ X, Hid (cTz (stC 10 (cI (stB Tryz.f77.body))) = X) := ⟨_, rfl⟩
  obtain ⟨Y, HY⟩ : ∃ Y, Hid (stC 11 (cI (stB Tryz.f77.body)) = Y) := ⟨_, rfl⟩
  obtain ⟨c, hc⟩ : ∃ c, c = cL (stC 10 (cI (stB Tryz.f77.body))) := ⟨_, rfl⟩
  rw [HX.out, HY.out, ← hc] at EQ
  rw [HX.out] at h
  rw [EQ]
  clear EQ HX HY
  simp only [cL, cE, cI, cR, stC, stB, Tryz.f77, Option.getD_some] at hc
  subst hc
  have hb : ((kk : Int) == 11) = true := by rw [hk]; rfl
  have HH := hid h
  clear h hk H
  go_wp2_with fail
  exact HH.out _ ⟨by kernel_rfl, by kernel_rfl, by kernel_rfl, by kernel_rfl, by kernel_rfl, by kernel_rfl, rfl⟩
theorem st_dn11 (H : FrZs v0 v2 v3 v4 (.int .i64 kk) a) (hk : kk ≠ 12) (h : ∀ a', FrZs v0 v2 v3 v4 (.int .i64 kk) a' → (stC 12 (cI (stB Tryz.f77.body))).wp Tryz.prog Q a' W) : (stC 11 (cI (stB Tryz.f77.body))).wp Tryz.prog Q a W := by
  obtain ⟨u, rfl⟩ := H.form
  have EQ : stC 11 (cI (stB Tryz.f77.body)) = Code.seq (cL (stC 11 (cI (stB Tryz.f77.body)))) (Code.cond (.tmp 257) (cTz (stC 11 (cI (stB Tryz.f77.body)))) (stC 12 (cI (stB Tryz.f77.body)))) := by kernel_rfl
  obtain ⟨X, HX⟩ : ∃ X, Hid (cTz (stC 11 (cI (stB Tryz.f77.body))) = X) := ⟨_, rfl⟩
  obtain ⟨Y, HY⟩ : ∃ Y, Hid (stC 12 (cI (stB Tryz.f77.body)) = Y) := ⟨_, rfl⟩
  obtain ⟨c, hc⟩ : ∃ c, c = cL (stC 11 (cI (stB Tryz.f77.body))) := ⟨_, rfl⟩
  rw [HX.out, HY.out, ← hc] at EQ
  rw [HY.out] at h
  rw [EQ]
  clear EQ HX HY
  simp only [cL, cE, cI, cR, stC, stB, Tryz.f77, Option.getD_some] at hc
  subst hc
  have hb : ((kk : Int) == 12) = false := by rw [beq_eq_false_iff_ne]; omega
  have HH := hid h
  clear h hk H
  go_wp2_with fail
  exact HH.out _ ⟨by kernel_rfl, by kernel_rfl, by kernel_rfl, by kernel_rfl, by kernel_rfl, by kernel_rfl, rfl⟩
theorem st_up11 (H : FrZs v0 v2 v3 v4 (.int .i64 kk) a) (hk : kk = 12) (h : ∀ a', FrZs v0 v2 v3 v4 (.int .i64 kk) a' → (cTz (stC 11 (cI (stB Tryz.f77.body)))).wp Tryz.prog Q a' W) : (stC 11 (cI (stB Tryz.f77.body))).wp Tryz.prog Q a W := by
  obtain ⟨u, rfl⟩ := H.form
  have EQ : stC 11 (cI (stB Tryz.f77.body)) = Code.seq (cL (stC 11 (cI (stB Tryz.f77.body)))) (Code.cond (.tmp 257) (cTz (stC 11 (cI (stB Tryz.f77.body)))) (stC 12 (cI (stB Tryz.f77.body)))) := by kernel_rfl
  obtain ⟨X, HX⟩ : ∃ X, Hid (cTz (stC 11 (cI (stB Tryz.f77.body))) = X) := ⟨_, rfl⟩
  obtain ⟨Y, HY⟩ : ∃ Y, Hid (stC 12 (cI (stB Tryz.f77.body)) = Y) := ⟨_, rfl⟩
  obtain ⟨c, hc⟩ : ∃ c, c = cL (stC 11 (cI (stB Tryz.f77.body))) := ⟨_, rfl⟩
  rw [HX.out, HY.out, ← hc] at EQ
  rw [HX.out] at h
  rw [EQ]
  clear EQ HX HY
  simp only [cL, cE, cI, cR, stC, stB, Tryz.f77, Option.getD_some] at hc
  subst hc
  have hb : ((kk : Int) == 12) = true := by rw [hk]; rfl
  have HH := hid h
  clear h hk H
  go_wp2_with fail
  exact HH.out _ ⟨by kernel_rfl, by kernel_rfl, by kernel_rfl, by kernel_rfl, by kernel_rfl, by kernel_rfl, rfl⟩
theorem st_dn12 (H : FrZs v0 v2 v3 v4 (.int .i64 kk) a) (hk : kk ≠ 13) (h : ∀ a', FrZs v0 v2 v3 v4 (.int .i64 kk) a' → (stC 13 (cI (stB Tryz.f77.body))).wp Tryz.prog Q a' W) : (stC 12 (cI (stB Tryz.f77.body))).wp Tryz.prog Q a W := by
  obtain ⟨u, rfl⟩ := H.form
  have EQ : stC 12 (cI (stB Tryz.f77.body)) = Code.seq (cL (stC 12 (cI (stB Tryz.f77.body)))) (Code.cond (.tmp 271) (cTz (stC 12 (cI (stB Tryz.f77.body)))) (stC 13 (cI (stB Tryz.f77.body)))) := by kernel_rfl
  obtain ⟨X, HX⟩ : ∃ X, Hid (cTz (stC 12 (cI (stB Tryz.f77.body))) = X) := ⟨_, rfl⟩
  obtain ⟨Y, HY⟩ : ∃ Y, Hid (stC 13 (cI (stB Tryz.f77.body)) = Y) := ⟨_, rfl⟩
  obtain ⟨c, hc⟩ : ∃ c, c = cL (stC 12 (cI (stB Tryz.f77.body))) := ⟨_, rfl⟩
  rw [HX.out, HY.out, ← hc] at EQ
  rw [HY.out] at h
  rw [EQ]
  clear EQ HX HY
  simp only [cL, cE, cI, cR, stC, stB, Tryz.f77, Option.getD_some] at hc
  subst hc
  have hb : ((kk : Int) == 13) = false := by rw [beq_eq_false_iff_ne]; omega
  have HH := hid h
  clear h hk H
  go_wp2_with fail
  exact HH.out _ ⟨by kernel_rfl, by kernel_rfl, by kernel_rfl, by kernel_rfl, by kernel_rfl, by kernel_rfl, rfl⟩
theorem st_up12 (H : FrZs v0 v2 v3 v4 (.int .i64 kk) a) (hk : kk = 13) (h : ∀ a', FrZs v0 v2 v3 v4 (.int .i64 kk) a' → (cTz (stC 12 (cI (stB Tryz.f77.body)))).wp Tryz.prog Q a' W) : (stC 12 (cI (stB Tryz.f77.body))).wp Tryz.prog Q a W := by
  obtain ⟨u, rfl⟩ := H.form
  have EQ : stC 12 (cI (stB Tryz.f77.body)) = Code.seq (cL (stC 12 (cI (stB Tryz.f77.body)))) (Code.cond (.tmp 271) (cTz (stC 12 (cI (stB Tryz.f77.body)))) (stC 13 (cI (stB Tryz.f77.body)))) := by kernel_rfl
  obtain ⟨X, HX⟩ : ∃ X, Hid (cTz (stC 12 (cI (stB Tryz.f77.body))) = X) := ⟨_, rfl⟩
  obtain ⟨Y, HY⟩ : ∃ Y, Hid (stC 13 (cI (stB Tryz.f77.body)) = Y) := ⟨_, rfl⟩
  obtain ⟨c, hc⟩ : ∃ c, c = cL (stC 12 (cI (stB Tryz.f77.body))) := ⟨_, rfl⟩
  rw [HX.out, HY.out, ← hc] at EQ
  rw [HX.out] at h
  rw [EQ]
  clear EQ HX HY
  simp only [cL, cE, cI, cR, stC, stB, Tryz.f77, Option.getD_some] at hc
  subst hc
  have hb : ((kk : Int) == 13) = true := by rw [hk]; rfl
  have HH := hid h
  clear h hk H
  go_wp2_with fail
  exact HH.out _ ⟨by kernel_rfl, by kernel_rfl, by kernel_rfl, by kernel_rfl, by kernel_rfl, by kernel_rfl, rfl⟩
theorem st_dn13 (H : FrZs v0 v2 v3 v4 (.int .i64 kk) a) (hk : kk ≠ 14) (h : ∀ a', FrZs v0 v2 v3 v4 (.int .i64 kk) a' → (stC 14 (cI (stB Tryz.f77.body))).wp Tryz.prog Q a' W) : (stC 13 (cI (stB Tryz.f77.body))).wp Tryz.prog Q a W := by
  obtain ⟨u, rfl⟩ := H.form
  have EQ : stC 13 (cI (stB Tryz.f77.body)) = Code.seq (cL (stC 13 (cI (stB Tryz.f77.body)))) (Code.cond (.tmp 289) (cTz (stC 13 (cI (stB Tryz.f77.body)))) (stC 14 (cI (stB Tryz.f77.body)))) := by kernel_rfl
  obtain ⟨X, HX⟩ : ∃ X, Hid (cTz (stC 13 (cI (stB Tryz.f77.body))) = X) := ⟨_, rfl⟩
  obtain ⟨Y, HY⟩ : ∃ Y, Hid (stC 14 (cI (stB Tryz.f77.body)) = Y) := ⟨_, rfl⟩
  obtain ⟨c, hc⟩ : ∃ c, c = cL (stC 13 (cI (stB Tryz.f77.body))) := ⟨_, rfl⟩
  rw [HX.out, HY.out, ← hc] at EQ
  rw [HY.out] at h
  rw [EQ]
  clear EQ HX HY
  simp only [cL, cE, cI, cR, stC, stB, Tryz.f77, Option.getD_some] at hc
  subst hc
  have hb : ((kk : Int) == 14) = false := by rw [beq_eq_false_iff_ne]; omega
  have HH := hid h
  clear h hk H
  go_wp2_with fail
  exact HH.out _ ⟨by kernel_rfl, by kernel_rfl, by kernel_rfl, by kernel_rfl, by kernel_rfl, by kernel_rfl, rfl⟩
theorem st_up13 (H : FrZs v0 v2 v3 v4 (.int .i64 kk) a) (hk : kk = 14) (h : ∀ a', FrZs v0 v2 v3 v4 (.int .i64 kk) a' → (cTz (stC 13 (cI (stB Tryz.f77.body)))).wp Tryz.prog Q a' W) : (stC 13 (cI (stB Tryz.f77.body))).wp Tryz.prog Q a W := by
  obtain ⟨u, rfl⟩ := H.form
  have EQ : stC 13 (cI (stB Tryz.f77.body)) = Code.seq (cL (stC 13 (cI (stB Tryz.f77.body)))) (Code.cond (.tmp 289) (cTz (stC 13 (cI (stB Tryz.f77.body)))) (stC 14 (cI (stB Tryz.f77.body)))) := by kernel_rfl
  obtain ⟨X, HX⟩ : ∃ X, Hid (cTz (stC 13 (cI (stB Tryz.f77.body))) = X) := ⟨_, rfl⟩
  obtain ⟨Y, HY⟩ : ∃ Y, Hid (stC 14 (cI (stB Tryz.f77.body)) = Y) := ⟨_, rfl⟩
  obtain ⟨c, hc⟩ : ∃ c, c = cL (stC 13 (cI (stB Tryz.f77.body))) := ⟨_, rfl⟩
  rw [HX.out, HY.out, ← hc] at EQ
  rw [HX.out] at h
  rw [EQ]
  clear EQ HX HY
  simp only [cL, cE, cI, cR, stC, stB, Tryz.f77, Option.getD_some] at hc
  subst hc
  have hb : ((kk : Int) == 14) = true := by rw [hk]; rfl
  have HH := hid h
  clear h hk H
  go_wp2_with fail
  exact HH.out _ ⟨by kernel_rfl, by kernel_rfl, by kernel_rfl, by kernel_rfl, by kernel_rfl, by kernel_rfl, rfl⟩
theorem st_dn14 (H : FrZs v0 v2 v3 v4 (.int .i64 kk) a) (hk : kk ≠ 15) (h : ∀ a', FrZs v0 v2 v3 v4 (.int .i64 kk) a' → (stC 15 (cI (stB Tryz.f77.body))).wp Tryz.prog Q a' W) : (stC 14 (cI (stB Tryz.f77.body))).wp Tryz.prog Q a W := by
  obtain ⟨u, rfl⟩ := H.form
  have EQ : stC 14 (cI (stB Tryz.f77.body)) = Code.seq (cL (stC 14 (cI (stB Tryz.f77.body)))) (Code.cond (.tmp 299) (cTz (stC 14 (cI (stB Tryz.f77.body)))) (stC 15 (cI (stB Tryz.f77.body)))) := by kernel_rfl
  obtain ⟨X, HX⟩ : ∃ X, Hid (cTz (stC 14 (cI (stB Tryz.f77.body))) = X) := ⟨_, rfl⟩
  obtain ⟨Y, HY⟩ : ∃ Y, Hid (stC 15 (cI (stB Tryz.f77.body)) = Y) := ⟨_, rfl⟩
  obtain ⟨c, hc⟩ : ∃ c, c = cL (stC 14 (cI (stB Tryz.f77.body))) := ⟨_, rfl⟩
  rw [HX.out, HY.out, ← hc] at EQ
  rw [HY.out] at h
  rw [EQ]
  clear EQ HX HY
  simp only [cL, cE, cI, cR, stC, stB, Tryz.f77, Option.getD_some] at hc
  subst hc
  have hb : ((kk : Int) == 15) = false := by rw [beq_eq_false_iff_ne]; omega
  have HH := hid h
  clear h hk H
  go_wp2_with fail
  exact HH.out _ ⟨by kernel_rfl, by kernel_rfl, by kernel_rfl, by kernel_rfl, by kernel_rfl, by kernel_rfl, rfl⟩
theorem st_up14 (H : FrZs v0 v2 v3 v4 (.int .i64 kk) a) (hk : kk = 15) (h : ∀ a', FrZs v0 v2 v3 v4 (.int .i64 kk) a' → (cTz (stC 14 (cI (stB Tryz.f77.body)))).wp Tryz.prog Q a' W) : (stC 14 (cI (stB Tryz.f77.body))).wp Tryz.prog Q a W := by
  obtain ⟨u, rfl⟩ := H.form
  have EQ : stC 14 (cI (stB Tryz.f77.body)) = Code.seq (cL (stC 14 (cI (stB Tryz.f77.body)))) (Code.cond (.tmp 299) (cTz (stC 14 (cI (stB Tryz.f77.body)))) (stC 15 (cI (stB Tryz.f77.body)))) := by kernel_rfl
  obtain ⟨X, HX⟩ : ∃ X, Hid (cTz (stC 14 (cI (stB Tryz.f77.body))) = X) := ⟨_, rfl⟩
  obtain ⟨Y, HY⟩ : ∃ Y, Hid (stC 15 (cI (stB Tryz.f77.body)) = Y) := ⟨_, rfl⟩
  obtain ⟨c, hc⟩ : ∃ c, c = cL (stC 14 (cI (stB Tryz.f77.body))) := ⟨_, rfl⟩
  rw [HX.out, HY.out, ← hc] at EQ
  rw [HX.out] at h
  rw [EQ]
  clear EQ HX HY
  simp only [cL, cE, cI, cR, stC, stB, Tryz.f77, Option.getD_some] at hc
  subst hc
  have hb : ((kk : Int) == 15) = true := by rw [hk]; rfl
  have HH := hid h
  clear h hk H
  go_wp2_with fail
  exact HH.out _ ⟨by kernel_rfl, by kernel_rfl, by kernel_rfl, by kernel_rfl, by kernel_rfl, by kernel_rfl, rfl⟩
theorem st_dn15 (H : FrZs v0 v2 v3 v4 (.int .i64 kk) a) (hk : kk ≠ 16) (h : ∀ a', FrZs v0 v2 v3 v4 (.int .i64 kk) a' → (stC 16 (cI (stB Tryz.f77.body))).wp Tryz.prog Q a' W) : (stC 15 (cI (stB Tryz.f77.body))).wp Tryz.prog Q a W := by
  obtain ⟨u, rfl⟩ := H.form
  have EQ : stC 15 (cI (stB Tryz.f77.body)) = Code.seq (cL (stC 15 (cI (stB Tryz.f77.body)))) (Code.cond (.tmp 384) (cTz (stC 15 (cI (stB Tryz.f77.body)))) (stC 16 (cI (stB Tryz.f77.body)))) := by kernel_rfl
  obtain ⟨X, HX⟩ : ∃ X, Hid (cTz (stC 15 (cI (stB Tryz.f77.body))) = X) := ⟨_, rfl⟩
  obtain ⟨Y, HY⟩ : ∃ Y, Hid (stC 16 (cI (stB Tryz.f77.body)) = Y) := ⟨_, rfl⟩
  obtain ⟨c, hc⟩ : ∃ c, c = cL (stC 15 (cI (stB Tryz.f77.body))) := ⟨_, rfl⟩
  rw [HX.out, HY.out, ← hc] at EQ
  rw [HY.out] at h
  rw [EQ]
  clear EQ HX HY
  simp only [cL, cE, cI, cR, stC, stB, Tryz.f77, Option.getD_some] at hc
  subst hc
  have hb : ((kk : Int) == 16) = false := by rw [beq_eq_false_iff_ne]; omega
  have HH := hid h
  clear h hk H
  go_wp2_with fail
  exact HH.out _ ⟨by kernel_rfl, by kernel_rfl, by kernel_rfl, by kernel_rfl, by kernel_rfl, by kernel_rfl, rfl⟩
theorem st_up15 (H : FrZs v0 v2 v3 v4 (.int .i64 kk) a) (hk : kk = 16) (h : ∀ a', FrZs v0 v2 v3 v4 (.int .i64 kk) a' → (cTz (stC 15 (cI (stB Tryz.f77.body)))).wp Tryz.prog Q a' W) : (stC 15 (cI (stB Tryz.f77.body))).wp Tryz.prog Q a W := by
  obtain ⟨u, rfl⟩ := H.form
  have EQ : stC 15 (cI (stB Tryz.f77.body)) = Code.seq (cL (stC 15 (cI (stB Tryz.f77.body)))) (Code.cond (.tmp 384) (cTz (stC 15 (cI (stB Tryz.f77.body)))) (stC 16 (cI (stB Tryz.f77.body)))) := by kernel_rfl
  obtain ⟨X, HX⟩ : ∃ X, Hid (cTz (stC 15 (cI (stB Tryz.f77.body))) = X) := ⟨_, rfl⟩
  obtain ⟨Y, HY⟩ : ∃ Y, Hid (stC 16 (cI (stB Tryz.f77.body)) = Y) := ⟨_, rfl⟩
  obtain ⟨c, hc⟩ : ∃ c, c = cL (stC 15 (cI (stB Tryz.f77.body))) := ⟨_, rfl⟩
  rw [HX.out, HY.out, ← hc] at EQ
  rw [HX.out] at h
  rw [EQ]
  clear EQ HX HY
  simp only [cL, cE, cI, cR, stC, stB, Tryz.f77, Option.getD_some] at hc
  subst hc
  have hb : ((kk : Int) == 16) = true := by rw [hk]; rfl
  have HH := hid h
  clear h hk H
  go_wp2_with fail
  exact HH.out _ ⟨by kernel_rfl, by kernel_rfl, by kernel_rfl, by kernel_rfl, by kernel_rfl, by kernel_rfl, rfl⟩
theorem st_dn16 (H : FrZs v0 v2 v3 v4 (.int .i64 kk) a) (hk : kk ≠ 17) (h : ∀ a', FrZs v0 v2 v3 v4 (.int .i64 kk) a' → (stC 17 (cI (stB Tryz.f77.body))).wp Tryz.prog Q a' W) : (stC 16 (cI (stB Tryz.f77.body))).wp Tryz.prog Q a W := by
  obtain ⟨u, rfl⟩ := H.form
  have EQ : stC 16 (cI (stB Tryz.f77.body)) = Code.seq (cL (stC 16 (cI (stB Tryz.f77.body)))) (Code.cond (.tmp 488) (cTz (stC 16 (cI (stB Tryz.f77.body)))) (stC 17 (cI (stB Tryz.f77.body)))) := by kernel_rfl
  obtain ⟨X, HX⟩ : ∃ X, Hid (cTz (stC 16 (cI (stB Tryz.f77.body))) = X) := ⟨_, rfl⟩
  obtain ⟨Y, HY⟩ : ∃ Y, Hid (stC 17 (cI (stB Tryz.f77.body)) = Y) := ⟨_, rfl⟩
  obtain ⟨c, hc⟩ : ∃ c, c = cL (stC 16 (cI (stB Tryz.f77.body))) := ⟨_, rfl⟩
  rw [HX.out, HY.out, ← hc] at EQ
  rw [HY.out] at h
  rw [EQ]
  clear EQ HX HY
  simp only [cL, cE, cI, cR, stC, stB, Tryz.f77, Option.getD_some] at hc
  subst hc
  have hb : ((kk : Int) == 17) = false := by rw [beq_eq_false_iff_ne]; omega
  have HH := hid h
  clear h hk H
  go_wp2_with fail
  exact HH.out _ ⟨by kernel_rfl, by kernel_rfl, by kernel_rfl, by kernel_rfl, by kernel_rfl, by kernel_rfl, rfl⟩
theorem st_up16 (H : FrZs v0 v2 v3 v4 (.int .i64 kk) a) (hk : kk = 17) (h : ∀ a', FrZs v0 v2 v3 v4 (.int .i64 kk) a' → (cTz (stC 16 (cI (stB Tryz.f77.body)))).wp Tryz.prog Q a' W) : (stC 16 (cI (stB Tryz.f77.body))).wp Tryz.prog Q a W := by
  obtain ⟨u, rfl⟩ := H.form
  have EQ : stC 16 (cI (stB Tryz.f77.body)) = Code.seq (cL (stC 16 (cI (stB Tryz.f77.body)))) (Code.cond (.tmp 488) (cTz (stC 16 (cI (stB Tryz.f77.body)))) (stC 17 (cI (stB Tryz.f77.body)))) := by kernel_rfl
  obtain ⟨X, HX⟩ : ∃ X, Hid (cTz (stC 16 (cI (stB Tryz.f77.body))) = X) := ⟨_, rfl⟩
  obtain ⟨Y, HY⟩ : ∃ Y, Hid (stC 17 (cI (stB Tryz.f77.body)) = Y) := ⟨_, rfl⟩
  obtain ⟨c, hc⟩ : ∃ c, c = cL (stC 16 (cI (stB Tryz.f77.body))) := ⟨_, rfl⟩
  rw [HX.out, HY.out, ← hc] at EQ
  rw [HX.out] at h
  rw [EQ]
  clear EQ HX HY
  simp only [cL, cE, cI, cR, stC, stB, Tryz.f77, Option.getD_some] at hc
  subst hc
  have hb : ((kk : Int) == 17) = true := by rw [hk]; rfl
  have HH := hid h
  clear h hk H
  go_wp2_with fail
  exact HH.out _ ⟨by kernel_rfl, by kernel_rfl, by kernel_rfl, by kernel_rfl, by kernel_rfl, by kernel_rfl, rfl⟩
theorem st_dn17 (H : FrZs v0 v2 v3 v4 (.int .i64 kk) a) (hk : kk ≠ 18) (h : ∀ a', FrZs v0 v2 v3 v4 (.int .i64 kk) a' → (stC 18 (cI (stB Tryz.f77.body))).wp Tryz.prog Q a' W) : (stC 17 (cI (stB Tryz.f77.body))).wp Tryz.prog Q a W := by
  obtain ⟨u, rfl⟩ := H.form
  have EQ : stC 17 (cI (stB Tryz.f77.body)) = Code.seq (cL (stC 17 (cI (stB Tryz.f77.body)))) (Code.cond (.tmp 534) (cTz (stC 17 (cI (stB Tryz.f77.body)))) (stC 18 (cI (stB Tryz.f77.body)))) := by kernel_rfl
  obtain ⟨X, HX⟩ : ∃ X, Hid (cTz (stC 17 (cI (stB Tryz.f77.body))) = X) := ⟨_, rfl⟩
  obtain ⟨Y, HY⟩ : ∃ Y, Hid (stC 18 (cI (stB Tryz.f77.body)) = Y) := ⟨_, rfl⟩
  obtain ⟨c, hc⟩ : ∃ c, c = cL (stC 17 (cI (stB Tryz.f77.body))) := ⟨_, rfl⟩
  rw [HX.out, HY.out, ← hc] at EQ
  rw [HY.out] at h
  rw [EQ]
  clear EQ HX HY
  simp only [cL, cE, cI, cR, stC, stB, Tryz.f77, Option.getD_some] at hc
  subst hc
  have hb : ((kk : Int) == 18) = false := by rw [beq_eq_false_iff_ne]; omega
  have HH := hid h
  clear h hk H
  go_wp2_with fail
  exact HH.out _ ⟨by kernel_rfl, by kernel_rfl, by kernel_rfl, by kernel_rfl, by kernel_rfl, by kernel_rfl, rfl⟩
theorem st_up17 (H : FrZs v0 v2 v3 v4 (.int .i64 kk) a) (hk : kk = 18) (h : ∀ a', FrZs v0 v2 v3 v4 (.int .i64 kk) a' → (cTz (stC 17 (cI (stB Tryz.f77.body)))).wp Tryz.prog Q a' W) : (stC 17 (cI (stB Tryz.f77.body))).wp Tryz.prog Q a W := by
  obtain ⟨u, rfl⟩ := H.form
  have EQ : stC 17 (cI (stB Tryz.f77.body)) = Code.seq (cL (stC 17 (cI (stB Tryz.f77.body)))) (Code.cond (.tmp 534) (cTz (stC 17 (cI (stB Tryz.f77.body)))) (stC 18 (cI (stB Tryz.f77.body)))) := by kernel_rfl
  obtain ⟨X, HX⟩ : ∃ X, Hid (cTz (stC 17 (cI (stB Tryz.f77.body))) = X) := ⟨_, rfl⟩
  obtain ⟨Y, HY⟩ : ∃ Y, Hid (stC 18 (cI (stB Tryz.f77.body)) = Y) := ⟨_, rfl⟩
  obtain ⟨c, hc⟩ : ∃ c, c = cL (stC 17 (cI (stB Tryz.f77.body))) := ⟨_, rfl⟩
  rw [HX.out, HY.out, ← hc] at EQ
  rw [HX.out] at h
  rw [EQ]
  clear EQ HX HY
  simp only [cL, cE, cI, cR, stC, stB, Tryz.f77, Option.getD_some] at hc
  subst hc
  have hb : ((kk : Int) == 18) = true := by rw [hk]; rfl
  have HH := hid h
  clear h hk H
  go_wp2_with fail
  exact HH.out _ ⟨by kernel_rfl, by kernel_rfl, by kernel_rfl, by kernel_rfl, by kernel_rfl, by kernel_rfl, rfl⟩
theorem st_dn18 (H : FrZs v0 v2 v3 v4 (.int .i64 kk) a) (hk : kk ≠ 19) (h : ∀ a', FrZs v0 v2 v3 v4 (.int .i64 kk) a' → (stC 19 (cI (stB Tryz.f77.body))).wp Tryz.prog Q a' W) : (stC 18 (cI (stB Tryz.f77.body))).wp Tryz.prog Q a W := by
  obtain ⟨u, rfl⟩ := H.form
  have EQ : stC 18 (cI (stB Tryz.f77.body)) = Code.seq (cL (stC 18 (cI (stB Tryz.f77.body)))) (Code.cond (.tmp 562) (cTz (stC 18 (cI (stB Tryz.f77.body)))) (stC 19 (cI (stB Tryz.f77.body)))) := by kernel_rfl
  obtain ⟨X, HX⟩ : ∃ X, Hid (cTz (stC 18 (cI (stB Tryz.f77.body))) = X) := ⟨_, rfl⟩
  obtain ⟨Y, HY⟩ : ∃ Y, Hid (stC 19 (cI (stB Tryz.f77.body)) = Y) := ⟨_, rfl⟩
  obtain ⟨c, hc⟩ : ∃ c, c = cL (stC 18 (cI (stB Tryz.f77.body))) := ⟨_, rfl⟩
  rw [HX.out, HY.out, ← hc] at EQ
  rw [HY.out] at h
  rw [EQ]
  clear EQ HX HY
  simp only [cL, cE, cI, cR, stC, stB, Tryz.f77, Option.getD_some] at hc
  subst hc
  have hb : ((kk : Int) == 19) = false := by rw [beq_eq_false_iff_ne]; omega
  have HH := hid h
  clear h hk H
  go_wp2_with fail
  exact HH.out _ ⟨by kernel_rfl, by kernel_rfl, by kernel_rfl, by kernel_rfl, by kernel_rfl, by kernel_rfl, rfl⟩
theorem st_up18 (H : FrZs v0 v2 v3 v4 (.int .i64 kk) a) (hk : kk = 19) (h : ∀ a', FrZs v0 v2 v3 v4 (.int .i64 kk) a' → (cTz (stC 18 (cI (stB Tryz.f77.body)))).wp Tryz.prog Q a' W) : (stC 18 (cI (stB Tryz.f77.body))).wp Tryz.prog Q a W := by
  obtain ⟨u, rfl⟩ := H.form
  have EQ : stC 18 (cI (stB Tryz.f77.body)) = Code.seq (cL (stC 18 (cI (stB Tryz.f77.body)))) (Code.cond (.tmp 562) (cTz (stC 18 (cI (stB Tryz.f77.body)))) (stC 19 (cI (stB Tryz.f77.body)))) := by kernel_rfl
  obtain ⟨X, HX⟩ : ∃ X, Hid (cTz (stC 18 (cI (stB Tryz.f77.body))) = X) := ⟨_, rfl⟩
  obtain ⟨Y, HY⟩ : ∃ Y, Hid (stC 19 (cI (stB Tryz.f77.body)) = Y) := ⟨_, rfl⟩
  obtain ⟨c, hc⟩ : ∃ c, c = cL (stC 18 (cI (stB Tryz.f77.body))) := ⟨_, rfl⟩
  rw [HX.out, HY.out, ← hc] at EQ
  rw [HX.out] at h
  rw [EQ]
  clear EQ HX HY
  simp only [cL, cE, cI, cR, stC, stB, Tryz.f77, Option.getD_some] at hc
  subst hc
  have hb : ((kk : Int) == 19) = true := by rw [hk]; rfl
  have HH := hid h
  clear h hk H
  go_wp2_with fail
  exact HH.out _ ⟨by kernel_rfl, by kernel_rfl, by kernel_rfl, by kernel_rfl, by kernel_rfl, by kernel_rfl, rfl⟩
theorem st_dn19 (H : FrZs v0 v2 v3 v4 (.int .i64 kk) a) (hk : kk ≠ 20) (h : ∀ a', FrZs v0 v2 v3 v4 (.int .i64 kk) a' → (stC 20 (cI (stB Tryz.f77.body))).wp Tryz.prog Q a' W) : (stC 19 (cI (stB Tryz.f77.body))).wp Tryz.prog Q a W := by
  obtain ⟨u, rfl⟩ := H.form
  have EQ : stC 19 (cI (stB Tryz.f77.body)) = Code.seq (cL (stC 19 (cI (stB Tryz.f77.body)))) (Code.cond (.tmp 656) (cTz (stC 19 (cI (stB Tryz.f77.body)))) (stC 20 (cI (stB Tryz.f77.body)))) := by kernel_rfl
  obtain ⟨X, HX⟩ : ∃ X, Hid (cTz (stC 19 (cI (stB Tryz.f77.body))) = X) := ⟨_, rfl⟩
  obtain ⟨Y, HY⟩ : ∃ Y, Hid (stC 20 (cI (stB Tryz.f77.body)) = Y) := ⟨_, rfl⟩
  obtain ⟨c, hc⟩ : ∃ c, c = cL (stC 19 (cI (stB Tryz.f77.body))) := ⟨_, rfl⟩
  rw [HX.out, HY.out, ← hc] at EQ
  rw [HY.out] at h
  rw [EQ]
  clear EQ HX HY
  simp only [cL, cE, cI, cR, stC, stB, Tryz.f77, Option.getD_some] at hc
  subst hc
  have hb : ((kk : Int) == 20) = false := by rw [beq_eq_false_iff_ne]; omega
  have HH := hid h
  clear h hk H
  go_wp2_with fail
  exact HH.out _ ⟨by kernel_rfl, by kernel_rfl, by kernel_rfl, by kernel_rfl, by kernel_rfl, by kernel_rfl, rfl⟩
theorem st_up19 (H : FrZs v0 v2 v3 v4 (.int .i64 kk) a) (hk : kk = 20) (h : ∀ a', FrZs v0 v2 v3 v4 (.int .i64 kk) a' → (cTz (stC 19 (cI (stB Tryz.f77.body)))).wp Tryz.prog Q a' W) : (stC 19 (cI (stB Tryz.f77.body))).wp Tryz.prog Q a W := by
  obtain ⟨u, rfl⟩ := H.form
  have EQ : stC 19 (cI (stB Tryz.f77.body)) = Code.seq (cL (stC 19 (cI (stB Tryz.f77.body)))) (Code.cond (.tmp 656) (cTz (stC 19 (cI (stB Tryz.f77.body)))) (stC 20 (cI (stB Tryz.f77.body)))) := by kernel_rfl
  obtain ⟨X, HX⟩ : ∃ X, Hid (cTz (stC 19 (cI (stB Tryz.f77.body))) = X) := ⟨_, rfl⟩
  obtain ⟨Y, HY⟩ : ∃ Y, Hid (stC 20 (cI (stB Tryz.f77.body)) = Y) := ⟨_, rfl⟩
  obtain ⟨c, hc⟩ : ∃ c, c = cL (stC 19 (cI (stB Tryz.f77.body))) := ⟨_, rfl⟩
  rw [HX.out, HY.out, ← hc] at EQ
  rw [HX.out] at h
  rw [EQ]
  clear EQ HX HY
  simp only [cL, cE, cI, cR, stC, stB, Tryz.f77, Option.getD_some] at hc
  subst hc
  have hb : ((kk : Int) == 20) = true := by rw [hk]; rfl
  have HH := hid h
  clear h hk H
  go_wp2_with fail
  exact HH.out _ ⟨by kernel_rfl, by kernel_rfl, by kernel_rfl, by kernel_rfl, by kernel_rfl, by kernel_rfl, rfl⟩
theorem st_dn20 (H : FrZs v0 v2 v3 v4 (.int .i64 kk) a) (hk : kk ≠ 21) (h : ∀ a', FrZs v0 v2 v3 v4 (.int .i64 kk) a' → (stC 21 (cI (stB Tryz.f77.body))).wp Tryz.prog Q a' W) : (stC 20 (cI (stB Tryz.f77.body))).wp Tryz.prog Q a W := by
  obtain ⟨u, rfl⟩ := H.form
  have EQ : stC 20 (cI (stB Tryz.f77.body)) = Code.seq (cL (stC 20 (cI (stB Tryz.f77.body)))) (Code.cond (.tmp 666) (cTz (stC 20 (cI (stB Tryz.f77.body)))) (stC 21 (cI (stB Tryz.f77.body)))) := by kernel_rfl
  obtain ⟨X, HX⟩ : ∃ X, Hid (cTz (stC 20 (cI (stB Tryz.f77.body))) = X) := ⟨_, rfl⟩
  obtain ⟨Y, HY⟩ : ∃ Y, Hid (stC 21 (cI (stB Tryz.f77.body)) = Y) := ⟨_, rfl⟩
  obtain ⟨c, hc⟩ : ∃ c, c = cL (stC 20 (cI (stB Tryz.f77.body))) := ⟨_, rfl⟩
  rw [HX.out, HY.out, ← hc] at EQ
  rw [HY.out] at h
  rw [EQ]
  clear EQ HX HY
  simp only [cL, cE, cI, cR, stC, stB, Tryz.f77, Option.getD_some] at hc
  subst hc
  have hb : ((kk : Int) == 21) = false := by rw [beq_eq_false_iff_ne]; omega
  have HH := hid h
  clear h hk H
  go_wp2_with fail
  exact HH.out _ ⟨by kernel_rfl, by kernel_rfl, by kernel_rfl, by kernel_rfl, by kernel_rfl, by kernel_rfl, rfl⟩
theorem st_up20 (H : FrZs v0 v2 v3 v4 (.int .i64 kk) a) (hk : kk = 21) (h : ∀ a', FrZs v0 v2 v3 v4 (.int .i64 kk) a' → (cTz (stC 20 (cI (stB Tryz.f77.body)))).wp Tryz.prog Q a' W) : (stC 20 (cI (stB Tryz.f77.body))).wp Tryz.prog Q a W := by
  obtain ⟨u, rfl⟩ := H.form
  have EQ : stC 20 (cI (stB Tryz.f77.body)) = Code.seq (cL (stC 20 (cI (stB Tryz.f77.body)))) (Code.cond (.tmp 666) (cTz (stC 20 (cI (stB Tryz.f77.body)))) (stC 21 (cI (stB Tryz.f77.body)))) := by kernel_rfl
  obtain ⟨X, HX⟩ : ∃ X, Hid (cTz (stC 20 (cI (stB Tryz.f77.body))) = X) := ⟨_, rfl⟩
  obtain ⟨Y, HY⟩ : ∃ Y, Hid (stC 21 (cI (stB Tryz.f77.body)) = Y) := ⟨_, rfl⟩
  obtain ⟨c, hc⟩ : ∃ c, c = cL (stC 20 (cI (stB Tryz.f77.body))) := ⟨_, rfl⟩
  rw [HX.out, HY.out, ← hc] at EQ
  rw [HX.out] at h
  rw [EQ]
  clear EQ HX HY
  simp only [cL, cE, cI, cR, stC, stB, Tryz.f77, Option.getD_some] at hc
  subst hc
  have hb : ((kk : Int) == 21) = true := by rw [hk]; rfl
  have HH := hid h
  clear h hk H
  go_wp2_with fail
  exact HH.out _ ⟨by kernel_rfl, by kernel_rfl, by kernel_rfl, by kernel_rfl, by kernel_rfl, by kernel_rfl, rfl⟩
theorem st_dn21 (H : FrZs v0 v2 v3 v4 (.int .i64 kk) a) (hk : kk ≠ 22) (h : ∀ a', FrZs v0 v2 v3 v4 (.int .i64 kk) a' → (stC 22 (cI (stB Tryz.f77.body))).wp Tryz.prog Q a' W) : (stC 21 (cI (stB Tryz.f77.body))).wp Tryz.prog Q a W := by
  obtain ⟨u, rfl⟩ := H.form
  have EQ : stC 21 (cI (stB Tryz.f77.body)) = Code.seq (cL (stC 21 (cI (stB Tryz.f77.body)))) (Code.cond (.tmp 676) (cTz (stC 21 (cI (stB Tryz.f77.body)))) (stC 22 (cI (stB Tryz.f77.body)))) := by kernel_rfl
  obtain ⟨X, HX⟩ : ∃ X, Hid (cTz (stC 21 (cI (stB Tryz.f77.body))) = X) := ⟨_, rfl⟩
  obtain ⟨Y, HY⟩ : ∃ Y, Hid (stC 22 (cI (stB Tryz.f77.body)) = Y) := ⟨_, rfl⟩
  obtain ⟨c, hc⟩ : ∃ c, c = cL (stC 21 (cI (stB Tryz.f77.body))) := ⟨_, rfl⟩
  rw [HX.out, HY.out, ← hc] at EQ
  rw [HY.out] at h
  rw [EQ]
  clear EQ HX HY
  simp only [cL, cE, cI, cR, stC, stB, Tryz.f77, Option.getD_some] at hc
  subst hc
  have hb : ((kk : Int) == 22) = false := by rw [beq_eq_false_iff_ne]; omega
  have HH := hid h
  clear h hk H
  go_wp2_with fail
  exact HH.out _ ⟨by kernel_rfl, by kernel_rfl, by kernel_rfl, by kernel_rfl, by kernel_rfl, by kernel_rfl, rfl⟩
theorem st_up21 (H : FrZs v0 v2 v3 v4 (.int .i64 kk) a) (hk : kk = 22) (h : ∀ a', FrZs v0 v2 v3 v4 (.int .i64 kk) a' → (cTz (stC 21 (cI (stB Tryz.f77.body)))).wp Tryz.prog Q a' W) : (stC 21 (cI (stB Tryz.f77.body))).wp Tryz.prog Q a W := by
  obtain ⟨u, rfl⟩ := H.form
  have EQ : stC 21 (cI (stB Tryz.f77.body)) = Code.seq (cL (stC 21 (cI (stB Tryz.f77.body)))) (Code.cond (.tmp 676) (cTz (stC 21 (cI (stB Tryz.f77.body)))) (stC 22 (cI (stB Tryz.f77.body)))) := by kernel_rfl
  obtain ⟨X, HX⟩ : ∃ X, Hid (cTz (stC 21 (cI (stB Tryz.f77.body))) = X) := ⟨_, rfl⟩
  obtain ⟨Y, HY⟩ : ∃ Y, Hid (stC 22 (cI (stB Tryz.f77.body)) = Y) := ⟨_, rfl⟩
  obtain ⟨c, hc⟩ : ∃ c, c = cL (stC 21 (cI (stB Tryz.f77.body))) := ⟨_, rfl⟩
  rw [HX.out, HY.out, ← hc] at EQ
  rw [HX.out] at h
  rw [EQ]
  clear EQ HX HY
  simp only [cL, cE, cI, cR, stC, stB, Tryz.f77, Option.getD_some] at hc
  subst hc
  have hb : ((kk : Int) == 22) = true := by rw [hk]; rfl
  have HH := hid h
  clear h hk H
  go_wp2_with fail
  exact HH.out _ ⟨by kernel_rfl, by kernel_rfl, by kernel_rfl, by kernel_rfl, by kernel_rfl, by kernel_rfl, rfl⟩
theorem st_dn22 (H : FrZs v0 v2 v3 v4 (.int .i64 kk) a) (hk : kk ≠ 23) (h : ∀ a', FrZs v0 v2 v3 v4 (.int .i64 kk) a' → (stC 23 (cI (stB Tryz.f77.body))).wp Tryz.prog Q a' W) : (stC 22 (cI (stB Tryz.f77.body))).wp Tryz.prog Q a W := by
  obtain ⟨u, rfl⟩ := H.form
  have EQ : stC 22 (cI (stB Tryz.f77.body)) = Code.seq (cL (stC 22 (cI (stB Tryz.f77.body)))) (Code.cond (.tmp 682) (cTz (stC 22 (cI (stB Tryz.f77.body)))) (stC 23 (cI (stB Tryz.f77.body)))) := by kernel_rfl
  obtain ⟨X, HX⟩ : ∃ X, Hid (cTz (stC 22 (cI (stB Tryz.f77.body))) = X) := ⟨_, rfl⟩
  obtain ⟨Y, HY⟩ : ∃ Y, Hid (stC 23 (cI (stB Tryz.f77.body)) = Y) := ⟨_, rfl⟩
  obtain ⟨c, hc⟩ : ∃ c, c = cL (stC 22 (cI (stB Tryz.f77.body))) := ⟨_, rfl⟩
  rw [HX.out, HY.out, ← hc] at EQ
  rw [HY.out] at h
  rw [EQ]
  clear EQ HX HY
  simp only [cL, cE, cI, cR, stC, stB, Tryz.f77, Option.getD_some] at hc
  subst hc
  have hb : ((kk : Int) == 23) = false := by rw [beq_eq_false_iff_ne]; omega
  have HH := hid h
  clear h hk H
  go_wp2_with fail
  exact HH.out _ ⟨by kernel_rfl, by kernel_rfl, by kernel_rfl, by kernel_rfl, by kernel_rfl, by kernel_rfl, rfl⟩
theorem st_up22 (H : FrZs v0 v2 v3 v4 (.int .i64 kk) a) (hk : kk = 23) (h : ∀ a', FrZs v0 v2 v3 v4 (.int .i64 kk) a' → (cTz (stC 22 (cI (stB Tryz.f77.body)))).wp Tryz.prog Q a' W) : (stC 22 (cI (stB Tryz.f77.body))).wp Tryz.prog Q a W := by
  obtain ⟨u, rfl⟩ := H.form
  have EQ : stC 22 (cI (stB Tryz.f77.body)) = Code.seq (cL (stC 22 (cI (stB Tryz.f77.body)))) (Code.cond (.tmp 682) (cTz (stC 22 (cI (stB Tryz.f77.body)))) (stC 23 (cI (stB Tryz.f77.body)))) := by kernel_rfl
  obtain ⟨X, HX⟩ : ∃ X, Hid (cTz (stC 22 (cI (stB Tryz.f77.body))) = X) := ⟨_, rfl⟩
  obtain ⟨Y, HY⟩ : ∃ Y, Hid (stC 23 (cI (stB Tryz.f77.body)) = Y) := ⟨_, rfl⟩
  obtain ⟨c, hc⟩ : ∃ c, c = cL (stC 22 (cI (stB Tryz.f77.body))) := ⟨_, rfl⟩
  rw [HX.out, HY.out, ← hc] at EQ
  rw [HX.out] at h
  rw [EQ]
  clear EQ HX HY
  simp only [cL, cE, cI, cR, stC, stB, Tryz.f77, Option.getD_some] at hc
  subst hc
  have hb : ((kk : Int) == 23) = true := by rw [hk]; rfl
  have HH := hid h
  clear h hk H
  go_wp2_with fail
  exact HH.out _ ⟨by kernel_rfl, by kernel_rfl, by kernel_rfl, by kernel_rfl, by kernel_rfl, by kernel_rfl, rfl⟩
theorem st_dn23 (H : FrZs v0 v2 v3 v4 (.int .i64 kk) a) (hk : kk ≠ 24) (h : ∀ a', FrZs v0 v2 v3 v4 (.int .i64 kk) a' → (stC 24 (cI (stB Tryz.f77.body))).wp Tryz.prog Q a' W) : (stC 23 (cI (stB Tryz.f77.body))).wp Tryz.prog Q a W := by
  obtain ⟨u, rfl⟩ := H.form
  have EQ : stC 23 (cI (stB Tryz.f77.body)) = Code.seq (cL (stC 23 (cI (stB Tryz.f77.body)))) (Code.cond (.tmp 724) (cTz (stC 23 (cI (stB Tryz.f77.body)))) (stC 24 (cI (stB Tryz.f77.body)))) := by kernel_rfl
  obtain ⟨X, HX⟩ : ∃ X, Hid (cTz (stC 23 (cI (stB Tryz.f77.body))) = X) := ⟨_, rfl⟩
  obtain ⟨Y, HY⟩ : ∃ Y, Hid (stC 24 (cI (stB Tryz.f77.body)) = Y) := ⟨_, rfl⟩
  obtain ⟨c, hc⟩ : ∃ c, c = cL (stC 23 (cI (stB Tryz.f77.body))) := ⟨_, rfl⟩
  rw [HX.out, HY.out, ← hc] at EQ
  rw [HY.out] at h
  rw [EQ]
  clear EQ HX HY
  simp only [cL, cE, cI, cR, stC, stB, Tryz.f77, Option.getD_some] at hc
  subst hc
  have hb : ((kk : Int) == 24) = false := by rw [beq_eq_false_iff_ne]; omega
  have HH := hid h
  clear h hk H
  go_wp2_with fail
  exact HH.out _ ⟨by kernel_rfl, by kernel_rfl, by kernel_rfl, by kernel_rfl, by kernel_rfl, by kernel_rfl, rfl⟩
theorem st_up23 (H : FrZs v0 v2 v3 v4 (.int .i64 kk) a) (hk : kk = 24) (h : ∀ a', FrZs v0 v2 v3 v4 (.int .i64 kk) a' → (cTz (stC 23 (cI (stB Tryz.f77.body)))).wp Tryz.prog Q a' W) : (stC 23 (cI (stB Tryz.f77.body))).wp Tryz.prog Q a W := by
  obtain ⟨u, rfl⟩ := H.form
  have EQ : stC 23 (cI (stB Tryz.f77.body)) = Code.seq (cL (stC 23 (cI (stB Tryz.f77.body)))) (Code.cond (.tmp 724) (cTz (stC 23 (cI (stB Tryz.f77.body)))) (stC 24 (cI (stB Tryz.f77.body)))) := by kernel_rfl
  obtain ⟨X, HX⟩ : ∃ X, Hid (cTz (stC 23 (cI (stB Tryz.f77.body))) = X) := ⟨_, rfl⟩
  obtain ⟨Y, HY⟩ : ∃ Y, Hid (stC 24 (cI (stB Tryz.f77.body)) = Y) := ⟨_, rfl⟩
  obtain ⟨c, hc⟩ : ∃ c, c = cL (stC 23 (cI (stB Tryz.f77.body))) := ⟨_, rfl⟩
  rw [HX.out, HY.out, ← hc] at EQ
  rw [HX.out] at h
  rw [EQ]
  clear EQ HX HY
  simp only [cL, cE, cI, cR, stC, stB, Tryz.f77, Option.getD_some] at hc
  subst hc
  have hb : ((kk : Int) == 24) = true := by rw [hk]; rfl
  have HH := hid h
  clear h hk H
  go_wp2_with fail
  exact HH.out _ ⟨by kernel_rfl, by kernel_rfl, by kernel_rfl, by kernel_rfl, by kernel_rfl, by kernel_rfl, rfl⟩
theorem st_dn24 (H : FrZs v0 v2 v3 v4 (.int .i64 kk) a) (hk : kk ≠ 25) (h : ∀ a', FrZs v0 v2 v3 v4 (.int .i64 kk) a' → (stC 25 (cI (stB Tryz.f77.body))).wp Tryz.prog Q a' W) : (stC 24 (cI (stB Tryz.f77.body))).wp Tryz.prog Q a W := by
  obtain ⟨u, rfl⟩ := H.form
  have EQ : stC 24 (cI (stB Tryz.f77.body)) = Code.seq (cL (stC 24 (cI (stB Tryz.f77.body)))) (Code.cond (.tmp 737) (cTz (stC 24 (cI (stB Tryz.f77.body)))) (stC 25 (cI (stB Tryz.f77.body)))) := by kernel_rfl
  obtain ⟨X, HX⟩ : ∃ X, Hid (cTz (stC 24 (cI (stB Tryz.f77.body))) = X) := ⟨_, rfl⟩
  obtain ⟨Y, HY⟩ : ∃ Y, Hid (stC 25 (cI (stB Tryz.f77.body)) = Y) := ⟨_, rfl⟩
  obtain ⟨c, hc⟩ : ∃ c, c = cL (stC 24 (cI (stB Tryz.f77.body))) := ⟨_, rfl⟩
  rw [HX.out, HY.out, ← hc] at EQ
  rw [HY.out] at h
  rw [EQ]
  clear EQ HX HY
  simp only [cL, cE, cI, cR, stC, stB, Tryz.f77, Option.getD_some] at hc
  subst hc
  have hb : ((kk : Int) == 25) = false := by rw [beq_eq_false_iff_ne]; omega
  have HH := hid h
  clear h hk H
  go_wp2_with fail
  exact HH.out _ ⟨by kernel_rfl, by kernel_rfl, by kernel_rfl, by kernel_rfl, by kernel_rfl, by kernel_rfl, rfl⟩
theorem st_up24 (H : FrZs v0 v2 v3 v4 (.int .i64 kk) a) (hk : kk = 25) (h : ∀ a', FrZs v0 v2 v3 v4 (.int .i64 kk) a' → (cTz (stC 24 (cI (stB Tryz.f77.body)))).wp Tryz.prog Q a' W) : (stC 24 (cI (stB Tryz.f77.body))).wp Tryz.prog Q a W := by
  obtain ⟨u, rfl⟩ := H.form
  have EQ : stC 24 (cI (stB Tryz.f77.body)) = Code.seq (cL (stC 24 (cI (stB Tryz.f77.body)))) (Code.cond (.tmp 737) (cTz (stC 24 (cI (stB Tryz.f77.body)))) (stC 25 (cI (stB Tryz.f77.body)))) := by kernel_rfl
  obtain ⟨X, HX⟩ : ∃ X, Hid (cTz (stC 24 (cI (stB Tryz.f77.body))) = X) := ⟨_, rfl⟩
  obtain ⟨Y, HY⟩ : ∃ Y, Hid (stC 25 (cI (stB Tryz.f77.body)) = Y) := ⟨_, rfl⟩
  obtain ⟨c, hc⟩ : ∃ c, c = cL (stC 24 (cI (stB Tryz.f77.body))) := ⟨_, rfl⟩
  rw [HX.out, HY.out, ← hc] at EQ
  rw [HX.out] at h
  rw [EQ]
  clear EQ HX HY
  simp only [cL, cE, cI, cR, stC, stB, Tryz.f77, Option.getD_some] at hc
  subst hc
  have hb : ((kk : Int) == 25) = true := by rw [hk]; rfl
  have HH := hid h
  clear h hk H
  go_wp2_with fail
  exact HH.out _ ⟨by kernel_rfl, by kernel_rfl, by kernel_rfl, by kernel_rfl, by kernel_rfl, by kernel_rfl, rfl⟩
theorem st_dn25 (H : FrZs v0 v2 v3 v4 (.int .i64 kk) a) (hk : kk ≠ 26) (h : ∀ a', FrZs v0 v2 v3 v4 (.int .i64 kk) a' → (stC 26 (cI (stB Tryz.f77.body))).wp Tryz.prog Q a' W) : (stC 25 (cI (stB Tryz.f77.body))).wp Tryz.prog Q a W := by
  obtain ⟨u, rfl⟩ := H.form
  have EQ : stC 25 (cI (stB Tryz.f77.body)) = Code.seq (cL (stC 25 (cI (stB Tryz.f77.body)))) (Code.cond (.tmp 747) (cTz (stC 25 (cI (stB Tryz.f77.body)))) (stC 26 (cI (stB Tryz.f77.body)))) := by kernel_rfl
  obtain ⟨X, HX⟩ : ∃ X, Hid (cTz (stC 25 (cI (stB Tryz.f77.body))) = X) := ⟨_, rfl⟩
  obtain ⟨Y, HY⟩ : ∃ Y, Hid (stC 26 (cI (stB Tryz.f77.body)) = Y) := ⟨_, rfl⟩
  obtain ⟨c, hc⟩ : ∃ c, c = cL (stC 25 (cI (stB Tryz.f77.body))) := ⟨_, rfl⟩
  rw [HX.out, HY.out, ← hc] at EQ
  rw [HY.out] at h
  rw [EQ]
  clear EQ HX HY
  simp only [cL, cE, cI, cR, stC, stB, Tryz.f77, Option.getD_some] at hc
  subst hc
  have hb : ((kk : Int) == 26) = false := by rw [beq_eq_false_iff_ne]; omega
  have HH := hid h
  clear h hk H
  go_wp2_with fail
  exact HH.out _ ⟨by kernel_rfl, by kernel_rfl, by kernel_rfl, by kernel_rfl, by kernel_rfl, by kernel_rfl, rfl⟩
theorem st_up25 (H : FrZs v0 v2 v3 v4 (.int .i64 kk) a) (hk : kk = 26) (h : ∀ a', FrZs v0 v2 v3 v4 (.int .i64 kk) a' → (cTz (stC 25 (cI (stB Tryz.f77.body)))).wp Tryz.prog Q a' W) : (stC 25 (cI (stB Tryz.f77.body))).wp Tryz.prog Q a W := by
  obtain ⟨u, rfl⟩ := H.form
  have EQ : stC 25 (cI (stB Tryz.f77.body)) = Code.seq (cL (stC 25 (cI (stB Tryz.f77.body)))) (Code.cond (.tmp 747) (cTz (stC 25 (cI (stB Tryz.f77.body)))) (stC 26 (cI (stB Tryz.f77.body)))) := by kernel_rfl
  obtain ⟨X, HX⟩ : ∃ X, Hid (cTz (stC 25 (cI (stB Tryz.f77.body))) = X) := ⟨_, rfl⟩
  obtain ⟨Y, HY⟩ : ∃ Y, Hid (stC 26 (cI (stB Tryz.f77.body)) = Y) := ⟨_, rfl⟩
  obtain ⟨c, hc⟩ : ∃ c, c = cL (stC 25 (cI (stB Tryz.f77.body))) := ⟨_, rfl⟩
  rw [HX.out, HY.out, ← hc] at EQ
  rw [HX.out] at h
  rw [EQ]
  clear EQ HX HY
  simp only [cL, cE, cI, cR, stC, stB, Tryz.f77, Option.getD_some] at hc
  subst hc
  have hb : ((kk : Int) == 26) = true := by rw [hk]; rfl
  have HH := hid h
  clear h hk H
  go_wp2_with fail
  exact HH.out _ ⟨by kernel_rfl, by kernel_rfl, by kernel_rfl, by kernel_rfl, by kernel_rfl, by kernel_rfl, rfl⟩
theorem st_dn26 (H : FrZs v0 v2 v3 v4 (.int .i64 kk) a) (hk : kk ≠ 27) (h : ∀ a', FrZs v0 v2 v3 v4 (.int .i64 kk) a' → (stC 27 (cI (stB Tryz.f77.body))).wp Tryz.prog Q a' W) : (stC 26 (cI (stB Tryz.f77.body))).wp Tryz.prog Q a W := by
  obtain ⟨u, rfl⟩ := H.form
  have EQ : stC 26 (cI (stB Tryz.f77.body)) = Code.seq (cL (stC 26 (cI (stB Tryz.f77.body)))) (Code.cond (.tmp 770) (cTz (stC 26 (cI (stB Tryz.f77.body)))) (stC 27 (cI (stB Tryz.f77.body)))) := by kernel_rfl
  obtain ⟨X, HX⟩ : ∃ X, Hid (cTz (stC 26 (cI (stB Tryz.f77.body))) = X) := ⟨_, rfl⟩
  obtain ⟨Y, HY⟩ : ∃ Y, Hid (stC 27 (cI (stB Tryz.f77.body)) = Y) := ⟨_, rfl⟩
  obtain ⟨c, hc⟩ : ∃ c, c = cL (stC 26 (cI (stB Tryz.f77.body))) := ⟨_, rfl⟩
  rw [HX.out, HY.out, ← hc] at EQ
  rw [HY.out] at h
  rw [EQ]
  clear EQ HX HY
  simp only [cL, cE, cI, cR, stC, stB, Tryz.f77, Option.getD_some] at hc
  subst hc
  have hb : ((kk : Int) == 27) = false := by rw [beq_eq_false_iff_ne]; omega
  have HH := hid h
  clear h hk H
  go_wp2_with fail
  exact HH.out _ ⟨by kernel_rfl, by kernel_rfl, by kernel_rfl, by kernel_rfl, by kernel_rfl, by kernel_rfl, rfl⟩
theorem st_up26 (H : FrZs v0 v2 v3 v4 (.int .i64 kk) a) (hk : kk = 27) (h : ∀ a', FrZs v0 v2 v3 v4 (.int .i64 kk) a' → (cTz (stC 26 (cI (stB Tryz.f77.body)))).wp Tryz.prog Q a' W) : (stC 26 (cI (stB Tryz.f77.body))).wp Tryz.prog Q a W := by
  obtain ⟨u, rfl⟩ := H.form
  have EQ : stC 26 (cI (stB Tryz.f77.body)) = Code.seq (cL (stC 26 (cI (stB Tryz.f77.body)))) (Code.cond (.tmp 770) (cTz (stC 26 (cI (stB Tryz.f77.body)))) (stC 27 (cI (stB Tryz.f77.body)))) := by kernel_rfl
  obtain ⟨X, HX⟩ : ∃ X, Hid (cTz (stC 26 (cI (stB Tryz.f77.body))) = X) := ⟨_, rfl⟩
  obtain ⟨Y, HY⟩ : ∃ Y, Hid (stC 27 (cI (stB Tryz.f77.body)) = Y) := ⟨_, rfl⟩
  obtain ⟨c, hc⟩ : ∃ c, c = cL (stC 26 (cI (stB Tryz.f77.body))) := ⟨_, rfl⟩
  rw [HX.out, HY.out, ← hc] at EQ
  rw [HX.out] at h
  rw [EQ]
  clear EQ HX HY
  simp only [cL, cE, cI, cR, stC, stB, Tryz.f77, Option.getD_some] at hc
  subst hc
  have hb : ((kk : Int) == 27) = true := by rw [hk]; rfl
  have HH := hid h
  clear h hk H
  go_wp2_with fail
  exact HH.out _ ⟨by kernel_rfl, by kernel_rfl, by kernel_rfl, by kernel_rfl, by kernel_rfl, by kernel_rfl, rfl⟩
theorem st_dn27 (H : FrZs v0 v2 v3 v4 (.int .i64 kk) a) (hk : kk ≠ 28) (h : ∀ a', FrZs v0 v2 v3 v4 (.int .i64 kk) a' → (stC 28 (cI (stB Tryz.f77.body))).wp Tryz.prog Q a' W) : (stC 27 (cI (stB Tryz.f77.body))).wp Tryz.prog Q a W := by
  obtain ⟨u, rfl⟩ := H.form
  have EQ : stC 27 (cI (stB Tryz.f77.body)) = Code.seq (cL (stC 27 (cI (stB Tryz.f77.body)))) (Code.cond (.tmp 794) (cTz (stC 27 (cI (stB Tryz.f77.body)))) (stC 28 (cI (stB Tryz.f77.body)))) := by kernel_rfl
  obtain ⟨X, HX⟩ : ∃ X, Hid (cTz (stC 27 (cI (stB Tryz.f77.body))) = X) := ⟨_, rfl⟩
  obtain ⟨Y, HY⟩ : ∃ Y, Hid (stC 28 (cI (stB Tryz.f77.body)) = Y) := ⟨_, rfl⟩
  obtain ⟨c, hc⟩ : ∃ c, c = cL (stC 27 (cI (stB Tryz.f77.body))) := ⟨_, rfl⟩
  rw [HX.out, HY.out, ← hc] at EQ
  rw [HY.out] at h
  rw [EQ]
  clear EQ HX HY
  simp only [cL, cE, cI, cR, stC, stB, Tryz.f77, Option.getD_some] at hc
  subst hc
  have hb : ((kk : Int) == 28) = false := by rw [beq_eq_false_iff_ne]; omega
  have HH := hid h
  clear h hk H
  go_wp2_with fail
  exact HH.out _ ⟨by kernel_rfl, by kernel_rfl, by kernel_rfl, by kernel_rfl, by kernel_rfl, by kernel_rfl, rfl⟩
theorem st_up27 (H : FrZs v0 v2 v3 v4 (.int .i64 kk) a) (hk : kk = 28) (h : ∀ a', FrZs v0 v2 v3 v4 (.int .i64 kk) a' → (cTz (stC 27 (cI (stB Tryz.f77.body)))).wp Tryz.prog Q a' W) : (stC 27 (cI (stB Tryz.f77.body))).wp Tryz.prog Q a W := by
  obtain ⟨u, rfl⟩ := H.form
  have EQ : stC 27 (cI (stB Tryz.f77.body)) = Code.seq (cL (stC 27 (cI (stB Tryz.f77.body)))) (Code.cond (.tmp 794) (cTz (stC 27 (cI (stB Tryz.f77.body)))) (stC 28 (cI (stB Tryz.f77.body)))) := by kernel_rfl
  obtain ⟨X, HX⟩ : ∃ X, Hid (cTz (stC 27 (cI (stB Tryz.f77.body))) = X) := ⟨_, rfl⟩
  obtain ⟨Y, HY⟩ : ∃ Y, Hid (stC 28 (cI (stB Tryz.f77.body)) = Y) := ⟨_, rfl⟩
  obtain ⟨c, hc⟩ : ∃ c, c = cL (stC 27 (cI (stB Tryz.f77.body))) := ⟨_, rfl⟩
  rw [HX.out, HY.out, ← hc] at EQ
  rw [HX.out] at h
  rw [EQ]
  clear EQ HX HY
  simp only [cL, cE, cI, cR, stC, stB, Tryz.f77, Option.getD_some] at hc
  subst hc
  have hb : ((kk : Int) == 28) = true := by rw [hk]; rfl
  have HH := hid h
  clear h hk H
  go_wp2_with fail
  exact HH.out _ ⟨by kernel_rfl, by kernel_rfl, by kernel_rfl, by kernel_rfl, by kernel_rfl, by kernel_rfl, rfl⟩
theorem st_blk (h : (stC 0 (cI (stB Tryz.f77.body))).wp Tryz.prog (Exit.inBlock 0 Q) a W) : (stB Tryz.f77.body).wp Tryz.prog Q a W := by
  have EQ : stB Tryz.f77.body = Code.block 0 (stC 0 (cI (stB Tryz.f77.body))) := by kernel_rfl
  rw [EQ]
  exact wp_block h
theorem st_go1 (H : FrZs v0 v2 v3 v4 (.int .i64 kk) a) (hk : kk = 1) (h : ∀ a', FrZs v0 v2 v3 v4 (.int .i64 kk) a' → (cTz (stC 0 (cI (stB Tryz.f77.body)))).wp Tryz.prog (Exit.inBlock 0 Q) a' W) : (stB Tryz.f77.body).wp Tryz.prog Q a W :=
  st_blk (st_up0 H hk h)
theorem st_go2 (H : FrZs v0 v2 v3 v4 (.int .i64 kk) a) (hk : kk = 2) (h : ∀ a', FrZs v0 v2 v3 v4 (.int .i64 kk) a' → (cTz (stC 1 (cI (stB Tryz.f77.body)))).wp Tryz.prog (Exit.inBlock 0 Q) a' W) : (stB Tryz.f77.body).wp Tryz.prog Q a W :=
  st_blk (st_dn0 H (by omega) fun a H => st_up1 H hk h)
theorem st_go3 (H : FrZs v0 v2 v3 v4 (.int .i64 kk) a) (hk : kk = 3) (h : ∀ a', FrZs v0 v2 v3 v4 (.int .i64 kk) a' → (cTz (stC 2 (cI (stB Tryz.f77.body)))).wp Tryz.prog (Exit.inBlock 0 Q) a' W) : (stB Tryz.f77.body).wp Tryz.prog Q a W :=
  st_blk (st_dn0 H (by omega) fun a H => st_dn1 H (by omega) fun a H => st_up2 H hk h)
theorem st_go4 (H : FrZs v0 v2 v3 v4 (.int .i64 kk) a) (hk : kk = 4) (h : ∀ a', FrZs v0 v2 v3 v4 (.int .i64 kk) a' → (cTz (stC 3 (cI (stB Tryz.f77.body)))).wp Tryz.prog (Exit.inBlock 0 Q) a' W) : (stB Tryz.f77.body).wp Tryz.prog Q a W :=
  st_blk (st_dn0 H (by omega) fun a H => st_dn1 H (by omega) fun a H => st_dn2 H (by omega) fun a H => st_up3 H hk h)
theorem st_go5 (H : FrZs v0 v2 v3 v4 (.int .i64 kk) a) (hk : kk = 5) (h : ∀ a', FrZs v0 v2 v3 v4 (.int .i64 kk) a' → (cTz (stC 4 (cI (stB Tryz.f77.body)))).wp Tryz.prog (Exit.inBlock 0 Q) a' W) : (stB Tryz.f77.body).wp Tryz.prog Q a W :=
  st_blk (st_dn0 H (by omega) fun a H => st_dn1 H (by omega) fun a H => st_dn2 H (by omega) fun a H => st_dn3 H (by omega) fun a H => st_up4 H hk h)
theorem st_go6 (H : FrZs v0 v2 v3 v4 (.int .i64 kk) a) (hk : kk = 6) (h : ∀ a', FrZs v0 v2 v3 v4 (.int .i64 kk) a' → (cTz (stC 5 (cI (stB Tryz.f77.body)))).wp Tryz.prog (Exit.inBlock 0 Q) a' W) : (stB Tryz.f77.body).wp Tryz.prog Q a W :=
  st_blk (st_dn0 H (by omega) fun a H => st_dn1 H (by omega) fun a H => st_dn2 H (by omega) fun a H => st_dn3 H (by omega) fun a H => st_dn4 H (by omega) fun a H => st_up5 H hk h)
theorem st_go7 (H : FrZs v0 v2 v3 v4 (.int .i64 kk) a) (hk : kk = 7) (h : ∀ a', FrZs v0 v2 v3 v4 (.int .i64 kk) a' → (cTz (stC 6 (cI (stB Tryz.f77.body)))).wp Tryz.prog (Exit.inBlock 0 Q) a' W) : (stB Tryz.f77.body).wp Tryz.prog Q a W :=
  st_blk (st_dn0 H (by omega) fun a H => st_dn1 H (by omega) fun a H => st_dn2 H (by omega) fun a H => st_dn3 H (by omega) fun a H => st_dn4 H (by omega) fun a H => st_dn5 H (by omega) fun a H => st_up6 H hk h)
theorem st_go8 (H : FrZs v0 v2 v3 v4 (.int .i64 kk) a) (hk : kk = 8) (h : ∀ a', FrZs v0 v2 v3 v4 (.int .i64 kk) a' → (cTz (stC 7 (cI (stB Tryz.f77.body)))).wp Tryz.prog (Exit.inBlock 0 Q) a' W) : (stB Tryz.f77.body).wp Tryz.prog Q a W :=
  st_blk (st_dn0 H (by omega) fun a H => st_dn1 H (by omega) fun a H => st_dn2 H (by omega) fun a H => st_dn3 H (by omega) fun a H => st_dn4 H (by omega) fun a H => st_dn5 H (by omega) fun a H => st_dn6 H (by omega) fun a H => st_up7 H hk h)
theorem st_go9 (H : FrZs v0 v2 v3 v4 (.int .i64 kk) a) (hk : kk = 9) (h : ∀ a', FrZs v0 v2 v3 v4 (.int .i64 kk) a' → (cTz (stC 8 (cI (stB Tryz.f77.body)))).wp Tryz.prog (Exit.inBlock 0 Q) a' W) : (stB Tryz.f77.body).wp Tryz.prog Q a W :=
  st_blk (st_dn0 H (by omega) fun a H => st_dn1 H (by omega) fun a H => st_dn2 H (by omega) fun a H => st_dn3 H (by omega) fun a H => st_dn4 H (by omega) fun a H => st_dn5 H (by omega) fun a H => st_dn6 H (by omega) fun a H => st_dn7 H (by omega) fun a H => st_up8 H hk h)
theorem st_go10 (H : FrZs v0 v2 v3 v4 (.int .i64 kk) a) (hk : kk = 10) (h : ∀ a', FrZs v0 v2 v3 v4 (.int .i64 kk) a' → (cTz (stC 9 (cI (stB Tryz.f77.body)))).wp Tryz.prog (Exit.inBlock 0 Q) a' W) : (stB Tryz.f77.body).wp Tryz.prog Q a W :=
  st_blk (st_dn0 H (by omega) fun a H => st_dn1 H (by omega) fun a H => st_dn2 H (by omega) fun a H => st_dn3 H (by omega) fun a H => st_dn4 H (by omega) fun a H => st_dn5 H (by omega) fun a H => st_dn6 H (by omega) fun a H => st_dn7 H (by omega) fun a H => st_dn8 H (by omega) fun a H => st_up9 H hk h)
theorem st_go11 (H : FrZs v0 v2 v3 v4 (.int .i64 kk) a) (hk : kk = 11) (h : ∀ a', FrZs v0 v2 v3 v4 (.int .i64 kk) a' → (cTz (stC 10 (cI (stB Tryz.f77.body)))).wp Tryz.prog (Exit.inBlock 0 Q) a' W) : (stB Tryz.f77.body).wp Tryz.prog Q a W :=
  st_blk (st_dn0 H (by omega) fun a H => st_dn1 H (by omega) fun a H => st_dn2 H (by omega) fun a H => st_dn3 H (by omega) fun a H => st_dn4 H (by omega) fun a H => st_dn5 H (by omega) fun a H => st_dn6 H (by omega) fun a H => st_dn7 H (by omega) fun a H => st_dn8 H (by omega) fun a H => st_dn9 H (by omega) fun a H => st_up10 H hk h)
theorem st_go12 (H : FrZs v0 v2 v3 v4 (.int .i64 kk) a) (hk : kk = 12) (h : ∀ a', FrZs v0 v2 v3 v4 (.int .i64 kk) a' → (cTz (stC 11 (cI (stB Tryz.f77.body)))).wp Tryz.prog (Exit.inBlock 0 Q) a' W) : (stB Tryz.f77.body).wp Tryz.prog Q a W :=
  st_blk (st_dn0 H (by omega) fun a H => st_dn1 H (by omega) fun a H => st_dn2 H (by omega) fun a H => st_dn3 H (by omega) fun a H => st_dn4 H (by omega) fun a H => st_dn5 H (by omega) fun a H => st_dn6 H (by omega) fun a H => st_dn7 H (by omega) fun a H => st_dn8 H (by omega) fun a H => st_dn9 H (by omega) fun a H => st_dn10 H (by omega) fun a H => st_up11 H hk h)
theorem st_go13 (H : FrZs v0 v2 v3 v4 (.int .i64 kk) a) (hk : kk = 13) (h : ∀ a', FrZs v0 v2 v3 v4 (.int .i64 kk) a' → (cTz (stC 12 (cI (stB Tryz.f77.body)))).wp Tryz.prog (Exit.inBlock 0 Q) a' W) : (stB Tryz.f77.body).wp Tryz.prog Q a W :=
  st_blk (st_dn0 H (by omega) fun a H => st_dn1 H (by omega) fun a H => st_dn2 H (by omega) fun a H => st_dn3 H (by omega) fun a H => st_dn4 H (by omega) fun a H => st_dn5 H (by omega) fun a H => st_dn6 H (by omega) fun a H => st_dn7 H (by omega) fun a H => st_dn8 H (by omega) fun a H => st_dn9 H (by omega) fun a H => st_dn10 H (by omega) fun a H => st_dn11 H (by omega) fun a H => st_up12 H hk h)
theorem st_go14 (H : FrZs v0 v2 v3 v4 (.int .i64 kk) a) (hk : kk = 14) (h : ∀ a', FrZs v0 v2 v3 v4 (.int .i64 kk) a' → (cTz (stC 13 (cI (stB Tryz.f77.body)))).wp Tryz.prog (Exit.inBlock 0 Q) a' W) : (stB Tryz.f77.body).wp Tryz.prog Q a W :=
  st_blk (st_dn0 H (by omega) fun a H => st_dn1 H (by omega) fun a H => st_dn2 H (by omega) fun a H => st_dn3 H (by omega) fun a H => st_dn4 H (by omega) fun a H => st_dn5 H (by omega) fun a H => st_dn6 H (by omega) fun a H => st_dn7 H (by omega) fun a H => st_dn8 H (by omega) fun a H => st_dn9 H (by omega) fun a H => st_dn10 H (by omega) fun a H => st_dn11 H (by omega) fun a H => st_dn12 H (by omega) fun a H => st_up13 H hk h)
theorem st_go15 (H : FrZs v0 v2 v3 v4 (.int .i64 kk) a) (hk : kk = 15) (h : ∀ a', FrZs v0 v2 v3 v4 (.int .i64 kk) a' → (cTz (stC 14 (cI (stB Tryz.f77.body)))).wp Tryz.prog (Exit.inBlock 0 Q) a' W) : (stB Tryz.f77.body).wp Tryz.prog Q a W :=
  st_blk (st_dn0 H (by omega) fun a H => st_dn1 H (by omega) fun a H => st_dn2 H (by omega) fun a H => st_dn3 H (by omega) fun a H => st_dn4 H (by omega) fun a H => st_dn5 H (by omega) fun a H => st_dn6 H (by omega) fun a H => st_dn7 H (by omega) fun a H => st_dn8 H (by omega) fun a H => st_dn9 H (by omega) fun a H => st_dn10 H (by omega) fun a H => st_dn11 H (by omega) fun a H => st_dn12 H (by omega) fun a H => st_dn13 H (by omega) fun a H => st_up14 H hk h)
theorem st_go16 (H : FrZs v0 v2 v3 v4 (.int .i64 kk) a) (hk : kk = 16) (h : ∀ a', FrZs v0 v2 v3 v4 (.int .i64 kk) a' → (cTz (stC 15 (cI (stB Tryz.f77.body)))).wp Tryz.prog (Exit.inBlock 0 Q) a' W) : (stB Tryz.f77.body).wp Tryz.prog Q a W :=
  st_blk (st_dn0 H (by omega) fun a H => st_dn1 H (by omega) fun a H => st_dn2 H (by omega) fun a H => st_dn3 H (by omega) fun a H => st_dn4 H (by omega) fun a H => st_dn5 H (by omega) fun a H => st_dn6 H (by omega) fun a H => st_dn7 H (by omega) fun a H => st_dn8 H (by omega) fun a H => st_dn9 H (by omega) fun a H => st_dn10 H (by omega) fun a H => st_dn11 H (by omega) fun a H => st_dn12 H (by omega) fun a H => st_dn13 H (by omega) fun a H => st_dn14 H (by omega) fun a H => st_up15 H hk h)
theorem st_go17 (H : FrZs v0 v2 v3 v4 (.int .i64 kk) a) (hk : kk = 17) (h : ∀ a', FrZs v0 v2 v3 v4 (.int .i64 kk) a' → (cTz (stC 16 (cI (stB Tryz.f77.body)))).wp Tryz.prog (Exit.inBlock 0 Q) a' W) : (stB Tryz.f77.body).wp Tryz.prog Q a W :=
  st_blk (st_dn0 H (by omega) fun a H => st_dn1 H (by omega) fun a H => st_dn2 H (by omega) fun a H => st_dn3 H (by omega) fun a H => st_dn4 H (by omega) fun a H => st_dn5 H (by omega) fun a H => st_dn6 H (by omega) fun a H => st_dn7 H (by omega) fun a H => st_dn8 H (by omega) fun a H => st_dn9 H (by omega) fun a H => st_dn10 H (by omega) fun a H => st_dn11 H (by omega) fun a H => st_dn12 H (by omega) fun a H => st_dn13 H (by omega) fun a H => st_dn14 H (by omega) fun a H => st_dn15 H (by omega) fun a H => st_up16 H hk h)
theorem st_go18 (H : FrZs v0 v2 v3 v4 (.int .i64 kk) a) (hk : kk = 18) (h : ∀ a', FrZs v0 v2 v3 v4 (.int .i64 kk) a' → (cTz (stC 17 (cI (stB Tryz.f77.body)))).wp Tryz.prog (Exit.inBlock 0 Q) a' W) : (stB Tryz.f77.body).wp Tryz.prog Q a W :=
  st_blk (st_dn0 H (by omega) fun a H => st_dn1 H (by omega) fun a H => st_dn2 H (by omega) fun a H => st_dn3 H (by omega) fun a H => st_dn4 H (by omega) fun a H => st_dn5 H (by omega) fun a H => st_dn6 H (by omega) fun a H => st_dn7 H (by omega) fun a H => st_dn8 H (by omega) fun a H => st_dn9 H (by omega) fun a H => st_dn10 H (by omega) fun a H => st_dn11 H (by omega) fun a H => st_dn12 H (by omega) fun a H => st_dn13 H (by omega) fun a H => st_dn14 H (by omega) fun a H => st_dn15 H (by omega) fun a H => st_dn16 H (by omega) fun a H => st_up17 H hk h)
theorem st_go19 (H : FrZs v0 v2 v3 v4 (.int .i64 kk) a) (hk : kk = 19) (h : ∀ a', FrZs v0 v2 v3 v4 (.int .i64 kk) a' → (cTz (stC 18 (cI (stB Tryz.f77.body)))).wp Tryz.prog (Exit.inBlock 0 Q) a' W) : (stB Tryz.f77.body).wp Tryz.prog Q a W :=
  st_blk (st_dn0 H (by omega) fun a H => st_dn1 H (by omega) fun a H => st_dn2 H (by omega) fun a H => st_dn3 H (by omega) fun a H => st_dn4 H (by omega) fun a H => st_dn5 H (by omega) fun a H => st_dn6 H (by omega) fun a H => st_dn7 H (by omega) fun a H => st_dn8 H (by omega) fun a H => st_dn9 H (by omega) fun a H => st_dn10 H (by omega) fun a H => st_dn11 H (by omega) fun a H => st_dn12 H (by omega) fun a H => st_dn13 H (by omega) fun a H => st_dn14 H (by omega) fun a H => st_dn15 H (by omega) fun a H => st_dn16 H (by omega) fun a H => st_dn17 H (by omega) fun a H => st_up18 H hk h)
theorem st_go20 (H : FrZs v0 v2 v3 v4 (.int .i64 kk) a) (hk : kk = 20) (h : ∀ a', FrZs v0 v2 v3 v4 (.int .i64 kk) a' → (cTz (stC 19 (cI (stB Tryz.f77.body)))).wp Tryz.prog (Exit.inBlock 0 Q) a' W) : (stB Tryz.f77.body).wp Tryz.prog Q a W :=
  st_blk (st_dn0 H (by omega) fun a H => st_dn1 H (by omega) fun a H => st_dn2 H (by omega) fun a H => st_dn3 H (by omega) fun a H => st_dn4 H (by omega) fun a H => st_dn5 H (by omega) fun a H => st_dn6 H (by omega) fun a H => st_dn7 H (by omega) fun a H => st_dn8 H (by omega) fun a H => st_dn9 H (by omega) fun a H => st_dn10 H (by omega) fun a H => st_dn11 H (by omega) fun a H => st_dn12 H (by omega) fun a H => st_dn13 H (by omega) fun a H => st_dn14 H (by omega) fun a H => st_dn15 H (by omega) fun a H => st_dn16 H (by omega) fun a H => st_dn17 H (by omega) fun a H => st_dn18 H (by omega) fun a H => st_up19 H hk h)
theorem st_go21 (H : FrZs v0 v2 v3 v4 (.int .i64 kk) a) (hk : kk = 21) (h : ∀ a', FrZs v0 v2 v3 v4 (.int .i64 kk) a' → (cTz (stC 20 (cI (stB Tryz.f77.body)))).wp Tryz.prog (Exit.inBlock 0 Q) a' W) : (stB Tryz.f77.body).wp Tryz.prog Q a W :=
  st_blk (st_dn0 H (by omega) fun a H => st_dn1 H (by omega) fun a H => st_dn2 H (by omega) fun a H => st_dn3 H (by omega) fun a H => st_dn4 H (by omega) fun a H => st_dn5 H (by omega) fun a H => st_dn6 H (by omega) fun a H => st_dn7 H (by omega) fun a H => st_dn8 H (by omega) fun a H => st_dn9 H (by omega) fun a H => st_dn10 H (by omega) fun a H => st_dn11 H (by omega) fun a H => st_dn12 H (by omega) fun a H => st_dn13 H (by omega) fun a H => st_dn14 H (by omega) fun a H => st_dn15 H (by omega) fun a H => st_dn16 H (by omega) fun a H => st_dn17 H (by omega) fun a H => st_dn18 H (by omega) fun a H => st_dn19 H (by omega) fun a H => st_up20 H hk h)
theorem st_go22 (H : FrZs v0 v2 v3 v4 (.int .i64 kk) a) (hk : kk = 22) (h : ∀ a', FrZs v0 v2 v3 v4 (.int .i64 kk) a' → (cTz (stC 21 (cI (stB Tryz.f77.body)))).wp Tryz.prog (Exit.inBlock 0 Q) a' W) : (stB Tryz.f77.body).wp Tryz.prog Q a W :=
  st_blk (st_dn0 H (by omega) fun a H => st_dn1 H (by omega) fun a H => st_dn2 H (by omega) fun a H => st_dn3 H (by omega) fun a H => st_dn4 H (by omega) fun a H => st_dn5 H (by omega) fun a H => st_dn6 H (by omega) fun a H => st_dn7 H (by omega) fun a H => st_dn8 H (by omega) fun a H => st_dn9 H (by omega) fun a H => st_dn10 H (by omega) fun a H => st_dn11 H (by omega) fun a H => st_dn12 H (by omega) fun a H => st_dn13 H (by omega) fun a H => st_dn14 H (by omega) fun a H => st_dn15 H (by omega) fun a H => st_dn16 H (by omega) fun a H => st_dn17 H (by omega) fun a H => st_dn18 H (by omega) fun a H => st_dn19 H (by omega) fun a H => st_dn20 H (by omega) fun a H => st_up21 H hk h)
theorem st_go23 (H : FrZs v0 v2 v3 v4 (.int .i64 kk) a) (hk : kk = 23) (h : ∀ a', FrZs v0 v2 v3 v4 (.int .i64 kk) a' → (cTz (stC 22 (cI (stB Tryz.f77.body)))).wp Tryz.prog (Exit.inBlock 0 Q) a' W) : (stB Tryz.f77.body).wp Tryz.prog Q a W :=
  st_blk (st_dn0 H (by omega) fun a H => st_dn1 H (by omega) fun a H => st_dn2 H (by omega) fun a H => st_dn3 H (by omega) fun a H => st_dn4 H (by omega) fun a H => st_dn5 H (by omega) fun a H => st_dn6 H (by omega) fun a H => st_dn7 H (by omega) fun a H => st_dn8 H (by omega) fun a H => st_dn9 H (by omega) fun a H => st_dn10 H (by omega) fun a H => st_dn11 H (by omega) fun a H => st_dn12 H (by omega) fun a H => st_dn13 H (by omega) fun a H => st_dn14 H (by omega) fun a H => st_dn15 H (by omega) fun a H => st_dn16 H (by omega) fun a H => st_dn17 H (by omega) fun a H => st_dn18 H (by omega) fun a H => st_dn19 H (by omega) fun a H => st_dn20 H (by omega) fun a H => st_dn21 H (by omega) fun a H => st_up22 H hk h)
theorem st_go24 (H : FrZs v0 v2 v3 v4 (.int .i64 kk) a) (hk : kk = 24) (h : ∀ a', FrZs v0 v2 v3 v4 (.int .i64 kk) a' → (cTz (stC 23 (cI (stB Tryz.f77.body)))).wp Tryz.prog (Exit.inBlock 0 Q) a' W) : (stB Tryz.f77.body).wp Tryz.prog Q a W :=
  st_blk (st_dn0 H (by omega) fun a H => st_dn1 H (by omega) fun a H => st_dn2 H (by omega) fun a H => st_dn3 H (by omega) fun a H => st_dn4 H (by omega) fun a H => st_dn5 H (by omega) fun a H => st_dn6 H (by omega) fun a H => st_dn7 H (by omega) fun a H => st_dn8 H (by omega) fun a H => st_dn9 H (by omega) fun a H => st_dn10 H (by omega) fun a H => st_dn11 H (by omega) fun a H => st_dn12 H (by omega) fun a H => st_dn13 H (by omega) fun a H => st_dn14 H (by omega) fun a H => st_dn15 H (by omega) fun a H => st_dn16 H (by omega) fun a H => st_dn17 H (by omega) fun a H => st_dn18 H (by omega) fun a H => st_dn19 H (by omega) fun a H => st_dn20 H (by omega) fun a H => st_dn21 H (by omega) fun a H => st_dn22 H (by omega) fun a H => st_up23 H hk h)
theorem st_go25 (H : FrZs v0 v2 v3 v4 (.int .i64 kk) a) (hk : kk = 25) (h : ∀ a', FrZs v0 v2 v3 v4 (.int .i64 kk) a' → (cTz (stC 24 (cI (stB Tryz.f77.body)))).wp Tryz.prog (Exit.inBlock 0 Q) a' W) : (stB Tryz.f77.body).wp Tryz.prog Q a W :=
  st_blk (st_dn0 H (by omega) fun a H => st_dn1 H (by omega) fun a H => st_dn2 H (by omega) fun a H => st_dn3 H (by omega) fun a H => st_dn4 H (by omega) fun a H => st_dn5 H (by omega) fun a H => st_dn6 H (by omega) fun a H => st_dn7 H (by omega) fun a H => st_dn8 H (by omega) fun a H => st_dn9 H (by omega) fun a H => st_dn10 H (by omega) fun a H => st_dn11 H (by omega) fun a H => st_dn12 H (by omega) fun a H => st_dn13 H (by omega) fun a H => st_dn14 H (by omega) fun a H => st_dn15 H (by omega) fun a H => st_dn16 H (by omega) fun a H => st_dn17 H (by omega) fun a H => st_dn18 H (by omega) fun a H => st_dn19 H (by omega) fun a H => st_dn20 H (by omega) fun a H => st_dn21 H (by omega) fun a H => st_dn22 H (by omega) fun a H => st_dn23 H (by omega) fun a H => st_up24 H hk h)
theorem st_go26 (H : FrZs v0 v2 v3 v4 (.int .i64 kk) a) (hk : kk = 26) (h : ∀ a', FrZs v0 v2 v3 v4 (.int .i64 kk) a' → (cTz (stC 25 (cI (stB Tryz.f77.body)))).wp Tryz.prog (Exit.inBlock 0 Q) a' W) : (stB Tryz.f77.body).wp Tryz.prog Q a W :=
  st_blk (st_dn0 H (by omega) fun a H => st_dn1 H (by omega) fun a H => st_dn2 H (by omega) fun a H => st_dn3 H (by omega) fun a H => st_dn4 H (by omega) fun a H => st_dn5 H (by omega) fun a H => st_dn6 H (by omega) fun a H => st_dn7 H (by omega) fun a H => st_dn8 H (by omega) fun a H => st_dn9 H (by omega) fun a H => st_dn10 H (by omega) fun a H => st_dn11 H (by omega) fun a H => st_dn12 H (by omega) fun a H => st_dn13 H (by omega) fun a H => st_dn14 H (by omega) fun a H => st_dn15 H (by omega) fun a H => st_dn16 H (by omega) fun a H => st_dn17 H (by omega) fun a H => st_dn18 H (by omega) fun a H => st_dn19 H (by omega) fun a H => st_dn20 H (by omega) fun a H => st_dn21 H (by omega) fun a H => st_dn22 H (by omega) fun a H => st_dn23 H (by omega) fun a H => st_dn24 H (by omega) fun a H => st_up25 H hk h)
theorem st_go27 (H : FrZs v0 v2 v3 v4 (.int .i64 kk) a) (hk : kk = 27) (h : ∀ a', FrZs v0 v2 v3 v4 (.int .i64 kk) a' → (cTz (stC 26 (cI (stB Tryz.f77.body)))).wp Tryz.prog (Exit.inBlock 0 Q) a' W) : (stB Tryz.f77.body).wp Tryz.prog Q a W :=
  st_blk (st_dn0 H (by omega) fun a H => st_dn1 H (by omega) fun a H => st_dn2 H (by omega) fun a H => st_dn3 H (by omega) fun a H => st_dn4 H (by omega) fun a H => st_dn5 H (by omega) fun a H => st_dn6 H (by omega) fun a H => st_dn7 H (by omega) fun a H => st_dn8 H (by omega) fun a H => st_dn9 H (by omega) fun a H => st_dn10 H (by omega) fun a H => st_dn11 H (by omega) fun a H => st_dn12 H (by omega) fun a H => st_dn13 H (by omega) fun a H => st_dn14 H (by omega) fun a H => st_dn15 H (by omega) fun a H => st_dn16 H (by omega) fun a H => st_dn17 H (by omega) fun a H => st_dn18 H (by omega) fun a H => st_dn19 H (by omega) fun a H => st_dn20 H (by omega) fun a H => st_dn21 H (by omega) fun a H => st_dn22 H (by omega) fun a H => st_dn23 H (by omega) fun a H => st_dn24 H (by omega) fun a H => st_dn25 H (by omega) fun a H => st_up26 H hk h)
theorem st_go28 (H : FrZs v0 v2 v3 v4 (.int .i64 kk) a) (hk : kk = 28) (h : ∀ a', FrZs v0 v2 v3 v4 (.int .i64 kk) a' → (cTz (stC 27 (cI (stB Tryz.f77.body)))).wp Tryz.prog (Exit.inBlock 0 Q) a' W) : (stB Tryz.f77.body).wp Tryz.prog Q a W :=
  st_blk (st_dn0 H (by omega) fun a H => st_dn1 H (by omega) fun a H => st_dn2 H (by omega) fun a H => st_dn3 H (by omega) fun a H => st_dn4 H (by omega) fun a H => st_dn5 H (by omega) fun a H => st_dn6 H (by omega) fun a H => st_dn7 H (by omega) fun a H => st_dn8 H (by omega) fun a H => st_dn9 H (by omega) fun a H => st_dn10 H (by omega) fun a H => st_dn11 H (by omega) fun a H => st_dn12 H (by omega) fun a H => st_dn13 H (by omega) fun a H => st_dn14 H (by omega) fun a H => st_dn15 H (by omega) fun a H => st_dn16 H (by omega) fun a H => st_dn17 H (by omega) fun a H => st_dn18 H (by omega) fun a H => st_dn19 H (by omega) fun a H => st_dn20 H (by omega) fun a H => st_dn21 H (by omega) fun a H => st_dn22 H (by omega) fun a H => st_dn23 H (by omega) fun a H => st_dn24 H (by omega) fun a H => st_dn25 H (by omega) fun a H => st_dn26 H (by omega) fun a H => st_up27 H hk h)
end
end Go.Proofs.Qxb6500574aGreatDoor
