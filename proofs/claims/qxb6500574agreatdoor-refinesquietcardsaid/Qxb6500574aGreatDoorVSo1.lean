/-
  THE WALK of vm: sound: names, the rest.
-/
import Derived.Test.Qxb6500574aGreatDoorVSo0
import Derived.Test.Qxb6500574aGreatDoorVPlAny
namespace Go.Proofs.Qxb6500574aGreatDoor
open Go Go.RowKit
set_option linter.unusedVariables false
set_option linter.unusedSimpArgs false
section
variable {w : World} {A : VL} {m : VMD} {f e i g j gp pi : Nat} {t : ThD} {K : Cx} {fm : FmD} {p : PrD}
set_option maxRecDepth 100000
set_option maxHeartbeats 600000
theorem sound_9 (h : PB w A m f e K i t fm g j gp pi p) {x : Nat} (hx16 : x < 65536)  : Calls Tryz.prog 263 #[.pointer (some ⟨A.b, 0, none⟩), .pointer (some ⟨A.bT, i * 5, none⟩), .pointer (some ⟨g, j * 5, none⟩), .pointer (some ⟨gp, pi * 8, none⟩), .int .u8 9, .int .i64 x] w (SoPost (soundP m i 9 x) w) := by
  obtain ⟨Q, HQ⟩ : ∃ Q : Ending → World → Prop, Hid (SoPost (soundP m i 9 x) w = Q) := ⟨_, rfl⟩
  rw [HQ.out]
  obtain ⟨gk, nup, NC, S⟩ := h.sc
  have HNU : Hid ((m.clos.getD fm.clo cl0).nup = nup) := S.nu
  have HS : Hid (soundP m i 9 x = decide (x < p.nk ∧ (m.consts.getD (p.k + x) nilV).t = 3)) := by
    have hpe := h.pe
    have htf := (plP_is h).1
    have hth := (plP_is h).2
    have hnu := S.nu
    show _ = _
    unfold soundP
    dsimp only
    rw [htf, hth, hpe, hnu]
    simp (config := { decide := true }) only [if_true, if_false]
  rw [HS.out] at HQ
  have HB : Hid (PB w A m f e K i t fm g j gp pi p) := h
  obtain ⟨c1, c2, c3, c4, c5, c6, c7, c8, c9, c10, c11, c12, c13, c14⟩ := S
  clear c14 h
  go_enter Tryz.func263, Tryz.ntmps263
  go_wp2_with fail
  refine wp_region_tail 11 (by kernel_rfl) (by kernel_rfl) (fun _ _ _ _ _ h => h) ?_
  simp only [List.take_succ_cons, List.take_zero, List.drop_succ_cons, List.drop_zero]
  repeat go_big_quiet_step (fail)
  refine wpQuiet_nil ?_
  by_cases h2 : x < p.nk
  · have b2 : decide ((x : Int) < (p.nk : Int)) = true := by rw [decide_eq_true_iff]; omega
    obtain ⟨c, hc⟩ := const_at HB.out h2
    have HC : Hid (m.consts[p.k + x]? = some c) := hc
    obtain ⟨gc, k1, k2, k3, k4, k5, k6⟩ := HB.out.rep.core.consts.at vCells_len hc
    have k50 := k5 0 (by omega)
    simp only [vCells, List.getElem?_cons_zero, Nat.add_zero] at k50
    have c4c := HB.out.rep.cell0 4
    simp only [vmCells, List.getElem?_toArray, List.getElem?_cons_succ, List.getElem?_cons_zero, Sl.v, k1] at c4c
    have hl := (List.getElem?_eq_some_iff.1 hc).1
    have hkl := HB.out.at'.vi.txt.kl
    obtain ⟨NK, HNK⟩ : ∃ N, Hid (m.consts.length = N) := ⟨_, rfl⟩
    rw [HNK.out] at hl hkl c4c
    obtain ⟨ct, cn, cs⟩ := c
    dsimp only at k50
    clear k5 k6 hc k1 k3
    by_cases hct : ct = 3
    · subst hct
      have hr : decide (x < p.nk ∧ (m.consts.getD (p.k + x) nilV).t = 3) = true := by
        rw [decide_eq_true_iff]
        exact ⟨h2, by simp [HC.out]⟩
      rw [hr] at HQ
      clear hr
      go_wp2_with fail
      refine C.wp_region_tail 22 (by kernel_rfl) (by kernel_rfl) (fun _ _ _ _ _ h => h) ?_
      simp only [List.take_succ_cons, List.take_zero, List.drop_succ_cons, List.drop_zero]
      repeat go_big_quiet_step (fail)
      refine wpQuiet_nil ?_
      go_wp2_with fail
      rw [← HQ.out]
      exact ⟨by simp, (((Fr.refl _ _).drew).drew)⟩
    · have hctb : (ct == 3) = false := by rw [beq_eq_false_iff_ne]; exact hct
      have hr : decide (x < p.nk ∧ (m.consts.getD (p.k + x) nilV).t = 3) = false := by
        rw [decide_eq_false_iff_not]
        intro h
        have h3 := h.2
        simp [HC.out] at h3
        exact hct h3
      rw [hr] at HQ
      clear hr
      clear hct
      go_wp2_with fail
      refine C.wp_region_tail 22 (by kernel_rfl) (by kernel_rfl) (fun _ _ _ _ _ h => h) ?_
      simp only [List.take_succ_cons, List.take_zero, List.drop_succ_cons, List.drop_zero]
      repeat go_big_quiet_step (fail)
      refine wpQuiet_nil ?_
      go_wp2_with fail
      rw [← HQ.out]
      exact ⟨by simp, (((Fr.refl _ _).drew).drew)⟩
  · have b2 : decide ((x : Int) < (p.nk : Int)) = false := by rw [decide_eq_false_iff_not]; omega
    have hr : decide (x < p.nk ∧ (m.consts.getD (p.k + x) nilV).t = 3) = false := by rw [decide_eq_false_iff_not]; exact fun h => h2 h.1
    rw [hr] at HQ
    clear hr
    go_wp2_with fail
    refine C.wp_region_tail 22 (by kernel_rfl) (by kernel_rfl) (fun _ _ _ _ _ h => h) ?_
    simp only [List.take_succ_cons, List.take_zero, List.drop_succ_cons, List.drop_zero]
    repeat go_big_quiet_step (fail)
    refine wpQuiet_nil ?_
    go_wp2_with fail
    rw [← HQ.out]
    exact ⟨by simp, (((Fr.refl _ _).drew).drew)⟩
theorem sound_10 (h : PB w A m f e K i t fm g j gp pi p) {x : Nat} (hx16 : x < 65536)  : Calls Tryz.prog 263 #[.pointer (some ⟨A.b, 0, none⟩), .pointer (some ⟨A.bT, i * 5, none⟩), .pointer (some ⟨g, j * 5, none⟩), .pointer (some ⟨gp, pi * 8, none⟩), .int .u8 10, .int .i64 x] w (SoPost (soundP m i 10 x) w) := by
  obtain ⟨Q, HQ⟩ : ∃ Q : Ending → World → Prop, Hid (SoPost (soundP m i 10 x) w = Q) := ⟨_, rfl⟩
  rw [HQ.out]
  obtain ⟨gk, nup, NC, S⟩ := h.sc
  have HNU : Hid ((m.clos.getD fm.clo cl0).nup = nup) := S.nu
  have HS : Hid (soundP m i 10 x = decide (x < p.nk ∧ (m.consts.getD (p.k + x) nilV).t = 3)) := by
    have hpe := h.pe
    have htf := (plP_is h).1
    have hth := (plP_is h).2
    have hnu := S.nu
    show _ = _
    unfold soundP
    dsimp only
    rw [htf, hth, hpe, hnu]
    simp (config := { decide := true }) only [if_true, if_false]
  rw [HS.out] at HQ
  have HB : Hid (PB w A m f e K i t fm g j gp pi p) := h
  obtain ⟨c1, c2, c3, c4, c5, c6, c7, c8, c9, c10, c11, c12, c13, c14⟩ := S
  clear c14 h
  go_enter Tryz.func263, Tryz.ntmps263
  go_wp2_with fail
  refine wp_region_tail 11 (by kernel_rfl) (by kernel_rfl) (fun _ _ _ _ _ h => h) ?_
  simp only [List.take_succ_cons, List.take_zero, List.drop_succ_cons, List.drop_zero]
  repeat go_big_quiet_step (fail)
  refine wpQuiet_nil ?_
  by_cases h2 : x < p.nk
  · have b2 : decide ((x : Int) < (p.nk : Int)) = true := by rw [decide_eq_true_iff]; omega
    obtain ⟨c, hc⟩ := const_at HB.out h2
    have HC : Hid (m.consts[p.k + x]? = some c) := hc
    obtain ⟨gc, k1, k2, k3, k4, k5, k6⟩ := HB.out.rep.core.consts.at vCells_len hc
    have k50 := k5 0 (by omega)
    simp only [vCells, List.getElem?_cons_zero, Nat.add_zero] at k50
    have c4c := HB.out.rep.cell0 4
    simp only [vmCells, List.getElem?_toArray, List.getElem?_cons_succ, List.getElem?_cons_zero, Sl.v, k1] at c4c
    have hl := (List.getElem?_eq_some_iff.1 hc).1
    have hkl := HB.out.at'.vi.txt.kl
    obtain ⟨NK, HNK⟩ : ∃ N, Hid (m.consts.length = N) := ⟨_, rfl⟩
    rw [HNK.out] at hl hkl c4c
    obtain ⟨ct, cn, cs⟩ := c
    dsimp only at k50
    clear k5 k6 hc k1 k3
    by_cases hct : ct = 3
    · subst hct
      have hr : decide (x < p.nk ∧ (m.consts.getD (p.k + x) nilV).t = 3) = true := by
        rw [decide_eq_true_iff]
        exact ⟨h2, by simp [HC.out]⟩
      rw [hr] at HQ
      clear hr
      go_wp2_with fail
      refine C.wp_region_tail 22 (by kernel_rfl) (by kernel_rfl) (fun _ _ _ _ _ h => h) ?_
      simp only [List.take_succ_cons, List.take_zero, List.drop_succ_cons, List.drop_zero]
      repeat go_big_quiet_step (fail)
      refine wpQuiet_nil ?_
      go_wp2_with fail
      rw [← HQ.out]
      exact ⟨by simp, (((Fr.refl _ _).drew).drew)⟩
    · have hctb : (ct == 3) = false := by rw [beq_eq_false_iff_ne]; exact hct
      have hr : decide (x < p.nk ∧ (m.consts.getD (p.k + x) nilV).t = 3) = false := by
        rw [decide_eq_false_iff_not]
        intro h
        have h3 := h.2
        simp [HC.out] at h3
        exact hct h3
      rw [hr] at HQ
      clear hr
      clear hct
      go_wp2_with fail
      refine C.wp_region_tail 22 (by kernel_rfl) (by kernel_rfl) (fun _ _ _ _ _ h => h) ?_
      simp only [List.take_succ_cons, List.take_zero, List.drop_succ_cons, List.drop_zero]
      repeat go_big_quiet_step (fail)
      refine wpQuiet_nil ?_
      go_wp2_with fail
      rw [← HQ.out]
      exact ⟨by simp, (((Fr.refl _ _).drew).drew)⟩
  · have b2 : decide ((x : Int) < (p.nk : Int)) = false := by rw [decide_eq_false_iff_not]; omega
    have hr : decide (x < p.nk ∧ (m.consts.getD (p.k + x) nilV).t = 3) = false := by rw [decide_eq_false_iff_not]; exact fun h => h2 h.1
    rw [hr] at HQ
    clear hr
    go_wp2_with fail
    refine C.wp_region_tail 22 (by kernel_rfl) (by kernel_rfl) (fun _ _ _ _ _ h => h) ?_
    simp only [List.take_succ_cons, List.take_zero, List.drop_succ_cons, List.drop_zero]
    repeat go_big_quiet_step (fail)
    refine wpQuiet_nil ?_
    go_wp2_with fail
    rw [← HQ.out]
    exact ⟨by simp, (((Fr.refl _ _).drew).drew)⟩
theorem sound_rest (h : PB w A m f e K i t fm g j gp pi p) {op x : Nat} (hop : op < 256) (hx16 : x < 65536) (k1 : op ≠ 1) (k9 : op ≠ 9) (k10 : op ≠ 10) (k5 : op ≠ 5) (k6 : op ≠ 6) (k7 : op ≠ 7) (k8 : op ≠ 8) (k15 : op ≠ 15) (k16 : op ≠ 16) (k21 : op ≠ 21) (k22 : op ≠ 22) (k23 : op ≠ 23) (k24 : op ≠ 24) (k26 : op ≠ 26) (k29 : op ≠ 29) (k30 : op ≠ 30) (k32 : op ≠ 32) (k31 : op ≠ 31) (k28 : op ≠ 28) : Calls Tryz.prog 263 #[.pointer (some ⟨A.b, 0, none⟩), .pointer (some ⟨A.bT, i * 5, none⟩), .pointer (some ⟨g, j * 5, none⟩), .pointer (some ⟨gp, pi * 8, none⟩), .int .u8 op, .int .i64 x] w (SoPost (soundP m i op x) w) := by
  obtain ⟨Q, HQ⟩ : ∃ Q : Ending → World → Prop, Hid (SoPost (soundP m i op x) w = Q) := ⟨_, rfl⟩
  rw [HQ.out]
  obtain ⟨gk, nup, NC, S⟩ := h.sc
  have HNU : Hid ((m.clos.getD fm.clo cl0).nup = nup) := S.nu
  have HS : Hid (soundP m i op x = decide (1 ≤ op ∧ op ≤ 32)) := by
    have hpe := h.pe
    have htf := (plP_is h).1
    have hth := (plP_is h).2
    have hnu := S.nu
    show _ = _
    unfold soundP
    dsimp only
    rw [htf, hth, hpe, hnu]
    rw [if_neg k1, if_neg (not_or.2 ⟨k9, k10⟩), if_neg (not_or.2 ⟨k5, k6⟩), if_neg (not_or.2 ⟨k7, k8⟩), if_neg k15, if_neg k16, if_neg (not_or.2 ⟨k21, not_or.2 ⟨k22, not_or.2 ⟨k23, k24⟩⟩⟩), if_neg k26, if_neg k29, if_neg (not_or.2 ⟨k30, k32⟩), if_neg k31, if_neg k28]
  rw [HS.out] at HQ
  have HB : Hid (PB w A m f e K i t fm g j gp pi p) := h
  obtain ⟨c1, c2, c3, c4, c5, c6, c7, c8, c9, c10, c11, c12, c13, c14⟩ := S
  clear c14 h
  have b1 : ((op : Int) == 1) = false := by rw [beq_eq_false_iff_ne]; omega
  have b9 : ((op : Int) == 9) = false := by rw [beq_eq_false_iff_ne]; omega
  have b10 : ((op : Int) == 10) = false := by rw [beq_eq_false_iff_ne]; omega
  have b5 : ((op : Int) == 5) = false := by rw [beq_eq_false_iff_ne]; omega
  have b6 : ((op : Int) == 6) = false := by rw [beq_eq_false_iff_ne]; omega
  have b7 : ((op : Int) == 7) = false := by rw [beq_eq_false_iff_ne]; omega
  have b8 : ((op : Int) == 8) = false := by rw [beq_eq_false_iff_ne]; omega
  have b15 : ((op : Int) == 15) = false := by rw [beq_eq_false_iff_ne]; omega
  have b16 : ((op : Int) == 16) = false := by rw [beq_eq_false_iff_ne]; omega
  have b21 : ((op : Int) == 21) = false := by rw [beq_eq_false_iff_ne]; omega
  have b22 : ((op : Int) == 22) = false := by rw [beq_eq_false_iff_ne]; omega
  have b23 : ((op : Int) == 23) = false := by rw [beq_eq_false_iff_ne]; omega
  have b24 : ((op : Int) == 24) = false := by rw [beq_eq_false_iff_ne]; omega
  have b26 : ((op : Int) == 26) = false := by rw [beq_eq_false_iff_ne]; omega
  have b29 : ((op : Int) == 29) = false := by rw [beq_eq_false_iff_ne]; omega
  have b30 : ((op : Int) == 30) = false := by rw [beq_eq_false_iff_ne]; omega
  have b32 : ((op : Int) == 32) = false := by rw [beq_eq_false_iff_ne]; omega
  have b31 : ((op : Int) == 31) = false := by rw [beq_eq_false_iff_ne]; omega
  have b28 : ((op : Int) == 28) = false := by rw [beq_eq_false_iff_ne]; omega
  clear k1 k9 k10 k5 k6 k7 k8 k15 k16 k21 k22 k23 k24 k26 k29 k30 k32 k31 k28
  go_enter Tryz.func263, Tryz.ntmps263
  go_wp2_with fail
  refine wp_region_tail 11 (by kernel_rfl) (by kernel_rfl) (fun _ _ _ _ _ h => h) ?_
  simp only [List.take_succ_cons, List.take_zero, List.drop_succ_cons, List.drop_zero]
  repeat go_big_quiet_step (fail)
  refine wpQuiet_nil ?_
  by_cases h1 : 1 ≤ op
  · have d1 : decide ((op : Int) ≥ 1) = true := by rw [decide_eq_true_iff]; omega
    by_cases h2 : op ≤ 32
    · have d2 : decide ((op : Int) ≤ 32) = true := by rw [decide_eq_true_iff]; omega
      have hr : decide (1 ≤ op ∧ op ≤ 32) = true := by rw [decide_eq_true_iff]; omega
      rw [hr] at HQ
      clear hr
      go_wp2_with fail
      rw [← HQ.out]
      exact ⟨by simp, ((Fr.refl _ _).drew)⟩
    · have d2 : decide ((op : Int) ≤ 32) = false := by rw [decide_eq_false_iff_not]; omega
      have hr : decide (1 ≤ op ∧ op ≤ 32) = false := by rw [decide_eq_false_iff_not]; omega
      rw [hr] at HQ
      clear hr
      go_wp2_with fail
      rw [← HQ.out]
      exact ⟨by simp, ((Fr.refl _ _).drew)⟩
  · have d1 : decide ((op : Int) ≥ 1) = false := by rw [decide_eq_false_iff_not]; omega
    have hr : decide (1 ≤ op ∧ op ≤ 32) = false := by rw [decide_eq_false_iff_not]; omega
    rw [hr] at HQ
    clear hr
    go_wp2_with fail
    rw [← HQ.out]
    exact ⟨by simp, ((Fr.refl _ _).drew)⟩
end
end Go.Proofs.Qxb6500574aGreatDoor
