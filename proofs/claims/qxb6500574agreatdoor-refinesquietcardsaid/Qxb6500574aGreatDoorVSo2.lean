/-
  THE WALK of vm: sound: 31.
-/
import Derived.Test.Qxb6500574aGreatDoorVSo0
import Derived.Test.Qxb6500574aGreatDoorVPlAny
namespace Go.Proofs.Qxb6500574aGreatDoor
open Go Go.RowKit
set_option linter.unusedVariables false
set_option linter.unusedSimpArgs false
theorem sl31 {gs b x n c : Nat} (h : b + x + 3 ≤ n) (hc : n ≤ c) (hn : n ≤ 100000) {W : World} : (Instr.sliceAt 85 (.slice (some ⟨gs, 0, none⟩) n c) (some (.int .i64 ((b : Int) + (x : Int)))) (some (.int .i64 ((b : Int) + (x : Int) + 3))) none).run Tryz.prog W = .ok (.slice (some ⟨gs, (b + x) * 3, none⟩) 3 (c - (b + x))) W := by
  have hu : Tryz.prog.underlying 85 = some (.slice (Tryz.prog.elem 85)) := by kernel_rfl
  have hz : ∀ W, (sizeOf (Tryz.prog.elem 85)).run Tryz.prog W = .ok 3 W := fun W => by kernel_rfl
  rw [run_sliceAt_slice _ _ _ _ _ _ hu]
  have := run_slice_lh (P := Tryz.prog) W 85 (some ⟨gs, 0, none⟩) n c hu .i64 .i64 ((b : Int) + (x : Int)) ((b : Int) + (x : Int) + 3) (by omega) (by omega) (by omega)
  rw [this, hz]
  have h3 : ((b : Int) + (x : Int)).toNat = b + x := by omega
  have h4 : ((b : Int) + (x : Int) + 3).toNat = b + x + 3 := by omega
  simp only [Result.andThen_ok, sliced, h3, h4]
  rw [if_neg (by omega), Option.map_some, addr_lit, Nat.zero_add, Nat.add_sub_cancel_left]
section
variable {w : World} {A : VL} {m : VMD} {f e i g j gp pi : Nat} {t : ThD} {K : Cx} {fm : FmD} {p : PrD}
set_option maxRecDepth 100000
set_option maxHeartbeats 600000
theorem sound_31 (h : PB w A m f e K i t fm g j gp pi p) {x : Nat} (hx16 : x < 65536)  : Calls Tryz.prog 263 #[.pointer (some ⟨A.b, 0, none⟩), .pointer (some ⟨A.bT, i * 5, none⟩), .pointer (some ⟨g, j * 5, none⟩), .pointer (some ⟨gp, pi * 8, none⟩), .int .u8 31, .int .i64 x] w (SoPost (soundP m i 31 x) w) := by
  obtain ⟨Q, HQ⟩ : ∃ Q : Ending → World → Prop, Hid (SoPost (soundP m i 31 x) w = Q) := ⟨_, rfl⟩
  rw [HQ.out]
  obtain ⟨gk, nup, NC, S⟩ := h.sc
  have HNU : Hid ((m.clos.getD fm.clo cl0).nup = nup) := S.nu
  have HS : Hid (soundP m i 31 x = decide (x + 3 < p.ns ∧ (t.stack.getD (fm.base + x) nilV).t = 2 ∧ (t.stack.getD (fm.base + x + 1) nilV).t = 2 ∧ (t.stack.getD (fm.base + x + 2) nilV).t = 2)) := by
    have hpe := h.pe
    have htf := (plP_is h).1
    have hth := (plP_is h).2
    have hnu := S.nu
    show _ = _
    unfold soundP
    dsimp only
    rw [htf, hth, hpe, hnu]
    simp (config := { decide := true }) only [if_true, if_false]
  rw [HS.out] at HQ
  have HB : Hid (PB w A m f e K i t fm g j gp pi p) := h
  obtain ⟨c1, c2, c3, c4, c5, c6, c7, c8, c9, c10, c11, c12, c13, c14⟩ := S
  clear c14 h
  go_enter Tryz.func263, Tryz.ntmps263
  go_wp2_with fail
  refine wp_region_tail 11 (by kernel_rfl) (by kernel_rfl) (fun _ _ _ _ _ h => h) ?_
  simp only [List.take_succ_cons, List.take_zero, List.drop_succ_cons, List.drop_zero]
  repeat go_big_quiet_step (fail)
  refine wpQuiet_nil ?_
  by_cases h2 : x + 3 < p.ns
  · have b2 : decide ((x : Int) + 3 ≥ (p.ns : Int)) = false := by rw [decide_eq_false_iff_not]; omega
    obtain ⟨l, hx, hg, u1, u2, u3, u4, u5, u6, u7, u8, u9, u10, u11, u12⟩ := HB.out.cells
    clear u3 u5 u6 u7 u8
    obtain ⟨s0, q0⟩ : ∃ v, t.stack[fm.base + x]? = some v := ⟨_, List.getElem?_eq_getElem (by omega)⟩
    obtain ⟨s1, q1⟩ : ∃ v, t.stack[fm.base + x + 1]? = some v := ⟨_, List.getElem?_eq_getElem (by omega)⟩
    obtain ⟨s2, q2⟩ : ∃ v, t.stack[fm.base + x + 2]? = some v := ⟨_, List.getElem?_eq_getElem (by omega)⟩
    have hr0 : t.stack.getD (fm.base + x) nilV = s0 := by simp [q0]
    have hr1 : t.stack.getD (fm.base + x + 1) nilV = s1 := by simp [q1]
    have hr2 : t.stack.getD (fm.base + x + 2) nilV = s2 := by simp [q2]
    rw [hr0, hr1, hr2] at HQ
    clear hr0 hr1 hr2
    obtain ⟨gs, a1, a2, a3, a4, a5, a6, a7, a8⟩ := HB.out.rep.val HB.out.at'.hi hx q0
    obtain ⟨gs1, e1, e2, e3, e4, e5, e6, e7, e8⟩ := HB.out.rep.val HB.out.at'.hi hx q1
    rw [a1] at e1
    cases e1
    obtain ⟨gs2, d1, d2, d3, d4, d5, d6, d7, d8⟩ := HB.out.rep.val HB.out.at'.hi hx q2
    rw [a1] at d1
    cases d1
    rw [show (fm.base + x + 1) * 3 = (fm.base + x) * 3 + 3 by omega] at e5
    rw [show (fm.base + x + 2) * 3 = (fm.base + x) * 3 + 6 by omega] at d5
    rw [a1] at u1
    clear a3 a6 a7 a8 e2 e3 e4 e6 e7 e8 d2 d3 d4 d6 d7 d8 q0 q1 q2 hx hg
    obtain ⟨n, HN⟩ : ∃ n, Hid (t.stack.length = n) := ⟨_, rfl⟩
    rw [HN.out] at u1 u9 u10 u11 a2
    have hsl : ∀ W, (Instr.sliceAt 85 (.slice (some ⟨gs, 0, none⟩) n l.s.c) (some (.int .i64 ((fm.base : Int) + (x : Int)))) (some (.int .i64 ((fm.base : Int) + (x : Int) + 3))) none).run Tryz.prog W = .ok (.slice (some ⟨gs, (fm.base + x) * 3, none⟩) 3 (l.s.c - (fm.base + x))) W := fun W => sl31 (by omega) (by omega) (by omega)
    obtain ⟨t0, n0, z0⟩ := s0
    obtain ⟨t1, n1, z1⟩ := s1
    obtain ⟨t2, n2, z2⟩ := s2
    dsimp only at a5 e5 d5
    obtain ⟨CC, HCC⟩ : ∃ CC, Hid (l.s.c - (fm.base + x) = CC) := ⟨_, rfl⟩
    rw [HCC.out] at hsl
    go_wp2_with fail
    refine wp_region_tail 18 (by kernel_rfl) (by kernel_rfl) (fun _ _ _ _ _ h => h) ?_
    simp only [List.take_succ_cons, List.take_zero, List.drop_succ_cons, List.drop_zero]
    repeat go_big_quiet_step (fail)
    refine wpQuiet_nil ?_
    try dsimp only at HQ
    by_cases ht0 : t0 = 2
    · subst ht0
      by_cases ht1 : t1 = 2
      · subst ht1
        by_cases ht2 : t2 = 2
        · subst ht2
          have hr : decide (x + 3 < p.ns ∧ (2 : Int) = 2 ∧ (2 : Int) = 2 ∧ (2 : Int) = 2) = true := by rw [decide_eq_true_iff]; exact ⟨h2, rfl, rfl, rfl⟩
          rw [hr] at HQ
          clear hr
          go_wp2_with fail
          rw [← HQ.out]
          exact ⟨by simp, (((Fr.refl _ _).drew).drew)⟩
        · have hb2 : (t2 == 2) = false := by rw [beq_eq_false_iff_ne]; exact ht2
          have hr : decide (x + 3 < p.ns ∧ (2 : Int) = 2 ∧ (2 : Int) = 2 ∧ t2 = 2) = false := by rw [decide_eq_false_iff_not]; exact fun h => ht2 h.2.2.2
          rw [hr] at HQ
          clear hr ht2
          go_wp2_with fail
          rw [← HQ.out]
          exact ⟨by simp, (((Fr.refl _ _).drew).drew)⟩
      · have hb1 : (t1 == 2) = false := by rw [beq_eq_false_iff_ne]; exact ht1
        have hr : decide (x + 3 < p.ns ∧ (2 : Int) = 2 ∧ t1 = 2 ∧ t2 = 2) = false := by rw [decide_eq_false_iff_not]; exact fun h => ht1 h.2.2.1
        rw [hr] at HQ
        clear hr ht1
        go_wp2_with fail
        rw [← HQ.out]
        exact ⟨by simp, (((Fr.refl _ _).drew).drew)⟩
    · have hb0 : (t0 == 2) = false := by rw [beq_eq_false_iff_ne]; exact ht0
      have hr : decide (x + 3 < p.ns ∧ t0 = 2 ∧ t1 = 2 ∧ t2 = 2) = false := by rw [decide_eq_false_iff_not]; exact fun h => ht0 h.2.1
      rw [hr] at HQ
      clear hr ht0
      go_wp2_with fail
      rw [← HQ.out]
      exact ⟨by simp, (((Fr.refl _ _).drew).drew)⟩
  · have b2 : decide ((x : Int) + 3 ≥ (p.ns : Int)) = true := by rw [decide_eq_true_iff]; omega
    have hr : decide (x + 3 < p.ns ∧ (t.stack.getD (fm.base + x) nilV).t = 2 ∧ (t.stack.getD (fm.base + x + 1) nilV).t = 2 ∧ (t.stack.getD (fm.base + x + 2) nilV).t = 2) = false := by rw [decide_eq_false_iff_not]; exact fun h => h2 h.1
    rw [hr] at HQ
    clear hr
    go_wp2_with fail
    rw [← HQ.out]
    exact ⟨by simp, ((Fr.refl _ _).drew)⟩
end
end Go.Proofs.Qxb6500574aGreatDoor
