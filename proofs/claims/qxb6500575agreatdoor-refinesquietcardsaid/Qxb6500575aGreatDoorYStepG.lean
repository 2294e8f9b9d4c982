/-
  THE WALK of runm.step: select. Written by tools/gen_ystep.py.
-/
import Derived.Test.Qxb6500575aGreatDoorYStep2
namespace Go.Proofs.Qxb6500575aGreatDoor
open Go Go.RowKit
set_option linter.unusedVariables false
set_option linter.unusedSimpArgs false

section
variable {R : MP} {H : HF HS} {m : MS} {w : World} {L : NL} {K : ML} {la : Option Addr} {ln lc : Nat} {loc : List V}
set_option maxRecDepth 100000
set_option maxHeartbeats 600000
theorem ystep_sel0 (hO : HostOk R H m) (hW : MW R w L K m) (hL : LocAt R w L (.slice la ln lc) loc) (hu : 0 ≤ m.x.used) (hf : m.x.fuel ≤ 9223372036854775807) (hp : m.x.pay.2 = 0) (depth : Int) (cimm : Int) (ctab : List UInt8) {k b a : V} {r : List V} (hst : m.x.st = k :: b :: a :: r) (hk5 : k.ty = 105) (hab : a.ty = b.ty) (hl : r.length ≤ 800) (hv : k.num = 0) : Calls Tryz.prog 143 #[.pointer (some ⟨R.bn, 0, none⟩), Ins.val ⟨12, cimm, ctab⟩, .slice la ln lc, .int .i64 depth] w (RunPost R H (.slice la ln lc) ⟨-1, 0, loc, m.pd.st (b :: r)⟩ w L K) := by
  obtain ⟨w0, HW0⟩ : ∃ w0, Hid (w0 = w.alloc (.cells #[.int .i64 12, .int .i64 cimm, sv ctab] 67)) := ⟨_, rfl⟩
  obtain ⟨bx, HBX⟩ : ∃ bx, Hid (bx = w.heap.size) := ⟨_, rfl⟩
  have P0 : Hid (StW R (.slice la ln lc) loc w w0 L L K K m bx ⟨12, cimm, ctab⟩) := by
    show StW _ _ _ _ _ _ _ _ _ _ _ _
    rw [HW0.out, HBX.out]
    exact StW.first hW hL ⟨12, cimm, ctab⟩
  have HO : Hid (HostOk R H m.pd) := hO.pay
  clear hW hL hO
  unfold Ins.val
  simp only
  go_enter Tryz.func143, Tryz.ntmps143
  go_wp2_with fail
  rw [← HW0.out, ← HBX.out]
  refine (payed P0.out.mw hu hf hp).mono ?_
  rintro e w1 ⟨rfl, m1, s1⟩
  have P1 : Hid (StW R (.slice la ln lc) loc w w1 L L K K m.pd bx ⟨12, cimm, ctab⟩) := P0.out.stepN m1.inst s1
  have b0 := P1.out.box.cell 0
  have b1 := P1.out.box.cell 1
  have b2 := P1.out.box.cell 2
  simp at b0 b1 b2
  have bl := P1.out.box.lt
  clear P0 HW0 m1 s1
  go_wp2_with fail
  refine (ysig_any 12 (by omega) w1).mono ?_
  rintro e w2 ⟨rfl, hw2⟩
  rw [hw2]
  clear hw2 w2
  rw [show sigM 12 = ([108, 108], [105]) from rfl, show plainOp 12 = false from rfl]
  simp only
  obtain ⟨w2, HW2⟩ : ∃ w2, Hid (w2 = w1.alloc (.cells #[.int .u8 0, .int .i64 0, .int .u8 0, .int .i64 0] 70)) := ⟨_, rfl⟩
  have P2 : Hid (StW R (.slice la ln lc) loc w w2 L L K K m.pd bx ⟨12, cimm, ctab⟩) := by
    show StW _ _ _ _ _ _ _ _ _ _ _ _
    rw [HW2.out]
    exact P1.out.fresh ((Fr.refl _ _).alloc _)
  go_wp2_with fail
  rw [← HW2.out]
  refine (ypop_any P2.out.mw.inst (show m.pd.x.st = k :: b :: a :: r from (pay_st m.x).trans hst) (by simp; omega) hk5).mono ?_
  rintro e w3 ⟨rfl, n3, s3⟩
  have P3 : Hid (StW R (.slice la ln lc) loc w w3 L L K K (m.pd.st (b :: a :: r)) bx ⟨12, cimm, ctab⟩) := P2.out.stepN n3 s3
  clear n3 s3 P1 P2 HW2 b0 b1 b2 bl
  have b0 := P3.out.box.cell 0
  have b1 := P3.out.box.cell 1
  have b2 := P3.out.box.cell 2
  simp at b0 b1 b2
  have bl := P3.out.box.lt
  obtain ⟨kn, HKN⟩ : ∃ kn, Hid (k.num = kn) := ⟨_, rfl⟩
  rw [HKN.out] at hv ⊢
  obtain ⟨g, hsa, a0, a1, a2, a3, gl, gc, hgn, fz0, fz1⟩ := P3.out.mw.inst.top2 (show (m.pd.st (b :: a :: r)).x.st = b :: a :: r from rfl)
  have c3 := P3.out.mw.inst.here.cell 3
  simp only [List.getElem?_toArray, List.getElem?_cons_succ, List.getElem?_cons_zero] at c3
  rw [show (m.pd.st (b :: a :: r)).x.st = b :: a :: r from rfl, hsa, List.length_cons, List.length_cons] at c3
  have f3 := P3.out.mw.inst.here.frozen 3
  have l3 := P3.out.mw.inst.here.lt
  have HSA : Hid (L.sa = some ⟨g, 0, none⟩) := hsa
  obtain ⟨bt, HBT⟩ : ∃ bt : Int, Hid (bt = b.ty.toNat) := ⟨_, rfl⟩
  obtain ⟨bv, HBV⟩ : ∃ bv : Int, Hid (bv = b.num) := ⟨_, rfl⟩
  rw [hab] at a2
  rw [← HBT.out] at a0 a2
  rw [← HBV.out] at a1
  obtain ⟨av, HAV⟩ : ∃ av : Int, Hid (av = a.num) := ⟨_, rfl⟩
  rw [← HAV.out] at a3
  obtain ⟨n, HN⟩ : ∃ n : Nat, Hid (r.length = n) := ⟨_, rfl⟩
  rw [HN.out] at hl c3 gc a0 a1 a2 a3 fz0 fz1
  obtain ⟨n1, HN1⟩ : ∃ n1 : Nat, Hid (n + 1 = n1) := ⟨_, rfl⟩
  have gc1 : n1 + 1 ≤ L.sc := by rw [← HN1.out]; exact gc
  rw [HN1.out] at c3 a0 a1
  have hn1 : (n1 : Int) + 1 - 1 = n1 := by omega
  have hn2 : (n1 : Int) + 1 - 2 = n := by have := HN1.out; omega
  have hn3 : decide ((n1 : Int) + 1 < 2) = false := decide_eq_false (by have := HN1.out; omega)
  have hn4 : (n : Int) < (n1 : Int) + 1 := by have := HN1.out; omega
  clear gc
  have HAB : Hid (a.ty = b.ty) := hab
  clear hst hsa hk5 hab
  go_wp2
  refine wp_region_quiet_lit (by kernel_rfl) (by kernel_rfl) ?_
  repeat go_big_quiet_step (fail)
  refine wpQuiet_nil ?_
  rintro w4 ⟨nq, rfl⟩
  go_wp2
  refine wp_region_tail 23 (by kernel_rfl) (by kernel_rfl) (fun _ _ _ _ _ h => h) ?_
  simp only [List.take_succ_cons, List.take_zero, List.drop_succ_cons, List.drop_zero]
  repeat go_big_quiet_step (fail)
  refine wpQuiet_nil ?_
  go_wp2
  obtain ⟨w5, HW5⟩ : ∃ w5, Hid (w5 = (((w3.drewN (nq + 1)).setCell ⟨g, n * 2, none⟩ (.int .u8 bt)).setCell ⟨g, n * 2 + 1, none⟩ (.int .i64 bv))) := ⟨_, rfl⟩
  rw [← HW5.out]
  have P5 : Hid (StW R (.slice la ln lc) loc w w5 L L K K (m.pd.st (b :: b :: r)) bx ⟨12, cimm, ctab⟩) := by
    show StW _ _ _ _ _ _ _ _ _ _ _ _
    have h4 := P3.out.fresh ((Fr.refl _ _).drewN (nq + 1))
    obtain ⟨r1, r2⟩ := h4.mw.inst.copyTop (show (m.pd.st (b :: a :: r)).x.st = b :: a :: r from rfl) HSA.out
    rw [HN.out, ← HBT.out, ← HBV.out] at r1 r2
    rw [HW5.out]
    exact h4.stepN r1 r2
  clear P3 HW5 c3 f3 l3 a0 a1 a2 a3 gl fz0 fz1 b0 b1 b2 bl
  have FIN : Hid (∀ W, Fr (fun _ => False) w5 W → StW R (.slice la ln lc) loc w (W.setCell ⟨R.bn, 3, none⟩ (.slice (some ⟨g, 0, none⟩) n1 L.sc)) L L K K (m.pd.st (b :: r)) bx ⟨12, cimm, ctab⟩) := fun W hW => by
    obtain ⟨r1, r2⟩ := (P5.out.mw.inst.fresh hW).cutSt [b] (b :: r) rfl
    rw [List.length_cons, HN.out, HN1.out, HSA.out] at r1 r2
    exact (P5.out.fresh hW).stepN r1 r2
  have c5 := P5.out.mw.inst.here.cell 3
  simp only [List.getElem?_toArray, List.getElem?_cons_succ, List.getElem?_cons_zero] at c5
  rw [show (m.pd.st (b :: b :: r)).x.st = b :: b :: r from rfl, HSA.out, List.length_cons, List.length_cons, HN.out, HN1.out] at c5
  have f5 := P5.out.mw.inst.here.frozen 3
  have l5 := P5.out.mw.inst.here.lt
  clear P5
  refine wp_region_tail 12 (by kernel_rfl) (by kernel_rfl) (fun _ _ _ _ _ h => h) ?_
  simp only [List.take_succ_cons, List.take_zero, List.drop_succ_cons, List.drop_zero]
  repeat go_big_quiet_step (fail)
  refine wpQuiet_nil ?_
  go_wp2
  go_ret2
  exact (FIN.out _ ((Fr.refl _ _).drew)).post (HO.out.same rfl) ⟨by omega, by omega⟩
theorem ystep_sel1 (hO : HostOk R H m) (hW : MW R w L K m) (hL : LocAt R w L (.slice la ln lc) loc) (hu : 0 ≤ m.x.used) (hf : m.x.fuel ≤ 9223372036854775807) (hp : m.x.pay.2 = 0) (depth : Int) (cimm : Int) (ctab : List UInt8) {k b a : V} {r : List V} (hst : m.x.st = k :: b :: a :: r) (hk5 : k.ty = 105) (hab : a.ty = b.ty) (hl : r.length ≤ 800) (hv : ¬ k.num = 0) : Calls Tryz.prog 143 #[.pointer (some ⟨R.bn, 0, none⟩), Ins.val ⟨12, cimm, ctab⟩, .slice la ln lc, .int .i64 depth] w (RunPost R H (.slice la ln lc) ⟨-1, 0, loc, m.pd.st (a :: r)⟩ w L K) := by
  obtain ⟨w0, HW0⟩ : ∃ w0, Hid (w0 = w.alloc (.cells #[.int .i64 12, .int .i64 cimm, sv ctab] 67)) := ⟨_, rfl⟩
  obtain ⟨bx, HBX⟩ : ∃ bx, Hid (bx = w.heap.size) := ⟨_, rfl⟩
  have P0 : Hid (StW R (.slice la ln lc) loc w w0 L L K K m bx ⟨12, cimm, ctab⟩) := by
    show StW _ _ _ _ _ _ _ _ _ _ _ _
    rw [HW0.out, HBX.out]
    exact StW.first hW hL ⟨12, cimm, ctab⟩
  have HO : Hid (HostOk R H m.pd) := hO.pay
  clear hW hL hO
  unfold Ins.val
  simp only
  go_enter Tryz.func143, Tryz.ntmps143
  go_wp2_with fail
  rw [← HW0.out, ← HBX.out]
  refine (payed P0.out.mw hu hf hp).mono ?_
  rintro e w1 ⟨rfl, m1, s1⟩
  have P1 : Hid (StW R (.slice la ln lc) loc w w1 L L K K m.pd bx ⟨12, cimm, ctab⟩) := P0.out.stepN m1.inst s1
  have b0 := P1.out.box.cell 0
  have b1 := P1.out.box.cell 1
  have b2 := P1.out.box.cell 2
  simp at b0 b1 b2
  have bl := P1.out.box.lt
  clear P0 HW0 m1 s1
  go_wp2_with fail
  refine (ysig_any 12 (by omega) w1).mono ?_
  rintro e w2 ⟨rfl, hw2⟩
  rw [hw2]
  clear hw2 w2
  rw [show sigM 12 = ([108, 108], [105]) from rfl, show plainOp 12 = false from rfl]
  simp only
  obtain ⟨w2, HW2⟩ : ∃ w2, Hid (w2 = w1.alloc (.cells #[.int .u8 0, .int .i64 0, .int .u8 0, .int .i64 0] 70)) := ⟨_, rfl⟩
  have P2 : Hid (StW R (.slice la ln lc) loc w w2 L L K K m.pd bx ⟨12, cimm, ctab⟩) := by
    show StW _ _ _ _ _ _ _ _ _ _ _ _
    rw [HW2.out]
    exact P1.out.fresh ((Fr.refl _ _).alloc _)
  go_wp2_with fail
  rw [← HW2.out]
  refine (ypop_any P2.out.mw.inst (show m.pd.x.st = k :: b :: a :: r from (pay_st m.x).trans hst) (by simp; omega) hk5).mono ?_
  rintro e w3 ⟨rfl, n3, s3⟩
  have P3 : Hid (StW R (.slice la ln lc) loc w w3 L L K K (m.pd.st (b :: a :: r)) bx ⟨12, cimm, ctab⟩) := P2.out.stepN n3 s3
  clear n3 s3 P1 P2 HW2 b0 b1 b2 bl
  have b0 := P3.out.box.cell 0
  have b1 := P3.out.box.cell 1
  have b2 := P3.out.box.cell 2
  simp at b0 b1 b2
  have bl := P3.out.box.lt
  obtain ⟨kn, HKN⟩ : ∃ kn, Hid (k.num = kn) := ⟨_, rfl⟩
  rw [HKN.out] at hv ⊢
  obtain ⟨g, hsa, a0, a1, a2, a3, gl, gc, hgn, fz0, fz1⟩ := P3.out.mw.inst.top2 (show (m.pd.st (b :: a :: r)).x.st = b :: a :: r from rfl)
  have c3 := P3.out.mw.inst.here.cell 3
  simp only [List.getElem?_toArray, List.getElem?_cons_succ, List.getElem?_cons_zero] at c3
  rw [show (m.pd.st (b :: a :: r)).x.st = b :: a :: r from rfl, hsa, List.length_cons, List.length_cons] at c3
  have f3 := P3.out.mw.inst.here.frozen 3
  have l3 := P3.out.mw.inst.here.lt
  have HSA : Hid (L.sa = some ⟨g, 0, none⟩) := hsa
  obtain ⟨bt, HBT⟩ : ∃ bt : Int, Hid (bt = b.ty.toNat) := ⟨_, rfl⟩
  obtain ⟨bv, HBV⟩ : ∃ bv : Int, Hid (bv = b.num) := ⟨_, rfl⟩
  rw [hab] at a2
  rw [← HBT.out] at a0 a2
  rw [← HBV.out] at a1
  obtain ⟨av, HAV⟩ : ∃ av : Int, Hid (av = a.num) := ⟨_, rfl⟩
  rw [← HAV.out] at a3
  obtain ⟨n, HN⟩ : ∃ n : Nat, Hid (r.length = n) := ⟨_, rfl⟩
  rw [HN.out] at hl c3 gc a0 a1 a2 a3 fz0 fz1
  obtain ⟨n1, HN1⟩ : ∃ n1 : Nat, Hid (n + 1 = n1) := ⟨_, rfl⟩
  have gc1 : n1 + 1 ≤ L.sc := by rw [← HN1.out]; exact gc
  rw [HN1.out] at c3 a0 a1
  have hn1 : (n1 : Int) + 1 - 1 = n1 := by omega
  have hn2 : (n1 : Int) + 1 - 2 = n := by have := HN1.out; omega
  have hn3 : decide ((n1 : Int) + 1 < 2) = false := decide_eq_false (by have := HN1.out; omega)
  have hn4 : (n : Int) < (n1 : Int) + 1 := by have := HN1.out; omega
  clear gc
  have HAB : Hid (a.ty = b.ty) := hab
  clear hst hsa hk5 hab
  go_wp2
  refine wp_region_quiet_lit (by kernel_rfl) (by kernel_rfl) ?_
  repeat go_big_quiet_step (fail)
  refine wpQuiet_nil ?_
  rintro w4 ⟨nq, rfl⟩
  go_wp2
  obtain ⟨w5, HW5⟩ : ∃ w5, Hid (w5 = w3.drewN nq) := ⟨_, rfl⟩
  rw [← HW5.out]
  have P5 : Hid (StW R (.slice la ln lc) loc w w5 L L K K (m.pd.st (b :: a :: r)) bx ⟨12, cimm, ctab⟩) := by
    show StW _ _ _ _ _ _ _ _ _ _ _ _
    rw [HW5.out]
    exact P3.out.fresh ((Fr.refl _ _).drewN nq)
  clear P3 HW5 c3 f3 l3 a0 a1 a2 a3 gl fz0 fz1 b0 b1 b2 bl
  have FIN : Hid (∀ W, Fr (fun _ => False) w5 W → StW R (.slice la ln lc) loc w (W.setCell ⟨R.bn, 3, none⟩ (.slice (some ⟨g, 0, none⟩) n1 L.sc)) L L K K (m.pd.st (a :: r)) bx ⟨12, cimm, ctab⟩) := fun W hW => by
    obtain ⟨r1, r2⟩ := (P5.out.mw.inst.fresh hW).cutSt [b] (a :: r) rfl
    rw [List.length_cons, HN.out, HN1.out, HSA.out] at r1 r2
    exact (P5.out.fresh hW).stepN r1 r2
  have c5 := P5.out.mw.inst.here.cell 3
  simp only [List.getElem?_toArray, List.getElem?_cons_succ, List.getElem?_cons_zero] at c5
  rw [show (m.pd.st (b :: a :: r)).x.st = b :: a :: r from rfl, HSA.out, List.length_cons, List.length_cons, HN.out, HN1.out] at c5
  have f5 := P5.out.mw.inst.here.frozen 3
  have l5 := P5.out.mw.inst.here.lt
  clear P5
  refine wp_region_tail 12 (by kernel_rfl) (by kernel_rfl) (fun _ _ _ _ _ h => h) ?_
  simp only [List.take_succ_cons, List.take_zero, List.drop_succ_cons, List.drop_zero]
  repeat go_big_quiet_step (fail)
  refine wpQuiet_nil ?_
  go_wp2
  go_ret2
  exact (FIN.out _ ((Fr.refl _ _).drew)).post (HO.out.same rfl) ⟨by omega, by omega⟩
end
end Go.Proofs.Qxb6500575aGreatDoor
