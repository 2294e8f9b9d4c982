/-
  THE WALK of runm.step: br_if, drop. Written by tools/gen_ystep.py.
-/
import Derived.Test.Qxb6500575aGreatDoorYStep0
namespace Go.Proofs.Qxb6500575aGreatDoor
open Go Go.RowKit
set_option linter.unusedVariables false
set_option linter.unusedSimpArgs false

section
variable {R : MP} {H : HF HS} {m : MS} {w : World} {L : NL} {K : ML} {la : Option Addr} {ln lc : Nat} {loc : List V}
set_option maxRecDepth 100000
set_option maxHeartbeats 600000
theorem ystep_brif1 (hO : HostOk R H m) (hW : MW R w L K m) (hL : LocAt R w L (.slice la ln lc) loc) (hu : 0 ≤ m.x.used) (hf : m.x.fuel ≤ 9223372036854775807) (hp : m.x.pay.2 = 0) (depth : Int) (cimm : Int) (ctab : List UInt8) {v : V} {r : List V} (hst : m.x.st = v :: r) (hl : r.length ≤ 1000) (hv5 : v.ty = 105) (hv : ¬ v.num = 0) (hi : -9223372036854775808 ≤ cimm ∧ cimm < 9223372036854775808) : Calls Tryz.prog 143 #[.pointer (some ⟨R.bn, 0, none⟩), Ins.val ⟨7, cimm, ctab⟩, .slice la ln lc, .int .i64 depth] w (RunPost R H (.slice la ln lc) ⟨cimm, 0, loc, m.pd.st r⟩ w L K) := by
  obtain ⟨w0, HW0⟩ : ∃ w0, Hid (w0 = w.alloc (.cells #[.int .i64 7, .int .i64 cimm, sv ctab] 67)) := ⟨_, rfl⟩
  obtain ⟨bx, HBX⟩ : ∃ bx, Hid (bx = w.heap.size) := ⟨_, rfl⟩
  have P0 : Hid (StW R (.slice la ln lc) loc w w0 L L K K m bx ⟨7, cimm, ctab⟩) := by
    show StW _ _ _ _ _ _ _ _ _ _ _ _
    rw [HW0.out, HBX.out]
    exact StW.first hW hL ⟨7, cimm, ctab⟩
  have HO : Hid (HostOk R H m.pd) := hO.pay
  clear hW hL hO
  unfold Ins.val
  simp only
  go_enter Tryz.func143, Tryz.ntmps143
  go_wp2_with fail
  rw [← HW0.out, ← HBX.out]
  refine (payed P0.out.mw hu hf hp).mono ?_
  rintro e w1 ⟨rfl, m1, s1⟩
  have P1 : Hid (StW R (.slice la ln lc) loc w w1 L L K K m.pd bx ⟨7, cimm, ctab⟩) := P0.out.stepN m1.inst s1
  have b0 := P1.out.box.cell 0
  have b1 := P1.out.box.cell 1
  have b2 := P1.out.box.cell 2
  simp at b0 b1 b2
  have bl := P1.out.box.lt
  clear P0 HW0 m1 s1
  go_wp2_with fail
  refine (ysig_any 7 (by omega) w1).mono ?_
  rintro e w2 ⟨rfl, hw2⟩
  rw [hw2]
  clear hw2 w2
  rw [show sigM 7 = ([108, 108], [105]) from rfl, show plainOp 7 = false from rfl]
  simp only
  obtain ⟨w2, HW2⟩ : ∃ w2, Hid (w2 = w1.alloc (.cells #[.int .u8 0, .int .i64 0, .int .u8 0, .int .i64 0] 70)) := ⟨_, rfl⟩
  have P2 : Hid (StW R (.slice la ln lc) loc w w2 L L K K m.pd bx ⟨7, cimm, ctab⟩) := by
    show StW _ _ _ _ _ _ _ _ _ _ _ _
    rw [HW2.out]
    exact P1.out.fresh ((Fr.refl _ _).alloc _)
  go_wp2_with fail
  rw [← HW2.out]
  refine (ypop_any P2.out.mw.inst (show m.pd.x.st = v :: r from (pay_st m.x).trans hst) (by omega) hv5).mono ?_
  rintro e w3 ⟨rfl, n3, s3⟩
  have P3 : Hid (StW R (.slice la ln lc) loc w w3 L L K K (m.pd.st r) bx ⟨7, cimm, ctab⟩) := P2.out.stepN n3 s3
  clear n3 s3 P1 P2 HW2 b0 b1 b2 bl
  have b0 := P3.out.box.cell 0
  have b1 := P3.out.box.cell 1
  have b2 := P3.out.box.cell 2
  simp at b0 b1 b2
  have bl := P3.out.box.lt
  obtain ⟨vn, HVN⟩ : ∃ vn, Hid (v.num = vn) := ⟨_, rfl⟩
  rw [HVN.out] at hv ⊢
  go_wp2
  go_ret2
  exact P3.out.post (HO.out.same rfl) hi
theorem ystep_brif0 (hO : HostOk R H m) (hW : MW R w L K m) (hL : LocAt R w L (.slice la ln lc) loc) (hu : 0 ≤ m.x.used) (hf : m.x.fuel ≤ 9223372036854775807) (hp : m.x.pay.2 = 0) (depth : Int) (cimm : Int) (ctab : List UInt8) {v : V} {r : List V} (hst : m.x.st = v :: r) (hl : r.length ≤ 1000) (hv5 : v.ty = 105) (hv : v.num = 0) : Calls Tryz.prog 143 #[.pointer (some ⟨R.bn, 0, none⟩), Ins.val ⟨7, cimm, ctab⟩, .slice la ln lc, .int .i64 depth] w (RunPost R H (.slice la ln lc) ⟨-1, 0, loc, m.pd.st r⟩ w L K) := by
  obtain ⟨w0, HW0⟩ : ∃ w0, Hid (w0 = w.alloc (.cells #[.int .i64 7, .int .i64 cimm, sv ctab] 67)) := ⟨_, rfl⟩
  obtain ⟨bx, HBX⟩ : ∃ bx, Hid (bx = w.heap.size) := ⟨_, rfl⟩
  have P0 : Hid (StW R (.slice la ln lc) loc w w0 L L K K m bx ⟨7, cimm, ctab⟩) := by
    show StW _ _ _ _ _ _ _ _ _ _ _ _
    rw [HW0.out, HBX.out]
    exact StW.first hW hL ⟨7, cimm, ctab⟩
  have HO : Hid (HostOk R H m.pd) := hO.pay
  clear hW hL hO
  unfold Ins.val
  simp only
  go_enter Tryz.func143, Tryz.ntmps143
  go_wp2_with fail
  rw [← HW0.out, ← HBX.out]
  refine (payed P0.out.mw hu hf hp).mono ?_
  rintro e w1 ⟨rfl, m1, s1⟩
  have P1 : Hid (StW R (.slice la ln lc) loc w w1 L L K K m.pd bx ⟨7, cimm, ctab⟩) := P0.out.stepN m1.inst s1
  have b0 := P1.out.box.cell 0
  have b1 := P1.out.box.cell 1
  have b2 := P1.out.box.cell 2
  simp at b0 b1 b2
  have bl := P1.out.box.lt
  clear P0 HW0 m1 s1
  go_wp2_with fail
  refine (ysig_any 7 (by omega) w1).mono ?_
  rintro e w2 ⟨rfl, hw2⟩
  rw [hw2]
  clear hw2 w2
  rw [show sigM 7 = ([108, 108], [105]) from rfl, show plainOp 7 = false from rfl]
  simp only
  obtain ⟨w2, HW2⟩ : ∃ w2, Hid (w2 = w1.alloc (.cells #[.int .u8 0, .int .i64 0, .int .u8 0, .int .i64 0] 70)) := ⟨_, rfl⟩
  have P2 : Hid (StW R (.slice la ln lc) loc w w2 L L K K m.pd bx ⟨7, cimm, ctab⟩) := by
    show StW _ _ _ _ _ _ _ _ _ _ _ _
    rw [HW2.out]
    exact P1.out.fresh ((Fr.refl _ _).alloc _)
  go_wp2_with fail
  rw [← HW2.out]
  refine (ypop_any P2.out.mw.inst (show m.pd.x.st = v :: r from (pay_st m.x).trans hst) (by omega) hv5).mono ?_
  rintro e w3 ⟨rfl, n3, s3⟩
  have P3 : Hid (StW R (.slice la ln lc) loc w w3 L L K K (m.pd.st r) bx ⟨7, cimm, ctab⟩) := P2.out.stepN n3 s3
  clear n3 s3 P1 P2 HW2 b0 b1 b2 bl
  have b0 := P3.out.box.cell 0
  have b1 := P3.out.box.cell 1
  have b2 := P3.out.box.cell 2
  simp at b0 b1 b2
  have bl := P3.out.box.lt
  obtain ⟨vn, HVN⟩ : ∃ vn, Hid (v.num = vn) := ⟨_, rfl⟩
  rw [HVN.out] at hv ⊢
  go_wp2
  go_ret2
  exact P3.out.post (HO.out.same rfl) ⟨by omega, by omega⟩
theorem ystep_drop (hO : HostOk R H m) (hW : MW R w L K m) (hL : LocAt R w L (.slice la ln lc) loc) (hu : 0 ≤ m.x.used) (hf : m.x.fuel ≤ 9223372036854775807) (hp : m.x.pay.2 = 0) (depth : Int) (cimm : Int) (ctab : List UInt8) {v : V} {r : List V} (hst : m.x.st = v :: r) (hl : r.length ≤ 900) : Calls Tryz.prog 143 #[.pointer (some ⟨R.bn, 0, none⟩), Ins.val ⟨11, cimm, ctab⟩, .slice la ln lc, .int .i64 depth] w (RunPost R H (.slice la ln lc) ⟨-1, 0, loc, m.pd.st r⟩ w L K) := by
  obtain ⟨w0, HW0⟩ : ∃ w0, Hid (w0 = w.alloc (.cells #[.int .i64 11, .int .i64 cimm, sv ctab] 67)) := ⟨_, rfl⟩
  obtain ⟨bx, HBX⟩ : ∃ bx, Hid (bx = w.heap.size) := ⟨_, rfl⟩
  have P0 : Hid (StW R (.slice la ln lc) loc w w0 L L K K m bx ⟨11, cimm, ctab⟩) := by
    show StW _ _ _ _ _ _ _ _ _ _ _ _
    rw [HW0.out, HBX.out]
    exact StW.first hW hL ⟨11, cimm, ctab⟩
  have HO : Hid (HostOk R H m.pd) := hO.pay
  clear hW hL hO
  unfold Ins.val
  simp only
  go_enter Tryz.func143, Tryz.ntmps143
  go_wp2_with fail
  rw [← HW0.out, ← HBX.out]
  refine (payed P0.out.mw hu hf hp).mono ?_
  rintro e w1 ⟨rfl, m1, s1⟩
  have P1 : Hid (StW R (.slice la ln lc) loc w w1 L L K K m.pd bx ⟨11, cimm, ctab⟩) := P0.out.stepN m1.inst s1
  have b0 := P1.out.box.cell 0
  have b1 := P1.out.box.cell 1
  have b2 := P1.out.box.cell 2
  simp at b0 b1 b2
  have bl := P1.out.box.lt
  clear P0 HW0 m1 s1
  go_wp2_with fail
  refine (ysig_any 11 (by omega) w1).mono ?_
  rintro e w2 ⟨rfl, hw2⟩
  rw [hw2]
  clear hw2 w2
  rw [show sigM 11 = ([108, 108], [105]) from rfl, show plainOp 11 = false from rfl]
  simp only
  obtain ⟨w2, HW2⟩ : ∃ w2, Hid (w2 = w1.alloc (.cells #[.int .u8 0, .int .i64 0, .int .u8 0, .int .i64 0] 70)) := ⟨_, rfl⟩
  have P2 : Hid (StW R (.slice la ln lc) loc w w2 L L K K m.pd bx ⟨11, cimm, ctab⟩) := by
    show StW _ _ _ _ _ _ _ _ _ _ _ _
    rw [HW2.out]
    exact P1.out.fresh ((Fr.refl _ _).alloc _)
  have hst2 : m.pd.x.st = v :: r := (pay_st m.x).trans hst
  have c3 := P1.out.mw.inst.here.cell 3
  simp only [List.getElem?_toArray, List.getElem?_cons_succ, List.getElem?_cons_zero] at c3
  rw [hst2, List.length_cons] at c3
  have n1 := P1.out.mw.inst.here.lt
  have hk : (r.length : Int) + 1 - 1 = r.length := by omega
  have CUT : Hid (Calls _ _ _ _ _) := ycut_any P2.out.mw.inst (xs := []) (ys := [v]) (zs := r) (show m.pd.x.st = [] ++ ([v] ++ r) from hst2) (by rw [hst2, List.length_cons]; omega)
  simp only [List.length_nil, List.nil_append] at CUT
  clear hst hst2
  go_wp2_with fail
  rw [← HW2.out]
  refine CUT.out.mono ?_
  rintro e w3 ⟨rfl, n3, s3⟩
  have P3 : Hid (StW R (.slice la ln lc) loc w w3 L L K K (m.pd.st r) bx ⟨11, cimm, ctab⟩) := P2.out.stepN n3 s3
  clear n3 s3 P1 P2 HW2 b0 b1 b2 bl CUT c3 n1
  have b0 := P3.out.box.cell 0
  have b1 := P3.out.box.cell 1
  have b2 := P3.out.box.cell 2
  simp at b0 b1 b2
  have bl := P3.out.box.lt
  go_wp2
  go_ret2
  exact P3.out.post (HO.out.same rfl) ⟨by omega, by omega⟩
end
end Go.Proofs.Qxb6500575aGreatDoor
