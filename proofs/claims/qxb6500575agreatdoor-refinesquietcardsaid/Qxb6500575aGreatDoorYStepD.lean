/-
  THE WALK of runm.step: call. Written by tools/gen_ystep.py.
-/
import Derived.Test.Qxb6500575aGreatDoorYStep0
namespace Go.Proofs.Qxb6500575aGreatDoor
open Go Go.RowKit
set_option linter.unusedVariables false
set_option linter.unusedSimpArgs false

section
variable {R : MP} {H : HF HS} {m : MS} {w : World} {L : NL} {K : ML} {la : Option Addr} {ln lc : Nat} {loc : List V}
set_option maxRecDepth 100000
set_option maxHeartbeats 600000
theorem ystep_imp (hO : HostOk R H m) (hW : MW R w L K m) (hL : LocAt R w L (.slice la ln lc) loc) (hu : 0 ≤ m.x.used) (hf : m.x.fuel ≤ 9223372036854775807) (hp : m.x.pay.2 = 0) (depth : Int) (ctab : List UInt8) (hM : MOk R) {g : Nat} (hi : (g : Int) < R.P.nimp) {up ur ul : List UInt8} (hfu : R.P.funs[g]? = some ⟨up, ur, ul⟩) {args rest : List V} (hst : m.x.st = args ++ rest) (hty : args.map V.ty = up.reverse) (hl : m.x.st.length ≤ 900) (hk : m.x.asked ≤ 6) (htl : m.x.trace.length ≤ 90000) : Calls Tryz.prog 143 #[.pointer (some ⟨R.bn, 0, none⟩), Ins.val ⟨10, (g : Int), ctab⟩, .slice la ln lc, .int .i64 depth] w (RunPost R H (.slice la ln lc) ⟨-1, (H m.x.hs g args.reverse).2.1, loc, { m.pd with x := { (m.pd.x.to (H m.x.hs g args.reverse).1) with st := (H m.x.hs g args.reverse).2.2.reverse ++ rest } }⟩ w L K) := by
  obtain ⟨w0, HW0⟩ : ∃ w0, Hid (w0 = w.alloc (.cells #[.int .i64 10, .int .i64 (g : Int), sv ctab] 67)) := ⟨_, rfl⟩
  obtain ⟨bx, HBX⟩ : ∃ bx, Hid (bx = w.heap.size) := ⟨_, rfl⟩
  have P0 : Hid (StW R (.slice la ln lc) loc w w0 L L K K m bx ⟨10, (g : Int), ctab⟩) := by
    show StW _ _ _ _ _ _ _ _ _ _ _ _
    rw [HW0.out, HBX.out]
    exact StW.first hW hL ⟨10, (g : Int), ctab⟩
  have HO : Hid (HostOk R H m.pd) := hO.pay
  clear hW hL hO
  unfold Ins.val
  simp only
  go_enter Tryz.func143, Tryz.ntmps143
  go_wp2_with fail
  rw [← HW0.out, ← HBX.out]
  refine (payed P0.out.mw hu hf hp).mono ?_
  rintro e w1 ⟨rfl, m1, s1⟩
  have P1 : Hid (StW R (.slice la ln lc) loc w w1 L L K K m.pd bx ⟨10, (g : Int), ctab⟩) := P0.out.stepN m1.inst s1
  have b0 := P1.out.box.cell 0
  have b1 := P1.out.box.cell 1
  have b2 := P1.out.box.cell 2
  simp at b0 b1 b2
  have bl := P1.out.box.lt
  clear P0 HW0 m1 s1
  go_wp2_with fail
  refine (ysig_any 10 (by omega) w1).mono ?_
  rintro e w2 ⟨rfl, hw2⟩
  rw [hw2]
  clear hw2 w2
  rw [show sigM 10 = ([108, 108], [105]) from rfl, show plainOp 10 = false from rfl]
  simp only
  obtain ⟨w2, HW2⟩ : ∃ w2, Hid (w2 = w1.alloc (.cells #[.int .u8 0, .int .i64 0, .int .u8 0, .int .i64 0] 70)) := ⟨_, rfl⟩
  have P2 : Hid (StW R (.slice la ln lc) loc w w2 L L K K m.pd bx ⟨10, (g : Int), ctab⟩) := by
    show StW _ _ _ _ _ _ _ _ _ _ _ _
    rw [HW2.out]
    exact P1.out.fresh ((Fr.refl _ _).alloc _)
  have hhs : m.pd.x.hs = m.x.hs := by unfold MS.pd ND.pay; simp only; split <;> rfl
  have hak : m.pd.x.asked = m.x.asked := by unfold MS.pd ND.pay; simp only; split <;> rfl
  have htr : m.pd.x.trace = m.x.trace := by unfold MS.pd ND.pay; simp only; split <;> rfl
  have c0 := P1.out.mw.inst.here.cell 0
  simp at c0
  have l0 := P1.out.mw.inst.here.lt
  have hps := hM.ps _ (List.mem_of_getElem? hfu)
  obtain ⟨er, HER⟩ : ∃ er, Hid ((H m.x.hs g args.reverse).2.1 = er) := ⟨_, rfl⟩
  have ASK : Hid (Calls _ _ _ _ _) := yask_any P2.out.mw.inst rfl P2.out.mw.prog hM.plen g hfu hps.1 hps.2.1 hps.2.2.2.1 (show m.pd.x.st = args ++ rest from (pay_st m.x).trans hst) hty (by rw [show m.pd.x.st = m.x.st from pay_st m.x]; exact hl) (by rw [hak]; exact hk) (by rw [htr]; exact htl) H HO.out
  rw [hhs, HER.out] at ASK
  have NI : Hid (Calls _ _ _ _ _) := mpnimports_any _ _ _ _ _ _ P2.out.mw.prog
  obtain ⟨ni, HNI⟩ : ∃ ni, Hid (R.P.nimp = ni) := ⟨_, rfl⟩
  rw [HNI.out] at hi NI
  clear hst hty hl hk htl hak htr hps hM hfu
  go_wp2_with fail
  rw [← HW2.out]
  refine NI.out.mono ?_
  rintro e w3 ⟨rfl, hw3⟩
  rw [hw3]
  clear hw3 w3 P1 HW2 b0 b1 b2 bl c0 l0 NI
  have b0 := P2.out.box.cell 0
  have b1 := P2.out.box.cell 1
  have b2 := P2.out.box.cell 2
  simp at b0 b1 b2
  have bl := P2.out.box.lt
  go_wp2_with fail
  refine ASK.out.mono ?_
  rintro e w4 ⟨rfl, L4, n4, s4⟩
  have P4 : Hid (StW R (.slice la ln lc) loc w w4 L L4 K K { m.pd with x := { (m.pd.x.to (H m.x.hs g args.reverse).1) with st := (H m.x.hs g args.reverse).2.2.reverse ++ rest } } bx ⟨10, (g : Int), ctab⟩) := P2.out.stepN n4 s4
  clear n4 s4 P2 b0 b1 b2 bl
  go_wp2
  go_ret2
  rw [HER.out]
  exact P4.out.post (HO.out.same rfl) ⟨by omega, by omega⟩
theorem ystep_deep (hO : HostOk R H m) (hW : MW R w L K m) (hL : LocAt R w L (.slice la ln lc) loc) (hu : 0 ≤ m.x.used) (hf : m.x.fuel ≤ 9223372036854775807) (hp : m.x.pay.2 = 0) (depth : Int) (cimm : Int) (ctab : List UInt8) (hi : ¬ cimm < R.P.nimp) (hd : 4 ≤ depth) : Calls Tryz.prog 143 #[.pointer (some ⟨R.bn, 0, none⟩), Ins.val ⟨10, cimm, ctab⟩, .slice la ln lc, .int .i64 depth] w (RunPost R H (.slice la ln lc) ⟨-1, 14, loc, m.pd⟩ w L K) := by
  obtain ⟨w0, HW0⟩ : ∃ w0, Hid (w0 = w.alloc (.cells #[.int .i64 10, .int .i64 cimm, sv ctab] 67)) := ⟨_, rfl⟩
  obtain ⟨bx, HBX⟩ : ∃ bx, Hid (bx = w.heap.size) := ⟨_, rfl⟩
  have P0 : Hid (StW R (.slice la ln lc) loc w w0 L L K K m bx ⟨10, cimm, ctab⟩) := by
    show StW _ _ _ _ _ _ _ _ _ _ _ _
    rw [HW0.out, HBX.out]
    exact StW.first hW hL ⟨10, cimm, ctab⟩
  have HO : Hid (HostOk R H m.pd) := hO.pay
  clear hW hL hO
  unfold Ins.val
  simp only
  go_enter Tryz.func143, Tryz.ntmps143
  go_wp2_with fail
  rw [← HW0.out, ← HBX.out]
  refine (payed P0.out.mw hu hf hp).mono ?_
  rintro e w1 ⟨rfl, m1, s1⟩
  have P1 : Hid (StW R (.slice la ln lc) loc w w1 L L K K m.pd bx ⟨10, cimm, ctab⟩) := P0.out.stepN m1.inst s1
  have b0 := P1.out.box.cell 0
  have b1 := P1.out.box.cell 1
  have b2 := P1.out.box.cell 2
  simp at b0 b1 b2
  have bl := P1.out.box.lt
  clear P0 HW0 m1 s1
  go_wp2_with fail
  refine (ysig_any 10 (by omega) w1).mono ?_
  rintro e w2 ⟨rfl, hw2⟩
  rw [hw2]
  clear hw2 w2
  rw [show sigM 10 = ([108, 108], [105]) from rfl, show plainOp 10 = false from rfl]
  simp only
  obtain ⟨w2, HW2⟩ : ∃ w2, Hid (w2 = w1.alloc (.cells #[.int .u8 0, .int .i64 0, .int .u8 0, .int .i64 0] 70)) := ⟨_, rfl⟩
  have P2 : Hid (StW R (.slice la ln lc) loc w w2 L L K K m.pd bx ⟨10, cimm, ctab⟩) := by
    show StW _ _ _ _ _ _ _ _ _ _ _ _
    rw [HW2.out]
    exact P1.out.fresh ((Fr.refl _ _).alloc _)
  have c0 := P1.out.mw.inst.here.cell 0
  simp at c0
  have l0 := P1.out.mw.inst.here.lt
  have NI : Hid (Calls _ _ _ _ _) := mpnimports_any _ _ _ _ _ _ P2.out.mw.prog
  obtain ⟨ni, HNI⟩ : ∃ ni, Hid (R.P.nimp = ni) := ⟨_, rfl⟩
  rw [HNI.out] at hi NI
  go_wp2_with fail
  rw [← HW2.out]
  refine NI.out.mono ?_
  rintro e w3 ⟨rfl, hw3⟩
  rw [hw3]
  clear hw3 w3 P1 HW2 b0 b1 b2 bl c0 l0 NI
  have b0 := P2.out.box.cell 0
  have b1 := P2.out.box.cell 1
  have b2 := P2.out.box.cell 2
  simp at b0 b1 b2
  have bl := P2.out.box.lt
  go_wp2
  go_ret2
  exact P2.out.post HO.out ⟨by omega, by omega⟩
theorem ystep_call (hO : HostOk R H m) (hW : MW R w L K m) (hL : LocAt R w L (.slice la ln lc) loc) (hu : 0 ≤ m.x.used) (hf : m.x.fuel ≤ 9223372036854775807) (hp : m.x.pay.2 = 0) (depth : Int) (cimm : Int) (ctab : List UInt8) (hi : ¬ cimm < R.P.nimp) (hd : ¬ 4 ≤ depth) (hd0 : 0 ≤ depth) {o : Ot} (INV : Hid (∀ w1 L1, MW R w1 L1 K m.pd → HostOk R H m.pd → Calls Tryz.prog 110 #[.pointer (some ⟨R.bn, 0, none⟩), .int .i64 cimm, .int .i64 (depth + 1)] w1 (InvPost R H o w1 L1 K))) : Calls Tryz.prog 143 #[.pointer (some ⟨R.bn, 0, none⟩), Ins.val ⟨10, cimm, ctab⟩, .slice la ln lc, .int .i64 depth] w (RunPost R H (.slice la ln lc) ⟨-1, o.e, loc, o.m⟩ w L K) := by
  obtain ⟨w0, HW0⟩ : ∃ w0, Hid (w0 = w.alloc (.cells #[.int .i64 10, .int .i64 cimm, sv ctab] 67)) := ⟨_, rfl⟩
  obtain ⟨bx, HBX⟩ : ∃ bx, Hid (bx = w.heap.size) := ⟨_, rfl⟩
  have P0 : Hid (StW R (.slice la ln lc) loc w w0 L L K K m bx ⟨10, cimm, ctab⟩) := by
    show StW _ _ _ _ _ _ _ _ _ _ _ _
    rw [HW0.out, HBX.out]
    exact StW.first hW hL ⟨10, cimm, ctab⟩
  have HO : Hid (HostOk R H m.pd) := hO.pay
  clear hW hL hO
  unfold Ins.val
  simp only
  go_enter Tryz.func143, Tryz.ntmps143
  go_wp2_with fail
  rw [← HW0.out, ← HBX.out]
  refine (payed P0.out.mw hu hf hp).mono ?_
  rintro e w1 ⟨rfl, m1, s1⟩
  have P1 : Hid (StW R (.slice la ln lc) loc w w1 L L K K m.pd bx ⟨10, cimm, ctab⟩) := P0.out.stepN m1.inst s1
  have b0 := P1.out.box.cell 0
  have b1 := P1.out.box.cell 1
  have b2 := P1.out.box.cell 2
  simp at b0 b1 b2
  have bl := P1.out.box.lt
  clear P0 HW0 m1 s1
  go_wp2_with fail
  refine (ysig_any 10 (by omega) w1).mono ?_
  rintro e w2 ⟨rfl, hw2⟩
  rw [hw2]
  clear hw2 w2
  rw [show sigM 10 = ([108, 108], [105]) from rfl, show plainOp 10 = false from rfl]
  simp only
  obtain ⟨w2, HW2⟩ : ∃ w2, Hid (w2 = w1.alloc (.cells #[.int .u8 0, .int .i64 0, .int .u8 0, .int .i64 0] 70)) := ⟨_, rfl⟩
  have P2 : Hid (StW R (.slice la ln lc) loc w w2 L L K K m.pd bx ⟨10, cimm, ctab⟩) := by
    show StW _ _ _ _ _ _ _ _ _ _ _ _
    rw [HW2.out]
    exact P1.out.fresh ((Fr.refl _ _).alloc _)
  have c0 := P1.out.mw.inst.here.cell 0
  simp at c0
  have l0 := P1.out.mw.inst.here.lt
  have NI : Hid (Calls _ _ _ _ _) := mpnimports_any _ _ _ _ _ _ P2.out.mw.prog
  obtain ⟨ni, HNI⟩ : ∃ ni, Hid (R.P.nimp = ni) := ⟨_, rfl⟩
  rw [HNI.out] at hi NI
  go_wp2_with fail
  rw [← HW2.out]
  refine NI.out.mono ?_
  rintro e w3 ⟨rfl, hw3⟩
  rw [hw3]
  clear hw3 w3 P1 HW2 b0 b1 b2 bl c0 l0 NI
  have b0 := P2.out.box.cell 0
  have b1 := P2.out.box.cell 1
  have b2 := P2.out.box.cell 2
  simp at b0 b1 b2
  have bl := P2.out.box.lt
  go_wp2_with fail
  refine (INV.out w2 L P2.out.mw HO.out).mono ?_
  rintro e w4 ⟨L4, K4, rfl, o4, m4, s4⟩
  have FIN : Hid (RunPost R H (.slice la ln lc) ⟨-1, o.e, loc, o.m⟩ w L K (.returned (.tuple #[.int .i64 (-1), .int .i64 o.e])) w4) := ⟨L4, K4, rfl, ⟨by simp only; omega, by simp only; omega⟩, o4, m4, P2.out.loc.step P2.out.mw s4, P2.out.step.trans s4.any⟩
  clear o4 m4 s4 P2 b0 b1 b2 bl INV
  obtain ⟨oe, HOE⟩ : ∃ oe, Hid (o.e = oe) := ⟨_, rfl⟩
  rw [HOE.out] at FIN ⊢
  go_wp2
  go_ret2
  rw [HOE.out]
  exact FIN.out
end
end Go.Proofs.Qxb6500575aGreatDoor
