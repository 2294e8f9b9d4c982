/-
  THE WALK of runm.step: memory.size, const. Written by tools/gen_ystep.py.
-/
import Derived.Test.Qxb6500575aGreatDoorYStep1
namespace Go.Proofs.Qxb6500575aGreatDoor
open Go Go.RowKit
set_option linter.unusedVariables false
set_option linter.unusedSimpArgs false

section
variable {R : MP} {H : HF HS} {m : MS} {w : World} {L : NL} {K : ML} {la : Option Addr} {ln lc : Nat} {loc : List V}
set_option maxRecDepth 100000
set_option maxHeartbeats 600000
theorem ystep_size (hO : HostOk R H m) (hW : MW R w L K m) (hL : LocAt R w L (.slice la ln lc) loc) (hu : 0 ≤ m.x.used) (hf : m.x.fuel ≤ 9223372036854775807) (hp : m.x.pay.2 = 0) (depth : Int) (cimm : Int) (ctab : List UInt8) {rest : List V} (hst : m.x.st = [] ++ rest) (hl : rest.length ≤ 800) (hm8 : m.mem.length ≤ 32) : Calls Tryz.prog 143 #[.pointer (some ⟨R.bn, 0, none⟩), Ins.val ⟨15, cimm, ctab⟩, .slice la ln lc, .int .i64 depth] w (RunPost R H (.slice la ln lc) ⟨-1, 0, loc, m.pd.st (V.w (wrap32 (m.mem.length / 8 : Nat)) :: rest)⟩ w L K) := by
  obtain ⟨w0, HW0⟩ : ∃ w0, Hid (w0 = w.alloc (.cells #[.int .i64 15, .int .i64 cimm, sv ctab] 67)) := ⟨_, rfl⟩
  obtain ⟨bx, HBX⟩ : ∃ bx, Hid (bx = w.heap.size) := ⟨_, rfl⟩
  have P0 : Hid (StW R (.slice la ln lc) loc w w0 L L K K m bx ⟨15, cimm, ctab⟩) := by
    show StW _ _ _ _ _ _ _ _ _ _ _ _
    rw [HW0.out, HBX.out]
    exact StW.first hW hL ⟨15, cimm, ctab⟩
  have HO : Hid (HostOk R H m.pd) := hO.pay
  clear hW hL hO
  unfold Ins.val
  simp only
  go_enter Tryz.func143, Tryz.ntmps143
  go_wp2_with fail
  rw [← HW0.out, ← HBX.out]
  refine (payed P0.out.mw hu hf hp).mono ?_
  rintro e w1 ⟨rfl, m1, s1⟩
  have P1 : Hid (StW R (.slice la ln lc) loc w w1 L L K K m.pd bx ⟨15, cimm, ctab⟩) := P0.out.stepN m1.inst s1
  have b0 := P1.out.box.cell 0
  have b1 := P1.out.box.cell 1
  have b2 := P1.out.box.cell 2
  simp at b0 b1 b2
  have bl := P1.out.box.lt
  clear P0 HW0 m1 s1
  go_wp2_with fail
  refine (ysig_any 15 (by omega) w1).mono ?_
  rintro e w2 ⟨rfl, hw2⟩
  rw [hw2]
  clear hw2 w2
  rw [show sigM 15 = ([], [105]) from rfl, show plainOp 15 = true from rfl]
  simp only
  obtain ⟨w2, HW2⟩ : ∃ w2, Hid (w2 = w1.alloc (.cells #[.int .u8 0, .int .i64 0, .int .u8 0, .int .i64 0] 70)) := ⟨_, rfl⟩
  obtain ⟨ba, HBA⟩ : ∃ ba, Hid (ba = w1.heap.size) := ⟨_, rfl⟩
  obtain ⟨p2, h2, z2⟩ := P1.out.array #[.int .u8 0, .int .i64 0, .int .u8 0, .int .i64 0]
  rw [← HW2.out] at p2 h2
  rw [← HBA.out] at h2 z2
  have P2 : Hid (StW R (.slice la ln lc) loc w w2 L L K K m.pd bx ⟨15, cimm, ctab⟩) := p2
  have A2 : Hid (Has w2 ba #[.int .u8 0, .int .i64 0, .int .u8 0, .int .i64 0] 70) := h2
  have Z2 : Hid (w.heap.size ≤ ba ∧ ¬ NS R.bn L ba ∧ ¬ MKS R.bm K ba ∧ (Value.slice la ln lc).ownBlock ≠ some ba ∧ bx ≠ ba) := z2
  have hst2 : m.pd.x.st = ([] : List V) ++ rest := (pay_st m.x).trans hst
  have TK : Hid (Calls _ _ _ _ _) := ytake_any P2.out.mw.inst hst2 (ts := []) (by simp) (by simp) (by rw [hst2]; simp; omega)
  simp only [List.length_cons, List.length_nil, Nat.zero_add] at TK
  clear p2 h2 z2 hst2 hst P1
  go_wp2_with fail
  rw [← HW2.out, ← HBA.out]
  refine TK.out.mono ?_
  rintro e w3 ⟨ga, gc, rfl, n3, s3, o3, f3⟩
  have P3 : Hid (StW R (.slice la ln lc) loc w w3 L L K K (m.pd.st rest) bx ⟨15, cimm, ctab⟩) := P2.out.stepN n3 s3
  have A3 : Has w3 ba #[.int .u8 0, .int .i64 0, .int .u8 0, .int .i64 0] 70 := A2.out.fr s3.fr Z2.out.2.1
  obtain ⟨w4, hcp, hf4, ha4⟩ := ycopyA (args := ([] : List V)) A3 o3 (by simp)
  simp only [List.length_cons, List.length_nil, Nat.zero_add] at hcp
  have P4 : Hid (StW R (.slice la ln lc) loc w w4 L L K K (m.pd.st rest) bx ⟨15, cimm, ctab⟩) := P3.out.aside Z2.out.1 Z2.out.2 ⟨_, A3⟩ hf4
  have A4 : Hid (Has w4 ba #[.int .u8 0, .int .i64 0, .int .u8 0, .int .i64 0] 70) := by
    show Has _ _ _ _
    simpa [aCells, stCells, bvCells, V.bv] using ha4
  clear n3 s3 o3 f3 A3 hf4 ha4 P3 P2 A2 TK HW2 b0 b1 b2 bl
  have b0 := P4.out.box.cell 0
  have b1 := P4.out.box.cell 1
  have b2 := P4.out.box.cell 2
  simp at b0 b1 b2
  have bl := P4.out.box.lt
  have r3 := A4.out.cell 3
  simp at r3
  have r1 := A4.out.cell 1
  simp at r1
  have al := A4.out.lt
  have k2 := P4.out.mw.inst.here.cell 2
  simp at k2
  have kl := P4.out.mw.inst.here.lt
  have SZ : Hid (Calls _ _ _ _ _) := msize_any P4.out.mw.mem
  have hms : (m.pd.st rest).mem = m.mem := rfl
  rw [hms] at SZ
  obtain ⟨sz, HSZ⟩ : ∃ sz : Int, Hid (((m.mem.length / 8 : Nat) : Int) = sz) := ⟨_, rfl⟩
  rw [HSZ.out] at SZ
  have hw32 : wrap32 sz = sz := by rw [← HSZ.out]; unfold wrap32; omega
  have PUSH : Hid (Calls _ _ _ _ _) := ypush_any P4.out.mw.inst (V.w (wrap32 sz)) (by show rest.length ≤ 1000; omega)
  rw [show (V.w (wrap32 sz)).num = sz from hw32, show ((V.w (wrap32 sz)).ty.toNat : Int) = 105 from rfl] at PUSH
  clear hms hm8 hw32
  go_wp2_with fail
  refine SZ.out.mono ?_
  rintro e w5 ⟨rfl, hw5⟩
  rw [hw5]
  clear hw5 w5 SZ
  go_wp2_with fail
  refine PUSH.out.mono ?_
  rintro e w9 ⟨rfl, L9, n9, s9⟩
  have P9 : Hid (StW R (.slice la ln lc) loc w w9 L L9 K K (m.pd.st (V.w (wrap32 sz) :: rest)) bx ⟨15, cimm, ctab⟩) := P4.out.stepN n9 s9
  clear n9 s9 P4 PUSH
  go_wp2
  go_ret2
  rw [HSZ.out]
  exact P9.out.post (HO.out.same rfl) ⟨by omega, by omega⟩
theorem ystep_c32 (hO : HostOk R H m) (hW : MW R w L K m) (hL : LocAt R w L (.slice la ln lc) loc) (hu : 0 ≤ m.x.used) (hf : m.x.fuel ≤ 9223372036854775807) (hp : m.x.pay.2 = 0) (depth : Int) (ctab : List UInt8) {rest : List V} (hst : m.x.st = [] ++ rest) (hl : rest.length ≤ 800) (cimm : Int) (hi : -2147483648 ≤ cimm ∧ cimm < 2147483648) : Calls Tryz.prog 143 #[.pointer (some ⟨R.bn, 0, none⟩), Ins.val ⟨17, cimm, ctab⟩, .slice la ln lc, .int .i64 depth] w (RunPost R H (.slice la ln lc) ⟨-1, 0, loc, m.pd.st (V.w (wrap32 cimm) :: rest)⟩ w L K) := by
  obtain ⟨w0, HW0⟩ : ∃ w0, Hid (w0 = w.alloc (.cells #[.int .i64 17, .int .i64 cimm, sv ctab] 67)) := ⟨_, rfl⟩
  obtain ⟨bx, HBX⟩ : ∃ bx, Hid (bx = w.heap.size) := ⟨_, rfl⟩
  have P0 : Hid (StW R (.slice la ln lc) loc w w0 L L K K m bx ⟨17, cimm, ctab⟩) := by
    show StW _ _ _ _ _ _ _ _ _ _ _ _
    rw [HW0.out, HBX.out]
    exact StW.first hW hL ⟨17, cimm, ctab⟩
  have HO : Hid (HostOk R H m.pd) := hO.pay
  clear hW hL hO
  unfold Ins.val
  simp only
  go_enter Tryz.func143, Tryz.ntmps143
  go_wp2_with fail
  rw [← HW0.out, ← HBX.out]
  refine (payed P0.out.mw hu hf hp).mono ?_
  rintro e w1 ⟨rfl, m1, s1⟩
  have P1 : Hid (StW R (.slice la ln lc) loc w w1 L L K K m.pd bx ⟨17, cimm, ctab⟩) := P0.out.stepN m1.inst s1
  have b0 := P1.out.box.cell 0
  have b1 := P1.out.box.cell 1
  have b2 := P1.out.box.cell 2
  simp at b0 b1 b2
  have bl := P1.out.box.lt
  clear P0 HW0 m1 s1
  go_wp2_with fail
  refine (ysig_any 17 (by omega) w1).mono ?_
  rintro e w2 ⟨rfl, hw2⟩
  rw [hw2]
  clear hw2 w2
  rw [show sigM 17 = ([], [105]) from rfl, show plainOp 17 = true from rfl]
  simp only
  obtain ⟨w2, HW2⟩ : ∃ w2, Hid (w2 = w1.alloc (.cells #[.int .u8 0, .int .i64 0, .int .u8 0, .int .i64 0] 70)) := ⟨_, rfl⟩
  obtain ⟨ba, HBA⟩ : ∃ ba, Hid (ba = w1.heap.size) := ⟨_, rfl⟩
  obtain ⟨p2, h2, z2⟩ := P1.out.array #[.int .u8 0, .int .i64 0, .int .u8 0, .int .i64 0]
  rw [← HW2.out] at p2 h2
  rw [← HBA.out] at h2 z2
  have P2 : Hid (StW R (.slice la ln lc) loc w w2 L L K K m.pd bx ⟨17, cimm, ctab⟩) := p2
  have A2 : Hid (Has w2 ba #[.int .u8 0, .int .i64 0, .int .u8 0, .int .i64 0] 70) := h2
  have Z2 : Hid (w.heap.size ≤ ba ∧ ¬ NS R.bn L ba ∧ ¬ MKS R.bm K ba ∧ (Value.slice la ln lc).ownBlock ≠ some ba ∧ bx ≠ ba) := z2
  have hst2 : m.pd.x.st = ([] : List V) ++ rest := (pay_st m.x).trans hst
  have TK : Hid (Calls _ _ _ _ _) := ytake_any P2.out.mw.inst hst2 (ts := []) (by simp) (by simp) (by rw [hst2]; simp; omega)
  simp only [List.length_cons, List.length_nil, Nat.zero_add] at TK
  clear p2 h2 z2 hst2 hst P1
  go_wp2_with fail
  rw [← HW2.out, ← HBA.out]
  refine TK.out.mono ?_
  rintro e w3 ⟨ga, gc, rfl, n3, s3, o3, f3⟩
  have P3 : Hid (StW R (.slice la ln lc) loc w w3 L L K K (m.pd.st rest) bx ⟨17, cimm, ctab⟩) := P2.out.stepN n3 s3
  have A3 : Has w3 ba #[.int .u8 0, .int .i64 0, .int .u8 0, .int .i64 0] 70 := A2.out.fr s3.fr Z2.out.2.1
  obtain ⟨w4, hcp, hf4, ha4⟩ := ycopyA (args := ([] : List V)) A3 o3 (by simp)
  simp only [List.length_cons, List.length_nil, Nat.zero_add] at hcp
  have P4 : Hid (StW R (.slice la ln lc) loc w w4 L L K K (m.pd.st rest) bx ⟨17, cimm, ctab⟩) := P3.out.aside Z2.out.1 Z2.out.2 ⟨_, A3⟩ hf4
  have A4 : Hid (Has w4 ba #[.int .u8 0, .int .i64 0, .int .u8 0, .int .i64 0] 70) := by
    show Has _ _ _ _
    simpa [aCells, stCells, bvCells, V.bv] using ha4
  clear n3 s3 o3 f3 A3 hf4 ha4 P3 P2 A2 TK HW2 b0 b1 b2 bl
  have b0 := P4.out.box.cell 0
  have b1 := P4.out.box.cell 1
  have b2 := P4.out.box.cell 2
  simp at b0 b1 b2
  have bl := P4.out.box.lt
  have r3 := A4.out.cell 3
  simp at r3
  have r1 := A4.out.cell 1
  simp at r1
  have al := A4.out.lt
  have k2 := P4.out.mw.inst.here.cell 2
  simp at k2
  have kl := P4.out.mw.inst.here.lt
  have hw32 : wrap32 cimm = cimm := by unfold wrap32; omega
  have PUSH : Hid (Calls _ _ _ _ _) := ypush_any P4.out.mw.inst (V.w (wrap32 cimm)) (by show rest.length ≤ 1000; omega)
  rw [show (V.w (wrap32 cimm)).num = cimm from hw32, show ((V.w (wrap32 cimm)).ty.toNat : Int) = 105 from rfl] at PUSH
  clear hw32
  go_wp2_with fail
  refine PUSH.out.mono ?_
  rintro e w9 ⟨rfl, L9, n9, s9⟩
  have P9 : Hid (StW R (.slice la ln lc) loc w w9 L L9 K K (m.pd.st (V.w (wrap32 cimm) :: rest)) bx ⟨17, cimm, ctab⟩) := P4.out.stepN n9 s9
  clear n9 s9 P4 PUSH
  go_wp2
  go_ret2
  exact P9.out.post (HO.out.same rfl) ⟨by omega, by omega⟩
theorem ystep_c64 (hO : HostOk R H m) (hW : MW R w L K m) (hL : LocAt R w L (.slice la ln lc) loc) (hu : 0 ≤ m.x.used) (hf : m.x.fuel ≤ 9223372036854775807) (hp : m.x.pay.2 = 0) (depth : Int) (ctab : List UInt8) {rest : List V} (hst : m.x.st = [] ++ rest) (hl : rest.length ≤ 800) (cimm : Int) : Calls Tryz.prog 143 #[.pointer (some ⟨R.bn, 0, none⟩), Ins.val ⟨18, cimm, ctab⟩, .slice la ln lc, .int .i64 depth] w (RunPost R H (.slice la ln lc) ⟨-1, 0, loc, m.pd.st (V.d cimm :: rest)⟩ w L K) := by
  obtain ⟨w0, HW0⟩ : ∃ w0, Hid (w0 = w.alloc (.cells #[.int .i64 18, .int .i64 cimm, sv ctab] 67)) := ⟨_, rfl⟩
  obtain ⟨bx, HBX⟩ : ∃ bx, Hid (bx = w.heap.size) := ⟨_, rfl⟩
  have P0 : Hid (StW R (.slice la ln lc) loc w w0 L L K K m bx ⟨18, cimm, ctab⟩) := by
    show StW _ _ _ _ _ _ _ _ _ _ _ _
    rw [HW0.out, HBX.out]
    exact StW.first hW hL ⟨18, cimm, ctab⟩
  have HO : Hid (HostOk R H m.pd) := hO.pay
  clear hW hL hO
  unfold Ins.val
  simp only
  go_enter Tryz.func143, Tryz.ntmps143
  go_wp2_with fail
  rw [← HW0.out, ← HBX.out]
  refine (payed P0.out.mw hu hf hp).mono ?_
  rintro e w1 ⟨rfl, m1, s1⟩
  have P1 : Hid (StW R (.slice la ln lc) loc w w1 L L K K m.pd bx ⟨18, cimm, ctab⟩) := P0.out.stepN m1.inst s1
  have b0 := P1.out.box.cell 0
  have b1 := P1.out.box.cell 1
  have b2 := P1.out.box.cell 2
  simp at b0 b1 b2
  have bl := P1.out.box.lt
  clear P0 HW0 m1 s1
  go_wp2_with fail
  refine (ysig_any 18 (by omega) w1).mono ?_
  rintro e w2 ⟨rfl, hw2⟩
  rw [hw2]
  clear hw2 w2
  rw [show sigM 18 = ([], [108]) from rfl, show plainOp 18 = true from rfl]
  simp only
  obtain ⟨w2, HW2⟩ : ∃ w2, Hid (w2 = w1.alloc (.cells #[.int .u8 0, .int .i64 0, .int .u8 0, .int .i64 0] 70)) := ⟨_, rfl⟩
  obtain ⟨ba, HBA⟩ : ∃ ba, Hid (ba = w1.heap.size) := ⟨_, rfl⟩
  obtain ⟨p2, h2, z2⟩ := P1.out.array #[.int .u8 0, .int .i64 0, .int .u8 0, .int .i64 0]
  rw [← HW2.out] at p2 h2
  rw [← HBA.out] at h2 z2
  have P2 : Hid (StW R (.slice la ln lc) loc w w2 L L K K m.pd bx ⟨18, cimm, ctab⟩) := p2
  have A2 : Hid (Has w2 ba #[.int .u8 0, .int .i64 0, .int .u8 0, .int .i64 0] 70) := h2
  have Z2 : Hid (w.heap.size ≤ ba ∧ ¬ NS R.bn L ba ∧ ¬ MKS R.bm K ba ∧ (Value.slice la ln lc).ownBlock ≠ some ba ∧ bx ≠ ba) := z2
  have hst2 : m.pd.x.st = ([] : List V) ++ rest := (pay_st m.x).trans hst
  have TK : Hid (Calls _ _ _ _ _) := ytake_any P2.out.mw.inst hst2 (ts := []) (by simp) (by simp) (by rw [hst2]; simp; omega)
  simp only [List.length_cons, List.length_nil, Nat.zero_add] at TK
  clear p2 h2 z2 hst2 hst P1
  go_wp2_with fail
  rw [← HW2.out, ← HBA.out]
  refine TK.out.mono ?_
  rintro e w3 ⟨ga, gc, rfl, n3, s3, o3, f3⟩
  have P3 : Hid (StW R (.slice la ln lc) loc w w3 L L K K (m.pd.st rest) bx ⟨18, cimm, ctab⟩) := P2.out.stepN n3 s3
  have A3 : Has w3 ba #[.int .u8 0, .int .i64 0, .int .u8 0, .int .i64 0] 70 := A2.out.fr s3.fr Z2.out.2.1
  obtain ⟨w4, hcp, hf4, ha4⟩ := ycopyA (args := ([] : List V)) A3 o3 (by simp)
  simp only [List.length_cons, List.length_nil, Nat.zero_add] at hcp
  have P4 : Hid (StW R (.slice la ln lc) loc w w4 L L K K (m.pd.st rest) bx ⟨18, cimm, ctab⟩) := P3.out.aside Z2.out.1 Z2.out.2 ⟨_, A3⟩ hf4
  have A4 : Hid (Has w4 ba #[.int .u8 0, .int .i64 0, .int .u8 0, .int .i64 0] 70) := by
    show Has _ _ _ _
    simpa [aCells, stCells, bvCells, V.bv] using ha4
  clear n3 s3 o3 f3 A3 hf4 ha4 P3 P2 A2 TK HW2 b0 b1 b2 bl
  have b0 := P4.out.box.cell 0
  have b1 := P4.out.box.cell 1
  have b2 := P4.out.box.cell 2
  simp at b0 b1 b2
  have bl := P4.out.box.lt
  have r3 := A4.out.cell 3
  simp at r3
  have r1 := A4.out.cell 1
  simp at r1
  have al := A4.out.lt
  have k2 := P4.out.mw.inst.here.cell 2
  simp at k2
  have kl := P4.out.mw.inst.here.lt
  have PUSH : Hid (Calls _ _ _ _ _) := ypush_any P4.out.mw.inst (V.d cimm) (by show rest.length ≤ 1000; omega)
  rw [show (V.d cimm).num = cimm from rfl, show ((V.d cimm).ty.toNat : Int) = 108 from rfl] at PUSH
  go_wp2_with fail
  refine PUSH.out.mono ?_
  rintro e w9 ⟨rfl, L9, n9, s9⟩
  have P9 : Hid (StW R (.slice la ln lc) loc w w9 L L9 K K (m.pd.st (V.d cimm :: rest)) bx ⟨18, cimm, ctab⟩) := P4.out.stepN n9 s9
  clear n9 s9 P4 PUSH
  go_wp2
  go_ret2
  exact P9.out.post (HO.out.same rfl) ⟨by omega, by omega⟩
end
end Go.Proofs.Qxb6500575aGreatDoor
