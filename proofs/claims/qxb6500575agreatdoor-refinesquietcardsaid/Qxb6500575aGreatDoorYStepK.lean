/-
  THE WALK of runm.step: stores. Written by tools/gen_ystep.py.
-/
import Derived.Test.Qxb6500575aGreatDoorYStep1
namespace Go.Proofs.Qxb6500575aGreatDoor
open Go Go.RowKit
set_option linter.unusedVariables false
set_option linter.unusedSimpArgs false

section
variable {R : MP} {H : HF HS} {m : MS} {w : World} {L : NL} {K : ML} {la : Option Addr} {ln lc : Nat} {loc : List V}
set_option maxRecDepth 100000
set_option maxHeartbeats 600000
theorem ystep_store (hO : HostOk R H m) (hW : MW R w L K m) (hL : LocAt R w L (.slice la ln lc) loc) (hu : 0 ≤ m.x.used) (hf : m.x.fuel ≤ 9223372036854775807) (hp : m.x.pay.2 = 0) (depth : Int) (cop cimm : Int) (ctab : List UInt8) {a b : V} {rest : List V} (hst : m.x.st = [b, a] ++ rest) (hl : rest.length ≤ 800) (tb : UInt8) (hsg : sigM cop = ([105, tb], [])) (hat : a.ty = 105) (hbt : b.ty = tb) (h1 : 25 ≤ cop) (h2 : cop ≤ 28) (o : Ot) (ho : Hid (o = ⟨-1, (storeP m.mem cop a.num cimm b.num).2, loc, { (m.pd.st rest) with mem := (storeP m.mem cop a.num cimm b.num).1 }⟩)) : Calls Tryz.prog 143 #[.pointer (some ⟨R.bn, 0, none⟩), Ins.val ⟨cop, cimm, ctab⟩, .slice la ln lc, .int .i64 depth] w (RunPost R H (.slice la ln lc) o w L K) := by
  obtain ⟨w0, HW0⟩ : ∃ w0, Hid (w0 = w.alloc (.cells #[.int .i64 cop, .int .i64 cimm, sv ctab] 67)) := ⟨_, rfl⟩
  obtain ⟨bx, HBX⟩ : ∃ bx, Hid (bx = w.heap.size) := ⟨_, rfl⟩
  have P0 : Hid (StW R (.slice la ln lc) loc w w0 L L K K m bx ⟨cop, cimm, ctab⟩) := by
    show StW _ _ _ _ _ _ _ _ _ _ _ _
    rw [HW0.out, HBX.out]
    exact StW.first hW hL ⟨cop, cimm, ctab⟩
  have HO : Hid (HostOk R H m.pd) := hO.pay
  clear hW hL hO
  unfold Ins.val
  simp only
  go_enter Tryz.func143, Tryz.ntmps143
  go_wp2_with fail
  rw [← HW0.out, ← HBX.out]
  refine (payed P0.out.mw hu hf hp).mono ?_
  rintro e w1 ⟨rfl, m1, s1⟩
  have P1 : Hid (StW R (.slice la ln lc) loc w w1 L L K K m.pd bx ⟨cop, cimm, ctab⟩) := P0.out.stepN m1.inst s1
  have b0 := P1.out.box.cell 0
  have b1 := P1.out.box.cell 1
  have b2 := P1.out.box.cell 2
  simp at b0 b1 b2
  have bl := P1.out.box.lt
  clear P0 HW0 m1 s1
  go_wp2_with fail
  refine (ysig_any cop (by omega) w1).mono ?_
  rintro e w2 ⟨rfl, hw2⟩
  rw [hw2]
  clear hw2 w2
  rw [hsg, show plainOp cop = true from decide_eq_true (by omega)]
  simp only
  obtain ⟨w2, HW2⟩ : ∃ w2, Hid (w2 = w1.alloc (.cells #[.int .u8 0, .int .i64 0, .int .u8 0, .int .i64 0] 70)) := ⟨_, rfl⟩
  obtain ⟨ba, HBA⟩ : ∃ ba, Hid (ba = w1.heap.size) := ⟨_, rfl⟩
  obtain ⟨p2, h2, z2⟩ := P1.out.array #[.int .u8 0, .int .i64 0, .int .u8 0, .int .i64 0]
  rw [← HW2.out] at p2 h2
  rw [← HBA.out] at h2 z2
  have P2 : Hid (StW R (.slice la ln lc) loc w w2 L L K K m.pd bx ⟨cop, cimm, ctab⟩) := p2
  have A2 : Hid (Has w2 ba #[.int .u8 0, .int .i64 0, .int .u8 0, .int .i64 0] 70) := h2
  have Z2 : Hid (w.heap.size ≤ ba ∧ ¬ NS R.bn L ba ∧ ¬ MKS R.bm K ba ∧ (Value.slice la ln lc).ownBlock ≠ some ba ∧ bx ≠ ba) := z2
  have hst2 : m.pd.x.st = [b, a] ++ rest := (pay_st m.x).trans hst
  have TK : Hid (Calls _ _ _ _ _) := ytake_any P2.out.mw.inst hst2 (ts := [105, tb]) (by simp [hat, hbt]) (by simp) (by rw [hst2]; simp; omega)
  simp only [List.length_cons, List.length_nil, Nat.zero_add] at TK
  clear p2 h2 z2 hst2 hst P1
  go_wp2_with fail
  rw [← HW2.out, ← HBA.out]
  refine TK.out.mono ?_
  rintro e w3 ⟨ga, gc, rfl, n3, s3, o3, f3⟩
  have P3 : Hid (StW R (.slice la ln lc) loc w w3 L L K K (m.pd.st rest) bx ⟨cop, cimm, ctab⟩) := P2.out.stepN n3 s3
  have A3 : Has w3 ba #[.int .u8 0, .int .i64 0, .int .u8 0, .int .i64 0] 70 := A2.out.fr s3.fr Z2.out.2.1
  obtain ⟨w4, hcp, hf4, ha4⟩ := ycopyA (args := [b, a]) A3 o3 (by simp)
  simp only [List.length_cons, List.length_nil, Nat.zero_add] at hcp
  have P4 : Hid (StW R (.slice la ln lc) loc w w4 L L K K (m.pd.st rest) bx ⟨cop, cimm, ctab⟩) := P3.out.aside Z2.out.1 Z2.out.2 ⟨_, A3⟩ hf4
  have A4 : Hid (Has w4 ba #[.int .u8 a.ty.toNat, .int .i64 a.num, .int .u8 b.ty.toNat, .int .i64 b.num] 70) := by
    show Has _ _ _ _
    simpa [aCells, stCells, bvCells, V.bv] using ha4
  clear n3 s3 o3 f3 A3 hf4 ha4 P3 P2 A2 TK HW2 b0 b1 b2 bl
  have b0 := P4.out.box.cell 0
  have b1 := P4.out.box.cell 1
  have b2 := P4.out.box.cell 2
  simp at b0 b1 b2
  have bl := P4.out.box.lt
  obtain ⟨an, HAN⟩ : ∃ an, Hid (a.num = an) := ⟨_, rfl⟩
  have r1 := A4.out.cell 1
  simp at r1
  rw [HAN.out] at r1
  obtain ⟨bn, HBN⟩ : ∃ bn, Hid (b.num = bn) := ⟨_, rfl⟩
  have r3 := A4.out.cell 3
  simp at r3
  rw [HBN.out] at r3
  have al := A4.out.lt
  have k2 := P4.out.mw.inst.here.cell 2
  simp at k2
  have kl := P4.out.mw.inst.here.lt
  have ST : Hid (Calls _ _ _ _ _) := ystore_any (P4.out.fresh ((Fr.refl _ _).drew)).mw.mem cop an cimm bn h1 h2
  have hms : (m.pd.st rest).mem = m.mem := rfl
  rw [hms] at ST
  obtain ⟨sr, HSR⟩ : ∃ sr, Hid ((storeP m.mem cop a.num cimm b.num) = sr) := ⟨_, rfl⟩
  have hle : (storeP m.mem cop a.num cimm b.num).2 = 0 ∨ (storeP m.mem cop a.num cimm b.num).2 = 12 := storeP_err _ _ _ _ _
  rw [HAN.out, HBN.out] at HSR hle
  rw [HSR.out] at ST hle
  obtain ⟨sm, er⟩ := sr
  simp only at ST hle
  clear hms hsg
  have e0 : (cop == 0) = false := beq_eq_false_iff_ne.2 (by omega)
  have e6 : (cop == 6) = false := beq_eq_false_iff_ne.2 (by omega)
  have e7 : (cop == 7) = false := beq_eq_false_iff_ne.2 (by omega)
  have e8 : (cop == 8) = false := beq_eq_false_iff_ne.2 (by omega)
  have e9 : (cop == 9) = false := beq_eq_false_iff_ne.2 (by omega)
  have e10 : (cop == 10) = false := beq_eq_false_iff_ne.2 (by omega)
  have e11 : (cop == 11) = false := beq_eq_false_iff_ne.2 (by omega)
  have e12 : (cop == 12) = false := beq_eq_false_iff_ne.2 (by omega)
  have e13 : (cop == 13) = false := beq_eq_false_iff_ne.2 (by omega)
  have e14 : (cop == 14) = false := beq_eq_false_iff_ne.2 (by omega)
  have e15 : (cop == 15) = false := beq_eq_false_iff_ne.2 (by omega)
  have e16 : (cop == 16) = false := beq_eq_false_iff_ne.2 (by omega)
  have e17 : (cop == 17) = false := beq_eq_false_iff_ne.2 (by omega)
  have e18 : (cop == 18) = false := beq_eq_false_iff_ne.2 (by omega)
  have hd19 : decide (19 ≤ cop) = true := decide_eq_true (by omega)
  have hd24 : decide (cop ≤ 24) = false := decide_eq_false (by omega)
  have hd25 : decide (25 ≤ cop) = true := decide_eq_true (by omega)
  have hd28 : decide (cop ≤ 28) = true := decide_eq_true (by omega)
  have h24' : ¬ cop ≤ 24 := by omega
  go_wp2
  refine wp_region_tail 16 (by kernel_rfl) (by kernel_rfl) (fun _ _ _ _ _ h => h) ?_
  simp only [List.take_succ_cons, List.take_zero, List.drop_succ_cons, List.drop_zero]
  repeat go_big_quiet_step (fail)
  refine wpQuiet_nil ?_
  go_wp2_with fail
  refine ST.out.mono ?_
  rintro e w5 ⟨rfl, k5, s5⟩
  have P5 : Hid (StW R (.slice la ln lc) loc w w5 L L K K { (m.pd.st rest) with mem := sm } bx ⟨cop, cimm, ctab⟩) := (P4.out.fresh ((Fr.refl _ _).drew)).stepK k5 s5
  clear P4 A4 b0 b1 b2 bl r1 r3 al k2 kl k5 s5 ST Z2 HBA
  have b0 := P5.out.box.cell 0
  have b1 := P5.out.box.cell 1
  have b2 := P5.out.box.cell 2
  simp at b0 b1 b2
  have bl := P5.out.box.lt
  rcases hle with rfl | rfl
  · go_wp2
    go_ret2
    rw [ho.out, HAN.out, HBN.out, HSR.out]
    exact P5.out.post (HO.out.same rfl) ⟨by omega, by omega⟩
  · go_wp2
    go_ret2
    rw [ho.out, HAN.out, HBN.out, HSR.out]
    exact P5.out.post (HO.out.same rfl) ⟨by omega, by omega⟩
end
end Go.Proofs.Qxb6500575aGreatDoor
