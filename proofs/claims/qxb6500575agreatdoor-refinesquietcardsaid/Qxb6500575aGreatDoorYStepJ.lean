/-
  THE WALK of runm.step: loads. Written by tools/gen_ystep.py.
-/
import Derived.Test.Qxb6500575aGreatDoorYStepJ0
namespace Go.Proofs.Qxb6500575aGreatDoor
open Go Go.RowKit
set_option linter.unusedVariables false
set_option linter.unusedSimpArgs false

section
variable {R : MP} {H : HF HS} {m : MS} {w : World} {L : NL} {K : ML} {la : Option Addr} {ln lc : Nat} {loc : List V}
set_option maxRecDepth 100000
set_option maxHeartbeats 600000
theorem ystep_loadw (hO : HostOk R H m) (hW : MW R w L K m) (hL : LocAt R w L (.slice la ln lc) loc) (hu : 0 ≤ m.x.used) (hf : m.x.fuel ≤ 9223372036854775807) (hp : m.x.pay.2 = 0) (depth : Int) (cop cimm : Int) (ctab : List UInt8) {a : V} {rest : List V} (hst : m.x.st = [a] ++ rest) (hl : rest.length ≤ 800) (hat : a.ty = 105) (h1 : 19 ≤ cop) (h2 : cop ≤ 24) (h20 : cop ≠ 20) (o : Ot) (ho : Hid (o = if (loadP m.mem cop a.num cimm).2 = 0 then ⟨-1, 0, loc, m.pd.st (V.w (wrap32 (loadP m.mem cop a.num cimm).1) :: rest)⟩ else ⟨-1, (loadP m.mem cop a.num cimm).2, loc, m.pd.st rest⟩)) : Calls Tryz.prog 143 #[.pointer (some ⟨R.bn, 0, none⟩), Ins.val ⟨cop, cimm, ctab⟩, .slice la ln lc, .int .i64 depth] w (RunPost R H (.slice la ln lc) o w L K) := by
  obtain ⟨w0, HW0⟩ : ∃ w0, Hid (w0 = w.alloc (.cells #[.int .i64 cop, .int .i64 cimm, sv ctab] 67)) := ⟨_, rfl⟩
  obtain ⟨bx, HBX⟩ : ∃ bx, Hid (bx = w.heap.size) := ⟨_, rfl⟩
  have P0 : Hid (StW R (.slice la ln lc) loc w w0 L L K K m bx ⟨cop, cimm, ctab⟩) := by
    show StW _ _ _ _ _ _ _ _ _ _ _ _
    rw [HW0.out, HBX.out]
    exact StW.first hW hL ⟨cop, cimm, ctab⟩
  have HO : Hid (HostOk R H m.pd) := hO.pay
  clear hW hL hO
  unfold Ins.val
  simp only
  go_enter Tryz.func143, Tryz.ntmps143
  go_wp2_with fail
  rw [← HW0.out, ← HBX.out]
  refine (payed P0.out.mw hu hf hp).mono ?_
  rintro e w1 ⟨rfl, m1, s1⟩
  have P1 : Hid (StW R (.slice la ln lc) loc w w1 L L K K m.pd bx ⟨cop, cimm, ctab⟩) := P0.out.stepN m1.inst s1
  have b0 := P1.out.box.cell 0
  have b1 := P1.out.box.cell 1
  have b2 := P1.out.box.cell 2
  simp at b0 b1 b2
  have bl := P1.out.box.lt
  clear P0 HW0 m1 s1
  go_wp2_with fail
  refine (ysig_any cop (by omega) w1).mono ?_
  rintro e w2 ⟨rfl, hw2⟩
  rw [hw2]
  clear hw2 w2
  rw [sigM_loadw h1 h2 h20, show plainOp cop = true from decide_eq_true (by omega)]
  simp only
  obtain ⟨w2, HW2⟩ : ∃ w2, Hid (w2 = w1.alloc (.cells #[.int .u8 0, .int .i64 0, .int .u8 0, .int .i64 0] 70)) := ⟨_, rfl⟩
  obtain ⟨ba, HBA⟩ : ∃ ba, Hid (ba = w1.heap.size) := ⟨_, rfl⟩
  obtain ⟨p2, h2, z2⟩ := P1.out.array #[.int .u8 0, .int .i64 0, .int .u8 0, .int .i64 0]
  rw [← HW2.out] at p2 h2
  rw [← HBA.out] at h2 z2
  have P2 : Hid (StW R (.slice la ln lc) loc w w2 L L K K m.pd bx ⟨cop, cimm, ctab⟩) := p2
  have A2 : Hid (Has w2 ba #[.int .u8 0, .int .i64 0, .int .u8 0, .int .i64 0] 70) := h2
  have Z2 : Hid (w.heap.size ≤ ba ∧ ¬ NS R.bn L ba ∧ ¬ MKS R.bm K ba ∧ (Value.slice la ln lc).ownBlock ≠ some ba ∧ bx ≠ ba) := z2
  have hst2 : m.pd.x.st = [a] ++ rest := (pay_st m.x).trans hst
  have TK : Hid (Calls _ _ _ _ _) := ytake_any P2.out.mw.inst hst2 (ts := [105]) (by simp [hat]) (by simp) (by rw [hst2]; simp; omega)
  simp only [List.length_cons, List.length_nil, Nat.zero_add] at TK
  clear p2 h2 z2 hst2 hst P1
  go_wp2_with fail
  rw [← HW2.out, ← HBA.out]
  refine TK.out.mono ?_
  rintro e w3 ⟨ga, gc, rfl, n3, s3, o3, f3⟩
  have P3 : Hid (StW R (.slice la ln lc) loc w w3 L L K K (m.pd.st rest) bx ⟨cop, cimm, ctab⟩) := P2.out.stepN n3 s3
  have A3 : Has w3 ba #[.int .u8 0, .int .i64 0, .int .u8 0, .int .i64 0] 70 := A2.out.fr s3.fr Z2.out.2.1
  obtain ⟨w4, hcp, hf4, ha4⟩ := ycopyA (args := [a]) A3 o3 (by simp)
  simp only [List.length_cons, List.length_nil, Nat.zero_add] at hcp
  have P4 : Hid (StW R (.slice la ln lc) loc w w4 L L K K (m.pd.st rest) bx ⟨cop, cimm, ctab⟩) := P3.out.aside Z2.out.1 Z2.out.2 ⟨_, A3⟩ hf4
  have A4 : Hid (Has w4 ba #[.int .u8 a.ty.toNat, .int .i64 a.num, .int .u8 0, .int .i64 0] 70) := by
    show Has _ _ _ _
    simpa [aCells, stCells, bvCells, V.bv] using ha4
  clear n3 s3 o3 f3 A3 hf4 ha4 P3 P2 A2 TK HW2 b0 b1 b2 bl
  have b0 := P4.out.box.cell 0
  have b1 := P4.out.box.cell 1
  have b2 := P4.out.box.cell 2
  simp at b0 b1 b2
  have bl := P4.out.box.lt
  obtain ⟨an, HAN⟩ : ∃ an, Hid (a.num = an) := ⟨_, rfl⟩
  have r1 := A4.out.cell 1
  simp at r1
  rw [HAN.out] at r1
  have r3 := A4.out.cell 3
  simp at r3
  have al := A4.out.lt
  have k2 := P4.out.mw.inst.here.cell 2
  simp at k2
  have kl := P4.out.mw.inst.here.lt
  have LD : Hid (Calls _ _ _ _ _) := yload_any (P4.out.fresh ((Fr.refl _ _).drew)).mw.mem cop an cimm h1 h2
  have hms : (m.pd.st rest).mem = m.mem := rfl
  rw [hms] at LD
  obtain ⟨lr, HLR⟩ : ∃ lr, Hid ((loadP m.mem cop a.num cimm) = lr) := ⟨_, rfl⟩
  have hle : (loadP m.mem cop a.num cimm).2 = 0 ∨ (loadP m.mem cop a.num cimm).2 = 12 := loadP_err _ _ _ _
  rw [HAN.out] at HLR hle
  rw [HLR.out] at LD hle
  obtain ⟨nn, er⟩ := lr
  simp only at LD hle
  have hw32 : wrap32 nn = nn := by
    have h := congrArg Prod.fst HLR.out
    simp only at h
    rw [← h]
    exact loadP_w32 _ _ _ h1 h2 h20
  clear h20
  have hS : w4.drew.cell? ⟨R.bn, 2, none⟩ = some (.pointer (some ⟨R.bm, 0, none⟩)) ∧ w4.drew.cell? ⟨bx, 0, none⟩ = some (.int .i64 cop) ∧ w4.drew.cell? ⟨ba, 1, none⟩ = some (.int .i64 an) ∧ w4.drew.cell? ⟨bx, 1, none⟩ = some (.int .i64 cimm) := ⟨k2, b0, r1, b1⟩
  clear hms
  have e0 : (cop == 0) = false := beq_eq_false_iff_ne.2 (by omega)
  have e6 : (cop == 6) = false := beq_eq_false_iff_ne.2 (by omega)
  have e7 : (cop == 7) = false := beq_eq_false_iff_ne.2 (by omega)
  have e8 : (cop == 8) = false := beq_eq_false_iff_ne.2 (by omega)
  have e9 : (cop == 9) = false := beq_eq_false_iff_ne.2 (by omega)
  have e10 : (cop == 10) = false := beq_eq_false_iff_ne.2 (by omega)
  have e11 : (cop == 11) = false := beq_eq_false_iff_ne.2 (by omega)
  have e12 : (cop == 12) = false := beq_eq_false_iff_ne.2 (by omega)
  have e13 : (cop == 13) = false := beq_eq_false_iff_ne.2 (by omega)
  have e14 : (cop == 14) = false := beq_eq_false_iff_ne.2 (by omega)
  have e15 : (cop == 15) = false := beq_eq_false_iff_ne.2 (by omega)
  have e16 : (cop == 16) = false := beq_eq_false_iff_ne.2 (by omega)
  have e17 : (cop == 17) = false := beq_eq_false_iff_ne.2 (by omega)
  have e18 : (cop == 18) = false := beq_eq_false_iff_ne.2 (by omega)
  have hd19 : decide (19 ≤ cop) = true := decide_eq_true h1
  have hd24 : decide (cop ≤ 24) = true := decide_eq_true h2
  have HH1 : Hid (19 ≤ cop ∧ cop ≤ 24) := ⟨h1, h2⟩
  clear h1 h2
  go_wp2
  refine wp_region_two [0, 1, 2, 3, 4, 5, 6, 7, 8, 9, 10, 11] 12 [13, 14, 15, 16, 17] 18 (fun y => y.cell? ⟨R.bn, 2, none⟩ = some (.pointer (some ⟨R.bm, 0, none⟩)) ∧ y.cell? ⟨bx, 0, none⟩ = some (.int .i64 cop) ∧ y.cell? ⟨ba, 1, none⟩ = some (.int .i64 an) ∧ y.cell? ⟨bx, 1, none⟩ = some (.int .i64 cimm)) (by kernel_rfl) (by kernel_rfl) (fun _ _ _ _ _ h => h) hS [_, _, _, _, _, _, _, _, _, _, _, _] rfl _ rfl [_, _, _, _, _] rfl ?_
  clear b0 b1 b2 bl r1 r3 al k2 kl hS
  refine wpQ_move rfl (.tmp 0) (.pointer (some ⟨R.bn, 0, none⟩)) rfl (by kernel_rfl) ?_
  simp only [List.getElem_toArray, List.getElem_cons_succ, List.getElem_cons_zero, Act.put, List.setIfInBounds_toArray, List.set_cons_succ, List.set_cons_zero]
  refine wpQ_nilCheck rfl (.tmp 329) ⟨R.bn, 0, none⟩ rfl (by kernel_rfl) ?_
  simp only [List.getElem_toArray, List.getElem_cons_succ, List.getElem_cons_zero, Act.put, List.setIfInBounds_toArray, List.set_cons_succ, List.set_cons_zero]
  refine wpQ_fieldAddr rfl (.tmp 330) 2 ⟨R.bn, 0, none⟩ ⟨R.bn, 2, none⟩ rfl (by kernel_rfl) (fun w => by kernel_rfl) ?_
  simp only [List.getElem_toArray, List.getElem_cons_succ, List.getElem_cons_zero, Act.put, List.setIfInBounds_toArray, List.set_cons_succ, List.set_cons_zero]
  refine wpQ_load1 rfl (.tmp 331) ⟨R.bn, 2, none⟩ (.pointer (some ⟨R.bm, 0, none⟩)) rfl (by kernel_rfl) (by kernel_rfl) (fun _ h => h.1) ?_
  simp only [List.getElem_toArray, List.getElem_cons_succ, List.getElem_cons_zero, Act.put, List.setIfInBounds_toArray, List.set_cons_succ, List.set_cons_zero]
  refine wpQ_fieldAddr rfl (.tmp 5) 0 ⟨bx, 0, none⟩ ⟨bx, 0, none⟩ rfl (by kernel_rfl) (fun w => by kernel_rfl) ?_
  simp only [List.getElem_toArray, List.getElem_cons_succ, List.getElem_cons_zero, Act.put, List.setIfInBounds_toArray, List.set_cons_succ, List.set_cons_zero]
  refine wpQ_load1 rfl (.tmp 333) ⟨bx, 0, none⟩ (.int .i64 cop) rfl (by kernel_rfl) (by kernel_rfl) (fun _ h => h.2.1) ?_
  simp only [List.getElem_toArray, List.getElem_cons_succ, List.getElem_cons_zero, Act.put, List.setIfInBounds_toArray, List.set_cons_succ, List.set_cons_zero]
  refine wpQ_move rfl (.tmp 14) (.slice (some ⟨ba, 0, none⟩) 2 2) rfl (by kernel_rfl) ?_
  simp only [List.getElem_toArray, List.getElem_cons_succ, List.getElem_cons_zero, Act.put, List.setIfInBounds_toArray, List.set_cons_succ, List.set_cons_zero]
  refine wpQ_pure rfl (.pointer (some ⟨ba, 0, none⟩)) (fun w => by kernel_rfl) ?_
  simp only [List.getElem_toArray, List.getElem_cons_succ, List.getElem_cons_zero, Act.put, List.setIfInBounds_toArray, List.set_cons_succ, List.set_cons_zero]
  refine wpQ_fieldAddr rfl (.tmp 336) 1 ⟨ba, 0, none⟩ ⟨ba, 1, none⟩ rfl (by kernel_rfl) (fun w => by kernel_rfl) ?_
  simp only [List.getElem_toArray, List.getElem_cons_succ, List.getElem_cons_zero, Act.put, List.setIfInBounds_toArray, List.set_cons_succ, List.set_cons_zero]
  refine wpQ_load1 rfl (.tmp 337) ⟨ba, 1, none⟩ (.int .i64 an) rfl (by kernel_rfl) (by kernel_rfl) (fun _ h => h.2.2.1) ?_
  simp only [List.getElem_toArray, List.getElem_cons_succ, List.getElem_cons_zero, Act.put, List.setIfInBounds_toArray, List.set_cons_succ, List.set_cons_zero]
  refine wpQ_fieldAddr rfl (.tmp 5) 1 ⟨bx, 0, none⟩ ⟨bx, 1, none⟩ rfl (by kernel_rfl) (fun w => by kernel_rfl) ?_
  simp only [List.getElem_toArray, List.getElem_cons_succ, List.getElem_cons_zero, Act.put, List.setIfInBounds_toArray, List.set_cons_succ, List.set_cons_zero]
  refine wpQ_load1 rfl (.tmp 339) ⟨bx, 1, none⟩ (.int .i64 cimm) rfl (by kernel_rfl) (by kernel_rfl) (fun _ h => h.2.2.2) ?_
  simp only [List.getElem_toArray, List.getElem_cons_succ, List.getElem_cons_zero, Act.put, List.setIfInBounds_toArray, List.set_cons_succ, List.set_cons_zero]
  refine wpQuiet_nil ?_
  go_wp2_with fail
  refine LD.out.mono ?_
  rintro e w5 ⟨rfl, hw5⟩
  rw [hw5]
  have P5 : Hid (StW R (.slice la ln lc) loc w w4.drew L L K K (m.pd.st rest) bx ⟨cop, cimm, ctab⟩) := P4.out.fresh ((Fr.refl _ _).drew)
  have A5 : Hid (Has w4.drew ba _ 70) := A4.out.drew
  obtain ⟨wd, HWD⟩ : ∃ wd, Hid (w4.drew = wd) := ⟨_, rfl⟩
  rw [HWD.out] at P5 A5 ⊢
  have b0 := P5.out.box.cell 0
  have b1 := P5.out.box.cell 1
  simp at b0 b1
  have r1 := A5.out.cell 1
  simp at r1
  rw [HAN.out] at r1
  have k2 := P5.out.mw.inst.here.cell 2
  simp at k2
  clear hw5 w5 LD P4 A4
  go_wp2
  refine ⟨⟨k2, b0, r1, b1⟩, ?_⟩
  refine wpQ_move rfl (.tmp 341) (.tuple #[.int .i64 nn, .int .i64 er]) rfl (by kernel_rfl) ?_
  simp only [List.getElem_toArray, List.getElem_cons_succ, List.getElem_cons_zero, Act.put, List.setIfInBounds_toArray, List.set_cons_succ, List.set_cons_zero]
  refine wpQ_pure rfl (.int .i64 nn) (fun w => by kernel_rfl) ?_
  simp only [List.getElem_toArray, List.getElem_cons_succ, List.getElem_cons_zero, Act.put, List.setIfInBounds_toArray, List.set_cons_succ, List.set_cons_zero]
  refine wpQ_pure rfl (.int .i64 er) (fun w => by kernel_rfl) ?_
  simp only [List.getElem_toArray, List.getElem_cons_succ, List.getElem_cons_zero, Act.put, List.setIfInBounds_toArray, List.set_cons_succ, List.set_cons_zero]
  refine wpQ_pure rfl (.int .i64 nn) (fun w => by kernel_rfl) ?_
  simp only [List.getElem_toArray, List.getElem_cons_succ, List.getElem_cons_zero, Act.put, List.setIfInBounds_toArray, List.set_cons_succ, List.set_cons_zero]
  refine wpQ_pure rfl (.int .i64 er) (fun w => by kernel_rfl) ?_
  simp only [List.getElem_toArray, List.getElem_cons_succ, List.getElem_cons_zero, Act.put, List.setIfInBounds_toArray, List.set_cons_succ, List.set_cons_zero]
  refine wpQuiet_nil ?_
  show wpList _ _ _ [] _ _
  clear b0 b1 r1 k2 A5
  rcases hle with rfl | rfl
  · have PUSH : Hid (Calls _ _ _ _ _) := ypush_any P5.out.mw.inst (V.w (wrap32 nn)) (by show rest.length ≤ 1000; omega)
    rw [show (V.w (wrap32 nn)).num = nn from hw32, show ((V.w (wrap32 nn)).ty.toNat : Int) = 105 from rfl] at PUSH
    clear hw32
    go_wp2_with fail
    refine PUSH.out.mono ?_
    rintro e w9 ⟨rfl, L9, n9, s9⟩
    have P9 : Hid (StW R (.slice la ln lc) loc w w9 L L9 K K (m.pd.st (V.w (wrap32 nn) :: rest)) bx ⟨cop, cimm, ctab⟩) := P5.out.stepN n9 s9
    clear n9 s9 P5 PUSH
    go_wp2
    go_ret2
    rw [ho.out, HAN.out, HLR.out, if_pos rfl]
    exact P9.out.post (HO.out.same rfl) ⟨by omega, by omega⟩
  · clear hw32
    go_wp2
    go_ret2
    rw [ho.out, HAN.out, HLR.out, if_neg (by simp)]
    exact P5.out.post (HO.out.same rfl) ⟨by omega, by omega⟩
end
end Go.Proofs.Qxb6500575aGreatDoor
