/-
  THE WALK of runm.step: local.set. Written by tools/gen_ystep.py.
-/
import Derived.Test.Qxb6500575aGreatDoorYStep2
namespace Go.Proofs.Qxb6500575aGreatDoor
open Go Go.RowKit
set_option linter.unusedVariables false
set_option linter.unusedSimpArgs false

section
variable {R : MP} {H : HF HS} {m : MS} {w : World} {L : NL} {K : ML} {la : Option Addr} {ln lc : Nat} {loc : List V}
set_option maxRecDepth 100000
set_option maxHeartbeats 600000
theorem ystep_set (hO : HostOk R H m) (hW : MW R w L K m) (hL : LocAt R w L (.slice la ln lc) loc) (hu : 0 ≤ m.x.used) (hf : m.x.fuel ≤ 9223372036854775807) (hp : m.x.pay.2 = 0) (depth : Int) (ctab : List UInt8) {j : Nat} {u v : V} {r : List V} (hj : loc.reverse[j]? = some u) (hst : m.x.st = v :: r) (ht : v.ty = u.ty) (hl : r.length ≤ 900) : Calls Tryz.prog 143 #[.pointer (some ⟨R.bn, 0, none⟩), Ins.val ⟨14, (j : Int), ctab⟩, .slice la ln lc, .int .i64 depth] w (RunPost R H (.slice la ln lc) ⟨-1, 0, (loc.reverse.set j v).reverse, m.pd.st r⟩ w L K) := by
  obtain ⟨gv, rfl⟩ := loc_some hL (by have := (List.getElem?_eq_some_iff.1 hj).1; rw [List.length_reverse] at this; omega)
  obtain ⟨w0, HW0⟩ : ∃ w0, Hid (w0 = w.alloc (.cells #[.int .i64 14, .int .i64 (j : Int), sv ctab] 67)) := ⟨_, rfl⟩
  obtain ⟨bx, HBX⟩ : ∃ bx, Hid (bx = w.heap.size) := ⟨_, rfl⟩
  have P0 : Hid (StW R (.slice (some ⟨gv, 0, none⟩) ln lc) loc w w0 L L K K m bx ⟨14, (j : Int), ctab⟩) := by
    show StW _ _ _ _ _ _ _ _ _ _ _ _
    rw [HW0.out, HBX.out]
    exact StW.first hW hL ⟨14, (j : Int), ctab⟩
  have HO : Hid (HostOk R H m.pd) := hO.pay
  clear hW hL hO
  unfold Ins.val
  simp only
  go_enter Tryz.func143, Tryz.ntmps143
  go_wp2_with fail
  rw [← HW0.out, ← HBX.out]
  refine (payed P0.out.mw hu hf hp).mono ?_
  rintro e w1 ⟨rfl, m1, s1⟩
  have P1 : Hid (StW R (.slice (some ⟨gv, 0, none⟩) ln lc) loc w w1 L L K K m.pd bx ⟨14, (j : Int), ctab⟩) := P0.out.stepN m1.inst s1
  have b0 := P1.out.box.cell 0
  have b1 := P1.out.box.cell 1
  have b2 := P1.out.box.cell 2
  simp at b0 b1 b2
  have bl := P1.out.box.lt
  clear P0 HW0 m1 s1
  go_wp2_with fail
  refine (ysig_any 14 (by omega) w1).mono ?_
  rintro e w2 ⟨rfl, hw2⟩
  rw [hw2]
  clear hw2 w2
  rw [show sigM 14 = ([108, 108], [105]) from rfl, show plainOp 14 = false from rfl]
  simp only
  obtain ⟨w2, HW2⟩ : ∃ w2, Hid (w2 = w1.alloc (.cells #[.int .u8 0, .int .i64 0, .int .u8 0, .int .i64 0] 70)) := ⟨_, rfl⟩
  have P2 : Hid (StW R (.slice (some ⟨gv, 0, none⟩) ln lc) loc w w2 L L K K m.pd bx ⟨14, (j : Int), ctab⟩) := by
    show StW _ _ _ _ _ _ _ _ _ _ _ _
    rw [HW2.out]
    exact P1.out.fresh ((Fr.refl _ _).alloc _)
  obtain ⟨g0, g1, gl, hln, hjn⟩ := loc_cells P1.out.loc hj rfl
  obtain ⟨g0', g1', gl', hx1, hx2⟩ := loc_cells P2.out.loc hj rfl
  clear hx1 hx2
  have hjI : (j : Int) < ln := Int.ofNat_lt.2 hjn
  have HJN : Hid (j < ln) := hjn
  obtain ⟨vt, HVT⟩ : ∃ vt : Int, Hid (vt = u.ty.toNat) := ⟨_, rfl⟩
  rw [← HVT.out] at g0 g0'
  have HJ : Hid (loc.reverse[j]? = some u) := hj
  have HT : Hid (v.ty = u.ty) := ht
  have hst2 : m.pd.x.st = v :: r := (pay_st m.x).trans hst
  have POP : Hid (Calls _ _ _ _ _) := ypop_any (P2.out.mw.inst.fresh ((Fr.refl _ _).drew)) hst2 (by omega) ht
  rw [← HVT.out] at POP
  clear hj hln hjn hl ht hst hst2 g1 g1'
  go_wp2
  rw [← HW2.out]
  have d0 := P2.out.box.cell 0
  have d1 := P2.out.box.cell 1
  have d2 := P2.out.box.cell 2
  simp at d0 d1 d2
  have dl := P2.out.box.lt
  have hS : w2.drew.cell? ⟨bx, 1, none⟩ = some (.int .i64 (j : Int)) ∧ w2.drew.cell? ⟨gv, j * 2, none⟩ = some (.int .u8 vt) := ⟨d1, g0'⟩
  refine wp_region_two [0, 1, 2, 3, 4, 5, 6, 7, 8, 9] 10 [11, 12, 13, 14, 15] 16 (fun y => y.cell? ⟨bx, 1, none⟩ = some (.int .i64 (j : Int)) ∧ y.cell? ⟨gv, j * 2, none⟩ = some (.int .u8 vt)) (by kernel_rfl) (by kernel_rfl) (fun _ _ _ _ _ h => h) hS [_, _, _, _, _, _, _, _, _, _] rfl _ rfl [_, _, _, _, _] rfl ?_
  clear P1 b0 b1 b2 bl g0 gl d0 d1 d2 dl g0' gl' hS HW2
  refine wpQ_move rfl (.tmp 2) (.slice (some ⟨gv, 0, none⟩) ln lc) rfl (by kernel_rfl) ?_
  simp only [List.getElem_toArray, List.getElem_cons_succ, List.getElem_cons_zero, Act.put, List.setIfInBounds_toArray, List.set_cons_succ, List.set_cons_zero]
  refine wpQ_fieldAddr rfl (.tmp 5) 1 ⟨bx, 0, none⟩ ⟨bx, 1, none⟩ rfl (by kernel_rfl) (fun w => by kernel_rfl) ?_
  simp only [List.getElem_toArray, List.getElem_cons_succ, List.getElem_cons_zero, Act.put, List.setIfInBounds_toArray, List.set_cons_succ, List.set_cons_zero]
  refine wpQ_load1 rfl (.tmp 272) ⟨bx, 1, none⟩ (.int .i64 (j : Int)) rfl (by kernel_rfl) (by kernel_rfl) (fun _ h => h.1) ?_
  simp only [List.getElem_toArray, List.getElem_cons_succ, List.getElem_cons_zero, Act.put, List.setIfInBounds_toArray, List.set_cons_succ, List.set_cons_zero]
  refine wpQ_move rfl (.tmp 0) (.pointer (some ⟨R.bn, 0, none⟩)) rfl (by kernel_rfl) ?_
  simp only [List.getElem_toArray, List.getElem_cons_succ, List.getElem_cons_zero, Act.put, List.setIfInBounds_toArray, List.set_cons_succ, List.set_cons_zero]
  refine wpQ_move rfl (.tmp 2) (.slice (some ⟨gv, 0, none⟩) ln lc) rfl (by kernel_rfl) ?_
  simp only [List.getElem_toArray, List.getElem_cons_succ, List.getElem_cons_zero, Act.put, List.setIfInBounds_toArray, List.set_cons_succ, List.set_cons_zero]
  refine wpQ_fieldAddr rfl (.tmp 5) 1 ⟨bx, 0, none⟩ ⟨bx, 1, none⟩ rfl (by kernel_rfl) (fun w => by kernel_rfl) ?_
  simp only [List.getElem_toArray, List.getElem_cons_succ, List.getElem_cons_zero, Act.put, List.setIfInBounds_toArray, List.set_cons_succ, List.set_cons_zero]
  refine wpQ_load1 rfl (.tmp 276) ⟨bx, 1, none⟩ (.int .i64 (j : Int)) rfl (by kernel_rfl) (by kernel_rfl) (fun _ h => h.1) ?_
  simp only [List.getElem_toArray, List.getElem_cons_succ, List.getElem_cons_zero, Act.put, List.setIfInBounds_toArray, List.set_cons_succ, List.set_cons_zero]
  refine wpQ_indexVal rfl (.tmp 275) (.tmp 277) gv ln lc j rfl (by kernel_rfl) (by kernel_rfl) HJN.out ?_
  simp only [List.getElem_toArray, List.getElem_cons_succ, List.getElem_cons_zero, Act.put, List.setIfInBounds_toArray, List.set_cons_succ, List.set_cons_zero]
  refine wpQ_fieldAddr rfl (.tmp 278) 0 ⟨gv, j * 2, none⟩ ⟨gv, j * 2, none⟩ rfl (by kernel_rfl) (fun w => by kernel_rfl) ?_
  simp only [List.getElem_toArray, List.getElem_cons_succ, List.getElem_cons_zero, Act.put, List.setIfInBounds_toArray, List.set_cons_succ, List.set_cons_zero]
  refine wpQ_load1 rfl (.tmp 279) ⟨gv, j * 2, none⟩ (.int .u8 vt) rfl (by kernel_rfl) (by kernel_rfl) (fun _ h => h.2) ?_
  simp only [List.getElem_toArray, List.getElem_cons_succ, List.getElem_cons_zero, Act.put, List.setIfInBounds_toArray, List.set_cons_succ, List.set_cons_zero]
  refine wpQuiet_nil ?_
  go_wp2_with fail
  refine POP.out.mono ?_
  rintro e w3 ⟨rfl, n3, s3⟩
  have P3 : Hid (StW R (.slice (some ⟨gv, 0, none⟩) ln lc) loc w w3 L L K K (m.pd.st r) bx ⟨14, (j : Int), ctab⟩) := (P2.out.fresh ((Fr.refl _ _).drew)).stepN n3 s3
  obtain ⟨vn, HVN⟩ : ∃ vn, Hid (v.num = vn) := ⟨_, rfl⟩
  rw [HVN.out]
  have b0 := P3.out.box.cell 0
  have b1 := P3.out.box.cell 1
  have b2 := P3.out.box.cell 2
  simp at b0 b1 b2
  have bl := P3.out.box.lt
  obtain ⟨g0, g1, gl, hx1, hx2⟩ := loc_cells P3.out.loc HJ.out rfl
  clear hx1 hx2
  rw [← HVT.out] at g0
  have P4 : Hid (StW R (.slice (some ⟨gv, 0, none⟩) ln lc) (loc.reverse.set j v).reverse w (w3.setCell ⟨gv, j * 2 + 1, none⟩ (.int .i64 vn)) L L K K (m.pd.st r) bx ⟨14, (j : Int), ctab⟩) := by
    show StW _ _ _ _ _ _ _ _ _ _ _ _
    rw [← HVN.out]
    exact P3.out.setLoc HJ.out HT.out
  have fz : w3.frozen? ⟨gv, j * 2 + 1, none⟩ = false := by
    obtain ⟨cs, hcs⟩ := owns_typed P3.out.loc.own (g := gv) rfl
    exact hcs.frozen _
  have hne : bx ≠ gv := fun e => P3.out.own.2.2 (by rw [e]; rfl)
  clear n3 s3 P2 P3 POP
  go_wp2
  refine ⟨⟨b1, g0⟩, ?_⟩
  refine wpQ_move rfl (.tmp 281) (.tuple #[.int .i64 vn, .bool true]) rfl (by kernel_rfl) ?_
  simp only [List.getElem_toArray, List.getElem_cons_succ, List.getElem_cons_zero, Act.put, List.setIfInBounds_toArray, List.set_cons_succ, List.set_cons_zero]
  refine wpQ_pure rfl (.int .i64 vn) (fun w => by kernel_rfl) ?_
  simp only [List.getElem_toArray, List.getElem_cons_succ, List.getElem_cons_zero, Act.put, List.setIfInBounds_toArray, List.set_cons_succ, List.set_cons_zero]
  refine wpQ_pure rfl (.bool true) (fun w => by kernel_rfl) ?_
  simp only [List.getElem_toArray, List.getElem_cons_succ, List.getElem_cons_zero, Act.put, List.setIfInBounds_toArray, List.set_cons_succ, List.set_cons_zero]
  refine wpQ_indexVal rfl (.tmp 271) (.tmp 273) gv ln lc j rfl (by kernel_rfl) (by kernel_rfl) HJN.out ?_
  simp only [List.getElem_toArray, List.getElem_cons_succ, List.getElem_cons_zero, Act.put, List.setIfInBounds_toArray, List.set_cons_succ, List.set_cons_zero]
  refine wpQ_fieldAddr rfl (.tmp 284) 1 ⟨gv, j * 2, none⟩ ⟨gv, j * 2 + 1, none⟩ rfl (by kernel_rfl) (fun w => by kernel_rfl) ?_
  simp only [List.getElem_toArray, List.getElem_cons_succ, List.getElem_cons_zero, Act.put, List.setIfInBounds_toArray, List.set_cons_succ, List.set_cons_zero]
  refine wpQuiet_nil ?_
  simp only [List.drop_succ_cons, List.drop_zero]
  refine (show wpChain _ _ _ _ (_ :: [_]) (1 + 1) _ _ from ?_)
  rw [wpChain_cons]
  go_wp2
  have y1 := P4.out.box.cell 1
  simp at y1
  have y0 := (loc_cells P4.out.loc (j := j) (v := v) (by rw [List.reverse_reverse, List.getElem?_set_self (List.getElem?_eq_some_iff.1 HJ.out).1]) rfl).1
  rw [HT.out, ← HVT.out] at y0
  refine ⟨⟨y1, y0⟩, ?_⟩
  refine (show wpChain _ _ _ _ (_ :: []) (0 + 1) _ _ from ?_)
  rw [wpChain_cons]
  go_wp2
  refine ⟨⟨y1, y0⟩, ?_⟩
  rw [wpChain_zero]
  go_wp2
  go_ret2
  exact P4.out.post (HO.out.same rfl) ⟨by omega, by omega⟩
end
end Go.Proofs.Qxb6500575aGreatDoor
