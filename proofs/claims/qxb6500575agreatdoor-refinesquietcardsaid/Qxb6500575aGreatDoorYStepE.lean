/-
  THE WALK of runm.step: local.get. Written by tools/gen_ystep.py.
-/
import Derived.Test.Qxb6500575aGreatDoorYStep1
namespace Go.Proofs.Qxb6500575aGreatDoor
open Go Go.RowKit
set_option linter.unusedVariables false
set_option linter.unusedSimpArgs false

section
variable {R : MP} {H : HF HS} {m : MS} {w : World} {L : NL} {K : ML} {la : Option Addr} {ln lc : Nat} {loc : List V}
set_option maxRecDepth 100000
set_option maxHeartbeats 600000
theorem ystep_get (hO : HostOk R H m) (hW : MW R w L K m) (hL : LocAt R w L (.slice la ln lc) loc) (hu : 0 ≤ m.x.used) (hf : m.x.fuel ≤ 9223372036854775807) (hp : m.x.pay.2 = 0) (depth : Int) (ctab : List UInt8) {j : Nat} {v : V} (hj : loc.reverse[j]? = some v) (hl : m.x.st.length ≤ 900) : Calls Tryz.prog 143 #[.pointer (some ⟨R.bn, 0, none⟩), Ins.val ⟨13, (j : Int), ctab⟩, .slice la ln lc, .int .i64 depth] w (RunPost R H (.slice la ln lc) ⟨-1, 0, loc, m.pd.st (v :: m.pd.x.st)⟩ w L K) := by
  obtain ⟨gv, rfl⟩ := loc_some hL (by have := (List.getElem?_eq_some_iff.1 hj).1; rw [List.length_reverse] at this; omega)
  obtain ⟨w0, HW0⟩ : ∃ w0, Hid (w0 = w.alloc (.cells #[.int .i64 13, .int .i64 (j : Int), sv ctab] 67)) := ⟨_, rfl⟩
  obtain ⟨bx, HBX⟩ : ∃ bx, Hid (bx = w.heap.size) := ⟨_, rfl⟩
  have P0 : Hid (StW R (.slice (some ⟨gv, 0, none⟩) ln lc) loc w w0 L L K K m bx ⟨13, (j : Int), ctab⟩) := by
    show StW _ _ _ _ _ _ _ _ _ _ _ _
    rw [HW0.out, HBX.out]
    exact StW.first hW hL ⟨13, (j : Int), ctab⟩
  have HO : Hid (HostOk R H m.pd) := hO.pay
  clear hW hL hO
  unfold Ins.val
  simp only
  go_enter Tryz.func143, Tryz.ntmps143
  go_wp2_with fail
  rw [← HW0.out, ← HBX.out]
  refine (payed P0.out.mw hu hf hp).mono ?_
  rintro e w1 ⟨rfl, m1, s1⟩
  have P1 : Hid (StW R (.slice (some ⟨gv, 0, none⟩) ln lc) loc w w1 L L K K m.pd bx ⟨13, (j : Int), ctab⟩) := P0.out.stepN m1.inst s1
  have b0 := P1.out.box.cell 0
  have b1 := P1.out.box.cell 1
  have b2 := P1.out.box.cell 2
  simp at b0 b1 b2
  have bl := P1.out.box.lt
  clear P0 HW0 m1 s1
  go_wp2_with fail
  refine (ysig_any 13 (by omega) w1).mono ?_
  rintro e w2 ⟨rfl, hw2⟩
  rw [hw2]
  clear hw2 w2
  rw [show sigM 13 = ([108, 108], [105]) from rfl, show plainOp 13 = false from rfl]
  simp only
  obtain ⟨w2, HW2⟩ : ∃ w2, Hid (w2 = w1.alloc (.cells #[.int .u8 0, .int .i64 0, .int .u8 0, .int .i64 0] 70)) := ⟨_, rfl⟩
  have P2 : Hid (StW R (.slice (some ⟨gv, 0, none⟩) ln lc) loc w w2 L L K K m.pd bx ⟨13, (j : Int), ctab⟩) := by
    show StW _ _ _ _ _ _ _ _ _ _ _ _
    rw [HW2.out]
    exact P1.out.fresh ((Fr.refl _ _).alloc _)
  obtain ⟨g0, g1, gl, hln, hjn⟩ := loc_cells P1.out.loc hj rfl
  obtain ⟨g0', g1', gl', hx1, hx2⟩ := loc_cells P2.out.loc hj rfl
  clear hx1 hx2
  have hjI : (j : Int) < ln := Int.ofNat_lt.2 hjn
  obtain ⟨vt, HVT⟩ : ∃ vt : Int, Hid (vt = v.ty.toNat) := ⟨_, rfl⟩
  obtain ⟨vn, HVN⟩ : ∃ vn : Int, Hid (vn = v.num) := ⟨_, rfl⟩
  rw [← HVT.out] at g0 g0'
  rw [← HVN.out] at g1 g1'
  have HL9 : Hid (m.pd.x.st.length ≤ 900) := by show _ ≤ _; rw [show m.pd.x.st = m.x.st from pay_st m.x]; exact hl
  have HJ : Hid (loc.reverse[j]? = some v) := hj
  clear hj hln hjn hl
  go_wp2
  rw [← HW2.out]
  have d0 := P2.out.box.cell 0
  have d1 := P2.out.box.cell 1
  have d2 := P2.out.box.cell 2
  simp at d0 d1 d2
  have dl := P2.out.box.lt
  have d3 := P2.out.mw.inst.here.cell 3
  simp at d3
  have k3 := P2.out.mw.inst.here.lt
  clear P1 b0 b1 b2 bl g0 g1 gl
  refine wp_region_app rowVals2 10 (by kernel_rfl) (by kernel_rfl) (fun _ _ _ _ _ h => h) _ _ _ rfl (.tmp 254) (.tmp 249) 255 256 rfl rfl rfl rfl rfl rfl _ _ _ P2.out.mw.inst.st (.agg #[.int .u8 vt, .int .i64 vn]) rfl (by decide) (by simp [Value.cells, Value.oneCell']) (by have := HL9.out; show (m.pd.x.st.length + 1) * _ ≤ _; omega) ?_
  intro g cap w9 q1 q2 q3 q4
  have hq3 : (L.stV m.pd.x).ownBlock = some g ∨ w2.heap.size ≤ g := by
    rcases q3 with q3 | q3
    · exact .inl q3
    · right; omega
  obtain ⟨hh, r9, s9⟩ := P2.out.mw.inst.pushed v ((Fr.refl _ _).alloc _) (by rw [← HVT.out, ← HVN.out]; exact q1) q2 hq3
  have NSst : ∀ k, (L.stV m.pd.x).ownBlock = some k → NS R.bn L k := fun k e => .inr (by rw [ownBlock_any _ _ _ m.pd.x.st.length L.sc]; exact e)
  have x9 : Has w9 bx _ _ := (P2.out.box.alloc _).fr q2 (fun e => P2.out.own.1 (NSst _ e))
  have o9 : LocAt R w9 L (.slice (some ⟨gv, 0, none⟩) ln lc) loc := ⟨owns_fr (owns_alloc P2.out.loc.own _) q2 (fun k hk e => P2.out.loc.ap k hk (NSst _ e)), P2.out.loc.ap⟩
  obtain ⟨h0, h1, hgl, hx1, hx2⟩ := loc_cells o9 HJ.out rfl
  clear hx1 hx2
  rw [← HVT.out] at h0
  rw [← HVN.out] at h1
  have e1 := x9.cell 1
  have e3 := hh.cell 3
  have f3 := hh.frozen 3
  have l3 := hh.lt
  have lx := x9.lt
  simp at e1 e3
  have P9 : Hid (StW R (.slice (some ⟨gv, 0, none⟩) ln lc) loc w _ L _ K K (m.pd.st (v :: m.pd.x.st)) bx ⟨13, (j : Int), ctab⟩) := P2.out.stepN r9 s9
  clear q1 q2 q3 q4 hq3 hh r9 s9 o9 x9 NSst
  simp only [List.take_succ_cons, List.take_zero]
  repeat go_big_quiet_step (fail)
  refine wpQuiet_nil ⟨rfl, rfl, by simp, rfl, ?_⟩
  clear d0 d1 d2 dl d3 k3 g0' g1' gl' h0 h1 hgl e1 lx
  go_wp2
  go_ret2
  exact P9.out.post (HO.out.same rfl) ⟨by omega, by omega⟩
end
end Go.Proofs.Qxb6500575aGreatDoor
