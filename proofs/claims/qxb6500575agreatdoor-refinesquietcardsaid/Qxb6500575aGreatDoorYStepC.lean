/-
  THE WALK of runm.step: br_table. Written by tools/gen_ystep.py.
-/
import Derived.Test.Qxb6500575aGreatDoorYStep0
namespace Go.Proofs.Qxb6500575aGreatDoor
open Go Go.RowKit
set_option linter.unusedVariables false
set_option linter.unusedSimpArgs false

section
variable {R : MP} {H : HF HS} {m : MS} {w : World} {L : NL} {K : ML} {la : Option Addr} {ln lc : Nat} {loc : List V}
set_option maxRecDepth 100000
set_option maxHeartbeats 600000
theorem tab_wrap {j : Nat} (h : j ≤ 5) : wrap64 (j : Int) = j := by unfold wrap64; omega
theorem ystep_tab (hO : HostOk R H m) (hW : MW R w L K m) (hL : LocAt R w L (.slice la ln lc) loc) (hu : 0 ≤ m.x.used) (hf : m.x.fuel ≤ 9223372036854775807) (hp : m.x.pay.2 = 0) (depth : Int) (cimm : Int) (ctab : List UInt8) {v : V} {r : List V} (hst : m.x.st = v :: r) (hl : r.length ≤ 1000) (hv5 : v.ty = 105) (htl : ctab.length ≤ 5) (tb : UInt8) (htb : ctab[(min (v.num % 4294967296) ((ctab.length : Int) - 1)).toNat]? = some tb) : Calls Tryz.prog 143 #[.pointer (some ⟨R.bn, 0, none⟩), Ins.val ⟨8, cimm, ctab⟩, .slice la ln lc, .int .i64 depth] w (RunPost R H (.slice la ln lc) ⟨tb.toNat, 0, loc, m.pd.bump.st r⟩ w L K) := by
  obtain ⟨w0, HW0⟩ : ∃ w0, Hid (w0 = w.alloc (.cells #[.int .i64 8, .int .i64 cimm, sv ctab] 67)) := ⟨_, rfl⟩
  obtain ⟨bx, HBX⟩ : ∃ bx, Hid (bx = w.heap.size) := ⟨_, rfl⟩
  have P0 : Hid (StW R (.slice la ln lc) loc w w0 L L K K m bx ⟨8, cimm, ctab⟩) := by
    show StW _ _ _ _ _ _ _ _ _ _ _ _
    rw [HW0.out, HBX.out]
    exact StW.first hW hL ⟨8, cimm, ctab⟩
  have HO : Hid (HostOk R H m.pd) := hO.pay
  clear hW hL hO
  unfold Ins.val
  simp only
  go_enter Tryz.func143, Tryz.ntmps143
  go_wp2_with fail
  rw [← HW0.out, ← HBX.out]
  refine (payed P0.out.mw hu hf hp).mono ?_
  rintro e w1 ⟨rfl, m1, s1⟩
  have P1 : Hid (StW R (.slice la ln lc) loc w w1 L L K K m.pd bx ⟨8, cimm, ctab⟩) := P0.out.stepN m1.inst s1
  have b0 := P1.out.box.cell 0
  have b1 := P1.out.box.cell 1
  have b2 := P1.out.box.cell 2
  simp at b0 b1 b2
  have bl := P1.out.box.lt
  clear P0 HW0 m1 s1
  go_wp2_with fail
  refine (ysig_any 8 (by omega) w1).mono ?_
  rintro e w2 ⟨rfl, hw2⟩
  rw [hw2]
  clear hw2 w2
  rw [show sigM 8 = ([108, 108], [105]) from rfl, show plainOp 8 = false from rfl]
  simp only
  have hst2 : m.pd.bump.x.st = v :: r := (pay_st m.x).trans hst
  obtain ⟨xn, HXN⟩ : ∃ xn, Hid (m.pd.x.n = xn) := ⟨_, rfl⟩
  have c6 := P1.out.mw.inst.here.cell 6
  have f6 := P1.out.mw.inst.here.frozen 6
  have l6 := P1.out.mw.inst.here.lt
  simp at c6
  rw [HXN.out] at c6
  obtain ⟨w3, HW3⟩ : ∃ w3, Hid (w3 = (w1.setCell ⟨R.bn, 6, none⟩ (.int .i64 (wrap64 (xn + 1)))).alloc (.cells #[.int .u8 0, .int .i64 0, .int .u8 0, .int .i64 0] 70)) := ⟨_, rfl⟩
  have P3 : Hid (StW R (.slice la ln lc) loc w w3 L L K K m.pd.bump bx ⟨8, cimm, ctab⟩) := by
    show StW _ _ _ _ _ _ _ _ _ _ _ _
    rw [HW3.out, ← HXN.out]
    obtain ⟨r1, r2⟩ := P1.out.mw.inst.setN (wrap64 (m.pd.x.n + 1))
    exact (P1.out.stepN r1 r2).fresh ((Fr.refl _ _).alloc _)
  clear P1 HXN
  go_wp2_with fail
  rw [← HW3.out]
  refine (ypop_any P3.out.mw.inst hst2 (by omega) hv5).mono ?_
  rintro e w4 ⟨rfl, n4, s4⟩
  have P4 : Hid (StW R (.slice la ln lc) loc w w4 L L K K (m.pd.bump.st r) bx ⟨8, cimm, ctab⟩) := P3.out.stepN n4 s4
  clear n4 s4 P3 HW3 b0 b1 b2 bl c6 f6 l6 hst hst2 hv5
  have b0 := P4.out.box.cell 0
  have b1 := P4.out.box.cell 1
  have b2 := P4.out.box.cell 2
  simp at b0 b1 b2
  have bl := P4.out.box.lt
  obtain ⟨vn, HVN⟩ : ∃ vn, Hid (v.num = vn) := ⟨_, rfl⟩
  rw [HVN.out] at htb ⊢
  obtain ⟨q, hq⟩ : ∃ q : Nat, bits .and .i64 vn 4294967295 = q := ⟨(vn % 4294967296).toNat, by rw [andiU]; omega⟩
  have hqv : vn % 4294967296 = q := by rw [← andiU]; exact hq
  rw [hqv] at htb
  obtain ⟨tn, HTN⟩ : ∃ tn : Int, Hid (tn = tb.toNat) := ⟨_, rfl⟩
  have htn : -9223372036854775808 ≤ tn ∧ tn < 9223372036854775808 := by rw [HTN.out]; have := tb.toNat_lt; omega
  by_cases hlt : q < ctab.length
  · have hmin : (min (q : Int) ((ctab.length : Int) - 1)).toNat = q := by omega
    rw [hmin] at htb
    have hb : ∀ h, (((⟨ctab.toArray⟩ : ByteArray)[q]'h).toNat : Int) = tn := fun h => by
      show (ctab[q].toNat : Int) = _
      rw [(List.getElem?_eq_some_iff.1 htb).2, HTN.out]
    have hjl : (q : Int) < ctab.length := Int.ofNat_lt.2 hlt
    clear htb hmin hqv htl HVN hlt
    go_wp2
    go_ret2
    rw [← HTN.out]
    exact P4.out.post (HO.out.same rfl) htn
  · obtain ⟨j, hj⟩ : ∃ j, ctab.length = j + 1 := ⟨ctab.length - 1, by have := (List.getElem?_eq_some_iff.1 htb).1; omega⟩
    have hmin : (min (q : Int) ((ctab.length : Int) - 1)).toNat = j := by omega
    rw [hmin] at htb
    have hb : ∀ h, (((⟨ctab.toArray⟩ : ByteArray)[j]'h).toNat : Int) = tn := fun h => by
      show (ctab[j].toNat : Int) = _
      rw [(List.getElem?_eq_some_iff.1 htb).2, HTN.out]
    have hjl : (j : Int) < ctab.length := by rw [hj]; exact Int.ofNat_lt.2 (Nat.lt_succ_self j)
    have hj1 : (ctab.length : Int) - 1 = j := by rw [hj]; simp
    have hwj : wrap64 (j : Int) = j := tab_wrap (by omega)
    have hge : (ctab.length : Int) ≤ q := Int.ofNat_le.2 (Nat.le_of_not_lt hlt)
    clear htb hmin hqv htl hlt hj HVN
    go_wp2
    go_ret2
    rw [← HTN.out]
    exact P4.out.post (HO.out.same rfl) htn
end
end Go.Proofs.Qxb6500575aGreatDoor
