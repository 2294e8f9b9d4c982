/-
  THE WALK of comp: Check.
-/
import Derived.Test.Qxb6500574aGreatDoorWKc6
import Derived.Test.Qxb6500574aGreatDoorWKc7
import Derived.Test.Qxb6500574aGreatDoorWKc8
import Derived.Test.Qxb6500574aGreatDoorWKc9
namespace Go.Proofs.Qxb6500574aGreatDoor
open Go Go.RowKit
set_option linter.unusedVariables false
set_option linter.unusedSimpArgs false
open Go.Lib
structure Fr19a (cb x np S : Nat) (a : Act) : Prop where
  size : a.tmps.size = 211
  df : a.defers = []
  t0 : a.tmps[0]? = some (.pointer (some ⟨cb, 0, none⟩))
  t3 : a.tmps[3]? = some (.int .i64 S)
  t71 : a.tmps[71]? = some (.int .i64 np)
  t72 : a.tmps[72]? = some (.int .i64 x)
/-- what x states weigh -/
def szC (c : CmD) (x : Nat) : Nat := if c.np = 0 then 0 else (lyP c x).length
theorem layF_is (f : FnD) : (layF f).length = 7 + 2 * f.ups.length + 3 * f.code.length + (f.consts.flatMap layC).length := by
  have e1 : (f.ups.flatMap upB).length = 2 * f.ups.length := flatMap_len2 upB 2 (fun _ => rfl) _
  have e3 : (f.code.flatMap inB).length = 3 * f.code.length := flatMap_len2 inB 3 (fun _ => rfl) _
  have e4 : (layF f).length = 3 + (f.ups.flatMap upB).length + 2 + (f.consts.flatMap layC).length + 2 + (f.code.flatMap inB).length := by
    show ([_, _, _] ++ f.ups.flatMap upB ++ put16 _ ++ f.consts.flatMap layC ++ put16 _ ++ f.code.flatMap inB).length = _
    simp only [List.length_append, List.length_cons, List.length_nil, put16]
  omega
theorem szC_succ {c : CmD} {x : Nat} (h : x < c.fns.length) (hn : 1 ≤ c.np) : szC c (x + 1) = szC c x + (7 + 2 * (c.fn x).ups.length + 3 * (c.fn x).code.length) + ((c.fn x).consts.flatMap layC).length := by
  unfold szC
  rw [if_neg (by omega), if_neg (by omega), lyP_succ h, List.length_append, layF_is]
  omega
theorem szC_zero (c : CmD) : szC c 0 = min c.np 1 := by
  unfold szC lyP
  by_cases h : c.np = 0
  · rw [if_pos h, h]; rfl
  · rw [if_neg h]
    simp
    omega
theorem szC_end {C : CC} {c : CmD} (h : HeldK C c) : szC c c.np = C.bl.length := by
  unfold szC
  rcases h.bl with ⟨h0, hb⟩ | ⟨h1, hb⟩
  · rw [if_pos h0, hb]; rfl
  · rw [if_neg (by omega), hb]; rfl
theorem szC_mono {c : CmD} {x y : Nat} (h : x ≤ y) : szC c x ≤ szC c y := by
  unfold szC
  split
  · exact Nat.le_refl _
  · unfold lyP
    simp only [List.length_cons, Nat.add_le_add_iff_right]
    have : (c.fns.take x).flatMap layF <+: (c.fns.take y).flatMap layF := by
      have h1 : c.fns.take x <+: c.fns.take y := List.take_prefix_take_left h
      obtain ⟨t, ht⟩ := h1
      rw [← ht, List.flatMap_append]
      exact List.prefix_append _ _
    exact this.length_le
theorem min2 {P : Program} {ts : Array TypeId} {t : TypeId} (w : World) (a : Nat) : (Builtin.min_ ts t #[.int .i64 (a : Nat), .int .i64 1]).run P w = .ok (.int .i64 ((min a 1 : Nat) : Int)) w := by
  have e : (if (1 : Int) < (a : Int) then (1 : Int) else (a : Int)) = ((min a 1 : Nat) : Int) := by split <;> omega
  rw [← e]
  simp [Builtin.min_, Builtin.min2]
theorem Stp.none {w w1 : World} {o o1 : Nat → Nat} (h : Stp (fun _ => False) w o w1 o1) : Fr (fun _ => False) w w1 := h.fr.weaken (fun _ _ x => x)
section
set_option maxRecDepth 100000
set_option maxHeartbeats 1000000
variable {w : World} {o : Nat → Nat} {C : CC} {c : CmD} {A : VL} {bc sx : Nat} {num : Value}
theorem ccheck_any (h : CM bc w o A C sx num c) : Calls Tryz.prog 19 #[.pointer (some ⟨C.cb, 0, none⟩)] w fun e w' => e = .returned (.bool true) ∧ Fr (fun _ => False) w w' := by
  obtain ⟨T, N, sy, so⟩ := h.X.S
  have K := h.ok.k
  have R := h.X.R
  have d0 := R.blk.has.cell 0
  have d1 := R.blk.has.cell 1
  have d2 := R.blk.has.cell 2
  have d3 := R.blk.has.cell 3
  have d4 := R.blk.has.cell 4
  have d5 := R.blk.has.cell 5
  have dl := R.blk.has.lt
  simp only [comC, List.getElem?_toArray, List.getElem?_cons_succ, List.getElem?_cons_zero, Sl.v, h.X.sn, h.X.ps, h.dv, sl0, List.length_nil] at d0 d1 d2 d3 d4 d5
  have HR : Hid (CRep w o C [] c) := R
  have HK : Hid (HeldK C c) := K
  have HI : Hid (∀ W, Fr (fun _ => False) w W → Idle bc W A) := fun W hW => h.I.apart hW (fun k _ x => x)
  have HSY := scheck_any sy so
  have h13 := R.np
  have hlen := R.len
  obtain ⟨np, HNP⟩ : ∃ v, Hid (c.np = v) := ⟨_, rfl⟩
  obtain ⟨q, HQ⟩ : ∃ v, Hid (C.bl.length = v) := ⟨_, rfl⟩
  have hq : q ≤ 32768 := by rw [← HQ.out]; exact K.len
  have HEND : Hid (szC c np = q) := by rw [← HNP.out, ← HQ.out]; exact szC_end K
  have HZERO : Hid (szC c 0 = min np 1) := by rw [← HNP.out]; exact szC_zero c
  rw [HNP.out] at d4 h13
  rw [HQ.out] at d5
  have k1 : decide ((np : Int) < 0) = false := by rw [decide_eq_false_iff_not]; omega
  have k2 : decide ((13 : Int) < (np : Int)) = false := by rw [decide_eq_false_iff_not]; omega
  have k3 : decide ((32768 : Int) < (q : Int)) = false := by rw [decide_eq_false_iff_not]; omega
  clear h R K sy so
  go_enter Tryz.func19, Tryz.ntmps19
  obtain ⟨Q, HQQ⟩ : ∃ Q, Hid (bodyPost Tryz.prog Tryz.f19 (fun e w' => e = .returned (.bool true) ∧ Fr (fun _ => False) w w') = Q) := ⟨_, rfl⟩
  rw [HQQ.out]
  have hQ : Hid (∀ c a t v w, Q (.panic c) (a.put (some t) v) w → Q (.panic c) a w) := by
    rw [← HQQ.out]
    intro c a t v w h
    exact h
  go_wp2_with fail
  refine HSY.mono ?_
  rintro e1 w1 ⟨rfl, S1⟩
  have F1 := S1.none
  have d1 := F1.cell d1
  have dl1 : C.cb < w1.heap.size := Nat.lt_of_lt_of_le dl F1.size
  have CO := coCheck_any (HI.out w1 F1)
  have HF1 : Hid (Fr (fun _ => False) w w1) := F1
  clear S1 F1 HSY
  go_wp2_with fail
  refine CO.mono ?_
  rintro e1 w2 ⟨rfl, F2⟩
  have F2 := HF1.out.trans F2 (fun _ _ x => x)
  have HF2 : Hid (Fr (fun _ => False) w w2) := F2
  have d2 := F2.cell d2
  have d3 := F2.cell d3
  have d4 := F2.cell d4
  have d5 := F2.cell d5
  have dl : C.cb < w2.heap.size := Nat.lt_of_lt_of_le dl F2.size
  have hmin := fun ts t => min2 (P := Tryz.prog) (ts := ts) (t := t) w2.drew np
  rw [← HZERO.out] at hmin
  obtain ⟨S0, HS0⟩ : ∃ v, Hid (szC c 0 = v) := ⟨_, rfl⟩
  rw [HS0.out] at hmin
  clear CO d0 d1 dl1 F2
  go_wp2_with fail
  refine wp_region_tail 39 (by kernel_rfl) (by kernel_rfl) (fun c a t v w h => hQ.out c a t v w h) ?_
  simp only [List.take_succ_cons, List.take_zero, List.drop_succ_cons, List.drop_zero]
  repeat go_big_quiet_step (fail)
  refine wpQuiet_nil ?_
  go_wp2_with fail
  refine wp_loop_ghost (fun n a' w' => Hid (∃ x, x + n = np ∧ Fr19a C.cb x np (szC c x) a' ∧ Fr (fun _ => False) w w')) np ?_ ?_
  · exact ⟨0, by omega, ⟨by kernel_rfl, rfl, by kernel_rfl, by rw [HS0.out]; kernel_rfl, by kernel_rfl, by kernel_rfl⟩, HF2.out.drew⟩
  clear d2 d3 d4 d5 dl hmin HF2 HF1
  intro n a w3 hI
  obtain ⟨x, hxn, ha, F3⟩ := hI.out
  have HXN : Hid (x + n = np) := hxn
  have HF3 : Hid (Fr (fun _ => False) w w3) := F3
  by_cases hx : x < np
  · have hx' : (x : Int) < (np : Int) := by omega
    have hxc : x < c.np := by rw [HNP.out]; exact hx
    obtain ⟨xs, L, FN⟩ := HR.out.fn hxc
    have HFN : Hid (FnAt w o C c x xs L) := FN
    obtain ⟨M, CL⟩ := HK.out.one x hxc
    have HMK : Hid (MidOk c x) := M
    obtain ⟨s1, hcode⟩ := CL.tl
    obtain ⟨m, HM⟩ : ∃ m : Nat, Hid (s1.length = m) := ⟨_, rfl⟩
    have HV9 : Hid ((c.fn x).code.length = m + 3) := by
      show _ = _
      rw [hcode, List.length_append, HM.out]
      rfl
    have d3 := F3.cell (HR.out.blk.has.cell 3)
    have dl : C.cb < w3.heap.size := Nat.lt_of_lt_of_le HR.out.blk.has.lt F3.size
    simp only [comC, List.getElem?_toArray, List.getElem?_cons_succ, List.getElem?_cons_zero] at d3
    have MID := mid_any (HR.out.fresh F3) hxc M
    unfold fptr at MID
    obtain ⟨SX, HSX⟩ : ∃ v, Hid (szC c x = v) := ⟨_, rfl⟩
    have hSX : SX ≤ 32768 := by
      rw [← HSX.out]
      have := szC_mono (c := c) (by omega : x ≤ np)
      rw [HEND.out] at this
      omega
    -- what is read of the state
    have c1 := FN.cell 1 (by omega)
    have c2 := FN.cell 2 (by omega)
    have c3 := FN.cell 3 (by omega)
    have c5 := FN.cell 5 (by omega)
    have c6 := FN.cell 6 (by omega)
    have c9 := FN.cell 9 (by omega)
    have c10 := FN.cell 10 (by omega)
    have fl := FN.lt
    have hlp : (c.fn x).loops.length = 0 := by rw [M.lps]; rfl
    have hlo := CL.loc
    simp only [fnV, List.getElem?_cons_succ, List.getElem?_cons_zero, Sl.v, hlp, hlo] at c1 c2 c3 c5 c6 c9 c10
    have hrow := FN.one.cd
    obtain ⟨gC, q1, q2, q3, q4, q5, q6⟩ := hrow.at iCells_len (j := m) (a := (2, 0)) (by rw [hcode, List.getElem?_append_right (by rw [HM.out]; exact Nat.le_refl _), HM.out, Nat.sub_self]; rfl)
    obtain ⟨gC1, r1, _, _, _, r5, _⟩ := hrow.at iCells_len (j := m + 1) (a := (2, 0)) (by rw [hcode, List.getElem?_append_right (by rw [HM.out]; omega), HM.out, Nat.add_sub_cancel_left]; rfl)
    obtain ⟨gC2, t1, _, _, _, t5, _⟩ := hrow.at iCells_len (j := m + 2) (a := (27, 0)) (by rw [hcode, List.getElem?_append_right (by rw [HM.out]; omega), HM.out, Nat.add_sub_cancel_left]; rfl)
    have hg1 : gC1 = gC := by
      rw [q1] at r1
      injection r1 with h1
      injection h1 with h1
      exact h1.symm
    have hg2 : gC2 = gC := by
      rw [q1] at t1
      injection t1 with h1
      injection h1 with h1
      exact h1.symm
    subst hg1 hg2
    have HCA : Hid (L.cd.a = some ⟨gC2, 0, none⟩) := q1
    have o0 := q5 0 (by omega)
    have o1 := r5 0 (by omega)
    have o2 := t5 0 (by omega)
    simp only [iCells, List.getElem?_cons_zero, Nat.add_zero] at o0 o1 o2
    obtain ⟨v2, HV2⟩ : ∃ v, Hid ((c.fn x).np = v) := ⟨_, rfl⟩
    obtain ⟨v5, HV5⟩ : ∃ v, Hid ((c.fn x).ups.length = v) := ⟨_, rfl⟩
    obtain ⟨v6, HV6⟩ : ∃ v, Hid ((c.fn x).consts.length = v) := ⟨_, rfl⟩
    have hv5 : v5 ≤ 144 := by rw [← HV5.out]; exact M.up.le
    have hmm : m ≤ 5104 := by have := M.cl; rw [HV9.out] at this; omega
    rw [HV2.out] at c2 c3
    rw [HV5.out] at c5
    rw [HV6.out] at c6
    rw [HV9.out, HCA.out] at c9
    rw [HV9.out] at q2
    have hcap : m + 3 ≤ L.cd.c := q2
    obtain ⟨B, HB⟩ : ∃ B : Bool, Hid (((x : Int) == 0) = B) := ⟨_, rfl⟩
    have hxB : ((x : Int) == 0) = B := HB.out
    obtain ⟨po, hpo, hpB⟩ : ∃ po : Option Addr, pptr C.gF (c.fn x).parent = .pointer po ∧ po.isNone = B := by
      rw [← HB.out]
      cases hp : (c.fn x).parent with
      | none =>
        have h0 : x = 0 := CL.par.2 hp
        have h1 : ((x : Int) == 0) = true := by simp [h0]
        rw [h1]
        exact ⟨none, rfl, rfl⟩
      | some p =>
        have h0 : x ≠ 0 := fun e => by have := CL.par.1 e; rw [hp] at this; cases this
        have h1 : ((x : Int) == 0) = false := by rw [beq_eq_false_iff_ne]; omega
        rw [h1]
        exact ⟨some _, rfl, rfl⟩
    rw [hpo] at c1
    clear hpo
    have CS : Hid (∀ W, Fr (fun _ => False) w W → W.cell? ⟨C.gF, x * 11 + 1, none⟩ = some (.pointer po) ∧ W.cell? ⟨C.gF, x * 11 + 2, none⟩ = some (.int .i64 v2) ∧ W.cell? ⟨C.gF, x * 11 + 3, none⟩ = some (.slice L.lo.a v2 L.lo.c) ∧ W.cell? ⟨C.gF, x * 11 + 5, none⟩ = some (.slice L.up.a v5 L.up.c) ∧ W.cell? ⟨C.gF, x * 11 + 6, none⟩ = some (.slice L.cn.a v6 L.cn.c) ∧ W.cell? ⟨C.gF, x * 11 + 9, none⟩ = some (.slice (some ⟨gC2, 0, none⟩) (m + 3) L.cd.c) ∧ W.cell? ⟨C.gF, x * 11 + 10, none⟩ = some (.slice L.lp.a 0 L.lp.c) ∧ W.cell? ⟨gC2, m * 2, none⟩ = some (.int .u8 2) ∧ W.cell? ⟨gC2, (m + 1) * 2, none⟩ = some (.int .u8 2) ∧ W.cell? ⟨gC2, (m + 2) * 2, none⟩ = some (.int .u8 27) ∧ C.gF < W.heap.size ∧ gC2 < W.heap.size) := fun W hW =>
      ⟨hW.cell c1, hW.cell c2, hW.cell c3, hW.cell c5, hW.cell c6, hW.cell c9, hW.cell c10, hW.cell o0, hW.cell o1, hW.cell o2, Nat.lt_of_lt_of_le fl hW.size, Nat.lt_of_lt_of_le q4 hW.size⟩
    obtain ⟨u, ea, hv⟩ := form211 ha.size ha.df
    have t3 := ha.t3
    rw [HSX.out] at t3
    rw [hv 0 _ ha.t0, hv 3 _ t3, hv 71 _ ha.t71, hv 72 _ ha.t72] at ea
    subst ea
    clear c1 c2 c3 c5 c6 c9 c10 fl o0 o1 o2 q1 q2 q3 q4 q5 q6 r1 r5 t1 t5 t3 hrow FN M CL hcode hlp hlo hv ha hI hxn F3
    have x13 : x < 13 := by omega
    go_wp2_with fail
    refine MID.mono ?_
    rintro e4 w4 ⟨rfl, F4⟩
    have HF4 : Hid (Fr (fun _ => False) w w4) := HF3.out.trans F4 (fun _ _ x => x)
    obtain ⟨c1, c2, c3, c5, c6, c9, c10, o0, o1, o2, fl, gl⟩ := CS.out w4 HF4.out
    have hn3 : decide ((m : Int) + 3 < 3) = false := by rw [decide_eq_false_iff_not]; omega
    clear F4 MID d3 dl
    go_wp2_with fail
    refine wp_region_tail 31 (by kernel_rfl) (by kernel_rfl) (fun c a t v w h => hQ.out c a t v w h) ?_
    simp only [List.take_succ_cons, List.take_zero, List.drop_succ_cons, List.drop_zero]
    repeat go_big_quiet_step (fail)
    refine wpQuiet_nil ?_
    go_wp2_with fail
    refine ck9D_w (S := SX) (np := np) (HR.out.fresh HF4.out.drew) (HFN.out.fresh HF4.out.drew) hxc HMK.out.ft HMK.out.cl ⟨by kernel_rfl, rfl, by kernel_rfl, by kernel_rfl, by kernel_rfl, by kernel_rfl, by rw [HV9.out]; kernel_rfl, by kernel_rfl, by kernel_rfl⟩ (by rw [HV9.out, HCA.out]; kernel_rfl) (by rw [HV9.out]; kernel_rfl) (by kernel_rfl) (fun c a t v w h => hQ.out c a t v w h) ?_
    intro a5 w5 ha5 F5
    have HF5 : Hid (Fr (fun _ => False) w w5) := HF4.out.drew.trans F5 (fun _ _ x => x)
    obtain ⟨u, ea, hv⟩ := form211 ha5.size ha5.df
    have t6 := ha5.t6
    rw [HV9.out] at t6
    rw [hv 0 _ ha5.t0, hv 3 _ ha5.t3, hv 4 _ ha5.t4, hv 5 _ ha5.t5, hv 6 _ t6, hv 71 _ ha5.t71, hv 72 _ ha5.t72] at ea
    subst ea
    clear c1 c2 c3 c5 c6 c9 c10 o0 o1 o2 fl gl t6 ha5 hv F5
    obtain ⟨c1, c2, c3, c5, c6, c9, c10, o0, o1, o2, fl, gl⟩ := CS.out w5 HF5.out
    go_wp2_with fail
    refine ck9K_w (S := SX + (7 + 2 * v5 + 3 * (m + 3))) (np := np) (m := m + 3) (HFN.out.fresh HF5.out) HMK.out.cn.ok HMK.out.kl (by omega) ⟨by kernel_rfl, rfl, by kernel_rfl, by kernel_rfl, by kernel_rfl, by kernel_rfl, by kernel_rfl, by kernel_rfl, by kernel_rfl⟩ (by rw [HV6.out]; kernel_rfl) (by rw [HV6.out]; kernel_rfl) (by kernel_rfl) (fun c a t v w h => hQ.out c a t v w h) ?_
    intro a6 w6 ha6 F6
    have HF6 : Hid (Fr (fun _ => False) w w6) := HF5.out.trans F6 (fun _ _ x => x)
    have HS1 : Hid (SX + (7 + 2 * v5 + 3 * (m + 3)) + ((c.fn x).consts.flatMap layC).length = szC c (x + 1)) := by
      show _ = _
      rw [szC_succ (by omega) (by omega), HSX.out, HV5.out, HV9.out]
    have t3 := ha6.t3
    rw [HS1.out] at t3
    obtain ⟨S1, HS2⟩ : ∃ v, Hid (szC c (x + 1) = v) := ⟨_, rfl⟩
    rw [HS2.out] at t3
    obtain ⟨u, ea, hv⟩ := form211 ha6.size ha6.df
    rw [hv 0 _ ha6.t0, hv 3 _ t3, hv 4 _ ha6.t4, hv 5 _ ha6.t5, hv 6 _ ha6.t6, hv 71 _ ha6.t71, hv 72 _ ha6.t72] at ea
    subst ea
    clear c1 c2 c3 c5 c6 c9 c10 o0 o1 o2 fl gl t3 ha6 hv F6
    go_wp2_with fail
    refine ⟨n - 1, by have := HXN.out; omega, x + 1, by have := HXN.out; omega, ⟨by kernel_rfl, rfl, by kernel_rfl, by rw [HS2.out]; kernel_rfl, by kernel_rfl, by kernel_rfl⟩, HF6.out⟩
  · have hx' : ¬ (x : Int) < (np : Int) := by omega
    have hxe : x = np := by omega
    have d5 := HR.out.blk.has.cell 5
    have dl : C.cb < w3.heap.size := Nat.lt_of_lt_of_le HR.out.blk.has.lt F3.size
    simp only [comC, List.getElem?_toArray, List.getElem?_cons_succ, List.getElem?_cons_zero, Sl.v] at d5
    rw [HQ.out] at d5
    have d5 := F3.cell d5
    obtain ⟨u, ea, hv⟩ := form211 ha.size ha.df
    have t3 := ha.t3
    rw [hxe, HEND.out] at t3
    rw [hv 0 _ ha.t0, hv 3 _ t3, hv 71 _ ha.t71, hv 72 _ ha.t72] at ea
    subst ea
    clear t3 ha hv hI hxn F3 hxe
    go_wp2_with fail
    rw [← HQQ.out]
    go_ret
    exact ⟨rfl, HF3.out⟩
end
end Go.Proofs.Qxb6500574aGreatDoor
