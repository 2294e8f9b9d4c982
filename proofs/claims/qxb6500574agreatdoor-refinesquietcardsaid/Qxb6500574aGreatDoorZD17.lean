/-
  THE WALKS of compm: step: the walk through a table, its ends.
-/
import Derived.Test.Qxb6500574aGreatDoorZD16
namespace Go.Proofs.Qxb6500574aGreatDoor
open Go Go.RowKit
set_option linter.unusedVariables false
set_option linter.unusedSimpArgs false
section
variable {w W W1 : World} {A A1 A2 : RnP} {N : List Nd} {root : Nat} {M m : MD} {k : TkD} {r : List TkD} {d : Nd} {bT bD xb : Nat} {a : Act} {B C : Nat} {L : Int} {kv vv : Vl}
set_option maxRecDepth 100000
set_option maxHeartbeats 2000000
theorem st19x (P : StZ w A N root W A1 m bT bD xb k d) (LK : LcB W A1 B (vlC kv) 68) (LV : LcB W A1 C (vlC vv) 68) (H : FrZt (.pointer (some ⟨A.br, 0, none⟩)) (.pointer (some ⟨xb, 0, none⟩)) (.pointer (some ⟨bT, 0, none⟩)) (.pointer (some ⟨bD, 0, none⟩)) (.int .i64 L) (.pointer (some ⟨B, 0, none⟩)) (.pointer (some ⟨C, 0, none⟩)) a) (hl : m.th.tasks.length ≤ 900000) (hvl : m.th.vals.length ≤ 900000) (hv : 2 ≤ m.th.vals.length) (hL : L = (m.th.vals.length : Nat)) (hz : kv.t = 0) :
    (cR (cR (cTz (stC 18 (cI (stB Tryz.f77.body)))))).wp Tryz.prog (Exit.inBlock 0 (bodyPost Tryz.prog Tryz.f77 (PQm w A N root (m.pops 2)))) a W := by
  obtain ⟨u, rfl⟩ := H.form
  obtain ⟨kk, kn, kx, ke⟩ := k
  obtain ⟨dk, da, db, dc, dnx, dn, dss, dp⟩ := d
  obtain ⟨vt, vn, vs⟩ := kv
  obtain ⟨ut, un, us⟩ := vv
  obtain ⟨Q, HQ⟩ : ∃ Q : Ending → World → Prop, Hid (PQm w A N root (m.pops 2) = Q) := ⟨_, rfl⟩
  dsimp only at HQ hz ⊢
  rw [HQ.out]
  obtain ⟨ea, HEA⟩ : ∃ ea, Hid (eAd A.E ke = ea) := ⟨_, rfl⟩
  have HE : Hid (∀ i, ke = some i → i < A.E.length) := P.he
  have HB0 := hid P.B
  have HLT0 : Hid (LcB W A1 bT #[.int .i64 (kk : Nat), .int .i64 kn, .int .i64 kx, .pointer ea] 224) := by
    have := P.LT
    dsimp only at this
    rw [HEA.out] at this
    exact this
  have HLD0 : Hid (LcB W A1 bD #[.int .i64 (dk : Nat), .int .i64 (da : Nat), .int .i64 (db : Nat), .int .i64 (dc : Nat), .int .i64 (dnx : Nat), .int .u64 (dn : Nat), sv dss, .int .i64 (dp : Nat)] 134) := P.LD
  have HLV0 : Hid (LcB W A1 B #[.int .i64 vt, .int .u64 vn, sv vs] 68) := LK
  have HLU0 : Hid (LcB W A1 C #[.int .i64 ut, .int .u64 un, sv us] 68) := LV
  have HT0 : Hid (m.th.tasks.length ≤ 900000 + 0) := hl
  have HV0 : Hid (m.th.vals.length ≤ 900000 + 0) := hvl
  have HXX := hid P.x
  have HBC := hid P.B.c
  have HVK := hid hv
  obtain ⟨n, HNV⟩ : ∃ n, Hid (m.th.vals.length = n + 2) := ⟨m.th.vals.length - 2, by show _ = _; omega⟩
  rw [HNV.out] at hL
  replace hL : L = (n : Int) + 2 := hL
  subst hL
  subst hz
  obtain ⟨g, cp, c4, lc4, lg, lxb, CV⟩ := HB0.out.tops HXX.out (by rw [HNV.out]; omega)
  obtain ⟨f4, CU⟩ := HB0.out.cuts HXX.out c4
  obtain ⟨A', s1, s2⟩ := CU n (by rw [HNV.out]; omega)
  have FIN : Hid (Q (.returned (.tuple #[])) (W.setCell ⟨xb, 4, none⟩ (.slice (some ⟨g, 0, none⟩) n cp))) := by
    show Q _ _
    rw [← HQ.out]
    have e : m.pops 2 = { m with ths := m.ths.set m.cur { m.th with vals := m.th.vals.take n } } := by
      have h : n = m.th.vals.length - 2 := by rw [HNV.out]; omega
      rw [h]
      rfl
    rw [e]
    exact ⟨rfl, A', s1, HB0.out.s.trans s2⟩
  rw [HNV.out] at c4 lc4
  have hnb : n ≤ 900010 := by have := HV0.out; rw [HNV.out] at this; omega
  have ei2 : (n : Int) + 2 - 2 = n := by omega
  have hpos : (0 : Int) < (n : Int) + 2 := by omega
  clear s1 s2 CU CV
  clear P H hl hvl hv LK LV
  obtain ⟨c, hc⟩ : ∃ c, c = cR (cR (cTz (stC 18 (cI (stB Tryz.f77.body))))) := ⟨_, rfl⟩
  rw [← hc]
  simp only [cTz, cE, cI, cR, stC, stB, Tryz.f77, Option.getD_some] at hc
  subst hc
  have v0 := HLV0.out.h.cell 0
  have v1 := HLV0.out.h.cell 1
  have v2 := HLV0.out.h.cell 2
  simp only [List.getElem?_toArray, List.getElem?_cons_succ, List.getElem?_cons_zero] at v0 v1 v2
  have lV := HLV0.out.h.lt
  obtain ⟨cc0, cc1, lcc⟩ := HB0.out.c0
  go_wp2
  refine bodyPost_ret (results_none rfl _ _ _) rfl ?_
  exact FIN.out
theorem st19y (P : StZ w A N root W A1 m bT bD xb k d) (LK : LcB W A1 B (vlC kv) 68) (LV : LcB W A1 C (vlC vv) 68) (H : FrZt (.pointer (some ⟨A.br, 0, none⟩)) (.pointer (some ⟨xb, 0, none⟩)) (.pointer (some ⟨bT, 0, none⟩)) (.pointer (some ⟨bD, 0, none⟩)) (.int .i64 L) (.pointer (some ⟨B, 0, none⟩)) (.pointer (some ⟨C, 0, none⟩)) a) (hl : m.th.tasks.length ≤ 900000) (hvl : m.th.vals.length ≤ 900000) (hv : 2 ≤ m.th.vals.length) (hL : L = (m.th.vals.length : Nat)) (hne : B ≠ C) (hz : kv.t ≠ 0) (hN : N.length ≤ 1000) (hda : d.a < N.length) (hxn : (N.getD d.a nd0).next < N.length) (RO : RefOk m) :
    (cR (cR (cTz (stC 18 (cI (stB Tryz.f77.body)))))).wp Tryz.prog (Exit.inBlock 0 (bodyPost Tryz.prog Tryz.f77 (PQm w A N root ({ (m.upT fun t => { t with vals := t.vals.set (m.th.vals.length - 1) kv }).todo [⟨1, d.c, 0, some (m.envs.length + 1)⟩, ⟨20, k.n, 0, k.e⟩] with envs := m.envs ++ [⟨(N.getD d.a nd0).s, kv, k.e⟩, ⟨(N.getD (N.getD d.a nd0).next nd0).s, vv, some m.envs.length⟩] })))) a W := by
  obtain ⟨u, rfl⟩ := H.form
  obtain ⟨kk, kn, kx, ke⟩ := k
  obtain ⟨dk, da, db, dc, dnx, dn, dss, dp⟩ := d
  obtain ⟨vt, vn, vs⟩ := kv
  obtain ⟨ut, un, us⟩ := vv
  obtain ⟨Q, HQ⟩ : ∃ Q : Ending → World → Prop, Hid (PQm w A N root ({ (m.upT fun t => { t with vals := t.vals.set (m.th.vals.length - 1) ⟨vt, vn, vs⟩ }).todo [⟨1, dc, 0, some (m.envs.length + 1)⟩, ⟨20, kn, 0, ke⟩] with envs := m.envs ++ [⟨(N.getD da nd0).s, ⟨vt, vn, vs⟩, ke⟩, ⟨(N.getD (N.getD da nd0).next nd0).s, ⟨ut, un, us⟩, some m.envs.length⟩] }) = Q) := ⟨_, rfl⟩
  dsimp only at HQ hz ⊢
  rw [HQ.out]
  obtain ⟨ea, HEA⟩ : ∃ ea, Hid (eAd A.E ke = ea) := ⟨_, rfl⟩
  have HE : Hid (∀ i, ke = some i → i < A.E.length) := P.he
  have HB0 := hid P.B
  have HLT0 : Hid (LcB W A1 bT #[.int .i64 (kk : Nat), .int .i64 kn, .int .i64 kx, .pointer ea] 224) := by
    have := P.LT
    dsimp only at this
    rw [HEA.out] at this
    exact this
  have HLD0 : Hid (LcB W A1 bD #[.int .i64 (dk : Nat), .int .i64 (da : Nat), .int .i64 (db : Nat), .int .i64 (dc : Nat), .int .i64 (dnx : Nat), .int .u64 (dn : Nat), sv dss, .int .i64 (dp : Nat)] 134) := P.LD
  have HLV0 : Hid (LcB W A1 B #[.int .i64 vt, .int .u64 vn, sv vs] 68) := LK
  have HLU0 : Hid (LcB W A1 C #[.int .i64 ut, .int .u64 un, sv us] 68) := LV
  have HT0 : Hid (m.th.tasks.length ≤ 900000 + 0) := hl
  have HV0 : Hid (m.th.vals.length ≤ 900000 + 0) := hvl
  have HXX := hid P.x
  have HBC := hid P.B.c
  have HVK := hid hv
  obtain ⟨n, HNV⟩ : ∃ n, Hid (m.th.vals.length = n + 1) := ⟨m.th.vals.length - 1, by show _ = _; omega⟩
  rw [HNV.out] at hL
  replace hL : L = (n : Int) + 1 := hL
  subst hL
  dsimp only at hda hxn
  have HN := hid hN
  have HDA := hid hda
  have HXN := hid hxn
  have HRO := hid RO
  have b0 : (vt == 0) = false := by rw [beq_eq_false_iff_ne]; exact hz
  clear hN hda hxn RO hz
  obtain ⟨NL, HNL⟩ : ∃ NL : Nat, Hid (N.length = NL) := ⟨_, rfl⟩
  have hNL : NL ≤ 1000 := by rw [← HNL.out]; exact HN.out
  obtain ⟨g, cp, c4, lc4, lg, lxb, CV⟩ := HB0.out.tops HXX.out (by rw [HNV.out]; omega)
  obtain ⟨fz, AS, BS, SS⟩ := HB0.out.setVv HXX.out c4 (i := n) (by rw [HNV.out]; omega) ⟨vt, vn, vs⟩
  obtain ⟨x0, x1, x2⟩ := CV n (by rw [HNV.out]; omega)
  rw [HNV.out] at c4 lc4
  have hnb : n ≤ 900010 := by have := HV0.out; rw [HNV.out] at this; omega
  have ei1 : (n : Int) + 1 - 1 = n := by omega
  have hpos : (0 : Int) < (n : Int) + 1 := by omega
  have fz0 := fz (n * 3)
  have fz1 := fz (n * 3 + 1)
  have fz2 := fz (n * 3 + 2)
  clear CV fz
  obtain ⟨M1, HM1⟩ : ∃ M1, Hid ((m.upT fun t => { t with vals := t.vals.set n ⟨vt, vn, vs⟩ }) = M1) := ⟨_, rfl⟩
  have hT1 : M1.th.tasks.length ≤ 900000 := by
    rw [← HM1.out, upT_th HBC.out]
    exact HT0.out
  have hV1 : M1.th.vals.length ≤ 900000 := by
    rw [← HM1.out, upT_th HBC.out]
    show (m.th.vals.set _ _).length ≤ _
    rw [List.length_set]
    exact HV0.out
  have hC1 : M1.cur < M1.ths.length := by rw [← HM1.out, upT_len]; exact HBC.out
  have hR1 : RefOk M1 := by
    rw [← HM1.out]
    exact HRO.out.upT HBC.out (HRO.out.th HBC.out)
  have hE1 : M1.envs = m.envs := by rw [← HM1.out]; rfl
  have HC1 := hid hC1
  have HR1 := hid hR1
  have HE1 := hid hE1
  rw [HM1.out] at BS
  have HBS := hid BS
  have HSS := hid SS
  clear hC1 hR1 hE1 BS SS
  clear P H hl hvl hv LK LV
  obtain ⟨c, hc⟩ : ∃ c, c = cR (cR (cTz (stC 18 (cI (stB Tryz.f77.body))))) := ⟨_, rfl⟩
  rw [← hc]
  simp only [cTz, cE, cI, cR, stC, stB, Tryz.f77, Option.getD_some] at hc
  subst hc
  have v0 := HLV0.out.h.cell 0
  have v1 := HLV0.out.h.cell 1
  have v2 := HLV0.out.h.cell 2
  simp only [List.getElem?_toArray, List.getElem?_cons_succ, List.getElem?_cons_zero] at v0 v1 v2
  have lV := HLV0.out.h.lt
  obtain ⟨cc0, cc1, lcc⟩ := HB0.out.c0
  go_wp2_with fail
  refine wp_region_tail 7 (by kernel_rfl) (by kernel_rfl) (fun _ _ _ _ _ h => h) ?_
  simp only [List.take_succ_cons, List.take_zero, List.drop_succ_cons, List.drop_zero]
  repeat go_big_quiet_step (fail)
  refine wpQuiet_nil ?_
  go_wp2_with fail
  obtain ⟨V9, HV9⟩ : ∃ V, Hid ((((W.setCell ⟨g, n * 3, none⟩ (.int .i64 vt)).setCell ⟨g, n * 3 + 1, none⟩ (.int .u64 vn)).setCell ⟨g, n * 3 + 2, none⟩ (sv vs)).drew = V) := ⟨_, rfl⟩
  have e9 : (((W.setCell ⟨g, n * 3, none⟩ (.int .i64 vt)).setCell ⟨g, n * 3 + 1, none⟩ (.int .u64 vn)).setCell ⟨g, n * 3 + 2, none⟩ (.string ⟨vs.toArray⟩)).drew = V9 := HV9.out
  refine cwp_at e9 ?_
  have FD : Fr (fun _ => False) (((W.setCell ⟨g, n * 3, none⟩ (.int .i64 vt)).setCell ⟨g, n * 3 + 1, none⟩ (.int .u64 vn)).setCell ⟨g, n * 3 + 2, none⟩ (sv vs)) V9 := by rw [← HV9.out]; exact (Fr.refl _ _).drew
  have HB1 := hid (HBS.out.fresh FD)
  have HLT1 := hid ((HLT0.out.st HSS.out).fr FD)
  have HLD1 := hid ((HLD0.out.st HSS.out).fr FD)
  have HLV1 := hid ((HLV0.out.st HSS.out).fr FD)
  have HLU1 := hid ((HLU0.out.st HSS.out).fr FD)
  have HT1 : Hid (M1.th.tasks.length ≤ 900000 + 1) := Nat.le_trans hT1 (by decide)
  have HV1 : Hid (M1.th.vals.length ≤ 900000 + 1) := Nat.le_trans hV1 (by decide)
  clear FD e9 HV9 x0 x1 x2 c4 lc4 lg lxb hnb ei1 hpos fz0 fz1 fz2 hT1 hV1 b0
  clear v0 v1 v2 lV cc0 cc1 lcc
  have t0 := HLT1.out.h.cell 0
  have t1 := HLT1.out.h.cell 1
  have t2 := HLT1.out.h.cell 2
  have t3 := HLT1.out.h.cell 3
  simp only [List.getElem?_toArray, List.getElem?_cons_succ, List.getElem?_cons_zero] at t0 t1 t2 t3
  have lT := HLT1.out.h.lt
  have d0 := HLD1.out.h.cell 0
  have d1 := HLD1.out.h.cell 1
  have d2 := HLD1.out.h.cell 2
  have d3 := HLD1.out.h.cell 3
  have d4 := HLD1.out.h.cell 4
  have d5 := HLD1.out.h.cell 5
  have d6 := HLD1.out.h.cell 6
  have d7 := HLD1.out.h.cell 7
  simp only [List.getElem?_toArray, List.getElem?_cons_succ, List.getElem?_cons_zero] at d0 d1 d2 d3 d4 d5 d6 d7
  have lD := HLD1.out.h.lt
  have v0 := HLV1.out.h.cell 0
  have v1 := HLV1.out.h.cell 1
  have v2 := HLV1.out.h.cell 2
  simp only [List.getElem?_toArray, List.getElem?_cons_succ, List.getElem?_cons_zero] at v0 v1 v2
  have lV := HLV1.out.h.lt
  have u0 := HLU1.out.h.cell 0
  have u1 := HLU1.out.h.cell 1
  have u2 := HLU1.out.h.cell 2
  simp only [List.getElem?_toArray, List.getElem?_cons_succ, List.getElem?_cons_zero] at u0 u1 u2
  have lU := HLU1.out.h.lt
  obtain ⟨cc0, cc1, lcc⟩ := HB1.out.c0
  go_wp2_with fail
  obtain ⟨gnx, cnx, c2, lc, lbn, lgn, lnn, q0, q1, q2, q3, q4, q5, q6, q7⟩ := HB1.out.nd (HDA.out)
  obtain ⟨⟨xk, xa, xb, xc, xx, xn, xs, xp⟩, HxD⟩ : ∃ d, Hid (N.getD da nd0 = d) := ⟨_, rfl⟩
  rw [HxD.out] at q0 q1 q2 q3 q4 q5 q6 q7
  dsimp only at q0 q1 q2 q3 q4 q5 q6 q7
  rw [HNL.out] at c2 lc lnn
  have k0 := fun z : WS V9 => z.f.cell c2
  have k1 := fun z : WS V9 => z.f.cell q0
  have k2 := fun z : WS V9 => z.f.cell q1
  have k3 := fun z : WS V9 => z.f.cell q2
  have k4 := fun z : WS V9 => z.f.cell q3
  have k5 := fun z : WS V9 => z.f.cell q4
  have k6 := fun z : WS V9 => z.f.cell q5
  have k7 := fun z : WS V9 => z.f.cell q6
  have k8 := fun z : WS V9 => z.f.cell q7
  have k9 := fun z : WS V9 => z.f.cell d1
  have NE := WS.non V9
  refine wp_region_head 8 1 (fun y => ∃ s : WS V9, y = s.y) (by kernel_rfl) (by kernel_rfl) (fun _ _ _ _ _ h => h) ⟨⟨V9.drew, (Fr.refl _ _).drew⟩, rfl⟩ ?_
  simp only [List.take_succ_cons, List.take_zero, List.drop_succ_cons, List.drop_zero]
  repeat go_big_quiet_step (fail)
  refine wpQuiet_nil ?_
  unfold wpChain
  go_wp2_with fail
  refine ⟨⟨⟨_, ((Fr.refl _ _).alloc _).drew⟩, rfl⟩, ?_⟩
  rw [wpChain_zero]
  go_wp2_with fail
  clear NE k0 k1 k2 k3 k4 k5 k6 k7 k8 k9 c2 lc lbn lgn lnn q0 q1 q2 q3 q4 q5 q6 q7
  obtain ⟨Vx, HVx⟩ : ∃ V, Hid ((V9.alloc (.cells #[.int .i64 (xk : Nat), .int .i64 (xa : Nat), .int .i64 (xb : Nat), .int .i64 (xc : Nat), .int .i64 (xx : Nat), .int .u64 (xn : Nat), sv xs, .int .i64 (xp : Nat)] 134)).drew = V) := ⟨_, rfl⟩
  obtain ⟨bx, Hbx⟩ : ∃ b, Hid (V9.heap.size = b) := ⟨_, rfl⟩
  rw [Hbx.out]
  refine cwp_at HVx.out ?_
  have FN : Fr (fun _ => False) V9 Vx := by rw [← HVx.out]; exact ((Fr.refl _ _).alloc _).drew
  clear t0 t1 t2 t3 lT d0 d1 d2 d3 d4 d5 d6 d7 lD v0 v1 v2 lV u0 u1 u2 lU cc0 cc1 lcc
  have HB2 := hid (HB1.out.fresh FN)
  have HLT2 := hid (HLT1.out.fr FN)
  have HLD2 := hid (HLD1.out.fr FN)
  have HLV2 := hid (HLV1.out.fr FN)
  have HLU2 := hid (HLU1.out.fr FN)
  have HLX2 : Hid (LcB Vx AS bx #[.int .i64 (xk : Nat), .int .i64 (xa : Nat), .int .i64 (xb : Nat), .int .i64 (xc : Nat), .int .i64 (xx : Nat), .int .u64 (xn : Nat), sv xs, .int .i64 (xp : Nat)] 134) := by
    show LcB _ _ _ _ _
    rw [← HVx.out, ← Hbx.out]
    exact (LcB.new HB1.out.r.own _ _).fr ((Fr.refl _ _).drew)
  have HT2 : Hid (M1.th.tasks.length ≤ 900000 + 2) := Nat.le_trans HT1.out (by decide)
  have HV2 : Hid (M1.th.vals.length ≤ 900000 + 2) := Nat.le_trans HV1.out (by decide)
  clear FN
  have t0 := HLT2.out.h.cell 0
  have t1 := HLT2.out.h.cell 1
  have t2 := HLT2.out.h.cell 2
  have t3 := HLT2.out.h.cell 3
  simp only [List.getElem?_toArray, List.getElem?_cons_succ, List.getElem?_cons_zero] at t0 t1 t2 t3
  have lT := HLT2.out.h.lt
  have d0 := HLD2.out.h.cell 0
  have d1 := HLD2.out.h.cell 1
  have d2 := HLD2.out.h.cell 2
  have d3 := HLD2.out.h.cell 3
  have d4 := HLD2.out.h.cell 4
  have d5 := HLD2.out.h.cell 5
  have d6 := HLD2.out.h.cell 6
  have d7 := HLD2.out.h.cell 7
  simp only [List.getElem?_toArray, List.getElem?_cons_succ, List.getElem?_cons_zero] at d0 d1 d2 d3 d4 d5 d6 d7
  have lD := HLD2.out.h.lt
  have v0 := HLV2.out.h.cell 0
  have v1 := HLV2.out.h.cell 1
  have v2 := HLV2.out.h.cell 2
  simp only [List.getElem?_toArray, List.getElem?_cons_succ, List.getElem?_cons_zero] at v0 v1 v2
  have lV := HLV2.out.h.lt
  have u0 := HLU2.out.h.cell 0
  have u1 := HLU2.out.h.cell 1
  have u2 := HLU2.out.h.cell 2
  simp only [List.getElem?_toArray, List.getElem?_cons_succ, List.getElem?_cons_zero] at u0 u1 u2
  have lU := HLU2.out.h.lt
  have x0 := HLX2.out.h.cell 0
  have x1 := HLX2.out.h.cell 1
  have x2 := HLX2.out.h.cell 2
  have x3 := HLX2.out.h.cell 3
  have x4 := HLX2.out.h.cell 4
  have x5 := HLX2.out.h.cell 5
  have x6 := HLX2.out.h.cell 6
  have x7 := HLX2.out.h.cell 7
  simp only [List.getElem?_toArray, List.getElem?_cons_succ, List.getElem?_cons_zero] at x0 x1 x2 x3 x4 x5 x6 x7
  have lX := HLX2.out.h.lt
  obtain ⟨cc0, cc1, lcc⟩ := HB2.out.c0
  obtain ⟨gnz, cnz, c2, lc, lbn, lgn, lnn, q0, q1, q2, q3, q4, q5, q6, q7⟩ := HB2.out.nd (by have := HXN.out; rw [HxD.out] at this; exact this)
  obtain ⟨⟨zk, za, zb, zc, zx, zn, zs, zp⟩, HzD⟩ : ∃ d, Hid (N.getD xx nd0 = d) := ⟨_, rfl⟩
  rw [HzD.out] at q0 q1 q2 q3 q4 q5 q6 q7
  dsimp only at q0 q1 q2 q3 q4 q5 q6 q7
  rw [HNL.out] at c2 lc lnn
  have k0 := fun z : WS Vx => z.f.cell c2
  have k1 := fun z : WS Vx => z.f.cell q0
  have k2 := fun z : WS Vx => z.f.cell q1
  have k3 := fun z : WS Vx => z.f.cell q2
  have k4 := fun z : WS Vx => z.f.cell q3
  have k5 := fun z : WS Vx => z.f.cell q4
  have k6 := fun z : WS Vx => z.f.cell q5
  have k7 := fun z : WS Vx => z.f.cell q6
  have k8 := fun z : WS Vx => z.f.cell q7
  have k9 := fun z : WS Vx => z.f.cell x4
  have NE := WS.non Vx
  have FN : Fr (fun _ => False) Vx (Vx.alloc (.cells #[.int .i64 (zk : Nat), .int .i64 (za : Nat), .int .i64 (zb : Nat), .int .i64 (zc : Nat), .int .i64 (zx : Nat), .int .u64 (zn : Nat), sv zs, .int .i64 (zp : Nat)] 134)) := (Fr.refl _ _).alloc _
  have HB3 := hid (HB2.out.fresh FN)
  have HLT3 := hid (HLT2.out.fr FN)
  have HLD3 := hid (HLD2.out.fr FN)
  have HLV3 := hid (HLV2.out.fr FN)
  have HLU3 := hid (HLU2.out.fr FN)
  have HLX3 := hid (HLX2.out.fr FN)
  have HLZ3 : Hid (LcB (Vx.alloc (.cells #[.int .i64 (zk : Nat), .int .i64 (za : Nat), .int .i64 (zb : Nat), .int .i64 (zc : Nat), .int .i64 (zx : Nat), .int .u64 (zn : Nat), sv zs, .int .i64 (zp : Nat)] 134)) AS Vx.heap.size #[.int .i64 (zk : Nat), .int .i64 (za : Nat), .int .i64 (zb : Nat), .int .i64 (zc : Nat), .int .i64 (zx : Nat), .int .u64 (zn : Nat), sv zs, .int .i64 (zp : Nat)] 134) := LcB.new HB2.out.r.own _ _
  have HT3 : Hid (M1.th.tasks.length ≤ 900000 + 3) := Nat.le_trans HT2.out (by decide)
  have HV3 : Hid (M1.th.vals.length ≤ 900000 + 3) := Nat.le_trans HV2.out (by decide)
  clear FN
  obtain ⟨AE3, BE3, SE3, hE3⟩ := HB3.out.newEnv HR1.out ⟨xs, ⟨vt, vn, vs⟩, ke⟩ (HB3.out.eIn HE.out)
  have e9 : enV AS.E ⟨xs, ⟨vt, vn, vs⟩, ke⟩ = #[sv xs, .int .i64 vt, .int .u64 vn, sv vs, .pointer ea] := by
    unfold enV ePtr
    dsimp only
    rw [HB3.out.eN HE.out, HEA.out]
  rw [e9] at BE3 SE3
  have HP4 : Hid (eAd AE3.E (some M1.envs.length) = some ⟨Vx.heap.size + 1, 0, none⟩) := by
    show _ = _
    rw [hE3]
    try simp
  have HB4 := hid BE3
  have HLT4 := hid (HLT3.out.st SE3)
  have HLD4 := hid (HLD3.out.st SE3)
  have HLV4 := hid (HLV3.out.st SE3)
  have HLU4 := hid (HLU3.out.st SE3)
  have HLX4 := hid (HLX3.out.st SE3)
  have HLZ4 := hid (HLZ3.out.st SE3)
  have HT4 : Hid (({ M1 with envs := M1.envs ++ [⟨xs, ⟨vt, vn, vs⟩, ke⟩] } : MD).th.tasks.length ≤ 900000 + 4) := by show M1.th.tasks.length ≤ _; have := HT3.out; omega
  have HV4 : Hid (({ M1 with envs := M1.envs ++ [⟨xs, ⟨vt, vn, vs⟩, ke⟩] } : MD).th.vals.length ≤ 900000 + 4) := by show M1.th.vals.length ≤ _; have := HV3.out; omega
  clear BE3 SE3 hE3 e9
  have HB5 := hid HB4.out.drew
  have HLT5 := hid (HLT4.out.fr ((Fr.refl _ _).drew))
  have HLD5 := hid (HLD4.out.fr ((Fr.refl _ _).drew))
  have HLV5 := hid (HLV4.out.fr ((Fr.refl _ _).drew))
  have HLU5 := hid (HLU4.out.fr ((Fr.refl _ _).drew))
  have HLX5 := hid (HLX4.out.fr ((Fr.refl _ _).drew))
  have HLZ5 := hid (HLZ4.out.fr ((Fr.refl _ _).drew))
  have HT5 : Hid (({ M1 with envs := M1.envs ++ [⟨xs, ⟨vt, vn, vs⟩, ke⟩] } : MD).th.tasks.length ≤ 900000 + 5) := Nat.le_trans HT4.out (by decide)
  have HV5 : Hid (({ M1 with envs := M1.envs ++ [⟨xs, ⟨vt, vn, vs⟩, ke⟩] } : MD).th.vals.length ≤ 900000 + 5) := Nat.le_trans HV4.out (by decide)
  have CC := HB5.out.todo (by have := HT5.out; omega) 20 kn 0 ke HE.out (k' := 20) (n' := (kn : Nat)) (x' := 0) rfl rfl rfl
  rw [HEA.out] at CC
  have HCC := hid CC
  clear CC
  go_wp2_with fail
  refine wp_region_head 8 1 (fun y => ∃ s : WS Vx, y = s.y) (by kernel_rfl) (by kernel_rfl) (fun _ _ _ _ _ h => h) ⟨⟨Vx.drew, (Fr.refl _ _).drew⟩, rfl⟩ ?_
  simp only [List.take_succ_cons, List.take_zero, List.drop_succ_cons, List.drop_zero]
  repeat go_big_quiet_step (fail)
  refine wpQuiet_nil ?_
  unfold wpChain
  go_wp2_with fail
  refine ⟨⟨⟨_, ((Fr.refl _ _).alloc _).drew⟩, rfl⟩, ?_⟩
  rw [wpChain_zero]
  go_wp2_with fail
  refine HCC.out.mono ?_
  rintro e14 w6 ⟨rfl, A16, BB, SS⟩
  clear t0 t1 t2 t3 lT d0 d1 d2 d3 d4 d5 d6 d7 lD v0 v1 v2 lV u0 u1 u2 lU x0 x1 x2 x3 x4 x5 x6 x7 lX cc0 cc1 lcc NE c2 lc lbn lgn lnn k0 k1 k2 k3 k4 k5 k6 k7 k8 k9 q0 q1 q2 q3 q4 q5 q6 q7
  clear HCC
  have HB6 := hid BB
  have HLT6 := hid (HLT5.out.st SS)
  have HLD6 := hid (HLD5.out.st SS)
  have HLV6 := hid (HLV5.out.st SS)
  have HLU6 := hid (HLU5.out.st SS)
  have HLX6 := hid (HLX5.out.st SS)
  have HLZ6 := hid (HLZ5.out.st SS)
  have HS6 := hid SS
  clear BB SS
  have HT6 : Hid ((({ M1 with envs := M1.envs ++ [⟨xs, ⟨vt, vn, vs⟩, ke⟩] } : MD).todo [⟨20, kn, 0, ke⟩]).th.tasks.length ≤ 900000 + 6) := by
    show _ ≤ _
    rw [th_todo HB5.out.c]
    have := HT5.out
    simp
    omega
  have HV6 : Hid ((({ M1 with envs := M1.envs ++ [⟨xs, ⟨vt, vn, vs⟩, ke⟩] } : MD).todo [⟨20, kn, 0, ke⟩]).th.vals.length ≤ 900000 + 6) := by
    show _ ≤ _
    rw [th_todo HB5.out.c]
    have := HV5.out
    simp
    omega
  obtain ⟨bz, Hbz⟩ : ∃ b, Hid (Vx.heap.size = b) := ⟨_, rfl⟩
  rw [Hbz.out] at HLZ6
  rw [Hbz.out]
  have t0 := HLT6.out.h.cell 0
  have t1 := HLT6.out.h.cell 1
  have t2 := HLT6.out.h.cell 2
  have t3 := HLT6.out.h.cell 3
  simp only [List.getElem?_toArray, List.getElem?_cons_succ, List.getElem?_cons_zero] at t0 t1 t2 t3
  have lT := HLT6.out.h.lt
  have d0 := HLD6.out.h.cell 0
  have d1 := HLD6.out.h.cell 1
  have d2 := HLD6.out.h.cell 2
  have d3 := HLD6.out.h.cell 3
  have d4 := HLD6.out.h.cell 4
  have d5 := HLD6.out.h.cell 5
  have d6 := HLD6.out.h.cell 6
  have d7 := HLD6.out.h.cell 7
  simp only [List.getElem?_toArray, List.getElem?_cons_succ, List.getElem?_cons_zero] at d0 d1 d2 d3 d4 d5 d6 d7
  have lD := HLD6.out.h.lt
  have v0 := HLV6.out.h.cell 0
  have v1 := HLV6.out.h.cell 1
  have v2 := HLV6.out.h.cell 2
  simp only [List.getElem?_toArray, List.getElem?_cons_succ, List.getElem?_cons_zero] at v0 v1 v2
  have lV := HLV6.out.h.lt
  have u0 := HLU6.out.h.cell 0
  have u1 := HLU6.out.h.cell 1
  have u2 := HLU6.out.h.cell 2
  simp only [List.getElem?_toArray, List.getElem?_cons_succ, List.getElem?_cons_zero] at u0 u1 u2
  have lU := HLU6.out.h.lt
  have x0 := HLX6.out.h.cell 0
  have x1 := HLX6.out.h.cell 1
  have x2 := HLX6.out.h.cell 2
  have x3 := HLX6.out.h.cell 3
  have x4 := HLX6.out.h.cell 4
  have x5 := HLX6.out.h.cell 5
  have x6 := HLX6.out.h.cell 6
  have x7 := HLX6.out.h.cell 7
  simp only [List.getElem?_toArray, List.getElem?_cons_succ, List.getElem?_cons_zero] at x0 x1 x2 x3 x4 x5 x6 x7
  have lX := HLX6.out.h.lt
  have z0 := HLZ6.out.h.cell 0
  have z1 := HLZ6.out.h.cell 1
  have z2 := HLZ6.out.h.cell 2
  have z3 := HLZ6.out.h.cell 3
  have z4 := HLZ6.out.h.cell 4
  have z5 := HLZ6.out.h.cell 5
  have z6 := HLZ6.out.h.cell 6
  have z7 := HLZ6.out.h.cell 7
  simp only [List.getElem?_toArray, List.getElem?_cons_succ, List.getElem?_cons_zero] at z0 z1 z2 z3 z4 z5 z6 z7
  have lZ := HLZ6.out.h.lt
  obtain ⟨cc0, cc1, lcc⟩ := HB6.out.c0
  have HPz : Hid (eAd A16.E (some M1.envs.length) = some ⟨bz + 1, 0, none⟩) := by
    show _ = _
    have z := HS6.out.ep (e := (some M1.envs.length)) (fun j hj => by
      cases hj
      rw [HB4.out.r.le]
      show M1.envs.length < (M1.envs ++ [_]).length
      simp)
    have z2 : eAd A16.E (some M1.envs.length) = eAd AE3.E (some M1.envs.length) := by
      have := z
      unfold ePtr at this
      exact Value.pointer.inj this
    rw [z2, ← Hbz.out]
    exact HP4.out
  have HR3 : Hid (RefOk (({ M1 with envs := M1.envs ++ [⟨xs, ⟨vt, vn, vs⟩, ke⟩] } : MD).todo [⟨20, kn, 0, ke⟩])) := (HR1.out.env (e := ⟨xs, ⟨vt, vn, vs⟩, ke⟩) (fun j hj => by have := HB3.out.eIn HE.out j hj; exact this)).todo HC1.out (fun q hq i hi => by
    have : q = ⟨20, kn, 0, ke⟩ := by simpa using hq
    rw [this] at hi
    have := HB4.out.eIn HE.out i hi
    show i < (M1.envs ++ [_]).length
    rw [List.length_append]
    have this : i < (M1.envs ++ [_]).length := this
    rw [List.length_append] at this
    exact this)
  obtain ⟨AE6, BE6, SE6, hE6⟩ := HB6.out.newEnv HR3.out ⟨zs, ⟨ut, un, us⟩, (some M1.envs.length)⟩ (fun j hj => by cases hj; show M1.envs.length < (M1.envs ++ [_]).length; simp)
  have e9 : enV A16.E ⟨zs, ⟨ut, un, us⟩, (some M1.envs.length)⟩ = #[sv zs, .int .i64 ut, .int .u64 un, sv us, .pointer (some ⟨bz + 1, 0, none⟩)] := by
    unfold enV ePtr
    dsimp only
    rw [HPz.out]
  rw [e9] at BE6 SE6
  have HP7 : Hid (eAd AE6.E (some (({ M1 with envs := M1.envs ++ [⟨xs, ⟨vt, vn, vs⟩, ke⟩] } : MD).todo [⟨20, kn, 0, ke⟩]).envs.length) = some ⟨w6.heap.size, 0, none⟩) := by
    show _ = _
    rw [hE6]
    try simp
  have HB7 := hid BE6
  have HLT7 := hid (HLT6.out.st SE6)
  have HLD7 := hid (HLD6.out.st SE6)
  have HLV7 := hid (HLV6.out.st SE6)
  have HLU7 := hid (HLU6.out.st SE6)
  have HLX7 := hid (HLX6.out.st SE6)
  have HLZ7 := hid (HLZ6.out.st SE6)
  have HT7 : Hid (({ (({ M1 with envs := M1.envs ++ [⟨xs, ⟨vt, vn, vs⟩, ke⟩] } : MD).todo [⟨20, kn, 0, ke⟩]) with envs := (({ M1 with envs := M1.envs ++ [⟨xs, ⟨vt, vn, vs⟩, ke⟩] } : MD).todo [⟨20, kn, 0, ke⟩]).envs ++ [⟨zs, ⟨ut, un, us⟩, (some M1.envs.length)⟩] } : MD).th.tasks.length ≤ 900000 + 7) := by show (({ M1 with envs := M1.envs ++ [⟨xs, ⟨vt, vn, vs⟩, ke⟩] } : MD).todo [⟨20, kn, 0, ke⟩]).th.tasks.length ≤ _; have := HT6.out; omega
  have HV7 : Hid (({ (({ M1 with envs := M1.envs ++ [⟨xs, ⟨vt, vn, vs⟩, ke⟩] } : MD).todo [⟨20, kn, 0, ke⟩]) with envs := (({ M1 with envs := M1.envs ++ [⟨xs, ⟨vt, vn, vs⟩, ke⟩] } : MD).todo [⟨20, kn, 0, ke⟩]).envs ++ [⟨zs, ⟨ut, un, us⟩, (some M1.envs.length)⟩] } : MD).th.vals.length ≤ 900000 + 7) := by show (({ M1 with envs := M1.envs ++ [⟨xs, ⟨vt, vn, vs⟩, ke⟩] } : MD).todo [⟨20, kn, 0, ke⟩]).th.vals.length ≤ _; have := HV6.out; omega
  clear BE6 SE6 hE6 e9
  have HCC := hid (HB7.out.todoC (Nat.le_trans HT7.out (by decide)) 1 dc 0 (some (({ M1 with envs := M1.envs ++ [⟨xs, ⟨vt, vn, vs⟩, ke⟩] } : MD).todo [⟨20, kn, 0, ke⟩]).envs.length) HP7.out (k' := 1) (n' := (dc : Nat)) (x' := 0) rfl rfl rfl)
  go_wp2_with fail
  refine HCC.out.mono ?_
  rintro e22 w5 ⟨rfl, A15, B5, S5⟩
  clear t0 t1 t2 t3 lT d0 d1 d2 d3 d4 d5 d6 d7 lD v0 v1 v2 lV u0 u1 u2 lU x0 x1 x2 x3 x4 x5 x6 x7 lX z0 z1 z2 z3 z4 z5 z6 z7 lZ cc0 cc1 lcc
  have FIN : Hid (Q (.returned (.tuple #[])) w5) := by
    show Q _ _
    rw [← HQ.out, HxD.out]
    dsimp only
    rw [HzD.out]
    dsimp only
    have B6 := B5.end
    have h : m.th.vals.length - 1 = n := by rw [HNV.out]; omega
    have l1 : M1.envs.length + 1 = (M1.envs ++ [(⟨xs, ⟨vt, vn, vs⟩, ke⟩ : EnD)]).length := by simp
    have t3 : M1.todo [⟨1, dc, 0, some (M1.envs ++ [(⟨xs, ⟨vt, vn, vs⟩, ke⟩ : EnD)]).length⟩, ⟨20, kn, 0, ke⟩] = (M1.todo [⟨20, kn, 0, ke⟩]).todo [⟨1, dc, 0, some (M1.envs ++ [(⟨xs, ⟨vt, vn, vs⟩, ke⟩ : EnD)]).length⟩] := (todo_todo HC1.out [⟨20, kn, 0, ke⟩] [⟨1, dc, 0, some (M1.envs ++ [(⟨xs, ⟨vt, vn, vs⟩, ke⟩ : EnD)]).length⟩]).symm
    rw [h, HM1.out, ← HE1.out, l1, t3, show M1.envs ++ [(⟨xs, ⟨vt, vn, vs⟩, ke⟩ : EnD), (⟨zs, ⟨ut, un, us⟩, some M1.envs.length⟩ : EnD)] = (M1.envs ++ [(⟨xs, ⟨vt, vn, vs⟩, ke⟩ : EnD)]) ++ [(⟨zs, ⟨ut, un, us⟩, some M1.envs.length⟩ : EnD)] by simp]
    exact B6
  clear B5 S5 HCC
  go_wp2
  go_end0
  exact FIN.out
theorem st19a (P : StZ w A N root W A1 m bT bD xb k d) (hk : k.k = 19) (H : FrZs (.pointer (some ⟨A.br, 0, none⟩)) (.pointer (some ⟨xb, 0, none⟩)) (.pointer (some ⟨bT, 0, none⟩)) (.pointer (some ⟨bD, 0, none⟩)) (.int .i64 k.k) a) (hl : m.th.tasks.length ≤ 900000) (hvl : m.th.vals.length ≤ 900000) (hv : 2 ≤ m.th.vals.length) (hw0 : WvB (m.topM 0)) (TI : ∀ t ∈ m.tabs, TTi t) (h12 : m.tabs.length ≤ 12) (ut : (m.topM 1).n < m.tabs.length) (hz : (((m.tabs.getD (m.topM 1).n tab0).next (m.topM 0)).getD (nilV, nilV)).1.t = 0) :
    (cTz (stC 18 (cI (stB Tryz.f77.body)))).wp Tryz.prog (Exit.inBlock 0 (bodyPost Tryz.prog Tryz.f77 (PQm w A N root (m.pops 2)))) a W :=
  st19h (kv := (((m.tabs.getD (m.topM 1).n tab0).next (m.topM 0)).getD (nilV, nilV)).1) (vv := (((m.tabs.getD (m.topM 1).n tab0).next (m.topM 0)).getD (nilV, nilV)).2) P H hvl hv hw0 TI h12 ut rfl (fun W9 B C L a' P9 LK LV ne hL H9 => st19x P9 LK LV H9 hl hvl hv hL hz)
theorem st19b (P : StZ w A N root W A1 m bT bD xb k d) (hk : k.k = 19) (H : FrZs (.pointer (some ⟨A.br, 0, none⟩)) (.pointer (some ⟨xb, 0, none⟩)) (.pointer (some ⟨bT, 0, none⟩)) (.pointer (some ⟨bD, 0, none⟩)) (.int .i64 k.k) a) (hl : m.th.tasks.length ≤ 900000) (hvl : m.th.vals.length ≤ 900000) (hv : 2 ≤ m.th.vals.length) (hw0 : WvB (m.topM 0)) (TI : ∀ t ∈ m.tabs, TTi t) (h12 : m.tabs.length ≤ 12) (ut : (m.topM 1).n < m.tabs.length) (hz : ¬ (((m.tabs.getD (m.topM 1).n tab0).next (m.topM 0)).getD (nilV, nilV)).1.t = 0) (hN : N.length ≤ 1000) (hda : d.a < N.length) (hxn : (N.getD d.a nd0).next < N.length) (RO : RefOk m) :
    (cTz (stC 18 (cI (stB Tryz.f77.body)))).wp Tryz.prog (Exit.inBlock 0 (bodyPost Tryz.prog Tryz.f77 (PQm w A N root ({ (m.upT fun t => { t with vals := t.vals.set (m.th.vals.length - 1) (((m.tabs.getD (m.topM 1).n tab0).next (m.topM 0)).getD (nilV, nilV)).1 }).todo [⟨1, d.c, 0, some (m.envs.length + 1)⟩, ⟨20, k.n, 0, k.e⟩] with envs := m.envs ++ [⟨(N.getD d.a nd0).s, (((m.tabs.getD (m.topM 1).n tab0).next (m.topM 0)).getD (nilV, nilV)).1, k.e⟩, ⟨(N.getD (N.getD d.a nd0).next nd0).s, (((m.tabs.getD (m.topM 1).n tab0).next (m.topM 0)).getD (nilV, nilV)).2, some m.envs.length⟩] })))) a W :=
  st19h (kv := (((m.tabs.getD (m.topM 1).n tab0).next (m.topM 0)).getD (nilV, nilV)).1) (vv := (((m.tabs.getD (m.topM 1).n tab0).next (m.topM 0)).getD (nilV, nilV)).2) P H hvl hv hw0 TI h12 ut rfl (fun W9 B C L a' P9 LK LV ne hL H9 => st19y P9 LK LV H9 hl hvl hv hL ne hz hN hda hxn RO)
end
end Go.Proofs.Qxb6500574aGreatDoor
