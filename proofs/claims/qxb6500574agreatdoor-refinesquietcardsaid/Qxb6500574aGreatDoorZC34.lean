/-
  THE WALKS of compm: apply: resume of a fresh thread.
-/
import Derived.Test.Qxb6500574aGreatDoorZC33
namespace Go.Proofs.Qxb6500574aGreatDoor
open Go Go.RowKit
set_option linter.unusedVariables false
set_option linter.unusedSimpArgs false
section
variable {w W W1 : World} {A A1 A2 : RnP} {N : List Nd} {root : Nat} {m R : MD} {bA bF xb ba bb bp bq x : Nat} {fn p q : Vl} {args : List Vl} {a : Act}
set_option maxRecDepth 100000
set_option maxHeartbeats 2000000
theorem ap_b9d (P : ApC w A N root W A1 m bA bF xb ba bb bp bq fn args) (K : ApOk N m fn args) (H : FrAq (.pointer (some ⟨A.br, 0, none⟩)) (.pointer (some ⟨xb, 0, none⟩)) (.pointer (some ⟨bA, 0, none⟩)) (.pointer (some ⟨bF, 0, none⟩)) (.pointer (some ⟨ba, 0, none⟩)) (.pointer (some ⟨bb, 0, none⟩)) (.pointer (some ⟨bp, 0, none⟩)) (.pointer (some ⟨bq, 0, none⟩)) a) (hn : fn.n = 9) (ht : (args.getD 0 nilV).t = 7) (hst : (m.ths.getD (args.getD 0 nilV).n mt0).st = 1) (hnc : (args.getD 0 nilV).n ≠ m.cur) :
    (apB Tryz.f126.body).wp Tryz.prog (bodyPost Tryz.prog Tryz.f126 (PQm w A N root (({ (({ (m.upT fun t => { t with st := 3 }) with stack := m.cur :: m.stack, cur := (args.getD 0 nilV).n } : MD).upT fun t => { t with st := 4 }) with first := m.first + 1 } : MD).enter N root (m.ths.getD (args.getD 0 nilV).n mt0).fn [args.getD 1 nilV] 0))) a W := by
  obtain ⟨u, rfl⟩ := H.form
  obtain ⟨Q, HQ⟩ : ∃ Q : Ending → World → Prop, Hid (PQm w A N root (({ (({ (m.upT fun t => { t with st := 3 }) with stack := m.cur :: m.stack, cur := (args.getD 0 nilV).n } : MD).upT fun t => { t with st := 4 }) with first := m.first + 1 } : MD).enter N root (m.ths.getD (args.getD 0 nilV).n mt0).fn [args.getD 1 nilV] 0) = Q) := ⟨_, rfl⟩
  rw [HQ.out]
  have f1 := P.LF.h.cell 1
  have lf := P.LF.h.lt
  simp only [vlC, List.getElem?_toArray, List.getElem?_cons_zero, List.getElem?_cons_succ] at f1
  rw [hn] at f1
  have f1 : W.cell? ⟨bF, 1, none⟩ = some (.int .u64 9) := f1
  have va : VM m (args.getD 0 nilV) := vk_getD K.arV 0
  have vb : VM m (args.getD 1 nilV) := vk_getD K.arV 1
  have nb := va.big K.u.t12 K.u.c24 K.u.h5
  obtain ⟨⟨at', an, axs⟩, HA⟩ : ∃ v, Hid (args.getD 0 nilV = v) := ⟨_, rfl⟩
  obtain ⟨⟨bt, bn, bxs⟩, HBB⟩ : ∃ v, Hid (args.getD 1 nilV = v) := ⟨_, rfl⟩
  have La := P.La
  have Lb := P.Lb
  rw [HA.out] at va La nb ht hst hnc
  rw [HBB.out] at vb Lb
  try rw [HA.out] at HQ
  try rw [HBB.out] at HQ
  dsimp only at nb ht hst hnc
  obtain ⟨p0, p1, p2, p3, p4, p5, lp⟩ := P.d.pc
  obtain ⟨q0, q1, q2, q3, q4, q5, lq⟩ := P.d.qc
  have HVL : Hid (m.th.vals.length ≤ 900000) := K.vl
  have a0 := La.h.cell 0
  have a1 := La.h.cell 1
  have a2 := La.h.cell 2
  have b0 := Lb.h.cell 0
  have b1 := Lb.h.cell 1
  have b2 := Lb.h.cell 2
  have la := La.h.lt
  have lb := Lb.h.lt
  simp only [vlC, List.getElem?_toArray, List.getElem?_cons_succ, List.getElem?_cons_zero] at a0 a1 a2 b0 b1 b2
  dsimp only [nilV] at p0 p1 p2 q0 q1 q2
  obtain ⟨cc0, cc1, lcc⟩ := P.B.c0
  have HP := hid P
  have HK := hid K
  have HVA := hid va
  have HVB := hid vb
  have HLa := hid La
  have HLb := hid Lb
  obtain ⟨x9, hx9, hb9⟩ := P.x
  have ht9 := th_cur P.B.c
  obtain ⟨A2, s1, s2, hx2⟩ := P.B.r.setSt ht9 hx9 3
  have O9 := P.B.r.one _ _ _ ht9 hx9
  have g0 : W.frozen? ⟨xb, 0, none⟩ = false := by rw [← hb9]; exact O9.b.has.frozen 0
  have e0 : W.cell? ⟨xb, 0, none⟩ = some (.int .i64 m.th.st) := by rw [← hb9]; exact O9.b.has.cell 0
  have lx : xb < W.heap.size := by rw [← hb9]; exact O9.b.has.lt
  have oxb : A1.o xb = 10 + m.cur := by rw [← hb9]; exact O9.b.lb
  have obr : A1.o A.br = 1 := by rw [← P.B.s.br]; exact P.B.r.run.lb
  have hne : A.br ≠ xb := fun e => by rw [e] at obr; omega
  have hne2 : xb ≠ A.br := fun e => hne e.symm
  rw [hb9] at s1 s2
  have R1 : MRep (W.setCell ⟨xb, 0, none⟩ (.int .i64 3)) A2 N root (m.upT fun t => { t with st := 3 }) := s1
  have ebr : A2.br = A.br := s2.br.trans P.B.s.br
  have c11 : W.cell? ⟨A.br, 11, none⟩ = some (.int .i64 m.stack.length) := by rw [← P.B.s.br]; exact P.B.r.rc 11 rfl
  have c12 : W.cell? ⟨A.br, 12, none⟩ = some (.int .i64 m.cur) := by rw [← P.B.s.br]; exact P.B.r.rc 12 rfl
  have Hr := P.B.r.run.has
  rw [P.B.s.br] at Hr
  have f11 := Hr.frozen 11
  have f12 := Hr.frozen 12
  subst ht
  have hj : an < m.ths.length := va.c rfl
  obtain ⟨gt, y, hy, hty, ⟨t5, tg, ts, tf, tl0, tl1, tl2, tlc, tlj, tl5⟩⟩ := P.B.thAt hj
  obtain ⟨TH, HTH⟩ : ∃ TH, Hid (m.ths.getD an mt0 = TH) := ⟨_, rfl⟩
  rw [HTH.out] at ts tf hty hst HQ
  obtain ⟨LT, HLT⟩ : ∃ LT : Nat, Hid (m.ths.length = LT) := ⟨_, rfl⟩
  rw [HLT.out] at t5 tlc tlj tl5
  obtain ⟨cap, HCAP⟩ : ∃ cap : Nat, Hid (A1.th.c = cap) := ⟨_, rfl⟩
  rw [HCAP.out] at t5 tlc
  have HHY := hid hy
  have HTY := hid hty
  have TYO := P.B.r.one _ _ _ HTY.out HHY.out
  have oyb : A1.o y.b = 10 + an := TYO.b.lb
  have ny1 : y.b ≠ xb := fun e => by rw [e] at oyb; omega
  have ny2 : y.b ≠ A.br := fun e => by rw [e] at oyb; omega
  have ny3 : A.br ≠ y.b := fun e => ny2 e.symm
  have ny4 : xb ≠ y.b := fun e => ny1 e.symm
  have sk4 := K.sk
  obtain ⟨n, HN⟩ : ∃ n : Nat, Hid (m.stack.length = n) := ⟨_, rfl⟩
  rw [HN.out] at c11 sk4
  have csk := P.B.r.skc (show n < 5 by omega)
  rw [P.B.s.br] at csk
  have fsk : W.frozen? ⟨A.br, 6 + n, none⟩ = false := Hr.frozen _
  obtain ⟨sko, HSKO⟩ : ∃ sko : Nat, Hid (A1.sk.getD n 0 = sko) := ⟨_, rfl⟩
  rw [HSKO.out] at csk
  obtain ⟨cu, HCU⟩ : ∃ cu : Nat, Hid (m.cur = cu) := ⟨_, rfl⟩
  rw [HCU.out] at c12
  -- the world behind the stack's write
  have Fd : ∀ w : World, Fr (fun _ => False) w w.drew.drew := fun w => ((Fr.refl _ _).drew).drew
  obtain ⟨V, HV⟩ : ∃ V, Hid (((W.setCell ⟨xb, 0, none⟩ (.int .i64 3)).setCell ⟨A.br, 6 + n, none⟩ (.int .i64 cu)).drew.drew = V) := ⟨_, rfl⟩
  have eV : (W.setCell ⟨xb, 0, none⟩ (.int .i64 3)).drew.drew.setCell ⟨A.br, 6 + n, none⟩ (.int .i64 cu) = V := by
    rw [← HV.out]
    rfl
  obtain ⟨y1, y2⟩ := (R1.fresh (Fd _)).goto (n := n) HN.out sk4 an
  have ecu : (m.upT fun t => { t with st := 3 }).cur = cu := HCU.out
  rw [ebr, ecu, eV, show ((n + 1 : Nat) : Int) = (n : Int) + 1 by omega] at y1 y2
  have kp : ∀ {b : Nat} {cs : Array Value} {T : TypeId}, Has W b cs T → b ≠ xb → b ≠ A.br → Has V b cs T := fun {b cs T} h h1 h2 => by
    rw [← HV.out]
    exact (((h.other (p := ⟨xb, 0, none⟩) h1 _).other (p := ⟨A.br, 6 + n, none⟩) h2 _).drew).drew
  have k0 : ∀ {b : Nat} {cs : Array Value} {T : TypeId}, LcB W A1 b cs T → Has V b cs T := fun {b cs T} h => kp h.h (fun e => by have := h.z; rw [e] at this; omega) (fun e => by have := h.z; rw [e] at this; omega)
  have HrV : Has V A.br ((rnV A1 N root m).setIfInBounds (6 + n) (.int .i64 cu)) 173 := by
    rw [← HV.out]
    exact ((((Hr.other (p := ⟨xb, 0, none⟩) hne _).put (6 + n) _)).drew).drew
  have HyV := kp TYO.b.has ny1 ny2
  have cV : ∀ i, i ≠ 6 + n → V.cell? ⟨A.br, i, none⟩ = (rnV A1 N root m)[i]? := fun i hi => by
    rw [HrV.cell, Array.getElem?_setIfInBounds_ne (fun e => hi e.symm)]
  have v11 : V.cell? ⟨A.br, 11, none⟩ = some (.int .i64 (m.stack.length : Nat)) := (cV 11 (by omega)).trans rfl
  have v14 : V.cell? ⟨A.br, 14, none⟩ = some (.int .i64 (m.first : Nat)) := (cV 14 (by omega)).trans rfl
  have v12 : V.cell? ⟨A.br, 12, none⟩ = some (.int .i64 (m.cur : Nat)) := (cV 12 (by omega)).trans rfl
  rw [HN.out] at v11
  rw [HCU.out] at v12
  have vf : ∀ i, V.frozen? ⟨A.br, i, none⟩ = false := fun i => HrV.frozen i
  have vf11 := vf 11
  have vf12 := vf 12
  have vf14 := vf 14
  have vbr := HrV.lt
  have vy0 : V.cell? ⟨y.b, 0, none⟩ = some (.int .i64 (TH.st : Nat)) := HyV.cell 0
  have vy1 : V.cell? ⟨y.b, 1, none⟩ = some (.int .i64 (TH.fn : Nat)) := HyV.cell 1
  have vyf := HyV.frozen 0
  have vyl := HyV.lt
  have VA := k0 La
  have VB := k0 Lb
  have VG := k0 P.LA
  have nb1 : bb ≠ A.br := fun e => by have := Lb.z; rw [e] at this; omega
  have nb2 : bb ≠ y.b := fun e => by have := Lb.z; rw [e] at this; omega
  have nb3 : A.br ≠ bb := fun e => nb1 e.symm
  have nb4 : y.b ≠ bb := fun e => nb2 e.symm
  have va1 := VA.cell 1
  have val := VA.lt
  have vb0 := VB.cell 0
  have vb1 := VB.cell 1
  have vb2 := VB.cell 2
  have vbl := VB.lt
  have vgl := VG.lt
  simp only [vlC, List.getElem?_toArray, List.getElem?_cons_succ, List.getElem?_cons_zero] at va1 vb0 vb1 vb2
  -- the thread that goes on
  obtain ⟨X, HX⟩ : ∃ X : MD, Hid (({ (m.upT fun t => { t with st := 3 }) with stack := m.cur :: m.stack, cur := an } : MD) = X) := ⟨_, rfl⟩
  have y1 : MRep _ _ N root ({ (m.upT fun t => { t with st := 3 }) with stack := cu :: m.stack, cur := an } : MD) := y1
  rw [← HCU.out] at y1 y2
  have s3' := s2.trans ((MSt.fresh A2 (Fd _)).trans y2)
  obtain ⟨y', hy', hyb'⟩ := s3'.x _ _ HHY.out
  have hT2 : X.ths[an]? = some TH := by
    rw [← HX.out]
    show (m.ths.set m.cur _)[an]? = some TH
    rw [List.getElem?_set_ne (fun z => hnc z.symm)]
    exact HTY.out
  have hXc : X.cur = an := by rw [← HX.out]
  have hXl : X.cur < X.ths.length := by rw [hXc]; exact (List.getElem?_eq_some_iff.1 hT2).1
  have hXt : X.th = TH := by
    unfold MD.th
    rw [hXc, List.getD_eq_getElem?_getD, hT2]
    rfl
  rw [HX.out] at y1 HQ
  obtain ⟨A4, s3, s4, hx4⟩ := y1.setSt hT2 hy' 4
  rw [hyb'] at s3 s4
  have HS2 : Hid (MSt W A1 (((V.setCell ⟨A.br, 11, none⟩ (.int .i64 ((n : Int) + 1))).setCell ⟨A.br, 12, none⟩ (.int .i64 an)).setCell ⟨y.b, 0, none⟩ (.int .i64 4)) A4) := s3'.trans s4
  obtain ⟨M2, HM2⟩ : ∃ M2, Hid ((X.upT fun t => { t with st := 4 }) = M2) := ⟨_, rfl⟩
  have HS1 : Hid (MRep (((V.setCell ⟨A.br, 11, none⟩ (.int .i64 ((n : Int) + 1))).setCell ⟨A.br, 12, none⟩ (.int .i64 an)).setCell ⟨y.b, 0, none⟩ (.int .i64 4)) A4 N root M2) := by
    show MRep _ _ _ _ _
    rw [← HM2.out]
    unfold MD.upT
    rw [hXt, hXc]
    rw [hXc] at s3
    exact s3
  have HM3 : Hid (M2.cur < M2.ths.length ∧ M2.th = { TH with st := 4 }) := by
    rw [← HM2.out]
    refine ⟨by rw [upT_len]; exact hXl, ?_⟩
    rw [upT_th hXl, hXt]
  have HVO : Hid (TH.vals.length ≤ 900000) := by have := K.vo an; rw [HTH.out] at this; exact this
  have HTO : Hid (TH.tasks.length ≤ 900000 ∧ TH.depth ≤ 8) := by have := K.to an; rw [HTH.out] at this; exact this
  rw [HM2.out] at HQ
  have an63 : an < 24 := by have := K.u.h5; omega
  have HXE : Hid (M2.envs = m.envs ∧ M2.clos = m.clos ∧ M2.tabs = m.tabs ∧ M2.first = m.first) := by rw [← HM2.out, ← HX.out]; exact ⟨rfl, rfl, rfl, rfl⟩
  have HRF : Hid (RefOk M2) := by
    show RefOk _
    have r1 : RefOk (m.upT fun t => { t with st := 3 }) := K.ref.upT P.B.c (K.ref.th P.B.c)
    have r2 : RefOk X := by rw [← HX.out]; exact ⟨r1.t, r1.c, r1.u⟩
    rw [← HM2.out]
    exact r2.upT hXl (r2.th hXl)
  have HLG := hid (P.LA)
  obtain ⟨tst, HTST⟩ : ∃ tst : Nat, Hid (TH.st = tst) := ⟨_, rfl⟩
  obtain ⟨tfn, HTFN⟩ : ∃ tfn : Nat, Hid (TH.fn = tfn) := ⟨_, rfl⟩
  obtain ⟨fi, HFI⟩ : ∃ fi : Nat, Hid (m.first = fi) := ⟨_, rfl⟩
  rw [HFI.out] at v14
  have hfi : fi ≤ 5 := by have := K.u.fi; have := K.u.h5; rw [← HFI.out]; omega
  rw [HTST.out] at ts vy0 hst
  rw [HTFN.out] at tf vy1
  have HXE1 : Hid (TH.fn < m.clos.length) := by
    have := (K.u.any an).f
    rw [HTH.out] at this
    exact this
  obtain ⟨yb, HYB⟩ : ∃ yb, Hid (y.b = yb) := ⟨_, rfl⟩
  rw [HYB.out] at HS1 HS2 nb2 nb4 vy0 vy1 vyf vyl ny1 ny2 ny3 ny4 tg ts tf tl2
  clear y1 y2 s1 s2 s3 s4 s3' O9 TYO R1 hx9 ht9 hx2 hb9 hy' hyb' hT2 hx4 hXc hXl hXt hnc VA VB VG HyV HrV cV vf kp k0 Hr Fd eV ecu oxb obr oyb
  subst hst
  clear P K H va vb La Lb
  obtain ⟨c, hc⟩ : ∃ c, c = apB Tryz.f126.body := ⟨_, rfl⟩
  rw [← hc]
  simp only [apB, apT, cR, Tryz.f126, Option.getD_some] at hc
  subst hc
  clear a2 p0 p1 p2 p3 p4 p5 lp q0 q1 q2 q3 q4 q5 lq cc0 cc1
  go_wp2_with fail
  refine wp_region_tail 8 (by kernel_rfl) (by kernel_rfl) (fun _ _ _ _ _ h => h) ?_
  simp only [List.take_succ_cons, List.take_zero, List.drop_succ_cons, List.drop_zero]
  repeat go_big_quiet_step (fail)
  refine wpQuiet_nil ?_
  go_wp2_with fail
  refine wp_region_tail 11 (by kernel_rfl) (by kernel_rfl) (fun _ _ _ _ _ h => h) ?_
  simp only [List.take_succ_cons, List.take_zero, List.drop_succ_cons, List.drop_zero]
  repeat go_big_quiet_step (fail)
  refine wpQuiet_nil ?_
  refine list_cut (fun a' w' => FrAz (.pointer (some ⟨A.br, 0, none⟩)) (.pointer (some ⟨bA, 0, none⟩)) (.pointer (some ⟨ba, 0, none⟩)) (.pointer (some ⟨bb, 0, none⟩)) (.pointer (some ⟨yb, 0, none⟩)) a' ∧ w' = V) (fun Qk hq => ?_) ?_
  · have n5 : n ≠ 5 := by omega
    have HHQ := hid hq
    clear hq
    go_wp2_with fail
    rw [HV.out]
    exact HHQ.out _ _ ⟨⟨by kernel_rfl, by kernel_rfl, by kernel_rfl, by kernel_rfl, by kernel_rfl, by kernel_rfl, rfl⟩, rfl⟩
  · rintro a9 w9 ⟨H9, hw9⟩
    rw [hw9]
    clear hw9
    clear w9
    obtain ⟨u9, rfl⟩ := H9.form
    clear H9 HV c11 c12 f11 f12 csk fsk e0 g0 lx t5 tg ts tf tl0 tl1 tl2 a0 a1 b0 b1 b2 la lb f1 lf
    go_wp2_with fail
    have HB0 : Hid (RB w A N root (((V.setCell ⟨A.br, 11, none⟩ (.int .i64 ((n : Int) + 1))).setCell ⟨A.br, 12, none⟩ (.int .i64 an)).setCell ⟨yb, 0, none⟩ (.int .i64 4)) A4 M2) := ⟨HS1.out, HP.out.B.s.trans HS2.out, HM3.out.1⟩
    obtain ⟨A5, HB1, HT1⟩ : ∃ A5, Hid (RB w A N root ((((V.setCell ⟨A.br, 11, none⟩ (.int .i64 ((n : Int) + 1))).setCell ⟨A.br, 12, none⟩ (.int .i64 an)).setCell ⟨yb, 0, none⟩ (.int .i64 4)).setCell ⟨A.br, 14, none⟩ (.int .i64 ((fi : Int) + 1))) A5 { M2 with first := fi + 1 }) ∧ Hid (MSt W A1 ((((V.setCell ⟨A.br, 11, none⟩ (.int .i64 ((n : Int) + 1))).setCell ⟨A.br, 12, none⟩ (.int .i64 an)).setCell ⟨yb, 0, none⟩ (.int .i64 4)).setCell ⟨A.br, 14, none⟩ (.int .i64 ((fi : Int) + 1))) A5) := by
      have B := HB0.out
      obtain ⟨r1, r2⟩ := B.r.run.put 14 (.int .i64 ((fi : Int) + 1)) (cs' := rnV A4 N root { M2 with first := fi + 1 }) rfl
      rw [B.s.br] at r1 r2
      obtain ⟨y1, y2⟩ := B.r.scal r2 (sk := A4.sk) (an := A4.an) (m' := { M2 with first := fi + 1 }) (by rw [B.s.br]; exact r1.has) rfl rfl rfl rfl B.r.skl B.r.sk B.r.don
      exact ⟨_, ⟨y1, B.s.trans y2, B.c⟩, HS2.out.trans y2⟩
    have AS : ArgS ((((V.setCell ⟨A.br, 11, none⟩ (.int .i64 ((n : Int) + 1))).setCell ⟨A.br, 12, none⟩ (.int .i64 an)).setCell ⟨yb, 0, none⟩ (.int .i64 4)).setCell ⟨A.br, 14, none⟩ (.int .i64 ((fi : Int) + 1))).drew A5 (.slice (some ⟨bA, 3, none⟩) 1 2) [⟨bt, bn, bxs⟩] := by
      refine .inr ⟨bA, arC args, 3, 2, 317, (HLG.out.st HT1.out).fr ((Fr.refl _ _).drew), rfl, by simp, fun i v hv => ?_⟩
      have hl := (List.getElem?_eq_some_iff.1 hv).1
      have : i = 0 := by simp at hl; exact hl
      subst this
      have : v = ⟨bt, bn, bxs⟩ := by simpa using hv.symm
      rw [this, ← HBB.out]
      exact ⟨rfl, rfl, rfl⟩
    have hcl := HXE1.out
    obtain ⟨qc, hqc⟩ : ∃ q, m.clos[TH.fn]? = some q := ⟨m.clos[TH.fn]'hcl, by simp⟩
    obtain ⟨qc1, qc2⟩ := HK.out.cl qc (List.mem_of_getElem? hqc)
    have hqc2 : ({ M2 with first := fi + 1 } : MD).clos[tfn]? = some qc := by
      rw [← HTFN.out]
      show M2.clos[TH.fn]? = some qc
      rw [HXE.out.2.1]
      exact hqc
    have hth : ({ M2 with first := fi + 1 } : MD).th = { TH with st := 4 } := HM3.out.2
    have C := enter_m HB1.out.drew (⟨HRF.out.t, HRF.out.c, HRF.out.u⟩ : RefOk ({ M2 with first := fi + 1 } : MD)) (by rw [hth]; have := HTO.out.1; show TH.tasks.length ≤ _; omega) (by rw [hth]; have := HTO.out.2; show TH.depth ≤ _; omega) (by rw [hth]; have := HVO.out; show TH.vals.length ≤ _; omega) hqc2 qc1 (by show M2.clos.length ≤ _; rw [HXE.out.2.1]; have := HK.out.u.c24; omega) qc2 (HK.out.no.a _ qc1) HK.out.no.nx HK.out.no.l [⟨bt, bn, bxs⟩] _ AS (by simp) 0 (c' := tfn) (p' := 0) rfl rfl
    have HC := hid C
    clear C AS hqc hqc2 qc1 qc2 hcl hth
    refine C.wp_region_tail 6 (by kernel_rfl) (by kernel_rfl) (fun _ _ _ _ _ h => h) ?_
    simp only [List.take_succ_cons, List.take_zero, List.drop_succ_cons, List.drop_zero]
    repeat go_big_quiet_step (fail)
    refine wpQuiet_nil ?_
    go_wp2_with fail
    refine HC.out.mono ?_
    rintro e3 w3 ⟨rfl, A9, B9, S9⟩
    have FIN : Hid (Q (.returned (.tuple #[])) w3) := by
      show Q _ _
      rw [← HQ.out, HTFN.out, HFI.out]
      exact B9.end
    clear B9 S9
    go_wp2
    refine bodyPost_ret (results_none rfl _ _ _) rfl ?_
    exact FIN.out
end
end Go.Proofs.Qxb6500574aGreatDoor
