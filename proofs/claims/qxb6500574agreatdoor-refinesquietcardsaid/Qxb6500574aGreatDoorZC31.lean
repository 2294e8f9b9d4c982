/-
  THE WALKS of compm: apply: yield.
-/
import Derived.Test.Qxb6500574aGreatDoorZC30
namespace Go.Proofs.Qxb6500574aGreatDoor
open Go Go.RowKit
set_option linter.unusedVariables false
set_option linter.unusedSimpArgs false
section
variable {w W W1 : World} {A A1 A2 : RnP} {N : List Nd} {root : Nat} {m R : MD} {bA bF xb ba bb bp bq x : Nat} {fn p q : Vl} {args : List Vl} {a : Act}
set_option maxRecDepth 100000
set_option maxHeartbeats 2000000
theorem ap_b10a (P : ApC w A N root W A1 m bA bF xb ba bb bp bq fn args) (K : ApOk N m fn args) (H : FrAq (.pointer (some ⟨A.br, 0, none⟩)) (.pointer (some ⟨xb, 0, none⟩)) (.pointer (some ⟨bA, 0, none⟩)) (.pointer (some ⟨bF, 0, none⟩)) (.pointer (some ⟨ba, 0, none⟩)) (.pointer (some ⟨bb, 0, none⟩)) (.pointer (some ⟨bp, 0, none⟩)) (.pointer (some ⟨bq, 0, none⟩)) a) (hn : fn.n = 10) (h0 : m.cur = 0) :
    (apB Tryz.f126.body).wp Tryz.prog (bodyPost Tryz.prog Tryz.f126 (PQm w A N root (m.raise mYield))) a W := by
  obtain ⟨u, rfl⟩ := H.form
  obtain ⟨Q, HQ⟩ : ∃ Q : Ending → World → Prop, Hid (PQm w A N root (m.raise mYield) = Q) := ⟨_, rfl⟩
  rw [HQ.out]
  have f1 := P.LF.h.cell 1
  have lf := P.LF.h.lt
  simp only [vlC, List.getElem?_toArray, List.getElem?_cons_zero, List.getElem?_cons_succ] at f1
  rw [hn] at f1
  have f1 : W.cell? ⟨bF, 1, none⟩ = some (.int .u64 10) := f1
  have va : VM m (args.getD 0 nilV) := vk_getD K.arV 0
  have vb : VM m (args.getD 1 nilV) := vk_getD K.arV 1
  have nb := va.big K.u.t12 K.u.c24 K.u.h5
  obtain ⟨⟨at', an, axs⟩, HA⟩ : ∃ v, Hid (args.getD 0 nilV = v) := ⟨_, rfl⟩
  obtain ⟨⟨bt, bn, bxs⟩, HBB⟩ : ∃ v, Hid (args.getD 1 nilV = v) := ⟨_, rfl⟩
  have La := P.La
  have Lb := P.Lb
  rw [HA.out] at va La nb
  rw [HBB.out] at vb Lb
  try rw [HA.out] at HQ
  try rw [HBB.out] at HQ
  dsimp only at nb
  obtain ⟨p0, p1, p2, p3, p4, p5, lp⟩ := P.d.pc
  obtain ⟨q0, q1, q2, q3, q4, q5, lq⟩ := P.d.qc
  have HVL : Hid (m.th.vals.length ≤ 900000) := K.vl
  have a0 := La.h.cell 0
  have a1 := La.h.cell 1
  have a2 := La.h.cell 2
  have b0 := Lb.h.cell 0
  have b1 := Lb.h.cell 1
  have b2 := Lb.h.cell 2
  have la := La.h.lt
  have lb := Lb.h.lt
  simp only [vlC, List.getElem?_toArray, List.getElem?_cons_succ, List.getElem?_cons_zero] at a0 a1 a2 b0 b1 b2
  dsimp only [nilV] at p0 p1 p2 q0 q1 q2
  obtain ⟨cc0, cc1, lcc⟩ := P.B.c0
  have HP := hid P
  have HK := hid K
  have HVA := hid va
  have HVB := hid vb
  have HLa := hid La
  have HLb := hid Lb
  have c12 : W.cell? ⟨A.br, 12, none⟩ = some (.int .i64 m.cur) := by rw [← P.B.s.br]; exact P.B.r.rc 12 rfl
  rw [h0] at c12
  have c12 : W.cell? ⟨A.br, 12, none⟩ = some (.int .i64 0) := c12
  clear P K H va vb La Lb
  obtain ⟨c, hc⟩ : ∃ c, c = apB Tryz.f126.body := ⟨_, rfl⟩
  rw [← hc]
  simp only [apB, apT, cR, Tryz.f126, Option.getD_some] at hc
  subst hc
  have C : Hid (Calls Tryz.prog 121 #[.pointer (some ⟨A.br, 0, none⟩), sv [121, 105, 101, 108, 100]] W (PQm w A N root (m.raise mYield))) := HP.out.B.raise HK.out.thr mYield (by decide)
  go_wp2_with fail
  refine C.out.mono ?_
  intro e3 w3 hq
  obtain rfl := hq.1
  have FIN : Hid (Q (.returned (.tuple #[])) w3) := by
    show Q _ _
    rw [← HQ.out]
    exact hq
  clear hq
  go_wp2
  refine bodyPost_ret (results_none rfl _ _ _) rfl ?_
  exact FIN.out
theorem ap_b10b (P : ApC w A N root W A1 m bA bF xb ba bb bp bq fn args) (K : ApOk N m fn args) (H : FrAq (.pointer (some ⟨A.br, 0, none⟩)) (.pointer (some ⟨xb, 0, none⟩)) (.pointer (some ⟨bA, 0, none⟩)) (.pointer (some ⟨bF, 0, none⟩)) (.pointer (some ⟨ba, 0, none⟩)) (.pointer (some ⟨bb, 0, none⟩)) (.pointer (some ⟨bp, 0, none⟩)) (.pointer (some ⟨bq, 0, none⟩)) a) (hn : fn.n = 10) (h0 : m.cur ≠ 0) {c : Nat} {r : List Nat} (hs : m.stack = c :: r) :
    (apB Tryz.f126.body).wp Tryz.prog (bodyPost Tryz.prog Tryz.f126 (PQm w A N root ((({ (m.upT fun t => { t with st := 2 }) with stack := r, cur := c } : MD).upT fun t => { t with st := 4 }).push [boolV true, args.getD 0 nilV]))) a W := by
  obtain ⟨u, rfl⟩ := H.form
  obtain ⟨Q, HQ⟩ : ∃ Q : Ending → World → Prop, Hid (PQm w A N root ((({ (m.upT fun t => { t with st := 2 }) with stack := r, cur := c } : MD).upT fun t => { t with st := 4 }).push [boolV true, args.getD 0 nilV]) = Q) := ⟨_, rfl⟩
  rw [HQ.out]
  have f1 := P.LF.h.cell 1
  have lf := P.LF.h.lt
  simp only [vlC, List.getElem?_toArray, List.getElem?_cons_zero, List.getElem?_cons_succ] at f1
  rw [hn] at f1
  have f1 : W.cell? ⟨bF, 1, none⟩ = some (.int .u64 10) := f1
  have va : VM m (args.getD 0 nilV) := vk_getD K.arV 0
  have vb : VM m (args.getD 1 nilV) := vk_getD K.arV 1
  have nb := va.big K.u.t12 K.u.c24 K.u.h5
  obtain ⟨⟨at', an, axs⟩, HA⟩ : ∃ v, Hid (args.getD 0 nilV = v) := ⟨_, rfl⟩
  obtain ⟨⟨bt, bn, bxs⟩, HBB⟩ : ∃ v, Hid (args.getD 1 nilV = v) := ⟨_, rfl⟩
  have La := P.La
  have Lb := P.Lb
  rw [HA.out] at va La nb
  rw [HBB.out] at vb Lb
  try rw [HA.out] at HQ
  try rw [HBB.out] at HQ
  dsimp only at nb
  obtain ⟨p0, p1, p2, p3, p4, p5, lp⟩ := P.d.pc
  obtain ⟨q0, q1, q2, q3, q4, q5, lq⟩ := P.d.qc
  have HVL : Hid (m.th.vals.length ≤ 900000) := K.vl
  have a0 := La.h.cell 0
  have a1 := La.h.cell 1
  have a2 := La.h.cell 2
  have b0 := Lb.h.cell 0
  have b1 := Lb.h.cell 1
  have b2 := Lb.h.cell 2
  have la := La.h.lt
  have lb := Lb.h.lt
  simp only [vlC, List.getElem?_toArray, List.getElem?_cons_succ, List.getElem?_cons_zero] at a0 a1 a2 b0 b1 b2
  dsimp only [nilV] at p0 p1 p2 q0 q1 q2
  obtain ⟨cc0, cc1, lcc⟩ := P.B.c0
  have HP := hid P
  have HK := hid K
  have HVA := hid va
  have HVB := hid vb
  have HLa := hid La
  have HLb := hid Lb
  obtain ⟨x9, hx9, hb9⟩ := P.x
  have ht9 := th_cur P.B.c
  obtain ⟨A2, s1, s2, hx2⟩ := P.B.r.setSt ht9 hx9 2
  have O9 := P.B.r.one _ _ _ ht9 hx9
  have e0 : W.cell? ⟨xb, 0, none⟩ = some (.int .i64 m.th.st) := by rw [← hb9]; exact O9.b.has.cell 0
  have g0 : W.frozen? ⟨xb, 0, none⟩ = false := by rw [← hb9]; exact O9.b.has.frozen 0
  have lx : xb < W.heap.size := by rw [← hb9]; exact O9.b.has.lt
  have hne : A.br ≠ xb := fun e => by
    have l1 := P.B.r.run.lb
    have l2 := O9.b.lb
    rw [P.B.s.br, e] at l1
    rw [hb9] at l2
    omega
  have hne2 : xb ≠ A.br := fun e => hne e.symm
  rw [hb9] at s1 s2
  have R1 : MRep (W.setCell ⟨xb, 0, none⟩ (.int .i64 2)) A2 N root (m.upT fun t => { t with st := 2 }) := s1
  have ebr : A2.br = A.br := s2.br.trans P.B.s.br
  have c11 : W.cell? ⟨A.br, 11, none⟩ = some (.int .i64 m.stack.length) := by rw [← P.B.s.br]; exact P.B.r.rc 11 rfl
  have c12 : W.cell? ⟨A.br, 12, none⟩ = some (.int .i64 m.cur) := by rw [← P.B.s.br]; exact P.B.r.rc 12 rfl
  have f11 : W.frozen? ⟨A.br, 11, none⟩ = false := by rw [← P.B.s.br]; exact P.B.r.run.has.frozen 11
  have f12 : W.frozen? ⟨A.br, 12, none⟩ = false := by rw [← P.B.s.br]; exact P.B.r.run.has.frozen 12
  have hcn := (K.sn c (by rw [hs]; simp))
  have sk := R1.sk
  have hs1 : (m.upT fun t => { t with st := 2 }).stack = c :: r := hs
  rw [hs1] at sk
  obtain ⟨r5, hsk, hpre⟩ := sk_at sk R1.skl
  have sk0 := P.B.r.sk
  rw [hs] at sk0
  obtain ⟨_, hsk0, _⟩ := sk_at sk0 P.B.r.skl
  have csk := P.B.r.skc r5
  rw [hsk0, P.B.s.br] at csk
  rw [hs, List.length_cons] at c11
  obtain ⟨u1, u2⟩ := R1.run.put 11 (.int .i64 r.length) (cs' := rnV A2 N root { (m.upT fun t => { t with st := 2 }) with stack := r }) rfl
  obtain ⟨v1, v2⟩ := u1.put 12 (.int .i64 c) (cs' := rnV A2 N root { (m.upT fun t => { t with st := 2 }) with stack := r, cur := c }) rfl
  obtain ⟨y1, y2⟩ := R1.scal (u2.trans v2) (sk := A2.sk) (an := A2.an) (m' := { (m.upT fun t => { t with st := 2 }) with stack := r, cur := c }) v1.has rfl rfl rfl rfl R1.skl hpre R1.don
  have hcl : c < (m.upT fun t => { t with st := 2 }).ths.length := by rw [upT_len]; exact hcn.2
  obtain ⟨gt, x, hx, ht, ⟨d5, d12, dg, k1, k2, k3, kc, kl, k5⟩, O⟩ := y1.cur (show c < (m.upT fun t => { t with st := 2 }).ths.length from hcl)
  obtain ⟨A4, s3, s4, _⟩ := y1.setSt ht hx 4
  have HS1 : Hid (MRep _ A4 N root (({ (m.upT fun t => { t with st := 2 }) with stack := r, cur := c } : MD).upT fun t => { t with st := 4 })) := s3
  have HS2 := hid ((s2.trans y2).trans s4)
  have h0x := O.b.has.frozen 0
  have c0x := O.b.has.cell 0
  simp only [thV, List.getElem?_toArray, List.getElem?_cons_zero] at c0x
  dsimp only at HS1 HS2 d5 d12 dg k1 k2 k3 h0x c0x kc kl k5
  rw [ebr] at HS1 HS2 d5 d12 dg k1 k2 k3 h0x c0x
  have evl : (({ (m.upT fun t => { t with st := 2 }) with stack := r, cur := c } : MD).upT fun t => { t with st := 4 }).th.vals.length ≤ 900000 := by
    have q := K.vo c
    have e : (({ (m.upT fun t => { t with st := 2 }) with stack := r, cur := c } : MD).upT fun t => { t with st := 4 }).th.vals = (m.ths.getD c mt0).vals := by
      have q2 := upT_th (m := ({ (m.upT fun t => { t with st := 2 }) with stack := r, cur := c } : MD)) hcl (fun t => { t with st := 4 })
      rw [q2]
      show ((m.ths.set m.cur _).getD c mt0).vals = _
      rw [List.getD_eq_getElem?_getD, List.getElem?_set_ne (fun z => hcn.1 z.symm), List.getD_eq_getElem?_getD]
    rw [e]; exact q
  have ecl : (({ (m.upT fun t => { t with st := 2 }) with stack := r, cur := c } : MD).upT fun t => { t with st := 4 }).cur < (({ (m.upT fun t => { t with st := 2 }) with stack := r, cur := c } : MD).upT fun t => { t with st := 4 }).ths.length := by rw [upT_len]; exact hcl
  have HEVL := hid evl
  have HECL := hid ecl
  obtain ⟨n, HN⟩ : ∃ n : Nat, Hid (r.length = n) := ⟨_, rfl⟩
  obtain ⟨LT, HLT⟩ : ∃ LT : Nat, Hid ((m.upT fun t => { t with st := 2 }).ths.length = LT) := ⟨_, rfl⟩
  rw [HN.out] at c11 csk r5 d5 d12 dg k1 k2 k3 h0x c0x HS1 HS2
  rw [HLT.out] at d5 kc kl k5
  obtain ⟨M2, HM2⟩ : ∃ M2, Hid ((({ (m.upT fun t => { t with st := 2 }) with stack := r, cur := c } : MD).upT fun t => { t with st := 4 }) = M2) := ⟨_, rfl⟩
  rw [HM2.out] at HS1 HEVL HECL HQ
  obtain ⟨W3, HW3⟩ : ∃ W3, Hid (((W.setCell ⟨xb, 0, none⟩ (.int .i64 2)).setCell ⟨A.br, 11, none⟩ (.int .i64 n)).setCell ⟨A.br, 12, none⟩ (.int .i64 c) = W3) := ⟨_, rfl⟩
  rw [HW3.out] at d5 d12 dg k1 k2 k3 h0x c0x HS1 HS2
  have e1 : (n : Int) + 1 - 1 = n := by omega
  have n11 : 6 + n ≠ 11 := by omega
  have n12 : 6 + n ≠ 12 := by omega
  have bc0 : ((m.cur : Int) == 0) = false := by rw [beq_eq_false_iff_ne]; omega
  obtain ⟨cu, HCU⟩ : ∃ cu : Nat, Hid (m.cur = cu) := ⟨_, rfl⟩
  rw [HCU.out] at c12 bc0
  clear u1 u2 v1 v2 y1 y2 s1 s2 s3 s4 O9 O R1 hx9 ht9 hx2 hb9 hx ht sk sk0 hsk hsk0 hpre hs1 evl ecl hcn hcl
  clear P K H va vb La Lb
  obtain ⟨c, hc⟩ : ∃ c, c = apB Tryz.f126.body := ⟨_, rfl⟩
  rw [← hc]
  simp only [apB, apT, cR, Tryz.f126, Option.getD_some] at hc
  subst hc
  clear a0 a1 a2 b0 b1 b2 la lb p0 p1 p2 p3 p4 p5 lp q0 q1 q2 q3 q4 q5 lq cc0 cc1
  go_wp2
  refine wp_region_tail 10 (by kernel_rfl) (by kernel_rfl) (fun _ _ _ _ _ h => h) ?_
  simp only [List.take_succ_cons, List.take_zero, List.drop_succ_cons, List.drop_zero]
  repeat go_big_quiet_step (fail)
  refine wpQuiet_nil ?_
  go_wp2_with fail
  rw [HW3.out]
  clear c11 c12 csk f11 f12 e0 g0 hne hne2 lx lcc HW3 f1 lf bc0
  refine wp_region_tail 10 (by kernel_rfl) (by kernel_rfl) (fun _ _ _ _ _ h => h) ?_
  simp only [List.take_succ_cons, List.take_zero, List.drop_succ_cons, List.drop_zero]
  repeat go_big_quiet_step (fail)
  refine wpQuiet_nil ?_
  go_wp2_with fail
  have HB0 : Hid (RB w A N root (W3.setCell ⟨x.b, 0, none⟩ (.int .i64 4)).drew.drew A4 M2) := ⟨HS1.out.drew.drew, (HP.out.B.s.trans HS2.out).drew.drew, HECL.out⟩
  have HL0 := hid (HLa.out.st HS2.out.drew.drew)
  have HC1 : Hid (Calls Tryz.prog 124 #[.pointer (some ⟨A.br, 0, none⟩), .agg #[.int .i64 1, .int .u64 1, sv []]] (W3.setCell ⟨x.b, 0, none⟩ (.int .i64 4)).drew.drew _) := HB0.out.push (by have := HEVL.out; omega) (boolV true)
  clear d5 d12 dg k1 k2 k3 h0x c0x HS1 HS2 kc kl k5
  refine HC1.out.mono ?_
  rintro e8 w8 ⟨rfl, A8, B8, S8⟩
  have C2 := B8.push (by rw [th_push HECL.out]; have := HEVL.out; simp; omega) ⟨at', an, axs⟩
  rw [up_push _ _ _ HECL.out] at C2
  have HC2 : Hid (Calls Tryz.prog 124 #[.pointer (some ⟨A.br, 0, none⟩), .agg #[.int .i64 at', .int .u64 an, sv axs]] w8 _) := C2
  have L8 := HL0.out.st S8
  have y0 := L8.h.cell 0
  have y1 := L8.h.cell 1
  have y2 := L8.h.cell 2
  have ly := L8.h.lt
  simp only [vlC, List.getElem?_toArray, List.getElem?_cons_succ, List.getElem?_cons_zero] at y0 y1 y2
  clear C2 L8 B8 S8
  go_wp2_with fail
  refine HC2.out.mono ?_
  rintro e3 w3 ⟨rfl, A9, B9, S9⟩
  have FIN : Hid (Q (.returned (.tuple #[])) w3) := by
    show Q _ _
    rw [← HQ.out]
    exact B9.end
  clear B9 S9 y0 y1 y2 ly
  go_wp2
  refine bodyPost_ret (results_none rfl _ _ _) rfl ?_
  exact FIN.out
end
end Go.Proofs.Qxb6500574aGreatDoor
