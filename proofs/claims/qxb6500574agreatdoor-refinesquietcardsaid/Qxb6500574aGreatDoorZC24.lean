/-
  THE WALKS of compm: stmt, break.
-/
import Derived.Test.Qxb6500574aGreatDoorZC23
namespace Go.Proofs.Qxb6500574aGreatDoor
open Go Go.RowKit
set_option linter.unusedVariables false
set_option linter.unusedSimpArgs false
section
variable {w W W1 : World} {A A1 A2 : RnP} {N : List Nd} {root : Nat} {M : MD}
/-- the loop of break -/
def BkI (w : World) (A : RnP) (N : List Nd) (root : Nat) (m : MD) (xb : Nat) (R : Option (Nat × List TkD)) (n : Nat) (wr : World) : Prop :=
  ∃ A1 ts, n = ts.length ∧ ts.length ≤ 1000000 ∧ MRep wr A1 N root (m.upT fun t => { t with tasks := ts }) ∧ MSt w A wr A1 ∧ brkT ts = R ∧ ∃ x1, A1.X[m.cur]? = some x1 ∧ x1.b = xb
def brkR (m : MD) (R : Option (Nat × List TkD)) : MD := match R with
  | none => m.upT fun t => { t with tasks := [] }
  | some (x, r) => m.upT fun t => { t with tasks := r, vals := t.vals.take x }
set_option maxRecDepth 100000
set_option maxHeartbeats 1000000
theorem stmt11 (B : RB w A N root W A1 M) (hl : M.th.tasks.length ≤ 999900) (hvl : M.th.vals.length ≤ 999990) {n : Nat} (hn : n < N.length) (hN : N.length ≤ 1000) {e : Option Nat} (he : ∀ i, e = some i → i < A.E.length) (hk : (N.getD n nd0).k = 11) (hx : ∀ x r, brkT M.th.tasks = some (x, r) → x ≤ M.th.vals.length) :
    Calls Tryz.prog 113 #[.pointer (some ⟨A.br, 0, none⟩), .int .i64 n, .pointer (eAd A.E e)] W (PQm w A N root (M.stmt N n e)) := by
  obtain ⟨Q, HQ⟩ : ∃ Q : Ending → World → Prop, Hid (PQm w A N root (M.stmt N n e) = Q) := ⟨_, rfl⟩
  rw [HQ.out]
  obtain ⟨g, c, D⟩ := B.nd hn
  obtain ⟨c2, lc, lb, lg, ln, d0, d1, d2, d3, d4, d5, d6, d7⟩ := D
  obtain ⟨cc0, cc1, lcc⟩ := B.c0
  have HB := hid B
  have HE := hid he
  have HT0 : Hid (M.th.tasks.length ≤ 999900 + 0) := hl
  have HV0 : Hid (M.th.vals.length ≤ 999990 + 0) := hvl
  have HX0 := hid hx
  clear hx
  obtain ⟨⟨dk, da, db, dc, dnx, dn, dss, dp⟩, HD⟩ : ∃ d, Hid (N.getD n nd0 = d) := ⟨_, rfl⟩
  have HZ : Hid (M.stmt N n e = brkR (M.todo [⟨1, dnx, 0, e⟩]) (brkT (M.todo [⟨1, dnx, 0, e⟩]).th.tasks)) := by
    show _ = _
    unfold MD.stmt
    dsimp only
    rw [HD.out]
    rw [HD.out] at hk
    dsimp only at hk
    subst hk
    simp (config := { decide := true }) only [if_true, if_false]
    rfl
  rw [HD.out] at d0 d1 d2 d3 d4 d5 d6 d7 hk
  dsimp only at d0 d1 d2 d3 d4 d5 d6 d7 hk
  subst hk
  have HX : Hid (∀ x r, brkT (M.todo [⟨1, dnx, 0, e⟩]).th.tasks = some (x, r) → x ≤ (M.todo [⟨1, dnx, 0, e⟩]).th.vals.length) := by
    rw [th_todo HB.out.c]
    exact fun x r h => HX0.out x r h
  clear HX0
  obtain ⟨NL, HLL⟩ : ∃ NL : Nat, Hid (N.length = NL) := ⟨_, rfl⟩
  rw [HLL.out] at c2 lc ln hN
  have FA : Fr (fun _ => False) W (W.alloc (.cells #[.int .i64 (11 : Nat), .int .i64 (da : Nat), .int .i64 (db : Nat), .int .i64 (dc : Nat), .int .i64 (dnx : Nat), .int .u64 (dn : Nat), sv dss, .int .i64 (dp : Nat)] 134)) := (Fr.refl _ _).alloc _
  have HFA := hid FA
  have HB0 := hid (B.fresh FA)
  have HL0 : Hid (LcB (W.alloc (.cells #[.int .i64 (11 : Nat), .int .i64 (da : Nat), .int .i64 (db : Nat), .int .i64 (dc : Nat), .int .i64 (dnx : Nat), .int .u64 (dn : Nat), sv dss, .int .i64 (dp : Nat)] 134)) A1 W.heap.size #[.int .i64 (11 : Nat), .int .i64 (da : Nat), .int .i64 (db : Nat), .int .i64 (dc : Nat), .int .i64 (dnx : Nat), .int .u64 (dn : Nat), sv dss, .int .i64 (dp : Nat)] 134) := LcB.new B.r.own _ _
  obtain ⟨ea, HEA⟩ : ∃ ea, Hid (eAd A.E e = ea) := ⟨_, rfl⟩
  rw [HEA.out]
  clear B he hl hvl FA
  have y0 := HL0.out.h.cell 0
  have y1 := HL0.out.h.cell 1
  have y2 := HL0.out.h.cell 2
  have y3 := HL0.out.h.cell 3
  have y4 := HL0.out.h.cell 4
  have y5 := HL0.out.h.cell 5
  have y6 := HL0.out.h.cell 6
  have y7 := HL0.out.h.cell 7
  simp only [List.getElem?_toArray, List.getElem?_cons_succ, List.getElem?_cons_zero] at y0 y1 y2 y3 y4 y5 y6 y7
  have ly := HL0.out.h.lt
  go_enter Tryz.func113, Tryz.ntmps113
  have CC := HB0.out.todo (by have := HT0.out; omega) 1 dnx 0 e HE.out (k' := 1) (n' := (dnx : Nat)) (x' := 0) rfl rfl rfl
  rw [HEA.out] at CC
  have HCC := hid CC
  clear CC
  go_wp2_with fail
  refine HCC.out.mono ?_
  rintro e9 w1 ⟨rfl, A11, BB, SS⟩
  clear HCC y0 y1 y2 y3 y4 y5 y6 y7 ly
  have HB1 := hid BB
  have HL1 := hid (HL0.out.st SS)
  have HT1 : Hid ((M.todo [⟨1, dnx, 0, e⟩]).th.tasks.length ≤ 999900 + 1) := by
    show _ ≤ _
    rw [th_todo HB0.out.c]
    have := HT0.out
    simp
    omega
  have HV1 : Hid ((M.todo [⟨1, dnx, 0, e⟩]).th.vals.length ≤ 999990 + 1) := by
    show _ ≤ _
    rw [th_todo HB0.out.c]
    have := HV0.out
    simp
    omega
  clear BB SS
  have y0 := HL1.out.h.cell 0
  have y1 := HL1.out.h.cell 1
  have y2 := HL1.out.h.cell 2
  have y3 := HL1.out.h.cell 3
  have y4 := HL1.out.h.cell 4
  have y5 := HL1.out.h.cell 5
  have y6 := HL1.out.h.cell 6
  have y7 := HL1.out.h.cell 7
  simp only [List.getElem?_toArray, List.getElem?_cons_succ, List.getElem?_cons_zero] at y0 y1 y2 y3 y4 y5 y6 y7
  have ly := HL1.out.h.lt
  obtain ⟨m, HM⟩ : ∃ m, Hid (M.todo [⟨1, dnx, 0, e⟩] = m) := ⟨_, rfl⟩
  rw [HM.out] at HB1 HT1 HV1 HZ HX
  obtain ⟨gt, x, hxx, ht, ⟨c5, c12, cg, l1, l2, l3, lc2, cl, t5⟩, O⟩ := HB1.out.r.cur HB1.out.c
  have c4 := O.b.has.cell 4
  simp only [thV, List.getElem?_toArray, List.getElem?_cons_succ, List.getElem?_cons_zero, Sl.v] at c4
  rw [HB1.out.s.br] at c5 c12 l1
  have e00 : (m.upT fun t => { t with tasks := m.th.tasks }) = m := by
    unfold MD.upT
    show ({ m with ths := m.ths.set m.cur m.th } : MD) = m
    have : m.ths.set m.cur m.th = m.ths := by
      obtain ⟨h1, h2⟩ := List.getElem?_eq_some_iff.1 ht
      rw [← h2, List.set_getElem_self]
    rw [this]
  obtain ⟨R, HR⟩ : ∃ R, Hid (brkT m.th.tasks = R) := ⟨_, rfl⟩
  rw [HR.out] at HX HZ
  have HI : Hid (BkI w A N root m x.b R m.th.tasks.length w1.drew.drew) :=
    ⟨A11, m.th.tasks, rfl, by have := HT1.out; omega, by rw [e00]; exact HB1.out.drew.drew.r, HB1.out.drew.drew.s, HR.out, x, hxx, rfl⟩
  have HC := hid HB1.out.c
  have HVL : Hid (m.th.vals.length ≤ 999991) := HV1.out
  obtain ⟨VL, HVLL⟩ : ∃ VL : Nat, Hid (m.th.vals.length = VL) := ⟨_, rfl⟩
  obtain ⟨LT, HLT⟩ : ∃ LT : Nat, Hid (m.ths.length = LT) := ⟨_, rfl⟩
  obtain ⟨cu, HCU⟩ : ∃ cu : Nat, Hid (m.cur = cu) := ⟨_, rfl⟩
  rw [HVLL.out] at c4
  rw [HLT.out] at c5 lc2 cl t5
  rw [HCU.out] at c12 cg cl
  clear O hxx ht e00 HB1 HL1 HL0 HB0 HB HFA
  go_wp2
  refine wp_region_tail 14 (by kernel_rfl) (by kernel_rfl) (fun _ _ _ _ _ h => h) ?_
  simp only [List.take_succ_cons, List.take_zero, List.drop_succ_cons, List.drop_zero]
  repeat go_big_quiet_step (fail)
  refine wpQuiet_nil ?_
  go_wp2_with fail
  refine wp_region_tail 10 (by kernel_rfl) (by kernel_rfl) (fun _ _ _ _ _ h => h) ?_
  simp only [List.take_succ_cons, List.take_zero, List.drop_succ_cons, List.drop_zero]
  repeat go_big_quiet_step (fail)
  refine wpQuiet_nil ?_
  go_wp2_with fail
  generalize w1.drew.drew = W9 at *
  obtain ⟨xb, HXB⟩ : ∃ xb, Hid (x.b = xb) := ⟨_, rfl⟩
  rw [HXB.out] at HI ⊢
  obtain ⟨n0, HN0⟩ : ∃ n0, Hid (m.th.tasks.length = n0) := ⟨_, rfl⟩
  rw [HN0.out] at HI
  clear c5 c12 cg l1 l2 l3 lc2 cl t5 c4 HXB y0 y1 y2 y3 y4 y5 y6 y7 ly
  go_loopg [] n0 (fun n wr => Hid (BkI w A N root m xb R n wr))
  case atStart => exact HI
  case round =>
    obtain ⟨A1', ts, rfl, hl6, R1, S1, hR, x1, hx1, hb1⟩ := hrel.out
    have hcl : (m.upT fun t => { t with tasks := ts }).cur < (m.upT fun t => { t with tasks := ts }).ths.length := by rw [upT_len]; exact HC.out
    have hth := upT_th HC.out (fun t => { t with tasks := ts })
    cases ts with
    | nil =>
      obtain ⟨gt1, y1, hy1, ht1, _, O1⟩ := R1.cur hcl
      have ey : y1 = x1 := Option.some.inj (hy1.symm.trans hx1)
      subst ey
      have c3 := O1.b.has.cell 3
      simp only [thV, List.getElem?_toArray, List.getElem?_cons_succ, List.getElem?_cons_zero, Sl.v] at c3
      rw [hth] at c3
      have lb9 := O1.b.has.lt
      rw [hb1] at c3 lb9
      have FIN : Hid (Q (.returned (.tuple #[])) wr) := by
        show Q _ _
        rw [← HQ.out]
        refine ⟨rfl, A1', ?_, S1⟩
        rw [HZ.out, ← hR]
        exact R1
      clear O1 R1 S1 hx1 hy1 ht1 hR hth hrel
      go_wp2_with fail
      go_end0
      exact FIN.out
    | cons k r =>
      have hkk : (m.upT fun t => { t with tasks := k :: r }).th.tasks = k :: r := by rw [hth]
      obtain ⟨g9, ga, gc, gl, lb9, c3, f3, t0, t1, t2, t3⟩ := R1.topK hcl hkk hx1
      have O1 := R1.one _ _ _ (th_cur hcl) hx1
      have c4 := O1.b.has.cell 4
      simp only [thV, List.getElem?_toArray, List.getElem?_cons_succ, List.getElem?_cons_zero, Sl.v, hth] at c4
      have f4 := O1.b.has.frozen 4
      rw [hb1] at lb9 c3 f3 c4 f4
      clear O1
      have HPK : Hid (∀ V, Fr (fun _ => False) wr V → ∃ A', MRep (V.setCell ⟨xb, 3, none⟩ (.slice (some ⟨g9, 0, none⟩) r.length x1.tk.c)) A' N root (m.upT fun t => { t with tasks := r }) ∧ MSt V A1' (V.setCell ⟨xb, 3, none⟩ (.slice (some ⟨g9, 0, none⟩) r.length x1.tk.c)) A' ∧ A'.X[m.cur]? = some x1) := fun V hV => by
        obtain ⟨A', q1, q2, q3⟩ := R1.popK hcl hkk hx1 ga hV
        rw [hb1] at q1 q2
        rw [upT_upT HC.out] at q1
        exact ⟨A', q1, q2, q3⟩
      obtain ⟨kk, kn, kx, ke⟩ := k
      dsimp only at t0 t1 t2 t3
      obtain ⟨ea9, HEA9⟩ : ∃ ea9, Hid (eAd A1'.E ke = ea9) := ⟨_, rfl⟩
      rw [HEA9.out] at t3
      have HOW := hid R1.own
      have HS1 := hid S1
      have HX1 := hid hx1
      have HB1 := hid hb1
      have HRR := hid hR
      obtain ⟨n', HNL⟩ : ∃ n' : Nat, Hid (r.length = n') := ⟨_, rfl⟩
      rw [HNL.out] at c3 t0 t1 t2 t3 gc HPK
      have k0 := fun z : WS wr => z.f.cell c3
      have k1 := fun z : WS wr => z.f.cell t0
      have k2 := fun z : WS wr => z.f.cell t1
      have k3 := fun z : WS wr => z.f.cell t2
      have k4 := fun z : WS wr => z.f.cell t3
      have NE := WS.non wr
      have e1 : (n' : Int) + 1 - 1 = n' := by omega
      have hpos : (0 : Int) < (n' : Int) + 1 := by omega
      have hnl : n' ≤ 1000000 := by rw [← HNL.out]; simp at hl6; omega
      clear R1 S1 hx1 hb1 hR hkk hth ga t0 t1 t2 t3
      go_wp2_with fail
      refine wp_region_head 12 1 (fun y => ∃ s : WS wr, y = s.y) (by kernel_rfl) (by kernel_rfl) (fun _ _ _ _ _ h => h) ⟨⟨wr.drew, (Fr.refl _ _).drew⟩, rfl⟩ ?_
      simp only [List.take_succ_cons, List.take_zero, List.drop_succ_cons, List.drop_zero]
      repeat go_big_quiet_step (fail)
      refine wpQuiet_nil ?_
      unfold wpChain
      go_wp2_with fail
      refine ⟨⟨⟨_, ((Fr.refl _ _).alloc _).drew⟩, rfl⟩, ?_⟩
      rw [wpChain_zero]
      go_wp2_with fail
      clear k0 k1 k2 k3 k4 NE
      have FV : Fr (fun _ => False) wr ((wr.alloc (.cells #[.int .i64 kk, .int .i64 kn, .int .i64 kx, .pointer ea9] 224)).drew) := ((Fr.refl _ _).alloc _).drew
      have LK := (LcB.new HOW.out #[.int .i64 kk, .int .i64 kn, .int .i64 kx, .pointer ea9] 224).fr (w1 := (wr.alloc (.cells #[.int .i64 kk, .int .i64 kn, .int .i64 kx, .pointer ea9] 224)).drew) ((Fr.refl _ _).drew)
      generalize (wr.alloc (.cells #[.int .i64 kk, .int .i64 kn, .int .i64 kx, .pointer ea9] 224)).drew = V at *
      obtain ⟨A2', R2, S2, hx2⟩ := HPK.out V FV
      have hb2 := HB1.out
      have c3V := FV.cell c3
      have lbV : xb < V.heap.size := Nat.lt_of_lt_of_le lb9 FV.size
      have glV : g9 < V.heap.size := Nat.lt_of_lt_of_le gl FV.size
      have f3V : V.frozen? ⟨xb, 3, none⟩ = false := by rw [FV.frz lb9]; exact f3
      obtain ⟨KB, HKB⟩ : ∃ KB, Hid (wr.heap.size = KB) := ⟨_, rfl⟩
      have nKB : KB ≠ xb := by rw [← HKB.out]; omega
      rw [HKB.out] at LK ⊢
      have S2' := HS1.out.trans ((MSt.fresh A1' FV).trans S2)
      have hcl2 : (m.upT fun t => { t with tasks := r }).cur < (m.upT fun t => { t with tasks := r }).ths.length := by rw [upT_len]; exact HC.out
      have d4' := FV.cell c4
      have f4V : V.frozen? ⟨xb, 4, none⟩ = false := by rw [FV.frz lb9]; exact f4
      have y0 := LK.h.cell 0
      have y1 := LK.h.cell 1
      have y2 := LK.h.cell 2
      simp only [List.getElem?_toArray, List.getElem?_cons_succ, List.getElem?_cons_zero] at y0 y1 y2
      have ly := LK.h.lt
      have nKB2 : xb ≠ KB := nKB.symm
      have HR2 := hid R2
      have HS2 := hid S2'
      have HX2 := hid hx2
      have HB2 := hid hb2
      clear LK R2 S2 S2' hx2 hb2 FV HPK c3 f3 c4 f4 lb9 gl HS1 hrel HX1 HB1
      by_cases h4 : kk = 4
      · subst h4
        have hRv : R = some (kx, r) := by
          have := HRR.out
          unfold brkT at this
          rw [if_pos rfl] at this
          exact this.symm
        have hkx := HX.out _ _ hRv
        have hth2 := upT_th HC.out (fun t => { t with tasks := r })
        have hfm := (HR2.out.one _ _ _ (th_cur hcl2) HX2.out).vl.form
        rw [hth2] at hfm
        dsimp only at hfm
        obtain ⟨A4, s1, s2, hx4⟩ : ∃ A4, MRep ((V.setCell ⟨xb, 3, none⟩ (.slice (some ⟨g9, 0, none⟩) n' x1.tk.c)).setCell ⟨xb, 4, none⟩ (.slice x1.vl.a kx x1.vl.c)) A4 N root (m.upT fun t => { t with tasks := r, vals := t.vals.take kx }) ∧ MSt (V.setCell ⟨xb, 3, none⟩ (.slice (some ⟨g9, 0, none⟩) n' x1.tk.c)) A2' ((V.setCell ⟨xb, 3, none⟩ (.slice (some ⟨g9, 0, none⟩) n' x1.tk.c)).setCell ⟨xb, 4, none⟩ (.slice x1.vl.a kx x1.vl.c)) A4 ∧ A4.X[m.cur]? = some x1 := by
          obtain ⟨B2, v1, v2, v3⟩ := HR2.out.cutV (th_cur hcl2) HX2.out kx (by rw [hth2]; exact hkx)
          have e5 : ({ (m.upT fun t => { t with tasks := r }) with ths := (m.upT fun t => { t with tasks := r }).ths.set m.cur { (m.upT fun t => { t with tasks := r }).th with vals := (m.upT fun t => { t with tasks := r }).th.vals.take kx } } : MD) = m.upT fun t => { t with tasks := r, vals := t.vals.take kx } := upT_upT HC.out _ (fun t => { t with vals := t.vals.take kx })
          rw [HB2.out] at v1 v2
          rw [← e5]
          exact ⟨B2, v1, v2, v3⟩
        have FIN : Hid (∀ W3, W3 = ((V.setCell ⟨xb, 3, none⟩ (.slice (some ⟨g9, 0, none⟩) n' x1.tk.c)).setCell ⟨xb, 4, none⟩ (.slice x1.vl.a kx x1.vl.c)).drew.drew → Q (.returned (.tuple #[])) W3) := fun W3 e => by
          subst e
          rw [← HQ.out, HZ.out, hRv]
          exact ⟨rfl, A4, s1.drew.drew, (HS2.out.trans s2).drew.drew⟩
        obtain ⟨M9, HMM⟩ : ∃ M9 : Nat, Hid (m.th.vals.length = M9) := ⟨_, rfl⟩
        have hM6 : M9 ≤ 999991 := by rw [← HMM.out]; exact HVL.out
        rw [HMM.out] at d4' hkx hfm
        clear s1 s2 hRv hth2 hx4
        rcases hfm with ⟨p0, p1, p2⟩ | ⟨gv, p0, p1⟩
        · subst p1
          obtain rfl : kx = 0 := by omega
          rw [p0, p2] at d4' FIN
          clear p0 p2
          go_wp2
          refine wp_region_tail 12 (by kernel_rfl) (by kernel_rfl) (fun _ _ _ _ _ h => h) ?_
          simp only [List.take_succ_cons, List.take_zero, List.drop_succ_cons, List.drop_zero]
          repeat go_big_quiet_step (fail)
          refine wpQuiet_nil ?_
          go_wp2_with fail
          refine wp_region_tail 8 (by kernel_rfl) (by kernel_rfl) (fun _ _ _ _ _ h => h) ?_
          simp only [List.take_succ_cons, List.take_zero, List.drop_succ_cons, List.drop_zero]
          repeat go_big_quiet_step (fail)
          refine wpQuiet_nil ?_
          go_wp2_with fail
          refine bodyPost_ret (results_none rfl _ _ _) rfl ?_
          exact FIN.out _ rfl
        · rw [p0] at d4' FIN
          clear p0
          go_wp2
          refine wp_region_tail 12 (by kernel_rfl) (by kernel_rfl) (fun _ _ _ _ _ h => h) ?_
          simp only [List.take_succ_cons, List.take_zero, List.drop_succ_cons, List.drop_zero]
          repeat go_big_quiet_step (fail)
          refine wpQuiet_nil ?_
          go_wp2_with fail
          refine wp_region_tail 8 (by kernel_rfl) (by kernel_rfl) (fun _ _ _ _ _ h => h) ?_
          simp only [List.take_succ_cons, List.take_zero, List.drop_succ_cons, List.drop_zero]
          repeat go_big_quiet_step (fail)
          refine wpQuiet_nil ?_
          go_wp2_with fail
          refine bodyPost_ret (results_none rfl _ _ _) rfl ?_
          exact FIN.out _ rfl
      · have b4 : ((kk : Int) == 4) = false := by rw [beq_eq_false_iff_ne]; omega
        have hR3 : brkT r = R := by
          have := HRR.out
          unfold brkT at this
          rw [if_neg h4] at this
          exact this
        have HR4 := hid hR3
        have hrl : r.length ≤ 1000000 := by rw [HNL.out]; omega
        have HRL := hid hrl
        clear h4 hR3 hrl
        go_wp2
        refine wp_region_tail 12 (by kernel_rfl) (by kernel_rfl) (fun _ _ _ _ _ h => h) ?_
        simp only [List.take_succ_cons, List.take_zero, List.drop_succ_cons, List.drop_zero]
        repeat go_big_quiet_step (fail)
        refine wpQuiet_nil ?_
        go_wp2_with fail
        go_roundg n'
        case measure => rw [← HNL.out]; simp
        case rel => exact ⟨_, r, HNL.out.symm, HRL.out, HR2.out.drew, HS2.out.drew, HR4.out, _, HX2.out, HB2.out⟩
end
end Go.Proofs.Qxb6500574aGreatDoor
