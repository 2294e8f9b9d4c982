/-
  THE WALKS of compm: ret.
-/
import Derived.Test.Qxb6500574aGreatDoorZC6
namespace Go.Proofs.Qxb6500574aGreatDoor
open Go Go.RowKit
set_option linter.unusedVariables false
set_option linter.unusedSimpArgs false
section
variable {w V : World} {A : RnP} {N : List Nd} {root j : Nat} {m : MD} {T : MTh} {x : XtP} {k : TkD} {r : List TkD}
def retR (m : MD) (a b : Vl) (R : Option (TkD × List TkD)) : MD := match R with
  | none => m.upT fun t => { t with tasks := [] }
  | some (k, r) =>
    let m1 := m.upT fun t => { t with tasks := r, depth := t.depth - 1, vals := t.vals.take k.x }
    if r = [] then (m1.upT fun t => { t with st := 5 }).back true a
    else m1.push (if k.n = 1 then [boolV true, a] else [a, b])
theorem ret_eq (m : MD) (a b : Vl) : m.ret a b = retR m a b (retT m.th.tasks) := rfl
/-- the loop of ret -/
def RtI (w : World) (A : RnP) (N : List Nd) (root : Nat) (m : MD) (xb Ba Bb : Nat) (a b : Vl) (R : Option (TkD × List TkD)) (n : Nat) (wr : World) : Prop :=
  ∃ A1 ts, n = ts.length ∧ ts.length ≤ 1000000 ∧ MRep wr A1 N root (m.upT fun t => { t with tasks := ts }) ∧ MSt w A wr A1 ∧ retT ts = R ∧ LcB wr A1 Ba #[.int .i64 a.t, .int .u64 a.n, sv a.s] 68 ∧ LcB wr A1 Bb #[.int .i64 b.t, .int .u64 b.n, sv b.s] 68 ∧ ∃ x1, A1.X[m.cur]? = some x1 ∧ x1.b = xb
/-- what a return leans on -/
structure RetOk (m : MD) : Prop where
  c : m.cur < m.ths.length
  tl : m.th.tasks.length ≤ 1000000
  vl : m.th.vals.length ≤ 999990
  d : ∀ k r, retT m.th.tasks = some (k, r) → 1 ≤ m.th.depth
  d8 : m.th.depth ≤ 1000
  x : ∀ k r, retT m.th.tasks = some (k, r) → k.x ≤ m.th.vals.length
  s : ∀ c r, m.stack = c :: r → c ≠ m.cur ∧ c < m.ths.length ∧ (m.ths.getD c mt0).vals.length ≤ 999999
set_option maxRecDepth 100000
set_option maxHeartbeats 1000000
theorem ret_m (h : MRep w A N root m) (K : RetOk m) (a b : Vl) (hw : wellV a = true) (hn : a.t = 2 → a.n < 18446744073709551616) :
    Calls Tryz.prog 115 #[.pointer (some ⟨A.br, 0, none⟩), a.val, b.val] w (PQm w A N root (m.ret a b)) := by
  obtain ⟨Q, HQ⟩ : ∃ Q : Ending → World → Prop, Hid (PQm w A N root (m.ret a b) = Q) := ⟨_, rfl⟩
  rw [HQ.out]
  have hc := K.c
  obtain ⟨gt, x, hxx, ht, ⟨c5, c12, cg, l1, l2, l3, lc, cl, t5⟩, O⟩ := h.cur hc
  obtain ⟨R, HR⟩ : ∃ R, Hid (retT m.th.tasks = R) := ⟨_, rfl⟩
  have HX := hid K.x
  have HD := hid K.d
  rw [HR.out] at HX HD
  have HST := hid K.s
  have HD8 := hid K.d8
  have HW := hid hw
  have HN := hid hn
  have e00 : (m.upT fun t => { t with tasks := m.th.tasks }) = m := by
    unfold MD.upT
    show ({ m with ths := m.ths.set m.cur m.th } : MD) = m
    have : m.ths.set m.cur m.th = m.ths := by
      obtain ⟨h1, h2⟩ := List.getElem?_eq_some_iff.1 ht
      rw [← h2, List.set_getElem_self]
    rw [this]
  have F0 : Fr (fun _ => False) w ((w.alloc (.cells #[.int .i64 a.t, .int .u64 a.n, sv a.s] 68)).alloc (.cells #[.int .i64 b.t, .int .u64 b.n, sv b.s] 68)).drew := (((Fr.refl _ _).alloc _).alloc _).drew
  have own1 : Ow (w.alloc (.cells #[.int .i64 a.t, .int .u64 a.n, sv a.s] 68)) A.o := (h.fresh ((Fr.refl _ _).alloc _)).own
  have HI : Hid (RtI w A N root m x.b w.heap.size (w.heap.size + 1) a b R m.th.tasks.length (((w.alloc (.cells #[.int .i64 a.t, .int .u64 a.n, sv a.s] 68)).alloc (.cells #[.int .i64 b.t, .int .u64 b.n, sv b.s] 68)).drew)) :=
    ⟨A, m.th.tasks, rfl, K.tl, by rw [e00]; exact h.fresh F0, MSt.fresh A F0, HR.out, (LcB.new h.own _ _).fr (((Fr.refl _ _).alloc _).drew), (LcB.newC own1 _ _ (by simp)).fr ((Fr.refl _ _).drew), x, hxx, rfl⟩
  have HC := hid hc
  have HVL := hid K.vl
  have HTR : Hid (m.ret a b = retR m a b R) := by show _ = _; rw [ret_eq, HR.out]
  obtain ⟨LT, HLT⟩ : ∃ LT : Nat, Hid (m.ths.length = LT) := ⟨_, rfl⟩
  obtain ⟨cu, HCU⟩ : ∃ cu : Nat, Hid (m.cur = cu) := ⟨_, rfl⟩
  rw [HLT.out] at c5 lc cl t5
  rw [HCU.out] at c12 cg cl
  clear h hc hw hn O hxx ht e00 HR F0 own1 K
  obtain ⟨vt, vn, vs⟩ := a
  obtain ⟨ut, un, us⟩ := b
  dsimp only at HI
  have d5 := fun p q => (((Fr.refl (fun _ => False) w).alloc p).alloc q).cell c5
  have d12 := fun p q => (((Fr.refl (fun _ => False) w).alloc p).alloc q).cell c12
  have dg := fun p q => (((Fr.refl (fun _ => False) w).alloc p).alloc q).cell cg
  go_enter Tryz.func115, Tryz.ntmps115
  go_wp2
  refine wp_region_tail 10 (by kernel_rfl) (by kernel_rfl) (fun _ _ _ _ _ h => h) ?_
  simp only [List.take_succ_cons, List.take_zero, List.drop_succ_cons, List.drop_zero]
  repeat go_big_quiet_step (fail)
  refine wpQuiet_nil ?_
  go_wp2_with fail
  generalize ((w.alloc (.cells #[.int .i64 vt, .int .u64 vn, sv vs] 68)).alloc (.cells #[.int .i64 ut, .int .u64 un, sv us] 68)).drew = W at *
  obtain ⟨Bb, HBb⟩ : ∃ B, Hid (w.heap.size + 1 = B) := ⟨_, rfl⟩
  rw [HBb.out] at HI ⊢
  obtain ⟨Ba, HBa⟩ : ∃ B, Hid (w.heap.size = B) := ⟨_, rfl⟩
  rw [HBa.out] at HI ⊢
  obtain ⟨xb, HXB⟩ : ∃ xb, Hid (x.b = xb) := ⟨_, rfl⟩
  rw [HXB.out] at HI ⊢
  obtain ⟨n0, HN0⟩ : ∃ n0, Hid (m.th.tasks.length = n0) := ⟨_, rfl⟩
  rw [HN0.out] at HI
  clear c5 c12 cg l1 l2 l3 lc cl t5 HBa HBb HXB d5 d12 dg
  go_loopg [] n0 (fun n wr => Hid (RtI w A N root m xb Ba Bb ⟨vt, vn, vs⟩ ⟨ut, un, us⟩ R n wr))
  case atStart => exact HI
  case round =>
    obtain ⟨A1, ts, rfl, hl6, R1, S1, hR, La1, Lb1, x1, hx1, hb1⟩ := hrel.out
    have hcl : (m.upT fun t => { t with tasks := ts }).cur < (m.upT fun t => { t with tasks := ts }).ths.length := by rw [upT_len]; exact HC.out
    have hth := upT_th HC.out (fun t => { t with tasks := ts })
    cases ts with
    | nil =>
      obtain ⟨gt1, y1, hy1, ht1, _, O1⟩ := R1.cur hcl
      have ey : y1 = x1 := Option.some.inj (hy1.symm.trans hx1)
      subst ey
      have c3 := O1.b.has.cell 3
      simp only [thV, List.getElem?_toArray, List.getElem?_cons_succ, List.getElem?_cons_zero, Sl.v] at c3
      rw [hth] at c3
      have lb := O1.b.has.lt
      rw [hb1] at c3 lb
      have FIN : Hid (Q (.returned (.tuple #[])) wr) := by
        show Q _ _
        rw [← HQ.out]
        refine ⟨rfl, A1, ?_, S1⟩
        rw [HTR.out, ← hR]
        exact R1
      clear O1 R1 S1 La1 Lb1 hx1 hy1 ht1 hR hth hrel
      go_wp2_with fail
      go_end0
      exact FIN.out
    | cons k r =>
      have hkk : (m.upT fun t => { t with tasks := k :: r }).th.tasks = k :: r := by rw [hth]
      obtain ⟨g, ga, gc, gl, lb, c3, f3, t0, t1, t2, t3⟩ := R1.topK hcl hkk hx1
      have O1 := R1.one _ _ _ (th_cur hcl) hx1
      have c2 := O1.b.has.cell 2
      have c4 := O1.b.has.cell 4
      have c0 := O1.b.has.cell 0
      simp only [thV, List.getElem?_toArray, List.getElem?_cons_succ, List.getElem?_cons_zero, Sl.v, hth] at c2 c4 c0
      have f2 := O1.b.has.frozen 2
      have f4 := O1.b.has.frozen 4
      have f0 := O1.b.has.frozen 0
      have lbx := O1.b.lb
      rw [hb1] at lb c3 f3 c2 c4 f2 f4 c0 f0 lbx
      have nBa : Ba ≠ xb := fun e => by have := La1.z; rw [e] at this; omega
      have nBb : Bb ≠ xb := fun e => by have := Lb1.z; rw [e] at this; omega
      have nBa2 : xb ≠ Ba := nBa.symm
      have nBb2 : xb ≠ Bb := nBb.symm
      clear O1 lbx
      have HPK : Hid (∀ V, Fr (fun _ => False) wr V → ∃ A', MRep (V.setCell ⟨xb, 3, none⟩ (.slice (some ⟨g, 0, none⟩) r.length x1.tk.c)) A' N root (m.upT fun t => { t with tasks := r }) ∧ MSt V A1 (V.setCell ⟨xb, 3, none⟩ (.slice (some ⟨g, 0, none⟩) r.length x1.tk.c)) A' ∧ A'.X[m.cur]? = some x1) := fun V hV => by
        obtain ⟨A', q1, q2, q3⟩ := R1.popK hcl hkk hx1 ga hV
        rw [hb1] at q1 q2
        rw [upT_upT HC.out] at q1
        exact ⟨A', q1, q2, q3⟩
      obtain ⟨kk, kn, kx, ke⟩ := k
      dsimp only at t0 t1 t2 t3
      obtain ⟨ea, HEA⟩ : ∃ ea, Hid (eAd A1.E ke = ea) := ⟨_, rfl⟩
      rw [HEA.out] at t3
      have HOW := hid R1.own
      have HS1 := hid S1
      have HLa1 := hid La1
      have HLb1 := hid Lb1
      have HX1 := hid hx1
      have HB1 := hid hb1
      have HRR := hid hR
      obtain ⟨n, HNL⟩ : ∃ n : Nat, Hid (r.length = n) := ⟨_, rfl⟩
      rw [HNL.out] at c3 t0 t1 t2 t3 gc HPK
      have k0 := fun z : WS wr => z.f.cell c3
      have k1 := fun z : WS wr => z.f.cell t0
      have k2 := fun z : WS wr => z.f.cell t1
      have k3 := fun z : WS wr => z.f.cell t2
      have k4 := fun z : WS wr => z.f.cell t3
      have NE := WS.non wr
      have e1 : (n : Int) + 1 - 1 = n := by omega
      have hpos : (0 : Int) < (n : Int) + 1 := by omega
      have hnl : n ≤ 1000000 := by rw [← HNL.out]; simp at hl6; omega
      clear R1 S1 La1 Lb1 hx1 hb1 hR hkk hth ga t0 t1 t2 t3
      go_wp2_with fail
      refine wp_region_head 12 1 (fun y => ∃ s : WS wr, y = s.y) (by kernel_rfl) (by kernel_rfl) (fun _ _ _ _ _ h => h) ⟨⟨wr.drew, (Fr.refl _ _).drew⟩, rfl⟩ ?_
      simp only [List.take_succ_cons, List.take_zero, List.drop_succ_cons, List.drop_zero]
      repeat go_big_quiet_step (fail)
      refine wpQuiet_nil ?_
      unfold wpChain
      go_wp2_with fail
      refine ⟨⟨⟨_, ((Fr.refl _ _).alloc _).drew⟩, rfl⟩, ?_⟩
      rw [wpChain_zero]
      go_wp2_with fail
      clear k0 k1 k2 k3 k4 NE
      have FV : Fr (fun _ => False) wr ((wr.alloc (.cells #[.int .i64 kk, .int .i64 kn, .int .i64 kx, .pointer ea] 224)).drew) := ((Fr.refl _ _).alloc _).drew
      have LK := (LcB.new HOW.out #[.int .i64 kk, .int .i64 kn, .int .i64 kx, .pointer ea] 224).fr (w1 := (wr.alloc (.cells #[.int .i64 kk, .int .i64 kn, .int .i64 kx, .pointer ea] 224)).drew) ((Fr.refl _ _).drew)
      generalize (wr.alloc (.cells #[.int .i64 kk, .int .i64 kn, .int .i64 kx, .pointer ea] 224)).drew = V at *
      obtain ⟨A2, R2, S2, hx2⟩ := HPK.out V FV
      have hb2 := HB1.out
      have c3V := FV.cell c3
      have lbV : xb < V.heap.size := Nat.lt_of_lt_of_le lb FV.size
      have glV : g < V.heap.size := Nat.lt_of_lt_of_le gl FV.size
      have f3V : V.frozen? ⟨xb, 3, none⟩ = false := by rw [FV.frz lb]; exact f3
      obtain ⟨KB, HKB⟩ : ∃ KB, Hid (wr.heap.size = KB) := ⟨_, rfl⟩
      have nKB : KB ≠ xb := by rw [← HKB.out]; omega
      rw [HKB.out] at LK ⊢
      obtain ⟨ya0, ya1, ya2⟩ := Has.cells3 (v := ⟨vt, vn, vs⟩) (HLa1.out.fr FV).h
      dsimp only at ya0 ya1 ya2
      have lya := (HLa1.out.fr FV).h.lt
      have La2 := (HLa1.out.fr FV).st S2
      have Lb2 := (HLb1.out.fr FV).st S2
      have S2' := HS1.out.trans ((MSt.fresh A1 FV).trans S2)
      have hcl2 : (m.upT fun t => { t with tasks := r }).cur < (m.upT fun t => { t with tasks := r }).ths.length := by rw [upT_len]; exact HC.out
      have d2 := FV.cell c2
      have d4 := FV.cell c4
      have d0 := FV.cell c0
      have f2V : V.frozen? ⟨xb, 2, none⟩ = false := by rw [FV.frz lb]; exact f2
      have f4V : V.frozen? ⟨xb, 4, none⟩ = false := by rw [FV.frz lb]; exact f4
      have f0V : V.frozen? ⟨xb, 0, none⟩ = false := by rw [FV.frz lb]; exact f0
      have y0 := LK.h.cell 0
      have y1 := LK.h.cell 1
      have y2 := LK.h.cell 2
      simp only [List.getElem?_toArray, List.getElem?_cons_succ, List.getElem?_cons_zero] at y0 y1 y2
      have ly := LK.h.lt
      have nKB2 : xb ≠ KB := nKB.symm
      have HR2 := hid R2
      have HS2 := hid S2'
      have HLa2 := hid La2
      have HLb2 := hid Lb2
      have HX2 := hid hx2
      have HB2 := hid hb2
      clear LK La2 Lb2 R2 S2 S2' hx2 hb2 FV HPK c3 f3 c2 c4 c0 f2 f4 f0 lb gl HLa1 HLb1 HS1 hrel HX1 HB1
      by_cases h3 : kk = 3
      · subst h3
        have hRv : R = some (⟨3, kn, kx, ke⟩, r) := by
          have := HRR.out
          unfold retT at this
          rw [if_pos rfl] at this
          exact this.symm
        have hkx := HX.out _ _ hRv
        dsimp only at hkx
        have hd1 := HD.out _ _ hRv
        have hd8 := HD8.out
        obtain ⟨d', hd'⟩ : ∃ d', m.th.depth = d' + 1 := ⟨m.th.depth - 1, by omega⟩
        rw [hd'] at d2 hd8
        have HD' := hid hd'
        have ed : ((d' + 1 : Nat) : Int) - 1 = d' := by omega
        have ed2 : (d' : Int) + 1 - 1 = d' := by omega
        have hth2 := upT_th HC.out (fun t => { t with tasks := r })
        have hfm := (HR2.out.one _ _ _ (th_cur hcl2) HX2.out).vl.form
        rw [hth2] at hfm
        dsimp only at hfm
        obtain ⟨A4, s1, s2, hx4⟩ : ∃ A4, MRep (((V.setCell ⟨xb, 3, none⟩ (.slice (some ⟨g, 0, none⟩) n x1.tk.c)).setCell ⟨xb, 2, none⟩ (.int .i64 d')).setCell ⟨xb, 4, none⟩ (.slice x1.vl.a kx x1.vl.c)) A4 N root (m.upT fun t => { t with tasks := r, depth := t.depth - 1, vals := t.vals.take kx }) ∧ MSt (V.setCell ⟨xb, 3, none⟩ (.slice (some ⟨g, 0, none⟩) n x1.tk.c)) A2 (((V.setCell ⟨xb, 3, none⟩ (.slice (some ⟨g, 0, none⟩) n x1.tk.c)).setCell ⟨xb, 2, none⟩ (.int .i64 d')).setCell ⟨xb, 4, none⟩ (.slice x1.vl.a kx x1.vl.c)) A4 ∧ A4.X[m.cur]? = some x1 := by
          obtain ⟨B1, u1, u2, u3⟩ := HR2.out.setDp (th_cur hcl2) HX2.out d'
          have hclB : ({ (m.upT fun t => { t with tasks := r }) with ths := (m.upT fun t => { t with tasks := r }).ths.set m.cur { (m.upT fun t => { t with tasks := r }).th with depth := d' } } : MD) = m.upT fun t => { t with tasks := r, depth := d' } := upT_upT HC.out _ (fun t => { t with depth := d' })
          have u1' : MRep ((V.setCell ⟨xb, 3, none⟩ (.slice (some ⟨g, 0, none⟩) n x1.tk.c)).setCell ⟨x1.b, 2, none⟩ (.int .i64 d')) B1 N root (m.upT fun t => { t with tasks := r, depth := d' }) := by rw [← hclB]; exact u1
          have hclC : (m.upT fun t => { t with tasks := r, depth := d' }).cur < (m.upT fun t => { t with tasks := r, depth := d' }).ths.length := by rw [upT_len]; exact HC.out
          have hthC := upT_th HC.out (fun t => { t with tasks := r, depth := d' })
          obtain ⟨B2, v1, v2, v3⟩ := u1'.cutV (th_cur hclC) u3 kx (by rw [hthC]; exact hkx)
          have e5 : ({ (m.upT fun t => { t with tasks := r, depth := d' }) with ths := (m.upT fun t => { t with tasks := r, depth := d' }).ths.set m.cur { (m.upT fun t => { t with tasks := r, depth := d' }).th with vals := (m.upT fun t => { t with tasks := r, depth := d' }).th.vals.take kx } } : MD) = m.upT fun t => { t with tasks := r, depth := t.depth - 1, vals := t.vals.take kx } := by
            rw [show ({ (m.upT fun t => { t with tasks := r, depth := d' }) with ths := (m.upT fun t => { t with tasks := r, depth := d' }).ths.set m.cur { (m.upT fun t => { t with tasks := r, depth := d' }).th with vals := (m.upT fun t => { t with tasks := r, depth := d' }).th.vals.take kx } } : MD) = m.upT fun t => { t with tasks := r, depth := d', vals := t.vals.take kx } from upT_upT HC.out _ (fun t => { t with vals := t.vals.take kx })]
            have hdd : m.th.depth - 1 = d' := by rw [HD'.out]; rfl
            show ({ m with ths := m.ths.set m.cur { m.th with tasks := r, depth := d', vals := m.th.vals.take kx } } : MD) = { m with ths := m.ths.set m.cur { m.th with tasks := r, depth := m.th.depth - 1, vals := m.th.vals.take kx } }
            rw [hdd]
          rw [HB2.out] at v1 v2 u2
          rw [← e5]
          exact ⟨B2, v1, u2.trans v2, v3⟩
        have HR4 := hid s1
        have HS4 := hid (HS2.out.trans s2)
        have HLa4 := hid (HLa2.out.st s2)
        have HLb4 := hid (HLb2.out.st s2)
        have HX4 := hid hx4
        have HRV := hid hRv
        obtain ⟨M, HMM⟩ : ∃ M : Nat, Hid (m.th.vals.length = M) := ⟨_, rfl⟩
        have hM6 : M ≤ 999990 := by rw [← HMM.out]; exact HVL.out
        rw [HMM.out] at d4 hkx hfm
        clear s1 s2 hRv hd1 hth2 hx4 hd'
        have FIN : Hid (∀ W3, W3 = ((((V.setCell ⟨xb, 3, none⟩ (.slice (some ⟨g, 0, none⟩) n x1.tk.c)).setCell ⟨xb, 2, none⟩ (.int .i64 d')).setCell ⟨xb, 4, none⟩ (.slice x1.vl.a kx x1.vl.c)).drew).drew → MRep W3 A4 N root (m.upT fun t => { t with tasks := r, depth := t.depth - 1, vals := t.vals.take kx }) ∧ MSt w A W3 A4 ∧ LcB W3 A4 Ba #[.int .i64 vt, .int .u64 vn, sv vs] 68 ∧ LcB W3 A4 Bb #[.int .i64 ut, .int .u64 un, sv us] 68) := fun W3 e => by
          subst e
          exact ⟨HR4.out.drew.drew, HS4.out.drew.drew, HLa4.out.fr (((Fr.refl _ _).drew).drew), HLb4.out.fr (((Fr.refl _ _).drew).drew)⟩
        rcases hfm with ⟨p0, p1, p2⟩ | ⟨gv, p0, p1⟩
        · subst p1
          obtain rfl : kx = 0 := by omega
          rw [p0, p2] at d4 FIN HR4 HS4 HLa4 HLb4
          clear p0 p2
          by_cases hr0 : r = []
          · subst hr0
            obtain rfl : n = 0 := HNL.out.symm
            have hcl4 : (m.upT fun t => { t with tasks := [], depth := t.depth - 1, vals := t.vals.take 0 }).cur < (m.upT fun t => { t with tasks := [], depth := t.depth - 1, vals := t.vals.take 0 }).ths.length := by rw [upT_len]; exact HC.out
            obtain ⟨A5, z1, z2, _⟩ := HR4.out.setSt (th_cur hcl4) HX4.out 5
            rw [HB2.out] at z1 z2
            have HZ1 : Hid (MRep (((((V.setCell ⟨xb, 3, none⟩ (.slice (some ⟨g, 0, none⟩) 0 x1.tk.c)).setCell ⟨xb, 2, none⟩ (.int .i64 d')).setCell ⟨xb, 4, none⟩ (.slice none 0 0)).setCell ⟨xb, 0, none⟩ (.int .i64 5)).drew.drew) A5 N root ((m.upT fun t => { t with tasks := [], depth := t.depth - 1, vals := t.vals.take 0 }).upT fun t => { t with st := 5 })) := z1.drew.drew
            have HZ2 : Hid (MSt w A (((((V.setCell ⟨xb, 3, none⟩ (.slice (some ⟨g, 0, none⟩) 0 x1.tk.c)).setCell ⟨xb, 2, none⟩ (.int .i64 d')).setCell ⟨xb, 4, none⟩ (.slice none 0 0)).setCell ⟨xb, 0, none⟩ (.int .i64 5)).drew.drew) A5) := (HS4.out.trans z2).drew.drew
            have LZ := ((HLa4.out.st z2).fr (((Fr.refl _ _).drew).drew))
            have HLZ : Hid (LcB (((((V.setCell ⟨xb, 3, none⟩ (.slice (some ⟨g, 0, none⟩) 0 x1.tk.c)).setCell ⟨xb, 2, none⟩ (.int .i64 d')).setCell ⟨xb, 4, none⟩ (.slice none 0 0)).setCell ⟨xb, 0, none⟩ (.int .i64 5)).drew.drew) A5 Ba #[.int .i64 vt, .int .u64 vn, sv vs] 68) := LZ
            have hss : ((m.upT fun t => { t with tasks := [], depth := t.depth - 1, vals := t.vals.take 0 }).upT fun t => { t with st := 5 }).stack = m.stack := rfl
            have CB : Calls Tryz.prog 190 #[.pointer (some ⟨A.br, 0, none⟩), .bool true, (⟨vt, vn, vs⟩ : Vl).val] (((((V.setCell ⟨xb, 3, none⟩ (.slice (some ⟨g, 0, none⟩) 0 x1.tk.c)).setCell ⟨xb, 2, none⟩ (.int .i64 d')).setCell ⟨xb, 4, none⟩ (.slice none 0 0)).setCell ⟨xb, 0, none⟩ (.int .i64 5)).drew.drew) (PQm (((((V.setCell ⟨xb, 3, none⟩ (.slice (some ⟨g, 0, none⟩) 0 x1.tk.c)).setCell ⟨xb, 2, none⟩ (.int .i64 d')).setCell ⟨xb, 4, none⟩ (.slice none 0 0)).setCell ⟨xb, 0, none⟩ (.int .i64 5)).drew.drew) A5 N root (((m.upT fun t => { t with tasks := [], depth := t.depth - 1, vals := t.vals.take 0 }).upT fun t => { t with st := 5 }).back true ⟨vt, vn, vs⟩)) := by
              rcases hss2 : m.stack with _ | ⟨c, r⟩
              · have := back_end HZ1.out (hss.trans hss2) true ⟨vt, vn, vs⟩ HW.out HN.out
                rw [HZ2.out.br] at this
                exact this
              · obtain ⟨w1, w2, w3⟩ := HST.out c r hss2
                have := back_on HZ1.out (hss.trans hss2) (by rw [upT_len, upT_len]; exact w2) (by rw [upT_ne (by exact w1), upT_ne w1]; exact w3) true ⟨vt, vn, vs⟩
                rw [HZ2.out.br] at this
                exact this
            have HCB := hid CB
            clear CB z1 z2 LZ hcl4 hss
            go_wp2
            refine wp_region_tail 12 (by kernel_rfl) (by kernel_rfl) (fun _ _ _ _ _ h => h) ?_
            simp only [List.take_succ_cons, List.take_zero, List.drop_succ_cons, List.drop_zero]
            repeat go_big_quiet_step (fail)
            refine wpQuiet_nil ?_
            go_wp2_with fail
            refine wp_region_tail 8 (by kernel_rfl) (by kernel_rfl) (fun _ _ _ _ _ h => h) ?_
            simp only [List.take_succ_cons, List.take_zero, List.drop_succ_cons, List.drop_zero]
            repeat go_big_quiet_step (fail)
            refine wpQuiet_nil ?_
            go_wp2_with fail
            refine HCB.out.mono ?_
            rintro e w5 ⟨rfl, A6, r1, r2⟩
            have FIN2 : Hid (Q (.returned (.tuple #[])) w5) := by
              show Q _ _
              rw [← HQ.out]
              refine ⟨rfl, A6, ?_, HZ2.out.trans r2⟩
              rw [HTR.out, HRV.out]
              exact r1
            clear r1 r2
            go_wp2
            refine bodyPost_ret (results_none rfl _ _ _) rfl ?_
            exact FIN2.out
          · have hn0 : n ≠ 0 := fun e => hr0 (List.length_eq_zero_iff.1 (by rw [HNL.out]; exact e))
            have bn0 : ((n : Int) == 0) = false := by rw [beq_eq_false_iff_ne]; omega
            have hcl4 : (m.upT fun t => { t with tasks := r, depth := t.depth - 1, vals := t.vals.take 0 }).cur < (m.upT fun t => { t with tasks := r, depth := t.depth - 1, vals := t.vals.take 0 }).ths.length := by rw [upT_len]; exact HC.out
            have hvl4 : (m.upT fun t => { t with tasks := r, depth := t.depth - 1, vals := t.vals.take 0 }).th.vals.length ≤ 999990 := by rw [upT_th HC.out]; have := HVL.out; simp <;> omega
            have HRE : Hid (m.ret ⟨vt, vn, vs⟩ ⟨ut, un, us⟩ = (m.upT fun t => { t with tasks := r, depth := t.depth - 1, vals := t.vals.take 0 }).push (if kn = 1 then [boolV true, ⟨vt, vn, vs⟩] else [⟨vt, vn, vs⟩, ⟨ut, un, us⟩])) := by
              show _ = _
              rw [HTR.out, HRV.out]
              unfold retR
              dsimp only
              rw [if_neg hr0]
            have HCL4 := hid hcl4
            have HVL4 := hid hvl4
            clear hr0 hn0 hcl4 hvl4
            by_cases hn1 : kn = 1
            · subst hn1
              rw [if_pos rfl] at HRE
              go_wp2
              refine wp_region_tail 12 (by kernel_rfl) (by kernel_rfl) (fun _ _ _ _ _ h => h) ?_
              simp only [List.take_succ_cons, List.take_zero, List.drop_succ_cons, List.drop_zero]
              repeat go_big_quiet_step (fail)
              refine wpQuiet_nil ?_
              go_wp2_with fail
              refine wp_region_tail 8 (by kernel_rfl) (by kernel_rfl) (fun _ _ _ _ _ h => h) ?_
              simp only [List.take_succ_cons, List.take_zero, List.drop_succ_cons, List.drop_zero]
              repeat go_big_quiet_step (fail)
              refine wpQuiet_nil ?_
              go_wp2_with fail
              obtain ⟨f1, f2, f3, f4⟩ := FIN.out _ rfl
              have HF1 := hid f1
              have HF2 := hid f2
              have HF3 := hid f3
              have HF4 := hid f4
              clear f1 f2 f3 f4 FIN d0 f0V d2 d4 f2V f4V y0 y1 y2 ly c3V lbV glV f3V HR4 HS4 HLa4 HLb4 HR2 HS2 HLa2 HLb2 ya0 ya1 ya2 lya
              generalize (((V.setCell ⟨xb, 3, none⟩ (.slice (some ⟨g, 0, none⟩) n x1.tk.c)).setCell ⟨xb, 2, none⟩ (.int .i64 d')).setCell ⟨xb, 4, none⟩ (.slice none 0 0)).drew.drew = W3 at *
              have C1 := push_m HF1.out HCL4.out (boolV true) (by have := HVL4.out; omega)
              rw [HF2.out.br] at C1
              refine C1.mono ?_
              rintro e w4 ⟨rfl, A5, r1, r2⟩
              have hcl5 : ((m.upT fun t => { t with tasks := r, depth := t.depth - 1, vals := t.vals.take 0 }).push [boolV true]).cur < ((m.upT fun t => { t with tasks := r, depth := t.depth - 1, vals := t.vals.take 0 }).push [boolV true]).ths.length := by unfold MD.push; rw [upT_len]; exact HCL4.out
              have hvl5 : ((m.upT fun t => { t with tasks := r, depth := t.depth - 1, vals := t.vals.take 0 }).push [boolV true]).th.vals.length ≤ 1000000 := by unfold MD.push; rw [upT_th HCL4.out]; have := HVL4.out; show (_ ++ [_]).length ≤ _; rw [List.length_append]; show _ + 1 ≤ _; omega
              have C2 := push_m r1 hcl5 ⟨vt, vn, vs⟩ hvl5
              rw [up_push _ _ _ HCL4.out, r2.br, HF2.out.br] at C2
              have LB5 := HF3.out.st r2
              obtain ⟨q0, q1, q2⟩ := Has.cells3 (v := ⟨vt, vn, vs⟩) LB5.h
              dsimp only at q0 q1 q2
              have lq := LB5.h.lt
              have HC2 := hid C2
              have HS5 := hid (HF2.out.trans r2)
              clear C1 C2 r1 r2 LB5 hcl5 hvl5
              go_wp2_with fail
              refine HC2.out.mono ?_
              rintro e w5 ⟨rfl, A6, r1, r2⟩
              have FIN2 : Hid (Q (.returned (.tuple #[])) w5) := by
                show Q _ _
                rw [← HQ.out]
                refine ⟨rfl, A6, ?_, HS5.out.trans r2⟩
                rw [HRE.out]
                exact r1
              clear r1 r2 q0 q1 q2 lq
              go_wp2
              refine bodyPost_ret (results_none rfl _ _ _) rfl ?_
              exact FIN2.out
            · rw [if_neg hn1] at HRE
              have bn1 : ((kn : Int) == 1) = false := by rw [beq_eq_false_iff_ne]; omega
              clear hn1
              go_wp2
              refine wp_region_tail 12 (by kernel_rfl) (by kernel_rfl) (fun _ _ _ _ _ h => h) ?_
              simp only [List.take_succ_cons, List.take_zero, List.drop_succ_cons, List.drop_zero]
              repeat go_big_quiet_step (fail)
              refine wpQuiet_nil ?_
              go_wp2_with fail
              refine wp_region_tail 8 (by kernel_rfl) (by kernel_rfl) (fun _ _ _ _ _ h => h) ?_
              simp only [List.take_succ_cons, List.take_zero, List.drop_succ_cons, List.drop_zero]
              repeat go_big_quiet_step (fail)
              refine wpQuiet_nil ?_
              obtain ⟨f1, f2, f3, f4⟩ := FIN.out _ rfl
              go_wp2_with fail
              have HF1 := hid f1
              have HF2 := hid f2
              have HF3 := hid f3
              have HF4 := hid f4
              clear f1 f2 f3 f4 FIN d0 f0V d2 d4 f2V f4V y0 y1 y2 ly c3V lbV glV f3V HR4 HS4 HLa4 HLb4 HR2 HS2 HLa2 HLb2 ya0 ya1 ya2 lya
              generalize (((V.setCell ⟨xb, 3, none⟩ (.slice (some ⟨g, 0, none⟩) n x1.tk.c)).setCell ⟨xb, 2, none⟩ (.int .i64 d')).setCell ⟨xb, 4, none⟩ (.slice none 0 0)).drew.drew = W3 at *
              have C1 := push_m HF1.out HCL4.out (⟨vt, vn, vs⟩) (by have := HVL4.out; omega)
              rw [HF2.out.br] at C1
              refine C1.mono ?_
              rintro e w4 ⟨rfl, A5, r1, r2⟩
              have hcl5 : ((m.upT fun t => { t with tasks := r, depth := t.depth - 1, vals := t.vals.take 0 }).push [⟨vt, vn, vs⟩]).cur < ((m.upT fun t => { t with tasks := r, depth := t.depth - 1, vals := t.vals.take 0 }).push [⟨vt, vn, vs⟩]).ths.length := by unfold MD.push; rw [upT_len]; exact HCL4.out
              have hvl5 : ((m.upT fun t => { t with tasks := r, depth := t.depth - 1, vals := t.vals.take 0 }).push [⟨vt, vn, vs⟩]).th.vals.length ≤ 1000000 := by unfold MD.push; rw [upT_th HCL4.out]; have := HVL4.out; show (_ ++ [_]).length ≤ _; rw [List.length_append]; show _ + 1 ≤ _; omega
              have C2 := push_m r1 hcl5 ⟨ut, un, us⟩ hvl5
              rw [up_push _ _ _ HCL4.out, r2.br, HF2.out.br] at C2
              have LB5 := HF4.out.st r2
              obtain ⟨q0, q1, q2⟩ := Has.cells3 (v := ⟨ut, un, us⟩) LB5.h
              dsimp only at q0 q1 q2
              have lq := LB5.h.lt
              have HC2 := hid C2
              have HS5 := hid (HF2.out.trans r2)
              clear C1 C2 r1 r2 LB5 hcl5 hvl5
              go_wp2_with fail
              refine HC2.out.mono ?_
              rintro e w5 ⟨rfl, A6, r1, r2⟩
              have FIN2 : Hid (Q (.returned (.tuple #[])) w5) := by
                show Q _ _
                rw [← HQ.out]
                refine ⟨rfl, A6, ?_, HS5.out.trans r2⟩
                rw [HRE.out]
                exact r1
              clear r1 r2 q0 q1 q2 lq
              go_wp2
              refine bodyPost_ret (results_none rfl _ _ _) rfl ?_
              exact FIN2.out
        · rw [p0] at d4 FIN HR4 HS4 HLa4 HLb4
          clear p0
          by_cases hr0 : r = []
          · subst hr0
            obtain rfl : n = 0 := HNL.out.symm
            have hcl4 : (m.upT fun t => { t with tasks := [], depth := t.depth - 1, vals := t.vals.take kx }).cur < (m.upT fun t => { t with tasks := [], depth := t.depth - 1, vals := t.vals.take kx }).ths.length := by rw [upT_len]; exact HC.out
            obtain ⟨A5, z1, z2, _⟩ := HR4.out.setSt (th_cur hcl4) HX4.out 5
            rw [HB2.out] at z1 z2
            have HZ1 : Hid (MRep (((((V.setCell ⟨xb, 3, none⟩ (.slice (some ⟨g, 0, none⟩) 0 x1.tk.c)).setCell ⟨xb, 2, none⟩ (.int .i64 d')).setCell ⟨xb, 4, none⟩ (.slice (some ⟨gv, 0, none⟩) kx x1.vl.c)).setCell ⟨xb, 0, none⟩ (.int .i64 5)).drew.drew) A5 N root ((m.upT fun t => { t with tasks := [], depth := t.depth - 1, vals := t.vals.take kx }).upT fun t => { t with st := 5 })) := z1.drew.drew
            have HZ2 : Hid (MSt w A (((((V.setCell ⟨xb, 3, none⟩ (.slice (some ⟨g, 0, none⟩) 0 x1.tk.c)).setCell ⟨xb, 2, none⟩ (.int .i64 d')).setCell ⟨xb, 4, none⟩ (.slice (some ⟨gv, 0, none⟩) kx x1.vl.c)).setCell ⟨xb, 0, none⟩ (.int .i64 5)).drew.drew) A5) := (HS4.out.trans z2).drew.drew
            have LZ := ((HLa4.out.st z2).fr (((Fr.refl _ _).drew).drew))
            have HLZ : Hid (LcB (((((V.setCell ⟨xb, 3, none⟩ (.slice (some ⟨g, 0, none⟩) 0 x1.tk.c)).setCell ⟨xb, 2, none⟩ (.int .i64 d')).setCell ⟨xb, 4, none⟩ (.slice (some ⟨gv, 0, none⟩) kx x1.vl.c)).setCell ⟨xb, 0, none⟩ (.int .i64 5)).drew.drew) A5 Ba #[.int .i64 vt, .int .u64 vn, sv vs] 68) := LZ
            have hss : ((m.upT fun t => { t with tasks := [], depth := t.depth - 1, vals := t.vals.take kx }).upT fun t => { t with st := 5 }).stack = m.stack := rfl
            have CB : Calls Tryz.prog 190 #[.pointer (some ⟨A.br, 0, none⟩), .bool true, (⟨vt, vn, vs⟩ : Vl).val] (((((V.setCell ⟨xb, 3, none⟩ (.slice (some ⟨g, 0, none⟩) 0 x1.tk.c)).setCell ⟨xb, 2, none⟩ (.int .i64 d')).setCell ⟨xb, 4, none⟩ (.slice (some ⟨gv, 0, none⟩) kx x1.vl.c)).setCell ⟨xb, 0, none⟩ (.int .i64 5)).drew.drew) (PQm (((((V.setCell ⟨xb, 3, none⟩ (.slice (some ⟨g, 0, none⟩) 0 x1.tk.c)).setCell ⟨xb, 2, none⟩ (.int .i64 d')).setCell ⟨xb, 4, none⟩ (.slice (some ⟨gv, 0, none⟩) kx x1.vl.c)).setCell ⟨xb, 0, none⟩ (.int .i64 5)).drew.drew) A5 N root (((m.upT fun t => { t with tasks := [], depth := t.depth - 1, vals := t.vals.take kx }).upT fun t => { t with st := 5 }).back true ⟨vt, vn, vs⟩)) := by
              rcases hss2 : m.stack with _ | ⟨c, r⟩
              · have := back_end HZ1.out (hss.trans hss2) true ⟨vt, vn, vs⟩ HW.out HN.out
                rw [HZ2.out.br] at this
                exact this
              · obtain ⟨w1, w2, w3⟩ := HST.out c r hss2
                have := back_on HZ1.out (hss.trans hss2) (by rw [upT_len, upT_len]; exact w2) (by rw [upT_ne (by exact w1), upT_ne w1]; exact w3) true ⟨vt, vn, vs⟩
                rw [HZ2.out.br] at this
                exact this
            have HCB := hid CB
            clear CB z1 z2 LZ hcl4 hss
            go_wp2
            refine wp_region_tail 12 (by kernel_rfl) (by kernel_rfl) (fun _ _ _ _ _ h => h) ?_
            simp only [List.take_succ_cons, List.take_zero, List.drop_succ_cons, List.drop_zero]
            repeat go_big_quiet_step (fail)
            refine wpQuiet_nil ?_
            go_wp2_with fail
            refine wp_region_tail 8 (by kernel_rfl) (by kernel_rfl) (fun _ _ _ _ _ h => h) ?_
            simp only [List.take_succ_cons, List.take_zero, List.drop_succ_cons, List.drop_zero]
            repeat go_big_quiet_step (fail)
            refine wpQuiet_nil ?_
            go_wp2_with fail
            refine HCB.out.mono ?_
            rintro e w5 ⟨rfl, A6, r1, r2⟩
            have FIN2 : Hid (Q (.returned (.tuple #[])) w5) := by
              show Q _ _
              rw [← HQ.out]
              refine ⟨rfl, A6, ?_, HZ2.out.trans r2⟩
              rw [HTR.out, HRV.out]
              exact r1
            clear r1 r2
            go_wp2
            refine bodyPost_ret (results_none rfl _ _ _) rfl ?_
            exact FIN2.out
          · have hn0 : n ≠ 0 := fun e => hr0 (List.length_eq_zero_iff.1 (by rw [HNL.out]; exact e))
            have bn0 : ((n : Int) == 0) = false := by rw [beq_eq_false_iff_ne]; omega
            have hcl4 : (m.upT fun t => { t with tasks := r, depth := t.depth - 1, vals := t.vals.take kx }).cur < (m.upT fun t => { t with tasks := r, depth := t.depth - 1, vals := t.vals.take kx }).ths.length := by rw [upT_len]; exact HC.out
            have hvl4 : (m.upT fun t => { t with tasks := r, depth := t.depth - 1, vals := t.vals.take kx }).th.vals.length ≤ 999990 := by rw [upT_th HC.out]; have := HVL.out; simp <;> omega
            have HRE : Hid (m.ret ⟨vt, vn, vs⟩ ⟨ut, un, us⟩ = (m.upT fun t => { t with tasks := r, depth := t.depth - 1, vals := t.vals.take kx }).push (if kn = 1 then [boolV true, ⟨vt, vn, vs⟩] else [⟨vt, vn, vs⟩, ⟨ut, un, us⟩])) := by
              show _ = _
              rw [HTR.out, HRV.out]
              unfold retR
              dsimp only
              rw [if_neg hr0]
            have HCL4 := hid hcl4
            have HVL4 := hid hvl4
            clear hr0 hn0 hcl4 hvl4
            by_cases hn1 : kn = 1
            · subst hn1
              rw [if_pos rfl] at HRE
              go_wp2
              refine wp_region_tail 12 (by kernel_rfl) (by kernel_rfl) (fun _ _ _ _ _ h => h) ?_
              simp only [List.take_succ_cons, List.take_zero, List.drop_succ_cons, List.drop_zero]
              repeat go_big_quiet_step (fail)
              refine wpQuiet_nil ?_
              go_wp2_with fail
              refine wp_region_tail 8 (by kernel_rfl) (by kernel_rfl) (fun _ _ _ _ _ h => h) ?_
              simp only [List.take_succ_cons, List.take_zero, List.drop_succ_cons, List.drop_zero]
              repeat go_big_quiet_step (fail)
              refine wpQuiet_nil ?_
              go_wp2_with fail
              obtain ⟨f1, f2, f3, f4⟩ := FIN.out _ rfl
              have HF1 := hid f1
              have HF2 := hid f2
              have HF3 := hid f3
              have HF4 := hid f4
              clear f1 f2 f3 f4 FIN d0 f0V d2 d4 f2V f4V y0 y1 y2 ly c3V lbV glV f3V HR4 HS4 HLa4 HLb4 HR2 HS2 HLa2 HLb2 ya0 ya1 ya2 lya
              generalize (((V.setCell ⟨xb, 3, none⟩ (.slice (some ⟨g, 0, none⟩) n x1.tk.c)).setCell ⟨xb, 2, none⟩ (.int .i64 d')).setCell ⟨xb, 4, none⟩ (.slice (some ⟨gv, 0, none⟩) kx x1.vl.c)).drew.drew = W3 at *
              have C1 := push_m HF1.out HCL4.out (boolV true) (by have := HVL4.out; omega)
              rw [HF2.out.br] at C1
              refine C1.mono ?_
              rintro e w4 ⟨rfl, A5, r1, r2⟩
              have hcl5 : ((m.upT fun t => { t with tasks := r, depth := t.depth - 1, vals := t.vals.take kx }).push [boolV true]).cur < ((m.upT fun t => { t with tasks := r, depth := t.depth - 1, vals := t.vals.take kx }).push [boolV true]).ths.length := by unfold MD.push; rw [upT_len]; exact HCL4.out
              have hvl5 : ((m.upT fun t => { t with tasks := r, depth := t.depth - 1, vals := t.vals.take kx }).push [boolV true]).th.vals.length ≤ 1000000 := by unfold MD.push; rw [upT_th HCL4.out]; have := HVL4.out; show (_ ++ [_]).length ≤ _; rw [List.length_append]; show _ + 1 ≤ _; omega
              have C2 := push_m r1 hcl5 ⟨vt, vn, vs⟩ hvl5
              rw [up_push _ _ _ HCL4.out, r2.br, HF2.out.br] at C2
              have LB5 := HF3.out.st r2
              obtain ⟨q0, q1, q2⟩ := Has.cells3 (v := ⟨vt, vn, vs⟩) LB5.h
              dsimp only at q0 q1 q2
              have lq := LB5.h.lt
              have HC2 := hid C2
              have HS5 := hid (HF2.out.trans r2)
              clear C1 C2 r1 r2 LB5 hcl5 hvl5
              go_wp2_with fail
              refine HC2.out.mono ?_
              rintro e w5 ⟨rfl, A6, r1, r2⟩
              have FIN2 : Hid (Q (.returned (.tuple #[])) w5) := by
                show Q _ _
                rw [← HQ.out]
                refine ⟨rfl, A6, ?_, HS5.out.trans r2⟩
                rw [HRE.out]
                exact r1
              clear r1 r2 q0 q1 q2 lq
              go_wp2
              refine bodyPost_ret (results_none rfl _ _ _) rfl ?_
              exact FIN2.out
            · rw [if_neg hn1] at HRE
              have bn1 : ((kn : Int) == 1) = false := by rw [beq_eq_false_iff_ne]; omega
              clear hn1
              go_wp2
              refine wp_region_tail 12 (by kernel_rfl) (by kernel_rfl) (fun _ _ _ _ _ h => h) ?_
              simp only [List.take_succ_cons, List.take_zero, List.drop_succ_cons, List.drop_zero]
              repeat go_big_quiet_step (fail)
              refine wpQuiet_nil ?_
              go_wp2_with fail
              refine wp_region_tail 8 (by kernel_rfl) (by kernel_rfl) (fun _ _ _ _ _ h => h) ?_
              simp only [List.take_succ_cons, List.take_zero, List.drop_succ_cons, List.drop_zero]
              repeat go_big_quiet_step (fail)
              refine wpQuiet_nil ?_
              obtain ⟨f1, f2, f3, f4⟩ := FIN.out _ rfl
              go_wp2_with fail
              have HF1 := hid f1
              have HF2 := hid f2
              have HF3 := hid f3
              have HF4 := hid f4
              clear f1 f2 f3 f4 FIN d0 f0V d2 d4 f2V f4V y0 y1 y2 ly c3V lbV glV f3V HR4 HS4 HLa4 HLb4 HR2 HS2 HLa2 HLb2 ya0 ya1 ya2 lya
              generalize (((V.setCell ⟨xb, 3, none⟩ (.slice (some ⟨g, 0, none⟩) n x1.tk.c)).setCell ⟨xb, 2, none⟩ (.int .i64 d')).setCell ⟨xb, 4, none⟩ (.slice (some ⟨gv, 0, none⟩) kx x1.vl.c)).drew.drew = W3 at *
              have C1 := push_m HF1.out HCL4.out (⟨vt, vn, vs⟩) (by have := HVL4.out; omega)
              rw [HF2.out.br] at C1
              refine C1.mono ?_
              rintro e w4 ⟨rfl, A5, r1, r2⟩
              have hcl5 : ((m.upT fun t => { t with tasks := r, depth := t.depth - 1, vals := t.vals.take kx }).push [⟨vt, vn, vs⟩]).cur < ((m.upT fun t => { t with tasks := r, depth := t.depth - 1, vals := t.vals.take kx }).push [⟨vt, vn, vs⟩]).ths.length := by unfold MD.push; rw [upT_len]; exact HCL4.out
              have hvl5 : ((m.upT fun t => { t with tasks := r, depth := t.depth - 1, vals := t.vals.take kx }).push [⟨vt, vn, vs⟩]).th.vals.length ≤ 1000000 := by unfold MD.push; rw [upT_th HCL4.out]; have := HVL4.out; show (_ ++ [_]).length ≤ _; rw [List.length_append]; show _ + 1 ≤ _; omega
              have C2 := push_m r1 hcl5 ⟨ut, un, us⟩ hvl5
              rw [up_push _ _ _ HCL4.out, r2.br, HF2.out.br] at C2
              have LB5 := HF4.out.st r2
              obtain ⟨q0, q1, q2⟩ := Has.cells3 (v := ⟨ut, un, us⟩) LB5.h
              dsimp only at q0 q1 q2
              have lq := LB5.h.lt
              have HC2 := hid C2
              have HS5 := hid (HF2.out.trans r2)
              clear C1 C2 r1 r2 LB5 hcl5 hvl5
              go_wp2_with fail
              refine HC2.out.mono ?_
              rintro e w5 ⟨rfl, A6, r1, r2⟩
              have FIN2 : Hid (Q (.returned (.tuple #[])) w5) := by
                show Q _ _
                rw [← HQ.out]
                refine ⟨rfl, A6, ?_, HS5.out.trans r2⟩
                rw [HRE.out]
                exact r1
              clear r1 r2 q0 q1 q2 lq
              go_wp2
              refine bodyPost_ret (results_none rfl _ _ _) rfl ?_
              exact FIN2.out
      · have b3 : ((kk : Int) != 3) = true := by rw [bne_iff_ne]; omega
        have hR3 : retT r = R := by
          have := HRR.out
          unfold retT at this
          rw [if_neg h3] at this
          exact this
        have HR4 := hid hR3
        have hrl : r.length ≤ 1000000 := by rw [HNL.out]; omega
        have HRL := hid hrl
        clear h3 hR3 hrl
        go_wp2
        refine wp_region_tail 12 (by kernel_rfl) (by kernel_rfl) (fun _ _ _ _ _ h => h) ?_
        simp only [List.take_succ_cons, List.take_zero, List.drop_succ_cons, List.drop_zero]
        repeat go_big_quiet_step (fail)
        refine wpQuiet_nil ?_
        go_wp2_with fail
        go_roundg n
        case measure => rw [← HNL.out]; simp
        case rel => exact ⟨_, r, HNL.out.symm, HRL.out, HR2.out.drew, HS2.out.drew, HR4.out, HLa2.out.fr ((Fr.refl _ _).drew), HLb2.out.fr ((Fr.refl _ _).drew), _, HX2.out, HB2.out⟩
end
end Go.Proofs.Qxb6500574aGreatDoor
