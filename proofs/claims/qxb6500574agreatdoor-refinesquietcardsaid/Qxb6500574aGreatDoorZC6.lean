/-
  THE WALKS of compm: throw, raise.
-/
import Derived.Test.Qxb6500574aGreatDoorZC5
import Derived.Deep.LoopGhost
import Derived.Test.Qxb6500574aGreatDoorZI1
namespace Go.Proofs.Qxb6500574aGreatDoor
open Go Go.RowKit
set_option linter.unusedVariables false
set_option linter.unusedSimpArgs false
section
variable {w V : World} {A : RnP} {N : List Nd} {root j : Nat} {m : MD} {T : MTh} {x : XtP} {k : TkD} {r : List TkD}
theorem th_cur {m : MD} (hc : m.cur < m.ths.length) : m.ths[m.cur]? = some m.th := by
  unfold MD.th
  rw [List.getD_eq_getElem?_getD, List.getElem?_eq_getElem hc]
  rfl
theorem upT_th {m : MD} (hc : m.cur < m.ths.length) (f : MTh → MTh) : (m.upT f).th = f m.th := by
  show ((m.ths.set m.cur (f m.th)).getD m.cur mt0) = f m.th
  rw [List.getD_eq_getElem?_getD, List.getElem?_set_self hc]
  rfl
theorem upT_len (m : MD) (f : MTh → MTh) : (m.upT f).ths.length = m.ths.length := List.length_set ..
theorem upT_upT {m : MD} (hc : m.cur < m.ths.length) (f g : MTh → MTh) : (m.upT f).upT g = m.upT (fun t => g (f t)) := by
  have e := upT_th hc f
  show ({ m.upT f with ths := (m.upT f).ths.set m.cur (g (m.upT f).th) } : MD) = _
  rw [e]
  show ({ m with ths := (m.ths.set m.cur (f m.th)).set m.cur (g (f m.th)) } : MD) = _
  rw [List.set_set]
  rfl
theorem upT_ne {m : MD} {f : MTh → MTh} {c : Nat} (h : c ≠ m.cur) : (m.upT f).ths.getD c mt0 = m.ths.getD c mt0 := by
  show (m.ths.set m.cur (f m.th)).getD c mt0 = _
  rw [List.getD_eq_getElem?_getD, List.getElem?_set_ne (fun e => h e.symm), List.getD_eq_getElem?_getD]
/-- the top task: its cells -/
theorem MRep.topK (h : MRep w A N root m) (hc : m.cur < m.ths.length) (hk : m.th.tasks = k :: r) (hx : A.X[m.cur]? = some x) :
    ∃ g, x.tk.a = some ⟨g, 0, none⟩ ∧ r.length + 1 ≤ x.tk.c ∧ g < w.heap.size ∧ x.b < w.heap.size ∧ w.cell? ⟨x.b, 3, none⟩ = some (.slice (some ⟨g, 0, none⟩) (r.length + 1) x.tk.c) ∧ w.frozen? ⟨x.b, 3, none⟩ = false ∧
      w.cell? ⟨g, r.length * 4, none⟩ = some (.int .i64 k.k) ∧ w.cell? ⟨g, r.length * 4 + 1, none⟩ = some (.int .i64 k.n) ∧ w.cell? ⟨g, r.length * 4 + 2, none⟩ = some (.int .i64 k.x) ∧ w.cell? ⟨g, r.length * 4 + 3, none⟩ = some (.pointer (eAd A.E k.e)) := by
  have O := h.one _ _ _ (th_cur hc) hx
  have tk := O.tk
  have hb := O.b.has
  have c3 := hb.cell 3
  simp only [thV, List.getElem?_toArray, List.getElem?_cons_succ, List.getElem?_cons_zero, Sl.v] at c3
  rw [hk] at tk c3
  obtain ⟨g, ga, gc, _, gl, gx, _⟩ := tk.cells (by simp)
  rw [ga] at c3
  have a : ∀ i, i < 4 → w.cell? ⟨g, r.length * 4 + i, none⟩ = (tkV A.E k)[i]? := fun i hi => by
    rw [gx _ (by simp; omega)]
    exact flatMap_at _ 4 (tkV_len A.E) _ r.length i k (by simp) hi
  exact ⟨g, ga, gc, gl, hb.lt, c3, hb.frozen 3, a 0 (by omega), a 1 (by omega), a 2 (by omega), a 3 (by omega)⟩
theorem MRep.popK (h : MRep w A N root m) (hc : m.cur < m.ths.length) (hk : m.th.tasks = k :: r) (hx : A.X[m.cur]? = some x) {g : Nat} (ga : x.tk.a = some ⟨g, 0, none⟩) (f : Fr (fun _ => False) w V) :
    ∃ A', MRep (V.setCell ⟨x.b, 3, none⟩ (.slice (some ⟨g, 0, none⟩) r.length x.tk.c)) A' N root (m.upT fun t => { t with tasks := r }) ∧ MSt V A (V.setCell ⟨x.b, 3, none⟩ (.slice (some ⟨g, 0, none⟩) r.length x.tk.c)) A' ∧ A'.X[m.cur]? = some x := by
  obtain ⟨A', q1, q2, q3⟩ := (h.fresh f).cutT (th_cur hc) hk hx
  rw [ga] at q1 q2
  exact ⟨A', q1, q2, q3⟩
def throwR (m : MD) (v : Vl) (R : Option (List TkD × Nat × Nat) × Nat) : MD := match R with
  | (some (r, x, d), _) => m.upT fun t => { t with tasks := r, depth := d, vals := t.vals.take x ++ [boolV false, v] }
  | (none, d) => (m.upT fun t => { t with tasks := [], depth := d, st := 5, vals := [] }).back false v
theorem throw_eq (m : MD) (v : Vl) : m.throw v = throwR m v (thrT m.th.tasks m.th.depth) := rfl
/-- the loop of throw -/
def ThI (w : World) (A : RnP) (N : List Nd) (root : Nat) (m : MD) (xb B : Nat) (v : Vl) (R : Option (List TkD × Nat × Nat) × Nat) (n : Nat) (wr : World) : Prop :=
  ∃ A1 ts d, n = ts.length ∧ ts.length ≤ 1000000 ∧ MRep wr A1 N root (m.upT fun t => { t with tasks := ts, depth := d }) ∧ MSt w A wr A1 ∧ thrT ts d = R ∧ ft ts ≤ d ∧ d ≤ 1000 ∧ LcB wr A1 B #[.int .i64 v.t, .int .u64 v.n, sv v.s] 68 ∧ ∃ x1, A1.X[m.cur]? = some x1 ∧ x1.b = xb
set_option maxRecDepth 100000
set_option maxHeartbeats 1000000
theorem throw_m (h : MRep w A N root m) (hc : m.cur < m.ths.length) (v : Vl) (hw : wellV v = true) (hn : v.t = 2 → v.n < 18446744073709551616) (hl : m.th.tasks.length ≤ 1000000) (hvl : m.th.vals.length ≤ 999990) (hd : ft m.th.tasks ≤ m.th.depth) (hd8 : m.th.depth ≤ 1000)
    (hx : ∀ r x e d', thrT m.th.tasks m.th.depth = (some (r, x, e), d') → x ≤ m.th.vals.length) (hst : ∀ c r, m.stack = c :: r → c ≠ m.cur ∧ c < m.ths.length ∧ (m.ths.getD c mt0).vals.length ≤ 999999) :
    Calls Tryz.prog 191 #[.pointer (some ⟨A.br, 0, none⟩), v.val] w (PQm w A N root (m.throw v)) := by
  obtain ⟨Q, HQ⟩ : ∃ Q : Ending → World → Prop, Hid (PQm w A N root (m.throw v) = Q) := ⟨_, rfl⟩
  rw [HQ.out]
  obtain ⟨gt, x, hxx, ht, ⟨c5, c12, cg, l1, l2, l3, lc, cl, t5⟩, O⟩ := h.cur hc
  obtain ⟨R, HR⟩ : ∃ R, Hid (thrT m.th.tasks m.th.depth = R) := ⟨_, rfl⟩
  have HX := hid hx
  rw [HR.out] at HX
  have HST := hid hst
  have HW := hid hw
  have HN := hid hn
  have e00 : (m.upT fun t => { t with tasks := m.th.tasks, depth := m.th.depth }) = m := by
    unfold MD.upT
    show ({ m with ths := m.ths.set m.cur m.th } : MD) = m
    have : m.ths.set m.cur m.th = m.ths := by
      obtain ⟨h1, h2⟩ := List.getElem?_eq_some_iff.1 ht
      rw [← h2, List.set_getElem_self]
    rw [this]
  have HI : Hid (ThI w A N root m x.b w.heap.size v R m.th.tasks.length ((w.alloc (.cells #[.int .i64 v.t, .int .u64 v.n, sv v.s] 68)).drew)) :=
    ⟨A, m.th.tasks, m.th.depth, rfl, hl, by rw [e00]; exact (h.fresh ((Fr.refl _ _).alloc _)).drew, (MSt.fresh A ((Fr.refl _ _).alloc _)).drew, HR.out, hd, hd8, (LcB.new h.own _ _).fr ((Fr.refl _ _).drew), x, hxx, rfl⟩
  have HC := hid hc
  have HVL := hid hvl
  have HTR : Hid (m.throw v = throwR m v R) := by show _ = _; rw [throw_eq, HR.out]
  obtain ⟨LT, HLT⟩ : ∃ LT : Nat, Hid (m.ths.length = LT) := ⟨_, rfl⟩
  obtain ⟨cu, HCU⟩ : ∃ cu : Nat, Hid (m.cur = cu) := ⟨_, rfl⟩
  rw [HLT.out] at c5 lc cl t5
  rw [HCU.out] at c12 cg cl
  have HBR : Hid (∀ W A1, MSt w A W A1 → A1.br = A.br) := fun W A1 s => s.br
  clear h hc hx hst hw hn O hxx ht e00 hd hd8 HR hvl hl
  obtain ⟨vt, vn, vs⟩ := v
  dsimp only at HI
  go_enter Tryz.func191, Tryz.ntmps191
  go_wp2
  refine wp_region_tail 10 (by kernel_rfl) (by kernel_rfl) (fun _ _ _ _ _ h => h) ?_
  simp only [List.take_succ_cons, List.take_zero, List.drop_succ_cons, List.drop_zero]
  repeat go_big_quiet_step (fail)
  refine wpQuiet_nil ?_
  go_wp2_with fail
  generalize (w.alloc (.cells #[.int .i64 vt, .int .u64 vn, sv vs] 68)).drew = W at *
  obtain ⟨B, HB⟩ : ∃ B, Hid (w.heap.size = B) := ⟨_, rfl⟩
  have HBL : Hid (w.heap.size ≤ B) := by show _ ≤ _; rw [HB.out]; exact Nat.le_refl _
  rw [HB.out] at HI ⊢
  obtain ⟨xb, HXB⟩ : ∃ xb, Hid (x.b = xb) := ⟨_, rfl⟩
  rw [HXB.out] at HI ⊢
  obtain ⟨n0, HN0⟩ : ∃ n0, Hid (m.th.tasks.length = n0) := ⟨_, rfl⟩
  rw [HN0.out] at HI
  clear c5 c12 cg l1 l2 l3 lc cl t5 HB HXB
  go_loopg [] n0 (fun n wr => Hid (ThI w A N root m xb B ⟨vt, vn, vs⟩ R n wr))
  case atStart => exact HI
  case round =>
    obtain ⟨A1, ts, d, rfl, hl6, R1, S1, hR, hft, hd8, L1, x1, hx1, hb1⟩ := hrel.out
    have hcl : (m.upT fun t => { t with tasks := ts, depth := d }).cur < (m.upT fun t => { t with tasks := ts, depth := d }).ths.length := by rw [upT_len]; exact HC.out
    have hth := upT_th HC.out (fun t => { t with tasks := ts, depth := d })
    have ebr := S1.br
    cases ts with
    | nil =>
      -- nobody catches it
      obtain ⟨gt1, y1, hy1, ht1, _, O1⟩ := R1.cur hcl
      have ey : y1 = x1 := Option.some.inj (hy1.symm.trans hx1)
      subst ey
      have c3 := O1.b.has.cell 3
      simp only [thV, List.getElem?_toArray, List.getElem?_cons_succ, List.getElem?_cons_zero, Sl.v] at c3
      rw [hth] at c3
      have c0 := O1.b.has.cell 0
      have c4 := O1.b.has.cell 4
      simp only [thV, List.getElem?_toArray, List.getElem?_cons_succ, List.getElem?_cons_zero, Sl.v] at c0 c4
      have f0 := O1.b.has.frozen 0
      have f4 := O1.b.has.frozen 4
      have lb := O1.b.has.lt
      rw [hb1] at c3 c0 c4 f0 f4 lb
      -- the thread is dead
      obtain ⟨p1, p2⟩ := O1.b.put 0 (.int .i64 5) (cs' := thV y1 { (m.upT fun t => { t with tasks := [], depth := d }).th with st := 5 }) rfl
      obtain ⟨q1, q2⟩ := p1.put 4 (.slice none 0 0) (cs' := thV { y1 with vl := sl0 } { (m.upT fun t => { t with tasks := [], depth := d }).th with st := 5, vals := [] }) rfl
      have e2 : ({ (m.upT fun t => { t with tasks := [], depth := d }) with ths := (m.upT fun t => { t with tasks := [], depth := d }).ths.set m.cur { (m.upT fun t => { t with tasks := [], depth := d }).th with st := 5, vals := [] } } : MD) = m.upT fun t => { t with tasks := [], depth := d, st := 5, vals := [] } := upT_upT HC.out _ (fun t => { t with st := 5, vals := [] })
      obtain ⟨A3, s1', s2⟩ : ∃ A3, MRep ((wr.setCell ⟨y1.b, 0, none⟩ (.int .i64 5)).setCell ⟨y1.b, 4, none⟩ (.slice none 0 0)) A3 N root (m.upT fun t => { t with tasks := [], depth := d, st := 5, vals := [] }) ∧ MSt wr A1 ((wr.setCell ⟨y1.b, 0, none⟩ (.int .i64 5)).setCell ⟨y1.b, 4, none⟩ (.slice none 0 0)) A3 := by
        rw [← e2]
        exact ⟨_, R1.turn ht1 hx1 ((p2.trans q2).weaken (fun l hl => .inl hl)) (x' := { y1 with vl := sl0 }) (T' := { (m.upT fun t => { t with tasks := [], depth := d }).th with st := 5, vals := [] }) ⟨q1, (O1.tk.st p2 (by omega)).st q2 (by omega), Row.nil _ _ _ _ _⟩ rfl⟩
      rw [hb1] at s1' s2
      have HS1 := hid s1'
      have HS2 := hid (S1.trans s2)
      have LB := hid (L1.st s2)
      have HRd : Hid (R = (none, d)) := hR.symm
      have HEB := hid ((S1.trans s2).br)
      obtain ⟨y0, y1', y2⟩ := Has.cells3 (v := ⟨vt, vn, vs⟩) LB.out.h
      dsimp only at y0 y1' y2
      have ly := LB.out.h.lt
      clear O1 R1 S1 L1 p1 p2 q1 q2 s1' s2 e2 hx1 hy1 ht1 hR hft hth hrel
      go_wp2_with fail
      have CB : Calls Tryz.prog 190 #[.pointer (some ⟨A.br, 0, none⟩), .bool false, (⟨vt, vn, vs⟩ : Vl).val] ((wr.setCell ⟨xb, 0, none⟩ (.int .i64 5)).setCell ⟨xb, 4, none⟩ (.slice none 0 0)) (PQm ((wr.setCell ⟨xb, 0, none⟩ (.int .i64 5)).setCell ⟨xb, 4, none⟩ (.slice none 0 0)) A3 N root ((m.upT fun t => { t with tasks := [], depth := d, st := 5, vals := [] }).back false ⟨vt, vn, vs⟩)) := by
        rcases hss : m.stack with _ | ⟨c, r⟩
        · have := back_end HS1.out (show (m.upT fun t => { t with tasks := [], depth := d, st := 5, vals := [] }).stack = [] from hss) false ⟨vt, vn, vs⟩ HW.out HN.out
          rw [HEB.out] at this
          exact this
        · obtain ⟨z1, z2, z3⟩ := HST.out c r hss
          have := back_on HS1.out (show (m.upT fun t => { t with tasks := [], depth := d, st := 5, vals := [] }).stack = c :: r from hss) (by rw [upT_len]; exact z2) (by rw [upT_ne z1]; exact z3) false ⟨vt, vn, vs⟩
          rw [HEB.out] at this
          exact this
      refine CB.mono ?_
      rintro e w5 ⟨rfl, A5, r1, r2⟩
      have FIN : Hid (Q (.returned (.tuple #[])) w5) := by
        show Q _ _
        rw [← HQ.out]
        refine ⟨rfl, A5, ?_, HS2.out.trans r2⟩
        rw [HTR.out, HRd.out]
        exact r1
      clear r1 r2 y0 y1' y2 ly CB c0 c3 c4 f0 f4 lb
      go_wp2
      go_end0
      exact FIN.out
    | cons k r =>
      have hkk : (m.upT fun t => { t with tasks := k :: r, depth := d }).th.tasks = k :: r := by rw [hth]
      obtain ⟨g, ga, gc, gl, lb, c3, f3, t0, t1, t2, t3⟩ := R1.topK hcl hkk hx1
      have O1 := R1.one _ _ _ (th_cur hcl) hx1
      have c2 := O1.b.has.cell 2
      have c4 := O1.b.has.cell 4
      simp only [thV, List.getElem?_toArray, List.getElem?_cons_succ, List.getElem?_cons_zero, Sl.v, hth] at c2 c4
      have f2 := O1.b.has.frozen 2
      have f4 := O1.b.has.frozen 4
      rw [hb1] at lb c3 f3 c2 c4 f2 f4
      clear O1
      have HPK : Hid (∀ V, Fr (fun _ => False) wr V → ∃ A', MRep (V.setCell ⟨xb, 3, none⟩ (.slice (some ⟨g, 0, none⟩) r.length x1.tk.c)) A' N root (m.upT fun t => { t with tasks := r, depth := d }) ∧ MSt V A1 (V.setCell ⟨xb, 3, none⟩ (.slice (some ⟨g, 0, none⟩) r.length x1.tk.c)) A' ∧ A'.X[m.cur]? = some x1) := fun V hV => by
        obtain ⟨A', q1, q2, q3⟩ := R1.popK hcl hkk hx1 ga hV
        rw [hb1] at q1 q2
        rw [upT_upT HC.out] at q1
        exact ⟨A', q1, q2, q3⟩
      obtain ⟨kk, kn, kx, ke⟩ := k
      dsimp only at t0 t1 t2 t3
      obtain ⟨ea, HEA⟩ : ∃ ea, Hid (eAd A1.E ke = ea) := ⟨_, rfl⟩
      rw [HEA.out] at t3
      have HOW := hid R1.own
      have HS1 := hid S1
      have HL1 := hid L1
      have HX1 := hid hx1
      have HB1 := hid hb1
      have hft2 := hft
      rw [ft_cons] at hft2
      dsimp only at hft2
      have HRR := hid hR
      obtain ⟨n, HNL⟩ : ∃ n : Nat, Hid (r.length = n) := ⟨_, rfl⟩
      rw [HNL.out] at c3 t0 t1 t2 t3 gc HPK
      have k0 := fun z : WS wr => z.f.cell c3
      have k1 := fun z : WS wr => z.f.cell t0
      have k2 := fun z : WS wr => z.f.cell t1
      have k3 := fun z : WS wr => z.f.cell t2
      have k4 := fun z : WS wr => z.f.cell t3
      have NE := WS.non wr
      have e1 : (n : Int) + 1 - 1 = n := by omega
      have hpos : (0 : Int) < (n : Int) + 1 := by omega
      have hnl : n ≤ 1000000 := by rw [← HNL.out]; simp at hl6; omega
      clear R1 S1 L1 hx1 hb1 hft hR hkk hth ga t0 t1 t2 t3
      go_wp2_with fail
      refine wp_region_head 12 1 (fun y => ∃ s : WS wr, y = s.y) (by kernel_rfl) (by kernel_rfl) (fun _ _ _ _ _ h => h) ⟨⟨wr.drew, (Fr.refl _ _).drew⟩, rfl⟩ ?_
      simp only [List.take_succ_cons, List.take_zero, List.drop_succ_cons, List.drop_zero]
      repeat go_big_quiet_step (fail)
      refine wpQuiet_nil ?_
      unfold wpChain
      go_wp2_with fail
      refine ⟨⟨⟨_, ((Fr.refl _ _).alloc _).drew⟩, rfl⟩, ?_⟩
      rw [wpChain_zero]
      go_wp2_with fail
      clear k0 k1 k2 k3 k4 NE
      have FV : Fr (fun _ => False) wr ((wr.alloc (.cells #[.int .i64 kk, .int .i64 kn, .int .i64 kx, .pointer ea] 224)).drew) := ((Fr.refl _ _).alloc _).drew
      have LK := (LcB.new HOW.out #[.int .i64 kk, .int .i64 kn, .int .i64 kx, .pointer ea] 224).fr (w1 := (wr.alloc (.cells #[.int .i64 kk, .int .i64 kn, .int .i64 kx, .pointer ea] 224)).drew) ((Fr.refl _ _).drew)
      generalize (wr.alloc (.cells #[.int .i64 kk, .int .i64 kn, .int .i64 kx, .pointer ea] 224)).drew = V at *
      obtain ⟨A2, R2, S2, hx2⟩ := HPK.out V FV
      have hb2 := HB1.out
      have c3V := FV.cell c3
      have lbV : xb < V.heap.size := Nat.lt_of_lt_of_le lb FV.size
      have glV : g < V.heap.size := Nat.lt_of_lt_of_le gl FV.size
      have f3V : V.frozen? ⟨xb, 3, none⟩ = false := by rw [FV.frz lb]; exact f3
      obtain ⟨KB, HKB⟩ : ∃ KB, Hid (wr.heap.size = KB) := ⟨_, rfl⟩
      have nKB : KB ≠ xb := by rw [← HKB.out]; omega
      rw [HKB.out] at LK ⊢
      have LK2 := LK.st S2
      have L2 := (HL1.out.fr FV).st S2
      have S2' := HS1.out.trans ((MSt.fresh A1 FV).trans S2)
      have hcl2 : (m.upT fun t => { t with tasks := r, depth := d }).cur < (m.upT fun t => { t with tasks := r, depth := d }).ths.length := by rw [upT_len]; exact HC.out
      have hth2 := upT_th HC.out (fun t => { t with tasks := r, depth := d })
      have d2 := FV.cell c2
      have d4 := FV.cell c4
      have f2V : V.frozen? ⟨xb, 2, none⟩ = false := by rw [FV.frz lb]; exact f2
      have f4V : V.frozen? ⟨xb, 4, none⟩ = false := by rw [FV.frz lb]; exact f4
      have y0 := LK.h.cell 0
      have y1 := LK.h.cell 1
      have y2 := LK.h.cell 2
      simp only [List.getElem?_toArray, List.getElem?_cons_succ, List.getElem?_cons_zero] at y0 y1 y2
      have ly := LK.h.lt
      have nKB2 : xb ≠ KB := nKB.symm
      have HR2 := hid R2
      have HS2 := hid S2'
      have HL2 := hid L2
      have HX2 := hid hx2
      have HB2 := hid hb2
      clear LK LK2 L2 R2 S2 S2' hx2 hb2 FV HPK c3 f3 c2 c4 f2 f4 lb gl HL1 HS1 hrel HX1 HB1
      by_cases h3 : kk = 3
      · subst h3
        have hd1 : 1 ≤ d := by simp at hft2; omega
        obtain ⟨d', rfl⟩ : ∃ d', d = d' + 1 := ⟨d - 1, by omega⟩
        have ed : ((d' + 1 : Nat) : Int) - 1 = d' := by omega
        have ed2 : (d' : Int) + 1 - 1 = d' := by omega
        obtain ⟨A3, s1, s2, hx3⟩ : ∃ A3, MRep ((V.setCell ⟨xb, 3, none⟩ (.slice (some ⟨g, 0, none⟩) n x1.tk.c)).setCell ⟨xb, 2, none⟩ (.int .i64 d')) A3 N root (m.upT fun t => { t with tasks := r, depth := d' }) ∧ MSt (V.setCell ⟨xb, 3, none⟩ (.slice (some ⟨g, 0, none⟩) n x1.tk.c)) A2 ((V.setCell ⟨xb, 3, none⟩ (.slice (some ⟨g, 0, none⟩) n x1.tk.c)).setCell ⟨xb, 2, none⟩ (.int .i64 d')) A3 ∧ A3.X[m.cur]? = some x1 := by
          have e3 : ({ (m.upT fun t => { t with tasks := r, depth := d' + 1 }) with ths := (m.upT fun t => { t with tasks := r, depth := d' + 1 }).ths.set m.cur { (m.upT fun t => { t with tasks := r, depth := d' + 1 }).th with depth := d' } } : MD) = m.upT fun t => { t with tasks := r, depth := d' } := upT_upT HC.out _ (fun t => { t with depth := d' })
          have h9 := HR2.out.setDp (th_cur hcl2) HX2.out d'
          rw [HB2.out] at h9
          rw [← e3]
          exact h9
        have HR3 := hid s1
        have HS3 := hid (HS2.out.trans s2)
        have HL3 := hid (HL2.out.st s2)
        have HX3 := hid hx3
        have HB3 := HB2
        clear s1 s2 hx3
        by_cases hn1 : kn = 1
        · subst hn1
          have hRv : R = (some (r, kx, d'), d') := by
            have := HRR.out
            unfold thrT at this
            rw [if_pos rfl, if_pos rfl] at this
            exact this.symm
          have hkx := HX.out _ _ _ _ hRv
          have hth3 := upT_th HC.out (fun t => { t with tasks := r, depth := d' })
          have hcl3 : (m.upT fun t => { t with tasks := r, depth := d' }).cur < (m.upT fun t => { t with tasks := r, depth := d' }).ths.length := by rw [upT_len]; exact HC.out
          obtain ⟨A4, s1, s2, hx4⟩ : ∃ A4, MRep (((V.setCell ⟨xb, 3, none⟩ (.slice (some ⟨g, 0, none⟩) n x1.tk.c)).setCell ⟨xb, 2, none⟩ (.int .i64 d')).setCell ⟨xb, 4, none⟩ (.slice x1.vl.a kx x1.vl.c)) A4 N root (m.upT fun t => { t with tasks := r, depth := d', vals := t.vals.take kx }) ∧ MSt ((V.setCell ⟨xb, 3, none⟩ (.slice (some ⟨g, 0, none⟩) n x1.tk.c)).setCell ⟨xb, 2, none⟩ (.int .i64 d')) A3 (((V.setCell ⟨xb, 3, none⟩ (.slice (some ⟨g, 0, none⟩) n x1.tk.c)).setCell ⟨xb, 2, none⟩ (.int .i64 d')).setCell ⟨xb, 4, none⟩ (.slice x1.vl.a kx x1.vl.c)) A4 ∧ A4.X[m.cur]? = some x1 := by
            have e3 : ({ (m.upT fun t => { t with tasks := r, depth := d' }) with ths := (m.upT fun t => { t with tasks := r, depth := d' }).ths.set m.cur { (m.upT fun t => { t with tasks := r, depth := d' }).th with vals := (m.upT fun t => { t with tasks := r, depth := d' }).th.vals.take kx } } : MD) = m.upT fun t => { t with tasks := r, depth := d', vals := t.vals.take kx } := upT_upT HC.out _ (fun t => { t with vals := t.vals.take kx })
            have h9 := HR3.out.cutV (th_cur hcl3) HX3.out kx (by rw [hth3]; exact hkx)
            rw [HB2.out] at h9
            rw [← e3]
            exact h9
          have HR4 := hid s1
          have HS4 := hid (HS3.out.trans s2)
          have HL4 := hid (HL3.out.st s2)
          have HRV := hid hRv
          have hfm := (HR3.out.one _ _ _ (th_cur hcl3) HX3.out).vl.form
          rw [hth3] at hfm
          dsimp only at hfm
          obtain ⟨M, HMM⟩ : ∃ M : Nat, Hid (m.th.vals.length = M) := ⟨_, rfl⟩
          have hM6 : M ≤ 999990 := by rw [← HMM.out]; exact HVL.out
          rw [HMM.out] at d4 hkx hfm
          clear s1 s2 hRv hcl3 hth3
          -- behind the cut
          have FIN : Hid (∀ W3, W3 = ((((V.setCell ⟨xb, 3, none⟩ (.slice (some ⟨g, 0, none⟩) n x1.tk.c)).setCell ⟨xb, 2, none⟩ (.int .i64 d')).setCell ⟨xb, 4, none⟩ (.slice x1.vl.a kx x1.vl.c)).drew).drew → MRep W3 A4 N root (m.upT fun t => { t with tasks := r, depth := d', vals := t.vals.take kx }) ∧ MSt w A W3 A4 ∧ LcB W3 A4 B #[.int .i64 vt, .int .u64 vn, sv vs] 68) := fun W3 e => by
            subst e
            exact ⟨HR4.out.drew.drew, HS4.out.drew.drew, HL4.out.fr (((Fr.refl _ _).drew).drew)⟩
          rcases hfm with ⟨p0, p1, p2⟩ | ⟨gv, p0, p1⟩
          · subst p1
            obtain rfl : kx = 0 := by omega
            rw [p0, p2] at d4 FIN
            clear p0 p2
            go_wp2
            refine wp_region_tail 12 (by kernel_rfl) (by kernel_rfl) (fun _ _ _ _ _ h => h) ?_
            simp only [List.take_succ_cons, List.take_zero, List.drop_succ_cons, List.drop_zero]
            repeat go_big_quiet_step (fail)
            refine wpQuiet_nil ?_
            go_wp2_with fail
            refine wp_region_tail 8 (by kernel_rfl) (by kernel_rfl) (fun _ _ _ _ _ h => h) ?_
            simp only [List.take_succ_cons, List.take_zero, List.drop_succ_cons, List.drop_zero]
            repeat go_big_quiet_step (fail)
            refine wpQuiet_nil ?_
            go_wp2_with fail
            obtain ⟨f1, f2, f3⟩ := FIN.out _ rfl
            have HF1 := hid f1
            have HF2 := hid f2
            have HF3 := hid f3
            clear f1 f2 f3 FIN d2 d4 f2V f4V y0 y1 y2 ly c3V lbV glV f3V HR4 HS4 HL4 HR3 HS3 HL3 HR2 HS2 HL2
            generalize ((((V.setCell ⟨xb, 3, none⟩ (.slice (some ⟨g, 0, none⟩) n x1.tk.c)).setCell ⟨xb, 2, none⟩ (.int .i64 d')).setCell ⟨xb, 4, none⟩ (.slice none 0 0)).drew).drew = W3 at *
            have hth4 := upT_th HC.out (fun t => { t with tasks := r, depth := d', vals := t.vals.take 0 })
            have hcl4 : (m.upT fun t => { t with tasks := r, depth := d', vals := t.vals.take 0 }).cur < (m.upT fun t => { t with tasks := r, depth := d', vals := t.vals.take 0 }).ths.length := by rw [upT_len]; exact HC.out
            have hvl4 : (m.upT fun t => { t with tasks := r, depth := d', vals := t.vals.take 0 }).th.vals.length ≤ 999990 := by rw [hth4]; have := HVL.out; simp <;> omega
            obtain ⟨M4, HM4⟩ : ∃ M4, Hid ((m.upT fun t => { t with tasks := r, depth := d', vals := t.vals.take 0 }) = M4) := ⟨_, rfl⟩
            rw [HM4.out] at HF1 hcl4 hvl4
            have C1 := push_m HF1.out hcl4 (boolV false) (by omega)
            rw [HF2.out.br] at C1
            refine C1.mono ?_
            rintro e w4 ⟨rfl, A5, r1, r2⟩
            have hcl5 : (M4.push [boolV false]).cur < (M4.push [boolV false]).ths.length := by unfold MD.push; rw [upT_len]; exact hcl4
            have hvl5 : (M4.push [boolV false]).th.vals.length ≤ 1000000 := by unfold MD.push; rw [upT_th hcl4]; simp; omega
            have C2 := push_m r1 hcl5 ⟨vt, vn, vs⟩ hvl5
            rw [up_push _ _ _ hcl4, r2.br, HF2.out.br] at C2
            have LB5 := HF3.out.st r2
            obtain ⟨y0, y1, y2⟩ := Has.cells3 (v := ⟨vt, vn, vs⟩) LB5.h
            dsimp only at y0 y1 y2
            have ly := LB5.h.lt
            have HC2 := hid C2
            have HS5 := hid (HF2.out.trans r2)
            clear C1 C2 r1 r2 LB5 hcl4 hvl4 hcl5 hvl5 hth4
            go_wp2_with fail
            refine HC2.out.mono ?_
            rintro e w5 ⟨rfl, A6, r1, r2⟩
            have FIN : Hid (Q (.returned (.tuple #[])) w5) := by
              show Q _ _
              rw [← HQ.out]
              refine ⟨rfl, A6, ?_, HS5.out.trans r2⟩
              rw [HTR.out, HRV.out]
              rw [← HM4.out] at r1
              unfold MD.push at r1
              rw [upT_upT HC.out] at r1
              exact r1
            clear r1 r2 y0 y1 y2 ly
            go_wp2
            refine bodyPost_ret (results_none rfl _ _ _) rfl ?_
            exact FIN.out
          · rw [p0] at d4 FIN
            clear p0
            go_wp2
            refine wp_region_tail 12 (by kernel_rfl) (by kernel_rfl) (fun _ _ _ _ _ h => h) ?_
            simp only [List.take_succ_cons, List.take_zero, List.drop_succ_cons, List.drop_zero]
            repeat go_big_quiet_step (fail)
            refine wpQuiet_nil ?_
            go_wp2_with fail
            refine wp_region_tail 8 (by kernel_rfl) (by kernel_rfl) (fun _ _ _ _ _ h => h) ?_
            simp only [List.take_succ_cons, List.take_zero, List.drop_succ_cons, List.drop_zero]
            repeat go_big_quiet_step (fail)
            refine wpQuiet_nil ?_
            go_wp2_with fail
            obtain ⟨f1, f2, f3⟩ := FIN.out _ rfl
            have HF1 := hid f1
            have HF2 := hid f2
            have HF3 := hid f3
            clear f1 f2 f3 FIN d2 d4 f2V f4V y0 y1 y2 ly c3V lbV glV f3V HR4 HS4 HL4 HR3 HS3 HL3 HR2 HS2 HL2
            generalize ((((V.setCell ⟨xb, 3, none⟩ (.slice (some ⟨g, 0, none⟩) n x1.tk.c)).setCell ⟨xb, 2, none⟩ (.int .i64 d')).setCell ⟨xb, 4, none⟩ (.slice (some ⟨gv, 0, none⟩) kx x1.vl.c)).drew).drew = W3 at *
            have hth4 := upT_th HC.out (fun t => { t with tasks := r, depth := d', vals := t.vals.take kx })
            have hcl4 : (m.upT fun t => { t with tasks := r, depth := d', vals := t.vals.take kx }).cur < (m.upT fun t => { t with tasks := r, depth := d', vals := t.vals.take kx }).ths.length := by rw [upT_len]; exact HC.out
            have hvl4 : (m.upT fun t => { t with tasks := r, depth := d', vals := t.vals.take kx }).th.vals.length ≤ 999990 := by rw [hth4]; have := HVL.out; simp <;> omega
            obtain ⟨M4, HM4⟩ : ∃ M4, Hid ((m.upT fun t => { t with tasks := r, depth := d', vals := t.vals.take kx }) = M4) := ⟨_, rfl⟩
            rw [HM4.out] at HF1 hcl4 hvl4
            have C1 := push_m HF1.out hcl4 (boolV false) (by omega)
            rw [HF2.out.br] at C1
            refine C1.mono ?_
            rintro e w4 ⟨rfl, A5, r1, r2⟩
            have hcl5 : (M4.push [boolV false]).cur < (M4.push [boolV false]).ths.length := by unfold MD.push; rw [upT_len]; exact hcl4
            have hvl5 : (M4.push [boolV false]).th.vals.length ≤ 1000000 := by unfold MD.push; rw [upT_th hcl4]; simp; omega
            have C2 := push_m r1 hcl5 ⟨vt, vn, vs⟩ hvl5
            rw [up_push _ _ _ hcl4, r2.br, HF2.out.br] at C2
            have LB5 := HF3.out.st r2
            obtain ⟨y0, y1, y2⟩ := Has.cells3 (v := ⟨vt, vn, vs⟩) LB5.h
            dsimp only at y0 y1 y2
            have ly := LB5.h.lt
            have HC2 := hid C2
            have HS5 := hid (HF2.out.trans r2)
            clear C1 C2 r1 r2 LB5 hcl4 hvl4 hcl5 hvl5 hth4
            go_wp2_with fail
            refine HC2.out.mono ?_
            rintro e w5 ⟨rfl, A6, r1, r2⟩
            have FIN : Hid (Q (.returned (.tuple #[])) w5) := by
              show Q _ _
              rw [← HQ.out]
              refine ⟨rfl, A6, ?_, HS5.out.trans r2⟩
              rw [HTR.out, HRV.out]
              rw [← HM4.out] at r1
              unfold MD.push at r1
              rw [upT_upT HC.out] at r1
              exact r1
            clear r1 r2 y0 y1 y2 ly
            go_wp2
            refine bodyPost_ret (results_none rfl _ _ _) rfl ?_
            exact FIN.out
        · have bn1 : ((kn : Int) == 1) = false := by rw [beq_eq_false_iff_ne]; omega
          have hR3 : thrT r d' = R := by
            have := HRR.out
            unfold thrT at this
            rw [if_pos rfl, if_neg hn1] at this
            exact this
          have HR4 := hid hR3
          have hft3 : ft r ≤ d' := by simp at hft2; omega
          have HFT := hid hft3
          have hrl : r.length ≤ 1000000 := by rw [HNL.out]; omega
          have HRL := hid hrl
          clear hn1 hR3 hft3 hft2 hrl
          go_wp2
          refine wp_region_tail 12 (by kernel_rfl) (by kernel_rfl) (fun _ _ _ _ _ h => h) ?_
          simp only [List.take_succ_cons, List.take_zero, List.drop_succ_cons, List.drop_zero]
          repeat go_big_quiet_step (fail)
          refine wpQuiet_nil ?_
          go_wp2_with fail
          go_roundg n
          case measure => rw [← HNL.out]; simp
          case rel => exact ⟨_, r, d', HNL.out.symm, HRL.out, HR3.out.drew, HS3.out.drew, HR4.out, HFT.out, by omega, HL3.out.fr ((Fr.refl _ _).drew), _, HX3.out, HB3.out⟩
      · have b3 : ((kk : Int) == 3) = false := by rw [beq_eq_false_iff_ne]; omega
        have hR3 : thrT r d = R := by
          have := HRR.out
          unfold thrT at this
          rw [if_neg h3] at this
          exact this
        have HR4 := hid hR3
        have hft3 : ft r ≤ d := by rw [if_neg h3] at hft2; omega
        have HFT := hid hft3
        have hrl : r.length ≤ 1000000 := by rw [HNL.out]; omega
        have HRL := hid hrl
        clear h3 hR3 hft3 hft2 hrl
        go_wp2
        refine wp_region_tail 12 (by kernel_rfl) (by kernel_rfl) (fun _ _ _ _ _ h => h) ?_
        simp only [List.take_succ_cons, List.take_zero, List.drop_succ_cons, List.drop_zero]
        repeat go_big_quiet_step (fail)
        refine wpQuiet_nil ?_
        go_wp2_with fail
        go_roundg n
        case measure => rw [← HNL.out]; simp
        case rel => exact ⟨_, r, d, HNL.out.symm, HRL.out, HR2.out.drew, HS2.out.drew, HR4.out, HFT.out, hd8, HL2.out.fr ((Fr.refl _ _).drew), _, HX2.out, HB2.out⟩
/-- what a throw leans on -/
structure ThrOk (m : MD) : Prop where
  c : m.cur < m.ths.length
  tl : m.th.tasks.length ≤ 1000000
  vl : m.th.vals.length ≤ 999990
  d : ft m.th.tasks ≤ m.th.depth
  d8 : m.th.depth ≤ 1000
  x : ∀ r x e d', thrT m.th.tasks m.th.depth = (some (r, x, e), d') → x ≤ m.th.vals.length
  s : ∀ c r, m.stack = c :: r → c ≠ m.cur ∧ c < m.ths.length ∧ (m.ths.getD c mt0).vals.length ≤ 999999
theorem throwK_m (h : MRep w A N root m) (k : ThrOk m) (v : Vl) (hw : wellV v = true) (hn : v.t = 2 → v.n < 18446744073709551616) : Calls Tryz.prog 191 #[.pointer (some ⟨A.br, 0, none⟩), v.val] w (PQm w A N root (m.throw v)) :=
  throw_m h k.c v hw hn k.tl k.vl k.d k.d8 k.x k.s
theorem raise_m (h : MRep w A N root m) (k : ThrOk m) (s : Bs) (hs : s.length ≤ 40) : Calls Tryz.prog 121 #[.pointer (some ⟨A.br, 0, none⟩), sv s] w (PQm w A N root (m.raise s)) := by
  have C := throwK_m h k (strV s) (VKn.str 0 0 0 hs).w (fun z => by cases z)
  have HC : Hid (Calls Tryz.prog 191 #[.pointer (some ⟨A.br, 0, none⟩), .agg #[.int .i64 3, .int .u64 0, sv s]] w (PQm w A N root (m.raise s))) := C
  clear C h k hs
  obtain ⟨Q, HQ⟩ : ∃ Q : Ending → World → Prop, Hid (PQm w A N root (m.raise s) = Q) := ⟨_, rfl⟩
  rw [HQ.out] at HC ⊢
  have HQR : Hid (∀ e w', Q e w' → e = .returned (.tuple #[])) := fun e w' h => by rw [← HQ.out] at h; exact h.1
  clear HQ
  go_enter Tryz.func121, Tryz.ntmps121
  go_wp2_with fail
  refine HC.out.mono ?_
  intro e w' hq
  obtain rfl := HQR.out _ _ hq
  have HQ2 := hid hq
  clear hq
  go_wp2
  go_end0
  exact HQ2.out
end
end Go.Proofs.Qxb6500574aGreatDoor
