/-
  THE WALK of comp: a function's literal.
-/
import Derived.Test.Qxb6500574aGreatDoorWCm21
import Derived.Test.Qxb6500574aGreatDoorRegC
namespace Go.Proofs.Qxb6500574aGreatDoor
open Go Go.RowKit
set_option linter.unusedVariables false
set_option linter.unusedSimpArgs false
open Go.Lib
section
set_option maxRecDepth 100000
set_option maxHeartbeats 1000000
variable {w : World} {o : Nat → Nat} {C : CC} {N : List Nd} {c : CmD} {f n k a b lo p q : Nat} {L : List Bs} {r : En}
/-- the function's literal d: proto d.n, whole -/
theorem function_w (A : CA N k) (W : CW N C k) (hN : N.length ≤ 3000) {d : Nd} {l l2 : List Nat} {h1 h2 al2 : Nat} (B : CB w o C N f L r a (17 * (n - lo)) (n - lo) c) (hdn : d.n = a + 1) (hd12 : d.n ≤ 12) (hn : n = h2 + 1) (hlt : n < N.length) (hc1 : Chain N d.a l) (hl3 : l.length ≤ 3) (hnm : Names N l lo h1) (hc2 : Chain N d.b l2)
    (hsq : SeqS (fun x lo a b al al' => Sh N 0 x lo a b 120 al al' false) l2 h1 h2 (a + 1) b l.length al2) (hk : 2 * n + 1 ≤ k) :
    Calls Tryz.prog 234 #[fptr C.gF f, .agg (ndV d).toArray] w (CQ w o C N (((comN N k 3 d.n d.b ((l.foldl (fun c m => c.declare d.n (N.getD m nd0).s) (c.fresh d.n (some f))).upd d.n fun x => { x with np := l.length })).emit d.n [(2, 0), (2, 0), (27, 0)]).emit f [(28, d.n)])) := by
  have i1 := hnm.in_.1
  have i2 := (SeqS.in_ Sh.ltS hsq).1
  have hfa := B.fa
  have hpc := B.pc
  have hkc := B.kc
  have hnp := B.np
  have hrL := B.I.1.2.2.2
  obtain ⟨xs, FL, F⟩ := B.R.fn B.hf
  have c0 := F.cell 0 (by omega)
  have fl := F.lt
  obtain ⟨hkc0, _, _⟩ := F.ok
  simp only [fnV, List.getElem?_cons_zero, hkc0, Option.map_some, Nat.add_zero] at c0
  have I0 := fresh_inv B.I hfa (by omega)
  have e0 : (c.fresh (a + 1) (some f)).fn (a + 1) = { fn0 with parent := some f } := by rw [fn_fresh c (by have := B.I.len; omega), if_pos rfl]
  have o0f : (c.fresh (a + 1) (some f)).fn f = c.fn f := by rw [fn_fresh c (by have := B.I.len; omega), if_neg (by omega)]
  -- the walk's first call: the fresh state
  have HB0 : Hid (CB (w.alloc (.cells (ndV d).toArray 134)) o C N f L r a (17 * (n - lo)) (n - lo) c) := B.alloc _
  have HX0 : Hid (Bn (w.alloc (.cells (ndV d).toArray 134)) o d w.heap.size) := Bn.new B.R _
  have HS0 : Hid (Stp QC w o (w.alloc (.cells (ndV d).toArray 134)) o) := (Stp.refl _ _ _).alloc _
  have HFR : Hid (∀ w' o', CB w' o' C N f L r a (17 * (n - lo)) (n - lo) c → Calls Tryz.prog 39 #[.pointer (some ⟨C.cb, 0, none⟩), .int .i64 d.n, fptr C.gF f] w' fun e w2 => e = .returned (fptr C.gF d.n) ∧ ∃ o2, CB w2 o2 C N d.n [] ((f, L) :: r) (a + 1) (17 * (h2 - h1) + 4) (h2 - h1) (c.fresh d.n (some f)) ∧ Stp QC w' o' w2 o2) := by
    intro w' o' B'
    refine (fresh_any B'.R (x := d.n) (by omega) (by omega) (some f)).mono ?_
    rintro e w2 ⟨rfl, o2, R2, S2⟩
    refine ⟨rfl, o2, ⟨R2, by rw [hdn]; exact I0, by omega, ?_, ?_, ?_⟩, S2⟩
    · show max c.np (d.n + 1) = _; omega
    · rw [hdn, e0]; simp [fn0]; omega
    · rw [hdn, e0]; simp [fn0]; omega
  have HG : Hid (f ≤ a ∧ d.n = a + 1 ∧ d.n ≤ 12 ∧ n = h2 + 1 ∧ n < N.length ∧ l.length ≤ 3 ∧ lo ≤ h1 ∧ h1 ≤ h2 ∧ 2 * n + 1 ≤ k ∧ (c.fn f).code.length + 17 * (n - lo) ≤ 65000) := ⟨hfa, hdn, hd12, hn, hlt, hl3, i1, i2, hk, hpc⟩
  have HC1 : Hid (Chain N d.a l) := hc1
  have HC2 : Hid (Chain N d.b l2) := hc2
  have HSQ : Hid (SeqS (fun x lo a b al al' => Sh N 0 x lo a b 120 al al' false) l2 h1 h2 (a + 1) b l.length al2) := hsq
  have HNM : Hid (∀ m ∈ l, m < N.length) := fun m hm => by have := (hnm.in_.2 m hm).2; omega
  have HE0 : Hid ((c.fresh d.n (some f)).fn d.n = { fn0 with parent := some f }) := by rw [hdn]; exact e0
  have HO0 : Hid ((c.fresh d.n (some f)).fn f = c.fn f) := by rw [hdn]; exact o0f
  have r0 := HX0.out.read
  obtain ⟨W0, HW0⟩ : ∃ W0, Hid (w.alloc (.cells (ndV d).toArray 134) = W0) := ⟨_, rfl⟩
  have c1 : W0.cell? ⟨C.gF, f * 11, none⟩ = some (.pointer (some ⟨C.cb, 0, none⟩)) := by
    have := (HB0.out.R.nd HB0.out.hf (by omega))
    obtain ⟨_, _, h⟩ := this
    rw [← HW0.out]
    exact h.f0
  rw [HW0.out] at HB0 HX0 HS0 r0
  obtain ⟨r0, r1, r2, r3, r4, r5, r6, r7, r8⟩ := r0
  have fl0 : C.gF < W0.heap.size := by rw [← HW0.out]; simp; omega
  have hV : (ndV d).toArray = #[.int .i64 d.k, .int .i64 d.a, .int .i64 d.b, .int .i64 d.c, .int .i64 d.next, .int .u64 d.n, sv d.s, .int .i64 d.p] := rfl
  rw [hV] at HW0 ⊢
  have dn12 : d.n ≤ 12 := hd12
  clear hV B hdn hd12 hn hlt hc1 hl3 hnm hc2 hsq hk i1 i2 hfa hpc hkc hnp hrL F c0 fl hkc0 I0 e0 o0f
  unfold fptr
  go_enter Tryz.func234, Tryz.ntmps234
  go_wp2_with fail
  rw [HW0.out]
  refine Go.Proofs.Qxb6500574aGreatDoor.C.wp_region_tail 8 (by kernel_rfl) (by kernel_rfl) (fun _ _ _ _ _ h => h) ?_
  simp only [List.take_succ_cons, List.take_zero, List.drop_succ_cons, List.drop_zero]
  repeat go_big_quiet_step (fail)
  refine wpQuiet_nil ?_
  go_wp2_with fail
  have HBd := HB0.out.fresh ((Fr.refl _ _).drew)
  have HF := HFR.out _ _ HBd
  unfold fptr at HF
  refine HF.mono ?_
  rintro e1 w1 ⟨rfl, o1, B1, S1⟩
  have HS1 : Hid (Stp QC w o w1 o1) := (HS0.out.drew).trans S1
  have HX1 : Hid (Bn w1 o1 d w.heap.size) := (HX0.out.st (Stp.fresh QC o ((Fr.refl _ _).drew)) q0c).st S1 q0c
  have HB1 : Hid (CB w1 o1 C N d.n [] ((f, L) :: r) (a + 1) _ _ _) := B1
  clear r0 r1 r2 r3 r4 r5 r6 r7 r8 c1 fl0 HBd HF
  obtain ⟨r0, r1, r2, r3, r4, r5, r6, r7, r8⟩ := HX1.out.read
  have HE := each_param (u1 := fptr C.gF d.n) (f := d.n) (w := w1) (PmP C N d.n ((f, L) :: r) (a + 1) (17 * (h2 - h1) + 4) (h2 - h1) d w.heap.size w1 o1 (l.foldl (fun c m => c.declare d.n (N.getD m nd0).s) (c.fresh d.n (some f))) (l.map (fun m => (N.getD m nd0).s))) (fun r w h => by obtain ⟨o', _, c', B, _⟩ := h; exact ⟨o', c', B.R, B.hf⟩) PmP.step l d.a HC1.out (by have := HG.out; omega) ⟨o1, [], _, B1, HX1.out, Stp.refl _ _ _, HNM.out, by have := HG.out; simp; omega, rfl, by simp⟩
  obtain ⟨m, HM⟩ : ∃ m : Nat, Hid (l.length = m) := ⟨_, rfl⟩
  rw [HM.out] at HE
  unfold fptr at HE
  clear B1 S1
  go_wp2_with fail
  refine HE.mono ?_
  rintro e2 w2 ⟨rfl, o2, L2, c2, B2, X2, S2, _, _, h6, h7⟩
  rw [List.map_nil, List.append_nil] at h7
  have HX2 : Hid (Bn w2 o2 d w.heap.size) := X2
  have HB2 : Hid (CB w2 o2 C N d.n L2 ((f, L) :: r) (a + 1) _ _ c2) := B2
  have HS2 : Hid (Stp QC w o w2 o2) := HS1.out.trans S2
  have HC3 : Hid (c2 = l.foldl (fun c m => c.declare d.n (N.getD m nd0).s) (c.fresh d.n (some f))) := h6
  have HL2 : Hid (L2 = l.map (fun m => (N.getD m nd0).s)) := h7
  obtain ⟨n1, n2⟩ := np_set B2.R B2.hf m
  have gl := HB2.out.R.fn HB2.out.hf
  obtain ⟨xs2, FL2, F2⟩ := gl
  have gfl := F2.lt
  have gc2 := F2.cell 2 (by omega)
  have gfz := F2.frozen (d.n * 11 + 2)
  simp only [fnV, List.getElem?_cons_succ, List.getElem?_cons_zero] at gc2
  have HN1 : Hid (CRep (w2.setCell ⟨C.gF, d.n * 11 + 2, none⟩ (.int .i64 m)) o2 C N (c2.upd d.n fun d => { d with np := m })) := n1
  have HN2 : Hid (Stp (QF1 d.n) w2 o2 (w2.setCell ⟨C.gF, d.n * 11 + 2, none⟩ (.int .i64 m)) o2) := n2
  have hne1 : ¬ (w.heap.size = C.gF) := fun e => by
    have h1 := X2.ld
    have h2 := F2.rep.here.lb
    rw [e, h2] at h1
    cases h1
  have hne2 : ¬ (C.gF = w.heap.size) := fun e => hne1 e.symm
  clear r0 r1 r2 r3 r4 r5 r6 r7 r8 HE B2 X2 S2 h6 h7 n1 n2 F2
  obtain ⟨W3, HW3⟩ : ∃ W3, Hid (w2.setCell ⟨C.gF, d.n * 11 + 2, none⟩ (.int .i64 m) = W3) := ⟨_, rfl⟩
  rw [HW3.out] at HN1 HN2
  have HX3 : Hid (Bn W3 o2 d w.heap.size) := HX2.out.st (CB.qs HN2.out) q0c
  obtain ⟨r0, r1, r2, r3, r4, r5, r6, r7, r8⟩ := HX2.out.read
  go_wp2_with fail
  rw [HW3.out]
  have HNP : Hid (d.n < c2.np) := HB2.out.hf
  have hu := fn_upd c2 HB2.out.I.lt (fun d => { d with np := m })
  have hu0 : (c2.upd d.n fun d => { d with np := m }).fn d.n = { c2.fn d.n with np := m } := by rw [hu, if_pos rfl]
  have B3 : CB W3 o2 C N d.n L2 ((f, L) :: r) (a + 1) (17 * (h2 - h1) + 4) (h2 - h1) (c2.upd d.n fun d => { d with np := m }) :=
    ⟨HN1.out, np_inv HB2.out.I, HB2.out.fa, HB2.out.np, by rw [hu0]; exact HB2.out.pc, by rw [hu0]; exact HB2.out.kc⟩
  have hlen : L2.length = l.length := by rw [HL2.out, List.length_map]
  have hlp : ((c2.upd d.n fun d => { d with np := m }).fn d.n).loops = [] := by
    rw [hu0]
    show (c2.fn d.n).loops = []
    obtain ⟨pd, cd, ld⟩ := declares (r := (f, L) :: r) (a + 1) (l.map fun m => (N.getD m nd0).s) _ [] HB1.out.I (by have := HG.out; simp; omega)
    rw [HC3.out, show l.foldl (fun c m => c.declare d.n (N.getD m nd0).s) (c.fresh d.n (some f)) = (l.map fun m => (N.getD m nd0).s).foldl (fun c s => c.declare d.n s) (c.fresh d.n (some f)) by rw [List.foldl_map], ld, HE0.out]
    rfl
  have HBW := body_w A W B3 (lo := h1) (hi := h2) (b := b) (lb := 0) (lp := false) HC2.out (by rw [hlen]; exact HSQ.out) (by have := HG.out; omega) (fun e => by cases e) (by rw [hlp]; exact LpB.nil _) (by omega) (by omega) (by have := HG.out; omega)
  have hf4 : ((comN N k 3 d.n d.b (c2.upd d.n fun d => { d with np := m })).fn f).code = (c.fn f).code := by
    obtain ⟨seg, kc, p1, _⟩ := B3.blP A (lo := h1) (hi := h2) (b := b) (lb := 0) (lp := false) HC2.out (by rw [hlen]; exact HSQ.out) (by have := HG.out; omega) (fun e => by cases e) (by omega) (by omega) (by have := HG.out; omega)
    have h1 := p1.gr.anc (f, L) (by simp)
    simp only at h1
    rw [h1]
    show ((c2.upd d.n fun d => { d with np := m }).fn f).code = _
    have hfd : f ≠ d.n := by have := HG.out; omega
    rw [hu, if_neg hfd, HC3.out]
    have : ∀ (qs : List Nat) (c : CmD), d.n < c.fns.length → (qs.foldl (fun c m => c.declare d.n (N.getD m nd0).s) c).fn f = c.fn f := by
      intro qs
      induction qs with
      | nil => intro c _; rfl
      | cons q qs ih =>
        intro c hc
        rw [List.foldl_cons, ih _ (by unfold CmD.declare; rw [upd_len]; exact hc)]
        unfold CmD.declare
        rw [fn_upd c hc, if_neg hfd]
    rw [this _ _ HB1.out.I.lt, HO0.out]
  have hfe : ∀ (z : CmD) (y : List In), d.n < z.fns.length → ((z.emit d.n y).fn f) = z.fn f := fun z y hz => by
    unfold CmD.emit
    rw [fn_upd z hz, if_neg (by have := HG.out; omega)]
  have HF4 : Hid (∀ y, d.n < (comN N k 3 d.n d.b (c2.upd d.n fun d => { d with np := m })).fns.length → (((comN N k 3 d.n d.b (c2.upd d.n fun d => { d with np := m })).emit d.n y).fn f).code.length + 1 ≤ 65535) := fun y hy => by
    rw [hfe _ _ hy, hf4]
    have := HG.out
    omega
  clear hfe hf4 hlp hlen hu0 hu B3 r0 r1 r2 r3 r4 r5 r6 r7 r8 gc2 gfl gfz
  unfold fptr at HBW
  refine HBW.mono ?_
  rintro e4 w4 ⟨rfl, o4, B4, S4⟩
  have HB4 : Hid (CB w4 o4 C N d.n L2 ((f, L) :: r) b _ _ _) := B4
  have HS4 : Hid (Stp QC w o w4 o4) := (HS2.out.trans (CB.qs HN2.out)).trans S4
  have HX4 : Hid (Bn w4 o4 d w.heap.size) := HX3.out.st S4 q0c
  obtain ⟨r0, r1, r2, r3, r4, r5, r6, r7, r8⟩ := HX4.out.read
  clear HBW B4 S4
  go_wp2_with fail
  refine (emitK HB4.out.R (x := f) (op := 28) (y := d.n) (kb := w4.heap.size) (by have h1 := HB4.out.np; have h2 := HB4.out.fa; have := HG.out; omega) rfl rfl ?_ rfl).mono ?_
  · refine HF4.out _ ?_
    have h1 := HB4.out.I.lt
    simp only at h1
    unfold CmD.emit at h1
    rw [upd_len] at h1
    exact h1
  rintro e5 w5 ⟨rfl, o5, R5, S5⟩
  have HR5 : Hid (CRep w5 o5 C N _) := R5
  have HS5 : Hid (Stp QC w o w5 o5) := HS4.out.trans (CB.qs S5)
  clear R5 S5
  go_wp2_with fail
  go_end0
  refine ⟨rfl, o5, ?_, HS5.out⟩
  rw [HM.out, ← HC3.out]
  exact HR5.out
end
end Go.Proofs.Qxb6500574aGreatDoor
