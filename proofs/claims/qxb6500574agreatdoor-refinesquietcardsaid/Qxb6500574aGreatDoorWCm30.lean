/-
  THE WALK of comp: a generic for (written by tools/gen_st.py).
-/
import Derived.Test.Qxb6500574aGreatDoorWCm29
namespace Go.Proofs.Qxb6500574aGreatDoor
open Go Go.RowKit
set_option linter.unusedVariables false
set_option linter.unusedSimpArgs false
open Go.Lib
section
set_option maxRecDepth 100000
set_option maxHeartbeats 1000000
variable {w : World} {o : Nat → Nat} {C : CC} {N : List Nd} {c : CmD} {f n k a b lo : Nat} {L : List Bs} {r : En}
/-- no panic is met -/
def calmQ (Q : Exit → Act → World → Prop) : Exit → Act → World → Prop
  | .panic _, _, _ => False
  | e, a, w => Q e a w
theorem calmQ_normal {Q : Exit → Act → World → Prop} {a : Act} {w : World} (h : Q .normal a w) : calmQ Q .normal a w := h
theorem wp_calmQ {P : Program} {c : Code} {Q : Exit → Act → World → Prop} {a : Act} {w : World} (h : c.wp P (calmQ Q) a w) : c.wp P Q a w := by
  intro b k cs
  obtain ⟨e, a', w', q, r⟩ := h b k cs
  refine ⟨e, a', w', ?_, r⟩
  cases e <;> first | exact q | exact q.elim
theorem bind_len (I : Inv c ((f, L) :: r)) (s : Bs) (h : L.length + 1 ≤ 12) : ((c.bind f s).fn f).code.length = (c.fn f).code.length + 1 ∧ ((c.bind f s).fn f).loops = (c.fn f).loops := by
  obtain ⟨_, h1, h2⟩ := Po.bind 0 I s h
  exact ⟨by rw [h1, List.length_append]; rfl, h2⟩
theorem declare_len (I : Inv c ((f, L) :: r)) (s : Bs) : ((c.declare f s).fn f).code.length = (c.fn f).code.length ∧ ((c.declare f s).fn f).loops = (c.fn f).loops := ⟨by rw [(declare_code I s).1], (declare_code I s).2⟩
theorem leave_len (I : Inv c ((f, L) :: r)) (m : Nat) : (c.fn f).code.length ≤ ((c.leave f m).fn f).code.length ∧ ((c.leave f m).fn f).loops = (c.fn f).loops := by
  obtain ⟨_, h1, h2⟩ := Po.leave 0 I m
  exact ⟨by rw [h1, List.length_append]; omega, h2⟩
theorem open_len (I : Inv c ((f, L) :: r)) (m : Nat) : ((c.open_ f m).fn f).code.length = (c.fn f).code.length ∧ ((c.open_ f m).fn f).loops = (c.fn f).loops ++ [⟨m, []⟩] := ⟨by rw [(open_code I m).1], (open_code I m).2⟩
theorem walk_w (A : CA N k) (W : CW N C k) (B : CB w o C N f L r a (17 * (n - lo)) (n - lo) c) (hn : n < N.length) (hd : (N.getD n nd0).k = 9) (hN : N.length ≤ 1000) {b0 h1 x1 : Nat} {l : List Nat} (hll : LpB lo (c.fn f).loops) (g2 : L.length + 4 ≤ 12) (g3 : (N.getD n nd0).a = lo + 1) (g4 : (N.getD (N.getD n nd0).a nd0).next = lo + 2) (g6 : n = h1 + 1) (g7 : Sh N 1 (N.getD n nd0).b (lo + 2) a b0 120 0 0 false) (g8 : Chain N (N.getD n nd0).c l) (g9 : SeqS (fun x lo a b al al' => Sh N 0 x lo a b 120 al al' true) l (N.getD n nd0).b h1 b0 b (L.length + 4) x1) (hk : 2 * n + 2 ≤ k + 1) :
    Calls Tryz.prog 173 #[fptr C.gF f, .agg (ndV (N.getD n nd0)).toArray] w (CQ w o C N (comN N (k + 1) 0 f n c)) := by
  have HB0 : Hid (CB (w.alloc (.cells (ndV (N.getD n nd0)).toArray 134)) o C N f L r a (17 * (n - lo)) (n - lo) c) := B.alloc _
  have HX0 : Hid (Bn (w.alloc (.cells (ndV (N.getD n nd0)).toArray 134)) o (N.getD n nd0) w.heap.size) := Bn.new B.R _
  have HS0 : Hid (Stp QC w o (w.alloc (.cells (ndV (N.getD n nd0)).toArray 134)) o) := (Stp.refl _ _ _).alloc _
  have HG : Hid ((N.getD n nd0).a = lo + 1 ∧ (N.getD (N.getD n nd0).a nd0).next = lo + 2 ∧ lo + 2 < (N.getD n nd0).b ∧ (N.getD n nd0).b ≤ h1 ∧ n = h1 + 1 ∧ 2 * n + 2 ≤ k + 1 ∧ n < N.length ∧ L.length + 4 ≤ 12 ∧ (c.fn f).loops.length ≤ lo ∧ N.length ≤ 1000) := ⟨g3, g4, g7.lt, (SeqS.in_ Sh.ltS g9).1, g6, hk, hn, g2, hll.n, hN⟩
  have HLB : Hid (LpB lo (c.fn f).loops) := hll
  have HG1 : Hid (Sh N 1 (N.getD n nd0).b (lo + 2) a b0 120 0 0 false) := g7
  have HC1 : Hid (Chain N (N.getD n nd0).c l) := g8
  have HQ1 : Hid (SeqS (fun x lo a b al al' => Sh N 0 x lo a b 120 al al' true) l (N.getD n nd0).b h1 b0 b (L.length + 4) x1) := g9
  have HEND : Hid (comN N (k + 1) 0 f n c = _) := com_s9 hd
  have HU : Hid (C.gF < w.heap.size ∧ ∃ s : Sl, w.cell? ⟨C.gF, f * 11 + 3, none⟩ = some (.slice s.a (L.length : Nat) s.c)) := ⟨B.lens.1, B.lens.2.2⟩
  have HLC : Hid ((c.fn f).locals.length = L.length) := by show _ = _; rw [B.I.loc]
  obtain ⟨w0, HW0⟩ : ∃ w0, Hid (w.alloc (.cells (ndV (N.getD n nd0)).toArray 134) = w0) := ⟨_, rfl⟩
  rw [HW0.out] at HB0 HX0 HS0
  obtain ⟨o0, ho0⟩ : ∃ z, z = o := ⟨_, rfl⟩
  rw [← ho0] at HB0 HX0
  have HS0 : Hid (Stp QC w o w0 o0) := by rw [ho0]; exact HS0
  clear ho0
  obtain ⟨m, HM⟩ : ∃ m : Nat, Hid (L.length = m) := ⟨_, rfl⟩
  rw [HM.out] at g2 HLC HU
  clear B hll g3 g4 g6 g7 g8 g9 hk hn hN
  generalize hD : N.getD n nd0 = d at *
  clear hD
  have hV : (ndV d).toArray = #[.int .i64 d.k, .int .i64 d.a, .int .i64 d.b, .int .i64 d.c, .int .i64 d.next, .int .u64 d.n, sv d.s, .int .i64 d.p] := rfl
  rw [hV] at HW0 ⊢
  clear hV hd
  unfold fptr
  go_enter_defers Tryz.func173, Tryz.ntmps173
  obtain ⟨u0l, _, ⟨u0t, u0d⟩⟩ := HB0.out.lens
  rw [HM.out] at u0d
  have u1l : C.gF < w.heap.size ∧ ∃ s : Sl, w.cell? ⟨C.gF, f * 11 + 3, none⟩ = some (.slice s.a (m : Nat) s.c) := HU.out
  obtain ⟨u1l, u1t, u1d⟩ := u1l
  go_wp2_with fail
  rw [HW0.out]
  clear u1l u1d u0l u0d
  obtain ⟨r0, r1, r2, r3, r4, r5, r6, r7, r8⟩ := HX0.out.read
  refine wp_calmQ ?_
  obtain ⟨gg1, as1, al1, ac1, ag1, an1⟩ := HB0.out.asp (bk := w.heap.size) (j := 1) (x := d.a) (by have := HG.out; omega) (by rw [HX0.out.hd.cell]; rfl)
  have lb1 := HX0.out.hd.lt
  have lx1 : d.a < N.length := (by have := HG.out; omega)
  generalize hE1 : N.getD d.a nd0 = e at *
  have f0_1 : ∀ s : WQ (AsP C f gg1 N.length C.sn.c w.heap.size 1 d.a e), s.y.cell? ⟨C.gF, f * 11, none⟩ = some (.pointer (some ⟨C.cb, 0, none⟩)) := fun s => s.f.1
  have f1_1 : ∀ s : WQ (AsP C f gg1 N.length C.sn.c w.heap.size 1 d.a e), s.y.cell? ⟨C.cb, 2, none⟩ = some (.slice (some ⟨gg1, 0, none⟩) N.length C.sn.c) := fun s => s.f.2.1
  have f2_1 : ∀ s : WQ (AsP C f gg1 N.length C.sn.c w.heap.size 1 d.a e), s.y.cell? ⟨w.heap.size, 1, none⟩ = some (.int .i64 (d.a : Nat)) := fun s => s.f.2.2.1
  have g0_1 : ∀ s : WQ (AsP C f gg1 N.length C.sn.c w.heap.size 1 d.a e), s.y.cell? ⟨gg1, d.a * 8, none⟩ = some (.int .i64 (e.k : Nat)) := fun s => s.f.2.2.2.1
  have g1_1 : ∀ s : WQ (AsP C f gg1 N.length C.sn.c w.heap.size 1 d.a e), s.y.cell? ⟨gg1, d.a * 8 + 1, none⟩ = some (.int .i64 (e.a : Nat)) := fun s => s.f.2.2.2.2.1
  have g2_1 : ∀ s : WQ (AsP C f gg1 N.length C.sn.c w.heap.size 1 d.a e), s.y.cell? ⟨gg1, d.a * 8 + 2, none⟩ = some (.int .i64 (e.b : Nat)) := fun s => s.f.2.2.2.2.2.1
  have g3_1 : ∀ s : WQ (AsP C f gg1 N.length C.sn.c w.heap.size 1 d.a e), s.y.cell? ⟨gg1, d.a * 8 + 3, none⟩ = some (.int .i64 (e.c : Nat)) := fun s => s.f.2.2.2.2.2.2.1
  have g4_1 : ∀ s : WQ (AsP C f gg1 N.length C.sn.c w.heap.size 1 d.a e), s.y.cell? ⟨gg1, d.a * 8 + 4, none⟩ = some (.int .i64 (e.next : Nat)) := fun s => s.f.2.2.2.2.2.2.2.1
  have g5_1 : ∀ s : WQ (AsP C f gg1 N.length C.sn.c w.heap.size 1 d.a e), s.y.cell? ⟨gg1, d.a * 8 + 5, none⟩ = some (.int .u64 (e.n : Nat)) := fun s => s.f.2.2.2.2.2.2.2.2.1
  have g6_1 : ∀ s : WQ (AsP C f gg1 N.length C.sn.c w.heap.size 1 d.a e), s.y.cell? ⟨gg1, d.a * 8 + 6, none⟩ = some (sv e.s) := fun s => s.f.2.2.2.2.2.2.2.2.2.1
  have g7_1 : ∀ s : WQ (AsP C f gg1 N.length C.sn.c w.heap.size 1 d.a e), s.y.cell? ⟨gg1, d.a * 8 + 7, none⟩ = some (.int .i64 (e.p : Nat)) := fun s => s.f.2.2.2.2.2.2.2.2.2.2
  have NE1 : Nonempty (WQ (AsP C f gg1 N.length C.sn.c w.heap.size 1 d.a e)) := WQ.non as1
  refine wp_region_head 11 1 (fun y => ∃ s : WQ (AsP C f gg1 N.length C.sn.c w.heap.size 1 d.a e), y = s.y) (by kernel_rfl) (by kernel_rfl) (fun _ _ _ _ _ h => h) ⟨⟨w0.drew, as1⟩, rfl⟩ ?_
  simp only [List.take_succ_cons, List.take_zero, List.drop_succ_cons, List.drop_zero]
  repeat go_big_quiet_step (fail)
  refine wpQuiet_nil ?_
  clear f0_1 f1_1 f2_1 g0_1 g1_1 g2_1 g3_1 g4_1 g5_1 g6_1 g7_1 NE1
  unfold wpChain
  go_wp2_with fail
  refine ⟨⟨⟨_, as1.fr al1 ac1 lb1 ag1 (((Fr.refl _ _).alloc _).drew)⟩, rfl⟩, ?_⟩
  rw [wpChain_zero]
  go_wp2_with fail
  have fr1 : Fr (fun _ => False) w0 ((w0.alloc (.cells #[.int .i64 e.k, .int .i64 e.a, .int .i64 e.b, .int .i64 e.c, .int .i64 e.next, .int .u64 e.n, sv e.s, .int .i64 e.p] 134)).drew) := ((Fr.refl _ _).alloc _).drew
  have hb1 := HB0.out.fresh fr1
  have hs1 := HS0.out.trans (Stp.fresh QC o0 fr1)
  have hHX1 := HX0.out.st (Stp.fresh QC o0 fr1) q0c
  have hHE1 : Bn ((w0.alloc (.cells #[.int .i64 e.k, .int .i64 e.a, .int .i64 e.b, .int .i64 e.c, .int .i64 e.next, .int .u64 e.n, sv e.s, .int .i64 e.p] 134)).drew) o0 e w0.heap.size := ⟨(Has.new _ _ _).drew, HB0.out.R.ow _ (Nat.le_refl _)⟩
  clear fr1 as1
  generalize (w0.alloc (.cells #[.int .i64 e.k, .int .i64 e.a, .int .i64 e.b, .int .i64 e.c, .int .i64 e.next, .int .u64 e.n, sv e.s, .int .i64 e.p] 134)).drew = w1 at *
  obtain ⟨o1, ho1⟩ : ∃ z, z = o0 := ⟨_, rfl⟩
  rw [← ho1] at hb1 hs1 hHX1 hHE1
  clear ho1
  have HB1 : Hid (CB w1 o1 C N f L r a _ _ _) := hb1
  have HS1 : Hid (Stp QC w o w1 o1) := hs1
  have HX1 : Hid (Bn w1 o1 d w.heap.size) := hHX1
  have HE1 : Hid (Bn w1 o1 e w0.heap.size) := hHE1
  clear hb1 hs1 hHX1 hHE1
  clear r0 r1 r2 r3 r4 r5 r6 r7 r8
  obtain ⟨r0, r1, r2, r3, r4, r5, r6, r7, r8⟩ := HX1.out.read
  obtain ⟨s0, s1, s2, s3, s4, s5, s6, s7, s8⟩ := HE1.out.read
  refine calmQ_normal ?_
  go_wp2_with fail
  refine wp_calmQ ?_
  obtain ⟨gg2, as2, al2, ac2, ag2, an2⟩ := HB1.out.asp (bk := w0.heap.size) (j := 4) (x := e.next) (by have := HG.out; omega) (by rw [HE1.out.hd.cell]; rfl)
  have lb2 := HE1.out.hd.lt
  have lx2 : e.next < N.length := (by have := HG.out; omega)
  generalize hE2 : N.getD e.next nd0 = e2 at *
  have f0_2 : ∀ s : WQ (AsP C f gg2 N.length C.sn.c w0.heap.size 4 e.next e2), s.y.cell? ⟨C.gF, f * 11, none⟩ = some (.pointer (some ⟨C.cb, 0, none⟩)) := fun s => s.f.1
  have f1_2 : ∀ s : WQ (AsP C f gg2 N.length C.sn.c w0.heap.size 4 e.next e2), s.y.cell? ⟨C.cb, 2, none⟩ = some (.slice (some ⟨gg2, 0, none⟩) N.length C.sn.c) := fun s => s.f.2.1
  have f2_2 : ∀ s : WQ (AsP C f gg2 N.length C.sn.c w0.heap.size 4 e.next e2), s.y.cell? ⟨w0.heap.size, 4, none⟩ = some (.int .i64 (e.next : Nat)) := fun s => s.f.2.2.1
  have g0_2 : ∀ s : WQ (AsP C f gg2 N.length C.sn.c w0.heap.size 4 e.next e2), s.y.cell? ⟨gg2, e.next * 8, none⟩ = some (.int .i64 (e2.k : Nat)) := fun s => s.f.2.2.2.1
  have g1_2 : ∀ s : WQ (AsP C f gg2 N.length C.sn.c w0.heap.size 4 e.next e2), s.y.cell? ⟨gg2, e.next * 8 + 1, none⟩ = some (.int .i64 (e2.a : Nat)) := fun s => s.f.2.2.2.2.1
  have g2_2 : ∀ s : WQ (AsP C f gg2 N.length C.sn.c w0.heap.size 4 e.next e2), s.y.cell? ⟨gg2, e.next * 8 + 2, none⟩ = some (.int .i64 (e2.b : Nat)) := fun s => s.f.2.2.2.2.2.1
  have g3_2 : ∀ s : WQ (AsP C f gg2 N.length C.sn.c w0.heap.size 4 e.next e2), s.y.cell? ⟨gg2, e.next * 8 + 3, none⟩ = some (.int .i64 (e2.c : Nat)) := fun s => s.f.2.2.2.2.2.2.1
  have g4_2 : ∀ s : WQ (AsP C f gg2 N.length C.sn.c w0.heap.size 4 e.next e2), s.y.cell? ⟨gg2, e.next * 8 + 4, none⟩ = some (.int .i64 (e2.next : Nat)) := fun s => s.f.2.2.2.2.2.2.2.1
  have g5_2 : ∀ s : WQ (AsP C f gg2 N.length C.sn.c w0.heap.size 4 e.next e2), s.y.cell? ⟨gg2, e.next * 8 + 5, none⟩ = some (.int .u64 (e2.n : Nat)) := fun s => s.f.2.2.2.2.2.2.2.2.1
  have g6_2 : ∀ s : WQ (AsP C f gg2 N.length C.sn.c w0.heap.size 4 e.next e2), s.y.cell? ⟨gg2, e.next * 8 + 6, none⟩ = some (sv e2.s) := fun s => s.f.2.2.2.2.2.2.2.2.2.1
  have g7_2 : ∀ s : WQ (AsP C f gg2 N.length C.sn.c w0.heap.size 4 e.next e2), s.y.cell? ⟨gg2, e.next * 8 + 7, none⟩ = some (.int .i64 (e2.p : Nat)) := fun s => s.f.2.2.2.2.2.2.2.2.2.2
  have NE2 : Nonempty (WQ (AsP C f gg2 N.length C.sn.c w0.heap.size 4 e.next e2)) := WQ.non as2
  refine wp_region_head 11 1 (fun y => ∃ s : WQ (AsP C f gg2 N.length C.sn.c w0.heap.size 4 e.next e2), y = s.y) (by kernel_rfl) (by kernel_rfl) (fun _ _ _ _ _ h => h) ⟨⟨w1.drew, as2⟩, rfl⟩ ?_
  simp only [List.take_succ_cons, List.take_zero, List.drop_succ_cons, List.drop_zero]
  repeat go_big_quiet_step (fail)
  refine wpQuiet_nil ?_
  clear f0_2 f1_2 f2_2 g0_2 g1_2 g2_2 g3_2 g4_2 g5_2 g6_2 g7_2 NE2
  unfold wpChain
  go_wp2_with fail
  refine ⟨⟨⟨_, as2.fr al2 ac2 lb2 ag2 (((Fr.refl _ _).alloc _).drew)⟩, rfl⟩, ?_⟩
  rw [wpChain_zero]
  go_wp2_with fail
  have fr2 : Fr (fun _ => False) w1 ((w1.alloc (.cells #[.int .i64 e2.k, .int .i64 e2.a, .int .i64 e2.b, .int .i64 e2.c, .int .i64 e2.next, .int .u64 e2.n, sv e2.s, .int .i64 e2.p] 134)).drew) := ((Fr.refl _ _).alloc _).drew
  have hb2 := HB1.out.fresh fr2
  have hs2 := HS1.out.trans (Stp.fresh QC o1 fr2)
  have hHX2 := HX1.out.st (Stp.fresh QC o1 fr2) q0c
  have hHE2 := HE1.out.st (Stp.fresh QC o1 fr2) q0c
  have hHF2 : Bn ((w1.alloc (.cells #[.int .i64 e2.k, .int .i64 e2.a, .int .i64 e2.b, .int .i64 e2.c, .int .i64 e2.next, .int .u64 e2.n, sv e2.s, .int .i64 e2.p] 134)).drew) o1 e2 w1.heap.size := ⟨(Has.new _ _ _).drew, HB1.out.R.ow _ (Nat.le_refl _)⟩
  clear fr2 as2
  generalize (w1.alloc (.cells #[.int .i64 e2.k, .int .i64 e2.a, .int .i64 e2.b, .int .i64 e2.c, .int .i64 e2.next, .int .u64 e2.n, sv e2.s, .int .i64 e2.p] 134)).drew = w2 at *
  obtain ⟨o2, ho2⟩ : ∃ z, z = o1 := ⟨_, rfl⟩
  rw [← ho2] at hb2 hs2 hHX2 hHE2 hHF2
  clear ho2
  have HB2 : Hid (CB w2 o2 C N f L r a _ _ _) := hb2
  have HS2 : Hid (Stp QC w o w2 o2) := hs2
  have HX2 : Hid (Bn w2 o2 d w.heap.size) := hHX2
  have HE2 : Hid (Bn w2 o2 e w0.heap.size) := hHE2
  have HF2 : Hid (Bn w2 o2 e2 w1.heap.size) := hHF2
  clear hb2 hs2 hHX2 hHE2 hHF2
  clear r0 r1 r2 r3 r4 r5 r6 r7 r8
  obtain ⟨r0, r1, r2, r3, r4, r5, r6, r7, r8⟩ := HX2.out.read
  clear s0 s1 s2 s3 s4 s5 s6 s7 s8
  obtain ⟨s0, s1, s2, s3, s4, s5, s6, s7, s8⟩ := HE2.out.read
  obtain ⟨t0, t1, t2, t3, t4, t5, t6, t7, t8⟩ := HF2.out.read
  refine calmQ_normal ?_
  have HZ3 : Hid (_ ∧ _) := HB2.out.exL A HG1.out (by have := HG.out; omega) (by have := HG.out; omega) (by have := HG.out; omega)
  go_wp2_with fail
  refine (HB2.out.ex A W HG1.out (by have := HG.out; omega) (by have := HG.out; omega) (by have := HG.out; omega)).mono ?_
  rintro e3 w3 ⟨rfl, o3, B3, S3⟩
  have HX3 : Hid (Bn w3 o3 d w.heap.size) := HX2.out.st S3 q0c
  have HE3 : Hid (Bn w3 o3 e w0.heap.size) := HE2.out.st S3 q0c
  have HF3 : Hid (Bn w3 o3 e2 w1.heap.size) := HF2.out.st S3 q0c
  clear r0 r1 r2 r3 r4 r5 r6 r7 r8
  obtain ⟨r0, r1, r2, r3, r4, r5, r6, r7, r8⟩ := HX3.out.read
  clear s0 s1 s2 s3 s4 s5 s6 s7 s8
  obtain ⟨s0, s1, s2, s3, s4, s5, s6, s7, s8⟩ := HE3.out.read
  clear t0 t1 t2 t3 t4 t5 t6 t7 t8
  obtain ⟨t0, t1, t2, t3, t4, t5, t6, t7, t8⟩ := HF3.out.read
  have HB3 : Hid (CB w3 o3 C N f L r b0 _ _ _) := B3
  have HS3 : Hid (Stp QC w o w3 o3) := HS2.out.trans S3
  clear B3 S3
  have HZ4 : Hid (_ ∧ _) := bind_len HB3.out.I [] (by have := HG.out; omega)
  go_wp2_with fail
  refine (HB3.out.bind [] (by have := HG.out; omega) (by have := HG.out; omega)).mono ?_
  rintro e4 w4 ⟨rfl, o4, B4, S4⟩
  have HX4 : Hid (Bn w4 o4 d w.heap.size) := HX3.out.st S4 q0c
  have HE4 : Hid (Bn w4 o4 e w0.heap.size) := HE3.out.st S4 q0c
  have HF4 : Hid (Bn w4 o4 e2 w1.heap.size) := HF3.out.st S4 q0c
  clear r0 r1 r2 r3 r4 r5 r6 r7 r8
  obtain ⟨r0, r1, r2, r3, r4, r5, r6, r7, r8⟩ := HX4.out.read
  clear s0 s1 s2 s3 s4 s5 s6 s7 s8
  obtain ⟨s0, s1, s2, s3, s4, s5, s6, s7, s8⟩ := HE4.out.read
  clear t0 t1 t2 t3 t4 t5 t6 t7 t8
  obtain ⟨t0, t1, t2, t3, t4, t5, t6, t7, t8⟩ := HF4.out.read
  have HB4 : Hid (CB w4 o4 C N f (L ++ [[]]) r b0 _ _ _) := B4
  have HS4 : Hid (Stp QC w o w4 o4) := HS3.out.trans S4
  clear B4 S4
  have HZ5 : Hid (_ ∧ _) := emit_len HB4.out.I [(2, 0)]
  go_wp2_with fail
  refine (HB4.out.emitK (op := 2) (y := 0) rfl rfl rfl (by have := HG.out; omega)).mono ?_
  rintro e5 w5 ⟨rfl, o5, B5, S5⟩
  have HX5 : Hid (Bn w5 o5 d w.heap.size) := HX4.out.st S5 q0c
  have HE5 : Hid (Bn w5 o5 e w0.heap.size) := HE4.out.st S5 q0c
  have HF5 : Hid (Bn w5 o5 e2 w1.heap.size) := HF4.out.st S5 q0c
  clear r0 r1 r2 r3 r4 r5 r6 r7 r8
  obtain ⟨r0, r1, r2, r3, r4, r5, r6, r7, r8⟩ := HX5.out.read
  clear s0 s1 s2 s3 s4 s5 s6 s7 s8
  obtain ⟨s0, s1, s2, s3, s4, s5, s6, s7, s8⟩ := HE5.out.read
  clear t0 t1 t2 t3 t4 t5 t6 t7 t8
  obtain ⟨t0, t1, t2, t3, t4, t5, t6, t7, t8⟩ := HF5.out.read
  have HB5 : Hid (CB w5 o5 C N f (L ++ [[]]) r b0 _ _ _) := B5
  have HS5 : Hid (Stp QC w o w5 o5) := HS4.out.trans S5
  clear B5 S5
  have HZ6 : Hid (_ ∧ _) := bind_len HB5.out.I [] (by have := HG.out; rw [List.length_append, List.length_singleton]; omega)
  go_wp2_with fail
  refine (HB5.out.bind [] (by have := HG.out; rw [List.length_append, List.length_singleton]; omega) (by have := HG.out; omega)).mono ?_
  rintro e6 w6 ⟨rfl, o6, B6, S6⟩
  have HX6 : Hid (Bn w6 o6 d w.heap.size) := HX5.out.st S6 q0c
  have HE6 : Hid (Bn w6 o6 e w0.heap.size) := HE5.out.st S6 q0c
  have HF6 : Hid (Bn w6 o6 e2 w1.heap.size) := HF5.out.st S6 q0c
  clear r0 r1 r2 r3 r4 r5 r6 r7 r8
  obtain ⟨r0, r1, r2, r3, r4, r5, r6, r7, r8⟩ := HX6.out.read
  clear s0 s1 s2 s3 s4 s5 s6 s7 s8
  obtain ⟨s0, s1, s2, s3, s4, s5, s6, s7, s8⟩ := HE6.out.read
  clear t0 t1 t2 t3 t4 t5 t6 t7 t8
  obtain ⟨t0, t1, t2, t3, t4, t5, t6, t7, t8⟩ := HF6.out.read
  have HB6 : Hid (CB w6 o6 C N f (L ++ [[]] ++ [[]]) r b0 _ _ _) := B6
  have HS6 : Hid (Stp QC w o w6 o6) := HS5.out.trans S6
  clear B6 S6
  obtain ⟨t, HT⟩ : ∃ t : Nat, Hid (((((((comN N k 1 f d.b c).bind f []).emit f [(2, 0)]).bind f []).fn f).code.length) = t) := ⟨_, rfl⟩
  obtain ⟨ul, ⟨us, uc⟩, _⟩ := HB6.out.lens
  have tle := HB6.out.pc
  rw [HT.out] at uc tle
  have tle : t ≤ 65000 := by omega
  have HZ7 : Hid (_ ∧ _) := emit_len HB6.out.I [(32, m)]
  go_wp2_with fail
  refine (HB6.out.emitK (op := 32) (y := m) rfl rfl rfl (by have := HG.out; omega)).mono ?_
  rintro e7 w7 ⟨rfl, o7, B7, S7⟩
  have HX7 : Hid (Bn w7 o7 d w.heap.size) := HX6.out.st S7 q0c
  have HE7 : Hid (Bn w7 o7 e w0.heap.size) := HE6.out.st S7 q0c
  have HF7 : Hid (Bn w7 o7 e2 w1.heap.size) := HF6.out.st S7 q0c
  clear r0 r1 r2 r3 r4 r5 r6 r7 r8
  obtain ⟨r0, r1, r2, r3, r4, r5, r6, r7, r8⟩ := HX7.out.read
  clear s0 s1 s2 s3 s4 s5 s6 s7 s8
  obtain ⟨s0, s1, s2, s3, s4, s5, s6, s7, s8⟩ := HE7.out.read
  clear t0 t1 t2 t3 t4 t5 t6 t7 t8
  obtain ⟨t0, t1, t2, t3, t4, t5, t6, t7, t8⟩ := HF7.out.read
  have HB7 : Hid (CB w7 o7 C N f (L ++ [[]] ++ [[]]) r b0 _ _ _) := B7
  have HS7 : Hid (Stp QC w o w7 o7) := HS6.out.trans S7
  clear B7 S7
  clear ul uc
  have HZ8 : Hid (_ = _) := jump_len HB7.out.I 22
  have HY8 : Hid (_ = _) := jump_loops HB7.out.I 22
  go_wp2_with fail
  refine (HB7.out.jump 22 (by have := HG.out; omega)).mono ?_
  rintro e8 w8 ⟨PAa, PAb, o8, rfl, B8, S8, P8⟩
  have HX8 : Hid (Bn w8 o8 d w.heap.size) := HX7.out.st S8 q0c
  have HE8 : Hid (Bn w8 o8 e w0.heap.size) := HE7.out.st S8 q0c
  have HF8 : Hid (Bn w8 o8 e2 w1.heap.size) := HF7.out.st S8 q0c
  clear r0 r1 r2 r3 r4 r5 r6 r7 r8
  obtain ⟨r0, r1, r2, r3, r4, r5, r6, r7, r8⟩ := HX8.out.read
  clear s0 s1 s2 s3 s4 s5 s6 s7 s8
  obtain ⟨s0, s1, s2, s3, s4, s5, s6, s7, s8⟩ := HE8.out.read
  clear t0 t1 t2 t3 t4 t5 t6 t7 t8
  obtain ⟨t0, t1, t2, t3, t4, t5, t6, t7, t8⟩ := HF8.out.read
  have HB8 : Hid (CB w8 o8 C N f (L ++ [[]] ++ [[]]) r b0 _ _ _) := B8
  have HS8 : Hid (Stp QC w o w8 o8) := HS7.out.trans S8
  unfold patV
  have PA8 : Hid (Pat w8 o8 C.gF f (PAa, PAb) _) := P8
  clear P8
  clear B8 S8
  have HZ9 : Hid (_ ∧ _) := open_len HB8.out.I m
  go_wp2_with fail
  refine (HB8.out.open m (by have := HG.out; rw [HY8.out, HZ7.out.2, HZ6.out.2, HZ5.out.2, HZ4.out.2, HZ3.out.1]; omega)).mono ?_
  rintro e9 w9 ⟨rfl, o9, B9, S9⟩
  have HX9 : Hid (Bn w9 o9 d w.heap.size) := HX8.out.st S9 q0c
  have HE9 : Hid (Bn w9 o9 e w0.heap.size) := HE8.out.st S9 q0c
  have HF9 : Hid (Bn w9 o9 e2 w1.heap.size) := HF8.out.st S9 q0c
  clear r0 r1 r2 r3 r4 r5 r6 r7 r8
  obtain ⟨r0, r1, r2, r3, r4, r5, r6, r7, r8⟩ := HX9.out.read
  clear s0 s1 s2 s3 s4 s5 s6 s7 s8
  obtain ⟨s0, s1, s2, s3, s4, s5, s6, s7, s8⟩ := HE9.out.read
  clear t0 t1 t2 t3 t4 t5 t6 t7 t8
  obtain ⟨t0, t1, t2, t3, t4, t5, t6, t7, t8⟩ := HF9.out.read
  have HB9 : Hid (CB w9 o9 C N f (L ++ [[]] ++ [[]]) r b0 _ _ _) := B9
  have HS9 : Hid (Stp QC w o w9 o9) := HS8.out.trans S9
  have PA9 : Hid (Pat w9 o9 C.gF f (PAa, PAb) _) := PA8.out.st S9 q0c
  clear B9 S9
  have HZ10 : Hid (_ ∧ _) := declare_len HB9.out.I e.s
  go_wp2_with fail
  refine (HB9.out.declare e.s (by have := HG.out; simp only [List.length_append, List.length_cons, List.length_nil]; omega)).mono ?_
  rintro e10 w10 ⟨rfl, o10, B10, S10⟩
  have HX10 : Hid (Bn w10 o10 d w.heap.size) := HX9.out.st S10 q0c
  have HE10 : Hid (Bn w10 o10 e w0.heap.size) := HE9.out.st S10 q0c
  have HF10 : Hid (Bn w10 o10 e2 w1.heap.size) := HF9.out.st S10 q0c
  clear r0 r1 r2 r3 r4 r5 r6 r7 r8
  obtain ⟨r0, r1, r2, r3, r4, r5, r6, r7, r8⟩ := HX10.out.read
  clear s0 s1 s2 s3 s4 s5 s6 s7 s8
  obtain ⟨s0, s1, s2, s3, s4, s5, s6, s7, s8⟩ := HE10.out.read
  clear t0 t1 t2 t3 t4 t5 t6 t7 t8
  obtain ⟨t0, t1, t2, t3, t4, t5, t6, t7, t8⟩ := HF10.out.read
  have HB10 : Hid (CB w10 o10 C N f (L ++ [[]] ++ [[]] ++ [e.s]) r b0 _ _ _) := B10
  have HS10 : Hid (Stp QC w o w10 o10) := HS9.out.trans S10
  have PA10 : Hid (Pat w10 o10 C.gF f (PAa, PAb) _) := PA9.out.st S10 q0c
  clear B10 S10
  have HZ11 : Hid (_ ∧ _) := declare_len HB10.out.I e2.s
  go_wp2_with fail
  refine (HB10.out.declare e2.s (by have := HG.out; simp only [List.length_append, List.length_cons, List.length_nil]; omega)).mono ?_
  rintro e11 w11 ⟨rfl, o11, B11, S11⟩
  have HX11 : Hid (Bn w11 o11 d w.heap.size) := HX10.out.st S11 q0c
  have HE11 : Hid (Bn w11 o11 e w0.heap.size) := HE10.out.st S11 q0c
  have HF11 : Hid (Bn w11 o11 e2 w1.heap.size) := HF10.out.st S11 q0c
  clear r0 r1 r2 r3 r4 r5 r6 r7 r8
  obtain ⟨r0, r1, r2, r3, r4, r5, r6, r7, r8⟩ := HX11.out.read
  clear s0 s1 s2 s3 s4 s5 s6 s7 s8
  obtain ⟨s0, s1, s2, s3, s4, s5, s6, s7, s8⟩ := HE11.out.read
  clear t0 t1 t2 t3 t4 t5 t6 t7 t8
  obtain ⟨t0, t1, t2, t3, t4, t5, t6, t7, t8⟩ := HF11.out.read
  have HB11 : Hid (CB w11 o11 C N f (L ++ [[]] ++ [[]] ++ [e.s] ++ [e2.s]) r b0 _ _ _) := B11
  have HS11 : Hid (Stp QC w o w11 o11) := HS10.out.trans S11
  have PA11 : Hid (Pat w11 o11 C.gF f (PAa, PAb) _) := PA10.out.st S11 q0c
  clear B11 S11
  obtain ⟨hs12, hl12⟩ := HB11.out.blL A (lb := m) (lp := true) HC1.out (by have h := HQ1.out; simp only [List.length_append, List.length_cons, List.length_nil]; exact h) (by have := HG.out; omega) (fun _ => ⟨by rw [← HM.out]; simp only [List.length_append, List.length_cons, List.length_nil]; omega, _, _, (by rw [HZ11.out.2, HZ10.out.2]; exact HZ9.out.2)⟩) (by have := HG.out; omega) (by have := HG.out; omega) (by have := HG.out; omega)
  have HZ12 : Hid (_ ∧ _ ∧ _ ∧ _) := hl12
  clear hl12
  go_wp2_with fail
  refine (HB11.out.bl A W (lb := m) (lp := true) HC1.out (by have h := HQ1.out; simp only [List.length_append, List.length_cons, List.length_nil]; exact h) (by have := HG.out; omega) (fun _ => ⟨by rw [← HM.out]; simp only [List.length_append, List.length_cons, List.length_nil]; omega, _, _, (by rw [HZ11.out.2, HZ10.out.2]; exact HZ9.out.2)⟩) (by rw [HZ11.out.2, HZ10.out.2, HZ9.out.2, HY8.out, HZ7.out.2, HZ6.out.2, HZ5.out.2, HZ4.out.2, HZ3.out.1]; exact HLB.out.open (by have := HG.out; omega)) (by have := HG.out; omega) (by have := HG.out; omega) (by have := HG.out; omega)).mono ?_
  rintro e12 w12 ⟨rfl, o12, B12, S12⟩
  have HX12 : Hid (Bn w12 o12 d w.heap.size) := HX11.out.st S12 q0c
  have HE12 : Hid (Bn w12 o12 e w0.heap.size) := HE11.out.st S12 q0c
  have HF12 : Hid (Bn w12 o12 e2 w1.heap.size) := HF11.out.st S12 q0c
  clear r0 r1 r2 r3 r4 r5 r6 r7 r8
  obtain ⟨r0, r1, r2, r3, r4, r5, r6, r7, r8⟩ := HX12.out.read
  clear s0 s1 s2 s3 s4 s5 s6 s7 s8
  obtain ⟨s0, s1, s2, s3, s4, s5, s6, s7, s8⟩ := HE12.out.read
  clear t0 t1 t2 t3 t4 t5 t6 t7 t8
  obtain ⟨t0, t1, t2, t3, t4, t5, t6, t7, t8⟩ := HF12.out.read
  have HB12 : Hid (CB w12 o12 C N f (L ++ [[]] ++ [[]] ++ [e.s] ++ [e2.s]) r b _ _ _) := B12
  have HS12 : Hid (Stp QC w o w12 o12) := HS11.out.trans S12
  have PA12 : Hid (Pat w12 o12 C.gF f (PAa, PAb) _) := PA11.out.st S12 q0c
  clear B12 S12
  have HZ13 : Hid (_ ∧ _) := leave_len HB12.out.I (m + 2)
  go_wp2_with fail
  refine (HB12.out.leave (m + 2) (by have := HG.out; have := HM.out; omega) (by have := HG.out; omega)).mono ?_
  rintro e13 w13 ⟨rfl, o13, B13, S13⟩
  have HX13 : Hid (Bn w13 o13 d w.heap.size) := HX12.out.st S13 q0c
  have HE13 : Hid (Bn w13 o13 e w0.heap.size) := HE12.out.st S13 q0c
  have HF13 : Hid (Bn w13 o13 e2 w1.heap.size) := HF12.out.st S13 q0c
  clear r0 r1 r2 r3 r4 r5 r6 r7 r8
  obtain ⟨r0, r1, r2, r3, r4, r5, r6, r7, r8⟩ := HX13.out.read
  clear s0 s1 s2 s3 s4 s5 s6 s7 s8
  obtain ⟨s0, s1, s2, s3, s4, s5, s6, s7, s8⟩ := HE13.out.read
  clear t0 t1 t2 t3 t4 t5 t6 t7 t8
  obtain ⟨t0, t1, t2, t3, t4, t5, t6, t7, t8⟩ := HF13.out.read
  have HB13 : Hid (CB w13 o13 C N f (List.take (m + 2) (L ++ [[]] ++ [[]] ++ [e.s] ++ [e2.s])) r b _ _ _) := B13
  have HS13 : Hid (Stp QC w o w13 o13) := HS12.out.trans S13
  have PA13 : Hid (Pat w13 o13 C.gF f (PAa, PAb) _) := PA12.out.st S13 q0c
  clear B13 S13
  have HZ14 : Hid (_ ∧ _) := emit_len HB13.out.I [(21, t)]
  go_wp2_with fail
  refine (HB13.out.emitK (op := 21) (y := t) rfl rfl rfl (by have := HG.out; omega)).mono ?_
  rintro e14 w14 ⟨rfl, o14, B14, S14⟩
  have HX14 : Hid (Bn w14 o14 d w.heap.size) := HX13.out.st S14 q0c
  have HE14 : Hid (Bn w14 o14 e w0.heap.size) := HE13.out.st S14 q0c
  have HF14 : Hid (Bn w14 o14 e2 w1.heap.size) := HF13.out.st S14 q0c
  clear r0 r1 r2 r3 r4 r5 r6 r7 r8
  obtain ⟨r0, r1, r2, r3, r4, r5, r6, r7, r8⟩ := HX14.out.read
  clear s0 s1 s2 s3 s4 s5 s6 s7 s8
  obtain ⟨s0, s1, s2, s3, s4, s5, s6, s7, s8⟩ := HE14.out.read
  clear t0 t1 t2 t3 t4 t5 t6 t7 t8
  obtain ⟨t0, t1, t2, t3, t4, t5, t6, t7, t8⟩ := HF14.out.read
  have HB14 : Hid (CB w14 o14 C N f (List.take (m + 2) (L ++ [[]] ++ [[]] ++ [e.s] ++ [e2.s])) r b _ _ _) := B14
  have HS14 : Hid (Stp QC w o w14 o14) := HS13.out.trans S14
  have PA14 : Hid (Pat w14 o14 C.gF f (PAa, PAb) _) := PA13.out.st S14 q0c
  clear B14 S14
  have HK : Hid (_ < _) := (by have z8 := HZ8.out; have z9 := HZ9.out.1; have z10 := HZ10.out.1; have z11 := HZ11.out.1; have z12 := HZ12.out.2.1; have z13 := HZ13.out.1; have z14 := HZ14.out.1; simp only [List.length_cons, List.length_nil] at z14; exact Nat.lt_of_lt_of_le (Nat.lt_succ_self _) (Nat.le_trans (Nat.le_of_eq (by rw [z11, z10, z9, z8])) (Nat.le_trans z12 (Nat.le_trans z13 (Nat.le_trans (Nat.le_succ _) (Nat.le_of_eq z14.symm))))))
  have HZ15 : Hid (∀ p, _ ∧ _) := fun p => land_len HB14.out.I p
  go_wp2_with fail
  refine (HB14.out.land PA14.out HK.out).mono ?_
  rintro e15 w15 ⟨rfl, o15, B15, S15⟩
  have HX15 : Hid (Bn w15 o15 d w.heap.size) := HX14.out.st S15 q0c
  have HE15 : Hid (Bn w15 o15 e w0.heap.size) := HE14.out.st S15 q0c
  have HF15 : Hid (Bn w15 o15 e2 w1.heap.size) := HF14.out.st S15 q0c
  clear r0 r1 r2 r3 r4 r5 r6 r7 r8
  obtain ⟨r0, r1, r2, r3, r4, r5, r6, r7, r8⟩ := HX15.out.read
  clear s0 s1 s2 s3 s4 s5 s6 s7 s8
  obtain ⟨s0, s1, s2, s3, s4, s5, s6, s7, s8⟩ := HE15.out.read
  clear t0 t1 t2 t3 t4 t5 t6 t7 t8
  obtain ⟨t0, t1, t2, t3, t4, t5, t6, t7, t8⟩ := HF15.out.read
  have HB15 : Hid (CB w15 o15 C N f (List.take (m + 2) (L ++ [[]] ++ [[]] ++ [e.s] ++ [e2.s])) r b _ _ _) := B15
  have HS15 : Hid (Stp QC w o w15 o15) := HS14.out.trans S15
  clear B15 S15
  have HEQ : Hid (∀ p, _ = _ ++ [_]) := fun p => (((HZ15.out p).2.trans HZ14.out.2).trans HZ13.out.2).trans (HZ12.out.1.trans (by rw [HZ11.out.2, HZ10.out.2, HZ9.out.2, HY8.out, HZ7.out.2, HZ6.out.2, HZ5.out.2, HZ4.out.2, HZ3.out.1, addB_snoc] : _ = (c.fn f).loops ++ [⟨m, [] ++ hs12⟩]))
  go_wp2_with fail
  refine (HB15.out.shut (HEQ.out _) (fun q hq => by have h1 := HZ12.out.2.2.1 q (by simpa using hq); have h2 := HZ13.out.1; have h3 := HZ14.out.1; rw [(HZ15.out _).1, h3]; omega) (by have := HG.out; omega) (by have := HZ12.out.2.2.2.1; simp; omega)).mono ?_
  rintro e16 w16 ⟨rfl, o16, B16, S16⟩
  have HX16 : Hid (Bn w16 o16 d w.heap.size) := HX15.out.st S16 q0c
  have HE16 : Hid (Bn w16 o16 e w0.heap.size) := HE15.out.st S16 q0c
  have HF16 : Hid (Bn w16 o16 e2 w1.heap.size) := HF15.out.st S16 q0c
  clear r0 r1 r2 r3 r4 r5 r6 r7 r8
  obtain ⟨r0, r1, r2, r3, r4, r5, r6, r7, r8⟩ := HX16.out.read
  clear s0 s1 s2 s3 s4 s5 s6 s7 s8
  obtain ⟨s0, s1, s2, s3, s4, s5, s6, s7, s8⟩ := HE16.out.read
  clear t0 t1 t2 t3 t4 t5 t6 t7 t8
  obtain ⟨t0, t1, t2, t3, t4, t5, t6, t7, t8⟩ := HF16.out.read
  have HB16 : Hid (CB w16 o16 C N f (List.take (m + 2) (L ++ [[]] ++ [[]] ++ [e.s] ++ [e2.s])) r b _ _ _) := B16
  have HS16 : Hid (Stp QC w o w16 o16) := HS15.out.trans S16
  clear B16 S16
  go_wp2_with fail
  refine leaves_cons (f := 100) (args := #[.pointer (some ⟨C.gF, f * 11, none⟩), .int .i64 m]) (by simp) (by simp [go_sem]) ?_
  refine (leave_d .returning HB16.out.R HB16.out.hf m (by omega) (by have h1 := HB16.out.pc; omega)).mono ?_
  rintro e17 u17 w17 ⟨rfl, rfl, o17, R17, S17⟩
  refine ⟨_, results_none rfl _ _ _, rfl, o17, ?_, HS16.out.trans (CB.qs S17)⟩
  rw [HEND.out]
  have e1 : m % 65536 = m := Nat.mod_eq_of_lt (by omega)
  have e2 : t % 65536 = t := Nat.mod_eq_of_lt (by omega)
  simp only [HLC.out, e1, CmD.here, HT.out, e2]
  exact R17
end
end Go.Proofs.Qxb6500574aGreatDoor
