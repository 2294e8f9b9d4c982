/-
  THE WALK of comp: two locals; statements handed on (written by tools/gen_st.py).
-/
import Derived.Test.Qxb6500574aGreatDoorWCm28
namespace Go.Proofs.Qxb6500574aGreatDoor
open Go Go.RowKit
set_option linter.unusedVariables false
set_option linter.unusedSimpArgs false
open Go.Lib
section
set_option maxRecDepth 100000
set_option maxHeartbeats 1000000
variable {w : World} {o : Nat → Nat} {C : CC} {N : List Nd} {c : CmD} {f n k a b lo : Nat} {L : List Bs} {r : En}
theorem st_2 (A : CA N k) (W : CW N C k) (B : CB w o C N f L r a (17 * (n - lo)) (n - lo) c) (hn : n < N.length) (hd : (N.getD n nd0).k = 2) (g2 : L.length + 2 ≤ 12) (g3 : (N.getD n nd0).a = lo + 1) (g4 : (N.getD (N.getD n nd0).a nd0).next = lo + 2) (g6 : n = (N.getD n nd0).b + 1) (g7 : (N.getD (N.getD n nd0).b nd0).k = 19) (g8 : Sh N 1 (N.getD n nd0).b (lo + 2) a b 120 0 0 false) (hk : 2 * n + 2 ≤ k + 1) :
    Calls Tryz.prog 102 #[fptr C.gF f, .int .i64 n] w (CQ w o C N (comN N (k + 1) 0 f n c)) := by
  have hloc : ((comN N k 2 f (N.getD n nd0).b c).fn f).locals = L := by
    have := g8.lt
    obtain ⟨_, _, p1, _⟩ := A.ca f L r _ a b _ _ c g8 g7 (B.pre (by omega) (by omega)) (by omega)
    exact p1.iv.loc
  rw [com_s2 hd, hloc, Nat.mod_eq_of_lt (by omega : L.length < 65536)]
  obtain ⟨gg, ha, ⟨q1, q2, q3, q4, q5, q6, q7⟩⟩ := B.R.nd B.hf (by omega)
  have x0 := q7 n 0 hn (by omega)
  have x1 := q7 n 1 hn (by omega)
  have x2 := q7 n 2 hn (by omega)
  have x3 := q7 n 3 hn (by omega)
  have x4 := q7 n 4 hn (by omega)
  have x5 := q7 n 5 hn (by omega)
  have x6 := q7 n 6 hn (by omega)
  have x7 := q7 n 7 hn (by omega)
  simp only [ndV, List.getElem?_cons_succ, List.getElem?_cons_zero, Nat.add_zero] at x0 x1 x2 x3 x4 x5 x6 x7
  have HB0 : Hid (CB (w.alloc (.cells (ndV (N.getD n nd0)).toArray 134)) o C N f L r a (17 * (n - lo)) (n - lo) c) := B.alloc _
  have HX0 : Hid (Bn (w.alloc (.cells (ndV (N.getD n nd0)).toArray 134)) o (N.getD n nd0) w.heap.size) := Bn.new B.R _
  have HS0 : Hid (Stp QC w o (w.alloc (.cells (ndV (N.getD n nd0)).toArray 134)) o) := (Stp.refl _ _ _).alloc _
  rw [hd] at x0
  have HG : Hid ((N.getD n nd0).a = lo + 1 ∧ (N.getD (N.getD n nd0).a nd0).next = lo + 2 ∧ lo + 2 < (N.getD n nd0).b ∧ n = (N.getD n nd0).b + 1 ∧ 2 * n + 2 ≤ k + 1 ∧ n < N.length ∧ L.length + 2 ≤ 12) := ⟨g3, g4, g8.lt, g6, hk, hn, g2⟩
  have HG1 : Hid (Sh N 1 (N.getD n nd0).b (lo + 2) a b 120 0 0 false ∧ (N.getD (N.getD n nd0).b nd0).k = 19) := ⟨g8, g7⟩
  obtain ⟨w0, HW0⟩ : ∃ w0, Hid (w.alloc (.cells (ndV (N.getD n nd0)).toArray 134) = w0) := ⟨_, rfl⟩
  rw [HW0.out] at HB0 HX0 HS0
  obtain ⟨o0, ho0⟩ : ∃ z, z = o := ⟨_, rfl⟩
  rw [← ho0] at HB0 HX0
  have HS0 : Hid (Stp QC w o w0 o0) := by rw [ho0]; exact HS0
  clear ho0
  obtain ⟨m, HM⟩ : ∃ m : Nat, Hid (L.length = m) := ⟨_, rfl⟩
  rw [HM.out] at g2 ⊢
  clear B q7 ha g3 g4 g6 g7 g8 hk hloc
  generalize hD : N.getD n nd0 = d at *
  clear hD
  have hV : (ndV d).toArray = #[.int .i64 2, .int .i64 d.a, .int .i64 d.b, .int .i64 d.c, .int .i64 d.next, .int .u64 d.n, sv d.s, .int .i64 d.p] := by unfold ndV; rw [hd]; rfl
  rw [hV] at HW0
  clear hV hd
  unfold fptr
  go_enter Tryz.func102, Tryz.ntmps102
  go_wp2_with fail
  rw [HW0.out]
  obtain ⟨r0, r1, r2, r3, r4, r5, r6, r7, r8⟩ := HX0.out.read
  obtain ⟨gg1, as1, al1, ac1, ag1, an1⟩ := HB0.out.asp (bk := w.heap.size) (j := 1) (x := d.a) (by have := HG.out; omega) (by rw [HX0.out.hd.cell]; rfl)
  have lb1 := HX0.out.hd.lt
  have lx1 : d.a < N.length := (by have := HG.out; omega)
  generalize hE1 : N.getD d.a nd0 = e at *
  have f0_1 : ∀ s : WQ (AsP C f gg1 N.length C.sn.c w.heap.size 1 d.a e), s.y.cell? ⟨C.gF, f * 11, none⟩ = some (.pointer (some ⟨C.cb, 0, none⟩)) := fun s => s.f.1
  have f1_1 : ∀ s : WQ (AsP C f gg1 N.length C.sn.c w.heap.size 1 d.a e), s.y.cell? ⟨C.cb, 2, none⟩ = some (.slice (some ⟨gg1, 0, none⟩) N.length C.sn.c) := fun s => s.f.2.1
  have f2_1 : ∀ s : WQ (AsP C f gg1 N.length C.sn.c w.heap.size 1 d.a e), s.y.cell? ⟨w.heap.size, 1, none⟩ = some (.int .i64 (d.a : Nat)) := fun s => s.f.2.2.1
  have g0_1 : ∀ s : WQ (AsP C f gg1 N.length C.sn.c w.heap.size 1 d.a e), s.y.cell? ⟨gg1, d.a * 8, none⟩ = some (.int .i64 (e.k : Nat)) := fun s => s.f.2.2.2.1
  have g1_1 : ∀ s : WQ (AsP C f gg1 N.length C.sn.c w.heap.size 1 d.a e), s.y.cell? ⟨gg1, d.a * 8 + 1, none⟩ = some (.int .i64 (e.a : Nat)) := fun s => s.f.2.2.2.2.1
  have g2_1 : ∀ s : WQ (AsP C f gg1 N.length C.sn.c w.heap.size 1 d.a e), s.y.cell? ⟨gg1, d.a * 8 + 2, none⟩ = some (.int .i64 (e.b : Nat)) := fun s => s.f.2.2.2.2.2.1
  have g3_1 : ∀ s : WQ (AsP C f gg1 N.length C.sn.c w.heap.size 1 d.a e), s.y.cell? ⟨gg1, d.a * 8 + 3, none⟩ = some (.int .i64 (e.c : Nat)) := fun s => s.f.2.2.2.2.2.2.1
  have g4_1 : ∀ s : WQ (AsP C f gg1 N.length C.sn.c w.heap.size 1 d.a e), s.y.cell? ⟨gg1, d.a * 8 + 4, none⟩ = some (.int .i64 (e.next : Nat)) := fun s => s.f.2.2.2.2.2.2.2.1
  have g5_1 : ∀ s : WQ (AsP C f gg1 N.length C.sn.c w.heap.size 1 d.a e), s.y.cell? ⟨gg1, d.a * 8 + 5, none⟩ = some (.int .u64 (e.n : Nat)) := fun s => s.f.2.2.2.2.2.2.2.2.1
  have g6_1 : ∀ s : WQ (AsP C f gg1 N.length C.sn.c w.heap.size 1 d.a e), s.y.cell? ⟨gg1, d.a * 8 + 6, none⟩ = some (sv e.s) := fun s => s.f.2.2.2.2.2.2.2.2.2.1
  have g7_1 : ∀ s : WQ (AsP C f gg1 N.length C.sn.c w.heap.size 1 d.a e), s.y.cell? ⟨gg1, d.a * 8 + 7, none⟩ = some (.int .i64 (e.p : Nat)) := fun s => s.f.2.2.2.2.2.2.2.2.2.2
  have NE1 : Nonempty (WQ (AsP C f gg1 N.length C.sn.c w.heap.size 1 d.a e)) := WQ.non as1
  refine wp_region_head 11 1 (fun y => ∃ s : WQ (AsP C f gg1 N.length C.sn.c w.heap.size 1 d.a e), y = s.y) (by kernel_rfl) (by kernel_rfl) (fun _ _ _ _ _ h => h) ⟨⟨w0.drew, as1⟩, rfl⟩ ?_
  simp only [List.take_succ_cons, List.take_zero, List.drop_succ_cons, List.drop_zero]
  repeat go_big_quiet_step (fail)
  refine wpQuiet_nil ?_
  clear f0_1 f1_1 f2_1 g0_1 g1_1 g2_1 g3_1 g4_1 g5_1 g6_1 g7_1 NE1
  unfold wpChain
  go_wp2_with fail
  refine ⟨⟨⟨_, as1.fr al1 ac1 lb1 ag1 (((Fr.refl _ _).alloc _).drew)⟩, rfl⟩, ?_⟩
  rw [wpChain_zero]
  go_wp2_with fail
  have fr1 : Fr (fun _ => False) w0 ((w0.alloc (.cells #[.int .i64 e.k, .int .i64 e.a, .int .i64 e.b, .int .i64 e.c, .int .i64 e.next, .int .u64 e.n, sv e.s, .int .i64 e.p] 134)).drew) := ((Fr.refl _ _).alloc _).drew
  have hb1 := HB0.out.fresh fr1
  have hs1 := HS0.out.trans (Stp.fresh QC o0 fr1)
  have hHX1 := HX0.out.st (Stp.fresh QC o0 fr1) q0c
  have hHE1 : Bn ((w0.alloc (.cells #[.int .i64 e.k, .int .i64 e.a, .int .i64 e.b, .int .i64 e.c, .int .i64 e.next, .int .u64 e.n, sv e.s, .int .i64 e.p] 134)).drew) o0 e w0.heap.size := ⟨(Has.new _ _ _).drew, HB0.out.R.ow _ (Nat.le_refl _)⟩
  clear fr1 as1
  generalize (w0.alloc (.cells #[.int .i64 e.k, .int .i64 e.a, .int .i64 e.b, .int .i64 e.c, .int .i64 e.next, .int .u64 e.n, sv e.s, .int .i64 e.p] 134)).drew = w1 at *
  obtain ⟨o1, ho1⟩ : ∃ z, z = o0 := ⟨_, rfl⟩
  rw [← ho1] at hb1 hs1 hHX1 hHE1
  clear ho1
  have HB1 : Hid (CB w1 o1 C N f L r a _ _ _) := hb1
  have HS1 : Hid (Stp QC w o w1 o1) := hs1
  have HX1 : Hid (Bn w1 o1 d w.heap.size) := hHX1
  have HE1 : Hid (Bn w1 o1 e w0.heap.size) := hHE1
  clear hb1 hs1 hHX1 hHE1
  clear r0 r1 r2 r3 r4 r5 r6 r7 r8
  obtain ⟨r0, r1, r2, r3, r4, r5, r6, r7, r8⟩ := HX1.out.read
  obtain ⟨s0, s1, s2, s3, s4, s5, s6, s7, s8⟩ := HE1.out.read
  obtain ⟨gg2, as2, al2, ac2, ag2, an2⟩ := HB1.out.asp (bk := w0.heap.size) (j := 4) (x := e.next) (by have := HG.out; omega) (by rw [HE1.out.hd.cell]; rfl)
  have lb2 := HE1.out.hd.lt
  have lx2 : e.next < N.length := (by have := HG.out; omega)
  generalize hE2 : N.getD e.next nd0 = e2 at *
  have f0_2 : ∀ s : WQ (AsP C f gg2 N.length C.sn.c w0.heap.size 4 e.next e2), s.y.cell? ⟨C.gF, f * 11, none⟩ = some (.pointer (some ⟨C.cb, 0, none⟩)) := fun s => s.f.1
  have f1_2 : ∀ s : WQ (AsP C f gg2 N.length C.sn.c w0.heap.size 4 e.next e2), s.y.cell? ⟨C.cb, 2, none⟩ = some (.slice (some ⟨gg2, 0, none⟩) N.length C.sn.c) := fun s => s.f.2.1
  have f2_2 : ∀ s : WQ (AsP C f gg2 N.length C.sn.c w0.heap.size 4 e.next e2), s.y.cell? ⟨w0.heap.size, 4, none⟩ = some (.int .i64 (e.next : Nat)) := fun s => s.f.2.2.1
  have g0_2 : ∀ s : WQ (AsP C f gg2 N.length C.sn.c w0.heap.size 4 e.next e2), s.y.cell? ⟨gg2, e.next * 8, none⟩ = some (.int .i64 (e2.k : Nat)) := fun s => s.f.2.2.2.1
  have g1_2 : ∀ s : WQ (AsP C f gg2 N.length C.sn.c w0.heap.size 4 e.next e2), s.y.cell? ⟨gg2, e.next * 8 + 1, none⟩ = some (.int .i64 (e2.a : Nat)) := fun s => s.f.2.2.2.2.1
  have g2_2 : ∀ s : WQ (AsP C f gg2 N.length C.sn.c w0.heap.size 4 e.next e2), s.y.cell? ⟨gg2, e.next * 8 + 2, none⟩ = some (.int .i64 (e2.b : Nat)) := fun s => s.f.2.2.2.2.2.1
  have g3_2 : ∀ s : WQ (AsP C f gg2 N.length C.sn.c w0.heap.size 4 e.next e2), s.y.cell? ⟨gg2, e.next * 8 + 3, none⟩ = some (.int .i64 (e2.c : Nat)) := fun s => s.f.2.2.2.2.2.2.1
  have g4_2 : ∀ s : WQ (AsP C f gg2 N.length C.sn.c w0.heap.size 4 e.next e2), s.y.cell? ⟨gg2, e.next * 8 + 4, none⟩ = some (.int .i64 (e2.next : Nat)) := fun s => s.f.2.2.2.2.2.2.2.1
  have g5_2 : ∀ s : WQ (AsP C f gg2 N.length C.sn.c w0.heap.size 4 e.next e2), s.y.cell? ⟨gg2, e.next * 8 + 5, none⟩ = some (.int .u64 (e2.n : Nat)) := fun s => s.f.2.2.2.2.2.2.2.2.1
  have g6_2 : ∀ s : WQ (AsP C f gg2 N.length C.sn.c w0.heap.size 4 e.next e2), s.y.cell? ⟨gg2, e.next * 8 + 6, none⟩ = some (sv e2.s) := fun s => s.f.2.2.2.2.2.2.2.2.2.1
  have g7_2 : ∀ s : WQ (AsP C f gg2 N.length C.sn.c w0.heap.size 4 e.next e2), s.y.cell? ⟨gg2, e.next * 8 + 7, none⟩ = some (.int .i64 (e2.p : Nat)) := fun s => s.f.2.2.2.2.2.2.2.2.2.2
  have NE2 : Nonempty (WQ (AsP C f gg2 N.length C.sn.c w0.heap.size 4 e.next e2)) := WQ.non as2
  refine wp_region_head 11 1 (fun y => ∃ s : WQ (AsP C f gg2 N.length C.sn.c w0.heap.size 4 e.next e2), y = s.y) (by kernel_rfl) (by kernel_rfl) (fun _ _ _ _ _ h => h) ⟨⟨w1.drew, as2⟩, rfl⟩ ?_
  simp only [List.take_succ_cons, List.take_zero, List.drop_succ_cons, List.drop_zero]
  repeat go_big_quiet_step (fail)
  refine wpQuiet_nil ?_
  clear f0_2 f1_2 f2_2 g0_2 g1_2 g2_2 g3_2 g4_2 g5_2 g6_2 g7_2 NE2
  unfold wpChain
  go_wp2_with fail
  refine ⟨⟨⟨_, as2.fr al2 ac2 lb2 ag2 (((Fr.refl _ _).alloc _).drew)⟩, rfl⟩, ?_⟩
  rw [wpChain_zero]
  go_wp2_with fail
  have fr2 : Fr (fun _ => False) w1 ((w1.alloc (.cells #[.int .i64 e2.k, .int .i64 e2.a, .int .i64 e2.b, .int .i64 e2.c, .int .i64 e2.next, .int .u64 e2.n, sv e2.s, .int .i64 e2.p] 134)).drew) := ((Fr.refl _ _).alloc _).drew
  have hb2 := HB1.out.fresh fr2
  have hs2 := HS1.out.trans (Stp.fresh QC o1 fr2)
  have hHX2 := HX1.out.st (Stp.fresh QC o1 fr2) q0c
  have hHE2 := HE1.out.st (Stp.fresh QC o1 fr2) q0c
  have hHF2 : Bn ((w1.alloc (.cells #[.int .i64 e2.k, .int .i64 e2.a, .int .i64 e2.b, .int .i64 e2.c, .int .i64 e2.next, .int .u64 e2.n, sv e2.s, .int .i64 e2.p] 134)).drew) o1 e2 w1.heap.size := ⟨(Has.new _ _ _).drew, HB1.out.R.ow _ (Nat.le_refl _)⟩
  clear fr2 as2
  generalize (w1.alloc (.cells #[.int .i64 e2.k, .int .i64 e2.a, .int .i64 e2.b, .int .i64 e2.c, .int .i64 e2.next, .int .u64 e2.n, sv e2.s, .int .i64 e2.p] 134)).drew = w2 at *
  obtain ⟨o2, ho2⟩ : ∃ z, z = o1 := ⟨_, rfl⟩
  rw [← ho2] at hb2 hs2 hHX2 hHE2 hHF2
  clear ho2
  have HB2 : Hid (CB w2 o2 C N f L r a _ _ _) := hb2
  have HS2 : Hid (Stp QC w o w2 o2) := hs2
  have HX2 : Hid (Bn w2 o2 d w.heap.size) := hHX2
  have HE2 : Hid (Bn w2 o2 e w0.heap.size) := hHE2
  have HF2 : Hid (Bn w2 o2 e2 w1.heap.size) := hHF2
  clear hb2 hs2 hHX2 hHE2 hHF2
  clear r0 r1 r2 r3 r4 r5 r6 r7 r8
  obtain ⟨r0, r1, r2, r3, r4, r5, r6, r7, r8⟩ := HX2.out.read
  clear s0 s1 s2 s3 s4 s5 s6 s7 s8
  obtain ⟨s0, s1, s2, s3, s4, s5, s6, s7, s8⟩ := HE2.out.read
  obtain ⟨t0, t1, t2, t3, t4, t5, t6, t7, t8⟩ := HF2.out.read
  refine (HB2.out.ca A W HG1.out.1 HG1.out.2 (by have := HG.out; omega) (by have := HG.out; omega) (by have := HG.out; omega)).mono ?_
  rintro e3 w3 ⟨rfl, o3, B3, S3⟩
  have HX3 : Hid (Bn w3 o3 d w.heap.size) := HX2.out.st S3 q0c
  have HE3 : Hid (Bn w3 o3 e w0.heap.size) := HE2.out.st S3 q0c
  have HF3 : Hid (Bn w3 o3 e2 w1.heap.size) := HF2.out.st S3 q0c
  clear r0 r1 r2 r3 r4 r5 r6 r7 r8
  obtain ⟨r0, r1, r2, r3, r4, r5, r6, r7, r8⟩ := HX3.out.read
  clear s0 s1 s2 s3 s4 s5 s6 s7 s8
  obtain ⟨s0, s1, s2, s3, s4, s5, s6, s7, s8⟩ := HE3.out.read
  clear t0 t1 t2 t3 t4 t5 t6 t7 t8
  obtain ⟨t0, t1, t2, t3, t4, t5, t6, t7, t8⟩ := HF3.out.read
  have HB3 : Hid (CB w3 o3 C N f L r b _ _ _) := B3
  have HS3 : Hid (Stp QC w o w3 o3) := HS2.out.trans S3
  clear B3 S3
  have HDc := HB3.out.declare e.s (by have := HG.out; omega)
  rw [HM.out] at HDc
  unfold fptr at HDc
  go_wp2_with fail
  refine (HDc).mono ?_
  rintro e4 w4 ⟨rfl, o4, B4, S4⟩
  have HX4 : Hid (Bn w4 o4 d w.heap.size) := HX3.out.st S4 q0c
  have HE4 : Hid (Bn w4 o4 e w0.heap.size) := HE3.out.st S4 q0c
  have HF4 : Hid (Bn w4 o4 e2 w1.heap.size) := HF3.out.st S4 q0c
  clear r0 r1 r2 r3 r4 r5 r6 r7 r8
  obtain ⟨r0, r1, r2, r3, r4, r5, r6, r7, r8⟩ := HX4.out.read
  clear s0 s1 s2 s3 s4 s5 s6 s7 s8
  obtain ⟨s0, s1, s2, s3, s4, s5, s6, s7, s8⟩ := HE4.out.read
  clear t0 t1 t2 t3 t4 t5 t6 t7 t8
  obtain ⟨t0, t1, t2, t3, t4, t5, t6, t7, t8⟩ := HF4.out.read
  have HB4 : Hid (CB w4 o4 C N f (L ++ [e.s]) r b _ _ _) := B4
  have HS4 : Hid (Stp QC w o w4 o4) := HS3.out.trans S4
  clear HDc
  clear B4 S4
  go_wp2_with fail
  refine (HB4.out.bind e2.s (by have := HG.out; rw [List.length_append, List.length_singleton]; omega) (by have := HG.out; omega)).mono ?_
  rintro e5 w5 ⟨rfl, o5, B5, S5⟩
  have HX5 : Hid (Bn w5 o5 d w.heap.size) := HX4.out.st S5 q0c
  have HE5 : Hid (Bn w5 o5 e w0.heap.size) := HE4.out.st S5 q0c
  have HF5 : Hid (Bn w5 o5 e2 w1.heap.size) := HF4.out.st S5 q0c
  clear r0 r1 r2 r3 r4 r5 r6 r7 r8
  obtain ⟨r0, r1, r2, r3, r4, r5, r6, r7, r8⟩ := HX5.out.read
  clear s0 s1 s2 s3 s4 s5 s6 s7 s8
  obtain ⟨s0, s1, s2, s3, s4, s5, s6, s7, s8⟩ := HE5.out.read
  clear t0 t1 t2 t3 t4 t5 t6 t7 t8
  obtain ⟨t0, t1, t2, t3, t4, t5, t6, t7, t8⟩ := HF5.out.read
  have HB5 : Hid (CB w5 o5 C N f (L ++ [e.s] ++ [e2.s]) r b _ _ _) := B5
  have HS5 : Hid (Stp QC w o w5 o5) := HS4.out.trans S5
  clear B5 S5
  go_wp2_with fail
  refine (HB5.out.emitK (op := 6) (y := m) rfl rfl rfl (by have := HG.out; omega)).mono ?_
  rintro e6 w6 ⟨rfl, o6, B6, S6⟩
  have HX6 : Hid (Bn w6 o6 d w.heap.size) := HX5.out.st S6 q0c
  have HE6 : Hid (Bn w6 o6 e w0.heap.size) := HE5.out.st S6 q0c
  have HF6 : Hid (Bn w6 o6 e2 w1.heap.size) := HF5.out.st S6 q0c
  clear r0 r1 r2 r3 r4 r5 r6 r7 r8
  obtain ⟨r0, r1, r2, r3, r4, r5, r6, r7, r8⟩ := HX6.out.read
  clear s0 s1 s2 s3 s4 s5 s6 s7 s8
  obtain ⟨s0, s1, s2, s3, s4, s5, s6, s7, s8⟩ := HE6.out.read
  clear t0 t1 t2 t3 t4 t5 t6 t7 t8
  obtain ⟨t0, t1, t2, t3, t4, t5, t6, t7, t8⟩ := HF6.out.read
  have HB6 : Hid (CB w6 o6 C N f (L ++ [e.s] ++ [e2.s]) r b _ _ _) := B6
  have HS6 : Hid (Stp QC w o w6 o6) := HS5.out.trans S6
  clear B6 S6
  go_wp2_with fail
  go_end0
  exact ⟨rfl, o6, HB6.out.R, HS6.out⟩
theorem st_4 (B : CB w o C N f L r a (17 * (n - lo)) (n - lo) c) (hn : n < N.length) (hd : (N.getD n nd0).k = 4) {cE : CmD} (hW : ∀ w o, CB w o C N f L r a (17 * (n - lo)) (n - lo) c → Calls Tryz.prog 169 #[fptr C.gF f, .agg (ndV (N.getD n nd0)).toArray] w (CQ w o C N cE)) : Calls Tryz.prog 102 #[fptr C.gF f, .int .i64 n] w (CQ w o C N cE) := by
  obtain ⟨gg, ha, ⟨q1, q2, q3, q4, q5, q6, q7⟩⟩ := B.R.nd B.hf (by omega)
  have x0 := q7 n 0 hn (by omega)
  have x1 := q7 n 1 hn (by omega)
  have x2 := q7 n 2 hn (by omega)
  have x3 := q7 n 3 hn (by omega)
  have x4 := q7 n 4 hn (by omega)
  have x5 := q7 n 5 hn (by omega)
  have x6 := q7 n 6 hn (by omega)
  have x7 := q7 n 7 hn (by omega)
  simp only [ndV, List.getElem?_cons_succ, List.getElem?_cons_zero, Nat.add_zero] at x0 x1 x2 x3 x4 x5 x6 x7
  have HB0 : Hid (CB (w.alloc (.cells (ndV (N.getD n nd0)).toArray 134)) o C N f L r a (17 * (n - lo)) (n - lo) c) := B.alloc _
  have HX0 : Hid (Bn (w.alloc (.cells (ndV (N.getD n nd0)).toArray 134)) o (N.getD n nd0) w.heap.size) := Bn.new B.R _
  have HS0 : Hid (Stp QC w o (w.alloc (.cells (ndV (N.getD n nd0)).toArray 134)) o) := (Stp.refl _ _ _).alloc _
  rw [hd] at x0
  have HC := hW _ _ HB0.out
  clear B q7 ha hW
  generalize hD : N.getD n nd0 = d at *
  clear hD
  have hV : (ndV d).toArray = #[.int .i64 4, .int .i64 d.a, .int .i64 d.b, .int .i64 d.c, .int .i64 d.next, .int .u64 d.n, sv d.s, .int .i64 d.p] := by unfold ndV; rw [hd]; rfl
  rw [hV] at HB0 HX0 HS0 HC
  clear hV hd
  unfold fptr at HC ⊢
  go_enter Tryz.func102, Tryz.ntmps102
  go_wp2_with fail
  refine HC.mono ?_
  rintro e1 w1 ⟨rfl, o1, R1, S1⟩
  have HR1 : Hid (CRep w1 o1 C N cE) := R1
  have HS1 : Hid (Stp QC w o w1 o1) := HS0.out.trans S1
  clear R1 S1 HC
  go_wp2_with fail
  go_end0
  exact ⟨rfl, o1, HR1.out, HS1.out⟩
theorem st_6 (B : CB w o C N f L r a (17 * (n - lo)) (n - lo) c) (hn : n < N.length) (hd : (N.getD n nd0).k = 6) {cE : CmD} (hW : ∀ w o, CB w o C N f L r a (17 * (n - lo)) (n - lo) c → Calls Tryz.prog 170 #[fptr C.gF f, .agg (ndV (N.getD n nd0)).toArray] w (CQ w o C N cE)) : Calls Tryz.prog 102 #[fptr C.gF f, .int .i64 n] w (CQ w o C N cE) := by
  obtain ⟨gg, ha, ⟨q1, q2, q3, q4, q5, q6, q7⟩⟩ := B.R.nd B.hf (by omega)
  have x0 := q7 n 0 hn (by omega)
  have x1 := q7 n 1 hn (by omega)
  have x2 := q7 n 2 hn (by omega)
  have x3 := q7 n 3 hn (by omega)
  have x4 := q7 n 4 hn (by omega)
  have x5 := q7 n 5 hn (by omega)
  have x6 := q7 n 6 hn (by omega)
  have x7 := q7 n 7 hn (by omega)
  simp only [ndV, List.getElem?_cons_succ, List.getElem?_cons_zero, Nat.add_zero] at x0 x1 x2 x3 x4 x5 x6 x7
  have HB0 : Hid (CB (w.alloc (.cells (ndV (N.getD n nd0)).toArray 134)) o C N f L r a (17 * (n - lo)) (n - lo) c) := B.alloc _
  have HX0 : Hid (Bn (w.alloc (.cells (ndV (N.getD n nd0)).toArray 134)) o (N.getD n nd0) w.heap.size) := Bn.new B.R _
  have HS0 : Hid (Stp QC w o (w.alloc (.cells (ndV (N.getD n nd0)).toArray 134)) o) := (Stp.refl _ _ _).alloc _
  rw [hd] at x0
  have HC := hW _ _ HB0.out
  clear B q7 ha hW
  generalize hD : N.getD n nd0 = d at *
  clear hD
  have hV : (ndV d).toArray = #[.int .i64 6, .int .i64 d.a, .int .i64 d.b, .int .i64 d.c, .int .i64 d.next, .int .u64 d.n, sv d.s, .int .i64 d.p] := by unfold ndV; rw [hd]; rfl
  rw [hV] at HB0 HX0 HS0 HC
  clear hV hd
  unfold fptr at HC ⊢
  go_enter Tryz.func102, Tryz.ntmps102
  go_wp2_with fail
  refine HC.mono ?_
  rintro e1 w1 ⟨rfl, o1, R1, S1⟩
  have HR1 : Hid (CRep w1 o1 C N cE) := R1
  have HS1 : Hid (Stp QC w o w1 o1) := HS0.out.trans S1
  clear R1 S1 HC
  go_wp2_with fail
  go_end0
  exact ⟨rfl, o1, HR1.out, HS1.out⟩
theorem st_7 (B : CB w o C N f L r a (17 * (n - lo)) (n - lo) c) (hn : n < N.length) (hd : (N.getD n nd0).k = 7) {cE : CmD} (hW : ∀ w o, CB w o C N f L r a (17 * (n - lo)) (n - lo) c → Calls Tryz.prog 171 #[fptr C.gF f, .agg (ndV (N.getD n nd0)).toArray] w (CQ w o C N cE)) : Calls Tryz.prog 102 #[fptr C.gF f, .int .i64 n] w (CQ w o C N cE) := by
  obtain ⟨gg, ha, ⟨q1, q2, q3, q4, q5, q6, q7⟩⟩ := B.R.nd B.hf (by omega)
  have x0 := q7 n 0 hn (by omega)
  have x1 := q7 n 1 hn (by omega)
  have x2 := q7 n 2 hn (by omega)
  have x3 := q7 n 3 hn (by omega)
  have x4 := q7 n 4 hn (by omega)
  have x5 := q7 n 5 hn (by omega)
  have x6 := q7 n 6 hn (by omega)
  have x7 := q7 n 7 hn (by omega)
  simp only [ndV, List.getElem?_cons_succ, List.getElem?_cons_zero, Nat.add_zero] at x0 x1 x2 x3 x4 x5 x6 x7
  have HB0 : Hid (CB (w.alloc (.cells (ndV (N.getD n nd0)).toArray 134)) o C N f L r a (17 * (n - lo)) (n - lo) c) := B.alloc _
  have HX0 : Hid (Bn (w.alloc (.cells (ndV (N.getD n nd0)).toArray 134)) o (N.getD n nd0) w.heap.size) := Bn.new B.R _
  have HS0 : Hid (Stp QC w o (w.alloc (.cells (ndV (N.getD n nd0)).toArray 134)) o) := (Stp.refl _ _ _).alloc _
  rw [hd] at x0
  have HC := hW _ _ HB0.out
  clear B q7 ha hW
  generalize hD : N.getD n nd0 = d at *
  clear hD
  have hV : (ndV d).toArray = #[.int .i64 7, .int .i64 d.a, .int .i64 d.b, .int .i64 d.c, .int .i64 d.next, .int .u64 d.n, sv d.s, .int .i64 d.p] := by unfold ndV; rw [hd]; rfl
  rw [hV] at HB0 HX0 HS0 HC
  clear hV hd
  unfold fptr at HC ⊢
  go_enter Tryz.func102, Tryz.ntmps102
  go_wp2_with fail
  refine HC.mono ?_
  rintro e1 w1 ⟨rfl, o1, R1, S1⟩
  have HR1 : Hid (CRep w1 o1 C N cE) := R1
  have HS1 : Hid (Stp QC w o w1 o1) := HS0.out.trans S1
  clear R1 S1 HC
  go_wp2_with fail
  go_end0
  exact ⟨rfl, o1, HR1.out, HS1.out⟩
theorem st_8 (B : CB w o C N f L r a (17 * (n - lo)) (n - lo) c) (hn : n < N.length) (hd : (N.getD n nd0).k = 8) {cE : CmD} (hW : ∀ w o, CB w o C N f L r a (17 * (n - lo)) (n - lo) c → Calls Tryz.prog 172 #[fptr C.gF f, .agg (ndV (N.getD n nd0)).toArray] w (CQ w o C N cE)) : Calls Tryz.prog 102 #[fptr C.gF f, .int .i64 n] w (CQ w o C N cE) := by
  obtain ⟨gg, ha, ⟨q1, q2, q3, q4, q5, q6, q7⟩⟩ := B.R.nd B.hf (by omega)
  have x0 := q7 n 0 hn (by omega)
  have x1 := q7 n 1 hn (by omega)
  have x2 := q7 n 2 hn (by omega)
  have x3 := q7 n 3 hn (by omega)
  have x4 := q7 n 4 hn (by omega)
  have x5 := q7 n 5 hn (by omega)
  have x6 := q7 n 6 hn (by omega)
  have x7 := q7 n 7 hn (by omega)
  simp only [ndV, List.getElem?_cons_succ, List.getElem?_cons_zero, Nat.add_zero] at x0 x1 x2 x3 x4 x5 x6 x7
  have HB0 : Hid (CB (w.alloc (.cells (ndV (N.getD n nd0)).toArray 134)) o C N f L r a (17 * (n - lo)) (n - lo) c) := B.alloc _
  have HX0 : Hid (Bn (w.alloc (.cells (ndV (N.getD n nd0)).toArray 134)) o (N.getD n nd0) w.heap.size) := Bn.new B.R _
  have HS0 : Hid (Stp QC w o (w.alloc (.cells (ndV (N.getD n nd0)).toArray 134)) o) := (Stp.refl _ _ _).alloc _
  rw [hd] at x0
  have HC := hW _ _ HB0.out
  clear B q7 ha hW
  generalize hD : N.getD n nd0 = d at *
  clear hD
  have hV : (ndV d).toArray = #[.int .i64 8, .int .i64 d.a, .int .i64 d.b, .int .i64 d.c, .int .i64 d.next, .int .u64 d.n, sv d.s, .int .i64 d.p] := by unfold ndV; rw [hd]; rfl
  rw [hV] at HB0 HX0 HS0 HC
  clear hV hd
  unfold fptr at HC ⊢
  go_enter Tryz.func102, Tryz.ntmps102
  go_wp2_with fail
  refine HC.mono ?_
  rintro e1 w1 ⟨rfl, o1, R1, S1⟩
  have HR1 : Hid (CRep w1 o1 C N cE) := R1
  have HS1 : Hid (Stp QC w o w1 o1) := HS0.out.trans S1
  clear R1 S1 HC
  go_wp2_with fail
  go_end0
  exact ⟨rfl, o1, HR1.out, HS1.out⟩
theorem st_9 (B : CB w o C N f L r a (17 * (n - lo)) (n - lo) c) (hn : n < N.length) (hd : (N.getD n nd0).k = 9) {cE : CmD} (hW : ∀ w o, CB w o C N f L r a (17 * (n - lo)) (n - lo) c → Calls Tryz.prog 173 #[fptr C.gF f, .agg (ndV (N.getD n nd0)).toArray] w (CQ w o C N cE)) : Calls Tryz.prog 102 #[fptr C.gF f, .int .i64 n] w (CQ w o C N cE) := by
  obtain ⟨gg, ha, ⟨q1, q2, q3, q4, q5, q6, q7⟩⟩ := B.R.nd B.hf (by omega)
  have x0 := q7 n 0 hn (by omega)
  have x1 := q7 n 1 hn (by omega)
  have x2 := q7 n 2 hn (by omega)
  have x3 := q7 n 3 hn (by omega)
  have x4 := q7 n 4 hn (by omega)
  have x5 := q7 n 5 hn (by omega)
  have x6 := q7 n 6 hn (by omega)
  have x7 := q7 n 7 hn (by omega)
  simp only [ndV, List.getElem?_cons_succ, List.getElem?_cons_zero, Nat.add_zero] at x0 x1 x2 x3 x4 x5 x6 x7
  have HB0 : Hid (CB (w.alloc (.cells (ndV (N.getD n nd0)).toArray 134)) o C N f L r a (17 * (n - lo)) (n - lo) c) := B.alloc _
  have HX0 : Hid (Bn (w.alloc (.cells (ndV (N.getD n nd0)).toArray 134)) o (N.getD n nd0) w.heap.size) := Bn.new B.R _
  have HS0 : Hid (Stp QC w o (w.alloc (.cells (ndV (N.getD n nd0)).toArray 134)) o) := (Stp.refl _ _ _).alloc _
  rw [hd] at x0
  have HC := hW _ _ HB0.out
  clear B q7 ha hW
  generalize hD : N.getD n nd0 = d at *
  clear hD
  have hV : (ndV d).toArray = #[.int .i64 9, .int .i64 d.a, .int .i64 d.b, .int .i64 d.c, .int .i64 d.next, .int .u64 d.n, sv d.s, .int .i64 d.p] := by unfold ndV; rw [hd]; rfl
  rw [hV] at HB0 HX0 HS0 HC
  clear hV hd
  unfold fptr at HC ⊢
  go_enter Tryz.func102, Tryz.ntmps102
  go_wp2_with fail
  refine HC.mono ?_
  rintro e1 w1 ⟨rfl, o1, R1, S1⟩
  have HR1 : Hid (CRep w1 o1 C N cE) := R1
  have HS1 : Hid (Stp QC w o w1 o1) := HS0.out.trans S1
  clear R1 S1 HC
  go_wp2_with fail
  go_end0
  exact ⟨rfl, o1, HR1.out, HS1.out⟩
end
end Go.Proofs.Qxb6500574aGreatDoor
