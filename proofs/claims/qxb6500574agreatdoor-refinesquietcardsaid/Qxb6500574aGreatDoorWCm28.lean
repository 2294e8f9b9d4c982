/-
  THE WALK of comp: assignments (written by tools/gen_st.py).
-/
import Derived.Test.Qxb6500574aGreatDoorWCm27
namespace Go.Proofs.Qxb6500574aGreatDoor
open Go Go.RowKit
set_option linter.unusedVariables false
set_option linter.unusedSimpArgs false
open Go.Lib
section
set_option maxRecDepth 100000
set_option maxHeartbeats 1000000
variable {w : World} {o : Nat → Nat} {C : CC} {N : List Nd} {c : CmD} {f n k a b lo : Nat} {L : List Bs} {r : En}
end
/-- what is read where a node is copied: node e, whose number stands in cell j of block bk -/
def AsP (C : CC) (f gg nl cp bk j x : Nat) (e : Nd) (W : World) : Prop :=
  W.cell? ⟨C.gF, f * 11, none⟩ = some (.pointer (some ⟨C.cb, 0, none⟩)) ∧ W.cell? ⟨C.cb, 2, none⟩ = some (.slice (some ⟨gg, 0, none⟩) nl cp) ∧ W.cell? ⟨bk, j, none⟩ = some (.int .i64 (x : Nat)) ∧
  W.cell? ⟨gg, x * 8, none⟩ = some (.int .i64 (e.k : Nat)) ∧ W.cell? ⟨gg, x * 8 + 1, none⟩ = some (.int .i64 (e.a : Nat)) ∧ W.cell? ⟨gg, x * 8 + 2, none⟩ = some (.int .i64 (e.b : Nat)) ∧ W.cell? ⟨gg, x * 8 + 3, none⟩ = some (.int .i64 (e.c : Nat)) ∧ W.cell? ⟨gg, x * 8 + 4, none⟩ = some (.int .i64 (e.next : Nat)) ∧ W.cell? ⟨gg, x * 8 + 5, none⟩ = some (.int .u64 (e.n : Nat)) ∧ W.cell? ⟨gg, x * 8 + 6, none⟩ = some (sv e.s) ∧ W.cell? ⟨gg, x * 8 + 7, none⟩ = some (.int .i64 (e.p : Nat))
theorem AsP.fr {C : CC} {f gg nl cp bk j x : Nat} {e : Nd} {W W' : World} (h : AsP C f gg nl cp bk j x e W) (hf : C.gF < W.heap.size) (hc : C.cb < W.heap.size) (hb : bk < W.heap.size) (hg : gg < W.heap.size) (t : Fr (fun _ => False) W W') : AsP C f gg nl cp bk j x e W' := by
  have s := Stp.fresh (fun _ => False) (fun _ => 0) t
  obtain ⟨h1, h2, h3, h4, h5, h6, h7, h8, h9, h10, h11⟩ := h
  exact ⟨(s.cellQ hf (fun h => h) _).trans h1, (s.cellQ hc (fun h => h) _).trans h2, (s.cellQ hb (fun h => h) _).trans h3, (s.cellQ hg (fun h => h) _).trans h4, (s.cellQ hg (fun h => h) _).trans h5, (s.cellQ hg (fun h => h) _).trans h6, (s.cellQ hg (fun h => h) _).trans h7, (s.cellQ hg (fun h => h) _).trans h8, (s.cellQ hg (fun h => h) _).trans h9, (s.cellQ hg (fun h => h) _).trans h10, (s.cellQ hg (fun h => h) _).trans h11⟩
theorem CB.asp {w : World} {o : Nat → Nat} {C : CC} {N : List Nd} {c : CmD} {f a p q : Nat} {L : List Bs} {r : En} (h : CB w o C N f L r a p q c) {bk j x : Nat} (hx : x < N.length) (hb : w.cell? ⟨bk, j, none⟩ = some (.int .i64 (x : Nat))) : ∃ gg, AsP C f gg N.length C.sn.c bk j x (N.getD x nd0) w ∧ C.gF < w.heap.size ∧ C.cb < w.heap.size ∧ gg < w.heap.size ∧ N.length ≤ C.sn.c := by
  obtain ⟨gg, ha, ⟨q1, q2, q3, q4, q5, q6, q7⟩⟩ := h.R.nd h.hf (by omega)
  have x0 := q7 x 0 hx (by omega)
  have x1 := q7 x 1 hx (by omega)
  have x2 := q7 x 2 hx (by omega)
  have x3 := q7 x 3 hx (by omega)
  have x4 := q7 x 4 hx (by omega)
  have x5 := q7 x 5 hx (by omega)
  have x6 := q7 x 6 hx (by omega)
  have x7 := q7 x 7 hx (by omega)
  simp only [ndV, List.getElem?_cons_succ, List.getElem?_cons_zero, Nat.add_zero] at x0 x1 x2 x3 x4 x5 x6 x7
  exact ⟨gg, ⟨q4, q5, hb, x0, x1, x2, x3, x4, x5, x6, x7⟩, q1, q2, q3, q6⟩
section
set_option maxRecDepth 100000
set_option maxHeartbeats 1000000
variable {w : World} {o : Nat → Nat} {C : CC} {N : List Nd} {c : CmD} {f n k a b lo : Nat} {L : List Bs} {r : En}
theorem assign_n (A : CA N k) (W : CW N C k) (B : CB w o C N f L r a (17 * (n - lo)) (n - lo) c) (hn : n < N.length) (hd : (N.getD n nd0).k = 4) (g2 : n = (N.getD n nd0).b + 1) (g3 : (N.getD (N.getD n nd0).a nd0).k = 17) (g4 : nmOk (N.getD (N.getD n nd0).a nd0).s) (g5 : Sh N 1 (N.getD n nd0).b (N.getD n nd0).a a b 110 0 0 false) (g6 : lo < (N.getD n nd0).a) (hk : 2 * n + 2 ≤ k + 1) :
    Calls Tryz.prog 169 #[fptr C.gF f, .agg (ndV (N.getD n nd0)).toArray] w (CQ w o C N (comN N (k + 1) 0 f n c)) := by
  rw [com_s4n hd g3]
  have HB0 : Hid (CB (w.alloc (.cells (ndV (N.getD n nd0)).toArray 134)) o C N f L r a (17 * (n - lo)) (n - lo) c) := B.alloc _
  have HX0 : Hid (Bn (w.alloc (.cells (ndV (N.getD n nd0)).toArray 134)) o (N.getD n nd0) w.heap.size) := Bn.new B.R _
  have HS0 : Hid (Stp QC w o (w.alloc (.cells (ndV (N.getD n nd0)).toArray 134)) o) := (Stp.refl _ _ _).alloc _
  have HG : Hid (lo < (N.getD n nd0).a ∧ (N.getD n nd0).a < (N.getD n nd0).b ∧ n = (N.getD n nd0).b + 1 ∧ 2 * n + 2 ≤ k + 1 ∧ n < N.length) := ⟨g6, g5.lt, g2, hk, hn⟩
  have HG1 : Hid (Sh N 1 (N.getD n nd0).b (N.getD n nd0).a a b 110 0 0 false) := g5
  have HV : Hid ((N.getD (N.getD n nd0).a nd0).k = 17 ∧ nmOk (N.getD (N.getD n nd0).a nd0).s) := ⟨g3, g4⟩
  obtain ⟨w0, HW0⟩ : ∃ w0, Hid (w.alloc (.cells (ndV (N.getD n nd0)).toArray 134) = w0) := ⟨_, rfl⟩
  rw [HW0.out] at HB0 HX0 HS0
  obtain ⟨o0, ho0⟩ : ∃ z, z = o := ⟨_, rfl⟩
  rw [← ho0] at HB0 HX0
  have HS0 : Hid (Stp QC w o w0 o0) := by rw [ho0]; exact HS0
  clear ho0
  clear B g2 g3 g4 g5 g6 hk hn
  generalize hD : N.getD n nd0 = d at *
  clear hD
  have hV : (ndV d).toArray = #[.int .i64 d.k, .int .i64 d.a, .int .i64 d.b, .int .i64 d.c, .int .i64 d.next, .int .u64 d.n, sv d.s, .int .i64 d.p] := rfl
  rw [hV] at HW0 ⊢
  clear hV hd
  unfold fptr
  go_enter Tryz.func169, Tryz.ntmps169
  go_wp2_with fail
  rw [HW0.out]
  obtain ⟨r0, r1, r2, r3, r4, r5, r6, r7, r8⟩ := HX0.out.read
  obtain ⟨gg1, as1, al1, ac1, ag1, an1⟩ := HB0.out.asp (bk := w.heap.size) (j := 1) (x := d.a) (by have := HG.out; omega) (by rw [HX0.out.hd.cell]; rfl)
  have lb1 := HX0.out.hd.lt
  have lx1 : d.a < N.length := (by have := HG.out; omega)
  generalize hE1 : N.getD d.a nd0 = e at *
  have ek : (((e.k : Nat) : Int) == 17) = true := by rw [HV.out.1]; rfl
  have f0_1 : ∀ s : WQ (AsP C f gg1 N.length C.sn.c w.heap.size 1 d.a e), s.y.cell? ⟨C.gF, f * 11, none⟩ = some (.pointer (some ⟨C.cb, 0, none⟩)) := fun s => s.f.1
  have f1_1 : ∀ s : WQ (AsP C f gg1 N.length C.sn.c w.heap.size 1 d.a e), s.y.cell? ⟨C.cb, 2, none⟩ = some (.slice (some ⟨gg1, 0, none⟩) N.length C.sn.c) := fun s => s.f.2.1
  have f2_1 : ∀ s : WQ (AsP C f gg1 N.length C.sn.c w.heap.size 1 d.a e), s.y.cell? ⟨w.heap.size, 1, none⟩ = some (.int .i64 (d.a : Nat)) := fun s => s.f.2.2.1
  have g0_1 : ∀ s : WQ (AsP C f gg1 N.length C.sn.c w.heap.size 1 d.a e), s.y.cell? ⟨gg1, d.a * 8, none⟩ = some (.int .i64 (e.k : Nat)) := fun s => s.f.2.2.2.1
  have g1_1 : ∀ s : WQ (AsP C f gg1 N.length C.sn.c w.heap.size 1 d.a e), s.y.cell? ⟨gg1, d.a * 8 + 1, none⟩ = some (.int .i64 (e.a : Nat)) := fun s => s.f.2.2.2.2.1
  have g2_1 : ∀ s : WQ (AsP C f gg1 N.length C.sn.c w.heap.size 1 d.a e), s.y.cell? ⟨gg1, d.a * 8 + 2, none⟩ = some (.int .i64 (e.b : Nat)) := fun s => s.f.2.2.2.2.2.1
  have g3_1 : ∀ s : WQ (AsP C f gg1 N.length C.sn.c w.heap.size 1 d.a e), s.y.cell? ⟨gg1, d.a * 8 + 3, none⟩ = some (.int .i64 (e.c : Nat)) := fun s => s.f.2.2.2.2.2.2.1
  have g4_1 : ∀ s : WQ (AsP C f gg1 N.length C.sn.c w.heap.size 1 d.a e), s.y.cell? ⟨gg1, d.a * 8 + 4, none⟩ = some (.int .i64 (e.next : Nat)) := fun s => s.f.2.2.2.2.2.2.2.1
  have g5_1 : ∀ s : WQ (AsP C f gg1 N.length C.sn.c w.heap.size 1 d.a e), s.y.cell? ⟨gg1, d.a * 8 + 5, none⟩ = some (.int .u64 (e.n : Nat)) := fun s => s.f.2.2.2.2.2.2.2.2.1
  have g6_1 : ∀ s : WQ (AsP C f gg1 N.length C.sn.c w.heap.size 1 d.a e), s.y.cell? ⟨gg1, d.a * 8 + 6, none⟩ = some (sv e.s) := fun s => s.f.2.2.2.2.2.2.2.2.2.1
  have g7_1 : ∀ s : WQ (AsP C f gg1 N.length C.sn.c w.heap.size 1 d.a e), s.y.cell? ⟨gg1, d.a * 8 + 7, none⟩ = some (.int .i64 (e.p : Nat)) := fun s => s.f.2.2.2.2.2.2.2.2.2.2
  have NE1 : Nonempty (WQ (AsP C f gg1 N.length C.sn.c w.heap.size 1 d.a e)) := WQ.non as1
  refine wp_region_head 11 1 (fun y => ∃ s : WQ (AsP C f gg1 N.length C.sn.c w.heap.size 1 d.a e), y = s.y) (by kernel_rfl) (by kernel_rfl) (fun _ _ _ _ _ h => h) ⟨⟨w0.drew, as1⟩, rfl⟩ ?_
  simp only [List.take_succ_cons, List.take_zero, List.drop_succ_cons, List.drop_zero]
  repeat go_big_quiet_step (fail)
  refine wpQuiet_nil ?_
  clear f0_1 f1_1 f2_1 g0_1 g1_1 g2_1 g3_1 g4_1 g5_1 g6_1 g7_1 NE1
  unfold wpChain
  go_wp2_with fail
  refine ⟨⟨⟨_, as1.fr al1 ac1 lb1 ag1 (((Fr.refl _ _).alloc _).drew)⟩, rfl⟩, ?_⟩
  rw [wpChain_zero]
  go_wp2_with fail
  have fr1 : Fr (fun _ => False) w0 ((w0.alloc (.cells #[.int .i64 e.k, .int .i64 e.a, .int .i64 e.b, .int .i64 e.c, .int .i64 e.next, .int .u64 e.n, sv e.s, .int .i64 e.p] 134)).drew) := ((Fr.refl _ _).alloc _).drew
  have hb1 := HB0.out.fresh fr1
  have hs1 := HS0.out.trans (Stp.fresh QC o0 fr1)
  have hHX1 := HX0.out.st (Stp.fresh QC o0 fr1) q0c
  have hHE1 : Bn ((w0.alloc (.cells #[.int .i64 e.k, .int .i64 e.a, .int .i64 e.b, .int .i64 e.c, .int .i64 e.next, .int .u64 e.n, sv e.s, .int .i64 e.p] 134)).drew) o0 e w0.heap.size := ⟨(Has.new _ _ _).drew, HB0.out.R.ow _ (Nat.le_refl _)⟩
  clear fr1 as1
  generalize (w0.alloc (.cells #[.int .i64 e.k, .int .i64 e.a, .int .i64 e.b, .int .i64 e.c, .int .i64 e.next, .int .u64 e.n, sv e.s, .int .i64 e.p] 134)).drew = w1 at *
  obtain ⟨o1, ho1⟩ : ∃ z, z = o0 := ⟨_, rfl⟩
  rw [← ho1] at hb1 hs1 hHX1 hHE1
  clear ho1
  have HB1 : Hid (CB w1 o1 C N f L r a _ _ _) := hb1
  have HS1 : Hid (Stp QC w o w1 o1) := hs1
  have HX1 : Hid (Bn w1 o1 d w.heap.size) := hHX1
  have HE1 : Hid (Bn w1 o1 e w0.heap.size) := hHE1
  clear hb1 hs1 hHX1 hHE1
  clear r0 r1 r2 r3 r4 r5 r6 r7 r8
  obtain ⟨r0, r1, r2, r3, r4, r5, r6, r7, r8⟩ := HX1.out.read
  obtain ⟨s0, s1, s2, s3, s4, s5, s6, s7, s8⟩ := HE1.out.read
  go_wp2_with fail
  refine (HB1.out.ex A W HG1.out (by have := HG.out; omega) (by have := HG.out; omega) (by have := HG.out; omega)).mono ?_
  rintro e2 w2 ⟨rfl, o2, B2, S2⟩
  have HX2 : Hid (Bn w2 o2 d w.heap.size) := HX1.out.st S2 q0c
  have HE2 : Hid (Bn w2 o2 e w0.heap.size) := HE1.out.st S2 q0c
  clear r0 r1 r2 r3 r4 r5 r6 r7 r8
  obtain ⟨r0, r1, r2, r3, r4, r5, r6, r7, r8⟩ := HX2.out.read
  clear s0 s1 s2 s3 s4 s5 s6 s7 s8
  obtain ⟨s0, s1, s2, s3, s4, s5, s6, s7, s8⟩ := HE2.out.read
  have HB2 : Hid (CB w2 o2 C N f L r b _ _ _) := B2
  have HS2 : Hid (Stp QC w o w2 o2) := HS1.out.trans S2
  clear B2 S2
  go_wp2_with fail
  refine (HB2.out.variable HV.out.2 6 8 10 (by decide) (by have := HG.out; omega) (by have := HG.out; omega)).mono ?_
  rintro e3 w3 ⟨rfl, o3, B3, S3⟩
  have HX3 : Hid (Bn w3 o3 d w.heap.size) := HX2.out.st S3 q0c
  have HE3 : Hid (Bn w3 o3 e w0.heap.size) := HE2.out.st S3 q0c
  clear r0 r1 r2 r3 r4 r5 r6 r7 r8
  obtain ⟨r0, r1, r2, r3, r4, r5, r6, r7, r8⟩ := HX3.out.read
  clear s0 s1 s2 s3 s4 s5 s6 s7 s8
  obtain ⟨s0, s1, s2, s3, s4, s5, s6, s7, s8⟩ := HE3.out.read
  have HB3 : Hid (CB w3 o3 C N f L r b _ _ _) := B3
  have HS3 : Hid (Stp QC w o w3 o3) := HS2.out.trans S3
  clear B3 S3
  go_wp2_with fail
  refine bodyPost_ret (results_none rfl _ _ _) rfl ?_
  exact ⟨rfl, o3, HB3.out.R, HS3.out⟩
theorem assign_i (A : CA N k) (W : CW N C k) (B : CB w o C N f L r a (17 * (n - lo)) (n - lo) c) (hn : n < N.length) (hd : (N.getD n nd0).k = 4) {b1 b2 : Nat} (g2 : n = (N.getD n nd0).b + 1) (g3 : (N.getD (N.getD n nd0).a nd0).k = 18) (g4 : (N.getD n nd0).a = (N.getD (N.getD n nd0).a nd0).b + 1) (g5 : Sh N 1 (N.getD (N.getD n nd0).a nd0).a lo a b2 110 0 0 false) (g6 : Sh N 1 (N.getD (N.getD n nd0).a nd0).b (N.getD (N.getD n nd0).a nd0).a b2 b1 109 0 0 false) (g7 : Sh N 1 (N.getD n nd0).b (N.getD n nd0).a b1 b 110 0 0 false) (hk : 2 * n + 2 ≤ k + 1) :
    Calls Tryz.prog 169 #[fptr C.gF f, .agg (ndV (N.getD n nd0)).toArray] w (CQ w o C N (comN N (k + 1) 0 f n c)) := by
  rw [com_s4i hd g3]
  have HB0 : Hid (CB (w.alloc (.cells (ndV (N.getD n nd0)).toArray 134)) o C N f L r a (17 * (n - lo)) (n - lo) c) := B.alloc _
  have HX0 : Hid (Bn (w.alloc (.cells (ndV (N.getD n nd0)).toArray 134)) o (N.getD n nd0) w.heap.size) := Bn.new B.R _
  have HS0 : Hid (Stp QC w o (w.alloc (.cells (ndV (N.getD n nd0)).toArray 134)) o) := (Stp.refl _ _ _).alloc _
  have HG : Hid (lo < (N.getD (N.getD n nd0).a nd0).a ∧ (N.getD (N.getD n nd0).a nd0).a < (N.getD (N.getD n nd0).a nd0).b ∧ (N.getD n nd0).a = (N.getD (N.getD n nd0).a nd0).b + 1 ∧ (N.getD n nd0).a < (N.getD n nd0).b ∧ n = (N.getD n nd0).b + 1 ∧ 2 * n + 2 ≤ k + 1 ∧ n < N.length) := ⟨g5.lt, g6.lt, g4, g7.lt, g2, hk, hn⟩
  have HG1 : Hid (Sh N 1 (N.getD (N.getD n nd0).a nd0).a lo a b2 110 0 0 false) := g5
  have HG2 : Hid (Sh N 1 (N.getD (N.getD n nd0).a nd0).b (N.getD (N.getD n nd0).a nd0).a b2 b1 109 0 0 false) := g6
  have HG3 : Hid (Sh N 1 (N.getD n nd0).b (N.getD n nd0).a b1 b 110 0 0 false) := g7
  have HV : Hid ((N.getD (N.getD n nd0).a nd0).k = 18) := g3
  obtain ⟨w0, HW0⟩ : ∃ w0, Hid (w.alloc (.cells (ndV (N.getD n nd0)).toArray 134) = w0) := ⟨_, rfl⟩
  rw [HW0.out] at HB0 HX0 HS0
  obtain ⟨o0, ho0⟩ : ∃ z, z = o := ⟨_, rfl⟩
  rw [← ho0] at HB0 HX0
  have HS0 : Hid (Stp QC w o w0 o0) := by rw [ho0]; exact HS0
  clear ho0
  clear B g2 g3 g4 g5 g6 g7 hk hn
  generalize hD : N.getD n nd0 = d at *
  clear hD
  have hV : (ndV d).toArray = #[.int .i64 d.k, .int .i64 d.a, .int .i64 d.b, .int .i64 d.c, .int .i64 d.next, .int .u64 d.n, sv d.s, .int .i64 d.p] := rfl
  rw [hV] at HW0 ⊢
  clear hV hd
  unfold fptr
  go_enter Tryz.func169, Tryz.ntmps169
  go_wp2_with fail
  rw [HW0.out]
  obtain ⟨r0, r1, r2, r3, r4, r5, r6, r7, r8⟩ := HX0.out.read
  obtain ⟨gg1, as1, al1, ac1, ag1, an1⟩ := HB0.out.asp (bk := w.heap.size) (j := 1) (x := d.a) (by have := HG.out; omega) (by rw [HX0.out.hd.cell]; rfl)
  have lb1 := HX0.out.hd.lt
  have lx1 : d.a < N.length := (by have := HG.out; omega)
  generalize hE1 : N.getD d.a nd0 = e at *
  have ek : (((e.k : Nat) : Int) == 17) = false := by rw [HV.out]; rfl
  have f0_1 : ∀ s : WQ (AsP C f gg1 N.length C.sn.c w.heap.size 1 d.a e), s.y.cell? ⟨C.gF, f * 11, none⟩ = some (.pointer (some ⟨C.cb, 0, none⟩)) := fun s => s.f.1
  have f1_1 : ∀ s : WQ (AsP C f gg1 N.length C.sn.c w.heap.size 1 d.a e), s.y.cell? ⟨C.cb, 2, none⟩ = some (.slice (some ⟨gg1, 0, none⟩) N.length C.sn.c) := fun s => s.f.2.1
  have f2_1 : ∀ s : WQ (AsP C f gg1 N.length C.sn.c w.heap.size 1 d.a e), s.y.cell? ⟨w.heap.size, 1, none⟩ = some (.int .i64 (d.a : Nat)) := fun s => s.f.2.2.1
  have g0_1 : ∀ s : WQ (AsP C f gg1 N.length C.sn.c w.heap.size 1 d.a e), s.y.cell? ⟨gg1, d.a * 8, none⟩ = some (.int .i64 (e.k : Nat)) := fun s => s.f.2.2.2.1
  have g1_1 : ∀ s : WQ (AsP C f gg1 N.length C.sn.c w.heap.size 1 d.a e), s.y.cell? ⟨gg1, d.a * 8 + 1, none⟩ = some (.int .i64 (e.a : Nat)) := fun s => s.f.2.2.2.2.1
  have g2_1 : ∀ s : WQ (AsP C f gg1 N.length C.sn.c w.heap.size 1 d.a e), s.y.cell? ⟨gg1, d.a * 8 + 2, none⟩ = some (.int .i64 (e.b : Nat)) := fun s => s.f.2.2.2.2.2.1
  have g3_1 : ∀ s : WQ (AsP C f gg1 N.length C.sn.c w.heap.size 1 d.a e), s.y.cell? ⟨gg1, d.a * 8 + 3, none⟩ = some (.int .i64 (e.c : Nat)) := fun s => s.f.2.2.2.2.2.2.1
  have g4_1 : ∀ s : WQ (AsP C f gg1 N.length C.sn.c w.heap.size 1 d.a e), s.y.cell? ⟨gg1, d.a * 8 + 4, none⟩ = some (.int .i64 (e.next : Nat)) := fun s => s.f.2.2.2.2.2.2.2.1
  have g5_1 : ∀ s : WQ (AsP C f gg1 N.length C.sn.c w.heap.size 1 d.a e), s.y.cell? ⟨gg1, d.a * 8 + 5, none⟩ = some (.int .u64 (e.n : Nat)) := fun s => s.f.2.2.2.2.2.2.2.2.1
  have g6_1 : ∀ s : WQ (AsP C f gg1 N.length C.sn.c w.heap.size 1 d.a e), s.y.cell? ⟨gg1, d.a * 8 + 6, none⟩ = some (sv e.s) := fun s => s.f.2.2.2.2.2.2.2.2.2.1
  have g7_1 : ∀ s : WQ (AsP C f gg1 N.length C.sn.c w.heap.size 1 d.a e), s.y.cell? ⟨gg1, d.a * 8 + 7, none⟩ = some (.int .i64 (e.p : Nat)) := fun s => s.f.2.2.2.2.2.2.2.2.2.2
  have NE1 : Nonempty (WQ (AsP C f gg1 N.length C.sn.c w.heap.size 1 d.a e)) := WQ.non as1
  refine wp_region_head 11 1 (fun y => ∃ s : WQ (AsP C f gg1 N.length C.sn.c w.heap.size 1 d.a e), y = s.y) (by kernel_rfl) (by kernel_rfl) (fun _ _ _ _ _ h => h) ⟨⟨w0.drew, as1⟩, rfl⟩ ?_
  simp only [List.take_succ_cons, List.take_zero, List.drop_succ_cons, List.drop_zero]
  repeat go_big_quiet_step (fail)
  refine wpQuiet_nil ?_
  clear f0_1 f1_1 f2_1 g0_1 g1_1 g2_1 g3_1 g4_1 g5_1 g6_1 g7_1 NE1
  unfold wpChain
  go_wp2_with fail
  refine ⟨⟨⟨_, as1.fr al1 ac1 lb1 ag1 (((Fr.refl _ _).alloc _).drew)⟩, rfl⟩, ?_⟩
  rw [wpChain_zero]
  go_wp2_with fail
  have fr1 : Fr (fun _ => False) w0 ((w0.alloc (.cells #[.int .i64 e.k, .int .i64 e.a, .int .i64 e.b, .int .i64 e.c, .int .i64 e.next, .int .u64 e.n, sv e.s, .int .i64 e.p] 134)).drew) := ((Fr.refl _ _).alloc _).drew
  have hb1 := HB0.out.fresh fr1
  have hs1 := HS0.out.trans (Stp.fresh QC o0 fr1)
  have hHX1 := HX0.out.st (Stp.fresh QC o0 fr1) q0c
  have hHE1 : Bn ((w0.alloc (.cells #[.int .i64 e.k, .int .i64 e.a, .int .i64 e.b, .int .i64 e.c, .int .i64 e.next, .int .u64 e.n, sv e.s, .int .i64 e.p] 134)).drew) o0 e w0.heap.size := ⟨(Has.new _ _ _).drew, HB0.out.R.ow _ (Nat.le_refl _)⟩
  clear fr1 as1
  generalize (w0.alloc (.cells #[.int .i64 e.k, .int .i64 e.a, .int .i64 e.b, .int .i64 e.c, .int .i64 e.next, .int .u64 e.n, sv e.s, .int .i64 e.p] 134)).drew = w1 at *
  obtain ⟨o1, ho1⟩ : ∃ z, z = o0 := ⟨_, rfl⟩
  rw [← ho1] at hb1 hs1 hHX1 hHE1
  clear ho1
  have HB1 : Hid (CB w1 o1 C N f L r a _ _ _) := hb1
  have HS1 : Hid (Stp QC w o w1 o1) := hs1
  have HX1 : Hid (Bn w1 o1 d w.heap.size) := hHX1
  have HE1 : Hid (Bn w1 o1 e w0.heap.size) := hHE1
  clear hb1 hs1 hHX1 hHE1
  clear r0 r1 r2 r3 r4 r5 r6 r7 r8
  obtain ⟨r0, r1, r2, r3, r4, r5, r6, r7, r8⟩ := HX1.out.read
  obtain ⟨s0, s1, s2, s3, s4, s5, s6, s7, s8⟩ := HE1.out.read
  go_wp2_with fail
  refine (HB1.out.ex A W HG1.out (by have := HG.out; omega) (by have := HG.out; omega) (by have := HG.out; omega)).mono ?_
  rintro e2 w2 ⟨rfl, o2, B2, S2⟩
  have HX2 : Hid (Bn w2 o2 d w.heap.size) := HX1.out.st S2 q0c
  have HE2 : Hid (Bn w2 o2 e w0.heap.size) := HE1.out.st S2 q0c
  clear r0 r1 r2 r3 r4 r5 r6 r7 r8
  obtain ⟨r0, r1, r2, r3, r4, r5, r6, r7, r8⟩ := HX2.out.read
  clear s0 s1 s2 s3 s4 s5 s6 s7 s8
  obtain ⟨s0, s1, s2, s3, s4, s5, s6, s7, s8⟩ := HE2.out.read
  have HB2 : Hid (CB w2 o2 C N f L r b2 _ _ _) := B2
  have HS2 : Hid (Stp QC w o w2 o2) := HS1.out.trans S2
  clear B2 S2
  go_wp2_with fail
  refine (HB2.out.ex A W HG2.out (by have := HG.out; omega) (by have := HG.out; omega) (by have := HG.out; omega)).mono ?_
  rintro e3 w3 ⟨rfl, o3, B3, S3⟩
  have HX3 : Hid (Bn w3 o3 d w.heap.size) := HX2.out.st S3 q0c
  have HE3 : Hid (Bn w3 o3 e w0.heap.size) := HE2.out.st S3 q0c
  clear r0 r1 r2 r3 r4 r5 r6 r7 r8
  obtain ⟨r0, r1, r2, r3, r4, r5, r6, r7, r8⟩ := HX3.out.read
  clear s0 s1 s2 s3 s4 s5 s6 s7 s8
  obtain ⟨s0, s1, s2, s3, s4, s5, s6, s7, s8⟩ := HE3.out.read
  have HB3 : Hid (CB w3 o3 C N f L r b1 _ _ _) := B3
  have HS3 : Hid (Stp QC w o w3 o3) := HS2.out.trans S3
  clear B3 S3
  go_wp2_with fail
  refine (HB3.out.ex A W HG3.out (by have := HG.out; omega) (by have := HG.out; omega) (by have := HG.out; omega)).mono ?_
  rintro e4 w4 ⟨rfl, o4, B4, S4⟩
  have HX4 : Hid (Bn w4 o4 d w.heap.size) := HX3.out.st S4 q0c
  have HE4 : Hid (Bn w4 o4 e w0.heap.size) := HE3.out.st S4 q0c
  clear r0 r1 r2 r3 r4 r5 r6 r7 r8
  obtain ⟨r0, r1, r2, r3, r4, r5, r6, r7, r8⟩ := HX4.out.read
  clear s0 s1 s2 s3 s4 s5 s6 s7 s8
  obtain ⟨s0, s1, s2, s3, s4, s5, s6, s7, s8⟩ := HE4.out.read
  have HB4 : Hid (CB w4 o4 C N f L r b _ _ _) := B4
  have HS4 : Hid (Stp QC w o w4 o4) := HS3.out.trans S4
  clear B4 S4
  go_wp2_with fail
  refine (HB4.out.emitK (op := 12) (y := 0) rfl rfl rfl (by have := HG.out; omega)).mono ?_
  rintro e5 w5 ⟨rfl, o5, B5, S5⟩
  have HX5 : Hid (Bn w5 o5 d w.heap.size) := HX4.out.st S5 q0c
  have HE5 : Hid (Bn w5 o5 e w0.heap.size) := HE4.out.st S5 q0c
  clear r0 r1 r2 r3 r4 r5 r6 r7 r8
  obtain ⟨r0, r1, r2, r3, r4, r5, r6, r7, r8⟩ := HX5.out.read
  clear s0 s1 s2 s3 s4 s5 s6 s7 s8
  obtain ⟨s0, s1, s2, s3, s4, s5, s6, s7, s8⟩ := HE5.out.read
  have HB5 : Hid (CB w5 o5 C N f L r b _ _ _) := B5
  have HS5 : Hid (Stp QC w o w5 o5) := HS4.out.trans S5
  clear B5 S5
  go_wp2_with fail
  go_end0
  exact ⟨rfl, o5, HB5.out.R, HS5.out⟩
end
end Go.Proofs.Qxb6500574aGreatDoor
