/-
  THE WALK of comp: a numeric for (written by tools/gen_st.py).
-/
import Derived.Test.Qxb6500574aGreatDoorWCm30
namespace Go.Proofs.Qxb6500574aGreatDoor
open Go Go.RowKit
set_option linter.unusedVariables false
set_option linter.unusedSimpArgs false
open Go.Lib
section
set_option maxRecDepth 100000
set_option maxHeartbeats 1000000
variable {w : World} {o : Nat → Nat} {C : CC} {N : List Nd} {c : CmD} {f n k a b lo : Nat} {L : List Bs} {r : En}
theorem count_2 (A : CA N k) (W : CW N C k) (B : CB w o C N f L r a (17 * (n - lo)) (n - lo) c) (hn : n < N.length) (hd : (N.getD n nd0).k = 8) (hN : N.length ≤ 1000) {b1 b0 h0 h1 x1 : Nat} {l : List Nat} (hll : LpB lo (c.fn f).loops) (g2 : L.length + 4 ≤ 12) (g3 : Sh N 1 (N.getD n nd0).a lo a b1 120 0 0 false) (g4 : Sh N 1 (N.getD (N.getD n nd0).a nd0).next (N.getD n nd0).a b1 b0 120 0 0 false) (g5 : (N.getD (N.getD (N.getD n nd0).a nd0).next nd0).next = 0 ∧ (N.getD (N.getD n nd0).a nd0).next = h0 ∧ b0 = b0) (g6 : n = h1 + 1) (g8 : Chain N (N.getD n nd0).b l) (g9 : SeqS (fun x lo a b al al' => Sh N 0 x lo a b 120 al al' true) l h0 h1 b0 b (L.length + 4) x1) (hk : 2 * n + 2 ≤ k + 1) :
    Calls Tryz.prog 172 #[fptr C.gF f, .agg (ndV (N.getD n nd0)).toArray] w (CQ w o C N (comN N (k + 1) 0 f n c)) := by
  have HB0 : Hid (CB (w.alloc (.cells (ndV (N.getD n nd0)).toArray 134)) o C N f L r a (17 * (n - lo)) (n - lo) c) := B.alloc _
  have HX0 : Hid (Bn (w.alloc (.cells (ndV (N.getD n nd0)).toArray 134)) o (N.getD n nd0) w.heap.size) := Bn.new B.R _
  have HS0 : Hid (Stp QC w o (w.alloc (.cells (ndV (N.getD n nd0)).toArray 134)) o) := (Stp.refl _ _ _).alloc _
  have HG : Hid (lo < (N.getD n nd0).a ∧ (N.getD n nd0).a < (N.getD (N.getD n nd0).a nd0).next ∧ (N.getD (N.getD n nd0).a nd0).next = h0 ∧ h0 ≤ h1 ∧ n = h1 + 1 ∧ 2 * n + 2 ≤ k + 1 ∧ n < N.length ∧ L.length + 4 ≤ 12 ∧ (c.fn f).loops.length ≤ lo ∧ N.length ≤ 1000) := ⟨g3.lt, g4.lt, g5.2.1, (SeqS.in_ Sh.ltS g9).1, g6, hk, hn, g2, hll.n, hN⟩
  have HLB : Hid (LpB lo (c.fn f).loops) := hll
  have HG1 : Hid (Sh N 1 (N.getD n nd0).a lo a b1 120 0 0 false) := g3
  have HG2 : Hid (Sh N 1 (N.getD (N.getD n nd0).a nd0).next (N.getD n nd0).a b1 b0 120 0 0 false) := g4
  have HG3 : Hid ((N.getD (N.getD (N.getD n nd0).a nd0).next nd0).next = 0 ∧ b0 = b0) := ⟨g5.1, g5.2.2⟩
  have HC1 : Hid (Chain N (N.getD n nd0).b l) := g8
  have HQ1 : Hid (SeqS (fun x lo a b al al' => Sh N 0 x lo a b 120 al al' true) l h0 h1 b0 b (L.length + 4) x1) := g9
  have HEND : Hid (comN N (k + 1) 0 f n c = _) := com_s8 hd
  have HU : Hid (C.gF < w.heap.size ∧ ∃ s : Sl, w.cell? ⟨C.gF, f * 11 + 3, none⟩ = some (.slice s.a (L.length : Nat) s.c)) := ⟨B.lens.1, B.lens.2.2⟩
  have HLC : Hid ((c.fn f).locals.length = L.length) := by show _ = _; rw [B.I.loc]
  obtain ⟨w0, HW0⟩ : ∃ w0, Hid (w.alloc (.cells (ndV (N.getD n nd0)).toArray 134) = w0) := ⟨_, rfl⟩
  rw [HW0.out] at HB0 HX0 HS0
  obtain ⟨o0, ho0⟩ : ∃ z, z = o := ⟨_, rfl⟩
  rw [← ho0] at HB0 HX0
  have HS0 : Hid (Stp QC w o w0 o0) := by rw [ho0]; exact HS0
  clear ho0
  obtain ⟨m, HM⟩ : ∃ m : Nat, Hid (L.length = m) := ⟨_, rfl⟩
  rw [HM.out] at g2 HLC HU
  clear B hll g3 g4 g5 g6 g8 g9 hk hn hN
  generalize hD : N.getD n nd0 = d at *
  clear hD
  have hV : (ndV d).toArray = #[.int .i64 d.k, .int .i64 d.a, .int .i64 d.b, .int .i64 d.c, .int .i64 d.next, .int .u64 d.n, sv d.s, .int .i64 d.p] := rfl
  rw [hV] at HW0 ⊢
  clear hV hd
  unfold fptr
  go_enter_defers Tryz.func172, Tryz.ntmps172
  obtain ⟨u1l, u1t, u1d⟩ := HU.out
  go_wp2_with fail
  rw [HW0.out]
  clear u1l u1d
  obtain ⟨gg1, ⟨y0, y1, y2, y3, y4, y5, y6, y7, y8, y9, y10⟩, al1, ac1, ag1, an1⟩ := HB0.out.asp (bk := w.heap.size) (j := 1) (x := d.a) (by have := HG.out; omega) (by rw [HX0.out.hd.cell]; rfl)
  have lb1 := HX0.out.hd.lt
  have lx1 : d.a < N.length := by have := HG.out; omega
  have ll1 : (N.getD d.a nd0).next < N.length := by have := HG.out; omega
  generalize hE1 : N.getD d.a nd0 = e at *
  clear hE1 y3 y4 y5 y6 y8 y9 y10
  obtain ⟨lim, HLIM⟩ : ∃ lim, Hid (e.next = lim) := ⟨_, rfl⟩
  rw [HLIM.out] at y7 ll1 HG HG2 HG3 HEND
  refine wp_calmQ ?_
  refine wp_region_tail 12 (by kernel_rfl) (by kernel_rfl) (fun _ _ _ _ _ h => h) ?_
  simp only [List.take_succ_cons, List.take_zero, List.drop_succ_cons, List.drop_zero]
  repeat go_big_quiet_step (fail)
  refine wpQuiet_nil ?_
  go_wp2_with fail
  refine calmQ_normal ?_
  have fr1 : Fr (fun _ => False) w0 w0.drew := (Fr.refl _ _).drew
  have hb1 := HB0.out.fresh fr1
  have hs1 := HS0.out.trans (Stp.fresh QC o0 fr1)
  have hx1 := HX0.out.st (Stp.fresh QC o0 fr1) q0c
  clear fr1 y0 y1 y2 y7
  generalize w0.drew = w1 at *
  obtain ⟨o1, ho1⟩ : ∃ z, z = o0 := ⟨_, rfl⟩
  rw [← ho1] at hb1 hs1 hx1
  clear ho1
  have HB1 : Hid (CB w1 o1 C N f L r a _ _ _) := hb1
  have HS1 : Hid (Stp QC w o w1 o1) := hs1
  have HX1 : Hid (Bn w1 o1 d w.heap.size) := hx1
  clear hb1 hs1 hx1
  obtain ⟨gg2, _, ⟨p1, p2, p3, p4, p5, p6, p7⟩⟩ := HB1.out.R.nd HB1.out.hf (by omega)
  have p8 := p7 lim 4 ll1 (by omega)
  simp only [ndV, List.getElem?_cons_succ, List.getElem?_cons_zero] at p8
  generalize hE2 : N.getD lim nd0 = e2 at *
  clear hE2 p7
  rw [HG3.out.1] at p8
  obtain ⟨r0, r1, r2, r3, r4, r5, r6, r7, r8⟩ := HX1.out.read
  have HZ2 : Hid (_ ∧ _) := HB1.out.exL A HG1.out (by have := HG.out; omega) (by have := HG.out; omega) (by have := HG.out; omega)
  go_wp2_with fail
  refine (HB1.out.ex A W HG1.out (by have := HG.out; omega) (by have := HG.out; omega) (by have := HG.out; omega)).mono ?_
  rintro e2 w2 ⟨rfl, o2, B2, S2⟩
  have HX2 : Hid (Bn w2 o2 d w.heap.size) := HX1.out.st S2 q0c
  clear r0 r1 r2 r3 r4 r5 r6 r7 r8
  obtain ⟨r0, r1, r2, r3, r4, r5, r6, r7, r8⟩ := HX2.out.read
  have HB2 : Hid (CB w2 o2 C N f L r b1 _ _ _) := B2
  have HS2 : Hid (Stp QC w o w2 o2) := HS1.out.trans S2
  clear p1 p2 p3 p4 p5 p6 p8
  clear B2 S2
  have HZ3 : Hid (_ ∧ _) := bind_len HB2.out.I [] (by have := HG.out; omega)
  go_wp2_with fail
  refine (HB2.out.bind [] (by have := HG.out; omega) (by have := HG.out; omega)).mono ?_
  rintro e3 w3 ⟨rfl, o3, B3, S3⟩
  have HX3 : Hid (Bn w3 o3 d w.heap.size) := HX2.out.st S3 q0c
  clear r0 r1 r2 r3 r4 r5 r6 r7 r8
  obtain ⟨r0, r1, r2, r3, r4, r5, r6, r7, r8⟩ := HX3.out.read
  have HB3 : Hid (CB w3 o3 C N f (L ++ [[]]) r b1 _ _ _) := B3
  have HS3 : Hid (Stp QC w o w3 o3) := HS2.out.trans S3
  clear B3 S3
  have HZ4 : Hid (_ ∧ _) := HB3.out.exL A HG2.out (by have := HG.out; omega) (by have := HG.out; omega) (by have := HG.out; omega)
  go_wp2_with fail
  refine (HB3.out.ex A W HG2.out (by have := HG.out; omega) (by have := HG.out; omega) (by have := HG.out; omega)).mono ?_
  rintro e4 w4 ⟨rfl, o4, B4, S4⟩
  have HX4 : Hid (Bn w4 o4 d w.heap.size) := HX3.out.st S4 q0c
  clear r0 r1 r2 r3 r4 r5 r6 r7 r8
  obtain ⟨r0, r1, r2, r3, r4, r5, r6, r7, r8⟩ := HX4.out.read
  have HB4 : Hid (CB w4 o4 C N f (L ++ [[]]) r b0 _ _ _) := B4
  have HS4 : Hid (Stp QC w o w4 o4) := HS3.out.trans S4
  clear B4 S4
  have HZ5 : Hid (_ ∧ _) := bind_len HB4.out.I [] (by have := HG.out; simp only [List.length_append, List.length_cons, List.length_nil]; omega)
  go_wp2_with fail
  refine (HB4.out.bind [] (by have := HG.out; simp only [List.length_append, List.length_cons, List.length_nil]; omega) (by have := HG.out; omega)).mono ?_
  rintro e5 w5 ⟨rfl, o5, B5, S5⟩
  have HX5 : Hid (Bn w5 o5 d w.heap.size) := HX4.out.st S5 q0c
  clear r0 r1 r2 r3 r4 r5 r6 r7 r8
  obtain ⟨r0, r1, r2, r3, r4, r5, r6, r7, r8⟩ := HX5.out.read
  have HB5 : Hid (CB w5 o5 C N f (L ++ [[]] ++ [[]]) r b0 _ _ _) := B5
  have HS5 : Hid (Stp QC w o w5 o5) := HS4.out.trans S5
  clear B5 S5
  obtain ⟨_, cc6, lc6, _⟩ := Po.const b0 HB5.out.I (numV one64) one64_ok (by have := HB5.out.kc; omega)
  have HZ6 : Hid (_ ∧ _) := And.intro (congrArg List.length cc6) lc6
  clear cc6 lc6
  go_wp2_with fail
  refine (HB5.out.number one64 one64_ok (by have := HG.out; omega)).mono ?_
  rintro e6 w6 ⟨rfl, o6, B6, S6⟩
  have HX6 : Hid (Bn w6 o6 d w.heap.size) := HX5.out.st S6 q0c
  clear r0 r1 r2 r3 r4 r5 r6 r7 r8
  obtain ⟨r0, r1, r2, r3, r4, r5, r6, r7, r8⟩ := HX6.out.read
  have HB6 : Hid (CB w6 o6 C N f (L ++ [[]] ++ [[]]) r b0 _ _ _) := B6
  have HS6 : Hid (Stp QC w o w6 o6) := HS5.out.trans S6
  clear B6 S6
  obtain ⟨kk, HKK⟩ : ∃ kk, Hid ((((comN N k 1 f lim ((comN N k 1 f d.a c).bind f [])).bind f []).const f (numV one64)).2 = kk) := ⟨_, rfl⟩
  rw [HKK.out]
  have HZ7 : Hid (_ ∧ _) := emit_len HB6.out.I [(1, kk)]
  go_wp2_with fail
  refine (HB6.out.emitK (op := 1) (y := kk) rfl rfl rfl (by have := HG.out; omega)).mono ?_
  rintro e7 w7 ⟨rfl, o7, B7, S7⟩
  have HX7 : Hid (Bn w7 o7 d w.heap.size) := HX6.out.st S7 q0c
  clear r0 r1 r2 r3 r4 r5 r6 r7 r8
  obtain ⟨r0, r1, r2, r3, r4, r5, r6, r7, r8⟩ := HX7.out.read
  have HB7 : Hid (CB w7 o7 C N f (L ++ [[]] ++ [[]]) r b0 _ _ _) := B7
  have HS7 : Hid (Stp QC w o w7 o7) := HS6.out.trans S7
  clear B7 S7
  have HZ8 : Hid (_ ∧ _) := bind_len HB7.out.I [] (by have := HG.out; simp only [List.length_append, List.length_cons, List.length_nil]; omega)
  go_wp2_with fail
  refine (HB7.out.bind [] (by have := HG.out; simp only [List.length_append, List.length_cons, List.length_nil]; omega) (by have := HG.out; omega)).mono ?_
  rintro e8 w8 ⟨rfl, o8, B8, S8⟩
  have HX8 : Hid (Bn w8 o8 d w.heap.size) := HX7.out.st S8 q0c
  clear r0 r1 r2 r3 r4 r5 r6 r7 r8
  obtain ⟨r0, r1, r2, r3, r4, r5, r6, r7, r8⟩ := HX8.out.read
  have HB8 : Hid (CB w8 o8 C N f (L ++ [[]] ++ [[]] ++ [[]]) r b0 _ _ _) := B8
  have HS8 : Hid (Stp QC w o w8 o8) := HS7.out.trans S8
  clear B8 S8
  have HZ9 : Hid (_ ∧ _) := emit_len HB8.out.I [(30, m)]
  go_wp2_with fail
  refine (HB8.out.emitK (op := 30) (y := m) rfl rfl rfl (by have := HG.out; omega)).mono ?_
  rintro e9 w9 ⟨rfl, o9, B9, S9⟩
  have HX9 : Hid (Bn w9 o9 d w.heap.size) := HX8.out.st S9 q0c
  clear r0 r1 r2 r3 r4 r5 r6 r7 r8
  obtain ⟨r0, r1, r2, r3, r4, r5, r6, r7, r8⟩ := HX9.out.read
  have HB9 : Hid (CB w9 o9 C N f (L ++ [[]] ++ [[]] ++ [[]]) r b0 _ _ _) := B9
  have HS9 : Hid (Stp QC w o w9 o9) := HS8.out.trans S9
  clear B9 S9
  obtain ⟨t, HT⟩ : ∃ t : Nat, Hid ((((((((comN N k 1 f lim ((comN N k 1 f d.a c).bind f [])).bind f []).const f (numV one64)).1.emit f [(1, kk)]).bind f []).emit f [(30, m)]).fn f).code.length = t) := ⟨_, rfl⟩
  obtain ⟨ul, ⟨us, uc⟩, _⟩ := HB9.out.lens
  have tle := HB9.out.pc
  rw [HT.out] at uc tle
  have tle : t ≤ 65000 := by omega
  have HZ10 : Hid (_ ∧ _) := emit_len HB9.out.I [(31, m)]
  go_wp2_with fail
  refine (HB9.out.emitK (op := 31) (y := m) rfl rfl rfl (by have := HG.out; omega)).mono ?_
  rintro e10 w10 ⟨rfl, o10, B10, S10⟩
  have HX10 : Hid (Bn w10 o10 d w.heap.size) := HX9.out.st S10 q0c
  clear r0 r1 r2 r3 r4 r5 r6 r7 r8
  obtain ⟨r0, r1, r2, r3, r4, r5, r6, r7, r8⟩ := HX10.out.read
  have HB10 : Hid (CB w10 o10 C N f (L ++ [[]] ++ [[]] ++ [[]]) r b0 _ _ _) := B10
  have HS10 : Hid (Stp QC w o w10 o10) := HS9.out.trans S10
  clear B10 S10
  clear ul uc
  have HZ11 : Hid (_ = _) := jump_len HB10.out.I 22
  have HY11 : Hid (_ = _) := jump_loops HB10.out.I 22
  go_wp2_with fail
  refine (HB10.out.jump 22 (by have := HG.out; omega)).mono ?_
  rintro e11 w11 ⟨PAa, PAb, o11, rfl, B11, S11, P11⟩
  have HX11 : Hid (Bn w11 o11 d w.heap.size) := HX10.out.st S11 q0c
  clear r0 r1 r2 r3 r4 r5 r6 r7 r8
  obtain ⟨r0, r1, r2, r3, r4, r5, r6, r7, r8⟩ := HX11.out.read
  have HB11 : Hid (CB w11 o11 C N f (L ++ [[]] ++ [[]] ++ [[]]) r b0 _ _ _) := B11
  have HS11 : Hid (Stp QC w o w11 o11) := HS10.out.trans S11
  unfold patV
  have PA11 : Hid (Pat w11 o11 C.gF f (PAa, PAb) _) := P11
  clear P11
  clear B11 S11
  have HZ12 : Hid (_ ∧ _) := open_len HB11.out.I m
  go_wp2_with fail
  refine (HB11.out.open m (by have := HG.out; rw [HY11.out, HZ10.out.2, HZ9.out.2, HZ8.out.2, HZ7.out.2, HZ6.out.2, HZ5.out.2, HZ4.out.1, HZ3.out.2, HZ2.out.1]; omega)).mono ?_
  rintro e12 w12 ⟨rfl, o12, B12, S12⟩
  have HX12 : Hid (Bn w12 o12 d w.heap.size) := HX11.out.st S12 q0c
  clear r0 r1 r2 r3 r4 r5 r6 r7 r8
  obtain ⟨r0, r1, r2, r3, r4, r5, r6, r7, r8⟩ := HX12.out.read
  have HB12 : Hid (CB w12 o12 C N f (L ++ [[]] ++ [[]] ++ [[]]) r b0 _ _ _) := B12
  have HS12 : Hid (Stp QC w o w12 o12) := HS11.out.trans S12
  have PA12 : Hid (Pat w12 o12 C.gF f (PAa, PAb) _) := PA11.out.st S12 q0c
  clear B12 S12
  have HZ13 : Hid (_ ∧ _) := emit_len HB12.out.I [(5, m)]
  go_wp2_with fail
  refine (HB12.out.emitK (op := 5) (y := m) rfl rfl rfl (by have := HG.out; omega)).mono ?_
  rintro e13 w13 ⟨rfl, o13, B13, S13⟩
  have HX13 : Hid (Bn w13 o13 d w.heap.size) := HX12.out.st S13 q0c
  clear r0 r1 r2 r3 r4 r5 r6 r7 r8
  obtain ⟨r0, r1, r2, r3, r4, r5, r6, r7, r8⟩ := HX13.out.read
  have HB13 : Hid (CB w13 o13 C N f (L ++ [[]] ++ [[]] ++ [[]]) r b0 _ _ _) := B13
  have HS13 : Hid (Stp QC w o w13 o13) := HS12.out.trans S13
  have PA13 : Hid (Pat w13 o13 C.gF f (PAa, PAb) _) := PA12.out.st S13 q0c
  clear B13 S13
  have HZ14 : Hid (_ ∧ _) := bind_len HB13.out.I d.s (by have := HG.out; simp only [List.length_append, List.length_cons, List.length_nil]; omega)
  go_wp2_with fail
  refine (HB13.out.bind d.s (by have := HG.out; simp only [List.length_append, List.length_cons, List.length_nil]; omega) (by have := HG.out; omega)).mono ?_
  rintro e14 w14 ⟨rfl, o14, B14, S14⟩
  have HX14 : Hid (Bn w14 o14 d w.heap.size) := HX13.out.st S14 q0c
  clear r0 r1 r2 r3 r4 r5 r6 r7 r8
  obtain ⟨r0, r1, r2, r3, r4, r5, r6, r7, r8⟩ := HX14.out.read
  have HB14 : Hid (CB w14 o14 C N f (L ++ [[]] ++ [[]] ++ [[]] ++ [d.s]) r b0 _ _ _) := B14
  have HS14 : Hid (Stp QC w o w14 o14) := HS13.out.trans S14
  have PA14 : Hid (Pat w14 o14 C.gF f (PAa, PAb) _) := PA13.out.st S14 q0c
  clear B14 S14
  obtain ⟨hs15, hl15⟩ := HB14.out.blL A (lb := m) (lp := true) HC1.out (by have h := HQ1.out; simp only [List.length_append, List.length_cons, List.length_nil]; exact h) (by have := HG.out; omega) (fun _ => ⟨by rw [← HM.out]; simp only [List.length_append, List.length_cons, List.length_nil]; omega, _, _, (by rw [HZ14.out.2, HZ13.out.2]; exact HZ12.out.2)⟩) (by have := HG.out; omega) (by have := HG.out; omega) (by have := HG.out; omega)
  have HZ15 : Hid (_ ∧ _ ∧ _ ∧ _) := hl15
  clear hl15
  go_wp2_with fail
  refine (HB14.out.bl A W (lb := m) (lp := true) HC1.out (by have h := HQ1.out; simp only [List.length_append, List.length_cons, List.length_nil]; exact h) (by have := HG.out; omega) (fun _ => ⟨by rw [← HM.out]; simp only [List.length_append, List.length_cons, List.length_nil]; omega, _, _, (by rw [HZ14.out.2, HZ13.out.2]; exact HZ12.out.2)⟩) (by rw [HZ14.out.2, HZ13.out.2, HZ12.out.2, HY11.out, HZ10.out.2, HZ9.out.2, HZ8.out.2, HZ7.out.2, HZ6.out.2, HZ5.out.2, HZ4.out.1, HZ3.out.2, HZ2.out.1]; exact HLB.out.open (by have := HG.out; omega)) (by have := HG.out; omega) (by have := HG.out; omega) (by have := HG.out; omega)).mono ?_
  rintro e15 w15 ⟨rfl, o15, B15, S15⟩
  have HX15 : Hid (Bn w15 o15 d w.heap.size) := HX14.out.st S15 q0c
  clear r0 r1 r2 r3 r4 r5 r6 r7 r8
  obtain ⟨r0, r1, r2, r3, r4, r5, r6, r7, r8⟩ := HX15.out.read
  have HB15 : Hid (CB w15 o15 C N f (L ++ [[]] ++ [[]] ++ [[]] ++ [d.s]) r b _ _ _) := B15
  have HS15 : Hid (Stp QC w o w15 o15) := HS14.out.trans S15
  have PA15 : Hid (Pat w15 o15 C.gF f (PAa, PAb) _) := PA14.out.st S15 q0c
  clear B15 S15
  have HZ16 : Hid (_ ∧ _) := leave_len HB15.out.I (m + 3)
  go_wp2_with fail
  refine (HB15.out.leave (m + 3) (by have := HG.out; have := HM.out; omega) (by have := HG.out; omega)).mono ?_
  rintro e16 w16 ⟨rfl, o16, B16, S16⟩
  have HX16 : Hid (Bn w16 o16 d w.heap.size) := HX15.out.st S16 q0c
  clear r0 r1 r2 r3 r4 r5 r6 r7 r8
  obtain ⟨r0, r1, r2, r3, r4, r5, r6, r7, r8⟩ := HX16.out.read
  have HB16 : Hid (CB w16 o16 C N f (List.take (m + 3) (L ++ [[]] ++ [[]] ++ [[]] ++ [d.s])) r b _ _ _) := B16
  have HS16 : Hid (Stp QC w o w16 o16) := HS15.out.trans S16
  have PA16 : Hid (Pat w16 o16 C.gF f (PAa, PAb) _) := PA15.out.st S16 q0c
  clear B16 S16
  have HZ17 : Hid (_ ∧ _) := emit_len HB16.out.I [(5, m), (5, m + 2), (15, 1), (6, m), (21, t)]
  go_wp2_with fail
  refine ((HB16.out.alloc (.cells #[.int .u8 5, .int .u16 (m : Nat), .int .u8 5, .int .u16 (m + 2 : Nat), .int .u8 15, .int .u16 1, .int .u8 6, .int .u16 (m : Nat), .int .u8 21, .int .u16 (t : Nat)] 105)).emit [(5, m), (5, m + 2), (15, 1), (6, m), (21, t)] (kb := w16.heap.size) (m := 5) (cap := 5) (Has.new _ _ _) rfl (by omega) (by have := HG.out; omega)).mono ?_
  rintro e17 w17 ⟨rfl, o17, B17, S17⟩
  have S17 := ((Stp.refl QC w16 o16).alloc (.cells #[.int .u8 5, .int .u16 (m : Nat), .int .u8 5, .int .u16 (m + 2 : Nat), .int .u8 15, .int .u16 1, .int .u8 6, .int .u16 (m : Nat), .int .u8 21, .int .u16 (t : Nat)] 105)).trans S17
  have SX17 := S17
  have HX17 : Hid (Bn w17 o17 d w.heap.size) := HX16.out.st S17 q0c
  clear r0 r1 r2 r3 r4 r5 r6 r7 r8
  obtain ⟨r0, r1, r2, r3, r4, r5, r6, r7, r8⟩ := HX17.out.read
  have HB17 : Hid (CB w17 o17 C N f (List.take (m + 3) (L ++ [[]] ++ [[]] ++ [[]] ++ [d.s])) r b _ _ _) := B17
  have HS17 : Hid (Stp QC w o w17 o17) := HS16.out.trans S17
  clear B17 S17
  have PA17 : Hid (Pat w17 o17 C.gF f (PAa, PAb) _) := PA16.out.st SX17 q0c
  have HK : Hid (_ < _) := (by have z8 := HZ11.out; have z9 := HZ12.out.1; have z10 := HZ13.out.1; have z11 := HZ14.out.1; have z12 := HZ15.out.2.1; have z13 := HZ16.out.1; have z14 := HZ17.out.1; simp only [List.length_cons, List.length_nil] at z10 z14; exact Nat.lt_of_lt_of_le (Nat.lt_succ_self _) (Nat.le_trans (Nat.le_of_eq z8.symm) (Nat.le_trans (Nat.le_of_eq z9.symm) (Nat.le_trans (by omega) (Nat.le_trans z12 (Nat.le_trans z13 (Nat.le_trans (Nat.le_add_right _ _) (Nat.le_of_eq z14.symm))))))))
  have HZ18 : Hid (∀ p, _ ∧ _) := fun p => land_len HB17.out.I p
  go_wp2_with fail
  refine (HB17.out.land PA17.out HK.out).mono ?_
  rintro e18 w18 ⟨rfl, o18, B18, S18⟩
  have HX18 : Hid (Bn w18 o18 d w.heap.size) := HX17.out.st S18 q0c
  clear r0 r1 r2 r3 r4 r5 r6 r7 r8
  obtain ⟨r0, r1, r2, r3, r4, r5, r6, r7, r8⟩ := HX18.out.read
  have HB18 : Hid (CB w18 o18 C N f (List.take (m + 3) (L ++ [[]] ++ [[]] ++ [[]] ++ [d.s])) r b _ _ _) := B18
  have HS18 : Hid (Stp QC w o w18 o18) := HS17.out.trans S18
  clear B18 S18
  have HEQ : Hid (∀ p, _ = _ ++ [_]) := fun p => (((HZ18.out p).2.trans HZ17.out.2).trans HZ16.out.2).trans (HZ15.out.1.trans (by rw [HZ14.out.2, HZ13.out.2, HZ12.out.2, HY11.out, HZ10.out.2, HZ9.out.2, HZ8.out.2, HZ7.out.2, HZ6.out.2, HZ5.out.2, HZ4.out.1, HZ3.out.2, HZ2.out.1, addB_snoc] : _ = (c.fn f).loops ++ [⟨m, [] ++ hs15⟩]))
  go_wp2_with fail
  refine (HB18.out.shut (HEQ.out _) (fun q hq => by have h1 := HZ15.out.2.2.1 q (by simpa using hq); have h2 := HZ16.out.1; have h3 := HZ17.out.1; rw [(HZ18.out _).1, h3]; omega) (by have := HG.out; omega) (by have := HZ15.out.2.2.2.1; simp; omega)).mono ?_
  rintro e19 w19 ⟨rfl, o19, B19, S19⟩
  have HX19 : Hid (Bn w19 o19 d w.heap.size) := HX18.out.st S19 q0c
  clear r0 r1 r2 r3 r4 r5 r6 r7 r8
  obtain ⟨r0, r1, r2, r3, r4, r5, r6, r7, r8⟩ := HX19.out.read
  have HB19 : Hid (CB w19 o19 C N f (List.take (m + 3) (L ++ [[]] ++ [[]] ++ [[]] ++ [d.s])) r b _ _ _) := B19
  have HS19 : Hid (Stp QC w o w19 o19) := HS18.out.trans S19
  clear B19 S19
  go_wp2_with fail
  refine leaves_cons (f := 100) (args := #[.pointer (some ⟨C.gF, f * 11, none⟩), .int .i64 m]) (by simp) (by simp [go_sem]) ?_
  refine (leave_d .returning HB19.out.R HB19.out.hf m (by omega) (by have h1 := HB19.out.pc; omega)).mono ?_
  rintro e99 u99 w99 ⟨rfl, rfl, o99, R99, S99⟩
  refine ⟨_, results_none rfl _ _ _, rfl, o99, ?_, HS19.out.trans (CB.qs S99)⟩
  rw [HEND.out]
  have e1 : m % 65536 = m := Nat.mod_eq_of_lt (by omega)
  have e2' : t % 65536 = t := Nat.mod_eq_of_lt (by omega)
  have e3 : (m + 2) % 65536 = m + 2 := Nat.mod_eq_of_lt (by omega)
  have HIF : (if e2.next ≠ 0 then (comN N k 1 f e2.next ((comN N k 1 f lim ((comN N k 1 f d.a c).bind f [])).bind f [])) else ((((comN N k 1 f lim ((comN N k 1 f d.a c).bind f [])).bind f []).const f (numV one64)).1.emit f [(1, (((comN N k 1 f lim ((comN N k 1 f d.a c).bind f [])).bind f []).const f (numV one64)).2)])) = ((((comN N k 1 f lim ((comN N k 1 f d.a c).bind f [])).bind f []).const f (numV one64)).1.emit f [(1, kk)]) := by rw [if_neg (by rw [HG3.out.1]; exact fun h => h rfl), HKK.out]
  simp only [HLC.out, e1, e3, CmD.here, HT.out, e2', HIF]
  exact R99
theorem count_3 (A : CA N k) (W : CW N C k) (B : CB w o C N f L r a (17 * (n - lo)) (n - lo) c) (hn : n < N.length) (hd : (N.getD n nd0).k = 8) (hN : N.length ≤ 1000) {b1 b2 b0 h0 h1 x1 : Nat} {l : List Nat} (hll : LpB lo (c.fn f).loops) (g2 : L.length + 4 ≤ 12) (g3 : Sh N 1 (N.getD n nd0).a lo a b1 120 0 0 false) (g4 : Sh N 1 (N.getD (N.getD n nd0).a nd0).next (N.getD n nd0).a b1 b2 120 0 0 false) (g5 : Sh N 1 (N.getD (N.getD (N.getD n nd0).a nd0).next nd0).next (N.getD (N.getD n nd0).a nd0).next b2 b0 120 0 0 false ∧ (N.getD (N.getD (N.getD n nd0).a nd0).next nd0).next = h0 ∧ (N.getD (N.getD (N.getD n nd0).a nd0).next nd0).next ≠ 0) (g6 : n = h1 + 1) (g8 : Chain N (N.getD n nd0).b l) (g9 : SeqS (fun x lo a b al al' => Sh N 0 x lo a b 120 al al' true) l h0 h1 b0 b (L.length + 4) x1) (hk : 2 * n + 2 ≤ k + 1) :
    Calls Tryz.prog 172 #[fptr C.gF f, .agg (ndV (N.getD n nd0)).toArray] w (CQ w o C N (comN N (k + 1) 0 f n c)) := by
  have HB0 : Hid (CB (w.alloc (.cells (ndV (N.getD n nd0)).toArray 134)) o C N f L r a (17 * (n - lo)) (n - lo) c) := B.alloc _
  have HX0 : Hid (Bn (w.alloc (.cells (ndV (N.getD n nd0)).toArray 134)) o (N.getD n nd0) w.heap.size) := Bn.new B.R _
  have HS0 : Hid (Stp QC w o (w.alloc (.cells (ndV (N.getD n nd0)).toArray 134)) o) := (Stp.refl _ _ _).alloc _
  have HG : Hid (lo < (N.getD n nd0).a ∧ (N.getD n nd0).a < (N.getD (N.getD n nd0).a nd0).next ∧ (N.getD (N.getD n nd0).a nd0).next < (N.getD (N.getD (N.getD n nd0).a nd0).next nd0).next ∧ (N.getD (N.getD (N.getD n nd0).a nd0).next nd0).next = h0 ∧ h0 ≤ h1 ∧ n = h1 + 1 ∧ 2 * n + 2 ≤ k + 1 ∧ n < N.length ∧ L.length + 4 ≤ 12 ∧ (c.fn f).loops.length ≤ lo ∧ N.length ≤ 1000) := ⟨g3.lt, g4.lt, g5.1.lt, g5.2.1, (SeqS.in_ Sh.ltS g9).1, g6, hk, hn, g2, hll.n, hN⟩
  have HLB : Hid (LpB lo (c.fn f).loops) := hll
  have HG1 : Hid (Sh N 1 (N.getD n nd0).a lo a b1 120 0 0 false) := g3
  have HG2 : Hid (Sh N 1 (N.getD (N.getD n nd0).a nd0).next (N.getD n nd0).a b1 b2 120 0 0 false) := g4
  have HG3 : Hid (Sh N 1 (N.getD (N.getD (N.getD n nd0).a nd0).next nd0).next (N.getD (N.getD n nd0).a nd0).next b2 b0 120 0 0 false ∧ (N.getD (N.getD (N.getD n nd0).a nd0).next nd0).next ≠ 0) := ⟨g5.1, g5.2.2⟩
  have HC1 : Hid (Chain N (N.getD n nd0).b l) := g8
  have HQ1 : Hid (SeqS (fun x lo a b al al' => Sh N 0 x lo a b 120 al al' true) l h0 h1 b0 b (L.length + 4) x1) := g9
  have HEND : Hid (comN N (k + 1) 0 f n c = _) := com_s8 hd
  have HU : Hid (C.gF < w.heap.size ∧ ∃ s : Sl, w.cell? ⟨C.gF, f * 11 + 3, none⟩ = some (.slice s.a (L.length : Nat) s.c)) := ⟨B.lens.1, B.lens.2.2⟩
  have HLC : Hid ((c.fn f).locals.length = L.length) := by show _ = _; rw [B.I.loc]
  obtain ⟨w0, HW0⟩ : ∃ w0, Hid (w.alloc (.cells (ndV (N.getD n nd0)).toArray 134) = w0) := ⟨_, rfl⟩
  rw [HW0.out] at HB0 HX0 HS0
  obtain ⟨o0, ho0⟩ : ∃ z, z = o := ⟨_, rfl⟩
  rw [← ho0] at HB0 HX0
  have HS0 : Hid (Stp QC w o w0 o0) := by rw [ho0]; exact HS0
  clear ho0
  obtain ⟨m, HM⟩ : ∃ m : Nat, Hid (L.length = m) := ⟨_, rfl⟩
  rw [HM.out] at g2 HLC HU
  clear B hll g3 g4 g5 g6 g8 g9 hk hn hN
  generalize hD : N.getD n nd0 = d at *
  clear hD
  have hV : (ndV d).toArray = #[.int .i64 d.k, .int .i64 d.a, .int .i64 d.b, .int .i64 d.c, .int .i64 d.next, .int .u64 d.n, sv d.s, .int .i64 d.p] := rfl
  rw [hV] at HW0 ⊢
  clear hV hd
  unfold fptr
  go_enter_defers Tryz.func172, Tryz.ntmps172
  obtain ⟨u1l, u1t, u1d⟩ := HU.out
  go_wp2_with fail
  rw [HW0.out]
  clear u1l u1d
  obtain ⟨gg1, ⟨y0, y1, y2, y3, y4, y5, y6, y7, y8, y9, y10⟩, al1, ac1, ag1, an1⟩ := HB0.out.asp (bk := w.heap.size) (j := 1) (x := d.a) (by have := HG.out; omega) (by rw [HX0.out.hd.cell]; rfl)
  have lb1 := HX0.out.hd.lt
  have lx1 : d.a < N.length := by have := HG.out; omega
  have ll1 : (N.getD d.a nd0).next < N.length := by have := HG.out; omega
  generalize hE1 : N.getD d.a nd0 = e at *
  clear hE1 y3 y4 y5 y6 y8 y9 y10
  obtain ⟨lim, HLIM⟩ : ∃ lim, Hid (e.next = lim) := ⟨_, rfl⟩
  rw [HLIM.out] at y7 ll1 HG HG2 HG3 HEND
  refine wp_calmQ ?_
  refine wp_region_tail 12 (by kernel_rfl) (by kernel_rfl) (fun _ _ _ _ _ h => h) ?_
  simp only [List.take_succ_cons, List.take_zero, List.drop_succ_cons, List.drop_zero]
  repeat go_big_quiet_step (fail)
  refine wpQuiet_nil ?_
  go_wp2_with fail
  refine calmQ_normal ?_
  have fr1 : Fr (fun _ => False) w0 w0.drew := (Fr.refl _ _).drew
  have hb1 := HB0.out.fresh fr1
  have hs1 := HS0.out.trans (Stp.fresh QC o0 fr1)
  have hx1 := HX0.out.st (Stp.fresh QC o0 fr1) q0c
  clear fr1 y0 y1 y2 y7
  generalize w0.drew = w1 at *
  obtain ⟨o1, ho1⟩ : ∃ z, z = o0 := ⟨_, rfl⟩
  rw [← ho1] at hb1 hs1 hx1
  clear ho1
  have HB1 : Hid (CB w1 o1 C N f L r a _ _ _) := hb1
  have HS1 : Hid (Stp QC w o w1 o1) := hs1
  have HX1 : Hid (Bn w1 o1 d w.heap.size) := hx1
  clear hb1 hs1 hx1
  obtain ⟨gg2, _, ⟨p1, p2, p3, p4, p5, p6, p7⟩⟩ := HB1.out.R.nd HB1.out.hf (by omega)
  have p8 := p7 lim 4 ll1 (by omega)
  simp only [ndV, List.getElem?_cons_succ, List.getElem?_cons_zero] at p8
  generalize hE2 : N.getD lim nd0 = e2 at *
  clear hE2 p7
  obtain ⟨stp, HST⟩ : ∃ stp, Hid (e2.next = stp) := ⟨_, rfl⟩
  rw [HST.out] at p8 HG HG3 HEND
  have sne : decide (stp = 0) = false := decide_eq_false HG3.out.2
  have sne2 : ((stp : Int) == 0) = false := by simp; exact HG3.out.2
  have sne3 : ((stp : Int) != 0) = true := by simp; exact HG3.out.2
  obtain ⟨r0, r1, r2, r3, r4, r5, r6, r7, r8⟩ := HX1.out.read
  have HZ2 : Hid (_ ∧ _) := HB1.out.exL A HG1.out (by have := HG.out; omega) (by have := HG.out; omega) (by have := HG.out; omega)
  go_wp2_with fail
  refine (HB1.out.ex A W HG1.out (by have := HG.out; omega) (by have := HG.out; omega) (by have := HG.out; omega)).mono ?_
  rintro e2 w2 ⟨rfl, o2, B2, S2⟩
  have HX2 : Hid (Bn w2 o2 d w.heap.size) := HX1.out.st S2 q0c
  clear r0 r1 r2 r3 r4 r5 r6 r7 r8
  obtain ⟨r0, r1, r2, r3, r4, r5, r6, r7, r8⟩ := HX2.out.read
  have HB2 : Hid (CB w2 o2 C N f L r b1 _ _ _) := B2
  have HS2 : Hid (Stp QC w o w2 o2) := HS1.out.trans S2
  clear p1 p2 p3 p4 p5 p6 p8
  clear B2 S2
  have HZ3 : Hid (_ ∧ _) := bind_len HB2.out.I [] (by have := HG.out; omega)
  go_wp2_with fail
  refine (HB2.out.bind [] (by have := HG.out; omega) (by have := HG.out; omega)).mono ?_
  rintro e3 w3 ⟨rfl, o3, B3, S3⟩
  have HX3 : Hid (Bn w3 o3 d w.heap.size) := HX2.out.st S3 q0c
  clear r0 r1 r2 r3 r4 r5 r6 r7 r8
  obtain ⟨r0, r1, r2, r3, r4, r5, r6, r7, r8⟩ := HX3.out.read
  have HB3 : Hid (CB w3 o3 C N f (L ++ [[]]) r b1 _ _ _) := B3
  have HS3 : Hid (Stp QC w o w3 o3) := HS2.out.trans S3
  clear B3 S3
  have HZ4 : Hid (_ ∧ _) := HB3.out.exL A HG2.out (by have := HG.out; omega) (by have := HG.out; omega) (by have := HG.out; omega)
  go_wp2_with fail
  refine (HB3.out.ex A W HG2.out (by have := HG.out; omega) (by have := HG.out; omega) (by have := HG.out; omega)).mono ?_
  rintro e4 w4 ⟨rfl, o4, B4, S4⟩
  have HX4 : Hid (Bn w4 o4 d w.heap.size) := HX3.out.st S4 q0c
  clear r0 r1 r2 r3 r4 r5 r6 r7 r8
  obtain ⟨r0, r1, r2, r3, r4, r5, r6, r7, r8⟩ := HX4.out.read
  have HB4 : Hid (CB w4 o4 C N f (L ++ [[]]) r b2 _ _ _) := B4
  have HS4 : Hid (Stp QC w o w4 o4) := HS3.out.trans S4
  clear B4 S4
  have HZ5 : Hid (_ ∧ _) := bind_len HB4.out.I [] (by have := HG.out; simp only [List.length_append, List.length_cons, List.length_nil]; omega)
  go_wp2_with fail
  refine (HB4.out.bind [] (by have := HG.out; simp only [List.length_append, List.length_cons, List.length_nil]; omega) (by have := HG.out; omega)).mono ?_
  rintro e5 w5 ⟨rfl, o5, B5, S5⟩
  have HX5 : Hid (Bn w5 o5 d w.heap.size) := HX4.out.st S5 q0c
  clear r0 r1 r2 r3 r4 r5 r6 r7 r8
  obtain ⟨r0, r1, r2, r3, r4, r5, r6, r7, r8⟩ := HX5.out.read
  have HB5 : Hid (CB w5 o5 C N f (L ++ [[]] ++ [[]]) r b2 _ _ _) := B5
  have HS5 : Hid (Stp QC w o w5 o5) := HS4.out.trans S5
  clear B5 S5
  have HZ7 : Hid (_ ∧ _) := HB5.out.exL A HG3.out.1 (by have := HG.out; omega) (by have := HG.out; omega) (by have := HG.out; omega)
  go_wp2_with fail
  refine (HB5.out.ex A W HG3.out.1 (by have := HG.out; omega) (by have := HG.out; omega) (by have := HG.out; omega)).mono ?_
  rintro e6 w6 ⟨rfl, o6, B6, S6⟩
  have HX6 : Hid (Bn w6 o6 d w.heap.size) := HX5.out.st S6 q0c
  clear r0 r1 r2 r3 r4 r5 r6 r7 r8
  obtain ⟨r0, r1, r2, r3, r4, r5, r6, r7, r8⟩ := HX6.out.read
  have HB6 : Hid (CB w6 o6 C N f (L ++ [[]] ++ [[]]) r b0 _ _ _) := B6
  have HS6 : Hid (Stp QC w o w6 o6) := HS5.out.trans S6
  clear B6 S6
  have HZ8 : Hid (_ ∧ _) := bind_len HB6.out.I [] (by have := HG.out; simp only [List.length_append, List.length_cons, List.length_nil]; omega)
  go_wp2_with fail
  refine (HB6.out.bind [] (by have := HG.out; simp only [List.length_append, List.length_cons, List.length_nil]; omega) (by have := HG.out; omega)).mono ?_
  rintro e7 w7 ⟨rfl, o7, B7, S7⟩
  have HX7 : Hid (Bn w7 o7 d w.heap.size) := HX6.out.st S7 q0c
  clear r0 r1 r2 r3 r4 r5 r6 r7 r8
  obtain ⟨r0, r1, r2, r3, r4, r5, r6, r7, r8⟩ := HX7.out.read
  have HB7 : Hid (CB w7 o7 C N f (L ++ [[]] ++ [[]] ++ [[]]) r b0 _ _ _) := B7
  have HS7 : Hid (Stp QC w o w7 o7) := HS6.out.trans S7
  clear B7 S7
  have HZ9 : Hid (_ ∧ _) := emit_len HB7.out.I [(30, m)]
  go_wp2_with fail
  refine (HB7.out.emitK (op := 30) (y := m) rfl rfl rfl (by have := HG.out; omega)).mono ?_
  rintro e8 w8 ⟨rfl, o8, B8, S8⟩
  have HX8 : Hid (Bn w8 o8 d w.heap.size) := HX7.out.st S8 q0c
  clear r0 r1 r2 r3 r4 r5 r6 r7 r8
  obtain ⟨r0, r1, r2, r3, r4, r5, r6, r7, r8⟩ := HX8.out.read
  have HB8 : Hid (CB w8 o8 C N f (L ++ [[]] ++ [[]] ++ [[]]) r b0 _ _ _) := B8
  have HS8 : Hid (Stp QC w o w8 o8) := HS7.out.trans S8
  clear B8 S8
  obtain ⟨t, HT⟩ : ∃ t : Nat, Hid (((((comN N k 1 f stp ((comN N k 1 f lim ((comN N k 1 f d.a c).bind f [])).bind f [])).bind f []).emit f [(30, m)]).fn f).code.length = t) := ⟨_, rfl⟩
  obtain ⟨ul, ⟨us, uc⟩, _⟩ := HB8.out.lens
  have tle := HB8.out.pc
  rw [HT.out] at uc tle
  have tle : t ≤ 65000 := by omega
  have HZ10 : Hid (_ ∧ _) := emit_len HB8.out.I [(31, m)]
  go_wp2_with fail
  refine (HB8.out.emitK (op := 31) (y := m) rfl rfl rfl (by have := HG.out; omega)).mono ?_
  rintro e9 w9 ⟨rfl, o9, B9, S9⟩
  have HX9 : Hid (Bn w9 o9 d w.heap.size) := HX8.out.st S9 q0c
  clear r0 r1 r2 r3 r4 r5 r6 r7 r8
  obtain ⟨r0, r1, r2, r3, r4, r5, r6, r7, r8⟩ := HX9.out.read
  have HB9 : Hid (CB w9 o9 C N f (L ++ [[]] ++ [[]] ++ [[]]) r b0 _ _ _) := B9
  have HS9 : Hid (Stp QC w o w9 o9) := HS8.out.trans S9
  clear B9 S9
  clear ul uc
  have HZ11 : Hid (_ = _) := jump_len HB9.out.I 22
  have HY11 : Hid (_ = _) := jump_loops HB9.out.I 22
  go_wp2_with fail
  refine (HB9.out.jump 22 (by have := HG.out; omega)).mono ?_
  rintro e10 w10 ⟨PAa, PAb, o10, rfl, B10, S10, P10⟩
  have HX10 : Hid (Bn w10 o10 d w.heap.size) := HX9.out.st S10 q0c
  clear r0 r1 r2 r3 r4 r5 r6 r7 r8
  obtain ⟨r0, r1, r2, r3, r4, r5, r6, r7, r8⟩ := HX10.out.read
  have HB10 : Hid (CB w10 o10 C N f (L ++ [[]] ++ [[]] ++ [[]]) r b0 _ _ _) := B10
  have HS10 : Hid (Stp QC w o w10 o10) := HS9.out.trans S10
  unfold patV
  have PA10 : Hid (Pat w10 o10 C.gF f (PAa, PAb) _) := P10
  clear P10
  clear B10 S10
  have HZ12 : Hid (_ ∧ _) := open_len HB10.out.I m
  go_wp2_with fail
  refine (HB10.out.open m (by have := HG.out; rw [HY11.out, HZ10.out.2, HZ9.out.2, HZ8.out.2, HZ7.out.1, HZ5.out.2, HZ4.out.1, HZ3.out.2, HZ2.out.1]; omega)).mono ?_
  rintro e11 w11 ⟨rfl, o11, B11, S11⟩
  have HX11 : Hid (Bn w11 o11 d w.heap.size) := HX10.out.st S11 q0c
  clear r0 r1 r2 r3 r4 r5 r6 r7 r8
  obtain ⟨r0, r1, r2, r3, r4, r5, r6, r7, r8⟩ := HX11.out.read
  have HB11 : Hid (CB w11 o11 C N f (L ++ [[]] ++ [[]] ++ [[]]) r b0 _ _ _) := B11
  have HS11 : Hid (Stp QC w o w11 o11) := HS10.out.trans S11
  have PA11 : Hid (Pat w11 o11 C.gF f (PAa, PAb) _) := PA10.out.st S11 q0c
  clear B11 S11
  have HZ13 : Hid (_ ∧ _) := emit_len HB11.out.I [(5, m)]
  go_wp2_with fail
  refine (HB11.out.emitK (op := 5) (y := m) rfl rfl rfl (by have := HG.out; omega)).mono ?_
  rintro e12 w12 ⟨rfl, o12, B12, S12⟩
  have HX12 : Hid (Bn w12 o12 d w.heap.size) := HX11.out.st S12 q0c
  clear r0 r1 r2 r3 r4 r5 r6 r7 r8
  obtain ⟨r0, r1, r2, r3, r4, r5, r6, r7, r8⟩ := HX12.out.read
  have HB12 : Hid (CB w12 o12 C N f (L ++ [[]] ++ [[]] ++ [[]]) r b0 _ _ _) := B12
  have HS12 : Hid (Stp QC w o w12 o12) := HS11.out.trans S12
  have PA12 : Hid (Pat w12 o12 C.gF f (PAa, PAb) _) := PA11.out.st S12 q0c
  clear B12 S12
  have HZ14 : Hid (_ ∧ _) := bind_len HB12.out.I d.s (by have := HG.out; simp only [List.length_append, List.length_cons, List.length_nil]; omega)
  go_wp2_with fail
  refine (HB12.out.bind d.s (by have := HG.out; simp only [List.length_append, List.length_cons, List.length_nil]; omega) (by have := HG.out; omega)).mono ?_
  rintro e13 w13 ⟨rfl, o13, B13, S13⟩
  have HX13 : Hid (Bn w13 o13 d w.heap.size) := HX12.out.st S13 q0c
  clear r0 r1 r2 r3 r4 r5 r6 r7 r8
  obtain ⟨r0, r1, r2, r3, r4, r5, r6, r7, r8⟩ := HX13.out.read
  have HB13 : Hid (CB w13 o13 C N f (L ++ [[]] ++ [[]] ++ [[]] ++ [d.s]) r b0 _ _ _) := B13
  have HS13 : Hid (Stp QC w o w13 o13) := HS12.out.trans S13
  have PA13 : Hid (Pat w13 o13 C.gF f (PAa, PAb) _) := PA12.out.st S13 q0c
  clear B13 S13
  obtain ⟨hs15, hl15⟩ := HB13.out.blL A (lb := m) (lp := true) HC1.out (by have h := HQ1.out; simp only [List.length_append, List.length_cons, List.length_nil]; exact h) (by have := HG.out; omega) (fun _ => ⟨by rw [← HM.out]; simp only [List.length_append, List.length_cons, List.length_nil]; omega, _, _, (by rw [HZ14.out.2, HZ13.out.2]; exact HZ12.out.2)⟩) (by have := HG.out; omega) (by have := HG.out; omega) (by have := HG.out; omega)
  have HZ15 : Hid (_ ∧ _ ∧ _ ∧ _) := hl15
  clear hl15
  go_wp2_with fail
  refine (HB13.out.bl A W (lb := m) (lp := true) HC1.out (by have h := HQ1.out; simp only [List.length_append, List.length_cons, List.length_nil]; exact h) (by have := HG.out; omega) (fun _ => ⟨by rw [← HM.out]; simp only [List.length_append, List.length_cons, List.length_nil]; omega, _, _, (by rw [HZ14.out.2, HZ13.out.2]; exact HZ12.out.2)⟩) (by rw [HZ14.out.2, HZ13.out.2, HZ12.out.2, HY11.out, HZ10.out.2, HZ9.out.2, HZ8.out.2, HZ7.out.1, HZ5.out.2, HZ4.out.1, HZ3.out.2, HZ2.out.1]; exact HLB.out.open (by have := HG.out; omega)) (by have := HG.out; omega) (by have := HG.out; omega) (by have := HG.out; omega)).mono ?_
  rintro e14 w14 ⟨rfl, o14, B14, S14⟩
  have HX14 : Hid (Bn w14 o14 d w.heap.size) := HX13.out.st S14 q0c
  clear r0 r1 r2 r3 r4 r5 r6 r7 r8
  obtain ⟨r0, r1, r2, r3, r4, r5, r6, r7, r8⟩ := HX14.out.read
  have HB14 : Hid (CB w14 o14 C N f (L ++ [[]] ++ [[]] ++ [[]] ++ [d.s]) r b _ _ _) := B14
  have HS14 : Hid (Stp QC w o w14 o14) := HS13.out.trans S14
  have PA14 : Hid (Pat w14 o14 C.gF f (PAa, PAb) _) := PA13.out.st S14 q0c
  clear B14 S14
  have HZ16 : Hid (_ ∧ _) := leave_len HB14.out.I (m + 3)
  go_wp2_with fail
  refine (HB14.out.leave (m + 3) (by have := HG.out; have := HM.out; omega) (by have := HG.out; omega)).mono ?_
  rintro e15 w15 ⟨rfl, o15, B15, S15⟩
  have HX15 : Hid (Bn w15 o15 d w.heap.size) := HX14.out.st S15 q0c
  clear r0 r1 r2 r3 r4 r5 r6 r7 r8
  obtain ⟨r0, r1, r2, r3, r4, r5, r6, r7, r8⟩ := HX15.out.read
  have HB15 : Hid (CB w15 o15 C N f (List.take (m + 3) (L ++ [[]] ++ [[]] ++ [[]] ++ [d.s])) r b _ _ _) := B15
  have HS15 : Hid (Stp QC w o w15 o15) := HS14.out.trans S15
  have PA15 : Hid (Pat w15 o15 C.gF f (PAa, PAb) _) := PA14.out.st S15 q0c
  clear B15 S15
  have HZ17 : Hid (_ ∧ _) := emit_len HB15.out.I [(5, m), (5, m + 2), (15, 1), (6, m), (21, t)]
  go_wp2_with fail
  refine ((HB15.out.alloc (.cells #[.int .u8 5, .int .u16 (m : Nat), .int .u8 5, .int .u16 (m + 2 : Nat), .int .u8 15, .int .u16 1, .int .u8 6, .int .u16 (m : Nat), .int .u8 21, .int .u16 (t : Nat)] 105)).emit [(5, m), (5, m + 2), (15, 1), (6, m), (21, t)] (kb := w15.heap.size) (m := 5) (cap := 5) (Has.new _ _ _) rfl (by omega) (by have := HG.out; omega)).mono ?_
  rintro e16 w16 ⟨rfl, o16, B16, S16⟩
  have S16 := ((Stp.refl QC w15 o15).alloc (.cells #[.int .u8 5, .int .u16 (m : Nat), .int .u8 5, .int .u16 (m + 2 : Nat), .int .u8 15, .int .u16 1, .int .u8 6, .int .u16 (m : Nat), .int .u8 21, .int .u16 (t : Nat)] 105)).trans S16
  have SX16 := S16
  have HX16 : Hid (Bn w16 o16 d w.heap.size) := HX15.out.st S16 q0c
  clear r0 r1 r2 r3 r4 r5 r6 r7 r8
  obtain ⟨r0, r1, r2, r3, r4, r5, r6, r7, r8⟩ := HX16.out.read
  have HB16 : Hid (CB w16 o16 C N f (List.take (m + 3) (L ++ [[]] ++ [[]] ++ [[]] ++ [d.s])) r b _ _ _) := B16
  have HS16 : Hid (Stp QC w o w16 o16) := HS15.out.trans S16
  clear B16 S16
  have PA16 : Hid (Pat w16 o16 C.gF f (PAa, PAb) _) := PA15.out.st SX16 q0c
  have HK : Hid (_ < _) := (by have z8 := HZ11.out; have z9 := HZ12.out.1; have z10 := HZ13.out.1; have z11 := HZ14.out.1; have z12 := HZ15.out.2.1; have z13 := HZ16.out.1; have z14 := HZ17.out.1; simp only [List.length_cons, List.length_nil] at z10 z14; exact Nat.lt_of_lt_of_le (Nat.lt_succ_self _) (Nat.le_trans (Nat.le_of_eq z8.symm) (Nat.le_trans (Nat.le_of_eq z9.symm) (Nat.le_trans (by omega) (Nat.le_trans z12 (Nat.le_trans z13 (Nat.le_trans (Nat.le_add_right _ _) (Nat.le_of_eq z14.symm))))))))
  have HZ18 : Hid (∀ p, _ ∧ _) := fun p => land_len HB16.out.I p
  go_wp2_with fail
  refine (HB16.out.land PA16.out HK.out).mono ?_
  rintro e17 w17 ⟨rfl, o17, B17, S17⟩
  have HX17 : Hid (Bn w17 o17 d w.heap.size) := HX16.out.st S17 q0c
  clear r0 r1 r2 r3 r4 r5 r6 r7 r8
  obtain ⟨r0, r1, r2, r3, r4, r5, r6, r7, r8⟩ := HX17.out.read
  have HB17 : Hid (CB w17 o17 C N f (List.take (m + 3) (L ++ [[]] ++ [[]] ++ [[]] ++ [d.s])) r b _ _ _) := B17
  have HS17 : Hid (Stp QC w o w17 o17) := HS16.out.trans S17
  clear B17 S17
  have HEQ : Hid (∀ p, _ = _ ++ [_]) := fun p => (((HZ18.out p).2.trans HZ17.out.2).trans HZ16.out.2).trans (HZ15.out.1.trans (by rw [HZ14.out.2, HZ13.out.2, HZ12.out.2, HY11.out, HZ10.out.2, HZ9.out.2, HZ8.out.2, HZ7.out.1, HZ5.out.2, HZ4.out.1, HZ3.out.2, HZ2.out.1, addB_snoc] : _ = (c.fn f).loops ++ [⟨m, [] ++ hs15⟩]))
  go_wp2_with fail
  refine (HB17.out.shut (HEQ.out _) (fun q hq => by have h1 := HZ15.out.2.2.1 q (by simpa using hq); have h2 := HZ16.out.1; have h3 := HZ17.out.1; rw [(HZ18.out _).1, h3]; omega) (by have := HG.out; omega) (by have := HZ15.out.2.2.2.1; simp; omega)).mono ?_
  rintro e18 w18 ⟨rfl, o18, B18, S18⟩
  have HX18 : Hid (Bn w18 o18 d w.heap.size) := HX17.out.st S18 q0c
  clear r0 r1 r2 r3 r4 r5 r6 r7 r8
  obtain ⟨r0, r1, r2, r3, r4, r5, r6, r7, r8⟩ := HX18.out.read
  have HB18 : Hid (CB w18 o18 C N f (List.take (m + 3) (L ++ [[]] ++ [[]] ++ [[]] ++ [d.s])) r b _ _ _) := B18
  have HS18 : Hid (Stp QC w o w18 o18) := HS17.out.trans S18
  clear B18 S18
  go_wp2_with fail
  refine leaves_cons (f := 100) (args := #[.pointer (some ⟨C.gF, f * 11, none⟩), .int .i64 m]) (by simp) (by simp [go_sem]) ?_
  refine (leave_d .returning HB18.out.R HB18.out.hf m (by omega) (by have h1 := HB18.out.pc; omega)).mono ?_
  rintro e99 u99 w99 ⟨rfl, rfl, o99, R99, S99⟩
  refine ⟨_, results_none rfl _ _ _, rfl, o99, ?_, HS18.out.trans (CB.qs S99)⟩
  rw [HEND.out]
  have e1 : m % 65536 = m := Nat.mod_eq_of_lt (by omega)
  have e2' : t % 65536 = t := Nat.mod_eq_of_lt (by omega)
  have e3 : (m + 2) % 65536 = m + 2 := Nat.mod_eq_of_lt (by omega)
  have HIF : (if stp ≠ 0 then (comN N k 1 f stp ((comN N k 1 f lim ((comN N k 1 f d.a c).bind f [])).bind f [])) else ((((comN N k 1 f lim ((comN N k 1 f d.a c).bind f [])).bind f []).const f (numV one64)).1.emit f [(1, (((comN N k 1 f lim ((comN N k 1 f d.a c).bind f [])).bind f []).const f (numV one64)).2)])) = (comN N k 1 f stp ((comN N k 1 f lim ((comN N k 1 f d.a c).bind f [])).bind f [])) := if_pos HG3.out.2
  simp only [HLC.out, e1, e3, CmD.here, HT.out, e2', HIF]
  exact R99
end
end Go.Proofs.Qxb6500574aGreatDoor
