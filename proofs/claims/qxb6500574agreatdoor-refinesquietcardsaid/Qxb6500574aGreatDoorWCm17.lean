/-
  THE WALK of comp: expressions: operators (written by tools/gen_cm.py).
-/
import Derived.Test.Qxb6500574aGreatDoorWCm16
namespace Go.Proofs.Qxb6500574aGreatDoor
open Go Go.RowKit
set_option linter.unusedVariables false
set_option linter.unusedSimpArgs false
open Go.Lib
section
set_option maxRecDepth 100000
set_option maxHeartbeats 1000000
variable {w : World} {o : Nat → Nat} {C : CC} {N : List Nd} {c : CmD} {f n k a b lo : Nat} {L : List Bs} {r : En}
theorem ex_22 (A : CA N k) (W : CW N C k) (B : CB w o C N f L r a (17 * (n - lo)) (n - lo) c) (hn : n < N.length) (hd : (N.getD n nd0).k = 22) {x y b1 : Nat} (g1 : n = (N.getD n nd0).b + 1) (g2 : Sh N 1 (N.getD n nd0).a lo a b1 x 0 0 false) (g3 : Sh N 1 (N.getD n nd0).b (N.getD n nd0).a b1 b y 0 0 false) (hk : 2 * n + 2 ≤ k + 1) (g4 : opB (N.getD n nd0).n) :
    Calls Tryz.prog 165 #[fptr C.gF f, .int .i64 n] w (CQ w o C N (comN N (k + 1) 1 f n c)) := by
  rw [com_bin hd]
  obtain ⟨gg, ha, ⟨q1, q2, q3, q4, q5, q6, q7⟩⟩ := B.R.nd B.hf (by omega)
  have x0 := q7 n 0 hn (by omega)
  have x1 := q7 n 1 hn (by omega)
  have x2 := q7 n 2 hn (by omega)
  have x3 := q7 n 3 hn (by omega)
  have x4 := q7 n 4 hn (by omega)
  have x5 := q7 n 5 hn (by omega)
  have x6 := q7 n 6 hn (by omega)
  have x7 := q7 n 7 hn (by omega)
  simp only [ndV, List.getElem?_cons_succ, List.getElem?_cons_zero, Nat.add_zero] at x0 x1 x2 x3 x4 x5 x6 x7
  have HB0 : Hid (CB ((w.alloc (.cells #[fptr C.gF f] 94)).alloc (.cells (ndV (N.getD n nd0)).toArray 134)) o C N f L r a (17 * (n - lo)) (n - lo) c) := (B.alloc _).alloc _
  have HX0 : Hid (Bx ((w.alloc (.cells #[fptr C.gF f] 94)).alloc (.cells (ndV (N.getD n nd0)).toArray 134)) o C f (N.getD n nd0) w.heap.size) := Bx.new B.R _
  have HS0 : Hid (Stp QC w o ((w.alloc (.cells #[fptr C.gF f] 94)).alloc (.cells (ndV (N.getD n nd0)).toArray 134)) o) := ((Stp.refl _ _ _).alloc _).alloc _
  rw [hd] at x0
  have HG : Hid (lo < (N.getD n nd0).a ∧ (N.getD n nd0).a < (N.getD n nd0).b ∧ n = (N.getD n nd0).b + 1 ∧ 2 * n + 2 ≤ k + 1) := ⟨g2.lt, g3.lt, g1, hk⟩
  have HG1 : Hid (Sh N 1 (N.getD n nd0).a lo a b1 x 0 0 false) := g2
  have HG2 : Hid (Sh N 1 (N.getD n nd0).b (N.getD n nd0).a b1 b y 0 0 false) := g3
  have HO : Hid ((N.getD n nd0).n ≤ 20) := (by show _ ≤ 20; unfold opB at g4; omega)
  clear B q7 ha g1 g2 g3 hk g4
  generalize hD : N.getD n nd0 = d at *
  clear hD
  have hV : (ndV d).toArray = #[.int .i64 22, .int .i64 d.a, .int .i64 d.b, .int .i64 d.c, .int .i64 d.next, .int .u64 d.n, sv d.s, .int .i64 d.p] := by unfold ndV; rw [hd]; rfl
  rw [hV] at HB0 HX0 HS0
  have HK : Hid (d.k = 22) := hd
  clear hV hd
  unfold fptr at HB0 HX0 HS0 ⊢
  go_enter Tryz.func165, Tryz.ntmps165
  go_wp2_with fail
  refine (HB0.out.ex A W HG1.out (by have := HG.out; omega) (by have := HG.out; omega) (by have := HG.out; omega)).mono ?_
  rintro e1 w1 ⟨rfl, o1, B1, S1⟩
  have HX1 : Hid (Bx w1 o1 C f d w.heap.size) := HX0.out.st S1
  obtain ⟨r0, r1, r2, r3, r4, r5, r6, r7, r8, r9, r10⟩ := HX1.out.read
  have HB1 : Hid (CB w1 o1 C N f L r b1 _ _ _) := B1
  have HS1 : Hid (Stp QC w o w1 o1) := HS0.out.trans S1
  clear B1 S1
  go_wp2_with fail
  refine (HB1.out.ex A W HG2.out (by have := HG.out; omega) (by have := HG.out; omega) (by have := HG.out; omega)).mono ?_
  rintro e2 w2 ⟨rfl, o2, B2, S2⟩
  have HX2 : Hid (Bx w2 o2 C f d w.heap.size) := HX1.out.st S2
  clear r0 r1 r2 r3 r4 r5 r6 r7 r8 r9 r10
  obtain ⟨r0, r1, r2, r3, r4, r5, r6, r7, r8, r9, r10⟩ := HX2.out.read
  have HB2 : Hid (CB w2 o2 C N f L r b _ _ _) := B2
  have HS2 : Hid (Stp QC w o w2 o2) := HS1.out.trans S2
  clear B2 S2
  go_wp2_with fail
  refine (cbinary_any d.n HO.out).mono ?_
  rintro e9 w9 ⟨rfl, F9⟩
  have HX9 : Hid (Bx w9 o2 C f d w.heap.size) := HX2.out.st (Stp.fresh _ _ F9)
  clear r0 r1 r2 r3 r4 r5 r6 r7 r8 r9 r10
  obtain ⟨r0, r1, r2, r3, r4, r5, r6, r7, r8, r9, r10⟩ := HX9.out.read
  have HB9 : Hid (CB w9 o2 C N f L r b _ _ _) := HB2.out.fresh F9
  have HS9 : Hid (Stp QC w o w9 o2) := HS2.out.trans (Stp.fresh _ _ F9)
  clear F9
  go_wp2_with fail
  refine ((HB9.out.alloc (.cells #[.int .u8 ((binI d.n).1 : Nat), .int .u16 ((binI d.n).2 : Nat)] 105)).emitK (kb := w9.heap.size + 1) (op := (binI d.n).1) (y := (binI d.n).2) rfl rfl (by simp) (by have := HG.out; omega)).mono ?_
  rintro e10 w10 ⟨rfl, o10, B10, S10⟩
  have HB10 : Hid (CB w10 o10 C N f L r b _ _ _) := B10
  have HS10 : Hid (Stp QC w o w10 o10) := HS9.out.trans (((Stp.refl _ _ _).alloc _).trans S10)
  clear B10 S10
  go_wp2_with fail
  go_end0
  exact ⟨rfl, o10, HB10.out.R, HS10.out⟩
theorem ex_23 (A : CA N k) (W : CW N C k) (B : CB w o C N f L r a (17 * (n - lo)) (n - lo) c) (hn : n < N.length) (hd : (N.getD n nd0).k = 23) {x : Nat} (g1 : n = (N.getD n nd0).a + 1) (g2 : Sh N 1 (N.getD n nd0).a lo a b x 0 0 false) (hk : 2 * n + 2 ≤ k + 1) :
    Calls Tryz.prog 165 #[fptr C.gF f, .int .i64 n] w (CQ w o C N (comN N (k + 1) 1 f n c)) := by
  rw [com_un hd]
  obtain ⟨gg, ha, ⟨q1, q2, q3, q4, q5, q6, q7⟩⟩ := B.R.nd B.hf (by omega)
  have x0 := q7 n 0 hn (by omega)
  have x1 := q7 n 1 hn (by omega)
  have x2 := q7 n 2 hn (by omega)
  have x3 := q7 n 3 hn (by omega)
  have x4 := q7 n 4 hn (by omega)
  have x5 := q7 n 5 hn (by omega)
  have x6 := q7 n 6 hn (by omega)
  have x7 := q7 n 7 hn (by omega)
  simp only [ndV, List.getElem?_cons_succ, List.getElem?_cons_zero, Nat.add_zero] at x0 x1 x2 x3 x4 x5 x6 x7
  have HB0 : Hid (CB ((w.alloc (.cells #[fptr C.gF f] 94)).alloc (.cells (ndV (N.getD n nd0)).toArray 134)) o C N f L r a (17 * (n - lo)) (n - lo) c) := (B.alloc _).alloc _
  have HX0 : Hid (Bx ((w.alloc (.cells #[fptr C.gF f] 94)).alloc (.cells (ndV (N.getD n nd0)).toArray 134)) o C f (N.getD n nd0) w.heap.size) := Bx.new B.R _
  have HS0 : Hid (Stp QC w o ((w.alloc (.cells #[fptr C.gF f] 94)).alloc (.cells (ndV (N.getD n nd0)).toArray 134)) o) := ((Stp.refl _ _ _).alloc _).alloc _
  rw [hd] at x0
  have HG : Hid (lo < (N.getD n nd0).a ∧ n = (N.getD n nd0).a + 1 ∧ 2 * n + 2 ≤ k + 1) := ⟨g2.lt, g1, hk⟩
  have HG1 : Hid (Sh N 1 (N.getD n nd0).a lo a b x 0 0 false) := g2
  clear B q7 ha g1 g2 hk
  generalize hD : N.getD n nd0 = d at *
  clear hD
  have hV : (ndV d).toArray = #[.int .i64 23, .int .i64 d.a, .int .i64 d.b, .int .i64 d.c, .int .i64 d.next, .int .u64 d.n, sv d.s, .int .i64 d.p] := by unfold ndV; rw [hd]; rfl
  rw [hV] at HB0 HX0 HS0
  have HK : Hid (d.k = 23) := hd
  clear hV hd
  unfold fptr at HB0 HX0 HS0 ⊢
  go_enter Tryz.func165, Tryz.ntmps165
  go_wp2_with fail
  refine (HB0.out.ex A W HG1.out (by have := HG.out; omega) (by have := HG.out; omega) (by have := HG.out; omega)).mono ?_
  rintro e1 w1 ⟨rfl, o1, B1, S1⟩
  have HX1 : Hid (Bx w1 o1 C f d w.heap.size) := HX0.out.st S1
  obtain ⟨r0, r1, r2, r3, r4, r5, r6, r7, r8, r9, r10⟩ := HX1.out.read
  have HB1 : Hid (CB w1 o1 C N f L r b _ _ _) := B1
  have HS1 : Hid (Stp QC w o w1 o1) := HS0.out.trans S1
  clear B1 S1
  go_wp2_with fail
  refine (cunary_any d.n).mono ?_
  rintro e9 w9 ⟨rfl, F9⟩
  have HX9 : Hid (Bx w9 o1 C f d w.heap.size) := HX1.out.st (Stp.fresh _ _ F9)
  clear r0 r1 r2 r3 r4 r5 r6 r7 r8 r9 r10
  obtain ⟨r0, r1, r2, r3, r4, r5, r6, r7, r8, r9, r10⟩ := HX9.out.read
  have HB9 : Hid (CB w9 o1 C N f L r b _ _ _) := HB1.out.fresh F9
  have HS9 : Hid (Stp QC w o w9 o1) := HS1.out.trans (Stp.fresh _ _ F9)
  clear F9
  go_wp2_with fail
  refine ((HB9.out.alloc (.cells #[.int .u8 ((unI d.n).1 : Nat), .int .u16 ((unI d.n).2 : Nat)] 105)).emitK (kb := w9.heap.size + 1) (op := (unI d.n).1) (y := (unI d.n).2) rfl rfl (by simp) (by have := HG.out; omega)).mono ?_
  rintro e10 w10 ⟨rfl, o10, B10, S10⟩
  have HB10 : Hid (CB w10 o10 C N f L r b _ _ _) := B10
  have HS10 : Hid (Stp QC w o w10 o10) := HS9.out.trans (((Stp.refl _ _ _).alloc _).trans S10)
  clear B10 S10
  go_wp2_with fail
  go_end0
  exact ⟨rfl, o10, HB10.out.R, HS10.out⟩
theorem ex_24 (A : CA N k) (W : CW N C k) (B : CB w o C N f L r a (17 * (n - lo)) (n - lo) c) (hn : n < N.length) (hd : (N.getD n nd0).k = 24) {x y b1 : Nat} (g1 : n = (N.getD n nd0).b + 1) (g2 : Sh N 1 (N.getD n nd0).a lo a b1 x 0 0 false) (g3 : Sh N 1 (N.getD n nd0).b (N.getD n nd0).a b1 b y 0 0 false) (hk : 2 * n + 2 ≤ k + 1) :
    Calls Tryz.prog 165 #[fptr C.gF f, .int .i64 n] w (CQ w o C N (comN N (k + 1) 1 f n c)) := by
  rw [com_and hd]
  obtain ⟨gg, ha, ⟨q1, q2, q3, q4, q5, q6, q7⟩⟩ := B.R.nd B.hf (by omega)
  have x0 := q7 n 0 hn (by omega)
  have x1 := q7 n 1 hn (by omega)
  have x2 := q7 n 2 hn (by omega)
  have x3 := q7 n 3 hn (by omega)
  have x4 := q7 n 4 hn (by omega)
  have x5 := q7 n 5 hn (by omega)
  have x6 := q7 n 6 hn (by omega)
  have x7 := q7 n 7 hn (by omega)
  simp only [ndV, List.getElem?_cons_succ, List.getElem?_cons_zero, Nat.add_zero] at x0 x1 x2 x3 x4 x5 x6 x7
  have HB0 : Hid (CB ((w.alloc (.cells #[fptr C.gF f] 94)).alloc (.cells (ndV (N.getD n nd0)).toArray 134)) o C N f L r a (17 * (n - lo)) (n - lo) c) := (B.alloc _).alloc _
  have HX0 : Hid (Bx ((w.alloc (.cells #[fptr C.gF f] 94)).alloc (.cells (ndV (N.getD n nd0)).toArray 134)) o C f (N.getD n nd0) w.heap.size) := Bx.new B.R _
  have HS0 : Hid (Stp QC w o ((w.alloc (.cells #[fptr C.gF f] 94)).alloc (.cells (ndV (N.getD n nd0)).toArray 134)) o) := ((Stp.refl _ _ _).alloc _).alloc _
  rw [hd] at x0
  have HG : Hid (lo < (N.getD n nd0).a ∧ (N.getD n nd0).a < (N.getD n nd0).b ∧ n = (N.getD n nd0).b + 1 ∧ 2 * n + 2 ≤ k + 1) := ⟨g2.lt, g3.lt, g1, hk⟩
  have HG1 : Hid (Sh N 1 (N.getD n nd0).a lo a b1 x 0 0 false) := g2
  have HG2 : Hid (Sh N 1 (N.getD n nd0).b (N.getD n nd0).a b1 b y 0 0 false) := g3
  clear B q7 ha g1 g2 g3 hk
  generalize hD : N.getD n nd0 = d at *
  clear hD
  have hV : (ndV d).toArray = #[.int .i64 24, .int .i64 d.a, .int .i64 d.b, .int .i64 d.c, .int .i64 d.next, .int .u64 d.n, sv d.s, .int .i64 d.p] := by unfold ndV; rw [hd]; rfl
  rw [hV] at HB0 HX0 HS0
  have HK : Hid (d.k = 24) := hd
  clear hV hd
  unfold fptr at HB0 HX0 HS0 ⊢
  go_enter Tryz.func165, Tryz.ntmps165
  go_wp2_with fail
  refine (HB0.out.ex A W HG1.out (by have := HG.out; omega) (by have := HG.out; omega) (by have := HG.out; omega)).mono ?_
  rintro e1 w1 ⟨rfl, o1, B1, S1⟩
  have HX1 : Hid (Bx w1 o1 C f d w.heap.size) := HX0.out.st S1
  obtain ⟨r0, r1, r2, r3, r4, r5, r6, r7, r8, r9, r10⟩ := HX1.out.read
  rw [HK.out] at r3
  have HB1 : Hid (CB w1 o1 C N f L r b1 _ _ _) := B1
  have HS1 : Hid (Stp QC w o w1 o1) := HS0.out.trans S1
  clear B1 S1
  go_wp2_with fail
  refine (HB1.out.jump 23 (by have := HG.out; omega)).mono ?_
  rintro e2 w2 ⟨p1, p2, o2, rfl, B2, S2, P2⟩
  have HX2 : Hid (Bx w2 o2 C f d w.heap.size) := HX1.out.st S2
  clear r0 r1 r2 r3 r4 r5 r6 r7 r8 r9 r10
  obtain ⟨r0, r1, r2, r3, r4, r5, r6, r7, r8, r9, r10⟩ := HX2.out.read
  rw [HK.out] at r3
  have HB2 : Hid (CB w2 o2 C N f L r b1 _ _ _) := B2
  have HS2 : Hid (Stp QC w o w2 o2) := HS1.out.trans S2
  unfold patV
  have HP2 : Hid (Pat w2 o2 C.gF f (p1, p2) _) := P2
  have HJ : Hid (_ = _) := jump_len HB1.out.I 23
  clear P2
  clear B2 S2
  have HL : Hid (_ ≤ _) := HB2.out.exLe A HG2.out (by have := HG.out; omega) (by have := HG.out; omega) (by have := HG.out; omega)
  go_wp2_with fail
  refine (HB2.out.ex A W HG2.out (by have := HG.out; omega) (by have := HG.out; omega) (by have := HG.out; omega)).mono ?_
  rintro e3 w3 ⟨rfl, o3, B3, S3⟩
  have HX3 : Hid (Bx w3 o3 C f d w.heap.size) := HX2.out.st S3
  clear r0 r1 r2 r3 r4 r5 r6 r7 r8 r9 r10
  obtain ⟨r0, r1, r2, r3, r4, r5, r6, r7, r8, r9, r10⟩ := HX3.out.read
  rw [HK.out] at r3
  have HB3 : Hid (CB w3 o3 C N f L r b _ _ _) := B3
  have HS3 : Hid (Stp QC w o w3 o3) := HS2.out.trans S3
  have HP3 : Hid (Pat w3 o3 C.gF f (p1, p2) _) := HP2.out.st S3 (by unfold QC; omega)
  clear B3 S3
  go_wp2_with fail
  refine (HB3.out.land HP3.out (by have h1 := HJ.out; have h2 := HL.out; omega)).mono ?_
  rintro e4 w4 ⟨rfl, o4, B4, S4⟩
  have HX4 : Hid (Bx w4 o4 C f d w.heap.size) := HX3.out.st S4
  clear r0 r1 r2 r3 r4 r5 r6 r7 r8 r9 r10
  obtain ⟨r0, r1, r2, r3, r4, r5, r6, r7, r8, r9, r10⟩ := HX4.out.read
  rw [HK.out] at r3
  have HB4 : Hid (CB w4 o4 C N f L r b _ _ _) := B4
  have HS4 : Hid (Stp QC w o w4 o4) := HS3.out.trans S4
  clear B4 S4
  go_wp2_with fail
  go_end0
  exact ⟨rfl, o4, HB4.out.R, HS4.out⟩
theorem ex_25 (A : CA N k) (W : CW N C k) (B : CB w o C N f L r a (17 * (n - lo)) (n - lo) c) (hn : n < N.length) (hd : (N.getD n nd0).k = 25) {x y b1 : Nat} (g1 : n = (N.getD n nd0).b + 1) (g2 : Sh N 1 (N.getD n nd0).a lo a b1 x 0 0 false) (g3 : Sh N 1 (N.getD n nd0).b (N.getD n nd0).a b1 b y 0 0 false) (hk : 2 * n + 2 ≤ k + 1) :
    Calls Tryz.prog 165 #[fptr C.gF f, .int .i64 n] w (CQ w o C N (comN N (k + 1) 1 f n c)) := by
  rw [com_or hd]
  obtain ⟨gg, ha, ⟨q1, q2, q3, q4, q5, q6, q7⟩⟩ := B.R.nd B.hf (by omega)
  have x0 := q7 n 0 hn (by omega)
  have x1 := q7 n 1 hn (by omega)
  have x2 := q7 n 2 hn (by omega)
  have x3 := q7 n 3 hn (by omega)
  have x4 := q7 n 4 hn (by omega)
  have x5 := q7 n 5 hn (by omega)
  have x6 := q7 n 6 hn (by omega)
  have x7 := q7 n 7 hn (by omega)
  simp only [ndV, List.getElem?_cons_succ, List.getElem?_cons_zero, Nat.add_zero] at x0 x1 x2 x3 x4 x5 x6 x7
  have HB0 : Hid (CB ((w.alloc (.cells #[fptr C.gF f] 94)).alloc (.cells (ndV (N.getD n nd0)).toArray 134)) o C N f L r a (17 * (n - lo)) (n - lo) c) := (B.alloc _).alloc _
  have HX0 : Hid (Bx ((w.alloc (.cells #[fptr C.gF f] 94)).alloc (.cells (ndV (N.getD n nd0)).toArray 134)) o C f (N.getD n nd0) w.heap.size) := Bx.new B.R _
  have HS0 : Hid (Stp QC w o ((w.alloc (.cells #[fptr C.gF f] 94)).alloc (.cells (ndV (N.getD n nd0)).toArray 134)) o) := ((Stp.refl _ _ _).alloc _).alloc _
  rw [hd] at x0
  have HG : Hid (lo < (N.getD n nd0).a ∧ (N.getD n nd0).a < (N.getD n nd0).b ∧ n = (N.getD n nd0).b + 1 ∧ 2 * n + 2 ≤ k + 1) := ⟨g2.lt, g3.lt, g1, hk⟩
  have HG1 : Hid (Sh N 1 (N.getD n nd0).a lo a b1 x 0 0 false) := g2
  have HG2 : Hid (Sh N 1 (N.getD n nd0).b (N.getD n nd0).a b1 b y 0 0 false) := g3
  clear B q7 ha g1 g2 g3 hk
  generalize hD : N.getD n nd0 = d at *
  clear hD
  have hV : (ndV d).toArray = #[.int .i64 25, .int .i64 d.a, .int .i64 d.b, .int .i64 d.c, .int .i64 d.next, .int .u64 d.n, sv d.s, .int .i64 d.p] := by unfold ndV; rw [hd]; rfl
  rw [hV] at HB0 HX0 HS0
  have HK : Hid (d.k = 25) := hd
  clear hV hd
  unfold fptr at HB0 HX0 HS0 ⊢
  go_enter Tryz.func165, Tryz.ntmps165
  go_wp2_with fail
  refine (HB0.out.ex A W HG1.out (by have := HG.out; omega) (by have := HG.out; omega) (by have := HG.out; omega)).mono ?_
  rintro e1 w1 ⟨rfl, o1, B1, S1⟩
  have HX1 : Hid (Bx w1 o1 C f d w.heap.size) := HX0.out.st S1
  obtain ⟨r0, r1, r2, r3, r4, r5, r6, r7, r8, r9, r10⟩ := HX1.out.read
  rw [HK.out] at r3
  have HB1 : Hid (CB w1 o1 C N f L r b1 _ _ _) := B1
  have HS1 : Hid (Stp QC w o w1 o1) := HS0.out.trans S1
  clear B1 S1
  go_wp2_with fail
  refine (HB1.out.jump 24 (by have := HG.out; omega)).mono ?_
  rintro e2 w2 ⟨p1, p2, o2, rfl, B2, S2, P2⟩
  have HX2 : Hid (Bx w2 o2 C f d w.heap.size) := HX1.out.st S2
  clear r0 r1 r2 r3 r4 r5 r6 r7 r8 r9 r10
  obtain ⟨r0, r1, r2, r3, r4, r5, r6, r7, r8, r9, r10⟩ := HX2.out.read
  rw [HK.out] at r3
  have HB2 : Hid (CB w2 o2 C N f L r b1 _ _ _) := B2
  have HS2 : Hid (Stp QC w o w2 o2) := HS1.out.trans S2
  unfold patV
  have HP2 : Hid (Pat w2 o2 C.gF f (p1, p2) _) := P2
  have HJ : Hid (_ = _) := jump_len HB1.out.I 24
  clear P2
  clear B2 S2
  have HL : Hid (_ ≤ _) := HB2.out.exLe A HG2.out (by have := HG.out; omega) (by have := HG.out; omega) (by have := HG.out; omega)
  go_wp2_with fail
  refine (HB2.out.ex A W HG2.out (by have := HG.out; omega) (by have := HG.out; omega) (by have := HG.out; omega)).mono ?_
  rintro e3 w3 ⟨rfl, o3, B3, S3⟩
  have HX3 : Hid (Bx w3 o3 C f d w.heap.size) := HX2.out.st S3
  clear r0 r1 r2 r3 r4 r5 r6 r7 r8 r9 r10
  obtain ⟨r0, r1, r2, r3, r4, r5, r6, r7, r8, r9, r10⟩ := HX3.out.read
  rw [HK.out] at r3
  have HB3 : Hid (CB w3 o3 C N f L r b _ _ _) := B3
  have HS3 : Hid (Stp QC w o w3 o3) := HS2.out.trans S3
  have HP3 : Hid (Pat w3 o3 C.gF f (p1, p2) _) := HP2.out.st S3 (by unfold QC; omega)
  clear B3 S3
  go_wp2_with fail
  refine (HB3.out.land HP3.out (by have h1 := HJ.out; have h2 := HL.out; omega)).mono ?_
  rintro e4 w4 ⟨rfl, o4, B4, S4⟩
  have HX4 : Hid (Bx w4 o4 C f d w.heap.size) := HX3.out.st S4
  clear r0 r1 r2 r3 r4 r5 r6 r7 r8 r9 r10
  obtain ⟨r0, r1, r2, r3, r4, r5, r6, r7, r8, r9, r10⟩ := HX4.out.read
  rw [HK.out] at r3
  have HB4 : Hid (CB w4 o4 C N f L r b _ _ _) := B4
  have HS4 : Hid (Stp QC w o w4 o4) := HS3.out.trans S4
  clear B4 S4
  go_wp2_with fail
  go_end0
  exact ⟨rfl, o4, HB4.out.R, HS4.out⟩
end
end Go.Proofs.Qxb6500574aGreatDoor
