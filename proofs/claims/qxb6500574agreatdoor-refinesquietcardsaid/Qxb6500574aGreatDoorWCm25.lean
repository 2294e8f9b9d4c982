/-
  THE WALK of comp: statements without blocks (written by tools/gen_st.py).
-/
import Derived.Test.Qxb6500574aGreatDoorWCm24
namespace Go.Proofs.Qxb6500574aGreatDoor
open Go Go.RowKit
set_option linter.unusedVariables false
set_option linter.unusedSimpArgs false
open Go.Lib
section
set_option maxRecDepth 100000
set_option maxHeartbeats 1000000
variable {w : World} {o : Nat → Nat} {C : CC} {N : List Nd} {c : CmD} {f n k a b lo : Nat} {L : List Bs} {r : En}
theorem CB.exo {p q D Q x y : Nat} (h : CB w o C N f L r a p q c) (A : CA N k) (W : CW N C k) (h0 : (N.getD 0 nd0).k = 0) (hl : 0 < N.length) (hx : (x = 0 ∧ b = a ∧ D = 1 ∧ Q = 0) ∨ (Sh N 1 x lo a b y 0 0 false ∧ 2 * x + 2 ≤ k ∧ D = 17 * (x - lo) ∧ Q = x - lo)) (hp : D ≤ p) (hq : Q ≤ q) (hk : 1 ≤ k) :
    Calls Tryz.prog 165 #[fptr C.gF f, .int .i64 x] w (CT w o C N f L r b (p - D) (q - Q) (comN N k 1 f x c)) := by
  rcases hx with ⟨rfl, rfl, rfl, rfl⟩ | ⟨hs, h1, rfl, rfl⟩
  · obtain ⟨j, rfl⟩ : ∃ j, k = j + 1 := ⟨k - 1, by omega⟩
    exact ex_0 h hp hl h0
  · exact h.ex A W hs hp hq h1
theorem st_1 (A : CA N k) (W : CW N C k) (B : CB w o C N f L r a (17 * (n - lo)) (n - lo) c) (hn : n < N.length) (hd : (N.getD n nd0).k = 1) (h0 : (N.getD 0 nd0).k = 0) {D1 Q1 : Nat} (g1 : (((N.getD n nd0).a = 0 ∧ b = a ∧ D1 = 1 ∧ Q1 = 0) ∨ (Sh N 1 (N.getD n nd0).a lo a b 120 0 0 false ∧ 2 * (N.getD n nd0).a + 2 ≤ k ∧ D1 = 17 * ((N.getD n nd0).a - lo) ∧ Q1 = (N.getD n nd0).a - lo))) (g2 : L.length + 1 ≤ 12) (g3 : D1 + 1 ≤ 17 * (n - lo) ∧ Q1 ≤ n - lo ∧ 1 ≤ k) :
    Calls Tryz.prog 102 #[fptr C.gF f, .int .i64 n] w (CQ w o C N (comN N (k + 1) 0 f n c)) := by
  rw [com_s1 hd]
  obtain ⟨gg, ha, ⟨q1, q2, q3, q4, q5, q6, q7⟩⟩ := B.R.nd B.hf (by omega)
  have x0 := q7 n 0 hn (by omega)
  have x1 := q7 n 1 hn (by omega)
  have x2 := q7 n 2 hn (by omega)
  have x3 := q7 n 3 hn (by omega)
  have x4 := q7 n 4 hn (by omega)
  have x5 := q7 n 5 hn (by omega)
  have x6 := q7 n 6 hn (by omega)
  have x7 := q7 n 7 hn (by omega)
  simp only [ndV, List.getElem?_cons_succ, List.getElem?_cons_zero, Nat.add_zero] at x0 x1 x2 x3 x4 x5 x6 x7
  have HB0 : Hid (CB (w.alloc (.cells (ndV (N.getD n nd0)).toArray 134)) o C N f L r a (17 * (n - lo)) (n - lo) c) := B.alloc _
  have HX0 : Hid (Bn (w.alloc (.cells (ndV (N.getD n nd0)).toArray 134)) o (N.getD n nd0) w.heap.size) := Bn.new B.R _
  have HS0 : Hid (Stp QC w o (w.alloc (.cells (ndV (N.getD n nd0)).toArray 134)) o) := (Stp.refl _ _ _).alloc _
  rw [hd] at x0
  have HG : Hid (D1 + 1 ≤ 17 * (n - lo) ∧ Q1 ≤ n - lo ∧ L.length + 1 ≤ 12 ∧ 1 ≤ k) := ⟨g3.1, g3.2.1, g2, g3.2.2⟩
  have HG1 : Hid ((((N.getD n nd0).a = 0 ∧ b = a ∧ D1 = 1 ∧ Q1 = 0) ∨ (Sh N 1 (N.getD n nd0).a lo a b 120 0 0 false ∧ 2 * (N.getD n nd0).a + 2 ≤ k ∧ D1 = 17 * ((N.getD n nd0).a - lo) ∧ Q1 = (N.getD n nd0).a - lo))) := g1
  have HZ : Hid ((N.getD 0 nd0).k = 0 ∧ 0 < N.length) := ⟨h0, by omega⟩
  clear B q7 ha g1 g2 g3 h0
  generalize hD : N.getD n nd0 = d at *
  clear hD
  have hV : (ndV d).toArray = #[.int .i64 1, .int .i64 d.a, .int .i64 d.b, .int .i64 d.c, .int .i64 d.next, .int .u64 d.n, sv d.s, .int .i64 d.p] := by unfold ndV; rw [hd]; rfl
  rw [hV] at HB0 HX0 HS0
  clear hV hd
  unfold fptr
  go_enter Tryz.func102, Tryz.ntmps102
  go_wp2_with fail
  refine (HB0.out.exo A W HZ.out.1 HZ.out.2 HG1.out (by have := HG.out; omega) (by have := HG.out; omega) (by have := HG.out; omega)).mono ?_
  rintro e1 w1 ⟨rfl, o1, B1, S1⟩
  have HX1 : Hid (Bn w1 o1 d w.heap.size) := HX0.out.st S1 q0c
  obtain ⟨r0, r1, r2, r3, r4, r5, r6, r7, r8⟩ := HX1.out.read
  have HB1 : Hid (CB w1 o1 C N f L r b _ _ _) := B1
  have HS1 : Hid (Stp QC w o w1 o1) := HS0.out.trans S1
  clear B1 S1
  go_wp2_with fail
  refine (HB1.out.bind d.s (by have := HG.out; omega) (by have := HG.out; omega)).mono ?_
  rintro e2 w2 ⟨rfl, o2, B2, S2⟩
  have HX2 : Hid (Bn w2 o2 d w.heap.size) := HX1.out.st S2 q0c
  clear r0 r1 r2 r3 r4 r5 r6 r7 r8
  obtain ⟨r0, r1, r2, r3, r4, r5, r6, r7, r8⟩ := HX2.out.read
  have HB2 : Hid (CB w2 o2 C N f (L ++ [d.s]) r b _ _ _) := B2
  have HS2 : Hid (Stp QC w o w2 o2) := HS1.out.trans S2
  clear B2 S2
  go_wp2_with fail
  go_end0
  exact ⟨rfl, o2, HB2.out.R, HS2.out⟩
theorem st_3 (A : CA N k) (W : CW N C k) (B : CB w o C N f L r a (17 * (n - lo)) (n - lo) c) (hn : n < N.length) (hd : (N.getD n nd0).k = 3) (g1 : n = (N.getD n nd0).a + 1) (g2 : Sh N 1 (N.getD n nd0).a lo a b 120 0 0 false) (g3 : L.length + 1 ≤ 12) (hk : 2 * n + 2 ≤ k + 1) :
    Calls Tryz.prog 102 #[fptr C.gF f, .int .i64 n] w (CQ w o C N (comN N (k + 1) 0 f n c)) := by
  rw [com_s3 hd, B.I.loc, Nat.mod_eq_of_lt (by omega : L.length < 65536)]
  obtain ⟨gg, ha, ⟨q1, q2, q3, q4, q5, q6, q7⟩⟩ := B.R.nd B.hf (by omega)
  have x0 := q7 n 0 hn (by omega)
  have x1 := q7 n 1 hn (by omega)
  have x2 := q7 n 2 hn (by omega)
  have x3 := q7 n 3 hn (by omega)
  have x4 := q7 n 4 hn (by omega)
  have x5 := q7 n 5 hn (by omega)
  have x6 := q7 n 6 hn (by omega)
  have x7 := q7 n 7 hn (by omega)
  simp only [ndV, List.getElem?_cons_succ, List.getElem?_cons_zero, Nat.add_zero] at x0 x1 x2 x3 x4 x5 x6 x7
  have HB0 : Hid (CB (w.alloc (.cells (ndV (N.getD n nd0)).toArray 134)) o C N f L r a (17 * (n - lo)) (n - lo) c) := B.alloc _
  have HX0 : Hid (Bn (w.alloc (.cells (ndV (N.getD n nd0)).toArray 134)) o (N.getD n nd0) w.heap.size) := Bn.new B.R _
  have HS0 : Hid (Stp QC w o (w.alloc (.cells (ndV (N.getD n nd0)).toArray 134)) o) := (Stp.refl _ _ _).alloc _
  rw [hd] at x0
  have HG : Hid (lo < (N.getD n nd0).a ∧ n = (N.getD n nd0).a + 1 ∧ L.length + 1 ≤ 12 ∧ 2 * n + 2 ≤ k + 1) := ⟨g2.lt, g1, g3, hk⟩
  have HG1 : Hid (Sh N 1 (N.getD n nd0).a lo a b 120 0 0 false) := g2
  obtain ⟨m, HM⟩ : ∃ m : Nat, Hid (L.length = m) := ⟨_, rfl⟩
  rw [HM.out] at g3 ⊢
  clear B q7 ha g1 g2 hk
  generalize hD : N.getD n nd0 = d at *
  clear hD
  have hV : (ndV d).toArray = #[.int .i64 3, .int .i64 d.a, .int .i64 d.b, .int .i64 d.c, .int .i64 d.next, .int .u64 d.n, sv d.s, .int .i64 d.p] := by unfold ndV; rw [hd]; rfl
  rw [hV] at HB0 HX0 HS0
  clear hV hd
  unfold fptr
  go_enter Tryz.func102, Tryz.ntmps102
  have HDc := HB0.out.declare d.s (by have := HG.out; omega)
  rw [HM.out] at HDc
  unfold fptr at HDc
  go_wp2_with fail
  refine (HDc).mono ?_
  rintro e1 w1 ⟨rfl, o1, B1, S1⟩
  have HX1 : Hid (Bn w1 o1 d w.heap.size) := HX0.out.st S1 q0c
  obtain ⟨r0, r1, r2, r3, r4, r5, r6, r7, r8⟩ := HX1.out.read
  have HB1 : Hid (CB w1 o1 C N f (L ++ [d.s]) r a _ _ _) := B1
  have HS1 : Hid (Stp QC w o w1 o1) := HS0.out.trans S1
  clear HDc
  clear B1 S1
  go_wp2_with fail
  refine (HB1.out.ex A W HG1.out (by have := HG.out; omega) (by have := HG.out; omega) (by have := HG.out; omega)).mono ?_
  rintro e2 w2 ⟨rfl, o2, B2, S2⟩
  have HX2 : Hid (Bn w2 o2 d w.heap.size) := HX1.out.st S2 q0c
  clear r0 r1 r2 r3 r4 r5 r6 r7 r8
  obtain ⟨r0, r1, r2, r3, r4, r5, r6, r7, r8⟩ := HX2.out.read
  have HB2 : Hid (CB w2 o2 C N f (L ++ [d.s]) r b _ _ _) := B2
  have HS2 : Hid (Stp QC w o w2 o2) := HS1.out.trans S2
  clear B2 S2
  go_wp2_with fail
  refine (HB2.out.emitK (op := 6) (y := m) rfl rfl rfl (by have := HG.out; omega)).mono ?_
  rintro e3 w3 ⟨rfl, o3, B3, S3⟩
  have HX3 : Hid (Bn w3 o3 d w.heap.size) := HX2.out.st S3 q0c
  clear r0 r1 r2 r3 r4 r5 r6 r7 r8
  obtain ⟨r0, r1, r2, r3, r4, r5, r6, r7, r8⟩ := HX3.out.read
  have HB3 : Hid (CB w3 o3 C N f (L ++ [d.s]) r b _ _ _) := B3
  have HS3 : Hid (Stp QC w o w3 o3) := HS2.out.trans S3
  clear B3 S3
  go_wp2_with fail
  go_end0
  exact ⟨rfl, o3, HB3.out.R, HS3.out⟩
theorem st_5 (A : CA N k) (W : CW N C k) (B : CB w o C N f L r a (17 * (n - lo)) (n - lo) c) (hn : n < N.length) (hd : (N.getD n nd0).k = 5) (g1 : n = (N.getD n nd0).a + 1) (g2 : Sh N 1 (N.getD n nd0).a lo a b 120 0 0 false) (g3 : (N.getD (N.getD n nd0).a nd0).k = 19) (hk : 2 * n + 2 ≤ k + 1) :
    Calls Tryz.prog 102 #[fptr C.gF f, .int .i64 n] w (CQ w o C N (comN N (k + 1) 0 f n c)) := by
  rw [com_s5 hd]
  obtain ⟨gg, ha, ⟨q1, q2, q3, q4, q5, q6, q7⟩⟩ := B.R.nd B.hf (by omega)
  have x0 := q7 n 0 hn (by omega)
  have x1 := q7 n 1 hn (by omega)
  have x2 := q7 n 2 hn (by omega)
  have x3 := q7 n 3 hn (by omega)
  have x4 := q7 n 4 hn (by omega)
  have x5 := q7 n 5 hn (by omega)
  have x6 := q7 n 6 hn (by omega)
  have x7 := q7 n 7 hn (by omega)
  simp only [ndV, List.getElem?_cons_succ, List.getElem?_cons_zero, Nat.add_zero] at x0 x1 x2 x3 x4 x5 x6 x7
  have HB0 : Hid (CB (w.alloc (.cells (ndV (N.getD n nd0)).toArray 134)) o C N f L r a (17 * (n - lo)) (n - lo) c) := B.alloc _
  have HX0 : Hid (Bn (w.alloc (.cells (ndV (N.getD n nd0)).toArray 134)) o (N.getD n nd0) w.heap.size) := Bn.new B.R _
  have HS0 : Hid (Stp QC w o (w.alloc (.cells (ndV (N.getD n nd0)).toArray 134)) o) := (Stp.refl _ _ _).alloc _
  rw [hd] at x0
  have HG : Hid (lo < (N.getD n nd0).a ∧ n = (N.getD n nd0).a + 1 ∧ 2 * n + 2 ≤ k + 1) := ⟨g2.lt, g1, hk⟩
  have HG1 : Hid (Sh N 1 (N.getD n nd0).a lo a b 120 0 0 false ∧ (N.getD (N.getD n nd0).a nd0).k = 19) := ⟨g2, g3⟩
  clear B q7 ha g1 g2 g3 hk
  generalize hD : N.getD n nd0 = d at *
  clear hD
  have hV : (ndV d).toArray = #[.int .i64 5, .int .i64 d.a, .int .i64 d.b, .int .i64 d.c, .int .i64 d.next, .int .u64 d.n, sv d.s, .int .i64 d.p] := by unfold ndV; rw [hd]; rfl
  rw [hV] at HB0 HX0 HS0
  clear hV hd
  unfold fptr
  go_enter Tryz.func102, Tryz.ntmps102
  go_wp2_with fail
  refine (HB0.out.ca A W HG1.out.1 HG1.out.2 (by have := HG.out; omega) (by have := HG.out; omega) (by have := HG.out; omega)).mono ?_
  rintro e1 w1 ⟨rfl, o1, B1, S1⟩
  have HX1 : Hid (Bn w1 o1 d w.heap.size) := HX0.out.st S1 q0c
  obtain ⟨r0, r1, r2, r3, r4, r5, r6, r7, r8⟩ := HX1.out.read
  have HB1 : Hid (CB w1 o1 C N f L r b _ _ _) := B1
  have HS1 : Hid (Stp QC w o w1 o1) := HS0.out.trans S1
  clear B1 S1
  go_wp2_with fail
  refine ((HB1.out.alloc (.cells #[.int .u8 25, .int .u16 0, .int .u8 25, .int .u16 0] 105)).emit [(25, 0), (25, 0)] (kb := w1.heap.size) (m := 2) (cap := 2) (Has.new _ _ _) rfl (by omega) (by have := HG.out; omega)).mono ?_
  rintro e2 w2 ⟨rfl, o2, B2, S2⟩
  have S2 := ((Stp.refl QC w1 o1).alloc (.cells #[.int .u8 25, .int .u16 0, .int .u8 25, .int .u16 0] 105)).trans S2
  have HX2 : Hid (Bn w2 o2 d w.heap.size) := HX1.out.st S2 q0c
  clear r0 r1 r2 r3 r4 r5 r6 r7 r8
  obtain ⟨r0, r1, r2, r3, r4, r5, r6, r7, r8⟩ := HX2.out.read
  have HB2 : Hid (CB w2 o2 C N f L r b _ _ _) := B2
  have HS2 : Hid (Stp QC w o w2 o2) := HS1.out.trans S2
  clear B2 S2
  go_wp2_with fail
  go_end0
  exact ⟨rfl, o2, HB2.out.R, HS2.out⟩
theorem st_10 (A : CA N k) (W : CW N C k) (B : CB w o C N f L r a (17 * (n - lo)) (n - lo) c) (hn : n < N.length) (hd : (N.getD n nd0).k = 10) (h0 : (N.getD 0 nd0).k = 0) {b1 lo2 D1 Q1 D2 Q2 : Nat} (g1 : (((N.getD n nd0).a = 0 ∧ b1 = a ∧ D1 = 1 ∧ Q1 = 0) ∨ (Sh N 1 (N.getD n nd0).a lo a b1 120 0 0 false ∧ 2 * (N.getD n nd0).a + 2 ≤ k ∧ D1 = 17 * ((N.getD n nd0).a - lo) ∧ Q1 = (N.getD n nd0).a - lo))) (g2 : (((N.getD n nd0).b = 0 ∧ b = b1 ∧ D2 = 1 ∧ Q2 = 0) ∨ (Sh N 1 (N.getD n nd0).b lo2 b1 b 119 0 0 false ∧ 2 * (N.getD n nd0).b + 2 ≤ k ∧ D2 = 17 * ((N.getD n nd0).b - lo2) ∧ Q2 = (N.getD n nd0).b - lo2))) (g3 : D1 + D2 + 1 ≤ 17 * (n - lo) ∧ Q1 + Q2 ≤ n - lo ∧ 1 ≤ k) :
    Calls Tryz.prog 102 #[fptr C.gF f, .int .i64 n] w (CQ w o C N (comN N (k + 1) 0 f n c)) := by
  rw [com_s10 hd]
  obtain ⟨gg, ha, ⟨q1, q2, q3, q4, q5, q6, q7⟩⟩ := B.R.nd B.hf (by omega)
  have x0 := q7 n 0 hn (by omega)
  have x1 := q7 n 1 hn (by omega)
  have x2 := q7 n 2 hn (by omega)
  have x3 := q7 n 3 hn (by omega)
  have x4 := q7 n 4 hn (by omega)
  have x5 := q7 n 5 hn (by omega)
  have x6 := q7 n 6 hn (by omega)
  have x7 := q7 n 7 hn (by omega)
  simp only [ndV, List.getElem?_cons_succ, List.getElem?_cons_zero, Nat.add_zero] at x0 x1 x2 x3 x4 x5 x6 x7
  have HB0 : Hid (CB (w.alloc (.cells (ndV (N.getD n nd0)).toArray 134)) o C N f L r a (17 * (n - lo)) (n - lo) c) := B.alloc _
  have HX0 : Hid (Bn (w.alloc (.cells (ndV (N.getD n nd0)).toArray 134)) o (N.getD n nd0) w.heap.size) := Bn.new B.R _
  have HS0 : Hid (Stp QC w o (w.alloc (.cells (ndV (N.getD n nd0)).toArray 134)) o) := (Stp.refl _ _ _).alloc _
  rw [hd] at x0
  have HG : Hid (D1 + D2 + 1 ≤ 17 * (n - lo) ∧ Q1 + Q2 ≤ n - lo ∧ 1 ≤ k) := g3
  have HG1 : Hid ((((N.getD n nd0).a = 0 ∧ b1 = a ∧ D1 = 1 ∧ Q1 = 0) ∨ (Sh N 1 (N.getD n nd0).a lo a b1 120 0 0 false ∧ 2 * (N.getD n nd0).a + 2 ≤ k ∧ D1 = 17 * ((N.getD n nd0).a - lo) ∧ Q1 = (N.getD n nd0).a - lo))) := g1
  have HG2 : Hid ((((N.getD n nd0).b = 0 ∧ b = b1 ∧ D2 = 1 ∧ Q2 = 0) ∨ (Sh N 1 (N.getD n nd0).b lo2 b1 b 119 0 0 false ∧ 2 * (N.getD n nd0).b + 2 ≤ k ∧ D2 = 17 * ((N.getD n nd0).b - lo2) ∧ Q2 = (N.getD n nd0).b - lo2))) := g2
  have HZ : Hid ((N.getD 0 nd0).k = 0 ∧ 0 < N.length) := ⟨h0, by omega⟩
  clear B q7 ha g1 g2 g3 h0
  generalize hD : N.getD n nd0 = d at *
  clear hD
  have hV : (ndV d).toArray = #[.int .i64 10, .int .i64 d.a, .int .i64 d.b, .int .i64 d.c, .int .i64 d.next, .int .u64 d.n, sv d.s, .int .i64 d.p] := by unfold ndV; rw [hd]; rfl
  rw [hV] at HB0 HX0 HS0
  clear hV hd
  unfold fptr
  go_enter Tryz.func102, Tryz.ntmps102
  go_wp2_with fail
  refine (HB0.out.exo A W HZ.out.1 HZ.out.2 HG1.out (by have := HG.out; omega) (by have := HG.out; omega) (by have := HG.out; omega)).mono ?_
  rintro e1 w1 ⟨rfl, o1, B1, S1⟩
  have HX1 : Hid (Bn w1 o1 d w.heap.size) := HX0.out.st S1 q0c
  obtain ⟨r0, r1, r2, r3, r4, r5, r6, r7, r8⟩ := HX1.out.read
  have HB1 : Hid (CB w1 o1 C N f L r b1 _ _ _) := B1
  have HS1 : Hid (Stp QC w o w1 o1) := HS0.out.trans S1
  clear B1 S1
  go_wp2_with fail
  refine (HB1.out.exo A W HZ.out.1 HZ.out.2 HG2.out (by have := HG.out; omega) (by have := HG.out; omega) (by have := HG.out; omega)).mono ?_
  rintro e2 w2 ⟨rfl, o2, B2, S2⟩
  have HX2 : Hid (Bn w2 o2 d w.heap.size) := HX1.out.st S2 q0c
  clear r0 r1 r2 r3 r4 r5 r6 r7 r8
  obtain ⟨r0, r1, r2, r3, r4, r5, r6, r7, r8⟩ := HX2.out.read
  have HB2 : Hid (CB w2 o2 C N f L r b _ _ _) := B2
  have HS2 : Hid (Stp QC w o w2 o2) := HS1.out.trans S2
  clear B2 S2
  go_wp2_with fail
  refine (HB2.out.emitK (op := 27) (y := 0) rfl rfl rfl (by have := HG.out; omega)).mono ?_
  rintro e3 w3 ⟨rfl, o3, B3, S3⟩
  have HX3 : Hid (Bn w3 o3 d w.heap.size) := HX2.out.st S3 q0c
  clear r0 r1 r2 r3 r4 r5 r6 r7 r8
  obtain ⟨r0, r1, r2, r3, r4, r5, r6, r7, r8⟩ := HX3.out.read
  have HB3 : Hid (CB w3 o3 C N f L r b _ _ _) := B3
  have HS3 : Hid (Stp QC w o w3 o3) := HS2.out.trans S3
  clear B3 S3
  go_wp2_with fail
  go_end0
  exact ⟨rfl, o3, HB3.out.R, HS3.out⟩
end
end Go.Proofs.Qxb6500574aGreatDoor
