/-
  THE WALK of comp: expressions: the plain kinds (written by tools/gen_cm.py).
-/
import Derived.Test.Qxb6500574aGreatDoorWCm15
namespace Go.Proofs.Qxb6500574aGreatDoor
open Go Go.RowKit
set_option linter.unusedVariables false
set_option linter.unusedSimpArgs false
open Go.Lib
section
set_option maxRecDepth 100000
set_option maxHeartbeats 400000
variable {w : World} {o : Nat → Nat} {C : CC} {N : List Nd} {c : CmD} {f n k a b lo : Nat} {L : List Bs} {r : En}
/-- an operation's name and operand, laid -/
theorem com_un (g : (N.getD n nd0).k = 23) : comN N (k + 1) 1 f n c = (comN N k 1 f (N.getD n nd0).a c).emit f [unI (N.getD n nd0).n] := by
  conv => lhs; unfold comN
  simp (config := {decide := true}) only [if_true, if_false, g]
theorem com_call (g : (N.getD n nd0).k = 19) : comN N (k + 1) 1 f n c = (comN N k 2 f n c).emit f [(25, 0)] := by
  conv => lhs; unfold comN
  simp (config := {decide := true}) only [if_true, if_false, g]
theorem com_name (g : (N.getD n nd0).k = 17) : comN N (k + 1) 1 f n c = c.variable f (N.getD n nd0).s 5 7 9 := by
  conv => lhs; unfold comN
  simp (config := {decide := true}) only [if_true, if_false, g]
theorem com_and (g : (N.getD n nd0).k = 24) : comN N (k + 1) 1 f n c = (comN N k 1 f (N.getD n nd0).b ((comN N k 1 f (N.getD n nd0).a c).jump f 23)).land f ((comN N k 1 f (N.getD n nd0).a c).here f) := by
  conv => lhs; unfold comN
  simp (config := {decide := true}) only [if_true, if_false, g]
theorem com_or (g : (N.getD n nd0).k = 25) : comN N (k + 1) 1 f n c = (comN N k 1 f (N.getD n nd0).b ((comN N k 1 f (N.getD n nd0).a c).jump f 24)).land f ((comN N k 1 f (N.getD n nd0).a c).here f) := by
  conv => lhs; unfold comN
  simp (config := {decide := true}) only [if_true, if_false, g]
theorem jump_len (I : Inv c ((f, L) :: r)) (op : Nat) : ((c.jump f op).fn f).code.length = (c.fn f).code.length + 1 := by
  have := (emit_code I [(op, 65535)]).1
  unfold CmD.jump
  rw [this, List.length_append]
  rfl
theorem CB.exLe {p q x : Nat} (h : CB w o C N f L r a p q c) (A : CA N k) (hs : Sh N 1 n lo a b x 0 0 false) (hp : 17 * (n - lo) ≤ p) (hq : n - lo ≤ q) (hk : 2 * n + 2 ≤ k) : (c.fn f).code.length ≤ ((comN N k 1 f n c).fn f).code.length := by
  obtain ⟨seg, kc, _, _, e, _⟩ := h.exP A hs hp hq hk
  rw [e, List.length_append]
  omega
theorem com_blank (g : (N.getD n nd0).k = 0) : comN N (k + 1) 1 f n c = c.emit f [(2, 0)] := by
  conv => lhs; unfold comN
  simp (config := {decide := true}) only [if_true, if_false, g]
theorem ex_12 (A : CA N k) (W : CW N C k) (B : CB w o C N f L r a (17 * (n - lo)) (n - lo) c) (hn : n < N.length) (hd : (N.getD n nd0).k = 12) (g1 : lo < n) :
    Calls Tryz.prog 165 #[fptr C.gF f, .int .i64 n] w (CQ w o C N (comN N (k + 1) 1 f n c)) := by
  rw [com_nil hd]
  obtain ⟨gg, ha, ⟨q1, q2, q3, q4, q5, q6, q7⟩⟩ := B.R.nd B.hf (by omega)
  have x0 := q7 n 0 hn (by omega)
  have x1 := q7 n 1 hn (by omega)
  have x2 := q7 n 2 hn (by omega)
  have x3 := q7 n 3 hn (by omega)
  have x4 := q7 n 4 hn (by omega)
  have x5 := q7 n 5 hn (by omega)
  have x6 := q7 n 6 hn (by omega)
  have x7 := q7 n 7 hn (by omega)
  simp only [ndV, List.getElem?_cons_succ, List.getElem?_cons_zero, Nat.add_zero] at x0 x1 x2 x3 x4 x5 x6 x7
  have HB0 : Hid (CB ((w.alloc (.cells #[fptr C.gF f] 94)).alloc (.cells (ndV (N.getD n nd0)).toArray 134)) o C N f L r a (17 * (n - lo)) (n - lo) c) := (B.alloc _).alloc _
  have HX0 : Hid (Bx ((w.alloc (.cells #[fptr C.gF f] 94)).alloc (.cells (ndV (N.getD n nd0)).toArray 134)) o C f (N.getD n nd0) w.heap.size) := Bx.new B.R _
  have HS0 : Hid (Stp QC w o ((w.alloc (.cells #[fptr C.gF f] 94)).alloc (.cells (ndV (N.getD n nd0)).toArray 134)) o) := ((Stp.refl _ _ _).alloc _).alloc _
  rw [hd] at x0
  have HG : Hid (lo < n) := g1
  clear B q7 ha g1
  generalize hD : N.getD n nd0 = d at *
  clear hD
  have hV : (ndV d).toArray = #[.int .i64 12, .int .i64 d.a, .int .i64 d.b, .int .i64 d.c, .int .i64 d.next, .int .u64 d.n, sv d.s, .int .i64 d.p] := by unfold ndV; rw [hd]; rfl
  rw [hV] at HB0 HX0 HS0
  have HK : Hid (d.k = 12) := hd
  clear hV hd
  unfold fptr at HB0 HX0 HS0 ⊢
  go_enter Tryz.func165, Tryz.ntmps165
  go_wp2_with fail
  refine (HB0.out.emitK (kb := w.heap.size + 1 + 1) (op := 2) (y := 0) rfl rfl (by simp) (by have := HG.out; omega)).mono ?_
  rintro e1 w1 ⟨rfl, o1, B1, S1⟩
  have HX1 : Hid (Bx w1 o1 C f d w.heap.size) := HX0.out.st S1
  obtain ⟨r0, r1, r2, r3, r4, r5, r6, r7, r8, r9, r10⟩ := HX1.out.read
  have HB1 : Hid (CB w1 o1 C N f L r a _ _ _) := B1
  have HS1 : Hid (Stp QC w o w1 o1) := HS0.out.trans S1
  clear B1 S1
  go_wp2_with fail
  go_end0
  exact ⟨rfl, o1, HB1.out.R, HS1.out⟩
theorem ex_13 (A : CA N k) (W : CW N C k) (B : CB w o C N f L r a (17 * (n - lo)) (n - lo) c) (hn : n < N.length) (hd : (N.getD n nd0).k = 13) (g1 : lo < n) :
    Calls Tryz.prog 165 #[fptr C.gF f, .int .i64 n] w (CQ w o C N (comN N (k + 1) 1 f n c)) := by
  rw [com_true hd]
  obtain ⟨gg, ha, ⟨q1, q2, q3, q4, q5, q6, q7⟩⟩ := B.R.nd B.hf (by omega)
  have x0 := q7 n 0 hn (by omega)
  have x1 := q7 n 1 hn (by omega)
  have x2 := q7 n 2 hn (by omega)
  have x3 := q7 n 3 hn (by omega)
  have x4 := q7 n 4 hn (by omega)
  have x5 := q7 n 5 hn (by omega)
  have x6 := q7 n 6 hn (by omega)
  have x7 := q7 n 7 hn (by omega)
  simp only [ndV, List.getElem?_cons_succ, List.getElem?_cons_zero, Nat.add_zero] at x0 x1 x2 x3 x4 x5 x6 x7
  have HB0 : Hid (CB ((w.alloc (.cells #[fptr C.gF f] 94)).alloc (.cells (ndV (N.getD n nd0)).toArray 134)) o C N f L r a (17 * (n - lo)) (n - lo) c) := (B.alloc _).alloc _
  have HX0 : Hid (Bx ((w.alloc (.cells #[fptr C.gF f] 94)).alloc (.cells (ndV (N.getD n nd0)).toArray 134)) o C f (N.getD n nd0) w.heap.size) := Bx.new B.R _
  have HS0 : Hid (Stp QC w o ((w.alloc (.cells #[fptr C.gF f] 94)).alloc (.cells (ndV (N.getD n nd0)).toArray 134)) o) := ((Stp.refl _ _ _).alloc _).alloc _
  rw [hd] at x0
  have HG : Hid (lo < n) := g1
  clear B q7 ha g1
  generalize hD : N.getD n nd0 = d at *
  clear hD
  have hV : (ndV d).toArray = #[.int .i64 13, .int .i64 d.a, .int .i64 d.b, .int .i64 d.c, .int .i64 d.next, .int .u64 d.n, sv d.s, .int .i64 d.p] := by unfold ndV; rw [hd]; rfl
  rw [hV] at HB0 HX0 HS0
  have HK : Hid (d.k = 13) := hd
  clear hV hd
  unfold fptr at HB0 HX0 HS0 ⊢
  go_enter Tryz.func165, Tryz.ntmps165
  go_wp2_with fail
  refine (HB0.out.emitK (kb := w.heap.size + 1 + 1) (op := 3) (y := 0) rfl rfl (by simp) (by have := HG.out; omega)).mono ?_
  rintro e1 w1 ⟨rfl, o1, B1, S1⟩
  have HX1 : Hid (Bx w1 o1 C f d w.heap.size) := HX0.out.st S1
  obtain ⟨r0, r1, r2, r3, r4, r5, r6, r7, r8, r9, r10⟩ := HX1.out.read
  have HB1 : Hid (CB w1 o1 C N f L r a _ _ _) := B1
  have HS1 : Hid (Stp QC w o w1 o1) := HS0.out.trans S1
  clear B1 S1
  go_wp2_with fail
  go_end0
  exact ⟨rfl, o1, HB1.out.R, HS1.out⟩
theorem ex_14 (A : CA N k) (W : CW N C k) (B : CB w o C N f L r a (17 * (n - lo)) (n - lo) c) (hn : n < N.length) (hd : (N.getD n nd0).k = 14) (g1 : lo < n) :
    Calls Tryz.prog 165 #[fptr C.gF f, .int .i64 n] w (CQ w o C N (comN N (k + 1) 1 f n c)) := by
  rw [com_false hd]
  obtain ⟨gg, ha, ⟨q1, q2, q3, q4, q5, q6, q7⟩⟩ := B.R.nd B.hf (by omega)
  have x0 := q7 n 0 hn (by omega)
  have x1 := q7 n 1 hn (by omega)
  have x2 := q7 n 2 hn (by omega)
  have x3 := q7 n 3 hn (by omega)
  have x4 := q7 n 4 hn (by omega)
  have x5 := q7 n 5 hn (by omega)
  have x6 := q7 n 6 hn (by omega)
  have x7 := q7 n 7 hn (by omega)
  simp only [ndV, List.getElem?_cons_succ, List.getElem?_cons_zero, Nat.add_zero] at x0 x1 x2 x3 x4 x5 x6 x7
  have HB0 : Hid (CB ((w.alloc (.cells #[fptr C.gF f] 94)).alloc (.cells (ndV (N.getD n nd0)).toArray 134)) o C N f L r a (17 * (n - lo)) (n - lo) c) := (B.alloc _).alloc _
  have HX0 : Hid (Bx ((w.alloc (.cells #[fptr C.gF f] 94)).alloc (.cells (ndV (N.getD n nd0)).toArray 134)) o C f (N.getD n nd0) w.heap.size) := Bx.new B.R _
  have HS0 : Hid (Stp QC w o ((w.alloc (.cells #[fptr C.gF f] 94)).alloc (.cells (ndV (N.getD n nd0)).toArray 134)) o) := ((Stp.refl _ _ _).alloc _).alloc _
  rw [hd] at x0
  have HG : Hid (lo < n) := g1
  clear B q7 ha g1
  generalize hD : N.getD n nd0 = d at *
  clear hD
  have hV : (ndV d).toArray = #[.int .i64 14, .int .i64 d.a, .int .i64 d.b, .int .i64 d.c, .int .i64 d.next, .int .u64 d.n, sv d.s, .int .i64 d.p] := by unfold ndV; rw [hd]; rfl
  rw [hV] at HB0 HX0 HS0
  have HK : Hid (d.k = 14) := hd
  clear hV hd
  unfold fptr at HB0 HX0 HS0 ⊢
  go_enter Tryz.func165, Tryz.ntmps165
  go_wp2_with fail
  refine (HB0.out.emitK (kb := w.heap.size + 1 + 1) (op := 4) (y := 0) rfl rfl (by simp) (by have := HG.out; omega)).mono ?_
  rintro e1 w1 ⟨rfl, o1, B1, S1⟩
  have HX1 : Hid (Bx w1 o1 C f d w.heap.size) := HX0.out.st S1
  obtain ⟨r0, r1, r2, r3, r4, r5, r6, r7, r8, r9, r10⟩ := HX1.out.read
  have HB1 : Hid (CB w1 o1 C N f L r a _ _ _) := B1
  have HS1 : Hid (Stp QC w o w1 o1) := HS0.out.trans S1
  clear B1 S1
  go_wp2_with fail
  go_end0
  exact ⟨rfl, o1, HB1.out.R, HS1.out⟩
theorem ex_15 (A : CA N k) (W : CW N C k) (B : CB w o C N f L r a (17 * (n - lo)) (n - lo) c) (hn : n < N.length) (hd : (N.getD n nd0).k = 15) (g1 : lo < n) (g2 : (N.getD n nd0).n < 18446744073709551616 ∧ isNan (N.getD n nd0).n = false) :
    Calls Tryz.prog 165 #[fptr C.gF f, .int .i64 n] w (CQ w o C N (comN N (k + 1) 1 f n c)) := by
  rw [com_num hd]
  obtain ⟨gg, ha, ⟨q1, q2, q3, q4, q5, q6, q7⟩⟩ := B.R.nd B.hf (by omega)
  have x0 := q7 n 0 hn (by omega)
  have x1 := q7 n 1 hn (by omega)
  have x2 := q7 n 2 hn (by omega)
  have x3 := q7 n 3 hn (by omega)
  have x4 := q7 n 4 hn (by omega)
  have x5 := q7 n 5 hn (by omega)
  have x6 := q7 n 6 hn (by omega)
  have x7 := q7 n 7 hn (by omega)
  simp only [ndV, List.getElem?_cons_succ, List.getElem?_cons_zero, Nat.add_zero] at x0 x1 x2 x3 x4 x5 x6 x7
  have HB0 : Hid (CB ((w.alloc (.cells #[fptr C.gF f] 94)).alloc (.cells (ndV (N.getD n nd0)).toArray 134)) o C N f L r a (17 * (n - lo)) (n - lo) c) := (B.alloc _).alloc _
  have HX0 : Hid (Bx ((w.alloc (.cells #[fptr C.gF f] 94)).alloc (.cells (ndV (N.getD n nd0)).toArray 134)) o C f (N.getD n nd0) w.heap.size) := Bx.new B.R _
  have HS0 : Hid (Stp QC w o ((w.alloc (.cells #[fptr C.gF f] 94)).alloc (.cells (ndV (N.getD n nd0)).toArray 134)) o) := ((Stp.refl _ _ _).alloc _).alloc _
  rw [hd] at x0
  have HG : Hid (lo < n) := g1
  have HV : Hid ((N.getD n nd0).n < 18446744073709551616 ∧ isNan (N.getD n nd0).n = false) := g2
  clear B q7 ha g1 g2
  generalize hD : N.getD n nd0 = d at *
  clear hD
  have hV : (ndV d).toArray = #[.int .i64 15, .int .i64 d.a, .int .i64 d.b, .int .i64 d.c, .int .i64 d.next, .int .u64 d.n, sv d.s, .int .i64 d.p] := by unfold ndV; rw [hd]; rfl
  rw [hV] at HB0 HX0 HS0
  have HK : Hid (d.k = 15) := hd
  clear hV hd
  unfold fptr at HB0 HX0 HS0 ⊢
  go_enter Tryz.func165, Tryz.ntmps165
  go_wp2_with fail
  refine (HB0.out.number d.n (.inl ⟨rfl, HV.out⟩) (by have := HG.out; omega)).mono ?_
  rintro e1 w1 ⟨rfl, o1, B1, S1⟩
  have HX1 : Hid (Bx w1 o1 C f d w.heap.size) := HX0.out.st S1
  obtain ⟨r0, r1, r2, r3, r4, r5, r6, r7, r8, r9, r10⟩ := HX1.out.read
  have HB1 : Hid (CB w1 o1 C N f L r a _ _ _) := B1
  have HS1 : Hid (Stp QC w o w1 o1) := HS0.out.trans S1
  clear B1 S1
  go_wp2_with fail
  refine (HB1.out.emitK (op := 1) (y := (c.const f (numV d.n)).2) rfl rfl rfl (by have := HG.out; omega)).mono ?_
  rintro e2 w2 ⟨rfl, o2, B2, S2⟩
  have HX2 : Hid (Bx w2 o2 C f d w.heap.size) := HX1.out.st S2
  clear r0 r1 r2 r3 r4 r5 r6 r7 r8 r9 r10
  obtain ⟨r0, r1, r2, r3, r4, r5, r6, r7, r8, r9, r10⟩ := HX2.out.read
  have HB2 : Hid (CB w2 o2 C N f L r a _ _ _) := B2
  have HS2 : Hid (Stp QC w o w2 o2) := HS1.out.trans S2
  clear B2 S2
  go_wp2_with fail
  go_end0
  exact ⟨rfl, o2, HB2.out.R, HS2.out⟩
theorem ex_16 (A : CA N k) (W : CW N C k) (B : CB w o C N f L r a (17 * (n - lo)) (n - lo) c) (hn : n < N.length) (hd : (N.getD n nd0).k = 16) (g1 : lo < n) (g2 : (N.getD n nd0).s.length ≤ 40) :
    Calls Tryz.prog 165 #[fptr C.gF f, .int .i64 n] w (CQ w o C N (comN N (k + 1) 1 f n c)) := by
  rw [com_str hd]
  obtain ⟨gg, ha, ⟨q1, q2, q3, q4, q5, q6, q7⟩⟩ := B.R.nd B.hf (by omega)
  have x0 := q7 n 0 hn (by omega)
  have x1 := q7 n 1 hn (by omega)
  have x2 := q7 n 2 hn (by omega)
  have x3 := q7 n 3 hn (by omega)
  have x4 := q7 n 4 hn (by omega)
  have x5 := q7 n 5 hn (by omega)
  have x6 := q7 n 6 hn (by omega)
  have x7 := q7 n 7 hn (by omega)
  simp only [ndV, List.getElem?_cons_succ, List.getElem?_cons_zero, Nat.add_zero] at x0 x1 x2 x3 x4 x5 x6 x7
  have HB0 : Hid (CB ((w.alloc (.cells #[fptr C.gF f] 94)).alloc (.cells (ndV (N.getD n nd0)).toArray 134)) o C N f L r a (17 * (n - lo)) (n - lo) c) := (B.alloc _).alloc _
  have HX0 : Hid (Bx ((w.alloc (.cells #[fptr C.gF f] 94)).alloc (.cells (ndV (N.getD n nd0)).toArray 134)) o C f (N.getD n nd0) w.heap.size) := Bx.new B.R _
  have HS0 : Hid (Stp QC w o ((w.alloc (.cells #[fptr C.gF f] 94)).alloc (.cells (ndV (N.getD n nd0)).toArray 134)) o) := ((Stp.refl _ _ _).alloc _).alloc _
  rw [hd] at x0
  have HG : Hid (lo < n) := g1
  have HV : Hid ((N.getD n nd0).s.length ≤ 40) := g2
  clear B q7 ha g1 g2
  generalize hD : N.getD n nd0 = d at *
  clear hD
  have hV : (ndV d).toArray = #[.int .i64 16, .int .i64 d.a, .int .i64 d.b, .int .i64 d.c, .int .i64 d.next, .int .u64 d.n, sv d.s, .int .i64 d.p] := by unfold ndV; rw [hd]; rfl
  rw [hV] at HB0 HX0 HS0
  have HK : Hid (d.k = 16) := hd
  clear hV hd
  unfold fptr at HB0 HX0 HS0 ⊢
  go_enter Tryz.func165, Tryz.ntmps165
  go_wp2_with fail
  refine (HB0.out.text d.s (.inr ⟨rfl, HV.out⟩) (by have := HG.out; omega)).mono ?_
  rintro e1 w1 ⟨rfl, o1, B1, S1⟩
  have HX1 : Hid (Bx w1 o1 C f d w.heap.size) := HX0.out.st S1
  obtain ⟨r0, r1, r2, r3, r4, r5, r6, r7, r8, r9, r10⟩ := HX1.out.read
  have HB1 : Hid (CB w1 o1 C N f L r a _ _ _) := B1
  have HS1 : Hid (Stp QC w o w1 o1) := HS0.out.trans S1
  clear B1 S1
  go_wp2_with fail
  refine (HB1.out.emitK (op := 1) (y := (c.const f (strV d.s)).2) rfl rfl rfl (by have := HG.out; omega)).mono ?_
  rintro e2 w2 ⟨rfl, o2, B2, S2⟩
  have HX2 : Hid (Bx w2 o2 C f d w.heap.size) := HX1.out.st S2
  clear r0 r1 r2 r3 r4 r5 r6 r7 r8 r9 r10
  obtain ⟨r0, r1, r2, r3, r4, r5, r6, r7, r8, r9, r10⟩ := HX2.out.read
  have HB2 : Hid (CB w2 o2 C N f L r a _ _ _) := B2
  have HS2 : Hid (Stp QC w o w2 o2) := HS1.out.trans S2
  clear B2 S2
  go_wp2_with fail
  go_end0
  exact ⟨rfl, o2, HB2.out.R, HS2.out⟩
theorem ex_17 (A : CA N k) (W : CW N C k) (B : CB w o C N f L r a (17 * (n - lo)) (n - lo) c) (hn : n < N.length) (hd : (N.getD n nd0).k = 17) (g1 : lo < n) (g2 : nmOk (N.getD n nd0).s) :
    Calls Tryz.prog 165 #[fptr C.gF f, .int .i64 n] w (CQ w o C N (comN N (k + 1) 1 f n c)) := by
  rw [com_name hd]
  obtain ⟨gg, ha, ⟨q1, q2, q3, q4, q5, q6, q7⟩⟩ := B.R.nd B.hf (by omega)
  have x0 := q7 n 0 hn (by omega)
  have x1 := q7 n 1 hn (by omega)
  have x2 := q7 n 2 hn (by omega)
  have x3 := q7 n 3 hn (by omega)
  have x4 := q7 n 4 hn (by omega)
  have x5 := q7 n 5 hn (by omega)
  have x6 := q7 n 6 hn (by omega)
  have x7 := q7 n 7 hn (by omega)
  simp only [ndV, List.getElem?_cons_succ, List.getElem?_cons_zero, Nat.add_zero] at x0 x1 x2 x3 x4 x5 x6 x7
  have HB0 : Hid (CB ((w.alloc (.cells #[fptr C.gF f] 94)).alloc (.cells (ndV (N.getD n nd0)).toArray 134)) o C N f L r a (17 * (n - lo)) (n - lo) c) := (B.alloc _).alloc _
  have HX0 : Hid (Bx ((w.alloc (.cells #[fptr C.gF f] 94)).alloc (.cells (ndV (N.getD n nd0)).toArray 134)) o C f (N.getD n nd0) w.heap.size) := Bx.new B.R _
  have HS0 : Hid (Stp QC w o ((w.alloc (.cells #[fptr C.gF f] 94)).alloc (.cells (ndV (N.getD n nd0)).toArray 134)) o) := ((Stp.refl _ _ _).alloc _).alloc _
  rw [hd] at x0
  have HG : Hid (lo < n) := g1
  have HV : Hid (nmOk (N.getD n nd0).s) := g2
  clear B q7 ha g1 g2
  generalize hD : N.getD n nd0 = d at *
  clear hD
  have hV : (ndV d).toArray = #[.int .i64 17, .int .i64 d.a, .int .i64 d.b, .int .i64 d.c, .int .i64 d.next, .int .u64 d.n, sv d.s, .int .i64 d.p] := by unfold ndV; rw [hd]; rfl
  rw [hV] at HB0 HX0 HS0
  have HK : Hid (d.k = 17) := hd
  clear hV hd
  unfold fptr at HB0 HX0 HS0 ⊢
  go_enter Tryz.func165, Tryz.ntmps165
  go_wp2_with fail
  refine (HB0.out.variable HV.out 5 7 9 (by decide) (by have := HG.out; omega) (by have := HG.out; omega)).mono ?_
  rintro e1 w1 ⟨rfl, o1, B1, S1⟩
  have HX1 : Hid (Bx w1 o1 C f d w.heap.size) := HX0.out.st S1
  obtain ⟨r0, r1, r2, r3, r4, r5, r6, r7, r8, r9, r10⟩ := HX1.out.read
  have HB1 : Hid (CB w1 o1 C N f L r a _ _ _) := B1
  have HS1 : Hid (Stp QC w o w1 o1) := HS0.out.trans S1
  clear B1 S1
  go_wp2_with fail
  go_end0
  exact ⟨rfl, o1, HB1.out.R, HS1.out⟩
theorem ex_18 (A : CA N k) (W : CW N C k) (B : CB w o C N f L r a (17 * (n - lo)) (n - lo) c) (hn : n < N.length) (hd : (N.getD n nd0).k = 18) {x y b1 : Nat} (g1 : n = (N.getD n nd0).b + 1) (g2 : Sh N 1 (N.getD n nd0).a lo a b1 x 0 0 false) (g3 : Sh N 1 (N.getD n nd0).b (N.getD n nd0).a b1 b y 0 0 false) (hk : 2 * n + 2 ≤ k + 1) :
    Calls Tryz.prog 165 #[fptr C.gF f, .int .i64 n] w (CQ w o C N (comN N (k + 1) 1 f n c)) := by
  rw [com_idx hd]
  obtain ⟨gg, ha, ⟨q1, q2, q3, q4, q5, q6, q7⟩⟩ := B.R.nd B.hf (by omega)
  have x0 := q7 n 0 hn (by omega)
  have x1 := q7 n 1 hn (by omega)
  have x2 := q7 n 2 hn (by omega)
  have x3 := q7 n 3 hn (by omega)
  have x4 := q7 n 4 hn (by omega)
  have x5 := q7 n 5 hn (by omega)
  have x6 := q7 n 6 hn (by omega)
  have x7 := q7 n 7 hn (by omega)
  simp only [ndV, List.getElem?_cons_succ, List.getElem?_cons_zero, Nat.add_zero] at x0 x1 x2 x3 x4 x5 x6 x7
  have HB0 : Hid (CB ((w.alloc (.cells #[fptr C.gF f] 94)).alloc (.cells (ndV (N.getD n nd0)).toArray 134)) o C N f L r a (17 * (n - lo)) (n - lo) c) := (B.alloc _).alloc _
  have HX0 : Hid (Bx ((w.alloc (.cells #[fptr C.gF f] 94)).alloc (.cells (ndV (N.getD n nd0)).toArray 134)) o C f (N.getD n nd0) w.heap.size) := Bx.new B.R _
  have HS0 : Hid (Stp QC w o ((w.alloc (.cells #[fptr C.gF f] 94)).alloc (.cells (ndV (N.getD n nd0)).toArray 134)) o) := ((Stp.refl _ _ _).alloc _).alloc _
  rw [hd] at x0
  have HG : Hid (lo < (N.getD n nd0).a ∧ (N.getD n nd0).a < (N.getD n nd0).b ∧ n = (N.getD n nd0).b + 1 ∧ 2 * n + 2 ≤ k + 1) := ⟨g2.lt, g3.lt, g1, hk⟩
  have HG1 : Hid (Sh N 1 (N.getD n nd0).a lo a b1 x 0 0 false) := g2
  have HG2 : Hid (Sh N 1 (N.getD n nd0).b (N.getD n nd0).a b1 b y 0 0 false) := g3
  clear B q7 ha g1 g2 g3 hk
  generalize hD : N.getD n nd0 = d at *
  clear hD
  have hV : (ndV d).toArray = #[.int .i64 18, .int .i64 d.a, .int .i64 d.b, .int .i64 d.c, .int .i64 d.next, .int .u64 d.n, sv d.s, .int .i64 d.p] := by unfold ndV; rw [hd]; rfl
  rw [hV] at HB0 HX0 HS0
  have HK : Hid (d.k = 18) := hd
  clear hV hd
  unfold fptr at HB0 HX0 HS0 ⊢
  go_enter Tryz.func165, Tryz.ntmps165
  go_wp2_with fail
  refine (HB0.out.ex A W HG1.out (by have := HG.out; omega) (by have := HG.out; omega) (by have := HG.out; omega)).mono ?_
  rintro e1 w1 ⟨rfl, o1, B1, S1⟩
  have HX1 : Hid (Bx w1 o1 C f d w.heap.size) := HX0.out.st S1
  obtain ⟨r0, r1, r2, r3, r4, r5, r6, r7, r8, r9, r10⟩ := HX1.out.read
  have HB1 : Hid (CB w1 o1 C N f L r b1 _ _ _) := B1
  have HS1 : Hid (Stp QC w o w1 o1) := HS0.out.trans S1
  clear B1 S1
  go_wp2_with fail
  refine (HB1.out.ex A W HG2.out (by have := HG.out; omega) (by have := HG.out; omega) (by have := HG.out; omega)).mono ?_
  rintro e2 w2 ⟨rfl, o2, B2, S2⟩
  have HX2 : Hid (Bx w2 o2 C f d w.heap.size) := HX1.out.st S2
  clear r0 r1 r2 r3 r4 r5 r6 r7 r8 r9 r10
  obtain ⟨r0, r1, r2, r3, r4, r5, r6, r7, r8, r9, r10⟩ := HX2.out.read
  have HB2 : Hid (CB w2 o2 C N f L r b _ _ _) := B2
  have HS2 : Hid (Stp QC w o w2 o2) := HS1.out.trans S2
  clear B2 S2
  go_wp2_with fail
  refine (HB2.out.emitK (op := 11) (y := 0) rfl rfl rfl (by have := HG.out; omega)).mono ?_
  rintro e3 w3 ⟨rfl, o3, B3, S3⟩
  have HX3 : Hid (Bx w3 o3 C f d w.heap.size) := HX2.out.st S3
  clear r0 r1 r2 r3 r4 r5 r6 r7 r8 r9 r10
  obtain ⟨r0, r1, r2, r3, r4, r5, r6, r7, r8, r9, r10⟩ := HX3.out.read
  have HB3 : Hid (CB w3 o3 C N f L r b _ _ _) := B3
  have HS3 : Hid (Stp QC w o w3 o3) := HS2.out.trans S3
  clear B3 S3
  go_wp2_with fail
  go_end0
  exact ⟨rfl, o3, HB3.out.R, HS3.out⟩
theorem ex_19 (A : CA N k) (W : CW N C k) (B : CB w o C N f L r a (17 * (n - lo)) (n - lo) c) (hn : n < N.length) (hd : (N.getD n nd0).k = 19) {x : Nat} (h : Sh N 1 n lo a b x 0 0 false) (hk : 2 * n + 2 ≤ k + 1) :
    Calls Tryz.prog 165 #[fptr C.gF f, .int .i64 n] w (CQ w o C N (comN N (k + 1) 1 f n c)) := by
  rw [com_call hd]
  obtain ⟨gg, ha, ⟨q1, q2, q3, q4, q5, q6, q7⟩⟩ := B.R.nd B.hf (by omega)
  have x0 := q7 n 0 hn (by omega)
  have x1 := q7 n 1 hn (by omega)
  have x2 := q7 n 2 hn (by omega)
  have x3 := q7 n 3 hn (by omega)
  have x4 := q7 n 4 hn (by omega)
  have x5 := q7 n 5 hn (by omega)
  have x6 := q7 n 6 hn (by omega)
  have x7 := q7 n 7 hn (by omega)
  simp only [ndV, List.getElem?_cons_succ, List.getElem?_cons_zero, Nat.add_zero] at x0 x1 x2 x3 x4 x5 x6 x7
  have HB0 : Hid (CB ((w.alloc (.cells #[fptr C.gF f] 94)).alloc (.cells (ndV (N.getD n nd0)).toArray 134)) o C N f L r a (17 * (n - lo)) (n - lo) c) := (B.alloc _).alloc _
  have HX0 : Hid (Bx ((w.alloc (.cells #[fptr C.gF f] 94)).alloc (.cells (ndV (N.getD n nd0)).toArray 134)) o C f (N.getD n nd0) w.heap.size) := Bx.new B.R _
  have HS0 : Hid (Stp QC w o ((w.alloc (.cells #[fptr C.gF f] 94)).alloc (.cells (ndV (N.getD n nd0)).toArray 134)) o) := ((Stp.refl _ _ _).alloc _).alloc _
  rw [hd] at x0
  have HG : Hid (lo < n ∧ 2 * n + 2 ≤ k + 1) := ⟨h.lt, hk⟩
  have HG1 : Hid (Sh N 1 n lo a b x 0 0 false ∧ (N.getD n nd0).k = 19) := ⟨h, hd⟩
  have HW : Hid (∀ w o, CB w o C N f L r a (17 * (n - lo)) (n - lo) c → Calls Tryz.prog 167 #[fptr C.gF f, .int .i64 n] w (CT w o C N f L r b (17 * (n - lo) - 3 * (n - lo)) (n - lo - (n - lo)) (comN N k 2 f n c))) := fun w o B => B.ca A W h hd (by omega) (by omega) (by omega)
  clear B q7 ha h hk
  generalize hD : N.getD n nd0 = d at *
  clear hD
  have hV : (ndV d).toArray = #[.int .i64 19, .int .i64 d.a, .int .i64 d.b, .int .i64 d.c, .int .i64 d.next, .int .u64 d.n, sv d.s, .int .i64 d.p] := by unfold ndV; rw [hd]; rfl
  rw [hV] at HB0 HX0 HS0
  have HK : Hid (d.k = 19) := hd
  clear hV hd
  unfold fptr at HB0 HX0 HS0 ⊢
  go_enter Tryz.func165, Tryz.ntmps165
  go_wp2_with fail
  refine (HW.out _ _ HB0.out).mono ?_
  rintro e1 w1 ⟨rfl, o1, B1, S1⟩
  have HX1 : Hid (Bx w1 o1 C f d w.heap.size) := HX0.out.st S1
  obtain ⟨r0, r1, r2, r3, r4, r5, r6, r7, r8, r9, r10⟩ := HX1.out.read
  have HB1 : Hid (CB w1 o1 C N f L r b _ _ _) := B1
  have HS1 : Hid (Stp QC w o w1 o1) := HS0.out.trans S1
  clear B1 S1
  go_wp2_with fail
  refine (HB1.out.emitK (op := 25) (y := 0) rfl rfl rfl (by have := HG.out; omega)).mono ?_
  rintro e2 w2 ⟨rfl, o2, B2, S2⟩
  have HX2 : Hid (Bx w2 o2 C f d w.heap.size) := HX1.out.st S2
  clear r0 r1 r2 r3 r4 r5 r6 r7 r8 r9 r10
  obtain ⟨r0, r1, r2, r3, r4, r5, r6, r7, r8, r9, r10⟩ := HX2.out.read
  have HB2 : Hid (CB w2 o2 C N f L r b _ _ _) := B2
  have HS2 : Hid (Stp QC w o w2 o2) := HS1.out.trans S2
  clear B2 S2
  go_wp2_with fail
  go_end0
  exact ⟨rfl, o2, HB2.out.R, HS2.out⟩
end
end Go.Proofs.Qxb6500574aGreatDoor
