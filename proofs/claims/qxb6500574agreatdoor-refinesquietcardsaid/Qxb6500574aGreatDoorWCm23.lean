/-
  THE WALK of comp: expressions: the blank, functions; every expression (written by tools/gen_cm.py).
-/
import Derived.Test.Qxb6500574aGreatDoorWCm22
namespace Go.Proofs.Qxb6500574aGreatDoor
open Go Go.RowKit
set_option linter.unusedVariables false
set_option linter.unusedSimpArgs false
open Go.Lib
section
set_option maxRecDepth 100000
set_option maxHeartbeats 1000000
variable {w : World} {o : Nat → Nat} {C : CC} {N : List Nd} {c : CmD} {f n k a b lo : Nat} {L : List Bs} {r : En}
theorem com_fun (g : (N.getD n nd0).k = 20) {l : List Nat} (hch : nextL N N.length (N.getD n nd0).a = l) (h12 : (N.getD n nd0).n ≤ 12) : comN N (k + 1) 1 f n c = ((comN N k 3 (N.getD n nd0).n (N.getD n nd0).b ((l.foldl (fun c m => c.declare (N.getD n nd0).n (N.getD m nd0).s) (c.fresh (N.getD n nd0).n (some f))).upd (N.getD n nd0).n fun x => { x with np := l.length })).emit (N.getD n nd0).n [(2, 0), (2, 0), (27, 0)]).emit f [(28, (N.getD n nd0).n)] := by
  conv => lhs; unfold comN
  simp (config := {decide := true}) only [if_true, if_false, g]
  rw [hch, Nat.mod_eq_of_lt (by omega)]
theorem ex_0 {p q : Nat} (B : CB w o C N f L r a p q c) (hp : 1 ≤ p) (hn : n < N.length) (hd : (N.getD n nd0).k = 0) :
    Calls Tryz.prog 165 #[fptr C.gF f, .int .i64 n] w (CT w o C N f L r a (p - 1) q (comN N (k + 1) 1 f n c)) := by
  rw [com_blank hd]
  obtain ⟨gg, ha, ⟨q1, q2, q3, q4, q5, q6, q7⟩⟩ := B.R.nd B.hf (by omega)
  have x0 := q7 n 0 hn (by omega)
  have x1 := q7 n 1 hn (by omega)
  have x2 := q7 n 2 hn (by omega)
  have x3 := q7 n 3 hn (by omega)
  have x4 := q7 n 4 hn (by omega)
  have x5 := q7 n 5 hn (by omega)
  have x6 := q7 n 6 hn (by omega)
  have x7 := q7 n 7 hn (by omega)
  simp only [ndV, List.getElem?_cons_succ, List.getElem?_cons_zero, Nat.add_zero] at x0 x1 x2 x3 x4 x5 x6 x7
  have HB0 : Hid (CB ((w.alloc (.cells #[fptr C.gF f] 94)).alloc (.cells (ndV (N.getD n nd0)).toArray 134)) o C N f L r a p q c) := (B.alloc _).alloc _
  have HX0 : Hid (Bx ((w.alloc (.cells #[fptr C.gF f] 94)).alloc (.cells (ndV (N.getD n nd0)).toArray 134)) o C f (N.getD n nd0) w.heap.size) := Bx.new B.R _
  have HS0 : Hid (Stp QC w o ((w.alloc (.cells #[fptr C.gF f] 94)).alloc (.cells (ndV (N.getD n nd0)).toArray 134)) o) := ((Stp.refl _ _ _).alloc _).alloc _
  rw [hd] at x0
  have HG : Hid (1 ≤ p) := hp
  clear B q7 ha hp
  generalize hD : N.getD n nd0 = d at *
  clear hD
  have hV : (ndV d).toArray = #[.int .i64 0, .int .i64 d.a, .int .i64 d.b, .int .i64 d.c, .int .i64 d.next, .int .u64 d.n, sv d.s, .int .i64 d.p] := by unfold ndV; rw [hd]; rfl
  rw [hV] at HB0 HX0 HS0
  clear hV hd
  unfold fptr at HB0 HX0 HS0 ⊢
  go_enter Tryz.func165, Tryz.ntmps165
  go_wp2_with fail
  refine (HB0.out.emitK (kb := w.heap.size + 1 + 1) (op := 2) (y := 0) rfl rfl (by simp) (by have := HG.out; omega)).mono ?_
  rintro e1 w1 ⟨rfl, o1, B1, S1⟩
  have HX1 : Hid (Bx w1 o1 C f d w.heap.size) := HX0.out.st S1
  obtain ⟨r0, r1, r2, r3, r4, r5, r6, r7, r8, r9, r10⟩ := HX1.out.read
  have HB1 : Hid (CB w1 o1 C N f L r a _ _ _) := B1
  have HS1 : Hid (Stp QC w o w1 o1) := HS0.out.trans S1
  clear B1 S1
  go_wp2_with fail
  go_end0
  exact ⟨rfl, o1, HB1.out, HS1.out⟩
theorem ex_20 (A : CA N k) (W : CW N C k) (B : CB w o C N f L r a (17 * (n - lo)) (n - lo) c) (hn : n < N.length) (hd : (N.getD n nd0).k = 20) (hN : N.length ≤ 3000) {l l2 : List Nat} {h1 h2 al2 : Nat} (g1 : (N.getD n nd0).n = a + 1) (g2 : (N.getD n nd0).n ≤ 12) (g3 : n = h2 + 1) (g4 : Chain N (N.getD n nd0).a l) (g5 : l.length ≤ 3) (g6 : Names N l lo h1) (g7 : Chain N (N.getD n nd0).b l2) (g8 : SeqS (fun x lo a b al al' => Sh N 0 x lo a b 120 al al' false) l2 h1 h2 (a + 1) b l.length al2) (hk : 2 * n + 2 ≤ k + 1) :
    Calls Tryz.prog 165 #[fptr C.gF f, .int .i64 n] w (CQ w o C N (comN N (k + 1) 1 f n c)) := by
  have hch : nextL N N.length (N.getD n nd0).a = l := chain_eq g4 (by have := Inc.len g6.inc g6.in_.1 (fun x hx => (g6.in_.2 x hx).2); have := (SeqS.in_ Sh.ltS g8).1; omega)
  rw [com_fun hd hch g2]
  obtain ⟨gg, ha, ⟨q1, q2, q3, q4, q5, q6, q7⟩⟩ := B.R.nd B.hf (by omega)
  have x0 := q7 n 0 hn (by omega)
  have x1 := q7 n 1 hn (by omega)
  have x2 := q7 n 2 hn (by omega)
  have x3 := q7 n 3 hn (by omega)
  have x4 := q7 n 4 hn (by omega)
  have x5 := q7 n 5 hn (by omega)
  have x6 := q7 n 6 hn (by omega)
  have x7 := q7 n 7 hn (by omega)
  simp only [ndV, List.getElem?_cons_succ, List.getElem?_cons_zero, Nat.add_zero] at x0 x1 x2 x3 x4 x5 x6 x7
  have HB0 : Hid (CB ((w.alloc (.cells #[fptr C.gF f] 94)).alloc (.cells (ndV (N.getD n nd0)).toArray 134)) o C N f L r a (17 * (n - lo)) (n - lo) c) := (B.alloc _).alloc _
  have HX0 : Hid (Bx ((w.alloc (.cells #[fptr C.gF f] 94)).alloc (.cells (ndV (N.getD n nd0)).toArray 134)) o C f (N.getD n nd0) w.heap.size) := Bx.new B.R _
  have HS0 : Hid (Stp QC w o ((w.alloc (.cells #[fptr C.gF f] 94)).alloc (.cells (ndV (N.getD n nd0)).toArray 134)) o) := ((Stp.refl _ _ _).alloc _).alloc _
  rw [hd] at x0
  have HF : Hid (∀ w o, CB w o C N f L r a (17 * (n - lo)) (n - lo) c → Calls Tryz.prog 234 #[fptr C.gF f, .agg (ndV (N.getD n nd0)).toArray] w (CQ w o C N (((comN N k 3 (N.getD n nd0).n (N.getD n nd0).b ((l.foldl (fun c m => c.declare (N.getD n nd0).n (N.getD m nd0).s) (c.fresh (N.getD n nd0).n (some f))).upd (N.getD n nd0).n fun x => { x with np := l.length })).emit (N.getD n nd0).n [(2, 0), (2, 0), (27, 0)]).emit f [(28, (N.getD n nd0).n)]))) := fun w o B => function_w A W hN B g1 g2 g3 hn g4 g5 g6 g7 g8 (by omega)
  clear B q7 ha g1 g2 g3 g4 g5 g6 g7 g8 hk hch
  generalize hD : N.getD n nd0 = d at *
  clear hD
  have hV : (ndV d).toArray = #[.int .i64 20, .int .i64 d.a, .int .i64 d.b, .int .i64 d.c, .int .i64 d.next, .int .u64 d.n, sv d.s, .int .i64 d.p] := by unfold ndV; rw [hd]; rfl
  rw [hV] at HB0 HX0 HS0 HF
  clear hV hd
  have HC := HF.out _ _ HB0.out
  unfold fptr at HB0 HX0 HS0 HC ⊢
  go_enter Tryz.func165, Tryz.ntmps165
  go_wp2_with fail
  refine HC.mono ?_
  rintro e1 w1 ⟨rfl, o1, R1, S1⟩
  have HR1 : Hid (CRep w1 o1 C N _) := R1
  have HS1 : Hid (Stp QC w o w1 o1) := HS0.out.trans S1
  clear R1 S1 HC
  go_wp2_with fail
  go_end0
  exact ⟨rfl, o1, HR1.out, HS1.out⟩
/-- every expression -/
theorem expr_w (A : CA N k) (W : CW N C k) (hN : N.length ≤ 3000) {x : Nat} (h : Sh N 1 n lo a b x 0 0 false) (B : CB w o C N f L r a (17 * (n - lo)) (n - lo) c) (hk : 2 * n + 2 ≤ k + 1) : Calls Tryz.prog 165 #[fptr C.gF f, .int .i64 n] w (CQ w o C N (comN N (k + 1) 1 f n c)) := by
  obtain ⟨z1, z2, z3⟩ := h.out
  rcases z3 with ⟨_, z3⟩ | ⟨e, _⟩
  rotate_left
  · cases e
  rcases z3 with ⟨g, g1, rfl, g2⟩ | ⟨g, g1, rfl, g2, g3⟩ | ⟨g, g1, rfl, g2, g3⟩ | ⟨g, g1, rfl, g2, g3⟩ | ⟨g, g1, g2, b1, g3, g4⟩ | ⟨g, g1, l, h1, b1, g2, g3, g4, g5, g6⟩ | ⟨g, g1, g2, g3, l, h1, l2, h2, al2, g4, g5, g6, g7, g8, g9⟩ | ⟨g, g1, l, h1, g2, g3, g4⟩ | ⟨g, g1, g2, g3, b1, g4, g5⟩ | ⟨g, g1, g2, g3⟩ | ⟨g, g1, b1, g4, g5⟩
  · rcases g with g | g | g
    · exact ex_12 A W B z2 g z1
    · exact ex_13 A W B z2 g z1
    · exact ex_14 A W B z2 g z1
  · exact ex_15 A W B z2 g z1 g3
  · exact ex_16 A W B z2 g z1 g3
  · exact ex_17 A W B z2 g z1 g3
  · exact ex_18 A W B z2 g g2 g3 g4 hk
  · exact ex_19 A W B z2 g h hk
  · exact ex_20 A W B z2 g hN g2 g3 g4 g5 g6 g7 g8 g9 hk
  · exact ex_21 A W B z2 g g2 g3 g4 hN hk
  · exact ex_22 A W B z2 g g3 g4 g5 hk g2
  · exact ex_23 A W B z2 g g2 g3 hk
  · rcases g with g | g
    · exact ex_24 A W B z2 g g1 g4 g5 hk
    · exact ex_25 A W B z2 g g1 g4 g5 hk
end
end Go.Proofs.Qxb6500574aGreatDoor
