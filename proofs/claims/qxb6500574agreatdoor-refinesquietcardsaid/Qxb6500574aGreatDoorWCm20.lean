/-
  THE WALK of comp: expressions: tables (written by tools/gen_cm.py).
-/
import Derived.Test.Qxb6500574aGreatDoorWCm19
namespace Go.Proofs.Qxb6500574aGreatDoor
open Go Go.RowKit
set_option linter.unusedVariables false
set_option linter.unusedSimpArgs false
open Go.Lib
section
set_option maxRecDepth 100000
set_option maxHeartbeats 1000000
variable {w : World} {o : Nat → Nat} {C : CC} {N : List Nd} {c : CmD} {f n k a b lo : Nat} {L : List Bs} {r : En}
theorem com_tab (g : (N.getD n nd0).k = 21) {l : List Nat} (hch : nextL N N.length (N.getD n nd0).a = l) : comN N (k + 1) 1 f n c = (l.foldl (fun (x : CmD × Nat) m => ((comN N k 1 f m x.1).emit f [(13, (x.2 + 1) % 65536)], x.2 + 1)) (c.emit f [(14, 0)], 0)).1 := by
  conv => lhs; unfold comN
  simp (config := {decide := true}) only [if_true, if_false, g]
  rw [hch]
theorem ex_21 (A : CA N k) (W : CW N C k) (B : CB w o C N f L r a (17 * (n - lo)) (n - lo) c) (hn : n < N.length) (hd : (N.getD n nd0).k = 21) {x h1 : Nat} {l : List Nat} (g1 : n = h1 + 1) (g2 : Chain N (N.getD n nd0).a l) (g3 : SeqE (fun x lo a b w => Sh N 1 x lo a b w 0 0 false) 0 l lo h1 a b x) (hN : N.length ≤ 3000) (hk : 2 * n + 2 ≤ k + 1) :
    Calls Tryz.prog 165 #[fptr C.gF f, .int .i64 n] w (CQ w o C N (comN N (k + 1) 1 f n c)) := by
  have hs := SeqE.in_ Sh.ltE g3
  have hinc := Inc.len (SeqE.inc Sh.ltE g3) hs.1 (fun x hx => (hs.2 x hx).2)
  have hch : nextL N N.length (N.getD n nd0).a = l := chain_eq g2 (by omega)
  rw [com_tab hd hch]
  obtain ⟨gg, ha, ⟨q1, q2, q3, q4, q5, q6, q7⟩⟩ := B.R.nd B.hf (by omega)
  have x0 := q7 n 0 hn (by omega)
  have x1 := q7 n 1 hn (by omega)
  have x2 := q7 n 2 hn (by omega)
  have x3 := q7 n 3 hn (by omega)
  have x4 := q7 n 4 hn (by omega)
  have x5 := q7 n 5 hn (by omega)
  have x6 := q7 n 6 hn (by omega)
  have x7 := q7 n 7 hn (by omega)
  simp only [ndV, List.getElem?_cons_succ, List.getElem?_cons_zero, Nat.add_zero] at x0 x1 x2 x3 x4 x5 x6 x7
  have HB0 : Hid (CB ((w.alloc (.cells #[fptr C.gF f] 94)).alloc (.cells (ndV (N.getD n nd0)).toArray 134)) o C N f L r a (17 * (n - lo)) (n - lo) c) := (B.alloc _).alloc _
  have HX0 : Hid (Bx ((w.alloc (.cells #[fptr C.gF f] 94)).alloc (.cells (ndV (N.getD n nd0)).toArray 134)) o C f (N.getD n nd0) w.heap.size) := Bx.new B.R _
  have HS0 : Hid (Stp QC w o ((w.alloc (.cells #[fptr C.gF f] 94)).alloc (.cells (ndV (N.getD n nd0)).toArray 134)) o) := ((Stp.refl _ _ _).alloc _).alloc _
  rw [hd] at x0
  have HG : Hid (lo ≤ h1 ∧ n = h1 + 1 ∧ 2 * n + 2 ≤ k + 1 ∧ h1 < N.length ∧ l.length ≤ 3000) := ⟨hs.1, g1, hk, by omega, by omega⟩
  have HG1 : Hid (SeqE (fun x lo a b w => Sh N 1 x lo a b w 0 0 false) 0 l lo h1 a b x) := g3
  have HG2 : Hid (Chain N (N.getD n nd0).a l) := g2
  clear B q7 ha g1 g2 g3 hk hs hinc hch
  generalize hD : N.getD n nd0 = d at *
  clear hD
  have hV : (ndV d).toArray = #[.int .i64 21, .int .i64 d.a, .int .i64 d.b, .int .i64 d.c, .int .i64 d.next, .int .u64 d.n, sv d.s, .int .i64 d.p] := by unfold ndV; rw [hd]; rfl
  rw [hV] at HB0 HX0 HS0
  clear hV hd
  unfold fptr at HB0 HX0 HS0 ⊢
  go_enter Tryz.func165, Tryz.ntmps165
  go_wp2_with fail
  refine (HB0.out.emitK (kb := w.heap.size + 1 + 1) (op := 14) (y := 0) rfl rfl (by simp) (by have := HG.out; omega)).mono ?_
  rintro e1 w1 ⟨rfl, o1, B1, S1⟩
  have HX1 : Hid (Bx w1 o1 C f d w.heap.size) := HX0.out.st S1
  obtain ⟨r0, r1, r2, r3, r4, r5, r6, r7, r8, r9, r10⟩ := HX1.out.read
  have HB1 : Hid (CB w1 o1 C N f L r a _ _ _) := B1
  have HS1 : Hid (Stp QC w o w1 o1) := HS0.out.trans S1
  clear B1 S1
  have sL : Stp (fun _ => False) w1 o1 (w1.alloc (.cells #[.int .u16 0] 103)) (upd o1 w1.heap.size 1) := Stp.label _ _ _
  have HB2 : Hid (CB (w1.alloc (.cells #[.int .u16 0] 103)) (upd o1 w1.heap.size 1) C N f L r a _ _ _) := HB1.out.st sL (fun x => x) (fun x => x) (fun _ _ x => x)
  have HX2 : Hid (Bx (w1.alloc (.cells #[.int .u16 0] 103)) (upd o1 w1.heap.size 1) C f d w.heap.size) := HX1.out.stQ sL (fun x => x)
  have HS2 : Hid (Stp QC w o (w1.alloc (.cells #[.int .u16 0] 103)) (upd o1 w1.heap.size 1)) := HS1.out.trans (sL.weaken (fun _ x => x.elim))
  have HI2 : Hid (Has (w1.alloc (.cells #[.int .u16 0] 103)) w1.heap.size #[.int .u16 ((0 : Nat) : Int)] 103) := Has.new _ _ _
  have HH : Hid (w.heap.size ≤ w1.heap.size) := HS1.out.fr.size
  have HE := each_item (u1 := .pointer (some ⟨w1.heap.size, 0, none⟩)) (u2 := .pointer (some ⟨w.heap.size, 0, none⟩)) (f := f) (w := w1.alloc (.cells #[.int .u16 0] 103)) (ItP C N k f L r h1 b d w.heap.size w1.heap.size w o (l.foldl (fun (x : CmD × Nat) m => ((comN N k 1 f m x.1).emit f [(13, (x.2 + 1) % 65536)], x.2 + 1)) (c.emit f [(14, 0)], 0)).1) (fun r w h => by obtain ⟨o', _, _, _, _, _, c', _, B, _⟩ := h; exact ⟨o', c', B.R, B.hf⟩) (ItP.step A W HG.out.2.2.2.1 (by have := HG.out; omega) HH.out) l d.a HG2.out HG.out.2.2.2.2 ⟨_, a, lo, x, _, _, _, 0, HB2.out, HX2.out, HI2.out, upd_self _ _ _, HS2.out, HG1.out, by have := HG.out; omega, by have := HG.out; omega, by have := HG.out; omega, rfl⟩
  unfold fptr at HE
  clear sL
  go_wp2_with fail
  refine HE.mono ?_
  rintro e3 w3 ⟨rfl, o3, a3, lo3, x3', p3, q3', c3, i3, B3, X3, I3, l3, S3, ⟨h2, h3⟩, h4, h5, h6, h7⟩
  have HR3 : Hid (CRep w3 o3 C N c3) := B3.R
  have HS3 : Hid (Stp QC w o w3 o3) := S3
  have HC3 : Hid (c3 = (l.foldl (fun (x : CmD × Nat) m => ((comN N k 1 f m x.1).emit f [(13, (x.2 + 1) % 65536)], x.2 + 1)) (c.emit f [(14, 0)], 0)).1) := h7
  clear B3 X3 I3 l3 S3 h2 h3 h4 h5 h6 h7 HE
  go_wp2_with fail
  go_end0
  refine ⟨rfl, o3, ?_, HS3.out⟩
  rw [← HC3.out]
  exact HR3.out
end
end Go.Proofs.Qxb6500574aGreatDoor
