/-
  THE WALK of comp: call.
-/
import Derived.Test.Qxb6500574aGreatDoorWCm17
namespace Go.Proofs.Qxb6500574aGreatDoor
open Go Go.RowKit
set_option linter.unusedVariables false
set_option linter.unusedSimpArgs false
open Go.Lib
theorem q0c : ¬ QC 0 := by unfold QC; omega
/-- a node's copy in a block of its own -/
structure Bn (w : World) (o : Nat → Nat) (d : Nd) (b : Nat) : Prop where
  hd : Has w b (ndV d).toArray 134
  ld : o b = 0
section
variable {Q : Nat → Prop} {w w1 : World} {o o1 : Nat → Nat} {C : CC} {N : List Nd} {c : CmD} {f : Nat} {d : Nd} {b : Nat}
theorem Bn.st (h : Bn w o d b) (t : Stp Q w o w1 o1) (q0 : ¬ Q 0) : Bn w1 o1 d b := ⟨t.has h.hd (by rw [h.ld]; exact q0), (t.ext _ h.hd.lt).trans h.ld⟩
theorem Bn.read (h : Bn w o d b) : b < w.heap.size ∧ w.cell? ⟨b, 0, none⟩ = some (.int .i64 (d.k : Nat)) ∧ w.cell? ⟨b, 1, none⟩ = some (.int .i64 (d.a : Nat)) ∧ w.cell? ⟨b, 2, none⟩ = some (.int .i64 (d.b : Nat)) ∧ w.cell? ⟨b, 3, none⟩ = some (.int .i64 (d.c : Nat)) ∧ w.cell? ⟨b, 4, none⟩ = some (.int .i64 (d.next : Nat)) ∧ w.cell? ⟨b, 5, none⟩ = some (.int .u64 (d.n : Nat)) ∧ w.cell? ⟨b, 6, none⟩ = some (sv d.s) ∧ w.cell? ⟨b, 7, none⟩ = some (.int .i64 (d.p : Nat)) := by
  refine ⟨h.hd.lt, ?_, ?_, ?_, ?_, ?_, ?_, ?_, ?_⟩
  all_goals rw [h.hd.cell]; rfl
theorem Bn.new (R : CRep w o C N c) (d : Nd) : Bn (w.alloc (.cells (ndV d).toArray 134)) o d w.heap.size := ⟨Has.new _ _ _, R.ow _ (Nat.le_refl _)⟩
/-- a whole state moves with a step that does not touch it -/
theorem CB.st {L : List Bs} {r : En} {a p k : Nat} (h : CB w o C N f L r a p k c) (t : Stp Q w o w1 o1) (h0 : ¬ Q 0) (h2 : ¬ Q 1042) (hq : ∀ l, QC l → ¬ Q l) : CB w1 o1 C N f L r a p k c := ⟨h.R.st t h0 h2 hq, h.I, h.fa, h.np, h.pc, h.kc⟩
end
/-- arguments still to come: rem -/
def CaP (C : CC) (N : List Nd) (k f : Nat) (L : List Bs) (r : En) (h1 b : Nat) (d : Nd) (bk : Nat) (w0 : World) (o0 : Nat → Nat) (cE : CmD) (rem : List Nat) (w : World) : Prop :=
  ∃ o' a' lo' x' p' q' c', CB w o' C N f L r a' p' q' c' ∧ Bn w o' d bk ∧ Stp QC w0 o0 w o' ∧ SeqE (fun x lo a b w => Sh N 1 x lo a b w 0 0 false) 1 rem lo' h1 a' b x' ∧ 17 * (h1 - lo') + 17 ≤ p' ∧ h1 - lo' ≤ q' ∧ rem.foldl (fun c m => comN N k 1 f m c) c' = cE
section
set_option maxRecDepth 100000
set_option maxHeartbeats 1000000
variable {w : World} {o : Nat → Nat} {C : CC} {N : List Nd} {c : CmD} {f n k a b lo : Nat} {L : List Bs} {r : En}
theorem CaP.step (A : CA N k) (W : CW N C k) {h1 bk : Nat} {d : Nd} {w0 : World} {o0 : Nat → Nat} {cE : CmD} (hh : h1 < N.length) (hk : 2 * h1 + 2 ≤ k) (x : Nat) (rem : List Nat) (w : World) (h : CaP C N k f L r h1 b d bk w0 o0 cE (x :: rem) w) :
    x < N.length ∧ Calls Tryz.prog 165 #[fptr C.gF f, .int .i64 x] w fun e w' => e = .returned (.tuple #[]) ∧ CaP C N k f L r h1 b d bk w0 o0 cE rem w' := by
  obtain ⟨o', a', lo', x', p', q', c', B, D, S, ⟨b1, s1, s2⟩, hp, hq, he⟩ := h
  have i1 := s1.lt
  have i2 := (SeqE.in_ Sh.ltE s2).1
  refine ⟨by omega, ?_⟩
  refine (B.ex A W s1 (by omega) (by omega) (by omega)).mono ?_
  rintro e w2 ⟨rfl, o2, B2, S2⟩
  exact ⟨rfl, o2, b1, x, _, _, _, _, B2, D.st S2 q0c, S.trans S2, s2, by omega, by omega, he⟩
theorem call_w (A : CA N k) (W : CW N C k) (hN : N.length ≤ 3000) {x : Nat} (h : Sh N 1 n lo a b x 0 0 false) (hd : (N.getD n nd0).k = 19) (B : CB w o C N f L r a (17 * (n - lo)) (n - lo) c) (hk : 2 * n + 1 ≤ k + 1) :
    Calls Tryz.prog 167 #[fptr C.gF f, .int .i64 n] w (CQ w o C N (comN N (k + 1) 2 f n c)) := by
  obtain ⟨z1, hn, z3⟩ := h.out
  have hc : ∃ l h1 b1, n = h1 + 1 ∧ Sh N 1 (N.getD n nd0).a lo a b1 x 0 0 false ∧ Chain N (N.getD n nd0).b l ∧ l.length ≤ 3 ∧ SeqE (fun x lo a b w => Sh N 1 x lo a b w 0 0 false) 1 l (N.getD n nd0).a h1 b1 b (x - 1) := by
    rcases z3 with ⟨_, z3⟩ | ⟨e, _⟩
    · rcases z3 with g | g | g | g | g | g | g | g | g | g | g
      · omega
      · omega
      · omega
      · omega
      · omega
      · exact g.2.2
      · omega
      · omega
      · omega
      · omega
      · omega
    · cases e
  obtain ⟨l, h1, b1, g1, g2, g3, g4, g5⟩ := hc
  have i1 := g2.lt
  have i2 := (SeqE.in_ Sh.ltE g5).1
  have hch : nextL N N.length (N.getD n nd0).b = l := chain_eq g3 (by omega)
  have e : comN N (k + 1) 2 f n c = (l.foldl (fun c m => comN N k 1 f m c) (comN N k 1 f (N.getD n nd0).a c)).emit f [(26, l.length)] := by
    conv => lhs; unfold comN
    simp (config := {decide := true}) only [if_true, if_false]
    rw [hch, Nat.mod_eq_of_lt (by omega)]
  rw [e]
  obtain ⟨gg, ha, ⟨q1, q2, q3, q4, q5, q6, q7⟩⟩ := B.R.nd B.hf (by omega)
  have x0 := q7 n 0 hn (by omega)
  have x1 := q7 n 1 hn (by omega)
  have x2 := q7 n 2 hn (by omega)
  have x3 := q7 n 3 hn (by omega)
  have x4 := q7 n 4 hn (by omega)
  have x5 := q7 n 5 hn (by omega)
  have x6 := q7 n 6 hn (by omega)
  have x7 := q7 n 7 hn (by omega)
  simp only [ndV, List.getElem?_cons_succ, List.getElem?_cons_zero, Nat.add_zero] at x0 x1 x2 x3 x4 x5 x6 x7
  have HB0 : Hid (CB (w.alloc (.cells (ndV (N.getD n nd0)).toArray 134)) o C N f L r a (17 * (n - lo)) (n - lo) c) := B.alloc _
  have HX0 : Hid (Bn (w.alloc (.cells (ndV (N.getD n nd0)).toArray 134)) o (N.getD n nd0) w.heap.size) := Bn.new B.R _
  have HS0 : Hid (Stp QC w o (w.alloc (.cells (ndV (N.getD n nd0)).toArray 134)) o) := (Stp.refl _ _ _).alloc _
  have HG : Hid (lo < (N.getD n nd0).a ∧ (N.getD n nd0).a ≤ h1 ∧ n = h1 + 1 ∧ 2 * n + 1 ≤ k + 1 ∧ h1 < N.length) := ⟨i1, i2, g1, hk, by omega⟩
  have HG1 : Hid (Sh N 1 (N.getD n nd0).a lo a b1 x 0 0 false) := g2
  have HG2 : Hid (SeqE (fun x lo a b w => Sh N 1 x lo a b w 0 0 false) 1 l (N.getD n nd0).a h1 b1 b (x - 1)) := g5
  have HG3 : Hid (Chain N (N.getD n nd0).b l) := g3
  obtain ⟨m, HM⟩ : ∃ m : Nat, Hid (l.length = m) := ⟨_, rfl⟩
  rw [HM.out] at g4 ⊢
  clear B q7 ha g1 g2 g3 g5 hk i1 i2 h z1 z3 hch e hd
  generalize hD : N.getD n nd0 = d at *
  clear hD
  have hV : (ndV d).toArray = #[.int .i64 d.k, .int .i64 d.a, .int .i64 d.b, .int .i64 d.c, .int .i64 d.next, .int .u64 d.n, sv d.s, .int .i64 d.p] := rfl
  rw [hV] at HB0 HX0 HS0
  clear hV
  unfold fptr
  go_enter Tryz.func167, Tryz.ntmps167
  go_wp2_with fail
  refine (HB0.out.ex A W HG1.out (by have := HG.out; omega) (by have := HG.out; omega) (by have := HG.out; omega)).mono ?_
  rintro e1 w1 ⟨rfl, o1, B1, S1⟩
  have HX1 : Hid (Bn w1 o1 d w.heap.size) := HX0.out.st S1 q0c
  obtain ⟨r0, r1, r2, r3, r4, r5, r6, r7, r8⟩ := HX1.out.read
  have HS1 : Hid (Stp QC w o w1 o1) := HS0.out.trans S1
  have HE := each_expr (u1 := fptr C.gF f) (f := f) (w := w1) (CaP C N k f L r h1 b d w.heap.size w1 o1 (l.foldl (fun c m => comN N k 1 f m c) (comN N k 1 f d.a c))) (fun r w h => by obtain ⟨o', _, _, _, _, _, c', B, _⟩ := h; exact ⟨o', c', B.R, B.hf⟩) (CaP.step A W HG.out.2.2.2.2 (by have := HG.out; omega)) l d.b HG3.out (by have := HM.out; omega) ⟨o1, b1, d.a, x - 1, _, _, _, B1, HX1.out, Stp.refl _ _ _, HG2.out, by have := HG.out; omega, by have := HG.out; omega, rfl⟩
  rw [HM.out] at HE
  unfold fptr at HE
  clear B1 S1
  go_wp2_with fail
  refine HE.mono ?_
  rintro e2 w2 ⟨rfl, o2, a2, lo2, x2', p2, qq2, c2, B2, X2, S2, ⟨h2, h3⟩, h4, h5, h6⟩
  have HB2 : Hid (CB w2 o2 C N f L r a2 p2 qq2 c2) := B2
  have HX2 : Hid (Bn w2 o2 d w.heap.size) := X2
  have HS2 : Hid (Stp QC w o w2 o2) := HS1.out.trans S2
  have HP2 : Hid (1 ≤ p2) := by show _ ≤ _; omega
  have HC2 : Hid (c2 = l.foldl (fun c m => comN N k 1 f m c) (comN N k 1 f d.a c)) := h6
  clear r0 r1 r2 r3 r4 r5 r6 r7 r8
  obtain ⟨r0, r1, r2, r3, r4, r5, r6, r7, r8⟩ := HX2.out.read
  clear B2 X2 S2 h2 h3 h4 h5 h6 HE
  go_wp2_with fail
  refine (HB2.out.emitK (op := 26) (y := m) rfl rfl rfl HP2.out).mono ?_
  rintro e3 w3 ⟨rfl, o3, B3, S3⟩
  have HR3 : Hid (CRep w3 o3 C N _) := B3.R
  have HS3 : Hid (Stp QC w o w3 o3) := HS2.out.trans S3
  clear B3 S3
  go_wp2_with fail
  go_end0
  refine ⟨rfl, o3, ?_, HS3.out⟩
  rw [← HC2.out]
  exact HR3.out
end
end Go.Proofs.Qxb6500574aGreatDoor
