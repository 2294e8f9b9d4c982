/-
  THE WALK of comp: while (written by tools/gen_st.py).
-/
import Derived.Test.Qxb6500574aGreatDoorWCm26
namespace Go.Proofs.Qxb6500574aGreatDoor
open Go Go.RowKit
set_option linter.unusedVariables false
set_option linter.unusedSimpArgs false
open Go.Lib
section
set_option maxRecDepth 100000
set_option maxHeartbeats 1000000
variable {w : World} {o : Nat → Nat} {C : CC} {N : List Nd} {c : CmD} {f n k a b lo : Nat} {L : List Bs} {r : En}
theorem emit_len (I : Inv c ((f, L) :: r)) (l : List In) : ((c.emit f l).fn f).code.length = (c.fn f).code.length + l.length ∧ ((c.emit f l).fn f).loops = (c.fn f).loops := ⟨by rw [(emit_code I l).1, List.length_append], (emit_code I l).2⟩
theorem while_w (A : CA N k) (W : CW N C k) (B : CB w o C N f L r a (17 * (n - lo)) (n - lo) c) (hn : n < N.length) (hd : (N.getD n nd0).k = 7) (hN : N.length ≤ 1000) {b1 h1 x1 : Nat} {l : List Nat} (hll : LpB lo (c.fn f).loops) (g2 : n = h1 + 1) (g3 : Sh N 1 (N.getD n nd0).a lo a b1 120 0 0 false) (g4 : Chain N (N.getD n nd0).b l) (g5 : SeqS (fun x lo a b al al' => Sh N 0 x lo a b 120 al al' true) l (N.getD n nd0).a h1 b1 b L.length x1) (hk : 2 * n + 2 ≤ k + 1) :
    Calls Tryz.prog 171 #[fptr C.gF f, .agg (ndV (N.getD n nd0)).toArray] w (CQ w o C N (comN N (k + 1) 0 f n c)) := by
  rw [com_s7 hd, B.I.loc, show c.here f = (c.fn f).code.length from rfl, Nat.mod_eq_of_lt (by have := B.pc; omega : (c.fn f).code.length < 65536)]
  have HB0 : Hid (CB (w.alloc (.cells (ndV (N.getD n nd0)).toArray 134)) o C N f L r a (17 * (n - lo)) (n - lo) c) := B.alloc _
  have HX0 : Hid (Bn (w.alloc (.cells (ndV (N.getD n nd0)).toArray 134)) o (N.getD n nd0) w.heap.size) := Bn.new B.R _
  have HS0 : Hid (Stp QC w o (w.alloc (.cells (ndV (N.getD n nd0)).toArray 134)) o) := (Stp.refl _ _ _).alloc _
  have HG : Hid (lo < (N.getD n nd0).a ∧ (N.getD n nd0).a ≤ h1 ∧ n = h1 + 1 ∧ 2 * n + 2 ≤ k + 1 ∧ n < N.length ∧ (c.fn f).loops.length ≤ lo ∧ N.length ≤ 1000) := ⟨g3.lt, (SeqS.in_ Sh.ltS g5).1, g2, hk, hn, hll.n, hN⟩
  have HLB : Hid (LpB lo (c.fn f).loops) := hll
  have HG1 : Hid (Sh N 1 (N.getD n nd0).a lo a b1 120 0 0 false) := g3
  have HC1 : Hid (Chain N (N.getD n nd0).b l) := g4
  have HQ1 : Hid (SeqS (fun x lo a b al al' => Sh N 0 x lo a b 120 al al' true) l (N.getD n nd0).a h1 b1 b L.length x1) := g5
  have tle : (c.fn f).code.length ≤ 65000 := by have := B.pc; omega
  have mle := B.I.l12
  obtain ⟨ul, ⟨us, uc⟩, _⟩ := B.lens
  obtain ⟨t, HT⟩ : ∃ t : Nat, Hid ((c.fn f).code.length = t) := ⟨_, rfl⟩
  obtain ⟨m, HM⟩ : ∃ m : Nat, Hid (L.length = m) := ⟨_, rfl⟩
  rw [HT.out] at tle uc ⊢
  rw [HM.out] at mle ⊢
  clear B hll g2 g3 g4 g5 hk hn hN
  generalize hD : N.getD n nd0 = d at *
  clear hD
  have hV : (ndV d).toArray = #[.int .i64 d.k, .int .i64 d.a, .int .i64 d.b, .int .i64 d.c, .int .i64 d.next, .int .u64 d.n, sv d.s, .int .i64 d.p] := rfl
  rw [hV] at HB0 HX0 HS0 ⊢
  clear hV hd
  unfold fptr
  go_enter Tryz.func171, Tryz.ntmps171
  have HE1 : Hid (_ ∧ _) := HB0.out.exL A HG1.out (by have := HG.out; omega) (by have := HG.out; omega) (by have := HG.out; omega)
  go_wp2_with fail
  refine (HB0.out.ex A W HG1.out (by have := HG.out; omega) (by have := HG.out; omega) (by have := HG.out; omega)).mono ?_
  rintro e1 w1 ⟨rfl, o1, B1, S1⟩
  have HX1 : Hid (Bn w1 o1 d w.heap.size) := HX0.out.st S1 q0c
  obtain ⟨r0, r1, r2, r3, r4, r5, r6, r7, r8⟩ := HX1.out.read
  have HB1 : Hid (CB w1 o1 C N f L r b1 _ _ _) := B1
  have HS1 : Hid (Stp QC w o w1 o1) := HS0.out.trans S1
  clear B1 S1
  have HJ1 : Hid (_ = _) := jump_len HB1.out.I 22
  have HL1 : Hid (_ = _) := (jump_loops HB1.out.I 22).trans HE1.out.1
  go_wp2_with fail
  refine (HB1.out.jump 22 (by have := HG.out; omega)).mono ?_
  rintro e2 w2 ⟨PAa, PAb, o2, rfl, B2, S2, P2⟩
  have HX2 : Hid (Bn w2 o2 d w.heap.size) := HX1.out.st S2 q0c
  clear r0 r1 r2 r3 r4 r5 r6 r7 r8
  obtain ⟨r0, r1, r2, r3, r4, r5, r6, r7, r8⟩ := HX2.out.read
  have HB2 : Hid (CB w2 o2 C N f L r b1 _ _ _) := B2
  have HS2 : Hid (Stp QC w o w2 o2) := HS1.out.trans S2
  unfold patV
  have PA2 : Hid (Pat w2 o2 C.gF f (PAa, PAb) _) := P2
  clear P2
  clear B2 S2
  obtain ⟨u2l, ⟨u2s, u2c⟩, ⟨u2t, u2d⟩⟩ := HB2.out.lens
  rw [HM.out] at u2d
  clear u2c
  have HO2 : Hid (_ ∧ _) := open_code HB2.out.I m
  go_wp2_with fail
  refine (HB2.out.open m (by have := HG.out; rw [HL1.out]; omega)).mono ?_
  rintro e3 w3 ⟨rfl, o3, B3, S3⟩
  have HX3 : Hid (Bn w3 o3 d w.heap.size) := HX2.out.st S3 q0c
  clear r0 r1 r2 r3 r4 r5 r6 r7 r8
  obtain ⟨r0, r1, r2, r3, r4, r5, r6, r7, r8⟩ := HX3.out.read
  have HB3 : Hid (CB w3 o3 C N f L r b1 _ _ _) := B3
  have HS3 : Hid (Stp QC w o w3 o3) := HS2.out.trans S3
  have PA3 : Hid (Pat w3 o3 C.gF f (PAa, PAb) _) := PA2.out.st S3 q0c
  clear B3 S3
  clear u2l u2d
  obtain ⟨hs4, hl4⟩ := HB3.out.blL A (lb := m) (lp := true) HC1.out HQ1.out (by have := HG.out; omega) (fun _ => ⟨by rw [HM.out]; exact Nat.le_refl _, _, _, HO2.out.2⟩) (by have := HG.out; omega) (by have := HG.out; omega) (by have := HG.out; omega)
  have HL4 : Hid (_ ∧ _ ∧ _ ∧ _) := hl4
  clear hl4
  go_wp2_with fail
  refine (HB3.out.bl A W (lb := m) (lp := true) HC1.out HQ1.out (by have := HG.out; omega) (fun _ => ⟨by rw [HM.out]; exact Nat.le_refl _, _, _, HO2.out.2⟩) (by rw [HO2.out.2, HL1.out]; exact HLB.out.open (by have := HG.out; omega)) (by have := HG.out; omega) (by have := HG.out; omega) (by have := HG.out; omega)).mono ?_
  rintro e4 w4 ⟨rfl, o4, B4, S4⟩
  have HX4 : Hid (Bn w4 o4 d w.heap.size) := HX3.out.st S4 q0c
  clear r0 r1 r2 r3 r4 r5 r6 r7 r8
  obtain ⟨r0, r1, r2, r3, r4, r5, r6, r7, r8⟩ := HX4.out.read
  have HB4 : Hid (CB w4 o4 C N f L r b _ _ _) := B4
  have HS4 : Hid (Stp QC w o w4 o4) := HS3.out.trans S4
  have PA4 : Hid (Pat w4 o4 C.gF f (PAa, PAb) _) := PA3.out.st S4 q0c
  clear B4 S4
  have HE4 : Hid (_ ∧ _) := emit_len HB4.out.I [(21, t)]
  go_wp2_with fail
  refine (HB4.out.emitK (op := 21) (y := t) rfl rfl rfl (by have := HG.out; omega)).mono ?_
  rintro e5 w5 ⟨rfl, o5, B5, S5⟩
  have HX5 : Hid (Bn w5 o5 d w.heap.size) := HX4.out.st S5 q0c
  clear r0 r1 r2 r3 r4 r5 r6 r7 r8
  obtain ⟨r0, r1, r2, r3, r4, r5, r6, r7, r8⟩ := HX5.out.read
  have HB5 : Hid (CB w5 o5 C N f L r b _ _ _) := B5
  have HS5 : Hid (Stp QC w o w5 o5) := HS4.out.trans S5
  have PA5 : Hid (Pat w5 o5 C.gF f (PAa, PAb) _) := PA4.out.st S5 q0c
  clear B5 S5
  have HN5 : Hid (_ ∧ _) := land_len HB5.out.I (((comN N k 1 f d.a c).fn f).code.length)
  have HK5 : Hid (((comN N k 1 f d.a c).fn f).code.length < _) := (by have h1 := HJ1.out; have h2 := HL4.out.2.1; have h3 := HE4.out.1; have h4 := HO2.out.1; rw [h4] at h2; simp only [List.length_cons, List.length_nil] at h3; exact (by omega : ((comN N k 1 f d.a c).fn f).code.length < (((comN N k 3 f d.b (((comN N k 1 f d.a c).jump f 22).open_ f m)).emit f [(21, t)]).fn f).code.length))
  go_wp2_with fail
  refine (HB5.out.land PA5.out HK5.out).mono ?_
  rintro e6 w6 ⟨rfl, o6, B6, S6⟩
  have HX6 : Hid (Bn w6 o6 d w.heap.size) := HX5.out.st S6 q0c
  clear r0 r1 r2 r3 r4 r5 r6 r7 r8
  obtain ⟨r0, r1, r2, r3, r4, r5, r6, r7, r8⟩ := HX6.out.read
  have HB6 : Hid (CB w6 o6 C N f L r b _ _ _) := B6
  have HS6 : Hid (Stp QC w o w6 o6) := HS5.out.trans S6
  clear B6 S6
  have HEQ : Hid (_ = _ ++ [_]) := (by rw [HN5.out.2, HE4.out.2, HL4.out.1, HO2.out.2, HL1.out, addB_snoc] : ((((comN N k 3 f d.b (((comN N k 1 f d.a c).jump f 22).open_ f m)).emit f [(21, t)]).land f (((comN N k 1 f d.a c).fn f).code.length)).fn f).loops = (c.fn f).loops ++ [⟨m, [] ++ hs4⟩])
  go_wp2_with fail
  refine (HB6.out.shut HEQ.out (fun q hq => by have h1 := HL4.out.2.2.1 q (by simpa using hq); have h2 := HE4.out.1; have h3 := HN5.out.1; rw [h3, h2]; omega) (by have := HG.out; omega) (by have := HL4.out.2.2.2.1; simp; omega)).mono ?_
  rintro e7 w7 ⟨rfl, o7, B7, S7⟩
  have HX7 : Hid (Bn w7 o7 d w.heap.size) := HX6.out.st S7 q0c
  clear r0 r1 r2 r3 r4 r5 r6 r7 r8
  obtain ⟨r0, r1, r2, r3, r4, r5, r6, r7, r8⟩ := HX7.out.read
  have HB7 : Hid (CB w7 o7 C N f L r b _ _ _) := B7
  have HS7 : Hid (Stp QC w o w7 o7) := HS6.out.trans S7
  clear B7 S7
  go_wp2_with fail
  go_end0
  exact ⟨rfl, o7, HB7.out.R, HS7.out⟩
end
end Go.Proofs.Qxb6500574aGreatDoor
