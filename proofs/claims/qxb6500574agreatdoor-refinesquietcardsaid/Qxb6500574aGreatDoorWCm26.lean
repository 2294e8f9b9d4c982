/-
  THE WALK of comp: if (written by tools/gen_st.py).
-/
import Derived.Test.Qxb6500574aGreatDoorWCm25
namespace Go.Proofs.Qxb6500574aGreatDoor
open Go Go.RowKit
set_option linter.unusedVariables false
set_option linter.unusedSimpArgs false
open Go.Lib
section
set_option maxRecDepth 100000
set_option maxHeartbeats 1000000
variable {w : World} {o : Nat → Nat} {C : CC} {N : List Nd} {c : CmD} {f n k a b lo : Nat} {L : List Bs} {r : En}
theorem CB.exL {p q x : Nat} (h : CB w o C N f L r a p q c) (A : CA N k) (hs : Sh N 1 n lo a b x 0 0 false) (hp : 17 * (n - lo) ≤ p) (hq : n - lo ≤ q) (hk : 2 * n + 2 ≤ k) : ((comN N k 1 f n c).fn f).loops = (c.fn f).loops ∧ (c.fn f).code.length ≤ ((comN N k 1 f n c).fn f).code.length := by
  obtain ⟨seg, kc, _, _, e, l, _⟩ := h.exP A hs hp hq hk
  exact ⟨l, by rw [e, List.length_append]; omega⟩
theorem CB.blL {p q hi : Nat} (h : CB w o C N f L r a p q c) (A : CA N k) {l : List Nat} {al' lb : Nat} {lp : Bool} (hc : Chain N n l) (hs : SeqS (fun x lo a b al al' => Sh N 0 x lo a b 120 al al' lp) l lo hi a b L.length al') (hN : hi < N.length) (hL : LpI lp lb L (c.fn f).loops) (hp : 17 * (hi - lo) + 1 ≤ p) (hq : hi - lo ≤ q) (hk : 2 * hi + 3 ≤ k) :
    ∃ hs : List Nat, ((comN N k 3 f n c).fn f).loops = addB (c.fn f).loops hs ∧ (c.fn f).code.length ≤ ((comN N k 3 f n c).fn f).code.length ∧ (∀ q ∈ hs, q < ((comN N k 3 f n c).fn f).code.length) ∧ (hs.length ≤ 65000 ∧ hs.length ≤ 17 * (hi - lo) + 1) := by
  have hpc := h.pc
  obtain ⟨seg, kc, _, _, e, l, hl⟩ := h.blP A hc hs hN hL hp hq hk
  refine ⟨_, l, by rw [e, List.length_append]; omega, fun q hq => ?_, ?_⟩
  · have := (holes_in hq).2
    rw [e, List.length_append]
    exact this
  · have := holes_len seg (c.fn f).code.length
    omega
theorem jump_loops (I : Inv c ((f, L) :: r)) (op : Nat) : ((c.jump f op).fn f).loops = (c.fn f).loops := (emit_code I _).2
theorem land_len (I : Inv c ((f, L) :: r)) (p : Nat) : ((c.land f p).fn f).code.length = (c.fn f).code.length ∧ ((c.land f p).fn f).loops = (c.fn f).loops := ⟨by rw [(land_code I p).1, landL_len], (land_code I p).2⟩
/-- how long the code and the locals are, as memory shows it -/
theorem CB.lens {p q : Nat} (h : CB w o C N f L r a p q c) : C.gF < w.heap.size ∧ (∃ s : Sl, w.cell? ⟨C.gF, f * 11 + 9, none⟩ = some (.slice s.a ((c.fn f).code.length : Nat) s.c)) ∧ ∃ s : Sl, w.cell? ⟨C.gF, f * 11 + 3, none⟩ = some (.slice s.a (L.length : Nat) s.c) := by
  obtain ⟨xs, FL, F⟩ := h.R.fn h.hf
  have c9 := F.cell 9 (by omega)
  have c3 := F.cell 3 (by omega)
  simp only [fnV, List.getElem?_cons_succ, List.getElem?_cons_zero, Sl.v] at c9 c3
  rw [h.I.loc] at c3
  exact ⟨F.lt, ⟨_, c9⟩, ⟨_, c3⟩⟩
theorem test_w (A : CA N k) (W : CW N C k) (B : CB w o C N f L r a (17 * (n - lo)) (n - lo) c) (hn : n < N.length) (hd : (N.getD n nd0).k = 6) {b1 h1 b2 h2 x1 x2 lb : Nat} {lp : Bool} {l l2 : List Nat} (hl : LpI lp lb L (c.fn f).loops) (hll : LpB lo (c.fn f).loops) (g2 : n = h2 + 1) (g3 : Sh N 1 (N.getD n nd0).a lo a b1 120 0 0 false) (g4 : Chain N (N.getD n nd0).b l) (g5 : SeqS (fun x lo a b al al' => Sh N 0 x lo a b 120 al al' lp) l (N.getD n nd0).a h1 b1 b2 L.length x1) (g6 : Chain N (N.getD n nd0).c l2) (g7 : SeqS (fun x lo a b al al' => Sh N 0 x lo a b 120 al al' lp) l2 h1 h2 b2 b L.length x2) (hk : 2 * n + 2 ≤ k + 1) :
    Calls Tryz.prog 170 #[fptr C.gF f, .agg (ndV (N.getD n nd0)).toArray] w (CQ w o C N (comN N (k + 1) 0 f n c)) := by
  rw [com_s6 hd]
  have HB0 : Hid (CB (w.alloc (.cells (ndV (N.getD n nd0)).toArray 134)) o C N f L r a (17 * (n - lo)) (n - lo) c) := B.alloc _
  have HX0 : Hid (Bn (w.alloc (.cells (ndV (N.getD n nd0)).toArray 134)) o (N.getD n nd0) w.heap.size) := Bn.new B.R _
  have HS0 : Hid (Stp QC w o (w.alloc (.cells (ndV (N.getD n nd0)).toArray 134)) o) := (Stp.refl _ _ _).alloc _
  have HG : Hid (lo < (N.getD n nd0).a ∧ (N.getD n nd0).a ≤ h1 ∧ h1 ≤ h2 ∧ n = h2 + 1 ∧ 2 * n + 2 ≤ k + 1 ∧ n < N.length ∧ (c.fn f).loops.length ≤ lo) := ⟨g3.lt, (SeqS.in_ Sh.ltS g5).1, (SeqS.in_ Sh.ltS g7).1, g2, hk, hn, hll.n⟩
  have HLB : Hid (LpB lo (c.fn f).loops) := hll
  have HG1 : Hid (Sh N 1 (N.getD n nd0).a lo a b1 120 0 0 false) := g3
  have HC1 : Hid (Chain N (N.getD n nd0).b l) := g4
  have HQ1 : Hid (SeqS (fun x lo a b al al' => Sh N 0 x lo a b 120 al al' lp) l (N.getD n nd0).a h1 b1 b2 L.length x1) := g5
  have HC2 : Hid (Chain N (N.getD n nd0).c l2) := g6
  have HQ2 : Hid (SeqS (fun x lo a b al al' => Sh N 0 x lo a b 120 al al' lp) l2 h1 h2 b2 b L.length x2) := g7
  have HLI : Hid (LpI lp lb L (c.fn f).loops) := hl
  clear B hl hll g2 g3 g4 g5 g6 g7 hk hn
  generalize hD : N.getD n nd0 = d at *
  clear hD
  have hV : (ndV d).toArray = #[.int .i64 d.k, .int .i64 d.a, .int .i64 d.b, .int .i64 d.c, .int .i64 d.next, .int .u64 d.n, sv d.s, .int .i64 d.p] := rfl
  rw [hV] at HB0 HX0 HS0 ⊢
  clear hV hd
  unfold fptr
  go_enter Tryz.func170, Tryz.ntmps170
  have HE1 : Hid (_ ∧ _) := HB0.out.exL A HG1.out (by have := HG.out; omega) (by have := HG.out; omega) (by have := HG.out; omega)
  go_wp2_with fail
  refine (HB0.out.ex A W HG1.out (by have := HG.out; omega) (by have := HG.out; omega) (by have := HG.out; omega)).mono ?_
  rintro e1 w1 ⟨rfl, o1, B1, S1⟩
  have HX1 : Hid (Bn w1 o1 d w.heap.size) := HX0.out.st S1 q0c
  obtain ⟨r0, r1, r2, r3, r4, r5, r6, r7, r8⟩ := HX1.out.read
  have HB1 : Hid (CB w1 o1 C N f L r b1 _ _ _) := B1
  have HS1 : Hid (Stp QC w o w1 o1) := HS0.out.trans S1
  clear B1 S1
  have HJ1 : Hid (_ = _) := jump_len HB1.out.I 22
  have HL1 : Hid (_ = _) := (jump_loops HB1.out.I 22).trans HE1.out.1
  go_wp2_with fail
  refine (HB1.out.jump 22 (by have := HG.out; omega)).mono ?_
  rintro e2 w2 ⟨PAa, PAb, o2, rfl, B2, S2, P2⟩
  have HX2 : Hid (Bn w2 o2 d w.heap.size) := HX1.out.st S2 q0c
  clear r0 r1 r2 r3 r4 r5 r6 r7 r8
  obtain ⟨r0, r1, r2, r3, r4, r5, r6, r7, r8⟩ := HX2.out.read
  have HB2 : Hid (CB w2 o2 C N f L r b1 _ _ _) := B2
  have HS2 : Hid (Stp QC w o w2 o2) := HS1.out.trans S2
  unfold patV
  have PA2 : Hid (Pat w2 o2 C.gF f (PAa, PAb) _) := P2
  clear P2
  clear B2 S2
  obtain ⟨hs3, hl3⟩ := HB2.out.blL A (lb := lb) (lp := lp) HC1.out HQ1.out (by have := HG.out; omega) (by rw [HL1.out]; exact HLI.out) (by have := HG.out; omega) (by have := HG.out; omega) (by have := HG.out; omega)
  have HL3 : Hid (_ ∧ _ ∧ _ ∧ _) := hl3
  clear hl3
  go_wp2_with fail
  refine (HB2.out.bl A W (lb := lb) (lp := lp) HC1.out HQ1.out (by have := HG.out; omega) (by rw [HL1.out]; exact HLI.out) (by rw [HL1.out]; exact HLB.out.le (by have := HG.out; omega)) (by have := HG.out; omega) (by have := HG.out; omega) (by have := HG.out; omega)).mono ?_
  rintro e3 w3 ⟨rfl, o3, B3, S3⟩
  have HX3 : Hid (Bn w3 o3 d w.heap.size) := HX2.out.st S3 q0c
  clear r0 r1 r2 r3 r4 r5 r6 r7 r8
  obtain ⟨r0, r1, r2, r3, r4, r5, r6, r7, r8⟩ := HX3.out.read
  have HB3 : Hid (CB w3 o3 C N f L r b2 _ _ _) := B3
  have HS3 : Hid (Stp QC w o w3 o3) := HS2.out.trans S3
  have PA3 : Hid (Pat w3 o3 C.gF f (PAa, PAb) _) := PA2.out.st S3 q0c
  clear B3 S3
  have HJ3 : Hid (_ = _) := jump_len HB3.out.I 21
  have HM3 : Hid (_ = _) := jump_loops HB3.out.I 21
  go_wp2_with fail
  refine (HB3.out.jump 21 (by have := HG.out; omega)).mono ?_
  rintro e4 w4 ⟨PBa, PBb, o4, rfl, B4, S4, P4⟩
  have HX4 : Hid (Bn w4 o4 d w.heap.size) := HX3.out.st S4 q0c
  clear r0 r1 r2 r3 r4 r5 r6 r7 r8
  obtain ⟨r0, r1, r2, r3, r4, r5, r6, r7, r8⟩ := HX4.out.read
  have HB4 : Hid (CB w4 o4 C N f L r b2 _ _ _) := B4
  have HS4 : Hid (Stp QC w o w4 o4) := HS3.out.trans S4
  unfold patV
  have PB4 : Hid (Pat w4 o4 C.gF f (PBa, PBb) _) := P4
  have PA4 : Hid (Pat w4 o4 C.gF f (PAa, PAb) _) := PA3.out.st S4 q0c
  clear P4
  clear B4 S4
  have HN4 : Hid (_ ∧ _) := land_len HB4.out.I (((comN N k 1 f d.a c).fn f).code.length)
  go_wp2_with fail
  refine (HB4.out.land PA4.out (by have h1 := HJ1.out; have h2 := HL3.out.2.1; have h3 := HJ3.out; omega)).mono ?_
  rintro e5 w5 ⟨rfl, o5, B5, S5⟩
  have HX5 : Hid (Bn w5 o5 d w.heap.size) := HX4.out.st S5 q0c
  clear r0 r1 r2 r3 r4 r5 r6 r7 r8
  obtain ⟨r0, r1, r2, r3, r4, r5, r6, r7, r8⟩ := HX5.out.read
  have HB5 : Hid (CB w5 o5 C N f L r b2 _ _ _) := B5
  have HS5 : Hid (Stp QC w o w5 o5) := HS4.out.trans S5
  have PB5 : Hid (Pat w5 o5 C.gF f (PBa, PBb) _) := PB4.out.st S5 q0c
  clear B5 S5
  obtain ⟨hs6, hl6⟩ := HB5.out.blL A (lb := lb) (lp := lp) HC2.out HQ2.out (by have := HG.out; omega) (by rw [HN4.out.2, HM3.out, HL3.out.1, HL1.out]; exact HLI.out.add (List.prefix_refl _) _) (by have := HG.out; omega) (by have := HG.out; omega) (by have := HG.out; omega)
  have HL6 : Hid (_ ∧ _ ∧ _ ∧ _) := hl6
  clear hl6
  go_wp2_with fail
  refine (HB5.out.bl A W (lb := lb) (lp := lp) HC2.out HQ2.out (by have := HG.out; omega) (by rw [HN4.out.2, HM3.out, HL3.out.1, HL1.out]; exact HLI.out.add (List.prefix_refl _) _) (by rw [HN4.out.2, HM3.out, HL3.out.1, HL1.out]; exact HLB.out.add (by have := HG.out; omega) (by have := HG.out; have := HL3.out.2.2.2.2; omega)) (by have := HG.out; omega) (by have := HG.out; omega) (by have := HG.out; omega)).mono ?_
  rintro e6 w6 ⟨rfl, o6, B6, S6⟩
  have HX6 : Hid (Bn w6 o6 d w.heap.size) := HX5.out.st S6 q0c
  clear r0 r1 r2 r3 r4 r5 r6 r7 r8
  obtain ⟨r0, r1, r2, r3, r4, r5, r6, r7, r8⟩ := HX6.out.read
  have HB6 : Hid (CB w6 o6 C N f L r b _ _ _) := B6
  have HS6 : Hid (Stp QC w o w6 o6) := HS5.out.trans S6
  have PB6 : Hid (Pat w6 o6 C.gF f (PBa, PBb) _) := PB5.out.st S6 q0c
  clear B6 S6
  go_wp2_with fail
  refine (HB6.out.land PB6.out (by have h1 := HN4.out.1; have h2 := HL6.out.2.1; have h3 := HJ3.out; omega)).mono ?_
  rintro e7 w7 ⟨rfl, o7, B7, S7⟩
  have HX7 : Hid (Bn w7 o7 d w.heap.size) := HX6.out.st S7 q0c
  clear r0 r1 r2 r3 r4 r5 r6 r7 r8
  obtain ⟨r0, r1, r2, r3, r4, r5, r6, r7, r8⟩ := HX7.out.read
  have HB7 : Hid (CB w7 o7 C N f L r b _ _ _) := B7
  have HS7 : Hid (Stp QC w o w7 o7) := HS6.out.trans S7
  clear B7 S7
  go_wp2_with fail
  go_end0
  exact ⟨rfl, o7, HB7.out.R, HS7.out⟩
end
end Go.Proofs.Qxb6500574aGreatDoor
