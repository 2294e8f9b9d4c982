/-
  THE WALK of vm: loop: call without fuel.
-/
import Derived.Test.Qxb6500574aGreatDoorVLoop7
namespace Go.Proofs.Qxb6500574aGreatDoor
open Go Go.RowKit
set_option linter.unusedVariables false
set_option linter.unusedSimpArgs false
section
variable {w : World} {A : VL} {m : VMD} {f e i g j gp pi b6 b7 : Nat} {t : ThD} {K : Cx} {fm : FmD} {p : PrD}
set_option maxRecDepth 100000
set_option maxHeartbeats 600000
theorem rd26_no (h : LB w A m 0 e K i t fm g j gp pi p b6 b7) {a : Act} (ha : Fr62 A.b A.bT i b6 b7 a) {Q : Exit → Act → World → Prop} (hQ : ∀ c a t v w, Q (.panic c) (a.put (some t) v) w → Q (.panic c) a w) {gc CN CD op x : Nat} (hI : LI w A m fm p gc CN CD op x) (hpc : fm.pc < p.nc) (hs : soundP m i op x = true) (h26 : op = 26) (hn : ¬ ((t.stack.length : Int) - fm.base - p.ns < (x : Int) + 1 ∨ (t.stack.length : Int) - fm.base - p.ns + (1 - (x : Int)) > 128)) (hP9 : ∀ a' w', a'.defers = [] → VRep w' A m 0 e → VSt isVM w A w' A → Q (.panic (trapE 9)) a' w') : (roundOf Tryz.f214.body).wp Tryz.prog Q a w := by
  have HhP9 : Hid (∀ a' w', a'.defers = [] → VRep w' A m 0 e → VSt isVM w A w' A → Q (.panic (trapE 9)) a' w') := hP9
  clear hP9
  have HX3 : Hid (x ≤ 3) := by
    have h0 := hs
    rw [h26] at h0
    unfold soundP at h0
    simp (config := { decide := true }) only [if_true, if_false, decide_eq_true_iff] at h0
    exact h0
  have H26 : Hid (op = 26) := h26
  have HNE2 : Hid (¬ ((t.stack.length : Int) - fm.base - p.ns < (x : Int) + 1 ∨ (t.stack.length : Int) - fm.base - p.ns + (1 - (x : Int)) > 128)) := hn
  clear h26 hn
  have HSO : Hid (soundP m i op x = true) := hs
  clear hs
  have HI : Hid (LI w A m fm p gc CN CD op x) := hI
  have hpc1 : decide (p.nc ≤ fm.pc) = false := by rw [decide_eq_false_iff_not]; omega
  clear hI
  have HQH : Hid (∀ c a t v w, Q (.panic c) (a.put (some t) v) w → Q (.panic c) a w) := hQ
  clear hQ
  obtain ⟨u, rfl⟩ := ha.form
  obtain ⟨gk, fc, NC, NP, sa, sc, H⟩ := h.lh
  have HB : Hid (LB w A m 0 e K i t fm g j gp pi p b6 b7) := h
  obtain ⟨n, HN⟩ : ∃ n, Hid (t.stack.length = n) := ⟨_, rfl⟩
  rw [HN.out] at H
  have HH : Hid (LH w A i fm g j gp pi p gk fc NC NP n sa sc) := H
  obtain ⟨c1, c2, c3, c4, c5, c6, c7, c8, c9, c10, c11, c12, c13, c14, c15, c16, c17, c18, c19, c20, c21, c22, c23⟩ := H
  clear ha h
  have hj1 : ((j : Int) + 1 - 1) = j := by omega
  simp only [roundOf, codeL, codeR, codeIn, Tryz.f214, Option.getD_some]
  go_wp2_with fail
  refine wp_region_tail 11 (by kernel_rfl) (by kernel_rfl) (fun c a t v w h => HQH.out c a t v w h) ?_
  simp only [List.take_succ_cons, List.take_zero, List.drop_succ_cons, List.drop_zero]
  repeat go_big_quiet_step (fail)
  refine wpQuiet_nil ?_
  go_wp2_with fail
  refine wp_region_tail 16 (by kernel_rfl) (by kernel_rfl) (fun c a t v w h => HQH.out c a t v w h) ?_
  simp only [List.take_succ_cons, List.take_zero, List.drop_succ_cons, List.drop_zero]
  repeat go_big_quiet_step (fail)
  refine wpQuiet_nil ?_
  go_wp2_with fail
  refine wp_region_quiet_lit (by kernel_rfl) (by kernel_rfl) ?_
  repeat go_big_quiet_step (fail)
  refine wpQuiet_nil ?_
  rintro w' ⟨nq, rfl⟩
  have HF1 : Hid (Fr (fun _ => False) w (w.drew.drew.drewN nq)) := ((Fr.refl _ _).drew.drew).drewN nq
  obtain ⟨W1, HW1⟩ : ∃ W1, Hid (w.drew.drew.drewN nq = W1) := ⟨_, rfl⟩
  rw [HW1.out] at HF1 ⊢
  clear HW1
  go_wp2_with fail
  have I1 := HI.out.fresh HF1.out
  have H1 := HH.out.fresh HF1.out
  obtain ⟨WD, HWD⟩ : ∃ WD, Hid (W1.drew = WD) := ⟨_, rfl⟩
  have HFD : Hid (Fr (fun _ => False) w WD) := by rw [← HWD.out]; exact HF1.out.drew
  have g0 := fun s : WS WD => s.f.cell ((HI.out.fresh HFD.out).a5)
  have g1 := fun s : WS WD => s.f.cell ((HH.out.fresh HFD.out).p6)
  have g2 := fun s : WS WD => s.f.cell ((HH.out.fresh HFD.out).f1)
  have g3 := fun s : WS WD => s.f.cell ((HI.out.fresh HFD.out).i0)
  have g4 := fun s : WS WD => s.f.cell ((HI.out.fresh HFD.out).i1)
  have HNE : Nonempty (WS WD) := WS.non _
  have i5 := I1.cn
  have i6 := I1.c3
  have i7 := I1.o8
  have i8 := I1.x16
  clear I1 H1
  refine wp_region_mid [0, 1, 2, 3, 4, 5, 6, 7, 8, 9, 10, 11, 12, 13, 14] 15 16 (fun y => ∃ s : WS WD, y = s.y) (by kernel_rfl) (by kernel_rfl) (fun c a t v w h => HQH.out c a t v w h) ⟨⟨W1.drew, by rw [HWD.out]; exact Fr.refl _ _⟩, rfl⟩ [_, _, _, _, _, _, _, _, _, _, _, _, _, _, _] rfl _ rfl ?_
  simp only [List.getElem_toArray, List.getElem_cons_succ, List.getElem_cons_zero, List.drop_succ_cons, List.drop_zero, List.length_cons, List.length_nil, Nat.zero_add]
  repeat go_big_quiet_step (fail)
  refine wpQuiet_nil ?_
  clear g0 g1 g2 g3 g4
  go_wp2_with fail
  refine ⟨⟨⟨_, by rw [← HWD.out]; exact ((Fr.refl _ W1.drew).alloc (.cells #[.int .u8 0, .int .u16 0] 329))⟩, rfl⟩, ?_⟩
  clear HWD HFD HNE
  obtain ⟨W2, HW2⟩ : ∃ W2, Hid ((W1.alloc (.cells #[.int .u8 op, .int .u16 x] 329)).drew = W2) := ⟨_, rfl⟩
  have HF2 : Hid (Fr (fun _ => False) w W2) := by rw [← HW2.out]; exact (HF1.out.alloc _).drew
  have HIN : Hid (Has W2 W1.heap.size #[.int .u8 op, .int .u16 x] 329) := by rw [← HW2.out]; exact (Has.new W1 _ _).fr ((Fr.refl (fun _ => False) _).drew) (fun x => x)
  have HB2 : Hid (LB W2 A m 0 e K i t fm g j gp pi p b6 b7) := HB.out.fresh HF2.out
  clear c1 c2 c3 c4 c5 c6 c7 c8 c9 c10 c11 c12 c13 c14 c15 c16
  go_wp2_with fail
  rw [HW2.out]
  refine (sound_any HB2.out.pb i7 i8).mono ?_
  rintro e' W3 ⟨rfl, f3⟩
  have HF3 : Hid (Fr (fun _ => False) w W3) := HF2.out.trans f3 (fun _ _ x => x)
  have HI3 : Hid (Has W3 W1.heap.size #[.int .u8 op, .int .u16 x] 329) := HIN.out.fr f3 (fun x => x)
  clear f3 HIN HW2 HB2 HF2
  rw [HSO.out]
  obtain ⟨y0, y1⟩ := HI3.out.cells2
  have yl := HI3.out.lt
  go_wp2_with fail
  refine (effect_any op).mono ?_
  rintro e' w4 ⟨rfl, hw4⟩
  rw [hw4]
  clear hw4 w4
  obtain ⟨nd1, nd2, gr1, gr2⟩ := need_b op
  obtain ⟨nd, HND⟩ : ∃ nd, Hid (need op = nd) := ⟨_, rfl⟩
  obtain ⟨gr, HGR⟩ : ∃ gr, Hid (grow op = gr) := ⟨_, rfl⟩
  rw [HND.out] at nd1 nd2 ⊢
  rw [HGR.out] at gr1 gr2 ⊢
  have h26 : ((op : Int) == 26) = true := by rw [beq_iff_eq]; have := H26.out; omega
  have H3 := HH.out.fresh HF3.out
  have s2 := H3.s2
  have sl := H3.sl
  have f2 := H3.f2
  have fl := H3.fl
  have p1 := H3.p1
  have pl := H3.pl
  clear H3
  have hx3 : x ≤ 3 := HX3.out
  obtain ⟨dp, hdp0⟩ : ∃ dp : Nat, n = fm.base + p.ns + dp := ⟨n - (fm.base + p.ns), by omega⟩
  have HDP : Hid (n = fm.base + p.ns + dp) := hdp0
  have hdp : ((n : Int) - (fm.base : Int) - (p.ns : Int)) = (dp : Int) := by omega
  have hdl : dp ≤ 1120 := by omega
  clear hdp0
  go_wp2_with fail
  refine wp_region_tail 15 (by kernel_rfl) (by kernel_rfl) (fun c a t v w h => HQH.out c a t v w h) ?_
  simp only [List.take_succ_cons, List.take_zero, List.drop_succ_cons, List.drop_zero]
  repeat go_big_quiet_step (fail)
  refine wpQuiet_nil ?_
  obtain ⟨W4, HW4⟩ : ∃ W4, Hid (W3.drew = W4) := ⟨_, rfl⟩
  have HF4 : Hid (Fr (fun _ => False) w W4) := by rw [← HW4.out]; exact HF3.out.drew
  have HI4 : Hid (Has W4 W1.heap.size #[.int .u8 op, .int .u16 x] 329) := by rw [← HW4.out]; exact HI3.out.fr ((Fr.refl (fun _ => False) _).drew) (fun x => x)
  rw [HW4.out]
  clear HW4 s2 sl f2 fl p1 pl y0 y1 yl HI3 HF3
  have hne := HNE2.out
  rw [HN.out, hdp] at hne
  have d1 : decide ((dp : Int) < (x : Int) + 1) = false := by rw [decide_eq_false_iff_not]; omega
  have d2 : decide (128 < (dp : Int) + (1 - (x : Int))) = false := by rw [decide_eq_false_iff_not]; omega
  clear hne
  obtain ⟨y0, y1⟩ := HI4.out.cells2
  have yl := HI4.out.lt
  have HB4 : Hid (LB W4 A m 0 e K i t fm g j gp pi p b6 b7) := HB.out.fresh HF4.out
  obtain rfl := H26.out
  have opc : ((26 : Nat) : Int) = 26 := rfl
  rw [opc] at y0
  clear opc H26
  go_wp2_with fail
  refine (call_no HB4.out.pb.rep).mono ?_
  rintro e' w5 ⟨rfl, r5, s5⟩
  exact HhP9.out _ _ rfl r5 ((VSt.fresh HF4.out).trans s5)
end
end Go.Proofs.Qxb6500574aGreatDoor
