/-
  THE WALKS of compm: stmt, counting loops.
-/
import Derived.Test.Qxb6500574aGreatDoorZC21
namespace Go.Proofs.Qxb6500574aGreatDoor
open Go Go.RowKit
set_option linter.unusedVariables false
set_option linter.unusedSimpArgs false
section
variable {w W W1 : World} {A A1 A2 : RnP} {N : List Nd} {root : Nat} {M : MD}
set_option maxRecDepth 100000
set_option maxHeartbeats 1000000
theorem stmt8a (B : RB w A N root W A1 M) (hl : M.th.tasks.length ≤ 999900) (hvl : M.th.vals.length ≤ 999990) {n : Nat} (hn : n < N.length) (hN : N.length ≤ 1000) {e : Option Nat} (he : ∀ i, e = some i → i < A.E.length) (hk : (N.getD n nd0).k = 8) (ha : (N.getD n nd0).a < N.length) (h2 : (N.getD (N.getD n nd0).a nd0).next < N.length) (h3 : (N.getD (N.getD (N.getD n nd0).a nd0).next nd0).next ≠ 0) :
    Calls Tryz.prog 113 #[.pointer (some ⟨A.br, 0, none⟩), .int .i64 n, .pointer (eAd A.E e)] W (PQm w A N root (M.stmt N n e)) := by
  obtain ⟨Q, HQ⟩ : ∃ Q : Ending → World → Prop, Hid (PQm w A N root (M.stmt N n e) = Q) := ⟨_, rfl⟩
  rw [HQ.out]
  obtain ⟨g, c, D⟩ := B.nd hn
  obtain ⟨c2, lc, lb, lg, ln, d0, d1, d2, d3, d4, d5, d6, d7⟩ := D
  obtain ⟨cc0, cc1, lcc⟩ := B.c0
  have HB := hid B
  have HE := hid he
  have HT0 : Hid (M.th.tasks.length ≤ 999900 + 0) := hl
  have HV0 : Hid (M.th.vals.length ≤ 999990 + 0) := hvl
  obtain ⟨⟨dk, da, db, dc, dnx, dn, dss, dp⟩, HD⟩ : ∃ d, Hid (N.getD n nd0 = d) := ⟨_, rfl⟩
  have HZ : Hid (M.stmt N n e = (((((M.todo [⟨1, dnx, 0, e⟩]).todo [⟨4, 0, (M.todo [⟨1, dnx, 0, e⟩]).th.vals.length, none⟩]).todo [⟨15, n, 0, e⟩]).todo [⟨2, (N.getD (N.getD da nd0).next nd0).next, 0, e⟩]).todo [⟨2, (N.getD da nd0).next, 0, e⟩]).todo [⟨2, da, 0, e⟩]) := by
    show _ = _
    unfold MD.stmt
    dsimp only
    rw [HD.out]
    rw [HD.out] at hk
    dsimp only at hk
    subst hk
    simp (config := { decide := true }) only [if_true, if_false]
    have h32 := h3
    rw [HD.out] at h32
    dsimp only at h32
    rw [if_pos h32]
    rw [todo_todo (c_todo (c_todo (c_todo (c_todo HB.out.c _) _) _) _), todo_todo (c_todo (c_todo (c_todo HB.out.c _) _) _), todo_todo (c_todo (c_todo HB.out.c _) _), todo_todo (c_todo HB.out.c _)]
    rfl
  rw [HD.out] at d0 d1 d2 d3 d4 d5 d6 d7 hk ha h2 h3
  dsimp only at d0 d1 d2 d3 d4 d5 d6 d7 hk ha h2 h3
  subst hk
  have HDA := hid ha
  have HD2 := hid h2
  have HX3 := hid h3
  clear ha h2 h3
  obtain ⟨NL, HLL⟩ : ∃ NL : Nat, Hid (N.length = NL) := ⟨_, rfl⟩
  rw [HLL.out] at c2 lc ln hN
  have FA : Fr (fun _ => False) W (W.alloc (.cells #[.int .i64 (8 : Nat), .int .i64 (da : Nat), .int .i64 (db : Nat), .int .i64 (dc : Nat), .int .i64 (dnx : Nat), .int .u64 (dn : Nat), sv dss, .int .i64 (dp : Nat)] 134)) := (Fr.refl _ _).alloc _
  have HFA := hid FA
  have HB0 := hid (B.fresh FA)
  have HL0 : Hid (LcB (W.alloc (.cells #[.int .i64 (8 : Nat), .int .i64 (da : Nat), .int .i64 (db : Nat), .int .i64 (dc : Nat), .int .i64 (dnx : Nat), .int .u64 (dn : Nat), sv dss, .int .i64 (dp : Nat)] 134)) A1 W.heap.size #[.int .i64 (8 : Nat), .int .i64 (da : Nat), .int .i64 (db : Nat), .int .i64 (dc : Nat), .int .i64 (dnx : Nat), .int .u64 (dn : Nat), sv dss, .int .i64 (dp : Nat)] 134) := LcB.new B.r.own _ _
  obtain ⟨ea, HEA⟩ : ∃ ea, Hid (eAd A.E e = ea) := ⟨_, rfl⟩
  rw [HEA.out]
  clear B he hl hvl FA
  have y0 := HL0.out.h.cell 0
  have y1 := HL0.out.h.cell 1
  have y2 := HL0.out.h.cell 2
  have y3 := HL0.out.h.cell 3
  have y4 := HL0.out.h.cell 4
  have y5 := HL0.out.h.cell 5
  have y6 := HL0.out.h.cell 6
  have y7 := HL0.out.h.cell 7
  simp only [List.getElem?_toArray, List.getElem?_cons_succ, List.getElem?_cons_zero] at y0 y1 y2 y3 y4 y5 y6 y7
  have ly := HL0.out.h.lt
  go_enter Tryz.func113, Tryz.ntmps113
  have CC := HB0.out.todo (by have := HT0.out; omega) 1 dnx 0 e HE.out (k' := 1) (n' := (dnx : Nat)) (x' := 0) rfl rfl rfl
  rw [HEA.out] at CC
  have HCC := hid CC
  clear CC
  go_wp2_with fail
  refine HCC.out.mono ?_
  rintro e9 w1 ⟨rfl, A11, BB, SS⟩
  clear HCC y0 y1 y2 y3 y4 y5 y6 y7 ly
  have HB1 := hid BB
  have HL1 := hid (HL0.out.st SS)
  have HT1 : Hid ((M.todo [⟨1, dnx, 0, e⟩]).th.tasks.length ≤ 999900 + 1) := by
    show _ ≤ _
    rw [th_todo HB0.out.c]
    have := HT0.out
    simp
    omega
  have HV1 : Hid ((M.todo [⟨1, dnx, 0, e⟩]).th.vals.length ≤ 999990 + 1) := by
    show _ ≤ _
    rw [th_todo HB0.out.c]
    have := HV0.out
    simp
    omega
  clear BB SS
  have y0 := HL1.out.h.cell 0
  have y1 := HL1.out.h.cell 1
  have y2 := HL1.out.h.cell 2
  have y3 := HL1.out.h.cell 3
  have y4 := HL1.out.h.cell 4
  have y5 := HL1.out.h.cell 5
  have y6 := HL1.out.h.cell 6
  have y7 := HL1.out.h.cell 7
  simp only [List.getElem?_toArray, List.getElem?_cons_succ, List.getElem?_cons_zero] at y0 y1 y2 y3 y4 y5 y6 y7
  have ly := HL1.out.h.lt
  obtain ⟨gt, xx, hxx, htt, ⟨c5, c12, cg, l1, l2, l3, lc2, cl, t5⟩, O⟩ := HB1.out.r.cur HB1.out.c
  have c4 := O.b.has.cell 4
  simp only [thV, List.getElem?_toArray, List.getElem?_cons_succ, List.getElem?_cons_zero, Sl.v] at c4
  rw [HB1.out.s.br] at c5 c12 l1
  obtain ⟨VL, HVL⟩ : ∃ VL : Nat, Hid ((M.todo [⟨1, dnx, 0, e⟩]).th.vals.length = VL) := ⟨_, rfl⟩
  obtain ⟨LT, HLT⟩ : ∃ LT : Nat, Hid ((M.todo [⟨1, dnx, 0, e⟩]).ths.length = LT) := ⟨_, rfl⟩
  obtain ⟨cu, HCU⟩ : ∃ cu : Nat, Hid ((M.todo [⟨1, dnx, 0, e⟩]).cur = cu) := ⟨_, rfl⟩
  rw [HVL.out] at c4 HZ
  rw [HLT.out] at c5 lc2 cl t5
  rw [HCU.out] at c12 cg cl
  have HVB : Hid (VL ≤ 999991) := by show _ ≤ _; rw [← HVL.out]; exact HV1.out
  clear O hxx htt
  go_wp2
  refine wp_region_tail 14 (by kernel_rfl) (by kernel_rfl) (fun _ _ _ _ _ h => h) ?_
  simp only [List.take_succ_cons, List.take_zero, List.drop_succ_cons, List.drop_zero]
  repeat go_big_quiet_step (fail)
  refine wpQuiet_nil ?_
  clear c5 c12 cg l1 l2 l3 lc2 cl t5 c4
  have HB2 := hid HB1.out.drew
  have HL2 := hid (HL1.out.fr ((Fr.refl _ _).drew))
  have HT2 : Hid ((M.todo [⟨1, dnx, 0, e⟩]).th.tasks.length ≤ 999900 + 2) := by show _ ≤ _; have := HT1.out; omega
  have HV2 : Hid ((M.todo [⟨1, dnx, 0, e⟩]).th.vals.length ≤ 999990 + 2) := by show _ ≤ _; have := HV1.out; omega
  have CC := HB2.out.todo (by have := HT2.out; omega) 4 0 VL none (fun i hi => by cases hi) (k' := 4) (n' := (0 : Nat)) (x' := VL) rfl rfl rfl
  rw [show eAd A.E none = none from rfl] at CC
  have HCC := hid CC
  clear CC
  go_wp2_with fail
  refine HCC.out.mono ?_
  rintro e11 w3 ⟨rfl, A13, BB, SS⟩
  clear HCC y0 y1 y2 y3 y4 y5 y6 y7 ly
  have HB3 := hid BB
  have HL3 := hid (HL2.out.st SS)
  have HT3 : Hid (((M.todo [⟨1, dnx, 0, e⟩]).todo [⟨4, 0, VL, none⟩]).th.tasks.length ≤ 999900 + 3) := by
    show _ ≤ _
    rw [th_todo HB2.out.c]
    have := HT2.out
    simp
    omega
  have HV3 : Hid (((M.todo [⟨1, dnx, 0, e⟩]).todo [⟨4, 0, VL, none⟩]).th.vals.length ≤ 999990 + 3) := by
    show _ ≤ _
    rw [th_todo HB2.out.c]
    have := HV2.out
    simp
    omega
  clear BB SS
  have y0 := HL3.out.h.cell 0
  have y1 := HL3.out.h.cell 1
  have y2 := HL3.out.h.cell 2
  have y3 := HL3.out.h.cell 3
  have y4 := HL3.out.h.cell 4
  have y5 := HL3.out.h.cell 5
  have y6 := HL3.out.h.cell 6
  have y7 := HL3.out.h.cell 7
  simp only [List.getElem?_toArray, List.getElem?_cons_succ, List.getElem?_cons_zero] at y0 y1 y2 y3 y4 y5 y6 y7
  have ly := HL3.out.h.lt
  have CC := HB3.out.todo (by have := HT3.out; omega) 15 n 0 e HE.out (k' := 15) (n' := (n : Nat)) (x' := 0) rfl rfl rfl
  rw [HEA.out] at CC
  have HCC := hid CC
  clear CC
  go_wp2_with fail
  refine HCC.out.mono ?_
  rintro e12 w4 ⟨rfl, A14, BB, SS⟩
  clear HCC y0 y1 y2 y3 y4 y5 y6 y7 ly
  have HB4 := hid BB
  have HL4 := hid (HL3.out.st SS)
  have HT4 : Hid ((((M.todo [⟨1, dnx, 0, e⟩]).todo [⟨4, 0, VL, none⟩]).todo [⟨15, n, 0, e⟩]).th.tasks.length ≤ 999900 + 4) := by
    show _ ≤ _
    rw [th_todo HB3.out.c]
    have := HT3.out
    simp
    omega
  have HV4 : Hid ((((M.todo [⟨1, dnx, 0, e⟩]).todo [⟨4, 0, VL, none⟩]).todo [⟨15, n, 0, e⟩]).th.vals.length ≤ 999990 + 4) := by
    show _ ≤ _
    rw [th_todo HB3.out.c]
    have := HV3.out
    simp
    omega
  clear BB SS
  have y0 := HL4.out.h.cell 0
  have y1 := HL4.out.h.cell 1
  have y2 := HL4.out.h.cell 2
  have y3 := HL4.out.h.cell 3
  have y4 := HL4.out.h.cell 4
  have y5 := HL4.out.h.cell 5
  have y6 := HL4.out.h.cell 6
  have y7 := HL4.out.h.cell 7
  simp only [List.getElem?_toArray, List.getElem?_cons_succ, List.getElem?_cons_zero] at y0 y1 y2 y3 y4 y5 y6 y7
  have ly := HL4.out.h.lt
  obtain ⟨g4, c4', D4⟩ := HB4.out.nd HDA.out
  obtain ⟨q2, qlc, qlb, qlg, qln, _, _, _, _, q4, _, _, _⟩ := D4
  obtain ⟨g5, c5', D5⟩ := HB4.out.nd HD2.out
  obtain ⟨r2, _, _, _, rln, _, _, _, _, r4, _, _, _⟩ := D5
  have hg := q2.symm.trans r2
  simp only [Option.some.injEq, Value.slice.injEq, Addr.mk.injEq, and_true, true_and] at hg
  obtain ⟨rfl, rfl⟩ := hg
  clear r2
  rw [HLL.out] at q2 qlc qln rln
  obtain ⟨x2, HX2⟩ : ∃ x2 : Nat, Hid ((N.getD da nd0).next = x2) := ⟨_, rfl⟩
  rw [HX2.out] at q4 r4 rln HZ HX3
  obtain ⟨x3, HX3b⟩ : ∃ x3 : Nat, Hid ((N.getD x2 nd0).next = x3) := ⟨_, rfl⟩
  rw [HX3b.out] at r4 HX3 HZ
  have b3 : ((x3 : Int) != 0) = true := by have := HX3.out; rw [bne_iff_ne]; omega
  go_wp2
  refine wp_region_tail 9 (by kernel_rfl) (by kernel_rfl) (fun _ _ _ _ _ h => h) ?_
  simp only [List.take_succ_cons, List.take_zero, List.drop_succ_cons, List.drop_zero]
  repeat go_big_quiet_step (fail)
  refine wpQuiet_nil ?_
  have HB5 := hid HB4.out.drew
  have HL5 := hid (HL4.out.fr ((Fr.refl _ _).drew))
  have HT5 : Hid ((((M.todo [⟨1, dnx, 0, e⟩]).todo [⟨4, 0, VL, none⟩]).todo [⟨15, n, 0, e⟩]).th.tasks.length ≤ 999900 + 5) := by show _ ≤ _; have := HT4.out; omega
  have HV5 : Hid ((((M.todo [⟨1, dnx, 0, e⟩]).todo [⟨4, 0, VL, none⟩]).todo [⟨15, n, 0, e⟩]).th.vals.length ≤ 999990 + 5) := by show _ ≤ _; have := HV4.out; omega
  have CC := HB5.out.todo (by have := HT5.out; omega) 2 x3 0 e HE.out (k' := 2) (n' := (x3 : Nat)) (x' := 0) rfl rfl rfl
  rw [HEA.out] at CC
  have HCC := hid CC
  clear CC
  go_wp2_with fail
  refine HCC.out.mono ?_
  rintro e14 w6 ⟨rfl, A16, BB, SS⟩
  clear HCC y0 y1 y2 y3 y4 y5 y6 y7 ly
  have HB6 := hid BB
  have HL6 := hid (HL5.out.st SS)
  have HT6 : Hid (((((M.todo [⟨1, dnx, 0, e⟩]).todo [⟨4, 0, VL, none⟩]).todo [⟨15, n, 0, e⟩]).todo [⟨2, x3, 0, e⟩]).th.tasks.length ≤ 999900 + 6) := by
    show _ ≤ _
    rw [th_todo HB5.out.c]
    have := HT5.out
    simp
    omega
  have HV6 : Hid (((((M.todo [⟨1, dnx, 0, e⟩]).todo [⟨4, 0, VL, none⟩]).todo [⟨15, n, 0, e⟩]).todo [⟨2, x3, 0, e⟩]).th.vals.length ≤ 999990 + 6) := by
    show _ ≤ _
    rw [th_todo HB5.out.c]
    have := HV5.out
    simp
    omega
  clear BB SS
  have y0 := HL6.out.h.cell 0
  have y1 := HL6.out.h.cell 1
  have y2 := HL6.out.h.cell 2
  have y3 := HL6.out.h.cell 3
  have y4 := HL6.out.h.cell 4
  have y5 := HL6.out.h.cell 5
  have y6 := HL6.out.h.cell 6
  have y7 := HL6.out.h.cell 7
  simp only [List.getElem?_toArray, List.getElem?_cons_succ, List.getElem?_cons_zero] at y0 y1 y2 y3 y4 y5 y6 y7
  have ly := HL6.out.h.lt
  clear q2 qlc qlb qlg qln q4 r4 rln b3
  have CC := HB6.out.todo (by have := HT6.out; omega) 2 x2 0 e HE.out (k' := 2) (n' := (x2 : Nat)) (x' := 0) rfl rfl rfl
  rw [HEA.out] at CC
  have HCC := hid CC
  clear CC
  go_wp2_with fail
  refine HCC.out.mono ?_
  rintro e15 w7 ⟨rfl, A17, BB, SS⟩
  clear HCC y0 y1 y2 y3 y4 y5 y6 y7 ly
  have HB7 := hid BB
  have HL7 := hid (HL6.out.st SS)
  have HT7 : Hid ((((((M.todo [⟨1, dnx, 0, e⟩]).todo [⟨4, 0, VL, none⟩]).todo [⟨15, n, 0, e⟩]).todo [⟨2, x3, 0, e⟩]).todo [⟨2, x2, 0, e⟩]).th.tasks.length ≤ 999900 + 7) := by
    show _ ≤ _
    rw [th_todo HB6.out.c]
    have := HT6.out
    simp
    omega
  have HV7 : Hid ((((((M.todo [⟨1, dnx, 0, e⟩]).todo [⟨4, 0, VL, none⟩]).todo [⟨15, n, 0, e⟩]).todo [⟨2, x3, 0, e⟩]).todo [⟨2, x2, 0, e⟩]).th.vals.length ≤ 999990 + 7) := by
    show _ ≤ _
    rw [th_todo HB6.out.c]
    have := HV6.out
    simp
    omega
  clear BB SS
  have y0 := HL7.out.h.cell 0
  have y1 := HL7.out.h.cell 1
  have y2 := HL7.out.h.cell 2
  have y3 := HL7.out.h.cell 3
  have y4 := HL7.out.h.cell 4
  have y5 := HL7.out.h.cell 5
  have y6 := HL7.out.h.cell 6
  have y7 := HL7.out.h.cell 7
  simp only [List.getElem?_toArray, List.getElem?_cons_succ, List.getElem?_cons_zero] at y0 y1 y2 y3 y4 y5 y6 y7
  have ly := HL7.out.h.lt
  have CC := HB7.out.todo (by have := HT7.out; omega) 2 da 0 e HE.out (k' := 2) (n' := (da : Nat)) (x' := 0) rfl rfl rfl
  rw [HEA.out] at CC
  have HCC := hid CC
  clear CC
  go_wp2_with fail
  refine HCC.out.mono ?_
  rintro e16 w8 ⟨rfl, A18, BB, SS⟩
  clear HCC y0 y1 y2 y3 y4 y5 y6 y7 ly
  have HB8 := hid BB
  have HL8 := hid (HL7.out.st SS)
  have HT8 : Hid (((((((M.todo [⟨1, dnx, 0, e⟩]).todo [⟨4, 0, VL, none⟩]).todo [⟨15, n, 0, e⟩]).todo [⟨2, x3, 0, e⟩]).todo [⟨2, x2, 0, e⟩]).todo [⟨2, da, 0, e⟩]).th.tasks.length ≤ 999900 + 8) := by
    show _ ≤ _
    rw [th_todo HB7.out.c]
    have := HT7.out
    simp
    omega
  have HV8 : Hid (((((((M.todo [⟨1, dnx, 0, e⟩]).todo [⟨4, 0, VL, none⟩]).todo [⟨15, n, 0, e⟩]).todo [⟨2, x3, 0, e⟩]).todo [⟨2, x2, 0, e⟩]).todo [⟨2, da, 0, e⟩]).th.vals.length ≤ 999990 + 8) := by
    show _ ≤ _
    rw [th_todo HB7.out.c]
    have := HV7.out
    simp
    omega
  clear BB SS
  have y0 := HL8.out.h.cell 0
  have y1 := HL8.out.h.cell 1
  have y2 := HL8.out.h.cell 2
  have y3 := HL8.out.h.cell 3
  have y4 := HL8.out.h.cell 4
  have y5 := HL8.out.h.cell 5
  have y6 := HL8.out.h.cell 6
  have y7 := HL8.out.h.cell 7
  simp only [List.getElem?_toArray, List.getElem?_cons_succ, List.getElem?_cons_zero] at y0 y1 y2 y3 y4 y5 y6 y7
  have ly := HL8.out.h.lt
  have FIN : Hid (Q (.returned (.tuple #[])) w8) := by
    show Q _ _
    rw [← HQ.out, HZ.out]
    exact HB8.out.end
  go_wp2
  go_end0
  exact FIN.out
theorem stmt8b (B : RB w A N root W A1 M) (hl : M.th.tasks.length ≤ 999900) (hvl : M.th.vals.length ≤ 999990) {n : Nat} (hn : n < N.length) (hN : N.length ≤ 1000) {e : Option Nat} (he : ∀ i, e = some i → i < A.E.length) (hk : (N.getD n nd0).k = 8) (ha : (N.getD n nd0).a < N.length) (h2 : (N.getD (N.getD n nd0).a nd0).next < N.length) (h3 : (N.getD (N.getD (N.getD n nd0).a nd0).next nd0).next = 0) :
    Calls Tryz.prog 113 #[.pointer (some ⟨A.br, 0, none⟩), .int .i64 n, .pointer (eAd A.E e)] W (PQm w A N root (M.stmt N n e)) := by
  obtain ⟨Q, HQ⟩ : ∃ Q : Ending → World → Prop, Hid (PQm w A N root (M.stmt N n e) = Q) := ⟨_, rfl⟩
  rw [HQ.out]
  obtain ⟨g, c, D⟩ := B.nd hn
  obtain ⟨c2, lc, lb, lg, ln, d0, d1, d2, d3, d4, d5, d6, d7⟩ := D
  obtain ⟨cc0, cc1, lcc⟩ := B.c0
  have HB := hid B
  have HE := hid he
  have HT0 : Hid (M.th.tasks.length ≤ 999900 + 0) := hl
  have HV0 : Hid (M.th.vals.length ≤ 999990 + 0) := hvl
  obtain ⟨⟨dk, da, db, dc, dnx, dn, dss, dp⟩, HD⟩ : ∃ d, Hid (N.getD n nd0 = d) := ⟨_, rfl⟩
  have HZ : Hid (M.stmt N n e = (((((M.todo [⟨1, dnx, 0, e⟩]).todo [⟨4, 0, (M.todo [⟨1, dnx, 0, e⟩]).th.vals.length, none⟩]).todo [⟨15, n, 0, e⟩]).todo [⟨2, 0, 1, e⟩]).todo [⟨2, (N.getD da nd0).next, 0, e⟩]).todo [⟨2, da, 0, e⟩]) := by
    show _ = _
    unfold MD.stmt
    dsimp only
    rw [HD.out]
    rw [HD.out] at hk
    dsimp only at hk
    subst hk
    simp (config := { decide := true }) only [if_true, if_false]
    have h32 := h3
    rw [HD.out] at h32
    dsimp only at h32
    rw [if_neg (fun z => z h32)]
    rw [todo_todo (c_todo (c_todo (c_todo (c_todo HB.out.c _) _) _) _), todo_todo (c_todo (c_todo (c_todo HB.out.c _) _) _), todo_todo (c_todo (c_todo HB.out.c _) _), todo_todo (c_todo HB.out.c _)]
    rfl
  rw [HD.out] at d0 d1 d2 d3 d4 d5 d6 d7 hk ha h2 h3
  dsimp only at d0 d1 d2 d3 d4 d5 d6 d7 hk ha h2 h3
  subst hk
  have HDA := hid ha
  have HD2 := hid h2
  have HX3 := hid h3
  clear ha h2 h3
  obtain ⟨NL, HLL⟩ : ∃ NL : Nat, Hid (N.length = NL) := ⟨_, rfl⟩
  rw [HLL.out] at c2 lc ln hN
  have FA : Fr (fun _ => False) W (W.alloc (.cells #[.int .i64 (8 : Nat), .int .i64 (da : Nat), .int .i64 (db : Nat), .int .i64 (dc : Nat), .int .i64 (dnx : Nat), .int .u64 (dn : Nat), sv dss, .int .i64 (dp : Nat)] 134)) := (Fr.refl _ _).alloc _
  have HFA := hid FA
  have HB0 := hid (B.fresh FA)
  have HL0 : Hid (LcB (W.alloc (.cells #[.int .i64 (8 : Nat), .int .i64 (da : Nat), .int .i64 (db : Nat), .int .i64 (dc : Nat), .int .i64 (dnx : Nat), .int .u64 (dn : Nat), sv dss, .int .i64 (dp : Nat)] 134)) A1 W.heap.size #[.int .i64 (8 : Nat), .int .i64 (da : Nat), .int .i64 (db : Nat), .int .i64 (dc : Nat), .int .i64 (dnx : Nat), .int .u64 (dn : Nat), sv dss, .int .i64 (dp : Nat)] 134) := LcB.new B.r.own _ _
  obtain ⟨ea, HEA⟩ : ∃ ea, Hid (eAd A.E e = ea) := ⟨_, rfl⟩
  rw [HEA.out]
  clear B he hl hvl FA
  have y0 := HL0.out.h.cell 0
  have y1 := HL0.out.h.cell 1
  have y2 := HL0.out.h.cell 2
  have y3 := HL0.out.h.cell 3
  have y4 := HL0.out.h.cell 4
  have y5 := HL0.out.h.cell 5
  have y6 := HL0.out.h.cell 6
  have y7 := HL0.out.h.cell 7
  simp only [List.getElem?_toArray, List.getElem?_cons_succ, List.getElem?_cons_zero] at y0 y1 y2 y3 y4 y5 y6 y7
  have ly := HL0.out.h.lt
  go_enter Tryz.func113, Tryz.ntmps113
  have CC := HB0.out.todo (by have := HT0.out; omega) 1 dnx 0 e HE.out (k' := 1) (n' := (dnx : Nat)) (x' := 0) rfl rfl rfl
  rw [HEA.out] at CC
  have HCC := hid CC
  clear CC
  go_wp2_with fail
  refine HCC.out.mono ?_
  rintro e9 w1 ⟨rfl, A11, BB, SS⟩
  clear HCC y0 y1 y2 y3 y4 y5 y6 y7 ly
  have HB1 := hid BB
  have HL1 := hid (HL0.out.st SS)
  have HT1 : Hid ((M.todo [⟨1, dnx, 0, e⟩]).th.tasks.length ≤ 999900 + 1) := by
    show _ ≤ _
    rw [th_todo HB0.out.c]
    have := HT0.out
    simp
    omega
  have HV1 : Hid ((M.todo [⟨1, dnx, 0, e⟩]).th.vals.length ≤ 999990 + 1) := by
    show _ ≤ _
    rw [th_todo HB0.out.c]
    have := HV0.out
    simp
    omega
  clear BB SS
  have y0 := HL1.out.h.cell 0
  have y1 := HL1.out.h.cell 1
  have y2 := HL1.out.h.cell 2
  have y3 := HL1.out.h.cell 3
  have y4 := HL1.out.h.cell 4
  have y5 := HL1.out.h.cell 5
  have y6 := HL1.out.h.cell 6
  have y7 := HL1.out.h.cell 7
  simp only [List.getElem?_toArray, List.getElem?_cons_succ, List.getElem?_cons_zero] at y0 y1 y2 y3 y4 y5 y6 y7
  have ly := HL1.out.h.lt
  obtain ⟨gt, xx, hxx, htt, ⟨c5, c12, cg, l1, l2, l3, lc2, cl, t5⟩, O⟩ := HB1.out.r.cur HB1.out.c
  have c4 := O.b.has.cell 4
  simp only [thV, List.getElem?_toArray, List.getElem?_cons_succ, List.getElem?_cons_zero, Sl.v] at c4
  rw [HB1.out.s.br] at c5 c12 l1
  obtain ⟨VL, HVL⟩ : ∃ VL : Nat, Hid ((M.todo [⟨1, dnx, 0, e⟩]).th.vals.length = VL) := ⟨_, rfl⟩
  obtain ⟨LT, HLT⟩ : ∃ LT : Nat, Hid ((M.todo [⟨1, dnx, 0, e⟩]).ths.length = LT) := ⟨_, rfl⟩
  obtain ⟨cu, HCU⟩ : ∃ cu : Nat, Hid ((M.todo [⟨1, dnx, 0, e⟩]).cur = cu) := ⟨_, rfl⟩
  rw [HVL.out] at c4 HZ
  rw [HLT.out] at c5 lc2 cl t5
  rw [HCU.out] at c12 cg cl
  have HVB : Hid (VL ≤ 999991) := by show _ ≤ _; rw [← HVL.out]; exact HV1.out
  clear O hxx htt
  go_wp2
  refine wp_region_tail 14 (by kernel_rfl) (by kernel_rfl) (fun _ _ _ _ _ h => h) ?_
  simp only [List.take_succ_cons, List.take_zero, List.drop_succ_cons, List.drop_zero]
  repeat go_big_quiet_step (fail)
  refine wpQuiet_nil ?_
  clear c5 c12 cg l1 l2 l3 lc2 cl t5 c4
  have HB2 := hid HB1.out.drew
  have HL2 := hid (HL1.out.fr ((Fr.refl _ _).drew))
  have HT2 : Hid ((M.todo [⟨1, dnx, 0, e⟩]).th.tasks.length ≤ 999900 + 2) := by show _ ≤ _; have := HT1.out; omega
  have HV2 : Hid ((M.todo [⟨1, dnx, 0, e⟩]).th.vals.length ≤ 999990 + 2) := by show _ ≤ _; have := HV1.out; omega
  have CC := HB2.out.todo (by have := HT2.out; omega) 4 0 VL none (fun i hi => by cases hi) (k' := 4) (n' := (0 : Nat)) (x' := VL) rfl rfl rfl
  rw [show eAd A.E none = none from rfl] at CC
  have HCC := hid CC
  clear CC
  go_wp2_with fail
  refine HCC.out.mono ?_
  rintro e11 w3 ⟨rfl, A13, BB, SS⟩
  clear HCC y0 y1 y2 y3 y4 y5 y6 y7 ly
  have HB3 := hid BB
  have HL3 := hid (HL2.out.st SS)
  have HT3 : Hid (((M.todo [⟨1, dnx, 0, e⟩]).todo [⟨4, 0, VL, none⟩]).th.tasks.length ≤ 999900 + 3) := by
    show _ ≤ _
    rw [th_todo HB2.out.c]
    have := HT2.out
    simp
    omega
  have HV3 : Hid (((M.todo [⟨1, dnx, 0, e⟩]).todo [⟨4, 0, VL, none⟩]).th.vals.length ≤ 999990 + 3) := by
    show _ ≤ _
    rw [th_todo HB2.out.c]
    have := HV2.out
    simp
    omega
  clear BB SS
  have y0 := HL3.out.h.cell 0
  have y1 := HL3.out.h.cell 1
  have y2 := HL3.out.h.cell 2
  have y3 := HL3.out.h.cell 3
  have y4 := HL3.out.h.cell 4
  have y5 := HL3.out.h.cell 5
  have y6 := HL3.out.h.cell 6
  have y7 := HL3.out.h.cell 7
  simp only [List.getElem?_toArray, List.getElem?_cons_succ, List.getElem?_cons_zero] at y0 y1 y2 y3 y4 y5 y6 y7
  have ly := HL3.out.h.lt
  have CC := HB3.out.todo (by have := HT3.out; omega) 15 n 0 e HE.out (k' := 15) (n' := (n : Nat)) (x' := 0) rfl rfl rfl
  rw [HEA.out] at CC
  have HCC := hid CC
  clear CC
  go_wp2_with fail
  refine HCC.out.mono ?_
  rintro e12 w4 ⟨rfl, A14, BB, SS⟩
  clear HCC y0 y1 y2 y3 y4 y5 y6 y7 ly
  have HB4 := hid BB
  have HL4 := hid (HL3.out.st SS)
  have HT4 : Hid ((((M.todo [⟨1, dnx, 0, e⟩]).todo [⟨4, 0, VL, none⟩]).todo [⟨15, n, 0, e⟩]).th.tasks.length ≤ 999900 + 4) := by
    show _ ≤ _
    rw [th_todo HB3.out.c]
    have := HT3.out
    simp
    omega
  have HV4 : Hid ((((M.todo [⟨1, dnx, 0, e⟩]).todo [⟨4, 0, VL, none⟩]).todo [⟨15, n, 0, e⟩]).th.vals.length ≤ 999990 + 4) := by
    show _ ≤ _
    rw [th_todo HB3.out.c]
    have := HV3.out
    simp
    omega
  clear BB SS
  have y0 := HL4.out.h.cell 0
  have y1 := HL4.out.h.cell 1
  have y2 := HL4.out.h.cell 2
  have y3 := HL4.out.h.cell 3
  have y4 := HL4.out.h.cell 4
  have y5 := HL4.out.h.cell 5
  have y6 := HL4.out.h.cell 6
  have y7 := HL4.out.h.cell 7
  simp only [List.getElem?_toArray, List.getElem?_cons_succ, List.getElem?_cons_zero] at y0 y1 y2 y3 y4 y5 y6 y7
  have ly := HL4.out.h.lt
  obtain ⟨g4, c4', D4⟩ := HB4.out.nd HDA.out
  obtain ⟨q2, qlc, qlb, qlg, qln, _, _, _, _, q4, _, _, _⟩ := D4
  obtain ⟨g5, c5', D5⟩ := HB4.out.nd HD2.out
  obtain ⟨r2, _, _, _, rln, _, _, _, _, r4, _, _, _⟩ := D5
  have hg := q2.symm.trans r2
  simp only [Option.some.injEq, Value.slice.injEq, Addr.mk.injEq, and_true, true_and] at hg
  obtain ⟨rfl, rfl⟩ := hg
  clear r2
  rw [HLL.out] at q2 qlc qln rln
  obtain ⟨x2, HX2⟩ : ∃ x2 : Nat, Hid ((N.getD da nd0).next = x2) := ⟨_, rfl⟩
  rw [HX2.out] at q4 r4 rln HZ HX3
  obtain ⟨x3, HX3b⟩ : ∃ x3 : Nat, Hid ((N.getD x2 nd0).next = x3) := ⟨_, rfl⟩
  rw [HX3b.out] at r4 HX3
  have b3 : ((x3 : Int) != 0) = false := by have := HX3.out; rw [this]; rfl
  go_wp2
  refine wp_region_tail 9 (by kernel_rfl) (by kernel_rfl) (fun _ _ _ _ _ h => h) ?_
  simp only [List.take_succ_cons, List.take_zero, List.drop_succ_cons, List.drop_zero]
  repeat go_big_quiet_step (fail)
  refine wpQuiet_nil ?_
  have HB5 := hid HB4.out.drew
  have HL5 := hid (HL4.out.fr ((Fr.refl _ _).drew))
  have HT5 : Hid ((((M.todo [⟨1, dnx, 0, e⟩]).todo [⟨4, 0, VL, none⟩]).todo [⟨15, n, 0, e⟩]).th.tasks.length ≤ 999900 + 5) := by show _ ≤ _; have := HT4.out; omega
  have HV5 : Hid ((((M.todo [⟨1, dnx, 0, e⟩]).todo [⟨4, 0, VL, none⟩]).todo [⟨15, n, 0, e⟩]).th.vals.length ≤ 999990 + 5) := by show _ ≤ _; have := HV4.out; omega
  have CC := HB5.out.todo (by have := HT5.out; omega) 2 0 1 e HE.out (k' := 2) (n' := (0 : Nat)) (x' := 1) rfl rfl rfl
  rw [HEA.out] at CC
  have HCC := hid CC
  clear CC
  go_wp2_with fail
  refine HCC.out.mono ?_
  rintro e14 w6 ⟨rfl, A16, BB, SS⟩
  clear HCC y0 y1 y2 y3 y4 y5 y6 y7 ly
  have HB6 := hid BB
  have HL6 := hid (HL5.out.st SS)
  have HT6 : Hid (((((M.todo [⟨1, dnx, 0, e⟩]).todo [⟨4, 0, VL, none⟩]).todo [⟨15, n, 0, e⟩]).todo [⟨2, 0, 1, e⟩]).th.tasks.length ≤ 999900 + 6) := by
    show _ ≤ _
    rw [th_todo HB5.out.c]
    have := HT5.out
    simp
    omega
  have HV6 : Hid (((((M.todo [⟨1, dnx, 0, e⟩]).todo [⟨4, 0, VL, none⟩]).todo [⟨15, n, 0, e⟩]).todo [⟨2, 0, 1, e⟩]).th.vals.length ≤ 999990 + 6) := by
    show _ ≤ _
    rw [th_todo HB5.out.c]
    have := HV5.out
    simp
    omega
  clear BB SS
  have y0 := HL6.out.h.cell 0
  have y1 := HL6.out.h.cell 1
  have y2 := HL6.out.h.cell 2
  have y3 := HL6.out.h.cell 3
  have y4 := HL6.out.h.cell 4
  have y5 := HL6.out.h.cell 5
  have y6 := HL6.out.h.cell 6
  have y7 := HL6.out.h.cell 7
  simp only [List.getElem?_toArray, List.getElem?_cons_succ, List.getElem?_cons_zero] at y0 y1 y2 y3 y4 y5 y6 y7
  have ly := HL6.out.h.lt
  clear q2 qlc qlb qlg qln q4 r4 rln b3
  have CC := HB6.out.todo (by have := HT6.out; omega) 2 x2 0 e HE.out (k' := 2) (n' := (x2 : Nat)) (x' := 0) rfl rfl rfl
  rw [HEA.out] at CC
  have HCC := hid CC
  clear CC
  go_wp2_with fail
  refine HCC.out.mono ?_
  rintro e15 w7 ⟨rfl, A17, BB, SS⟩
  clear HCC y0 y1 y2 y3 y4 y5 y6 y7 ly
  have HB7 := hid BB
  have HL7 := hid (HL6.out.st SS)
  have HT7 : Hid ((((((M.todo [⟨1, dnx, 0, e⟩]).todo [⟨4, 0, VL, none⟩]).todo [⟨15, n, 0, e⟩]).todo [⟨2, 0, 1, e⟩]).todo [⟨2, x2, 0, e⟩]).th.tasks.length ≤ 999900 + 7) := by
    show _ ≤ _
    rw [th_todo HB6.out.c]
    have := HT6.out
    simp
    omega
  have HV7 : Hid ((((((M.todo [⟨1, dnx, 0, e⟩]).todo [⟨4, 0, VL, none⟩]).todo [⟨15, n, 0, e⟩]).todo [⟨2, 0, 1, e⟩]).todo [⟨2, x2, 0, e⟩]).th.vals.length ≤ 999990 + 7) := by
    show _ ≤ _
    rw [th_todo HB6.out.c]
    have := HV6.out
    simp
    omega
  clear BB SS
  have y0 := HL7.out.h.cell 0
  have y1 := HL7.out.h.cell 1
  have y2 := HL7.out.h.cell 2
  have y3 := HL7.out.h.cell 3
  have y4 := HL7.out.h.cell 4
  have y5 := HL7.out.h.cell 5
  have y6 := HL7.out.h.cell 6
  have y7 := HL7.out.h.cell 7
  simp only [List.getElem?_toArray, List.getElem?_cons_succ, List.getElem?_cons_zero] at y0 y1 y2 y3 y4 y5 y6 y7
  have ly := HL7.out.h.lt
  have CC := HB7.out.todo (by have := HT7.out; omega) 2 da 0 e HE.out (k' := 2) (n' := (da : Nat)) (x' := 0) rfl rfl rfl
  rw [HEA.out] at CC
  have HCC := hid CC
  clear CC
  go_wp2_with fail
  refine HCC.out.mono ?_
  rintro e16 w8 ⟨rfl, A18, BB, SS⟩
  clear HCC y0 y1 y2 y3 y4 y5 y6 y7 ly
  have HB8 := hid BB
  have HL8 := hid (HL7.out.st SS)
  have HT8 : Hid (((((((M.todo [⟨1, dnx, 0, e⟩]).todo [⟨4, 0, VL, none⟩]).todo [⟨15, n, 0, e⟩]).todo [⟨2, 0, 1, e⟩]).todo [⟨2, x2, 0, e⟩]).todo [⟨2, da, 0, e⟩]).th.tasks.length ≤ 999900 + 8) := by
    show _ ≤ _
    rw [th_todo HB7.out.c]
    have := HT7.out
    simp
    omega
  have HV8 : Hid (((((((M.todo [⟨1, dnx, 0, e⟩]).todo [⟨4, 0, VL, none⟩]).todo [⟨15, n, 0, e⟩]).todo [⟨2, 0, 1, e⟩]).todo [⟨2, x2, 0, e⟩]).todo [⟨2, da, 0, e⟩]).th.vals.length ≤ 999990 + 8) := by
    show _ ≤ _
    rw [th_todo HB7.out.c]
    have := HV7.out
    simp
    omega
  clear BB SS
  have y0 := HL8.out.h.cell 0
  have y1 := HL8.out.h.cell 1
  have y2 := HL8.out.h.cell 2
  have y3 := HL8.out.h.cell 3
  have y4 := HL8.out.h.cell 4
  have y5 := HL8.out.h.cell 5
  have y6 := HL8.out.h.cell 6
  have y7 := HL8.out.h.cell 7
  simp only [List.getElem?_toArray, List.getElem?_cons_succ, List.getElem?_cons_zero] at y0 y1 y2 y3 y4 y5 y6 y7
  have ly := HL8.out.h.lt
  have FIN : Hid (Q (.returned (.tuple #[])) w8) := by
    show Q _ _
    rw [← HQ.out, HZ.out]
    exact HB8.out.end
  go_wp2
  go_end0
  exact FIN.out
end
end Go.Proofs.Qxb6500574aGreatDoor
