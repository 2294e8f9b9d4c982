/-
  THE WALKS of compm: stmt, assignments.
-/
import Derived.Test.Qxb6500574aGreatDoorZC22
namespace Go.Proofs.Qxb6500574aGreatDoor
open Go Go.RowKit
set_option linter.unusedVariables false
set_option linter.unusedSimpArgs false
section
variable {w W W1 : World} {A A1 A2 : RnP} {N : List Nd} {root : Nat} {M : MD}
set_option maxRecDepth 100000
set_option maxHeartbeats 1000000
theorem stmt4a (B : RB w A N root W A1 M) (hl : M.th.tasks.length ≤ 999900) (hvl : M.th.vals.length ≤ 999990) {n : Nat} (hn : n < N.length) (hN : N.length ≤ 1000) {e : Option Nat} (he : ∀ i, e = some i → i < A.E.length) (hk : (N.getD n nd0).k = 4) (ha : (N.getD n nd0).a < N.length) (h4 : (N.getD (N.getD n nd0).a nd0).k = 17) :
    Calls Tryz.prog 113 #[.pointer (some ⟨A.br, 0, none⟩), .int .i64 n, .pointer (eAd A.E e)] W (PQm w A N root (M.stmt N n e)) := by
  obtain ⟨Q, HQ⟩ : ∃ Q : Ending → World → Prop, Hid (PQm w A N root (M.stmt N n e) = Q) := ⟨_, rfl⟩
  rw [HQ.out]
  obtain ⟨g, c, D⟩ := B.nd hn
  obtain ⟨c2, lc, lb, lg, ln, d0, d1, d2, d3, d4, d5, d6, d7⟩ := D
  obtain ⟨cc0, cc1, lcc⟩ := B.c0
  have HB := hid B
  have HE := hid he
  have HT0 : Hid (M.th.tasks.length ≤ 999900 + 0) := hl
  have HV0 : Hid (M.th.vals.length ≤ 999990 + 0) := hvl
  obtain ⟨⟨dk, da, db, dc, dnx, dn, dss, dp⟩, HD⟩ : ∃ d, Hid (N.getD n nd0 = d) := ⟨_, rfl⟩
  have HZ : Hid (M.stmt N n e = ((M.todo [⟨1, dnx, 0, e⟩]).todo [⟨9, da, 0, e⟩]).todo [⟨2, db, 0, e⟩]) := by
    show _ = _
    unfold MD.stmt
    dsimp only
    rw [HD.out]
    rw [HD.out] at hk
    dsimp only at hk
    subst hk
    simp (config := { decide := true }) only [if_true, if_false]
    have h42 := h4
    rw [HD.out] at h42
    dsimp only at h42
    rw [if_pos h42, todo_todo (c_todo HB.out.c _)]
    rfl
  rw [HD.out] at d0 d1 d2 d3 d4 d5 d6 d7 hk ha h4
  dsimp only at d0 d1 d2 d3 d4 d5 d6 d7 hk ha h4
  subst hk
  have HDA := hid ha
  obtain ⟨⟨ek, fa, fb, fc, fnx, fn, fs, fp⟩, HD4⟩ : ∃ d, Hid (N.getD da nd0 = d) := ⟨_, rfl⟩
  rw [HD4.out] at h4
  dsimp only at h4
  subst h4
  clear ha
  obtain ⟨NL, HLL⟩ : ∃ NL : Nat, Hid (N.length = NL) := ⟨_, rfl⟩
  rw [HLL.out] at c2 lc ln hN
  have FA : Fr (fun _ => False) W (W.alloc (.cells #[.int .i64 (4 : Nat), .int .i64 (da : Nat), .int .i64 (db : Nat), .int .i64 (dc : Nat), .int .i64 (dnx : Nat), .int .u64 (dn : Nat), sv dss, .int .i64 (dp : Nat)] 134)) := (Fr.refl _ _).alloc _
  have HFA := hid FA
  have HB0 := hid (B.fresh FA)
  have HL0 : Hid (LcB (W.alloc (.cells #[.int .i64 (4 : Nat), .int .i64 (da : Nat), .int .i64 (db : Nat), .int .i64 (dc : Nat), .int .i64 (dnx : Nat), .int .u64 (dn : Nat), sv dss, .int .i64 (dp : Nat)] 134)) A1 W.heap.size #[.int .i64 (4 : Nat), .int .i64 (da : Nat), .int .i64 (db : Nat), .int .i64 (dc : Nat), .int .i64 (dnx : Nat), .int .u64 (dn : Nat), sv dss, .int .i64 (dp : Nat)] 134) := LcB.new B.r.own _ _
  obtain ⟨ea, HEA⟩ : ∃ ea, Hid (eAd A.E e = ea) := ⟨_, rfl⟩
  rw [HEA.out]
  clear B he hl hvl FA
  have y0 := HL0.out.h.cell 0
  have y1 := HL0.out.h.cell 1
  have y2 := HL0.out.h.cell 2
  have y3 := HL0.out.h.cell 3
  have y4 := HL0.out.h.cell 4
  have y5 := HL0.out.h.cell 5
  have y6 := HL0.out.h.cell 6
  have y7 := HL0.out.h.cell 7
  simp only [List.getElem?_toArray, List.getElem?_cons_succ, List.getElem?_cons_zero] at y0 y1 y2 y3 y4 y5 y6 y7
  have ly := HL0.out.h.lt
  go_enter Tryz.func113, Tryz.ntmps113
  have CC := HB0.out.todo (by have := HT0.out; omega) 1 dnx 0 e HE.out (k' := 1) (n' := (dnx : Nat)) (x' := 0) rfl rfl rfl
  rw [HEA.out] at CC
  have HCC := hid CC
  clear CC
  go_wp2_with fail
  refine HCC.out.mono ?_
  rintro e9 w1 ⟨rfl, A11, BB, SS⟩
  clear HCC y0 y1 y2 y3 y4 y5 y6 y7 ly
  have HB1 := hid BB
  have HL1 := hid (HL0.out.st SS)
  have HT1 : Hid ((M.todo [⟨1, dnx, 0, e⟩]).th.tasks.length ≤ 999900 + 1) := by
    show _ ≤ _
    rw [th_todo HB0.out.c]
    have := HT0.out
    simp
    omega
  have HV1 : Hid ((M.todo [⟨1, dnx, 0, e⟩]).th.vals.length ≤ 999990 + 1) := by
    show _ ≤ _
    rw [th_todo HB0.out.c]
    have := HV0.out
    simp
    omega
  clear BB SS
  have y0 := HL1.out.h.cell 0
  have y1 := HL1.out.h.cell 1
  have y2 := HL1.out.h.cell 2
  have y3 := HL1.out.h.cell 3
  have y4 := HL1.out.h.cell 4
  have y5 := HL1.out.h.cell 5
  have y6 := HL1.out.h.cell 6
  have y7 := HL1.out.h.cell 7
  simp only [List.getElem?_toArray, List.getElem?_cons_succ, List.getElem?_cons_zero] at y0 y1 y2 y3 y4 y5 y6 y7
  have ly := HL1.out.h.lt
  obtain ⟨gt, xx, hxx, htt, ⟨c5, c12, cg, l1, l2, l3, lc2, cl, t5⟩, O⟩ := HB1.out.r.cur HB1.out.c
  have c4 := O.b.has.cell 4
  simp only [thV, List.getElem?_toArray, List.getElem?_cons_succ, List.getElem?_cons_zero, Sl.v] at c4
  rw [HB1.out.s.br] at c5 c12 l1
  obtain ⟨VL, HVL⟩ : ∃ VL : Nat, Hid ((M.todo [⟨1, dnx, 0, e⟩]).th.vals.length = VL) := ⟨_, rfl⟩
  obtain ⟨LT, HLT⟩ : ∃ LT : Nat, Hid ((M.todo [⟨1, dnx, 0, e⟩]).ths.length = LT) := ⟨_, rfl⟩
  obtain ⟨cu, HCU⟩ : ∃ cu : Nat, Hid ((M.todo [⟨1, dnx, 0, e⟩]).cur = cu) := ⟨_, rfl⟩
  rw [HVL.out] at c4
  rw [HLT.out] at c5 lc2 cl t5
  rw [HCU.out] at c12 cg cl
  have HVB : Hid (VL ≤ 999991) := by show _ ≤ _; rw [← HVL.out]; exact HV1.out
  clear O hxx htt
  go_wp2
  refine wp_region_tail 14 (by kernel_rfl) (by kernel_rfl) (fun _ _ _ _ _ h => h) ?_
  simp only [List.take_succ_cons, List.take_zero, List.drop_succ_cons, List.drop_zero]
  repeat go_big_quiet_step (fail)
  refine wpQuiet_nil ?_
  clear c5 c12 cg l1 l2 l3 lc2 cl t5 c4
  have HB2 := hid HB1.out.drew
  have HL2 := hid (HL1.out.fr ((Fr.refl _ _).drew))
  have HT2 : Hid ((M.todo [⟨1, dnx, 0, e⟩]).th.tasks.length ≤ 999900 + 2) := by show _ ≤ _; have := HT1.out; omega
  have HV2 : Hid ((M.todo [⟨1, dnx, 0, e⟩]).th.vals.length ≤ 999990 + 2) := by show _ ≤ _; have := HV1.out; omega
  go_wp2_with fail
  obtain ⟨w2, HW2⟩ : ∃ w2, Hid (w1.drew = w2) := ⟨_, rfl⟩
  rw [HW2.out] at HB2 HL2 ⊢
  clear y0 y1 y2 y3 y4 y5 y6 y7 ly
  obtain ⟨g4, c4', D4⟩ := HB2.out.nd HDA.out
  rw [HD4.out] at D4
  obtain ⟨q2, qlc, qlb, qlg, qln, q0, q1, qb, q3, q4, q5, q6, q7⟩ := D4
  dsimp only at q0 q1 qb q3 q4 q5 q6 q7
  rw [HLL.out] at q2 qlc qln
  have y1 := HL2.out.h.cell 1
  simp only [List.getElem?_toArray, List.getElem?_cons_succ, List.getElem?_cons_zero] at y1
  have ly := HL2.out.h.lt
  have NE := WS.non w2
  have k8 := fun z : WS w2 => z.f.cell q2
  have k9 := fun z : WS w2 => z.f.cell y1
  have k0 := fun z : WS w2 => z.f.cell q0
  have k1 := fun z : WS w2 => z.f.cell q1
  have k2 := fun z : WS w2 => z.f.cell qb
  have k3 := fun z : WS w2 => z.f.cell q3
  have k4 := fun z : WS w2 => z.f.cell q4
  have k5 := fun z : WS w2 => z.f.cell q5
  have k6 := fun z : WS w2 => z.f.cell q6
  have k7 := fun z : WS w2 => z.f.cell q7
  refine wp_region_head 8 1 (fun y => ∃ s : WS w2, y = s.y) (by kernel_rfl) (by kernel_rfl) (fun _ _ _ _ _ h => h) ⟨⟨w2.drew, (Fr.refl _ _).drew⟩, rfl⟩ ?_
  simp only [List.take_succ_cons, List.take_zero, List.drop_succ_cons, List.drop_zero]
  repeat go_big_quiet_step (fail)
  refine wpQuiet_nil ?_
  unfold wpChain
  go_wp2_with fail
  refine ⟨⟨⟨_, ((Fr.refl _ _).alloc _).drew⟩, rfl⟩, ?_⟩
  rw [wpChain_zero]
  go_wp2_with fail
  clear k0 k1 k2 k3 k4 k5 k6 k7 k8 k9 NE q0 q1 q2 q3 q4 q5 q6 q7 qb qlc qlb qlg qln y1 ly
  have FV : Fr (fun _ => False) w2 ((w2.alloc (.cells #[.int .i64 (17 : Nat), .int .i64 (fa : Nat), .int .i64 (fb : Nat), .int .i64 (fc : Nat), .int .i64 (fnx : Nat), .int .u64 (fn : Nat), sv fs, .int .i64 (fp : Nat)] 134)).drew) := ((Fr.refl _ _).alloc _).drew
  have HB3 := hid (HB2.out.fresh FV)
  have HL3 := hid (HL2.out.fr FV)
  have HK3 := hid ((LcB.new HB2.out.r.own #[.int .i64 (17 : Nat), .int .i64 (fa : Nat), .int .i64 (fb : Nat), .int .i64 (fc : Nat), .int .i64 (fnx : Nat), .int .u64 (fn : Nat), sv fs, .int .i64 (fp : Nat)] 134).fr (w1 := (w2.alloc (.cells #[.int .i64 (17 : Nat), .int .i64 (fa : Nat), .int .i64 (fb : Nat), .int .i64 (fc : Nat), .int .i64 (fnx : Nat), .int .u64 (fn : Nat), sv fs, .int .i64 (fp : Nat)] 134)).drew) ((Fr.refl _ _).drew))
  generalize (w2.alloc (.cells #[.int .i64 (17 : Nat), .int .i64 (fa : Nat), .int .i64 (fb : Nat), .int .i64 (fc : Nat), .int .i64 (fnx : Nat), .int .u64 (fn : Nat), sv fs, .int .i64 (fp : Nat)] 134)).drew = w3 at *
  obtain ⟨KB, HKB⟩ : ∃ KB, Hid (w2.heap.size = KB) := ⟨_, rfl⟩
  rw [HKB.out] at HK3 ⊢
  clear FV
  have HT3 : Hid ((M.todo [⟨1, dnx, 0, e⟩]).th.tasks.length ≤ 999900 + 3) := by show _ ≤ _; have := HT2.out; omega
  have HV3 : Hid ((M.todo [⟨1, dnx, 0, e⟩]).th.vals.length ≤ 999990 + 3) := by show _ ≤ _; have := HV2.out; omega
  have y0 := HL3.out.h.cell 0
  have y1 := HL3.out.h.cell 1
  have y2 := HL3.out.h.cell 2
  have y3 := HL3.out.h.cell 3
  have y4 := HL3.out.h.cell 4
  have y5 := HL3.out.h.cell 5
  have y6 := HL3.out.h.cell 6
  have y7 := HL3.out.h.cell 7
  simp only [List.getElem?_toArray, List.getElem?_cons_succ, List.getElem?_cons_zero] at y0 y1 y2 y3 y4 y5 y6 y7
  have ly := HL3.out.h.lt
  have z0 := HK3.out.h.cell 0
  have z1 := HK3.out.h.cell 1
  have z2 := HK3.out.h.cell 2
  simp only [List.getElem?_toArray, List.getElem?_cons_succ, List.getElem?_cons_zero] at z0 z1 z2
  have lz := HK3.out.h.lt
  have CC := HB3.out.todo (by have := HT3.out; omega) 9 da 0 e HE.out (k' := 9) (n' := (da : Nat)) (x' := 0) rfl rfl rfl
  rw [HEA.out] at CC
  have HCC := hid CC
  clear CC
  go_wp2_with fail
  refine HCC.out.mono ?_
  rintro e12 w4 ⟨rfl, A14, BB, SS⟩
  clear HCC y0 y1 y2 y3 y4 y5 y6 y7 ly
  have HB4 := hid BB
  have HL4 := hid (HL3.out.st SS)
  have HT4 : Hid (((M.todo [⟨1, dnx, 0, e⟩]).todo [⟨9, da, 0, e⟩]).th.tasks.length ≤ 999900 + 4) := by
    show _ ≤ _
    rw [th_todo HB3.out.c]
    have := HT3.out
    simp
    omega
  have HV4 : Hid (((M.todo [⟨1, dnx, 0, e⟩]).todo [⟨9, da, 0, e⟩]).th.vals.length ≤ 999990 + 4) := by
    show _ ≤ _
    rw [th_todo HB3.out.c]
    have := HV3.out
    simp
    omega
  clear BB SS
  have y0 := HL4.out.h.cell 0
  have y1 := HL4.out.h.cell 1
  have y2 := HL4.out.h.cell 2
  have y3 := HL4.out.h.cell 3
  have y4 := HL4.out.h.cell 4
  have y5 := HL4.out.h.cell 5
  have y6 := HL4.out.h.cell 6
  have y7 := HL4.out.h.cell 7
  simp only [List.getElem?_toArray, List.getElem?_cons_succ, List.getElem?_cons_zero] at y0 y1 y2 y3 y4 y5 y6 y7
  have ly := HL4.out.h.lt
  have CC := HB4.out.todo (by have := HT4.out; omega) 2 db 0 e HE.out (k' := 2) (n' := (db : Nat)) (x' := 0) rfl rfl rfl
  rw [HEA.out] at CC
  have HCC := hid CC
  clear CC
  go_wp2_with fail
  refine HCC.out.mono ?_
  rintro e13 w5 ⟨rfl, A15, BB, SS⟩
  clear HCC y0 y1 y2 y3 y4 y5 y6 y7 ly
  have HB5 := hid BB
  have HL5 := hid (HL4.out.st SS)
  have HT5 : Hid ((((M.todo [⟨1, dnx, 0, e⟩]).todo [⟨9, da, 0, e⟩]).todo [⟨2, db, 0, e⟩]).th.tasks.length ≤ 999900 + 5) := by
    show _ ≤ _
    rw [th_todo HB4.out.c]
    have := HT4.out
    simp
    omega
  have HV5 : Hid ((((M.todo [⟨1, dnx, 0, e⟩]).todo [⟨9, da, 0, e⟩]).todo [⟨2, db, 0, e⟩]).th.vals.length ≤ 999990 + 5) := by
    show _ ≤ _
    rw [th_todo HB4.out.c]
    have := HV4.out
    simp
    omega
  clear BB SS
  have y0 := HL5.out.h.cell 0
  have y1 := HL5.out.h.cell 1
  have y2 := HL5.out.h.cell 2
  have y3 := HL5.out.h.cell 3
  have y4 := HL5.out.h.cell 4
  have y5 := HL5.out.h.cell 5
  have y6 := HL5.out.h.cell 6
  have y7 := HL5.out.h.cell 7
  simp only [List.getElem?_toArray, List.getElem?_cons_succ, List.getElem?_cons_zero] at y0 y1 y2 y3 y4 y5 y6 y7
  have ly := HL5.out.h.lt
  have FIN : Hid (Q (.returned (.tuple #[])) w5) := by
    show Q _ _
    rw [← HQ.out, HZ.out]
    exact HB5.out.end
  go_wp2
  go_end0
  exact FIN.out
theorem stmt4b (B : RB w A N root W A1 M) (hl : M.th.tasks.length ≤ 999900) (hvl : M.th.vals.length ≤ 999990) {n : Nat} (hn : n < N.length) (hN : N.length ≤ 1000) {e : Option Nat} (he : ∀ i, e = some i → i < A.E.length) (hk : (N.getD n nd0).k = 4) (ha : (N.getD n nd0).a < N.length) (h4 : (N.getD (N.getD n nd0).a nd0).k ≠ 17) :
    Calls Tryz.prog 113 #[.pointer (some ⟨A.br, 0, none⟩), .int .i64 n, .pointer (eAd A.E e)] W (PQm w A N root (M.stmt N n e)) := by
  obtain ⟨Q, HQ⟩ : ∃ Q : Ending → World → Prop, Hid (PQm w A N root (M.stmt N n e) = Q) := ⟨_, rfl⟩
  rw [HQ.out]
  obtain ⟨g, c, D⟩ := B.nd hn
  obtain ⟨c2, lc, lb, lg, ln, d0, d1, d2, d3, d4, d5, d6, d7⟩ := D
  obtain ⟨cc0, cc1, lcc⟩ := B.c0
  have HB := hid B
  have HE := hid he
  have HT0 : Hid (M.th.tasks.length ≤ 999900 + 0) := hl
  have HV0 : Hid (M.th.vals.length ≤ 999990 + 0) := hvl
  obtain ⟨⟨dk, da, db, dc, dnx, dn, dss, dp⟩, HD⟩ : ∃ d, Hid (N.getD n nd0 = d) := ⟨_, rfl⟩
  have HZ : Hid (M.stmt N n e = ((((M.todo [⟨1, dnx, 0, e⟩]).todo [⟨10, 0, 0, e⟩]).todo [⟨2, db, 0, e⟩]).todo [⟨2, (N.getD da nd0).b, 0, e⟩]).todo [⟨2, (N.getD da nd0).a, 0, e⟩]) := by
    show _ = _
    unfold MD.stmt
    dsimp only
    rw [HD.out]
    rw [HD.out] at hk
    dsimp only at hk
    subst hk
    simp (config := { decide := true }) only [if_true, if_false]
    have h42 := h4
    rw [HD.out] at h42
    dsimp only at h42
    rw [if_neg h42, todo_todo (c_todo (c_todo (c_todo HB.out.c _) _) _), todo_todo (c_todo (c_todo HB.out.c _) _), todo_todo (c_todo HB.out.c _)]
    rfl
  rw [HD.out] at d0 d1 d2 d3 d4 d5 d6 d7 hk ha h4
  dsimp only at d0 d1 d2 d3 d4 d5 d6 d7 hk ha h4
  subst hk
  have HDA := hid ha
  obtain ⟨⟨ek, fa, fb, fc, fnx, fn, fs, fp⟩, HD4⟩ : ∃ d, Hid (N.getD da nd0 = d) := ⟨_, rfl⟩
  rw [HD4.out] at h4 HZ
  dsimp only at h4 HZ
  have b4 : ((ek : Int) == 17) = false := by rw [beq_eq_false_iff_ne]; omega
  clear ha
  obtain ⟨NL, HLL⟩ : ∃ NL : Nat, Hid (N.length = NL) := ⟨_, rfl⟩
  rw [HLL.out] at c2 lc ln hN
  have FA : Fr (fun _ => False) W (W.alloc (.cells #[.int .i64 (4 : Nat), .int .i64 (da : Nat), .int .i64 (db : Nat), .int .i64 (dc : Nat), .int .i64 (dnx : Nat), .int .u64 (dn : Nat), sv dss, .int .i64 (dp : Nat)] 134)) := (Fr.refl _ _).alloc _
  have HFA := hid FA
  have HB0 := hid (B.fresh FA)
  have HL0 : Hid (LcB (W.alloc (.cells #[.int .i64 (4 : Nat), .int .i64 (da : Nat), .int .i64 (db : Nat), .int .i64 (dc : Nat), .int .i64 (dnx : Nat), .int .u64 (dn : Nat), sv dss, .int .i64 (dp : Nat)] 134)) A1 W.heap.size #[.int .i64 (4 : Nat), .int .i64 (da : Nat), .int .i64 (db : Nat), .int .i64 (dc : Nat), .int .i64 (dnx : Nat), .int .u64 (dn : Nat), sv dss, .int .i64 (dp : Nat)] 134) := LcB.new B.r.own _ _
  obtain ⟨ea, HEA⟩ : ∃ ea, Hid (eAd A.E e = ea) := ⟨_, rfl⟩
  rw [HEA.out]
  clear B he hl hvl FA
  have y0 := HL0.out.h.cell 0
  have y1 := HL0.out.h.cell 1
  have y2 := HL0.out.h.cell 2
  have y3 := HL0.out.h.cell 3
  have y4 := HL0.out.h.cell 4
  have y5 := HL0.out.h.cell 5
  have y6 := HL0.out.h.cell 6
  have y7 := HL0.out.h.cell 7
  simp only [List.getElem?_toArray, List.getElem?_cons_succ, List.getElem?_cons_zero] at y0 y1 y2 y3 y4 y5 y6 y7
  have ly := HL0.out.h.lt
  go_enter Tryz.func113, Tryz.ntmps113
  have CC := HB0.out.todo (by have := HT0.out; omega) 1 dnx 0 e HE.out (k' := 1) (n' := (dnx : Nat)) (x' := 0) rfl rfl rfl
  rw [HEA.out] at CC
  have HCC := hid CC
  clear CC
  go_wp2_with fail
  refine HCC.out.mono ?_
  rintro e9 w1 ⟨rfl, A11, BB, SS⟩
  clear HCC y0 y1 y2 y3 y4 y5 y6 y7 ly
  have HB1 := hid BB
  have HL1 := hid (HL0.out.st SS)
  have HT1 : Hid ((M.todo [⟨1, dnx, 0, e⟩]).th.tasks.length ≤ 999900 + 1) := by
    show _ ≤ _
    rw [th_todo HB0.out.c]
    have := HT0.out
    simp
    omega
  have HV1 : Hid ((M.todo [⟨1, dnx, 0, e⟩]).th.vals.length ≤ 999990 + 1) := by
    show _ ≤ _
    rw [th_todo HB0.out.c]
    have := HV0.out
    simp
    omega
  clear BB SS
  have y0 := HL1.out.h.cell 0
  have y1 := HL1.out.h.cell 1
  have y2 := HL1.out.h.cell 2
  have y3 := HL1.out.h.cell 3
  have y4 := HL1.out.h.cell 4
  have y5 := HL1.out.h.cell 5
  have y6 := HL1.out.h.cell 6
  have y7 := HL1.out.h.cell 7
  simp only [List.getElem?_toArray, List.getElem?_cons_succ, List.getElem?_cons_zero] at y0 y1 y2 y3 y4 y5 y6 y7
  have ly := HL1.out.h.lt
  obtain ⟨gt, xx, hxx, htt, ⟨c5, c12, cg, l1, l2, l3, lc2, cl, t5⟩, O⟩ := HB1.out.r.cur HB1.out.c
  have c4 := O.b.has.cell 4
  simp only [thV, List.getElem?_toArray, List.getElem?_cons_succ, List.getElem?_cons_zero, Sl.v] at c4
  rw [HB1.out.s.br] at c5 c12 l1
  obtain ⟨VL, HVL⟩ : ∃ VL : Nat, Hid ((M.todo [⟨1, dnx, 0, e⟩]).th.vals.length = VL) := ⟨_, rfl⟩
  obtain ⟨LT, HLT⟩ : ∃ LT : Nat, Hid ((M.todo [⟨1, dnx, 0, e⟩]).ths.length = LT) := ⟨_, rfl⟩
  obtain ⟨cu, HCU⟩ : ∃ cu : Nat, Hid ((M.todo [⟨1, dnx, 0, e⟩]).cur = cu) := ⟨_, rfl⟩
  rw [HVL.out] at c4
  rw [HLT.out] at c5 lc2 cl t5
  rw [HCU.out] at c12 cg cl
  have HVB : Hid (VL ≤ 999991) := by show _ ≤ _; rw [← HVL.out]; exact HV1.out
  clear O hxx htt
  go_wp2
  refine wp_region_tail 14 (by kernel_rfl) (by kernel_rfl) (fun _ _ _ _ _ h => h) ?_
  simp only [List.take_succ_cons, List.take_zero, List.drop_succ_cons, List.drop_zero]
  repeat go_big_quiet_step (fail)
  refine wpQuiet_nil ?_
  clear c5 c12 cg l1 l2 l3 lc2 cl t5 c4
  have HB2 := hid HB1.out.drew
  have HL2 := hid (HL1.out.fr ((Fr.refl _ _).drew))
  have HT2 : Hid ((M.todo [⟨1, dnx, 0, e⟩]).th.tasks.length ≤ 999900 + 2) := by show _ ≤ _; have := HT1.out; omega
  have HV2 : Hid ((M.todo [⟨1, dnx, 0, e⟩]).th.vals.length ≤ 999990 + 2) := by show _ ≤ _; have := HV1.out; omega
  go_wp2_with fail
  obtain ⟨w2, HW2⟩ : ∃ w2, Hid (w1.drew = w2) := ⟨_, rfl⟩
  rw [HW2.out] at HB2 HL2 ⊢
  clear y0 y1 y2 y3 y4 y5 y6 y7 ly
  obtain ⟨g4, c4', D4⟩ := HB2.out.nd HDA.out
  rw [HD4.out] at D4
  obtain ⟨q2, qlc, qlb, qlg, qln, q0, q1, qb, q3, q4, q5, q6, q7⟩ := D4
  dsimp only at q0 q1 qb q3 q4 q5 q6 q7
  rw [HLL.out] at q2 qlc qln
  have y1 := HL2.out.h.cell 1
  simp only [List.getElem?_toArray, List.getElem?_cons_succ, List.getElem?_cons_zero] at y1
  have ly := HL2.out.h.lt
  have NE := WS.non w2
  have k8 := fun z : WS w2 => z.f.cell q2
  have k9 := fun z : WS w2 => z.f.cell y1
  have k0 := fun z : WS w2 => z.f.cell q0
  have k1 := fun z : WS w2 => z.f.cell q1
  have k2 := fun z : WS w2 => z.f.cell qb
  have k3 := fun z : WS w2 => z.f.cell q3
  have k4 := fun z : WS w2 => z.f.cell q4
  have k5 := fun z : WS w2 => z.f.cell q5
  have k6 := fun z : WS w2 => z.f.cell q6
  have k7 := fun z : WS w2 => z.f.cell q7
  refine wp_region_head 8 1 (fun y => ∃ s : WS w2, y = s.y) (by kernel_rfl) (by kernel_rfl) (fun _ _ _ _ _ h => h) ⟨⟨w2.drew, (Fr.refl _ _).drew⟩, rfl⟩ ?_
  simp only [List.take_succ_cons, List.take_zero, List.drop_succ_cons, List.drop_zero]
  repeat go_big_quiet_step (fail)
  refine wpQuiet_nil ?_
  unfold wpChain
  go_wp2_with fail
  refine ⟨⟨⟨_, ((Fr.refl _ _).alloc _).drew⟩, rfl⟩, ?_⟩
  rw [wpChain_zero]
  go_wp2_with fail
  clear k0 k1 k2 k3 k4 k5 k6 k7 k8 k9 NE q0 q1 q2 q3 q4 q5 q6 q7 qb qlc qlb qlg qln y1 ly
  have FV : Fr (fun _ => False) w2 ((w2.alloc (.cells #[.int .i64 (ek : Nat), .int .i64 (fa : Nat), .int .i64 (fb : Nat), .int .i64 (fc : Nat), .int .i64 (fnx : Nat), .int .u64 (fn : Nat), sv fs, .int .i64 (fp : Nat)] 134)).drew) := ((Fr.refl _ _).alloc _).drew
  have HB3 := hid (HB2.out.fresh FV)
  have HL3 := hid (HL2.out.fr FV)
  have HK3 := hid ((LcB.new HB2.out.r.own #[.int .i64 (ek : Nat), .int .i64 (fa : Nat), .int .i64 (fb : Nat), .int .i64 (fc : Nat), .int .i64 (fnx : Nat), .int .u64 (fn : Nat), sv fs, .int .i64 (fp : Nat)] 134).fr (w1 := (w2.alloc (.cells #[.int .i64 (ek : Nat), .int .i64 (fa : Nat), .int .i64 (fb : Nat), .int .i64 (fc : Nat), .int .i64 (fnx : Nat), .int .u64 (fn : Nat), sv fs, .int .i64 (fp : Nat)] 134)).drew) ((Fr.refl _ _).drew))
  generalize (w2.alloc (.cells #[.int .i64 (ek : Nat), .int .i64 (fa : Nat), .int .i64 (fb : Nat), .int .i64 (fc : Nat), .int .i64 (fnx : Nat), .int .u64 (fn : Nat), sv fs, .int .i64 (fp : Nat)] 134)).drew = w3 at *
  obtain ⟨KB, HKB⟩ : ∃ KB, Hid (w2.heap.size = KB) := ⟨_, rfl⟩
  rw [HKB.out] at HK3 ⊢
  clear FV
  have HT3 : Hid ((M.todo [⟨1, dnx, 0, e⟩]).th.tasks.length ≤ 999900 + 3) := by show _ ≤ _; have := HT2.out; omega
  have HV3 : Hid ((M.todo [⟨1, dnx, 0, e⟩]).th.vals.length ≤ 999990 + 3) := by show _ ≤ _; have := HV2.out; omega
  have y0 := HL3.out.h.cell 0
  have y1 := HL3.out.h.cell 1
  have y2 := HL3.out.h.cell 2
  have y3 := HL3.out.h.cell 3
  have y4 := HL3.out.h.cell 4
  have y5 := HL3.out.h.cell 5
  have y6 := HL3.out.h.cell 6
  have y7 := HL3.out.h.cell 7
  simp only [List.getElem?_toArray, List.getElem?_cons_succ, List.getElem?_cons_zero] at y0 y1 y2 y3 y4 y5 y6 y7
  have ly := HL3.out.h.lt
  have z0 := HK3.out.h.cell 0
  have z1 := HK3.out.h.cell 1
  have z2 := HK3.out.h.cell 2
  simp only [List.getElem?_toArray, List.getElem?_cons_succ, List.getElem?_cons_zero] at z0 z1 z2
  have lz := HK3.out.h.lt
  have CC := HB3.out.todo (by have := HT3.out; omega) 10 0 0 e HE.out (k' := 10) (n' := (0 : Nat)) (x' := 0) rfl rfl rfl
  rw [HEA.out] at CC
  have HCC := hid CC
  clear CC
  go_wp2_with fail
  refine HCC.out.mono ?_
  rintro e12 w4 ⟨rfl, A14, BB, SS⟩
  clear HCC y0 y1 y2 y3 y4 y5 y6 y7 ly
  have HB4 := hid BB
  have HL4 := hid (HL3.out.st SS)
  have HK4 := hid (HK3.out.st SS)
  have HT4 : Hid (((M.todo [⟨1, dnx, 0, e⟩]).todo [⟨10, 0, 0, e⟩]).th.tasks.length ≤ 999900 + 4) := by
    show _ ≤ _
    rw [th_todo HB3.out.c]
    have := HT3.out
    simp
    omega
  have HV4 : Hid (((M.todo [⟨1, dnx, 0, e⟩]).todo [⟨10, 0, 0, e⟩]).th.vals.length ≤ 999990 + 4) := by
    show _ ≤ _
    rw [th_todo HB3.out.c]
    have := HV3.out
    simp
    omega
  clear BB SS
  have y0 := HL4.out.h.cell 0
  have y1 := HL4.out.h.cell 1
  have y2 := HL4.out.h.cell 2
  have y3 := HL4.out.h.cell 3
  have y4 := HL4.out.h.cell 4
  have y5 := HL4.out.h.cell 5
  have y6 := HL4.out.h.cell 6
  have y7 := HL4.out.h.cell 7
  simp only [List.getElem?_toArray, List.getElem?_cons_succ, List.getElem?_cons_zero] at y0 y1 y2 y3 y4 y5 y6 y7
  have ly := HL4.out.h.lt
  clear z0 z1 z2 lz
  have z0 := HK4.out.h.cell 0
  have z1 := HK4.out.h.cell 1
  have z2 := HK4.out.h.cell 2
  simp only [List.getElem?_toArray, List.getElem?_cons_succ, List.getElem?_cons_zero] at z0 z1 z2
  have lz := HK4.out.h.lt
  have CC := HB4.out.todo (by have := HT4.out; omega) 2 db 0 e HE.out (k' := 2) (n' := (db : Nat)) (x' := 0) rfl rfl rfl
  rw [HEA.out] at CC
  have HCC := hid CC
  clear CC
  go_wp2_with fail
  refine HCC.out.mono ?_
  rintro e13 w5 ⟨rfl, A15, BB, SS⟩
  clear HCC y0 y1 y2 y3 y4 y5 y6 y7 ly
  have HB5 := hid BB
  have HL5 := hid (HL4.out.st SS)
  have HK5 := hid (HK4.out.st SS)
  have HT5 : Hid ((((M.todo [⟨1, dnx, 0, e⟩]).todo [⟨10, 0, 0, e⟩]).todo [⟨2, db, 0, e⟩]).th.tasks.length ≤ 999900 + 5) := by
    show _ ≤ _
    rw [th_todo HB4.out.c]
    have := HT4.out
    simp
    omega
  have HV5 : Hid ((((M.todo [⟨1, dnx, 0, e⟩]).todo [⟨10, 0, 0, e⟩]).todo [⟨2, db, 0, e⟩]).th.vals.length ≤ 999990 + 5) := by
    show _ ≤ _
    rw [th_todo HB4.out.c]
    have := HV4.out
    simp
    omega
  clear BB SS
  have y0 := HL5.out.h.cell 0
  have y1 := HL5.out.h.cell 1
  have y2 := HL5.out.h.cell 2
  have y3 := HL5.out.h.cell 3
  have y4 := HL5.out.h.cell 4
  have y5 := HL5.out.h.cell 5
  have y6 := HL5.out.h.cell 6
  have y7 := HL5.out.h.cell 7
  simp only [List.getElem?_toArray, List.getElem?_cons_succ, List.getElem?_cons_zero] at y0 y1 y2 y3 y4 y5 y6 y7
  have ly := HL5.out.h.lt
  clear z0 z1 z2 lz
  have z0 := HK5.out.h.cell 0
  have z1 := HK5.out.h.cell 1
  have z2 := HK5.out.h.cell 2
  simp only [List.getElem?_toArray, List.getElem?_cons_succ, List.getElem?_cons_zero] at z0 z1 z2
  have lz := HK5.out.h.lt
  have CC := HB5.out.todo (by have := HT5.out; omega) 2 fb 0 e HE.out (k' := 2) (n' := (fb : Nat)) (x' := 0) rfl rfl rfl
  rw [HEA.out] at CC
  have HCC := hid CC
  clear CC
  go_wp2_with fail
  refine HCC.out.mono ?_
  rintro e14 w6 ⟨rfl, A16, BB, SS⟩
  clear HCC y0 y1 y2 y3 y4 y5 y6 y7 ly
  have HB6 := hid BB
  have HL6 := hid (HL5.out.st SS)
  have HK6 := hid (HK5.out.st SS)
  have HT6 : Hid (((((M.todo [⟨1, dnx, 0, e⟩]).todo [⟨10, 0, 0, e⟩]).todo [⟨2, db, 0, e⟩]).todo [⟨2, fb, 0, e⟩]).th.tasks.length ≤ 999900 + 6) := by
    show _ ≤ _
    rw [th_todo HB5.out.c]
    have := HT5.out
    simp
    omega
  have HV6 : Hid (((((M.todo [⟨1, dnx, 0, e⟩]).todo [⟨10, 0, 0, e⟩]).todo [⟨2, db, 0, e⟩]).todo [⟨2, fb, 0, e⟩]).th.vals.length ≤ 999990 + 6) := by
    show _ ≤ _
    rw [th_todo HB5.out.c]
    have := HV5.out
    simp
    omega
  clear BB SS
  have y0 := HL6.out.h.cell 0
  have y1 := HL6.out.h.cell 1
  have y2 := HL6.out.h.cell 2
  have y3 := HL6.out.h.cell 3
  have y4 := HL6.out.h.cell 4
  have y5 := HL6.out.h.cell 5
  have y6 := HL6.out.h.cell 6
  have y7 := HL6.out.h.cell 7
  simp only [List.getElem?_toArray, List.getElem?_cons_succ, List.getElem?_cons_zero] at y0 y1 y2 y3 y4 y5 y6 y7
  have ly := HL6.out.h.lt
  clear z0 z1 z2 lz
  have z0 := HK6.out.h.cell 0
  have z1 := HK6.out.h.cell 1
  have z2 := HK6.out.h.cell 2
  simp only [List.getElem?_toArray, List.getElem?_cons_succ, List.getElem?_cons_zero] at z0 z1 z2
  have lz := HK6.out.h.lt
  have CC := HB6.out.todo (by have := HT6.out; omega) 2 fa 0 e HE.out (k' := 2) (n' := (fa : Nat)) (x' := 0) rfl rfl rfl
  rw [HEA.out] at CC
  have HCC := hid CC
  clear CC
  go_wp2_with fail
  refine HCC.out.mono ?_
  rintro e15 w7 ⟨rfl, A17, BB, SS⟩
  clear HCC y0 y1 y2 y3 y4 y5 y6 y7 ly
  have HB7 := hid BB
  have HL7 := hid (HL6.out.st SS)
  have HT7 : Hid ((((((M.todo [⟨1, dnx, 0, e⟩]).todo [⟨10, 0, 0, e⟩]).todo [⟨2, db, 0, e⟩]).todo [⟨2, fb, 0, e⟩]).todo [⟨2, fa, 0, e⟩]).th.tasks.length ≤ 999900 + 7) := by
    show _ ≤ _
    rw [th_todo HB6.out.c]
    have := HT6.out
    simp
    omega
  have HV7 : Hid ((((((M.todo [⟨1, dnx, 0, e⟩]).todo [⟨10, 0, 0, e⟩]).todo [⟨2, db, 0, e⟩]).todo [⟨2, fb, 0, e⟩]).todo [⟨2, fa, 0, e⟩]).th.vals.length ≤ 999990 + 7) := by
    show _ ≤ _
    rw [th_todo HB6.out.c]
    have := HV6.out
    simp
    omega
  clear BB SS
  have y0 := HL7.out.h.cell 0
  have y1 := HL7.out.h.cell 1
  have y2 := HL7.out.h.cell 2
  have y3 := HL7.out.h.cell 3
  have y4 := HL7.out.h.cell 4
  have y5 := HL7.out.h.cell 5
  have y6 := HL7.out.h.cell 6
  have y7 := HL7.out.h.cell 7
  simp only [List.getElem?_toArray, List.getElem?_cons_succ, List.getElem?_cons_zero] at y0 y1 y2 y3 y4 y5 y6 y7
  have ly := HL7.out.h.lt
  have FIN : Hid (Q (.returned (.tuple #[])) w7) := by
    show Q _ _
    rw [← HQ.out, HZ.out]
    exact HB7.out.end
  go_wp2
  go_end0
  exact FIN.out
end
end Go.Proofs.Qxb6500574aGreatDoor
