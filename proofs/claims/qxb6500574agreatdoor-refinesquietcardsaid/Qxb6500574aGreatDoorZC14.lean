/-
  THE WALKS of compm: eval, the plain kinds.
-/
import Derived.Test.Qxb6500574aGreatDoorZC13
namespace Go.Proofs.Qxb6500574aGreatDoor
open Go Go.RowKit
set_option linter.unusedVariables false
set_option linter.unusedSimpArgs false
section
variable {w W W1 : World} {A A1 A2 : RnP} {N : List Nd} {root : Nat} {M : MD}
set_option maxRecDepth 100000
set_option maxHeartbeats 1000000
theorem eval12 (B : RB w A N root W A1 M) (hl : M.th.tasks.length ≤ 999900) (hvl : M.th.vals.length ≤ 999990) {n : Nat} (hn : n < N.length) (hn0 : n ≠ 0) (hN : N.length ≤ 1000) {x : Nat} {e : Option Nat} (he : ∀ i, e = some i → i < A.E.length) (hk : (N.getD n nd0).k = 12) :
    Calls Tryz.prog 114 #[.pointer (some ⟨A.br, 0, none⟩), .int .i64 n, .int .i64 x, .pointer (eAd A.E e)] W (PQm w A N root (M.eval N n x e)) := by
  obtain ⟨Q, HQ⟩ : ∃ Q : Ending → World → Prop, Hid (PQm w A N root (M.eval N n x e) = Q) := ⟨_, rfl⟩
  rw [HQ.out]
  obtain ⟨g, c, D⟩ := B.nd hn
  obtain ⟨c2, lc, lb, lg, ln, d0, d1, d2, d3, d4, d5, d6, d7⟩ := D
  obtain ⟨cc0, cc1, lcc⟩ := B.c0
  have HB := hid B
  have HE := hid he
  have HT0 : Hid (M.th.tasks.length ≤ 999900 + 0) := hl
  have HV0 : Hid (M.th.vals.length ≤ 999990 + 0) := hvl
  obtain ⟨⟨dk, da, db, dc, dnx, dn, dss, dp⟩, HD⟩ : ∃ d, Hid (N.getD n nd0 = d) := ⟨_, rfl⟩
  have HZ : Hid (M.eval N n x e = M.push [nilV]) := by
    show _ = _
    unfold MD.eval
    dsimp only
    rw [if_neg hn0, HD.out]
    rw [HD.out] at hk
    dsimp only at hk
    subst hk
    simp (config := { decide := true }) only [if_true, if_false]
  rw [HD.out] at d0 d1 d2 d3 d4 d5 d6 d7 hk
  dsimp only at d0 d1 d2 d3 d4 d5 d6 d7 hk
  subst hk
  obtain ⟨NL, HLL⟩ : ∃ NL : Nat, Hid (N.length = NL) := ⟨_, rfl⟩
  rw [HLL.out] at c2 lc ln hN
  have FA : Fr (fun _ => False) W (W.alloc (.cells #[.int .i64 (12 : Nat), .int .i64 (da : Nat), .int .i64 (db : Nat), .int .i64 (dc : Nat), .int .i64 (dnx : Nat), .int .u64 (dn : Nat), sv dss, .int .i64 (dp : Nat)] 134)) := (Fr.refl _ _).alloc _
  have HFA := hid FA
  have HB0 := hid (B.fresh FA)
  have HL0 : Hid (LcB (W.alloc (.cells #[.int .i64 (12 : Nat), .int .i64 (da : Nat), .int .i64 (db : Nat), .int .i64 (dc : Nat), .int .i64 (dnx : Nat), .int .u64 (dn : Nat), sv dss, .int .i64 (dp : Nat)] 134)) A1 W.heap.size #[.int .i64 (12 : Nat), .int .i64 (da : Nat), .int .i64 (db : Nat), .int .i64 (dc : Nat), .int .i64 (dnx : Nat), .int .u64 (dn : Nat), sv dss, .int .i64 (dp : Nat)] 134) := LcB.new B.r.own _ _
  obtain ⟨ea, HEA⟩ : ∃ ea, Hid (eAd A.E e = ea) := ⟨_, rfl⟩
  rw [HEA.out]
  have bn0 : ((n : Int) == 0) = false := by rw [beq_eq_false_iff_ne]; omega
  clear B he hl hvl FA
  have y0 := HL0.out.h.cell 0
  have y1 := HL0.out.h.cell 1
  have y2 := HL0.out.h.cell 2
  have y3 := HL0.out.h.cell 3
  have y4 := HL0.out.h.cell 4
  have y5 := HL0.out.h.cell 5
  have y6 := HL0.out.h.cell 6
  have y7 := HL0.out.h.cell 7
  simp only [List.getElem?_toArray, List.getElem?_cons_succ, List.getElem?_cons_zero] at y0 y1 y2 y3 y4 y5 y6 y7
  have ly := HL0.out.h.lt
  go_enter Tryz.func114, Tryz.ntmps114
  have CC := HB0.out.push (by have := HV0.out; omega) nilV
  have HCC := hid CC
  clear CC
  go_wp2_with fail
  refine HCC.out.mono ?_
  rintro e9 w1 ⟨rfl, A11, BB, SS⟩
  clear HCC y0 y1 y2 y3 y4 y5 y6 y7 ly
  have HB1 := hid BB
  have HL1 := hid (HL0.out.st SS)
  have HT1 : Hid ((M.push [nilV]).th.tasks.length ≤ 999900 + 1) := by
    show _ ≤ _
    rw [th_push HB0.out.c]
    have := HT0.out
    simp
    omega
  have HV1 : Hid ((M.push [nilV]).th.vals.length ≤ 999990 + 1) := by
    show _ ≤ _
    rw [th_push HB0.out.c]
    have := HV0.out
    simp
    omega
  clear BB SS
  have y0 := HL1.out.h.cell 0
  have y1 := HL1.out.h.cell 1
  have y2 := HL1.out.h.cell 2
  have y3 := HL1.out.h.cell 3
  have y4 := HL1.out.h.cell 4
  have y5 := HL1.out.h.cell 5
  have y6 := HL1.out.h.cell 6
  have y7 := HL1.out.h.cell 7
  simp only [List.getElem?_toArray, List.getElem?_cons_succ, List.getElem?_cons_zero] at y0 y1 y2 y3 y4 y5 y6 y7
  have ly := HL1.out.h.lt
  have FIN : Hid (Q (.returned (.tuple #[])) w1) := by
    show Q _ _
    rw [← HQ.out, HZ.out]
    exact HB1.out.end
  go_wp2
  go_end0
  exact FIN.out
theorem eval13 (B : RB w A N root W A1 M) (hl : M.th.tasks.length ≤ 999900) (hvl : M.th.vals.length ≤ 999990) {n : Nat} (hn : n < N.length) (hn0 : n ≠ 0) (hN : N.length ≤ 1000) {x : Nat} {e : Option Nat} (he : ∀ i, e = some i → i < A.E.length) (hk : (N.getD n nd0).k = 13) :
    Calls Tryz.prog 114 #[.pointer (some ⟨A.br, 0, none⟩), .int .i64 n, .int .i64 x, .pointer (eAd A.E e)] W (PQm w A N root (M.eval N n x e)) := by
  obtain ⟨Q, HQ⟩ : ∃ Q : Ending → World → Prop, Hid (PQm w A N root (M.eval N n x e) = Q) := ⟨_, rfl⟩
  rw [HQ.out]
  obtain ⟨g, c, D⟩ := B.nd hn
  obtain ⟨c2, lc, lb, lg, ln, d0, d1, d2, d3, d4, d5, d6, d7⟩ := D
  obtain ⟨cc0, cc1, lcc⟩ := B.c0
  have HB := hid B
  have HE := hid he
  have HT0 : Hid (M.th.tasks.length ≤ 999900 + 0) := hl
  have HV0 : Hid (M.th.vals.length ≤ 999990 + 0) := hvl
  obtain ⟨⟨dk, da, db, dc, dnx, dn, dss, dp⟩, HD⟩ : ∃ d, Hid (N.getD n nd0 = d) := ⟨_, rfl⟩
  have HZ : Hid (M.eval N n x e = M.push [boolV true]) := by
    show _ = _
    unfold MD.eval
    dsimp only
    rw [if_neg hn0, HD.out]
    rw [HD.out] at hk
    dsimp only at hk
    subst hk
    simp (config := { decide := true }) only [if_true, if_false]
  rw [HD.out] at d0 d1 d2 d3 d4 d5 d6 d7 hk
  dsimp only at d0 d1 d2 d3 d4 d5 d6 d7 hk
  subst hk
  obtain ⟨NL, HLL⟩ : ∃ NL : Nat, Hid (N.length = NL) := ⟨_, rfl⟩
  rw [HLL.out] at c2 lc ln hN
  have FA : Fr (fun _ => False) W (W.alloc (.cells #[.int .i64 (13 : Nat), .int .i64 (da : Nat), .int .i64 (db : Nat), .int .i64 (dc : Nat), .int .i64 (dnx : Nat), .int .u64 (dn : Nat), sv dss, .int .i64 (dp : Nat)] 134)) := (Fr.refl _ _).alloc _
  have HFA := hid FA
  have HB0 := hid (B.fresh FA)
  have HL0 : Hid (LcB (W.alloc (.cells #[.int .i64 (13 : Nat), .int .i64 (da : Nat), .int .i64 (db : Nat), .int .i64 (dc : Nat), .int .i64 (dnx : Nat), .int .u64 (dn : Nat), sv dss, .int .i64 (dp : Nat)] 134)) A1 W.heap.size #[.int .i64 (13 : Nat), .int .i64 (da : Nat), .int .i64 (db : Nat), .int .i64 (dc : Nat), .int .i64 (dnx : Nat), .int .u64 (dn : Nat), sv dss, .int .i64 (dp : Nat)] 134) := LcB.new B.r.own _ _
  obtain ⟨ea, HEA⟩ : ∃ ea, Hid (eAd A.E e = ea) := ⟨_, rfl⟩
  rw [HEA.out]
  have bn0 : ((n : Int) == 0) = false := by rw [beq_eq_false_iff_ne]; omega
  clear B he hl hvl FA
  have y0 := HL0.out.h.cell 0
  have y1 := HL0.out.h.cell 1
  have y2 := HL0.out.h.cell 2
  have y3 := HL0.out.h.cell 3
  have y4 := HL0.out.h.cell 4
  have y5 := HL0.out.h.cell 5
  have y6 := HL0.out.h.cell 6
  have y7 := HL0.out.h.cell 7
  simp only [List.getElem?_toArray, List.getElem?_cons_succ, List.getElem?_cons_zero] at y0 y1 y2 y3 y4 y5 y6 y7
  have ly := HL0.out.h.lt
  go_enter Tryz.func114, Tryz.ntmps114
  have CC := HB0.out.push (by have := HV0.out; omega) (boolV true)
  have HCC := hid CC
  clear CC
  go_wp2_with fail
  refine HCC.out.mono ?_
  rintro e9 w1 ⟨rfl, A11, BB, SS⟩
  clear HCC y0 y1 y2 y3 y4 y5 y6 y7 ly
  have HB1 := hid BB
  have HL1 := hid (HL0.out.st SS)
  have HT1 : Hid ((M.push [(boolV true)]).th.tasks.length ≤ 999900 + 1) := by
    show _ ≤ _
    rw [th_push HB0.out.c]
    have := HT0.out
    simp
    omega
  have HV1 : Hid ((M.push [(boolV true)]).th.vals.length ≤ 999990 + 1) := by
    show _ ≤ _
    rw [th_push HB0.out.c]
    have := HV0.out
    simp
    omega
  clear BB SS
  have y0 := HL1.out.h.cell 0
  have y1 := HL1.out.h.cell 1
  have y2 := HL1.out.h.cell 2
  have y3 := HL1.out.h.cell 3
  have y4 := HL1.out.h.cell 4
  have y5 := HL1.out.h.cell 5
  have y6 := HL1.out.h.cell 6
  have y7 := HL1.out.h.cell 7
  simp only [List.getElem?_toArray, List.getElem?_cons_succ, List.getElem?_cons_zero] at y0 y1 y2 y3 y4 y5 y6 y7
  have ly := HL1.out.h.lt
  have FIN : Hid (Q (.returned (.tuple #[])) w1) := by
    show Q _ _
    rw [← HQ.out, HZ.out]
    exact HB1.out.end
  go_wp2
  go_end0
  exact FIN.out
theorem eval14 (B : RB w A N root W A1 M) (hl : M.th.tasks.length ≤ 999900) (hvl : M.th.vals.length ≤ 999990) {n : Nat} (hn : n < N.length) (hn0 : n ≠ 0) (hN : N.length ≤ 1000) {x : Nat} {e : Option Nat} (he : ∀ i, e = some i → i < A.E.length) (hk : (N.getD n nd0).k = 14) :
    Calls Tryz.prog 114 #[.pointer (some ⟨A.br, 0, none⟩), .int .i64 n, .int .i64 x, .pointer (eAd A.E e)] W (PQm w A N root (M.eval N n x e)) := by
  obtain ⟨Q, HQ⟩ : ∃ Q : Ending → World → Prop, Hid (PQm w A N root (M.eval N n x e) = Q) := ⟨_, rfl⟩
  rw [HQ.out]
  obtain ⟨g, c, D⟩ := B.nd hn
  obtain ⟨c2, lc, lb, lg, ln, d0, d1, d2, d3, d4, d5, d6, d7⟩ := D
  obtain ⟨cc0, cc1, lcc⟩ := B.c0
  have HB := hid B
  have HE := hid he
  have HT0 : Hid (M.th.tasks.length ≤ 999900 + 0) := hl
  have HV0 : Hid (M.th.vals.length ≤ 999990 + 0) := hvl
  obtain ⟨⟨dk, da, db, dc, dnx, dn, dss, dp⟩, HD⟩ : ∃ d, Hid (N.getD n nd0 = d) := ⟨_, rfl⟩
  have HZ : Hid (M.eval N n x e = M.push [boolV false]) := by
    show _ = _
    unfold MD.eval
    dsimp only
    rw [if_neg hn0, HD.out]
    rw [HD.out] at hk
    dsimp only at hk
    subst hk
    simp (config := { decide := true }) only [if_true, if_false]
  rw [HD.out] at d0 d1 d2 d3 d4 d5 d6 d7 hk
  dsimp only at d0 d1 d2 d3 d4 d5 d6 d7 hk
  subst hk
  obtain ⟨NL, HLL⟩ : ∃ NL : Nat, Hid (N.length = NL) := ⟨_, rfl⟩
  rw [HLL.out] at c2 lc ln hN
  have FA : Fr (fun _ => False) W (W.alloc (.cells #[.int .i64 (14 : Nat), .int .i64 (da : Nat), .int .i64 (db : Nat), .int .i64 (dc : Nat), .int .i64 (dnx : Nat), .int .u64 (dn : Nat), sv dss, .int .i64 (dp : Nat)] 134)) := (Fr.refl _ _).alloc _
  have HFA := hid FA
  have HB0 := hid (B.fresh FA)
  have HL0 : Hid (LcB (W.alloc (.cells #[.int .i64 (14 : Nat), .int .i64 (da : Nat), .int .i64 (db : Nat), .int .i64 (dc : Nat), .int .i64 (dnx : Nat), .int .u64 (dn : Nat), sv dss, .int .i64 (dp : Nat)] 134)) A1 W.heap.size #[.int .i64 (14 : Nat), .int .i64 (da : Nat), .int .i64 (db : Nat), .int .i64 (dc : Nat), .int .i64 (dnx : Nat), .int .u64 (dn : Nat), sv dss, .int .i64 (dp : Nat)] 134) := LcB.new B.r.own _ _
  obtain ⟨ea, HEA⟩ : ∃ ea, Hid (eAd A.E e = ea) := ⟨_, rfl⟩
  rw [HEA.out]
  have bn0 : ((n : Int) == 0) = false := by rw [beq_eq_false_iff_ne]; omega
  clear B he hl hvl FA
  have y0 := HL0.out.h.cell 0
  have y1 := HL0.out.h.cell 1
  have y2 := HL0.out.h.cell 2
  have y3 := HL0.out.h.cell 3
  have y4 := HL0.out.h.cell 4
  have y5 := HL0.out.h.cell 5
  have y6 := HL0.out.h.cell 6
  have y7 := HL0.out.h.cell 7
  simp only [List.getElem?_toArray, List.getElem?_cons_succ, List.getElem?_cons_zero] at y0 y1 y2 y3 y4 y5 y6 y7
  have ly := HL0.out.h.lt
  go_enter Tryz.func114, Tryz.ntmps114
  have CC := HB0.out.push (by have := HV0.out; omega) (boolV false)
  have HCC := hid CC
  clear CC
  go_wp2_with fail
  refine HCC.out.mono ?_
  rintro e9 w1 ⟨rfl, A11, BB, SS⟩
  clear HCC y0 y1 y2 y3 y4 y5 y6 y7 ly
  have HB1 := hid BB
  have HL1 := hid (HL0.out.st SS)
  have HT1 : Hid ((M.push [(boolV false)]).th.tasks.length ≤ 999900 + 1) := by
    show _ ≤ _
    rw [th_push HB0.out.c]
    have := HT0.out
    simp
    omega
  have HV1 : Hid ((M.push [(boolV false)]).th.vals.length ≤ 999990 + 1) := by
    show _ ≤ _
    rw [th_push HB0.out.c]
    have := HV0.out
    simp
    omega
  clear BB SS
  have y0 := HL1.out.h.cell 0
  have y1 := HL1.out.h.cell 1
  have y2 := HL1.out.h.cell 2
  have y3 := HL1.out.h.cell 3
  have y4 := HL1.out.h.cell 4
  have y5 := HL1.out.h.cell 5
  have y6 := HL1.out.h.cell 6
  have y7 := HL1.out.h.cell 7
  simp only [List.getElem?_toArray, List.getElem?_cons_succ, List.getElem?_cons_zero] at y0 y1 y2 y3 y4 y5 y6 y7
  have ly := HL1.out.h.lt
  have FIN : Hid (Q (.returned (.tuple #[])) w1) := by
    show Q _ _
    rw [← HQ.out, HZ.out]
    exact HB1.out.end
  go_wp2
  go_end0
  exact FIN.out
theorem eval15 (B : RB w A N root W A1 M) (hl : M.th.tasks.length ≤ 999900) (hvl : M.th.vals.length ≤ 999990) {n : Nat} (hn : n < N.length) (hn0 : n ≠ 0) (hN : N.length ≤ 1000) {x : Nat} {e : Option Nat} (he : ∀ i, e = some i → i < A.E.length) (hk : (N.getD n nd0).k = 15) :
    Calls Tryz.prog 114 #[.pointer (some ⟨A.br, 0, none⟩), .int .i64 n, .int .i64 x, .pointer (eAd A.E e)] W (PQm w A N root (M.eval N n x e)) := by
  obtain ⟨Q, HQ⟩ : ∃ Q : Ending → World → Prop, Hid (PQm w A N root (M.eval N n x e) = Q) := ⟨_, rfl⟩
  rw [HQ.out]
  obtain ⟨g, c, D⟩ := B.nd hn
  obtain ⟨c2, lc, lb, lg, ln, d0, d1, d2, d3, d4, d5, d6, d7⟩ := D
  obtain ⟨cc0, cc1, lcc⟩ := B.c0
  have HB := hid B
  have HE := hid he
  have HT0 : Hid (M.th.tasks.length ≤ 999900 + 0) := hl
  have HV0 : Hid (M.th.vals.length ≤ 999990 + 0) := hvl
  obtain ⟨⟨dk, da, db, dc, dnx, dn, dss, dp⟩, HD⟩ : ∃ d, Hid (N.getD n nd0 = d) := ⟨_, rfl⟩
  have HZ : Hid (M.eval N n x e = M.push [numV dn]) := by
    show _ = _
    unfold MD.eval
    dsimp only
    rw [if_neg hn0, HD.out]
    rw [HD.out] at hk
    dsimp only at hk
    subst hk
    simp (config := { decide := true }) only [if_true, if_false]
  rw [HD.out] at d0 d1 d2 d3 d4 d5 d6 d7 hk
  dsimp only at d0 d1 d2 d3 d4 d5 d6 d7 hk
  subst hk
  obtain ⟨NL, HLL⟩ : ∃ NL : Nat, Hid (N.length = NL) := ⟨_, rfl⟩
  rw [HLL.out] at c2 lc ln hN
  have FA : Fr (fun _ => False) W (W.alloc (.cells #[.int .i64 (15 : Nat), .int .i64 (da : Nat), .int .i64 (db : Nat), .int .i64 (dc : Nat), .int .i64 (dnx : Nat), .int .u64 (dn : Nat), sv dss, .int .i64 (dp : Nat)] 134)) := (Fr.refl _ _).alloc _
  have HFA := hid FA
  have HB0 := hid (B.fresh FA)
  have HL0 : Hid (LcB (W.alloc (.cells #[.int .i64 (15 : Nat), .int .i64 (da : Nat), .int .i64 (db : Nat), .int .i64 (dc : Nat), .int .i64 (dnx : Nat), .int .u64 (dn : Nat), sv dss, .int .i64 (dp : Nat)] 134)) A1 W.heap.size #[.int .i64 (15 : Nat), .int .i64 (da : Nat), .int .i64 (db : Nat), .int .i64 (dc : Nat), .int .i64 (dnx : Nat), .int .u64 (dn : Nat), sv dss, .int .i64 (dp : Nat)] 134) := LcB.new B.r.own _ _
  obtain ⟨ea, HEA⟩ : ∃ ea, Hid (eAd A.E e = ea) := ⟨_, rfl⟩
  rw [HEA.out]
  have bn0 : ((n : Int) == 0) = false := by rw [beq_eq_false_iff_ne]; omega
  clear B he hl hvl FA
  have y0 := HL0.out.h.cell 0
  have y1 := HL0.out.h.cell 1
  have y2 := HL0.out.h.cell 2
  have y3 := HL0.out.h.cell 3
  have y4 := HL0.out.h.cell 4
  have y5 := HL0.out.h.cell 5
  have y6 := HL0.out.h.cell 6
  have y7 := HL0.out.h.cell 7
  simp only [List.getElem?_toArray, List.getElem?_cons_succ, List.getElem?_cons_zero] at y0 y1 y2 y3 y4 y5 y6 y7
  have ly := HL0.out.h.lt
  go_enter Tryz.func114, Tryz.ntmps114
  have CC := HB0.out.pushN (by have := HV0.out; omega) dn
  have HCC := hid CC
  clear CC
  go_wp2_with fail
  refine HCC.out.mono ?_
  rintro e9 w1 ⟨rfl, A11, BB, SS⟩
  clear HCC y0 y1 y2 y3 y4 y5 y6 y7 ly
  have HB1 := hid BB
  have HL1 := hid (HL0.out.st SS)
  have HT1 : Hid ((M.push [(numV dn)]).th.tasks.length ≤ 999900 + 1) := by
    show _ ≤ _
    rw [th_push HB0.out.c]
    have := HT0.out
    simp
    omega
  have HV1 : Hid ((M.push [(numV dn)]).th.vals.length ≤ 999990 + 1) := by
    show _ ≤ _
    rw [th_push HB0.out.c]
    have := HV0.out
    simp
    omega
  clear BB SS
  have y0 := HL1.out.h.cell 0
  have y1 := HL1.out.h.cell 1
  have y2 := HL1.out.h.cell 2
  have y3 := HL1.out.h.cell 3
  have y4 := HL1.out.h.cell 4
  have y5 := HL1.out.h.cell 5
  have y6 := HL1.out.h.cell 6
  have y7 := HL1.out.h.cell 7
  simp only [List.getElem?_toArray, List.getElem?_cons_succ, List.getElem?_cons_zero] at y0 y1 y2 y3 y4 y5 y6 y7
  have ly := HL1.out.h.lt
  have FIN : Hid (Q (.returned (.tuple #[])) w1) := by
    show Q _ _
    rw [← HQ.out, HZ.out]
    exact HB1.out.end
  go_wp2
  go_end0
  exact FIN.out
theorem eval16 (B : RB w A N root W A1 M) (hl : M.th.tasks.length ≤ 999900) (hvl : M.th.vals.length ≤ 999990) {n : Nat} (hn : n < N.length) (hn0 : n ≠ 0) (hN : N.length ≤ 1000) {x : Nat} {e : Option Nat} (he : ∀ i, e = some i → i < A.E.length) (hk : (N.getD n nd0).k = 16) :
    Calls Tryz.prog 114 #[.pointer (some ⟨A.br, 0, none⟩), .int .i64 n, .int .i64 x, .pointer (eAd A.E e)] W (PQm w A N root (M.eval N n x e)) := by
  obtain ⟨Q, HQ⟩ : ∃ Q : Ending → World → Prop, Hid (PQm w A N root (M.eval N n x e) = Q) := ⟨_, rfl⟩
  rw [HQ.out]
  obtain ⟨g, c, D⟩ := B.nd hn
  obtain ⟨c2, lc, lb, lg, ln, d0, d1, d2, d3, d4, d5, d6, d7⟩ := D
  obtain ⟨cc0, cc1, lcc⟩ := B.c0
  have HB := hid B
  have HE := hid he
  have HT0 : Hid (M.th.tasks.length ≤ 999900 + 0) := hl
  have HV0 : Hid (M.th.vals.length ≤ 999990 + 0) := hvl
  obtain ⟨⟨dk, da, db, dc, dnx, dn, dss, dp⟩, HD⟩ : ∃ d, Hid (N.getD n nd0 = d) := ⟨_, rfl⟩
  have HZ : Hid (M.eval N n x e = M.push [strV dss]) := by
    show _ = _
    unfold MD.eval
    dsimp only
    rw [if_neg hn0, HD.out]
    rw [HD.out] at hk
    dsimp only at hk
    subst hk
    simp (config := { decide := true }) only [if_true, if_false]
  rw [HD.out] at d0 d1 d2 d3 d4 d5 d6 d7 hk
  dsimp only at d0 d1 d2 d3 d4 d5 d6 d7 hk
  subst hk
  obtain ⟨NL, HLL⟩ : ∃ NL : Nat, Hid (N.length = NL) := ⟨_, rfl⟩
  rw [HLL.out] at c2 lc ln hN
  have FA : Fr (fun _ => False) W (W.alloc (.cells #[.int .i64 (16 : Nat), .int .i64 (da : Nat), .int .i64 (db : Nat), .int .i64 (dc : Nat), .int .i64 (dnx : Nat), .int .u64 (dn : Nat), sv dss, .int .i64 (dp : Nat)] 134)) := (Fr.refl _ _).alloc _
  have HFA := hid FA
  have HB0 := hid (B.fresh FA)
  have HL0 : Hid (LcB (W.alloc (.cells #[.int .i64 (16 : Nat), .int .i64 (da : Nat), .int .i64 (db : Nat), .int .i64 (dc : Nat), .int .i64 (dnx : Nat), .int .u64 (dn : Nat), sv dss, .int .i64 (dp : Nat)] 134)) A1 W.heap.size #[.int .i64 (16 : Nat), .int .i64 (da : Nat), .int .i64 (db : Nat), .int .i64 (dc : Nat), .int .i64 (dnx : Nat), .int .u64 (dn : Nat), sv dss, .int .i64 (dp : Nat)] 134) := LcB.new B.r.own _ _
  obtain ⟨ea, HEA⟩ : ∃ ea, Hid (eAd A.E e = ea) := ⟨_, rfl⟩
  rw [HEA.out]
  have bn0 : ((n : Int) == 0) = false := by rw [beq_eq_false_iff_ne]; omega
  clear B he hl hvl FA
  have y0 := HL0.out.h.cell 0
  have y1 := HL0.out.h.cell 1
  have y2 := HL0.out.h.cell 2
  have y3 := HL0.out.h.cell 3
  have y4 := HL0.out.h.cell 4
  have y5 := HL0.out.h.cell 5
  have y6 := HL0.out.h.cell 6
  have y7 := HL0.out.h.cell 7
  simp only [List.getElem?_toArray, List.getElem?_cons_succ, List.getElem?_cons_zero] at y0 y1 y2 y3 y4 y5 y6 y7
  have ly := HL0.out.h.lt
  go_enter Tryz.func114, Tryz.ntmps114
  have CC := HB0.out.pushStr (by have := HV0.out; omega) dss
  have HCC := hid CC
  clear CC
  go_wp2_with fail
  refine HCC.out.mono ?_
  rintro e9 w1 ⟨rfl, A11, BB, SS⟩
  clear HCC y0 y1 y2 y3 y4 y5 y6 y7 ly
  have HB1 := hid BB
  have HL1 := hid (HL0.out.st SS)
  have HT1 : Hid ((M.push [(strV dss)]).th.tasks.length ≤ 999900 + 1) := by
    show _ ≤ _
    rw [th_push HB0.out.c]
    have := HT0.out
    simp
    omega
  have HV1 : Hid ((M.push [(strV dss)]).th.vals.length ≤ 999990 + 1) := by
    show _ ≤ _
    rw [th_push HB0.out.c]
    have := HV0.out
    simp
    omega
  clear BB SS
  have y0 := HL1.out.h.cell 0
  have y1 := HL1.out.h.cell 1
  have y2 := HL1.out.h.cell 2
  have y3 := HL1.out.h.cell 3
  have y4 := HL1.out.h.cell 4
  have y5 := HL1.out.h.cell 5
  have y6 := HL1.out.h.cell 6
  have y7 := HL1.out.h.cell 7
  simp only [List.getElem?_toArray, List.getElem?_cons_succ, List.getElem?_cons_zero] at y0 y1 y2 y3 y4 y5 y6 y7
  have ly := HL1.out.h.lt
  have FIN : Hid (Q (.returned (.tuple #[])) w1) := by
    show Q _ _
    rw [← HQ.out, HZ.out]
    exact HB1.out.end
  go_wp2
  go_end0
  exact FIN.out
theorem eval18 (B : RB w A N root W A1 M) (hl : M.th.tasks.length ≤ 999900) (hvl : M.th.vals.length ≤ 999990) {n : Nat} (hn : n < N.length) (hn0 : n ≠ 0) (hN : N.length ≤ 1000) {x : Nat} {e : Option Nat} (he : ∀ i, e = some i → i < A.E.length) (hk : (N.getD n nd0).k = 18) :
    Calls Tryz.prog 114 #[.pointer (some ⟨A.br, 0, none⟩), .int .i64 n, .int .i64 x, .pointer (eAd A.E e)] W (PQm w A N root (M.eval N n x e)) := by
  obtain ⟨Q, HQ⟩ : ∃ Q : Ending → World → Prop, Hid (PQm w A N root (M.eval N n x e) = Q) := ⟨_, rfl⟩
  rw [HQ.out]
  obtain ⟨g, c, D⟩ := B.nd hn
  obtain ⟨c2, lc, lb, lg, ln, d0, d1, d2, d3, d4, d5, d6, d7⟩ := D
  obtain ⟨cc0, cc1, lcc⟩ := B.c0
  have HB := hid B
  have HE := hid he
  have HT0 : Hid (M.th.tasks.length ≤ 999900 + 0) := hl
  have HV0 : Hid (M.th.vals.length ≤ 999990 + 0) := hvl
  obtain ⟨⟨dk, da, db, dc, dnx, dn, dss, dp⟩, HD⟩ : ∃ d, Hid (N.getD n nd0 = d) := ⟨_, rfl⟩
  have HZ : Hid (M.eval N n x e = ((M.todo [⟨28, 0, 0, none⟩]).todo [⟨2, db, 0, e⟩]).todo [⟨2, da, 0, e⟩]) := by
    show _ = _
    unfold MD.eval
    dsimp only
    rw [if_neg hn0, HD.out]
    rw [HD.out] at hk
    dsimp only at hk
    subst hk
    simp (config := { decide := true }) only [if_true, if_false]
    rw [todo_todo (c_todo HB.out.c _), todo_todo HB.out.c]
    rfl
  rw [HD.out] at d0 d1 d2 d3 d4 d5 d6 d7 hk
  dsimp only at d0 d1 d2 d3 d4 d5 d6 d7 hk
  subst hk
  obtain ⟨NL, HLL⟩ : ∃ NL : Nat, Hid (N.length = NL) := ⟨_, rfl⟩
  rw [HLL.out] at c2 lc ln hN
  have FA : Fr (fun _ => False) W (W.alloc (.cells #[.int .i64 (18 : Nat), .int .i64 (da : Nat), .int .i64 (db : Nat), .int .i64 (dc : Nat), .int .i64 (dnx : Nat), .int .u64 (dn : Nat), sv dss, .int .i64 (dp : Nat)] 134)) := (Fr.refl _ _).alloc _
  have HFA := hid FA
  have HB0 := hid (B.fresh FA)
  have HL0 : Hid (LcB (W.alloc (.cells #[.int .i64 (18 : Nat), .int .i64 (da : Nat), .int .i64 (db : Nat), .int .i64 (dc : Nat), .int .i64 (dnx : Nat), .int .u64 (dn : Nat), sv dss, .int .i64 (dp : Nat)] 134)) A1 W.heap.size #[.int .i64 (18 : Nat), .int .i64 (da : Nat), .int .i64 (db : Nat), .int .i64 (dc : Nat), .int .i64 (dnx : Nat), .int .u64 (dn : Nat), sv dss, .int .i64 (dp : Nat)] 134) := LcB.new B.r.own _ _
  obtain ⟨ea, HEA⟩ : ∃ ea, Hid (eAd A.E e = ea) := ⟨_, rfl⟩
  rw [HEA.out]
  have bn0 : ((n : Int) == 0) = false := by rw [beq_eq_false_iff_ne]; omega
  clear B he hl hvl FA
  have y0 := HL0.out.h.cell 0
  have y1 := HL0.out.h.cell 1
  have y2 := HL0.out.h.cell 2
  have y3 := HL0.out.h.cell 3
  have y4 := HL0.out.h.cell 4
  have y5 := HL0.out.h.cell 5
  have y6 := HL0.out.h.cell 6
  have y7 := HL0.out.h.cell 7
  simp only [List.getElem?_toArray, List.getElem?_cons_succ, List.getElem?_cons_zero] at y0 y1 y2 y3 y4 y5 y6 y7
  have ly := HL0.out.h.lt
  go_enter Tryz.func114, Tryz.ntmps114
  have CC := HB0.out.todo (by have := HT0.out; omega) 28 0 0 none (fun i hi => by cases hi) (k' := 28) (n' := (0 : Nat)) (x' := 0) rfl rfl rfl
  rw [show eAd A.E none = none from rfl] at CC
  have HCC := hid CC
  clear CC
  go_wp2_with fail
  refine HCC.out.mono ?_
  rintro e9 w1 ⟨rfl, A11, BB, SS⟩
  clear HCC y0 y1 y2 y3 y4 y5 y6 y7 ly
  have HB1 := hid BB
  have HL1 := hid (HL0.out.st SS)
  have HT1 : Hid ((M.todo [⟨28, 0, 0, none⟩]).th.tasks.length ≤ 999900 + 1) := by
    show _ ≤ _
    rw [th_todo HB0.out.c]
    have := HT0.out
    simp
    omega
  have HV1 : Hid ((M.todo [⟨28, 0, 0, none⟩]).th.vals.length ≤ 999990 + 1) := by
    show _ ≤ _
    rw [th_todo HB0.out.c]
    have := HV0.out
    simp
    omega
  clear BB SS
  have y0 := HL1.out.h.cell 0
  have y1 := HL1.out.h.cell 1
  have y2 := HL1.out.h.cell 2
  have y3 := HL1.out.h.cell 3
  have y4 := HL1.out.h.cell 4
  have y5 := HL1.out.h.cell 5
  have y6 := HL1.out.h.cell 6
  have y7 := HL1.out.h.cell 7
  simp only [List.getElem?_toArray, List.getElem?_cons_succ, List.getElem?_cons_zero] at y0 y1 y2 y3 y4 y5 y6 y7
  have ly := HL1.out.h.lt
  have CC := HB1.out.todo (by have := HT1.out; omega) 2 db 0 e HE.out (k' := 2) (n' := (db : Nat)) (x' := 0) rfl rfl rfl
  rw [HEA.out] at CC
  have HCC := hid CC
  clear CC
  go_wp2_with fail
  refine HCC.out.mono ?_
  rintro e10 w2 ⟨rfl, A12, BB, SS⟩
  clear HCC y0 y1 y2 y3 y4 y5 y6 y7 ly
  have HB2 := hid BB
  have HL2 := hid (HL1.out.st SS)
  have HT2 : Hid (((M.todo [⟨28, 0, 0, none⟩]).todo [⟨2, db, 0, e⟩]).th.tasks.length ≤ 999900 + 2) := by
    show _ ≤ _
    rw [th_todo HB1.out.c]
    have := HT1.out
    simp
    omega
  have HV2 : Hid (((M.todo [⟨28, 0, 0, none⟩]).todo [⟨2, db, 0, e⟩]).th.vals.length ≤ 999990 + 2) := by
    show _ ≤ _
    rw [th_todo HB1.out.c]
    have := HV1.out
    simp
    omega
  clear BB SS
  have y0 := HL2.out.h.cell 0
  have y1 := HL2.out.h.cell 1
  have y2 := HL2.out.h.cell 2
  have y3 := HL2.out.h.cell 3
  have y4 := HL2.out.h.cell 4
  have y5 := HL2.out.h.cell 5
  have y6 := HL2.out.h.cell 6
  have y7 := HL2.out.h.cell 7
  simp only [List.getElem?_toArray, List.getElem?_cons_succ, List.getElem?_cons_zero] at y0 y1 y2 y3 y4 y5 y6 y7
  have ly := HL2.out.h.lt
  have CC := HB2.out.todo (by have := HT2.out; omega) 2 da 0 e HE.out (k' := 2) (n' := (da : Nat)) (x' := 0) rfl rfl rfl
  rw [HEA.out] at CC
  have HCC := hid CC
  clear CC
  go_wp2_with fail
  refine HCC.out.mono ?_
  rintro e11 w3 ⟨rfl, A13, BB, SS⟩
  clear HCC y0 y1 y2 y3 y4 y5 y6 y7 ly
  have HB3 := hid BB
  have HL3 := hid (HL2.out.st SS)
  have HT3 : Hid ((((M.todo [⟨28, 0, 0, none⟩]).todo [⟨2, db, 0, e⟩]).todo [⟨2, da, 0, e⟩]).th.tasks.length ≤ 999900 + 3) := by
    show _ ≤ _
    rw [th_todo HB2.out.c]
    have := HT2.out
    simp
    omega
  have HV3 : Hid ((((M.todo [⟨28, 0, 0, none⟩]).todo [⟨2, db, 0, e⟩]).todo [⟨2, da, 0, e⟩]).th.vals.length ≤ 999990 + 3) := by
    show _ ≤ _
    rw [th_todo HB2.out.c]
    have := HV2.out
    simp
    omega
  clear BB SS
  have y0 := HL3.out.h.cell 0
  have y1 := HL3.out.h.cell 1
  have y2 := HL3.out.h.cell 2
  have y3 := HL3.out.h.cell 3
  have y4 := HL3.out.h.cell 4
  have y5 := HL3.out.h.cell 5
  have y6 := HL3.out.h.cell 6
  have y7 := HL3.out.h.cell 7
  simp only [List.getElem?_toArray, List.getElem?_cons_succ, List.getElem?_cons_zero] at y0 y1 y2 y3 y4 y5 y6 y7
  have ly := HL3.out.h.lt
  have FIN : Hid (Q (.returned (.tuple #[])) w3) := by
    show Q _ _
    rw [← HQ.out, HZ.out]
    exact HB3.out.end
  go_wp2
  go_end0
  exact FIN.out
theorem eval22 (B : RB w A N root W A1 M) (hl : M.th.tasks.length ≤ 999900) (hvl : M.th.vals.length ≤ 999990) {n : Nat} (hn : n < N.length) (hn0 : n ≠ 0) (hN : N.length ≤ 1000) {x : Nat} {e : Option Nat} (he : ∀ i, e = some i → i < A.E.length) (hk : (N.getD n nd0).k = 22) :
    Calls Tryz.prog 114 #[.pointer (some ⟨A.br, 0, none⟩), .int .i64 n, .int .i64 x, .pointer (eAd A.E e)] W (PQm w A N root (M.eval N n x e)) := by
  obtain ⟨Q, HQ⟩ : ∃ Q : Ending → World → Prop, Hid (PQm w A N root (M.eval N n x e) = Q) := ⟨_, rfl⟩
  rw [HQ.out]
  obtain ⟨g, c, D⟩ := B.nd hn
  obtain ⟨c2, lc, lb, lg, ln, d0, d1, d2, d3, d4, d5, d6, d7⟩ := D
  obtain ⟨cc0, cc1, lcc⟩ := B.c0
  have HB := hid B
  have HE := hid he
  have HT0 : Hid (M.th.tasks.length ≤ 999900 + 0) := hl
  have HV0 : Hid (M.th.vals.length ≤ 999990 + 0) := hvl
  obtain ⟨⟨dk, da, db, dc, dnx, dn, dss, dp⟩, HD⟩ : ∃ d, Hid (N.getD n nd0 = d) := ⟨_, rfl⟩
  have HZ : Hid (M.eval N n x e = ((M.todo [⟨24, n, 0, none⟩]).todo [⟨2, db, 0, e⟩]).todo [⟨2, da, 0, e⟩]) := by
    show _ = _
    unfold MD.eval
    dsimp only
    rw [if_neg hn0, HD.out]
    rw [HD.out] at hk
    dsimp only at hk
    subst hk
    simp (config := { decide := true }) only [if_true, if_false]
    rw [todo_todo (c_todo HB.out.c _), todo_todo HB.out.c]
    rfl
  rw [HD.out] at d0 d1 d2 d3 d4 d5 d6 d7 hk
  dsimp only at d0 d1 d2 d3 d4 d5 d6 d7 hk
  subst hk
  obtain ⟨NL, HLL⟩ : ∃ NL : Nat, Hid (N.length = NL) := ⟨_, rfl⟩
  rw [HLL.out] at c2 lc ln hN
  have FA : Fr (fun _ => False) W (W.alloc (.cells #[.int .i64 (22 : Nat), .int .i64 (da : Nat), .int .i64 (db : Nat), .int .i64 (dc : Nat), .int .i64 (dnx : Nat), .int .u64 (dn : Nat), sv dss, .int .i64 (dp : Nat)] 134)) := (Fr.refl _ _).alloc _
  have HFA := hid FA
  have HB0 := hid (B.fresh FA)
  have HL0 : Hid (LcB (W.alloc (.cells #[.int .i64 (22 : Nat), .int .i64 (da : Nat), .int .i64 (db : Nat), .int .i64 (dc : Nat), .int .i64 (dnx : Nat), .int .u64 (dn : Nat), sv dss, .int .i64 (dp : Nat)] 134)) A1 W.heap.size #[.int .i64 (22 : Nat), .int .i64 (da : Nat), .int .i64 (db : Nat), .int .i64 (dc : Nat), .int .i64 (dnx : Nat), .int .u64 (dn : Nat), sv dss, .int .i64 (dp : Nat)] 134) := LcB.new B.r.own _ _
  obtain ⟨ea, HEA⟩ : ∃ ea, Hid (eAd A.E e = ea) := ⟨_, rfl⟩
  rw [HEA.out]
  have bn0 : ((n : Int) == 0) = false := by rw [beq_eq_false_iff_ne]; omega
  clear B he hl hvl FA
  have y0 := HL0.out.h.cell 0
  have y1 := HL0.out.h.cell 1
  have y2 := HL0.out.h.cell 2
  have y3 := HL0.out.h.cell 3
  have y4 := HL0.out.h.cell 4
  have y5 := HL0.out.h.cell 5
  have y6 := HL0.out.h.cell 6
  have y7 := HL0.out.h.cell 7
  simp only [List.getElem?_toArray, List.getElem?_cons_succ, List.getElem?_cons_zero] at y0 y1 y2 y3 y4 y5 y6 y7
  have ly := HL0.out.h.lt
  go_enter Tryz.func114, Tryz.ntmps114
  have CC := HB0.out.todo (by have := HT0.out; omega) 24 n 0 none (fun i hi => by cases hi) (k' := 24) (n' := (n : Nat)) (x' := 0) rfl rfl rfl
  rw [show eAd A.E none = none from rfl] at CC
  have HCC := hid CC
  clear CC
  go_wp2_with fail
  refine HCC.out.mono ?_
  rintro e9 w1 ⟨rfl, A11, BB, SS⟩
  clear HCC y0 y1 y2 y3 y4 y5 y6 y7 ly
  have HB1 := hid BB
  have HL1 := hid (HL0.out.st SS)
  have HT1 : Hid ((M.todo [⟨24, n, 0, none⟩]).th.tasks.length ≤ 999900 + 1) := by
    show _ ≤ _
    rw [th_todo HB0.out.c]
    have := HT0.out
    simp
    omega
  have HV1 : Hid ((M.todo [⟨24, n, 0, none⟩]).th.vals.length ≤ 999990 + 1) := by
    show _ ≤ _
    rw [th_todo HB0.out.c]
    have := HV0.out
    simp
    omega
  clear BB SS
  have y0 := HL1.out.h.cell 0
  have y1 := HL1.out.h.cell 1
  have y2 := HL1.out.h.cell 2
  have y3 := HL1.out.h.cell 3
  have y4 := HL1.out.h.cell 4
  have y5 := HL1.out.h.cell 5
  have y6 := HL1.out.h.cell 6
  have y7 := HL1.out.h.cell 7
  simp only [List.getElem?_toArray, List.getElem?_cons_succ, List.getElem?_cons_zero] at y0 y1 y2 y3 y4 y5 y6 y7
  have ly := HL1.out.h.lt
  have CC := HB1.out.todo (by have := HT1.out; omega) 2 db 0 e HE.out (k' := 2) (n' := (db : Nat)) (x' := 0) rfl rfl rfl
  rw [HEA.out] at CC
  have HCC := hid CC
  clear CC
  go_wp2_with fail
  refine HCC.out.mono ?_
  rintro e10 w2 ⟨rfl, A12, BB, SS⟩
  clear HCC y0 y1 y2 y3 y4 y5 y6 y7 ly
  have HB2 := hid BB
  have HL2 := hid (HL1.out.st SS)
  have HT2 : Hid (((M.todo [⟨24, n, 0, none⟩]).todo [⟨2, db, 0, e⟩]).th.tasks.length ≤ 999900 + 2) := by
    show _ ≤ _
    rw [th_todo HB1.out.c]
    have := HT1.out
    simp
    omega
  have HV2 : Hid (((M.todo [⟨24, n, 0, none⟩]).todo [⟨2, db, 0, e⟩]).th.vals.length ≤ 999990 + 2) := by
    show _ ≤ _
    rw [th_todo HB1.out.c]
    have := HV1.out
    simp
    omega
  clear BB SS
  have y0 := HL2.out.h.cell 0
  have y1 := HL2.out.h.cell 1
  have y2 := HL2.out.h.cell 2
  have y3 := HL2.out.h.cell 3
  have y4 := HL2.out.h.cell 4
  have y5 := HL2.out.h.cell 5
  have y6 := HL2.out.h.cell 6
  have y7 := HL2.out.h.cell 7
  simp only [List.getElem?_toArray, List.getElem?_cons_succ, List.getElem?_cons_zero] at y0 y1 y2 y3 y4 y5 y6 y7
  have ly := HL2.out.h.lt
  have CC := HB2.out.todo (by have := HT2.out; omega) 2 da 0 e HE.out (k' := 2) (n' := (da : Nat)) (x' := 0) rfl rfl rfl
  rw [HEA.out] at CC
  have HCC := hid CC
  clear CC
  go_wp2_with fail
  refine HCC.out.mono ?_
  rintro e11 w3 ⟨rfl, A13, BB, SS⟩
  clear HCC y0 y1 y2 y3 y4 y5 y6 y7 ly
  have HB3 := hid BB
  have HL3 := hid (HL2.out.st SS)
  have HT3 : Hid ((((M.todo [⟨24, n, 0, none⟩]).todo [⟨2, db, 0, e⟩]).todo [⟨2, da, 0, e⟩]).th.tasks.length ≤ 999900 + 3) := by
    show _ ≤ _
    rw [th_todo HB2.out.c]
    have := HT2.out
    simp
    omega
  have HV3 : Hid ((((M.todo [⟨24, n, 0, none⟩]).todo [⟨2, db, 0, e⟩]).todo [⟨2, da, 0, e⟩]).th.vals.length ≤ 999990 + 3) := by
    show _ ≤ _
    rw [th_todo HB2.out.c]
    have := HV2.out
    simp
    omega
  clear BB SS
  have y0 := HL3.out.h.cell 0
  have y1 := HL3.out.h.cell 1
  have y2 := HL3.out.h.cell 2
  have y3 := HL3.out.h.cell 3
  have y4 := HL3.out.h.cell 4
  have y5 := HL3.out.h.cell 5
  have y6 := HL3.out.h.cell 6
  have y7 := HL3.out.h.cell 7
  simp only [List.getElem?_toArray, List.getElem?_cons_succ, List.getElem?_cons_zero] at y0 y1 y2 y3 y4 y5 y6 y7
  have ly := HL3.out.h.lt
  have FIN : Hid (Q (.returned (.tuple #[])) w3) := by
    show Q _ _
    rw [← HQ.out, HZ.out]
    exact HB3.out.end
  go_wp2
  go_end0
  exact FIN.out
theorem eval23 (B : RB w A N root W A1 M) (hl : M.th.tasks.length ≤ 999900) (hvl : M.th.vals.length ≤ 999990) {n : Nat} (hn : n < N.length) (hn0 : n ≠ 0) (hN : N.length ≤ 1000) {x : Nat} {e : Option Nat} (he : ∀ i, e = some i → i < A.E.length) (hk : (N.getD n nd0).k = 23) :
    Calls Tryz.prog 114 #[.pointer (some ⟨A.br, 0, none⟩), .int .i64 n, .int .i64 x, .pointer (eAd A.E e)] W (PQm w A N root (M.eval N n x e)) := by
  obtain ⟨Q, HQ⟩ : ∃ Q : Ending → World → Prop, Hid (PQm w A N root (M.eval N n x e) = Q) := ⟨_, rfl⟩
  rw [HQ.out]
  obtain ⟨g, c, D⟩ := B.nd hn
  obtain ⟨c2, lc, lb, lg, ln, d0, d1, d2, d3, d4, d5, d6, d7⟩ := D
  obtain ⟨cc0, cc1, lcc⟩ := B.c0
  have HB := hid B
  have HE := hid he
  have HT0 : Hid (M.th.tasks.length ≤ 999900 + 0) := hl
  have HV0 : Hid (M.th.vals.length ≤ 999990 + 0) := hvl
  obtain ⟨⟨dk, da, db, dc, dnx, dn, dss, dp⟩, HD⟩ : ∃ d, Hid (N.getD n nd0 = d) := ⟨_, rfl⟩
  have HZ : Hid (M.eval N n x e = (M.todo [⟨25, n, 0, none⟩]).todo [⟨2, da, 0, e⟩]) := by
    show _ = _
    unfold MD.eval
    dsimp only
    rw [if_neg hn0, HD.out]
    rw [HD.out] at hk
    dsimp only at hk
    subst hk
    simp (config := { decide := true }) only [if_true, if_false]
    rw [todo_todo HB.out.c]
    rfl
  rw [HD.out] at d0 d1 d2 d3 d4 d5 d6 d7 hk
  dsimp only at d0 d1 d2 d3 d4 d5 d6 d7 hk
  subst hk
  obtain ⟨NL, HLL⟩ : ∃ NL : Nat, Hid (N.length = NL) := ⟨_, rfl⟩
  rw [HLL.out] at c2 lc ln hN
  have FA : Fr (fun _ => False) W (W.alloc (.cells #[.int .i64 (23 : Nat), .int .i64 (da : Nat), .int .i64 (db : Nat), .int .i64 (dc : Nat), .int .i64 (dnx : Nat), .int .u64 (dn : Nat), sv dss, .int .i64 (dp : Nat)] 134)) := (Fr.refl _ _).alloc _
  have HFA := hid FA
  have HB0 := hid (B.fresh FA)
  have HL0 : Hid (LcB (W.alloc (.cells #[.int .i64 (23 : Nat), .int .i64 (da : Nat), .int .i64 (db : Nat), .int .i64 (dc : Nat), .int .i64 (dnx : Nat), .int .u64 (dn : Nat), sv dss, .int .i64 (dp : Nat)] 134)) A1 W.heap.size #[.int .i64 (23 : Nat), .int .i64 (da : Nat), .int .i64 (db : Nat), .int .i64 (dc : Nat), .int .i64 (dnx : Nat), .int .u64 (dn : Nat), sv dss, .int .i64 (dp : Nat)] 134) := LcB.new B.r.own _ _
  obtain ⟨ea, HEA⟩ : ∃ ea, Hid (eAd A.E e = ea) := ⟨_, rfl⟩
  rw [HEA.out]
  have bn0 : ((n : Int) == 0) = false := by rw [beq_eq_false_iff_ne]; omega
  clear B he hl hvl FA
  have y0 := HL0.out.h.cell 0
  have y1 := HL0.out.h.cell 1
  have y2 := HL0.out.h.cell 2
  have y3 := HL0.out.h.cell 3
  have y4 := HL0.out.h.cell 4
  have y5 := HL0.out.h.cell 5
  have y6 := HL0.out.h.cell 6
  have y7 := HL0.out.h.cell 7
  simp only [List.getElem?_toArray, List.getElem?_cons_succ, List.getElem?_cons_zero] at y0 y1 y2 y3 y4 y5 y6 y7
  have ly := HL0.out.h.lt
  go_enter Tryz.func114, Tryz.ntmps114
  have CC := HB0.out.todo (by have := HT0.out; omega) 25 n 0 none (fun i hi => by cases hi) (k' := 25) (n' := (n : Nat)) (x' := 0) rfl rfl rfl
  rw [show eAd A.E none = none from rfl] at CC
  have HCC := hid CC
  clear CC
  go_wp2_with fail
  refine HCC.out.mono ?_
  rintro e9 w1 ⟨rfl, A11, BB, SS⟩
  clear HCC y0 y1 y2 y3 y4 y5 y6 y7 ly
  have HB1 := hid BB
  have HL1 := hid (HL0.out.st SS)
  have HT1 : Hid ((M.todo [⟨25, n, 0, none⟩]).th.tasks.length ≤ 999900 + 1) := by
    show _ ≤ _
    rw [th_todo HB0.out.c]
    have := HT0.out
    simp
    omega
  have HV1 : Hid ((M.todo [⟨25, n, 0, none⟩]).th.vals.length ≤ 999990 + 1) := by
    show _ ≤ _
    rw [th_todo HB0.out.c]
    have := HV0.out
    simp
    omega
  clear BB SS
  have y0 := HL1.out.h.cell 0
  have y1 := HL1.out.h.cell 1
  have y2 := HL1.out.h.cell 2
  have y3 := HL1.out.h.cell 3
  have y4 := HL1.out.h.cell 4
  have y5 := HL1.out.h.cell 5
  have y6 := HL1.out.h.cell 6
  have y7 := HL1.out.h.cell 7
  simp only [List.getElem?_toArray, List.getElem?_cons_succ, List.getElem?_cons_zero] at y0 y1 y2 y3 y4 y5 y6 y7
  have ly := HL1.out.h.lt
  have CC := HB1.out.todo (by have := HT1.out; omega) 2 da 0 e HE.out (k' := 2) (n' := (da : Nat)) (x' := 0) rfl rfl rfl
  rw [HEA.out] at CC
  have HCC := hid CC
  clear CC
  go_wp2_with fail
  refine HCC.out.mono ?_
  rintro e10 w2 ⟨rfl, A12, BB, SS⟩
  clear HCC y0 y1 y2 y3 y4 y5 y6 y7 ly
  have HB2 := hid BB
  have HL2 := hid (HL1.out.st SS)
  have HT2 : Hid (((M.todo [⟨25, n, 0, none⟩]).todo [⟨2, da, 0, e⟩]).th.tasks.length ≤ 999900 + 2) := by
    show _ ≤ _
    rw [th_todo HB1.out.c]
    have := HT1.out
    simp
    omega
  have HV2 : Hid (((M.todo [⟨25, n, 0, none⟩]).todo [⟨2, da, 0, e⟩]).th.vals.length ≤ 999990 + 2) := by
    show _ ≤ _
    rw [th_todo HB1.out.c]
    have := HV1.out
    simp
    omega
  clear BB SS
  have y0 := HL2.out.h.cell 0
  have y1 := HL2.out.h.cell 1
  have y2 := HL2.out.h.cell 2
  have y3 := HL2.out.h.cell 3
  have y4 := HL2.out.h.cell 4
  have y5 := HL2.out.h.cell 5
  have y6 := HL2.out.h.cell 6
  have y7 := HL2.out.h.cell 7
  simp only [List.getElem?_toArray, List.getElem?_cons_succ, List.getElem?_cons_zero] at y0 y1 y2 y3 y4 y5 y6 y7
  have ly := HL2.out.h.lt
  have FIN : Hid (Q (.returned (.tuple #[])) w2) := by
    show Q _ _
    rw [← HQ.out, HZ.out]
    exact HB2.out.end
  go_wp2
  go_end0
  exact FIN.out
theorem eval24 (B : RB w A N root W A1 M) (hl : M.th.tasks.length ≤ 999900) (hvl : M.th.vals.length ≤ 999990) {n : Nat} (hn : n < N.length) (hn0 : n ≠ 0) (hN : N.length ≤ 1000) {x : Nat} {e : Option Nat} (he : ∀ i, e = some i → i < A.E.length) (hk : (N.getD n nd0).k = 24) :
    Calls Tryz.prog 114 #[.pointer (some ⟨A.br, 0, none⟩), .int .i64 n, .int .i64 x, .pointer (eAd A.E e)] W (PQm w A N root (M.eval N n x e)) := by
  obtain ⟨Q, HQ⟩ : ∃ Q : Ending → World → Prop, Hid (PQm w A N root (M.eval N n x e) = Q) := ⟨_, rfl⟩
  rw [HQ.out]
  obtain ⟨g, c, D⟩ := B.nd hn
  obtain ⟨c2, lc, lb, lg, ln, d0, d1, d2, d3, d4, d5, d6, d7⟩ := D
  obtain ⟨cc0, cc1, lcc⟩ := B.c0
  have HB := hid B
  have HE := hid he
  have HT0 : Hid (M.th.tasks.length ≤ 999900 + 0) := hl
  have HV0 : Hid (M.th.vals.length ≤ 999990 + 0) := hvl
  obtain ⟨⟨dk, da, db, dc, dnx, dn, dss, dp⟩, HD⟩ : ∃ d, Hid (N.getD n nd0 = d) := ⟨_, rfl⟩
  have HZ : Hid (M.eval N n x e = (M.todo [⟨26, n, 0, e⟩]).todo [⟨2, da, 0, e⟩]) := by
    show _ = _
    unfold MD.eval
    dsimp only
    rw [if_neg hn0, HD.out]
    rw [HD.out] at hk
    dsimp only at hk
    subst hk
    simp (config := { decide := true }) only [if_true, if_false]
    rw [todo_todo HB.out.c]
    rfl
  rw [HD.out] at d0 d1 d2 d3 d4 d5 d6 d7 hk
  dsimp only at d0 d1 d2 d3 d4 d5 d6 d7 hk
  subst hk
  obtain ⟨NL, HLL⟩ : ∃ NL : Nat, Hid (N.length = NL) := ⟨_, rfl⟩
  rw [HLL.out] at c2 lc ln hN
  have FA : Fr (fun _ => False) W (W.alloc (.cells #[.int .i64 (24 : Nat), .int .i64 (da : Nat), .int .i64 (db : Nat), .int .i64 (dc : Nat), .int .i64 (dnx : Nat), .int .u64 (dn : Nat), sv dss, .int .i64 (dp : Nat)] 134)) := (Fr.refl _ _).alloc _
  have HFA := hid FA
  have HB0 := hid (B.fresh FA)
  have HL0 : Hid (LcB (W.alloc (.cells #[.int .i64 (24 : Nat), .int .i64 (da : Nat), .int .i64 (db : Nat), .int .i64 (dc : Nat), .int .i64 (dnx : Nat), .int .u64 (dn : Nat), sv dss, .int .i64 (dp : Nat)] 134)) A1 W.heap.size #[.int .i64 (24 : Nat), .int .i64 (da : Nat), .int .i64 (db : Nat), .int .i64 (dc : Nat), .int .i64 (dnx : Nat), .int .u64 (dn : Nat), sv dss, .int .i64 (dp : Nat)] 134) := LcB.new B.r.own _ _
  obtain ⟨ea, HEA⟩ : ∃ ea, Hid (eAd A.E e = ea) := ⟨_, rfl⟩
  rw [HEA.out]
  have bn0 : ((n : Int) == 0) = false := by rw [beq_eq_false_iff_ne]; omega
  clear B he hl hvl FA
  have y0 := HL0.out.h.cell 0
  have y1 := HL0.out.h.cell 1
  have y2 := HL0.out.h.cell 2
  have y3 := HL0.out.h.cell 3
  have y4 := HL0.out.h.cell 4
  have y5 := HL0.out.h.cell 5
  have y6 := HL0.out.h.cell 6
  have y7 := HL0.out.h.cell 7
  simp only [List.getElem?_toArray, List.getElem?_cons_succ, List.getElem?_cons_zero] at y0 y1 y2 y3 y4 y5 y6 y7
  have ly := HL0.out.h.lt
  go_enter Tryz.func114, Tryz.ntmps114
  have CC := HB0.out.todo (by have := HT0.out; omega) 26 n 0 e HE.out (k' := 26) (n' := (n : Nat)) (x' := 0) rfl rfl rfl
  rw [HEA.out] at CC
  have HCC := hid CC
  clear CC
  go_wp2_with fail
  refine HCC.out.mono ?_
  rintro e9 w1 ⟨rfl, A11, BB, SS⟩
  clear HCC y0 y1 y2 y3 y4 y5 y6 y7 ly
  have HB1 := hid BB
  have HL1 := hid (HL0.out.st SS)
  have HT1 : Hid ((M.todo [⟨26, n, 0, e⟩]).th.tasks.length ≤ 999900 + 1) := by
    show _ ≤ _
    rw [th_todo HB0.out.c]
    have := HT0.out
    simp
    omega
  have HV1 : Hid ((M.todo [⟨26, n, 0, e⟩]).th.vals.length ≤ 999990 + 1) := by
    show _ ≤ _
    rw [th_todo HB0.out.c]
    have := HV0.out
    simp
    omega
  clear BB SS
  have y0 := HL1.out.h.cell 0
  have y1 := HL1.out.h.cell 1
  have y2 := HL1.out.h.cell 2
  have y3 := HL1.out.h.cell 3
  have y4 := HL1.out.h.cell 4
  have y5 := HL1.out.h.cell 5
  have y6 := HL1.out.h.cell 6
  have y7 := HL1.out.h.cell 7
  simp only [List.getElem?_toArray, List.getElem?_cons_succ, List.getElem?_cons_zero] at y0 y1 y2 y3 y4 y5 y6 y7
  have ly := HL1.out.h.lt
  have CC := HB1.out.todo (by have := HT1.out; omega) 2 da 0 e HE.out (k' := 2) (n' := (da : Nat)) (x' := 0) rfl rfl rfl
  rw [HEA.out] at CC
  have HCC := hid CC
  clear CC
  go_wp2_with fail
  refine HCC.out.mono ?_
  rintro e10 w2 ⟨rfl, A12, BB, SS⟩
  clear HCC y0 y1 y2 y3 y4 y5 y6 y7 ly
  have HB2 := hid BB
  have HL2 := hid (HL1.out.st SS)
  have HT2 : Hid (((M.todo [⟨26, n, 0, e⟩]).todo [⟨2, da, 0, e⟩]).th.tasks.length ≤ 999900 + 2) := by
    show _ ≤ _
    rw [th_todo HB1.out.c]
    have := HT1.out
    simp
    omega
  have HV2 : Hid (((M.todo [⟨26, n, 0, e⟩]).todo [⟨2, da, 0, e⟩]).th.vals.length ≤ 999990 + 2) := by
    show _ ≤ _
    rw [th_todo HB1.out.c]
    have := HV1.out
    simp
    omega
  clear BB SS
  have y0 := HL2.out.h.cell 0
  have y1 := HL2.out.h.cell 1
  have y2 := HL2.out.h.cell 2
  have y3 := HL2.out.h.cell 3
  have y4 := HL2.out.h.cell 4
  have y5 := HL2.out.h.cell 5
  have y6 := HL2.out.h.cell 6
  have y7 := HL2.out.h.cell 7
  simp only [List.getElem?_toArray, List.getElem?_cons_succ, List.getElem?_cons_zero] at y0 y1 y2 y3 y4 y5 y6 y7
  have ly := HL2.out.h.lt
  have FIN : Hid (Q (.returned (.tuple #[])) w2) := by
    show Q _ _
    rw [← HQ.out, HZ.out]
    exact HB2.out.end
  go_wp2
  go_end0
  exact FIN.out
theorem eval25 (B : RB w A N root W A1 M) (hl : M.th.tasks.length ≤ 999900) (hvl : M.th.vals.length ≤ 999990) {n : Nat} (hn : n < N.length) (hn0 : n ≠ 0) (hN : N.length ≤ 1000) {x : Nat} {e : Option Nat} (he : ∀ i, e = some i → i < A.E.length) (hk : (N.getD n nd0).k = 25) :
    Calls Tryz.prog 114 #[.pointer (some ⟨A.br, 0, none⟩), .int .i64 n, .int .i64 x, .pointer (eAd A.E e)] W (PQm w A N root (M.eval N n x e)) := by
  obtain ⟨Q, HQ⟩ : ∃ Q : Ending → World → Prop, Hid (PQm w A N root (M.eval N n x e) = Q) := ⟨_, rfl⟩
  rw [HQ.out]
  obtain ⟨g, c, D⟩ := B.nd hn
  obtain ⟨c2, lc, lb, lg, ln, d0, d1, d2, d3, d4, d5, d6, d7⟩ := D
  obtain ⟨cc0, cc1, lcc⟩ := B.c0
  have HB := hid B
  have HE := hid he
  have HT0 : Hid (M.th.tasks.length ≤ 999900 + 0) := hl
  have HV0 : Hid (M.th.vals.length ≤ 999990 + 0) := hvl
  obtain ⟨⟨dk, da, db, dc, dnx, dn, dss, dp⟩, HD⟩ : ∃ d, Hid (N.getD n nd0 = d) := ⟨_, rfl⟩
  have HZ : Hid (M.eval N n x e = (M.todo [⟨27, n, 0, e⟩]).todo [⟨2, da, 0, e⟩]) := by
    show _ = _
    unfold MD.eval
    dsimp only
    rw [if_neg hn0, HD.out]
    rw [HD.out] at hk
    dsimp only at hk
    subst hk
    simp (config := { decide := true }) only [if_true, if_false]
    rw [todo_todo HB.out.c]
    rfl
  rw [HD.out] at d0 d1 d2 d3 d4 d5 d6 d7 hk
  dsimp only at d0 d1 d2 d3 d4 d5 d6 d7 hk
  subst hk
  obtain ⟨NL, HLL⟩ : ∃ NL : Nat, Hid (N.length = NL) := ⟨_, rfl⟩
  rw [HLL.out] at c2 lc ln hN
  have FA : Fr (fun _ => False) W (W.alloc (.cells #[.int .i64 (25 : Nat), .int .i64 (da : Nat), .int .i64 (db : Nat), .int .i64 (dc : Nat), .int .i64 (dnx : Nat), .int .u64 (dn : Nat), sv dss, .int .i64 (dp : Nat)] 134)) := (Fr.refl _ _).alloc _
  have HFA := hid FA
  have HB0 := hid (B.fresh FA)
  have HL0 : Hid (LcB (W.alloc (.cells #[.int .i64 (25 : Nat), .int .i64 (da : Nat), .int .i64 (db : Nat), .int .i64 (dc : Nat), .int .i64 (dnx : Nat), .int .u64 (dn : Nat), sv dss, .int .i64 (dp : Nat)] 134)) A1 W.heap.size #[.int .i64 (25 : Nat), .int .i64 (da : Nat), .int .i64 (db : Nat), .int .i64 (dc : Nat), .int .i64 (dnx : Nat), .int .u64 (dn : Nat), sv dss, .int .i64 (dp : Nat)] 134) := LcB.new B.r.own _ _
  obtain ⟨ea, HEA⟩ : ∃ ea, Hid (eAd A.E e = ea) := ⟨_, rfl⟩
  rw [HEA.out]
  have bn0 : ((n : Int) == 0) = false := by rw [beq_eq_false_iff_ne]; omega
  clear B he hl hvl FA
  have y0 := HL0.out.h.cell 0
  have y1 := HL0.out.h.cell 1
  have y2 := HL0.out.h.cell 2
  have y3 := HL0.out.h.cell 3
  have y4 := HL0.out.h.cell 4
  have y5 := HL0.out.h.cell 5
  have y6 := HL0.out.h.cell 6
  have y7 := HL0.out.h.cell 7
  simp only [List.getElem?_toArray, List.getElem?_cons_succ, List.getElem?_cons_zero] at y0 y1 y2 y3 y4 y5 y6 y7
  have ly := HL0.out.h.lt
  go_enter Tryz.func114, Tryz.ntmps114
  have CC := HB0.out.todo (by have := HT0.out; omega) 27 n 0 e HE.out (k' := 27) (n' := (n : Nat)) (x' := 0) rfl rfl rfl
  rw [HEA.out] at CC
  have HCC := hid CC
  clear CC
  go_wp2_with fail
  refine HCC.out.mono ?_
  rintro e9 w1 ⟨rfl, A11, BB, SS⟩
  clear HCC y0 y1 y2 y3 y4 y5 y6 y7 ly
  have HB1 := hid BB
  have HL1 := hid (HL0.out.st SS)
  have HT1 : Hid ((M.todo [⟨27, n, 0, e⟩]).th.tasks.length ≤ 999900 + 1) := by
    show _ ≤ _
    rw [th_todo HB0.out.c]
    have := HT0.out
    simp
    omega
  have HV1 : Hid ((M.todo [⟨27, n, 0, e⟩]).th.vals.length ≤ 999990 + 1) := by
    show _ ≤ _
    rw [th_todo HB0.out.c]
    have := HV0.out
    simp
    omega
  clear BB SS
  have y0 := HL1.out.h.cell 0
  have y1 := HL1.out.h.cell 1
  have y2 := HL1.out.h.cell 2
  have y3 := HL1.out.h.cell 3
  have y4 := HL1.out.h.cell 4
  have y5 := HL1.out.h.cell 5
  have y6 := HL1.out.h.cell 6
  have y7 := HL1.out.h.cell 7
  simp only [List.getElem?_toArray, List.getElem?_cons_succ, List.getElem?_cons_zero] at y0 y1 y2 y3 y4 y5 y6 y7
  have ly := HL1.out.h.lt
  have CC := HB1.out.todo (by have := HT1.out; omega) 2 da 0 e HE.out (k' := 2) (n' := (da : Nat)) (x' := 0) rfl rfl rfl
  rw [HEA.out] at CC
  have HCC := hid CC
  clear CC
  go_wp2_with fail
  refine HCC.out.mono ?_
  rintro e10 w2 ⟨rfl, A12, BB, SS⟩
  clear HCC y0 y1 y2 y3 y4 y5 y6 y7 ly
  have HB2 := hid BB
  have HL2 := hid (HL1.out.st SS)
  have HT2 : Hid (((M.todo [⟨27, n, 0, e⟩]).todo [⟨2, da, 0, e⟩]).th.tasks.length ≤ 999900 + 2) := by
    show _ ≤ _
    rw [th_todo HB1.out.c]
    have := HT1.out
    simp
    omega
  have HV2 : Hid (((M.todo [⟨27, n, 0, e⟩]).todo [⟨2, da, 0, e⟩]).th.vals.length ≤ 999990 + 2) := by
    show _ ≤ _
    rw [th_todo HB1.out.c]
    have := HV1.out
    simp
    omega
  clear BB SS
  have y0 := HL2.out.h.cell 0
  have y1 := HL2.out.h.cell 1
  have y2 := HL2.out.h.cell 2
  have y3 := HL2.out.h.cell 3
  have y4 := HL2.out.h.cell 4
  have y5 := HL2.out.h.cell 5
  have y6 := HL2.out.h.cell 6
  have y7 := HL2.out.h.cell 7
  simp only [List.getElem?_toArray, List.getElem?_cons_succ, List.getElem?_cons_zero] at y0 y1 y2 y3 y4 y5 y6 y7
  have ly := HL2.out.h.lt
  have FIN : Hid (Q (.returned (.tuple #[])) w2) := by
    show Q _ _
    rw [← HQ.out, HZ.out]
    exact HB2.out.end
  go_wp2
  go_end0
  exact FIN.out
end
end Go.Proofs.Qxb6500574aGreatDoor
