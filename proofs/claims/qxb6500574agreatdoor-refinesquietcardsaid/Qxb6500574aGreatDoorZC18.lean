/-
  THE WALKS of compm: stmt, the plain kinds.
-/
import Derived.Test.Qxb6500574aGreatDoorZC17
namespace Go.Proofs.Qxb6500574aGreatDoor
open Go Go.RowKit
set_option linter.unusedVariables false
set_option linter.unusedSimpArgs false
section
variable {w W W1 : World} {A A1 A2 : RnP} {N : List Nd} {root : Nat} {M : MD}
set_option maxRecDepth 100000
set_option maxHeartbeats 1000000
theorem stmt1a (B : RB w A N root W A1 M) (hl : M.th.tasks.length ≤ 999900) (hvl : M.th.vals.length ≤ 999990) {n : Nat} (hn : n < N.length) (hN : N.length ≤ 1000) {e : Option Nat} (he : ∀ i, e = some i → i < A.E.length) (hk : (N.getD n nd0).k = 1) (ha : (N.getD n nd0).a ≠ 0) :
    Calls Tryz.prog 113 #[.pointer (some ⟨A.br, 0, none⟩), .int .i64 n, .pointer (eAd A.E e)] W (PQm w A N root (M.stmt N n e)) := by
  obtain ⟨Q, HQ⟩ : ∃ Q : Ending → World → Prop, Hid (PQm w A N root (M.stmt N n e) = Q) := ⟨_, rfl⟩
  rw [HQ.out]
  obtain ⟨g, c, D⟩ := B.nd hn
  obtain ⟨c2, lc, lb, lg, ln, d0, d1, d2, d3, d4, d5, d6, d7⟩ := D
  obtain ⟨cc0, cc1, lcc⟩ := B.c0
  have HB := hid B
  have HE := hid he
  have HT0 : Hid (M.th.tasks.length ≤ 999900 + 0) := hl
  have HV0 : Hid (M.th.vals.length ≤ 999990 + 0) := hvl
  obtain ⟨⟨dk, da, db, dc, dnx, dn, dss, dp⟩, HD⟩ : ∃ d, Hid (N.getD n nd0 = d) := ⟨_, rfl⟩
  have HZ : Hid (M.stmt N n e = (M.todo [⟨6, n, 0, e⟩]).todo [⟨2, da, 0, e⟩]) := by
    show _ = _
    unfold MD.stmt
    dsimp only
    rw [HD.out]
    rw [HD.out] at hk
    dsimp only at hk
    subst hk
    simp (config := { decide := true }) only [if_true, if_false]
    have ha2 := ha
    rw [HD.out] at ha2
    dsimp only at ha2
    rw [if_pos ha2, todo_todo HB.out.c]
    rfl
  rw [HD.out] at d0 d1 d2 d3 d4 d5 d6 d7 hk ha
  dsimp only at d0 d1 d2 d3 d4 d5 d6 d7 hk ha
  subst hk
  obtain ⟨NL, HLL⟩ : ∃ NL : Nat, Hid (N.length = NL) := ⟨_, rfl⟩
  rw [HLL.out] at c2 lc ln hN
  have FA : Fr (fun _ => False) W (W.alloc (.cells #[.int .i64 (1 : Nat), .int .i64 (da : Nat), .int .i64 (db : Nat), .int .i64 (dc : Nat), .int .i64 (dnx : Nat), .int .u64 (dn : Nat), sv dss, .int .i64 (dp : Nat)] 134)) := (Fr.refl _ _).alloc _
  have HFA := hid FA
  have HB0 := hid (B.fresh FA)
  have HL0 : Hid (LcB (W.alloc (.cells #[.int .i64 (1 : Nat), .int .i64 (da : Nat), .int .i64 (db : Nat), .int .i64 (dc : Nat), .int .i64 (dnx : Nat), .int .u64 (dn : Nat), sv dss, .int .i64 (dp : Nat)] 134)) A1 W.heap.size #[.int .i64 (1 : Nat), .int .i64 (da : Nat), .int .i64 (db : Nat), .int .i64 (dc : Nat), .int .i64 (dnx : Nat), .int .u64 (dn : Nat), sv dss, .int .i64 (dp : Nat)] 134) := LcB.new B.r.own _ _
  obtain ⟨ea, HEA⟩ : ∃ ea, Hid (eAd A.E e = ea) := ⟨_, rfl⟩
  rw [HEA.out]
  clear B he hl hvl FA
  have ba : ((da : Int) != 0) = true := by rw [bne_iff_ne]; omega
  clear ha
  have y0 := HL0.out.h.cell 0
  have y1 := HL0.out.h.cell 1
  have y2 := HL0.out.h.cell 2
  have y3 := HL0.out.h.cell 3
  have y4 := HL0.out.h.cell 4
  have y5 := HL0.out.h.cell 5
  have y6 := HL0.out.h.cell 6
  have y7 := HL0.out.h.cell 7
  simp only [List.getElem?_toArray, List.getElem?_cons_succ, List.getElem?_cons_zero] at y0 y1 y2 y3 y4 y5 y6 y7
  have ly := HL0.out.h.lt
  go_enter Tryz.func113, Tryz.ntmps113
  have CC := HB0.out.todo (by have := HT0.out; omega) 6 n 0 e HE.out (k' := 6) (n' := (n : Nat)) (x' := 0) rfl rfl rfl
  rw [HEA.out] at CC
  have HCC := hid CC
  clear CC
  go_wp2_with fail
  refine HCC.out.mono ?_
  rintro e9 w1 ⟨rfl, A11, BB, SS⟩
  clear HCC y0 y1 y2 y3 y4 y5 y6 y7 ly
  have HB1 := hid BB
  have HL1 := hid (HL0.out.st SS)
  have HT1 : Hid ((M.todo [⟨6, n, 0, e⟩]).th.tasks.length ≤ 999900 + 1) := by
    show _ ≤ _
    rw [th_todo HB0.out.c]
    have := HT0.out
    simp
    omega
  have HV1 : Hid ((M.todo [⟨6, n, 0, e⟩]).th.vals.length ≤ 999990 + 1) := by
    show _ ≤ _
    rw [th_todo HB0.out.c]
    have := HV0.out
    simp
    omega
  clear BB SS
  have y0 := HL1.out.h.cell 0
  have y1 := HL1.out.h.cell 1
  have y2 := HL1.out.h.cell 2
  have y3 := HL1.out.h.cell 3
  have y4 := HL1.out.h.cell 4
  have y5 := HL1.out.h.cell 5
  have y6 := HL1.out.h.cell 6
  have y7 := HL1.out.h.cell 7
  simp only [List.getElem?_toArray, List.getElem?_cons_succ, List.getElem?_cons_zero] at y0 y1 y2 y3 y4 y5 y6 y7
  have ly := HL1.out.h.lt
  have CC := HB1.out.todo (by have := HT1.out; omega) 2 da 0 e HE.out (k' := 2) (n' := (da : Nat)) (x' := 0) rfl rfl rfl
  rw [HEA.out] at CC
  have HCC := hid CC
  clear CC
  go_wp2_with fail
  refine HCC.out.mono ?_
  rintro e10 w2 ⟨rfl, A12, BB, SS⟩
  clear HCC y0 y1 y2 y3 y4 y5 y6 y7 ly
  have HB2 := hid BB
  have HL2 := hid (HL1.out.st SS)
  have HT2 : Hid (((M.todo [⟨6, n, 0, e⟩]).todo [⟨2, da, 0, e⟩]).th.tasks.length ≤ 999900 + 2) := by
    show _ ≤ _
    rw [th_todo HB1.out.c]
    have := HT1.out
    simp
    omega
  have HV2 : Hid (((M.todo [⟨6, n, 0, e⟩]).todo [⟨2, da, 0, e⟩]).th.vals.length ≤ 999990 + 2) := by
    show _ ≤ _
    rw [th_todo HB1.out.c]
    have := HV1.out
    simp
    omega
  clear BB SS
  have y0 := HL2.out.h.cell 0
  have y1 := HL2.out.h.cell 1
  have y2 := HL2.out.h.cell 2
  have y3 := HL2.out.h.cell 3
  have y4 := HL2.out.h.cell 4
  have y5 := HL2.out.h.cell 5
  have y6 := HL2.out.h.cell 6
  have y7 := HL2.out.h.cell 7
  simp only [List.getElem?_toArray, List.getElem?_cons_succ, List.getElem?_cons_zero] at y0 y1 y2 y3 y4 y5 y6 y7
  have ly := HL2.out.h.lt
  have FIN : Hid (Q (.returned (.tuple #[])) w2) := by
    show Q _ _
    rw [← HQ.out, HZ.out]
    exact HB2.out.end
  go_wp2
  refine bodyPost_ret (results_none rfl _ _ _) rfl ?_
  exact FIN.out
theorem stmt1b (B : RB w A N root W A1 M) (hl : M.th.tasks.length ≤ 999900) (hvl : M.th.vals.length ≤ 999990) {n : Nat} (hn : n < N.length) (hN : N.length ≤ 1000) {e : Option Nat} (he : ∀ i, e = some i → i < A.E.length) (hk : (N.getD n nd0).k = 1) (ha : (N.getD n nd0).a = 0) :
    Calls Tryz.prog 113 #[.pointer (some ⟨A.br, 0, none⟩), .int .i64 n, .pointer (eAd A.E e)] W (PQm w A N root (M.stmt N n e)) := by
  obtain ⟨Q, HQ⟩ : ∃ Q : Ending → World → Prop, Hid (PQm w A N root (M.stmt N n e) = Q) := ⟨_, rfl⟩
  rw [HQ.out]
  obtain ⟨g, c, D⟩ := B.nd hn
  obtain ⟨c2, lc, lb, lg, ln, d0, d1, d2, d3, d4, d5, d6, d7⟩ := D
  obtain ⟨cc0, cc1, lcc⟩ := B.c0
  have HB := hid B
  have HE := hid he
  have HT0 : Hid (M.th.tasks.length ≤ 999900 + 0) := hl
  have HV0 : Hid (M.th.vals.length ≤ 999990 + 0) := hvl
  obtain ⟨⟨dk, da, db, dc, dnx, dn, dss, dp⟩, HD⟩ : ∃ d, Hid (N.getD n nd0 = d) := ⟨_, rfl⟩
  have HZ : Hid (M.stmt N n e = (M.todo [⟨6, n, 0, e⟩]).push [nilV]) := by
    show _ = _
    unfold MD.stmt
    dsimp only
    rw [HD.out]
    rw [HD.out] at hk
    dsimp only at hk
    subst hk
    simp (config := { decide := true }) only [if_true, if_false]
    have ha2 := ha
    rw [HD.out] at ha2
    dsimp only at ha2
    rw [if_neg (fun z => z ha2)]
  rw [HD.out] at d0 d1 d2 d3 d4 d5 d6 d7 hk ha
  dsimp only at d0 d1 d2 d3 d4 d5 d6 d7 hk ha
  subst hk
  obtain ⟨NL, HLL⟩ : ∃ NL : Nat, Hid (N.length = NL) := ⟨_, rfl⟩
  rw [HLL.out] at c2 lc ln hN
  have FA : Fr (fun _ => False) W (W.alloc (.cells #[.int .i64 (1 : Nat), .int .i64 (da : Nat), .int .i64 (db : Nat), .int .i64 (dc : Nat), .int .i64 (dnx : Nat), .int .u64 (dn : Nat), sv dss, .int .i64 (dp : Nat)] 134)) := (Fr.refl _ _).alloc _
  have HFA := hid FA
  have HB0 := hid (B.fresh FA)
  have HL0 : Hid (LcB (W.alloc (.cells #[.int .i64 (1 : Nat), .int .i64 (da : Nat), .int .i64 (db : Nat), .int .i64 (dc : Nat), .int .i64 (dnx : Nat), .int .u64 (dn : Nat), sv dss, .int .i64 (dp : Nat)] 134)) A1 W.heap.size #[.int .i64 (1 : Nat), .int .i64 (da : Nat), .int .i64 (db : Nat), .int .i64 (dc : Nat), .int .i64 (dnx : Nat), .int .u64 (dn : Nat), sv dss, .int .i64 (dp : Nat)] 134) := LcB.new B.r.own _ _
  obtain ⟨ea, HEA⟩ : ∃ ea, Hid (eAd A.E e = ea) := ⟨_, rfl⟩
  rw [HEA.out]
  clear B he hl hvl FA
  have ba : ((da : Int) != 0) = false := by rw [ha]; rfl
  clear ha
  have y0 := HL0.out.h.cell 0
  have y1 := HL0.out.h.cell 1
  have y2 := HL0.out.h.cell 2
  have y3 := HL0.out.h.cell 3
  have y4 := HL0.out.h.cell 4
  have y5 := HL0.out.h.cell 5
  have y6 := HL0.out.h.cell 6
  have y7 := HL0.out.h.cell 7
  simp only [List.getElem?_toArray, List.getElem?_cons_succ, List.getElem?_cons_zero] at y0 y1 y2 y3 y4 y5 y6 y7
  have ly := HL0.out.h.lt
  go_enter Tryz.func113, Tryz.ntmps113
  have CC := HB0.out.todo (by have := HT0.out; omega) 6 n 0 e HE.out (k' := 6) (n' := (n : Nat)) (x' := 0) rfl rfl rfl
  rw [HEA.out] at CC
  have HCC := hid CC
  clear CC
  go_wp2_with fail
  refine HCC.out.mono ?_
  rintro e9 w1 ⟨rfl, A11, BB, SS⟩
  clear HCC y0 y1 y2 y3 y4 y5 y6 y7 ly
  have HB1 := hid BB
  have HL1 := hid (HL0.out.st SS)
  have HT1 : Hid ((M.todo [⟨6, n, 0, e⟩]).th.tasks.length ≤ 999900 + 1) := by
    show _ ≤ _
    rw [th_todo HB0.out.c]
    have := HT0.out
    simp
    omega
  have HV1 : Hid ((M.todo [⟨6, n, 0, e⟩]).th.vals.length ≤ 999990 + 1) := by
    show _ ≤ _
    rw [th_todo HB0.out.c]
    have := HV0.out
    simp
    omega
  clear BB SS
  have y0 := HL1.out.h.cell 0
  have y1 := HL1.out.h.cell 1
  have y2 := HL1.out.h.cell 2
  have y3 := HL1.out.h.cell 3
  have y4 := HL1.out.h.cell 4
  have y5 := HL1.out.h.cell 5
  have y6 := HL1.out.h.cell 6
  have y7 := HL1.out.h.cell 7
  simp only [List.getElem?_toArray, List.getElem?_cons_succ, List.getElem?_cons_zero] at y0 y1 y2 y3 y4 y5 y6 y7
  have ly := HL1.out.h.lt
  have CC := HB1.out.push (by have := HV1.out; omega) nilV
  have HCC := hid CC
  clear CC
  go_wp2_with fail
  refine HCC.out.mono ?_
  rintro e10 w2 ⟨rfl, A12, BB, SS⟩
  clear HCC y0 y1 y2 y3 y4 y5 y6 y7 ly
  have HB2 := hid BB
  have HL2 := hid (HL1.out.st SS)
  have HT2 : Hid (((M.todo [⟨6, n, 0, e⟩]).push [nilV]).th.tasks.length ≤ 999900 + 2) := by
    show _ ≤ _
    rw [th_push HB1.out.c]
    have := HT1.out
    simp
    omega
  have HV2 : Hid (((M.todo [⟨6, n, 0, e⟩]).push [nilV]).th.vals.length ≤ 999990 + 2) := by
    show _ ≤ _
    rw [th_push HB1.out.c]
    have := HV1.out
    simp
    omega
  clear BB SS
  have y0 := HL2.out.h.cell 0
  have y1 := HL2.out.h.cell 1
  have y2 := HL2.out.h.cell 2
  have y3 := HL2.out.h.cell 3
  have y4 := HL2.out.h.cell 4
  have y5 := HL2.out.h.cell 5
  have y6 := HL2.out.h.cell 6
  have y7 := HL2.out.h.cell 7
  simp only [List.getElem?_toArray, List.getElem?_cons_succ, List.getElem?_cons_zero] at y0 y1 y2 y3 y4 y5 y6 y7
  have ly := HL2.out.h.lt
  have FIN : Hid (Q (.returned (.tuple #[])) w2) := by
    show Q _ _
    rw [← HQ.out, HZ.out]
    exact HB2.out.end
  go_wp2
  refine bodyPost_ret (results_none rfl _ _ _) rfl ?_
  exact FIN.out
theorem stmt2 (B : RB w A N root W A1 M) (hl : M.th.tasks.length ≤ 999900) (hvl : M.th.vals.length ≤ 999990) {n : Nat} (hn : n < N.length) (hN : N.length ≤ 1000) {e : Option Nat} (he : ∀ i, e = some i → i < A.E.length) (hk : (N.getD n nd0).k = 2) (hnx : ∀ n, n < N.length → (N.getD n nd0).next = 0 ∨ (N.getD n nd0).next < N.length) (hb : (N.getD n nd0).b < N.length) (hbb : (N.getD (N.getD n nd0).b nd0).b < N.length) :
    Calls Tryz.prog 113 #[.pointer (some ⟨A.br, 0, none⟩), .int .i64 n, .pointer (eAd A.E e)] W (PQm w A N root (M.stmt N n e)) := by
  obtain ⟨Q, HQ⟩ : ∃ Q : Ending → World → Prop, Hid (PQm w A N root (M.stmt N n e) = Q) := ⟨_, rfl⟩
  rw [HQ.out]
  obtain ⟨g, c, D⟩ := B.nd hn
  obtain ⟨c2, lc, lb, lg, ln, d0, d1, d2, d3, d4, d5, d6, d7⟩ := D
  obtain ⟨cc0, cc1, lcc⟩ := B.c0
  have HB := hid B
  have HE := hid he
  have HT0 : Hid (M.th.tasks.length ≤ 999900 + 0) := hl
  have HV0 : Hid (M.th.vals.length ≤ 999990 + 0) := hvl
  have HNX := hid hnx
  have HN3 : Hid (N.length ≤ 1000) := hN
  clear hnx
  obtain ⟨⟨dk, da, db, dc, dnx, dn, dss, dp⟩, HD⟩ : ∃ d, Hid (N.getD n nd0 = d) := ⟨_, rfl⟩
  have HZ : Hid (M.stmt N n e = (M.todo [⟨7, n, 0, e⟩]).call N db e) := by
    show _ = _
    unfold MD.stmt
    dsimp only
    rw [HD.out]
    rw [HD.out] at hk
    dsimp only at hk
    subst hk
    simp (config := { decide := true }) only [if_true, if_false]
  rw [HD.out] at d0 d1 d2 d3 d4 d5 d6 d7 hk hb hbb
  dsimp only at d0 d1 d2 d3 d4 d5 d6 d7 hk hb hbb
  subst hk
  have HBB := hid hbb
  have HNN := hid hb
  clear hb hbb
  obtain ⟨NL, HLL⟩ : ∃ NL : Nat, Hid (N.length = NL) := ⟨_, rfl⟩
  rw [HLL.out] at c2 lc ln hN
  have FA : Fr (fun _ => False) W (W.alloc (.cells #[.int .i64 (2 : Nat), .int .i64 (da : Nat), .int .i64 (db : Nat), .int .i64 (dc : Nat), .int .i64 (dnx : Nat), .int .u64 (dn : Nat), sv dss, .int .i64 (dp : Nat)] 134)) := (Fr.refl _ _).alloc _
  have HFA := hid FA
  have HB0 := hid (B.fresh FA)
  have HL0 : Hid (LcB (W.alloc (.cells #[.int .i64 (2 : Nat), .int .i64 (da : Nat), .int .i64 (db : Nat), .int .i64 (dc : Nat), .int .i64 (dnx : Nat), .int .u64 (dn : Nat), sv dss, .int .i64 (dp : Nat)] 134)) A1 W.heap.size #[.int .i64 (2 : Nat), .int .i64 (da : Nat), .int .i64 (db : Nat), .int .i64 (dc : Nat), .int .i64 (dnx : Nat), .int .u64 (dn : Nat), sv dss, .int .i64 (dp : Nat)] 134) := LcB.new B.r.own _ _
  obtain ⟨ea, HEA⟩ : ∃ ea, Hid (eAd A.E e = ea) := ⟨_, rfl⟩
  rw [HEA.out]
  clear B he hl hvl FA
  have y0 := HL0.out.h.cell 0
  have y1 := HL0.out.h.cell 1
  have y2 := HL0.out.h.cell 2
  have y3 := HL0.out.h.cell 3
  have y4 := HL0.out.h.cell 4
  have y5 := HL0.out.h.cell 5
  have y6 := HL0.out.h.cell 6
  have y7 := HL0.out.h.cell 7
  simp only [List.getElem?_toArray, List.getElem?_cons_succ, List.getElem?_cons_zero] at y0 y1 y2 y3 y4 y5 y6 y7
  have ly := HL0.out.h.lt
  go_enter Tryz.func113, Tryz.ntmps113
  have CC := HB0.out.todo (by have := HT0.out; omega) 7 n 0 e HE.out (k' := 7) (n' := (n : Nat)) (x' := 0) rfl rfl rfl
  rw [HEA.out] at CC
  have HCC := hid CC
  clear CC
  go_wp2_with fail
  refine HCC.out.mono ?_
  rintro e9 w1 ⟨rfl, A11, BB, SS⟩
  clear HCC y0 y1 y2 y3 y4 y5 y6 y7 ly
  have HB1 := hid BB
  have HL1 := hid (HL0.out.st SS)
  have HT1 : Hid ((M.todo [⟨7, n, 0, e⟩]).th.tasks.length ≤ 999900 + 1) := by
    show _ ≤ _
    rw [th_todo HB0.out.c]
    have := HT0.out
    simp
    omega
  have HV1 : Hid ((M.todo [⟨7, n, 0, e⟩]).th.vals.length ≤ 999990 + 1) := by
    show _ ≤ _
    rw [th_todo HB0.out.c]
    have := HV0.out
    simp
    omega
  clear BB SS
  have y0 := HL1.out.h.cell 0
  have y1 := HL1.out.h.cell 1
  have y2 := HL1.out.h.cell 2
  have y3 := HL1.out.h.cell 3
  have y4 := HL1.out.h.cell 4
  have y5 := HL1.out.h.cell 5
  have y6 := HL1.out.h.cell 6
  have y7 := HL1.out.h.cell 7
  simp only [List.getElem?_toArray, List.getElem?_cons_succ, List.getElem?_cons_zero] at y0 y1 y2 y3 y4 y5 y6 y7
  have ly := HL1.out.h.lt
  have CC := call_m HB1.out (by have := HT1.out; omega) db HNN.out HBB.out HNX.out HN3.out e HE.out (n' := (db : Nat)) rfl
  rw [HEA.out] at CC
  have HCC := hid CC
  clear CC
  go_wp2_with fail
  refine HCC.out.mono ?_
  rintro e11 w2 ⟨rfl, A12, BB, SS⟩
  clear HCC y0 y1 y2 y3 y4 y5 y6 y7 ly
  have HB2 := hid BB
  clear BB SS
  have FIN : Hid (Q (.returned (.tuple #[])) w2) := by
    show Q _ _
    rw [← HQ.out, HZ.out]
    exact HB2.out.end
  go_wp2
  refine bodyPost_ret (results_none rfl _ _ _) rfl ?_
  exact FIN.out
theorem stmt5 (B : RB w A N root W A1 M) (hl : M.th.tasks.length ≤ 999900) (hvl : M.th.vals.length ≤ 999990) {n : Nat} (hn : n < N.length) (hN : N.length ≤ 1000) {e : Option Nat} (he : ∀ i, e = some i → i < A.E.length) (hk : (N.getD n nd0).k = 5) :
    Calls Tryz.prog 113 #[.pointer (some ⟨A.br, 0, none⟩), .int .i64 n, .pointer (eAd A.E e)] W (PQm w A N root (M.stmt N n e)) := by
  obtain ⟨Q, HQ⟩ : ∃ Q : Ending → World → Prop, Hid (PQm w A N root (M.stmt N n e) = Q) := ⟨_, rfl⟩
  rw [HQ.out]
  obtain ⟨g, c, D⟩ := B.nd hn
  obtain ⟨c2, lc, lb, lg, ln, d0, d1, d2, d3, d4, d5, d6, d7⟩ := D
  obtain ⟨cc0, cc1, lcc⟩ := B.c0
  have HB := hid B
  have HE := hid he
  have HT0 : Hid (M.th.tasks.length ≤ 999900 + 0) := hl
  have HV0 : Hid (M.th.vals.length ≤ 999990 + 0) := hvl
  obtain ⟨⟨dk, da, db, dc, dnx, dn, dss, dp⟩, HD⟩ : ∃ d, Hid (N.getD n nd0 = d) := ⟨_, rfl⟩
  have HZ : Hid (M.stmt N n e = ((M.todo [⟨1, dnx, 0, e⟩]).todo [⟨5, 0, 0, none⟩]).todo [⟨2, da, 0, e⟩]) := by
    show _ = _
    unfold MD.stmt
    dsimp only
    rw [HD.out]
    rw [HD.out] at hk
    dsimp only at hk
    subst hk
    simp (config := { decide := true }) only [if_true, if_false]
    rw [todo_todo (c_todo HB.out.c _)]
    rfl
  rw [HD.out] at d0 d1 d2 d3 d4 d5 d6 d7 hk
  dsimp only at d0 d1 d2 d3 d4 d5 d6 d7 hk
  subst hk
  obtain ⟨NL, HLL⟩ : ∃ NL : Nat, Hid (N.length = NL) := ⟨_, rfl⟩
  rw [HLL.out] at c2 lc ln hN
  have FA : Fr (fun _ => False) W (W.alloc (.cells #[.int .i64 (5 : Nat), .int .i64 (da : Nat), .int .i64 (db : Nat), .int .i64 (dc : Nat), .int .i64 (dnx : Nat), .int .u64 (dn : Nat), sv dss, .int .i64 (dp : Nat)] 134)) := (Fr.refl _ _).alloc _
  have HFA := hid FA
  have HB0 := hid (B.fresh FA)
  have HL0 : Hid (LcB (W.alloc (.cells #[.int .i64 (5 : Nat), .int .i64 (da : Nat), .int .i64 (db : Nat), .int .i64 (dc : Nat), .int .i64 (dnx : Nat), .int .u64 (dn : Nat), sv dss, .int .i64 (dp : Nat)] 134)) A1 W.heap.size #[.int .i64 (5 : Nat), .int .i64 (da : Nat), .int .i64 (db : Nat), .int .i64 (dc : Nat), .int .i64 (dnx : Nat), .int .u64 (dn : Nat), sv dss, .int .i64 (dp : Nat)] 134) := LcB.new B.r.own _ _
  obtain ⟨ea, HEA⟩ : ∃ ea, Hid (eAd A.E e = ea) := ⟨_, rfl⟩
  rw [HEA.out]
  clear B he hl hvl FA
  have y0 := HL0.out.h.cell 0
  have y1 := HL0.out.h.cell 1
  have y2 := HL0.out.h.cell 2
  have y3 := HL0.out.h.cell 3
  have y4 := HL0.out.h.cell 4
  have y5 := HL0.out.h.cell 5
  have y6 := HL0.out.h.cell 6
  have y7 := HL0.out.h.cell 7
  simp only [List.getElem?_toArray, List.getElem?_cons_succ, List.getElem?_cons_zero] at y0 y1 y2 y3 y4 y5 y6 y7
  have ly := HL0.out.h.lt
  go_enter Tryz.func113, Tryz.ntmps113
  have CC := HB0.out.todo (by have := HT0.out; omega) 1 dnx 0 e HE.out (k' := 1) (n' := (dnx : Nat)) (x' := 0) rfl rfl rfl
  rw [HEA.out] at CC
  have HCC := hid CC
  clear CC
  go_wp2_with fail
  refine HCC.out.mono ?_
  rintro e9 w1 ⟨rfl, A11, BB, SS⟩
  clear HCC y0 y1 y2 y3 y4 y5 y6 y7 ly
  have HB1 := hid BB
  have HL1 := hid (HL0.out.st SS)
  have HT1 : Hid ((M.todo [⟨1, dnx, 0, e⟩]).th.tasks.length ≤ 999900 + 1) := by
    show _ ≤ _
    rw [th_todo HB0.out.c]
    have := HT0.out
    simp
    omega
  have HV1 : Hid ((M.todo [⟨1, dnx, 0, e⟩]).th.vals.length ≤ 999990 + 1) := by
    show _ ≤ _
    rw [th_todo HB0.out.c]
    have := HV0.out
    simp
    omega
  clear BB SS
  have y0 := HL1.out.h.cell 0
  have y1 := HL1.out.h.cell 1
  have y2 := HL1.out.h.cell 2
  have y3 := HL1.out.h.cell 3
  have y4 := HL1.out.h.cell 4
  have y5 := HL1.out.h.cell 5
  have y6 := HL1.out.h.cell 6
  have y7 := HL1.out.h.cell 7
  simp only [List.getElem?_toArray, List.getElem?_cons_succ, List.getElem?_cons_zero] at y0 y1 y2 y3 y4 y5 y6 y7
  have ly := HL1.out.h.lt
  obtain ⟨gt, xx, hxx, htt, ⟨c5, c12, cg, l1, l2, l3, lc2, cl, t5⟩, O⟩ := HB1.out.r.cur HB1.out.c
  have c4 := O.b.has.cell 4
  simp only [thV, List.getElem?_toArray, List.getElem?_cons_succ, List.getElem?_cons_zero, Sl.v] at c4
  rw [HB1.out.s.br] at c5 c12 l1
  obtain ⟨VL, HVL⟩ : ∃ VL : Nat, Hid ((M.todo [⟨1, dnx, 0, e⟩]).th.vals.length = VL) := ⟨_, rfl⟩
  obtain ⟨LT, HLT⟩ : ∃ LT : Nat, Hid ((M.todo [⟨1, dnx, 0, e⟩]).ths.length = LT) := ⟨_, rfl⟩
  obtain ⟨cu, HCU⟩ : ∃ cu : Nat, Hid ((M.todo [⟨1, dnx, 0, e⟩]).cur = cu) := ⟨_, rfl⟩
  rw [HVL.out] at c4
  rw [HLT.out] at c5 lc2 cl t5
  rw [HCU.out] at c12 cg cl
  have HVB : Hid (VL ≤ 999991) := by show _ ≤ _; rw [← HVL.out]; exact HV1.out
  clear O hxx htt
  go_wp2
  refine wp_region_tail 14 (by kernel_rfl) (by kernel_rfl) (fun _ _ _ _ _ h => h) ?_
  simp only [List.take_succ_cons, List.take_zero, List.drop_succ_cons, List.drop_zero]
  repeat go_big_quiet_step (fail)
  refine wpQuiet_nil ?_
  clear c5 c12 cg l1 l2 l3 lc2 cl t5 c4
  have HB2 := hid HB1.out.drew
  have HL2 := hid (HL1.out.fr ((Fr.refl _ _).drew))
  have HT2 : Hid ((M.todo [⟨1, dnx, 0, e⟩]).th.tasks.length ≤ 999900 + 2) := by show _ ≤ _; have := HT1.out; omega
  have HV2 : Hid ((M.todo [⟨1, dnx, 0, e⟩]).th.vals.length ≤ 999990 + 2) := by show _ ≤ _; have := HV1.out; omega
  have CC := HB2.out.todo (by have := HT2.out; omega) 5 0 0 none (fun i hi => by cases hi) (k' := 5) (n' := (0 : Nat)) (x' := 0) rfl rfl rfl
  rw [show eAd A.E none = none from rfl] at CC
  have HCC := hid CC
  clear CC
  go_wp2_with fail
  refine HCC.out.mono ?_
  rintro e11 w3 ⟨rfl, A13, BB, SS⟩
  clear HCC y0 y1 y2 y3 y4 y5 y6 y7 ly
  have HB3 := hid BB
  have HL3 := hid (HL2.out.st SS)
  have HT3 : Hid (((M.todo [⟨1, dnx, 0, e⟩]).todo [⟨5, 0, 0, none⟩]).th.tasks.length ≤ 999900 + 3) := by
    show _ ≤ _
    rw [th_todo HB2.out.c]
    have := HT2.out
    simp
    omega
  have HV3 : Hid (((M.todo [⟨1, dnx, 0, e⟩]).todo [⟨5, 0, 0, none⟩]).th.vals.length ≤ 999990 + 3) := by
    show _ ≤ _
    rw [th_todo HB2.out.c]
    have := HV2.out
    simp
    omega
  clear BB SS
  have y0 := HL3.out.h.cell 0
  have y1 := HL3.out.h.cell 1
  have y2 := HL3.out.h.cell 2
  have y3 := HL3.out.h.cell 3
  have y4 := HL3.out.h.cell 4
  have y5 := HL3.out.h.cell 5
  have y6 := HL3.out.h.cell 6
  have y7 := HL3.out.h.cell 7
  simp only [List.getElem?_toArray, List.getElem?_cons_succ, List.getElem?_cons_zero] at y0 y1 y2 y3 y4 y5 y6 y7
  have ly := HL3.out.h.lt
  have CC := HB3.out.todo (by have := HT3.out; omega) 2 da 0 e HE.out (k' := 2) (n' := (da : Nat)) (x' := 0) rfl rfl rfl
  rw [HEA.out] at CC
  have HCC := hid CC
  clear CC
  go_wp2_with fail
  refine HCC.out.mono ?_
  rintro e12 w4 ⟨rfl, A14, BB, SS⟩
  clear HCC y0 y1 y2 y3 y4 y5 y6 y7 ly
  have HB4 := hid BB
  have HL4 := hid (HL3.out.st SS)
  have HT4 : Hid ((((M.todo [⟨1, dnx, 0, e⟩]).todo [⟨5, 0, 0, none⟩]).todo [⟨2, da, 0, e⟩]).th.tasks.length ≤ 999900 + 4) := by
    show _ ≤ _
    rw [th_todo HB3.out.c]
    have := HT3.out
    simp
    omega
  have HV4 : Hid ((((M.todo [⟨1, dnx, 0, e⟩]).todo [⟨5, 0, 0, none⟩]).todo [⟨2, da, 0, e⟩]).th.vals.length ≤ 999990 + 4) := by
    show _ ≤ _
    rw [th_todo HB3.out.c]
    have := HV3.out
    simp
    omega
  clear BB SS
  have y0 := HL4.out.h.cell 0
  have y1 := HL4.out.h.cell 1
  have y2 := HL4.out.h.cell 2
  have y3 := HL4.out.h.cell 3
  have y4 := HL4.out.h.cell 4
  have y5 := HL4.out.h.cell 5
  have y6 := HL4.out.h.cell 6
  have y7 := HL4.out.h.cell 7
  simp only [List.getElem?_toArray, List.getElem?_cons_succ, List.getElem?_cons_zero] at y0 y1 y2 y3 y4 y5 y6 y7
  have ly := HL4.out.h.lt
  have FIN : Hid (Q (.returned (.tuple #[])) w4) := by
    show Q _ _
    rw [← HQ.out, HZ.out]
    exact HB4.out.end
  go_wp2
  go_end0
  exact FIN.out
theorem stmt6 (B : RB w A N root W A1 M) (hl : M.th.tasks.length ≤ 999900) (hvl : M.th.vals.length ≤ 999990) {n : Nat} (hn : n < N.length) (hN : N.length ≤ 1000) {e : Option Nat} (he : ∀ i, e = some i → i < A.E.length) (hk : (N.getD n nd0).k = 6) :
    Calls Tryz.prog 113 #[.pointer (some ⟨A.br, 0, none⟩), .int .i64 n, .pointer (eAd A.E e)] W (PQm w A N root (M.stmt N n e)) := by
  obtain ⟨Q, HQ⟩ : ∃ Q : Ending → World → Prop, Hid (PQm w A N root (M.stmt N n e) = Q) := ⟨_, rfl⟩
  rw [HQ.out]
  obtain ⟨g, c, D⟩ := B.nd hn
  obtain ⟨c2, lc, lb, lg, ln, d0, d1, d2, d3, d4, d5, d6, d7⟩ := D
  obtain ⟨cc0, cc1, lcc⟩ := B.c0
  have HB := hid B
  have HE := hid he
  have HT0 : Hid (M.th.tasks.length ≤ 999900 + 0) := hl
  have HV0 : Hid (M.th.vals.length ≤ 999990 + 0) := hvl
  obtain ⟨⟨dk, da, db, dc, dnx, dn, dss, dp⟩, HD⟩ : ∃ d, Hid (N.getD n nd0 = d) := ⟨_, rfl⟩
  have HZ : Hid (M.stmt N n e = ((M.todo [⟨1, dnx, 0, e⟩]).todo [⟨11, n, 0, e⟩]).todo [⟨2, da, 0, e⟩]) := by
    show _ = _
    unfold MD.stmt
    dsimp only
    rw [HD.out]
    rw [HD.out] at hk
    dsimp only at hk
    subst hk
    simp (config := { decide := true }) only [if_true, if_false]
    rw [todo_todo (c_todo HB.out.c _)]
    rfl
  rw [HD.out] at d0 d1 d2 d3 d4 d5 d6 d7 hk
  dsimp only at d0 d1 d2 d3 d4 d5 d6 d7 hk
  subst hk
  obtain ⟨NL, HLL⟩ : ∃ NL : Nat, Hid (N.length = NL) := ⟨_, rfl⟩
  rw [HLL.out] at c2 lc ln hN
  have FA : Fr (fun _ => False) W (W.alloc (.cells #[.int .i64 (6 : Nat), .int .i64 (da : Nat), .int .i64 (db : Nat), .int .i64 (dc : Nat), .int .i64 (dnx : Nat), .int .u64 (dn : Nat), sv dss, .int .i64 (dp : Nat)] 134)) := (Fr.refl _ _).alloc _
  have HFA := hid FA
  have HB0 := hid (B.fresh FA)
  have HL0 : Hid (LcB (W.alloc (.cells #[.int .i64 (6 : Nat), .int .i64 (da : Nat), .int .i64 (db : Nat), .int .i64 (dc : Nat), .int .i64 (dnx : Nat), .int .u64 (dn : Nat), sv dss, .int .i64 (dp : Nat)] 134)) A1 W.heap.size #[.int .i64 (6 : Nat), .int .i64 (da : Nat), .int .i64 (db : Nat), .int .i64 (dc : Nat), .int .i64 (dnx : Nat), .int .u64 (dn : Nat), sv dss, .int .i64 (dp : Nat)] 134) := LcB.new B.r.own _ _
  obtain ⟨ea, HEA⟩ : ∃ ea, Hid (eAd A.E e = ea) := ⟨_, rfl⟩
  rw [HEA.out]
  clear B he hl hvl FA
  have y0 := HL0.out.h.cell 0
  have y1 := HL0.out.h.cell 1
  have y2 := HL0.out.h.cell 2
  have y3 := HL0.out.h.cell 3
  have y4 := HL0.out.h.cell 4
  have y5 := HL0.out.h.cell 5
  have y6 := HL0.out.h.cell 6
  have y7 := HL0.out.h.cell 7
  simp only [List.getElem?_toArray, List.getElem?_cons_succ, List.getElem?_cons_zero] at y0 y1 y2 y3 y4 y5 y6 y7
  have ly := HL0.out.h.lt
  go_enter Tryz.func113, Tryz.ntmps113
  have CC := HB0.out.todo (by have := HT0.out; omega) 1 dnx 0 e HE.out (k' := 1) (n' := (dnx : Nat)) (x' := 0) rfl rfl rfl
  rw [HEA.out] at CC
  have HCC := hid CC
  clear CC
  go_wp2_with fail
  refine HCC.out.mono ?_
  rintro e9 w1 ⟨rfl, A11, BB, SS⟩
  clear HCC y0 y1 y2 y3 y4 y5 y6 y7 ly
  have HB1 := hid BB
  have HL1 := hid (HL0.out.st SS)
  have HT1 : Hid ((M.todo [⟨1, dnx, 0, e⟩]).th.tasks.length ≤ 999900 + 1) := by
    show _ ≤ _
    rw [th_todo HB0.out.c]
    have := HT0.out
    simp
    omega
  have HV1 : Hid ((M.todo [⟨1, dnx, 0, e⟩]).th.vals.length ≤ 999990 + 1) := by
    show _ ≤ _
    rw [th_todo HB0.out.c]
    have := HV0.out
    simp
    omega
  clear BB SS
  have y0 := HL1.out.h.cell 0
  have y1 := HL1.out.h.cell 1
  have y2 := HL1.out.h.cell 2
  have y3 := HL1.out.h.cell 3
  have y4 := HL1.out.h.cell 4
  have y5 := HL1.out.h.cell 5
  have y6 := HL1.out.h.cell 6
  have y7 := HL1.out.h.cell 7
  simp only [List.getElem?_toArray, List.getElem?_cons_succ, List.getElem?_cons_zero] at y0 y1 y2 y3 y4 y5 y6 y7
  have ly := HL1.out.h.lt
  obtain ⟨gt, xx, hxx, htt, ⟨c5, c12, cg, l1, l2, l3, lc2, cl, t5⟩, O⟩ := HB1.out.r.cur HB1.out.c
  have c4 := O.b.has.cell 4
  simp only [thV, List.getElem?_toArray, List.getElem?_cons_succ, List.getElem?_cons_zero, Sl.v] at c4
  rw [HB1.out.s.br] at c5 c12 l1
  obtain ⟨VL, HVL⟩ : ∃ VL : Nat, Hid ((M.todo [⟨1, dnx, 0, e⟩]).th.vals.length = VL) := ⟨_, rfl⟩
  obtain ⟨LT, HLT⟩ : ∃ LT : Nat, Hid ((M.todo [⟨1, dnx, 0, e⟩]).ths.length = LT) := ⟨_, rfl⟩
  obtain ⟨cu, HCU⟩ : ∃ cu : Nat, Hid ((M.todo [⟨1, dnx, 0, e⟩]).cur = cu) := ⟨_, rfl⟩
  rw [HVL.out] at c4
  rw [HLT.out] at c5 lc2 cl t5
  rw [HCU.out] at c12 cg cl
  have HVB : Hid (VL ≤ 999991) := by show _ ≤ _; rw [← HVL.out]; exact HV1.out
  clear O hxx htt
  go_wp2
  refine wp_region_tail 14 (by kernel_rfl) (by kernel_rfl) (fun _ _ _ _ _ h => h) ?_
  simp only [List.take_succ_cons, List.take_zero, List.drop_succ_cons, List.drop_zero]
  repeat go_big_quiet_step (fail)
  refine wpQuiet_nil ?_
  clear c5 c12 cg l1 l2 l3 lc2 cl t5 c4
  have HB2 := hid HB1.out.drew
  have HL2 := hid (HL1.out.fr ((Fr.refl _ _).drew))
  have HT2 : Hid ((M.todo [⟨1, dnx, 0, e⟩]).th.tasks.length ≤ 999900 + 2) := by show _ ≤ _; have := HT1.out; omega
  have HV2 : Hid ((M.todo [⟨1, dnx, 0, e⟩]).th.vals.length ≤ 999990 + 2) := by show _ ≤ _; have := HV1.out; omega
  have CC := HB2.out.todo (by have := HT2.out; omega) 11 n 0 e HE.out (k' := 11) (n' := (n : Nat)) (x' := 0) rfl rfl rfl
  rw [HEA.out] at CC
  have HCC := hid CC
  clear CC
  go_wp2_with fail
  refine HCC.out.mono ?_
  rintro e11 w3 ⟨rfl, A13, BB, SS⟩
  clear HCC y0 y1 y2 y3 y4 y5 y6 y7 ly
  have HB3 := hid BB
  have HL3 := hid (HL2.out.st SS)
  have HT3 : Hid (((M.todo [⟨1, dnx, 0, e⟩]).todo [⟨11, n, 0, e⟩]).th.tasks.length ≤ 999900 + 3) := by
    show _ ≤ _
    rw [th_todo HB2.out.c]
    have := HT2.out
    simp
    omega
  have HV3 : Hid (((M.todo [⟨1, dnx, 0, e⟩]).todo [⟨11, n, 0, e⟩]).th.vals.length ≤ 999990 + 3) := by
    show _ ≤ _
    rw [th_todo HB2.out.c]
    have := HV2.out
    simp
    omega
  clear BB SS
  have y0 := HL3.out.h.cell 0
  have y1 := HL3.out.h.cell 1
  have y2 := HL3.out.h.cell 2
  have y3 := HL3.out.h.cell 3
  have y4 := HL3.out.h.cell 4
  have y5 := HL3.out.h.cell 5
  have y6 := HL3.out.h.cell 6
  have y7 := HL3.out.h.cell 7
  simp only [List.getElem?_toArray, List.getElem?_cons_succ, List.getElem?_cons_zero] at y0 y1 y2 y3 y4 y5 y6 y7
  have ly := HL3.out.h.lt
  have CC := HB3.out.todo (by have := HT3.out; omega) 2 da 0 e HE.out (k' := 2) (n' := (da : Nat)) (x' := 0) rfl rfl rfl
  rw [HEA.out] at CC
  have HCC := hid CC
  clear CC
  go_wp2_with fail
  refine HCC.out.mono ?_
  rintro e12 w4 ⟨rfl, A14, BB, SS⟩
  clear HCC y0 y1 y2 y3 y4 y5 y6 y7 ly
  have HB4 := hid BB
  have HL4 := hid (HL3.out.st SS)
  have HT4 : Hid ((((M.todo [⟨1, dnx, 0, e⟩]).todo [⟨11, n, 0, e⟩]).todo [⟨2, da, 0, e⟩]).th.tasks.length ≤ 999900 + 4) := by
    show _ ≤ _
    rw [th_todo HB3.out.c]
    have := HT3.out
    simp
    omega
  have HV4 : Hid ((((M.todo [⟨1, dnx, 0, e⟩]).todo [⟨11, n, 0, e⟩]).todo [⟨2, da, 0, e⟩]).th.vals.length ≤ 999990 + 4) := by
    show _ ≤ _
    rw [th_todo HB3.out.c]
    have := HV3.out
    simp
    omega
  clear BB SS
  have y0 := HL4.out.h.cell 0
  have y1 := HL4.out.h.cell 1
  have y2 := HL4.out.h.cell 2
  have y3 := HL4.out.h.cell 3
  have y4 := HL4.out.h.cell 4
  have y5 := HL4.out.h.cell 5
  have y6 := HL4.out.h.cell 6
  have y7 := HL4.out.h.cell 7
  simp only [List.getElem?_toArray, List.getElem?_cons_succ, List.getElem?_cons_zero] at y0 y1 y2 y3 y4 y5 y6 y7
  have ly := HL4.out.h.lt
  have FIN : Hid (Q (.returned (.tuple #[])) w4) := by
    show Q _ _
    rw [← HQ.out, HZ.out]
    exact HB4.out.end
  go_wp2
  go_end0
  exact FIN.out
end
end Go.Proofs.Qxb6500574aGreatDoor
