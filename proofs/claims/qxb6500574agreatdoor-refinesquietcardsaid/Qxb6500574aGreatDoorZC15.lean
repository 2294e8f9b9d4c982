/-
  THE WALKS of compm: eval, calls, tables, nothing.
-/
import Derived.Test.Qxb6500574aGreatDoorZC14
namespace Go.Proofs.Qxb6500574aGreatDoor
open Go Go.RowKit
set_option linter.unusedVariables false
set_option linter.unusedSimpArgs false
section
variable {w W W1 : World} {A A1 A2 : RnP} {N : List Nd} {root : Nat} {M : MD}
set_option maxRecDepth 100000
set_option maxHeartbeats 1000000
theorem eval19 (B : RB w A N root W A1 M) (hl : M.th.tasks.length ≤ 999900) (hvl : M.th.vals.length ≤ 999990) {n : Nat} (hn : n < N.length) (hn0 : n ≠ 0) (hN : N.length ≤ 1000) {x : Nat} {e : Option Nat} (he : ∀ i, e = some i → i < A.E.length) (hk : (N.getD n nd0).k = 19) (hnx : ∀ n, n < N.length → (N.getD n nd0).next = 0 ∨ (N.getD n nd0).next < N.length) (hb : (N.getD n nd0).b < N.length) :
    Calls Tryz.prog 114 #[.pointer (some ⟨A.br, 0, none⟩), .int .i64 n, .int .i64 x, .pointer (eAd A.E e)] W (PQm w A N root (M.eval N n x e)) := by
  obtain ⟨Q, HQ⟩ : ∃ Q : Ending → World → Prop, Hid (PQm w A N root (M.eval N n x e) = Q) := ⟨_, rfl⟩
  rw [HQ.out]
  obtain ⟨g, c, D⟩ := B.nd hn
  obtain ⟨c2, lc, lb, lg, ln, d0, d1, d2, d3, d4, d5, d6, d7⟩ := D
  obtain ⟨cc0, cc1, lcc⟩ := B.c0
  have HB := hid B
  have HE := hid he
  have HT0 : Hid (M.th.tasks.length ≤ 999900 + 0) := hl
  have HV0 : Hid (M.th.vals.length ≤ 999990 + 0) := hvl
  have HNX := hid hnx
  have HBB := hid hb
  have HNN := hid hn
  have HN3 : Hid (N.length ≤ 1000) := hN
  clear hnx hb
  obtain ⟨⟨dk, da, db, dc, dnx, dn, dss, dp⟩, HD⟩ : ∃ d, Hid (N.getD n nd0 = d) := ⟨_, rfl⟩
  have HZ : Hid (M.eval N n x e = (M.todo [⟨5, 0, 0, none⟩]).call N n e) := by
    show _ = _
    unfold MD.eval
    dsimp only
    rw [if_neg hn0, HD.out]
    rw [HD.out] at hk
    dsimp only at hk
    subst hk
    simp (config := { decide := true }) only [if_true, if_false]
  rw [HD.out] at d0 d1 d2 d3 d4 d5 d6 d7 hk
  dsimp only at d0 d1 d2 d3 d4 d5 d6 d7 hk
  subst hk
  obtain ⟨NL, HLL⟩ : ∃ NL : Nat, Hid (N.length = NL) := ⟨_, rfl⟩
  rw [HLL.out] at c2 lc ln hN
  have FA : Fr (fun _ => False) W (W.alloc (.cells #[.int .i64 (19 : Nat), .int .i64 (da : Nat), .int .i64 (db : Nat), .int .i64 (dc : Nat), .int .i64 (dnx : Nat), .int .u64 (dn : Nat), sv dss, .int .i64 (dp : Nat)] 134)) := (Fr.refl _ _).alloc _
  have HFA := hid FA
  have HB0 := hid (B.fresh FA)
  have HL0 : Hid (LcB (W.alloc (.cells #[.int .i64 (19 : Nat), .int .i64 (da : Nat), .int .i64 (db : Nat), .int .i64 (dc : Nat), .int .i64 (dnx : Nat), .int .u64 (dn : Nat), sv dss, .int .i64 (dp : Nat)] 134)) A1 W.heap.size #[.int .i64 (19 : Nat), .int .i64 (da : Nat), .int .i64 (db : Nat), .int .i64 (dc : Nat), .int .i64 (dnx : Nat), .int .u64 (dn : Nat), sv dss, .int .i64 (dp : Nat)] 134) := LcB.new B.r.own _ _
  obtain ⟨ea, HEA⟩ : ∃ ea, Hid (eAd A.E e = ea) := ⟨_, rfl⟩
  rw [HEA.out]
  have bn0 : ((n : Int) == 0) = false := by rw [beq_eq_false_iff_ne]; omega
  clear B he hl hvl FA
  have y0 := HL0.out.h.cell 0
  have y1 := HL0.out.h.cell 1
  have y2 := HL0.out.h.cell 2
  have y3 := HL0.out.h.cell 3
  have y4 := HL0.out.h.cell 4
  have y5 := HL0.out.h.cell 5
  have y6 := HL0.out.h.cell 6
  have y7 := HL0.out.h.cell 7
  simp only [List.getElem?_toArray, List.getElem?_cons_succ, List.getElem?_cons_zero] at y0 y1 y2 y3 y4 y5 y6 y7
  have ly := HL0.out.h.lt
  go_enter Tryz.func114, Tryz.ntmps114
  have CC := HB0.out.todo (by have := HT0.out; omega) 5 0 0 none (fun i hi => by cases hi) (k' := 5) (n' := (0 : Nat)) (x' := 0) rfl rfl rfl
  rw [show eAd A.E none = none from rfl] at CC
  have HCC := hid CC
  clear CC
  go_wp2_with fail
  refine HCC.out.mono ?_
  rintro e9 w1 ⟨rfl, A11, BB, SS⟩
  clear HCC y0 y1 y2 y3 y4 y5 y6 y7 ly
  have HB1 := hid BB
  have HL1 := hid (HL0.out.st SS)
  have HT1 : Hid ((M.todo [⟨5, 0, 0, none⟩]).th.tasks.length ≤ 999900 + 1) := by
    show _ ≤ _
    rw [th_todo HB0.out.c]
    have := HT0.out
    simp
    omega
  have HV1 : Hid ((M.todo [⟨5, 0, 0, none⟩]).th.vals.length ≤ 999990 + 1) := by
    show _ ≤ _
    rw [th_todo HB0.out.c]
    have := HV0.out
    simp
    omega
  clear BB SS
  have y0 := HL1.out.h.cell 0
  have y1 := HL1.out.h.cell 1
  have y2 := HL1.out.h.cell 2
  have y3 := HL1.out.h.cell 3
  have y4 := HL1.out.h.cell 4
  have y5 := HL1.out.h.cell 5
  have y6 := HL1.out.h.cell 6
  have y7 := HL1.out.h.cell 7
  simp only [List.getElem?_toArray, List.getElem?_cons_succ, List.getElem?_cons_zero] at y0 y1 y2 y3 y4 y5 y6 y7
  have ly := HL1.out.h.lt
  have CC := call_m HB1.out (by have := HT1.out; omega) n HNN.out HBB.out HNX.out HN3.out e HE.out (n' := (n : Nat)) rfl
  rw [HEA.out] at CC
  have HCC := hid CC
  clear CC
  go_wp2_with fail
  refine HCC.out.mono ?_
  rintro e11 w2 ⟨rfl, A12, BB, SS⟩
  clear HCC y0 y1 y2 y3 y4 y5 y6 y7 ly
  have HB2 := hid BB
  clear BB SS
  have FIN : Hid (Q (.returned (.tuple #[])) w2) := by
    show Q _ _
    rw [← HQ.out, HZ.out]
    exact HB2.out.end
  go_wp2
  go_end0
  exact FIN.out
theorem eval0 (B : RB w A N root W A1 M) (hvl : M.th.vals.length ≤ 999990) {x : Nat} {e : Option Nat} :
    Calls Tryz.prog 114 #[.pointer (some ⟨A.br, 0, none⟩), .int .i64 (0 : Nat), .int .i64 x, .pointer (eAd A.E e)] W (PQm w A N root (M.eval N 0 x e)) := by
  obtain ⟨Q, HQ⟩ : ∃ Q : Ending → World → Prop, Hid (PQm w A N root (M.eval N 0 x e) = Q) := ⟨_, rfl⟩
  rw [HQ.out]
  obtain ⟨cc0, cc1, lcc⟩ := B.c0
  have HB := hid B
  obtain ⟨ea, HEA⟩ : ∃ ea, Hid (eAd A.E e = ea) := ⟨_, rfl⟩
  rw [HEA.out]
  have z0 : ((0 : Nat) : Int) = 0 := rfl
  rw [z0]
  by_cases hx : x = 1
  · subst hx
    have HZ : Hid (M.eval N 0 1 e = M.push [numV (fromIntN 1)]) := rfl
    have C1 : ∀ W2, Calls Tryz.prog 127 #[.pointer (some ⟨A.bn, 0, none⟩), .int .i64 1] W2 fun e w' => e = .returned (.int .u64 (fromIntN 1)) ∧ w' = W2 := fun W2 => by
      have := fromInt_m (w := W2) (bn := A.bn) (i := 1) (by omega) (by omega)
      rw [← fromInt_okM (by omega) (by omega)] at this
      exact this
    obtain ⟨y, HYY⟩ : ∃ y, Hid (fromIntN 1 = y) := ⟨_, rfl⟩
    rw [HYY.out] at C1 HZ
    have HC1 := hid C1
    have HC3 := hid (B.pushN (by omega) y)
    clear B C1 hvl
    go_enter Tryz.func114, Tryz.ntmps114
    go_wp2_with fail
    refine (HC1.out _).mono ?_
    rintro e1 w1 ⟨rfl, hw1⟩
    rw [hw1]
    go_wp2_with fail
    refine HC3.out.mono ?_
    rintro e3 w3 ⟨rfl, A3, B3, S3⟩
    have FIN : Hid (Q (.returned (.tuple #[])) w3) := by
      show Q _ _
      rw [← HQ.out, HZ.out]
      exact B3.end
    clear B3 S3
    go_wp2
    refine bodyPost_ret (results_none rfl _ _ _) rfl ?_
    exact FIN.out
  · have bx : ((x : Int) == 1) = false := by rw [beq_eq_false_iff_ne]; omega
    have HZ : Hid (M.eval N 0 x e = M.push [nilV]) := by
      show _ = _
      unfold MD.eval
      rw [if_pos rfl, if_neg hx]
    have HC3 := hid (B.push (by omega) nilV)
    clear B hvl hx
    go_enter Tryz.func114, Tryz.ntmps114
    go_wp2_with fail
    refine HC3.out.mono ?_
    rintro e3 w3 ⟨rfl, A3, B3, S3⟩
    have FIN : Hid (Q (.returned (.tuple #[])) w3) := by
      show Q _ _
      rw [← HQ.out, HZ.out]
      exact B3.end
    clear B3 S3
    go_wp2
    refine bodyPost_ret (results_none rfl _ _ _) rfl ?_
    exact FIN.out
theorem eval21 (B : RB w A N root W A1 M) (hl : M.th.tasks.length ≤ 999900) (hvl : M.th.vals.length ≤ 999990) {n : Nat} (hn : n < N.length) (hn0 : n ≠ 0) (hN : N.length ≤ 1000) {x : Nat} {e : Option Nat} (he : ∀ i, e = some i → i < A.E.length) (hk : (N.getD n nd0).k = 21) :
    Calls Tryz.prog 114 #[.pointer (some ⟨A.br, 0, none⟩), .int .i64 n, .int .i64 x, .pointer (eAd A.E e)] W (PQm w A N root (M.eval N n x e)) := by
  obtain ⟨Q, HQ⟩ : ∃ Q : Ending → World → Prop, Hid (PQm w A N root (M.eval N n x e) = Q) := ⟨_, rfl⟩
  rw [HQ.out]
  obtain ⟨g, c, D⟩ := B.nd hn
  obtain ⟨c2, lc, lb, lg, ln, d0, d1, d2, d3, d4, d5, d6, d7⟩ := D
  obtain ⟨cc0, cc1, lcc⟩ := B.c0
  have HB := hid B
  have HE := hid he
  have HT0 : Hid (M.th.tasks.length ≤ 999900 + 0) := hl
  have HV0 : Hid (M.th.vals.length ≤ 999990 + 0) := hvl
  obtain ⟨⟨dk, da, db, dc, dnx, dn, dss, dp⟩, HD⟩ : ∃ d, Hid (N.getD n nd0 = d) := ⟨_, rfl⟩
  have HZ : Hid (M.eval N n x e = if M.tabs.length ≥ 12 then M.finish 8 [45] else ({ M.push [⟨4, M.tabs.length, []⟩] with tabs := M.tabs ++ [tab0] } : MD).items da 1 e) := by
    show _ = _
    unfold MD.eval
    dsimp only
    rw [if_neg hn0, HD.out]
    rw [HD.out] at hk
    dsimp only at hk
    subst hk
    simp (config := { decide := true }) only [if_true, if_false]
  rw [HD.out] at d0 d1 d2 d3 d4 d5 d6 d7 hk
  dsimp only at d0 d1 d2 d3 d4 d5 d6 d7 hk
  subst hk
  obtain ⟨NL, HLL⟩ : ∃ NL : Nat, Hid (N.length = NL) := ⟨_, rfl⟩
  rw [HLL.out] at c2 lc ln hN
  have FA : Fr (fun _ => False) W (W.alloc (.cells #[.int .i64 (21 : Nat), .int .i64 (da : Nat), .int .i64 (db : Nat), .int .i64 (dc : Nat), .int .i64 (dnx : Nat), .int .u64 (dn : Nat), sv dss, .int .i64 (dp : Nat)] 134)) := (Fr.refl _ _).alloc _
  have HFA := hid FA
  have HB0 := hid (B.fresh FA)
  have HL0 : Hid (LcB (W.alloc (.cells #[.int .i64 (21 : Nat), .int .i64 (da : Nat), .int .i64 (db : Nat), .int .i64 (dc : Nat), .int .i64 (dnx : Nat), .int .u64 (dn : Nat), sv dss, .int .i64 (dp : Nat)] 134)) A1 W.heap.size #[.int .i64 (21 : Nat), .int .i64 (da : Nat), .int .i64 (db : Nat), .int .i64 (dc : Nat), .int .i64 (dnx : Nat), .int .u64 (dn : Nat), sv dss, .int .i64 (dp : Nat)] 134) := LcB.new B.r.own _ _
  obtain ⟨ea, HEA⟩ : ∃ ea, Hid (eAd A.E e = ea) := ⟨_, rfl⟩
  rw [HEA.out]
  have bn0 : ((n : Int) == 0) = false := by rw [beq_eq_false_iff_ne]; omega
  clear B he hl hvl FA
  have y0 := HL0.out.h.cell 0
  have y1 := HL0.out.h.cell 1
  have y2 := HL0.out.h.cell 2
  have y3 := HL0.out.h.cell 3
  have y4 := HL0.out.h.cell 4
  have y5 := HL0.out.h.cell 5
  have y6 := HL0.out.h.cell 6
  have y7 := HL0.out.h.cell 7
  simp only [List.getElem?_toArray, List.getElem?_cons_succ, List.getElem?_cons_zero] at y0 y1 y2 y3 y4 y5 y6 y7
  have ly := HL0.out.h.lt
  go_enter Tryz.func114, Tryz.ntmps114
  by_cases h12 : 12 ≤ M.tabs.length
  · have HZ2 : Hid (M.eval N n x e = M.finish 8 [45]) := by show _ = _; rw [HZ.out, if_pos h12]
    have CC := HB0.out.tmakeF h12
    have HCC := hid CC
    clear CC
    go_wp2_with fail
    refine HCC.out.mono ?_
    rintro e9 w1 ⟨rfl, hw1⟩
    rw [hw1]
    have HC3 := hid (HB0.out.finish 8 [45] (e' := 8) rfl)
    go_wp2_with fail
    refine HC3.out.mono ?_
    rintro e3 w3 ⟨rfl, A3, B3, S3⟩
    have FIN : Hid (Q (.returned (.tuple #[])) w3) := by
      show Q _ _
      rw [← HQ.out, HZ2.out]
      exact B3.end
    clear B3 S3
    go_wp2
    refine bodyPost_ret (results_none rfl _ _ _) rfl ?_
    exact FIN.out
  · have HZ2 : Hid (M.eval N n x e = (({ M with tabs := M.tabs ++ [tab0] } : MD).push [⟨4, M.tabs.length, []⟩]).items da 1 e) := by show _ = _; rw [HZ.out, if_neg h12]; rfl
    have CC := HB0.out.tmake (by omega)
    have HCC := hid CC
    have hTL : M.tabs.length < 12 := by omega
    obtain ⟨TL, HTL⟩ : ∃ TL : Nat, Hid (M.tabs.length = TL) := ⟨_, rfl⟩
    rw [HTL.out] at HCC HZ2 hTL
    clear CC h12 HZ
    go_wp2_with fail
    refine HCC.out.mono ?_
    rintro e9 w1 ⟨rfl, A11, BB, SS⟩
    have HB1 := hid BB
    have HL1 := hid (HL0.out.st SS)
    clear BB SS y0 y1 y2 y3 y4 y5 y6 y7 ly
    have y1 := HL1.out.h.cell 1
    simp only [List.getElem?_toArray, List.getElem?_cons_succ, List.getElem?_cons_zero] at y1
    have ly := HL1.out.h.lt
    have HC3 : Hid (Calls Tryz.prog 124 #[.pointer (some ⟨A.br, 0, none⟩), .agg #[.int .i64 4, .int .u64 TL, sv []]] w1 _) := HB1.out.push (show M.th.vals.length ≤ 1000000 by have := HV0.out; omega) ⟨4, TL, []⟩
    go_wp2_with fail
    refine HC3.out.mono ?_
    rintro e3 w3 ⟨rfl, A3, B3, S3⟩
    have HL3 := hid (HL1.out.st S3)
    have C4 := items_m B3 (by rw [th_push HB1.out.c]; show M.th.tasks.length ≤ _; have := HT0.out; omega) da 1 e HE.out (n' := (da : Nat)) (i' := 1) rfl rfl
    rw [HEA.out] at C4
    have HC4 := hid C4
    clear C4 B3 S3 y1 ly HC3
    have y1 := HL3.out.h.cell 1
    simp only [List.getElem?_toArray, List.getElem?_cons_succ, List.getElem?_cons_zero] at y1
    have ly := HL3.out.h.lt
    go_wp2_with fail
    refine HC4.out.mono ?_
    rintro e4 w4 ⟨rfl, A4, B4, S4⟩
    have FIN : Hid (Q (.returned (.tuple #[])) w4) := by
      show Q _ _
      rw [← HQ.out, HZ2.out]
      exact B4.end
    clear B4 S4 y1 ly
    go_wp2
    go_end0
    exact FIN.out
end
end Go.Proofs.Qxb6500574aGreatDoor
