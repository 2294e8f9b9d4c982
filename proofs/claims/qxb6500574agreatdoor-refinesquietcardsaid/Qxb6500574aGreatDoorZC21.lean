/-
  THE WALKS of compm: stmt, local functions.
-/
import Derived.Test.Qxb6500574aGreatDoorZC20
namespace Go.Proofs.Qxb6500574aGreatDoor
open Go Go.RowKit
set_option linter.unusedVariables false
set_option linter.unusedSimpArgs false
section
variable {w W W1 : World} {A A1 A2 : RnP} {N : List Nd} {root : Nat} {M : MD}
set_option maxRecDepth 100000
set_option maxHeartbeats 1000000
theorem stmt3 (B : RB w A N root W A1 M) (hl : M.th.tasks.length ≤ 999900) (hvl : M.th.vals.length ≤ 999990) {n : Nat} (hn : n < N.length) (hN : N.length ≤ 1000) {e : Option Nat} (he : ∀ i, e = some i → i < A.E.length) (hk : (N.getD n nd0).k = 3) (RO : RefOk M) :
    Calls Tryz.prog 113 #[.pointer (some ⟨A.br, 0, none⟩), .int .i64 n, .pointer (eAd A.E e)] W (PQm w A N root (M.stmt N n e)) := by
  obtain ⟨Q, HQ⟩ : ∃ Q : Ending → World → Prop, Hid (PQm w A N root (M.stmt N n e) = Q) := ⟨_, rfl⟩
  rw [HQ.out]
  obtain ⟨g, c, D⟩ := B.nd hn
  obtain ⟨c2, lc, lb, lg, ln, d0, d1, d2, d3, d4, d5, d6, d7⟩ := D
  obtain ⟨cc0, cc1, lcc⟩ := B.c0
  have HB := hid B
  have HE := hid he
  have HT0 : Hid (M.th.tasks.length ≤ 999900 + 0) := hl
  have HV0 : Hid (M.th.vals.length ≤ 999990 + 0) := hvl
  obtain ⟨⟨dk, da, db, dc, dnx, dn, dss, dp⟩, HD⟩ : ∃ d, Hid (N.getD n nd0 = d) := ⟨_, rfl⟩
  have HZ : Hid (M.stmt N n e = (({ M with envs := M.envs ++ [⟨dss, nilV, e⟩] } : MD).todo [⟨8, n, 0, some M.envs.length⟩]).todo [⟨2, da, 0, some M.envs.length⟩]) := by
    show _ = _
    unfold MD.stmt
    dsimp only
    rw [HD.out]
    rw [HD.out] at hk
    dsimp only at hk
    subst hk
    simp (config := { decide := true }) only [if_true, if_false]
    rw [todo_todo (show ({ M with envs := M.envs ++ [⟨dss, nilV, e⟩] } : MD).cur < _ from HB.out.c)]
    rfl
  rw [HD.out] at d0 d1 d2 d3 d4 d5 d6 d7 hk
  dsimp only at d0 d1 d2 d3 d4 d5 d6 d7 hk
  subst hk
  obtain ⟨NL, HLL⟩ : ∃ NL : Nat, Hid (N.length = NL) := ⟨_, rfl⟩
  rw [HLL.out] at c2 lc ln hN
  have FA : Fr (fun _ => False) W (W.alloc (.cells #[.int .i64 (3 : Nat), .int .i64 (da : Nat), .int .i64 (db : Nat), .int .i64 (dc : Nat), .int .i64 (dnx : Nat), .int .u64 (dn : Nat), sv dss, .int .i64 (dp : Nat)] 134)) := (Fr.refl _ _).alloc _
  have HFA := hid FA
  have HB0 := hid (B.fresh FA)
  have HL0 : Hid (LcB (W.alloc (.cells #[.int .i64 (3 : Nat), .int .i64 (da : Nat), .int .i64 (db : Nat), .int .i64 (dc : Nat), .int .i64 (dnx : Nat), .int .u64 (dn : Nat), sv dss, .int .i64 (dp : Nat)] 134)) A1 W.heap.size #[.int .i64 (3 : Nat), .int .i64 (da : Nat), .int .i64 (db : Nat), .int .i64 (dc : Nat), .int .i64 (dnx : Nat), .int .u64 (dn : Nat), sv dss, .int .i64 (dp : Nat)] 134) := LcB.new B.r.own _ _
  obtain ⟨ea, HEA⟩ : ∃ ea, Hid (eAd A.E e = ea) := ⟨_, rfl⟩
  rw [HEA.out]
  clear B he hl hvl FA
  obtain ⟨A5, B5, S5, hE5⟩ := HB0.out.newEnv RO ⟨dss, nilV, e⟩ (HB0.out.eIn HE.out)
  have e9 : enV A1.E ⟨dss, nilV, e⟩ = #[sv dss, .int .i64 0, .int .u64 0, sv [], .pointer ea] := by
    unfold enV
    dsimp only [nilV]
    rw [HB0.out.s.ep HE.out]
    unfold ePtr
    rw [HEA.out]
    rfl
  rw [e9] at B5 S5
  obtain ⟨e5, HE5⟩ : ∃ e5, Hid (some M.envs.length = e5) := ⟨_, rfl⟩
  obtain ⟨M5, HM5⟩ : ∃ M5 : MD, Hid (({ M with envs := M.envs ++ [⟨dss, nilV, e⟩] } : MD) = M5) := ⟨_, rfl⟩
  have HE0 := HE
  clear HE
  have HE : Hid (∀ i, e5 = some i → i < A5.E.length) := fun i hi => by
    rw [← HE5.out] at hi
    cases hi
    have := B5.r.le
    rw [this]
    simp
  have HEA5 : Hid (eAd A5.E e5 = some ⟨W.heap.size + 1, 0, none⟩) := by
    show _ = _
    rw [← HE5.out, hE5]
    simp
  have HBR5 := hid B5.s.br
  have HS5 := hid B5.s
  have hT5 : M5.th.tasks.length ≤ 999900 + 0 := by rw [← HM5.out]; exact HT0.out
  have hV5 : M5.th.vals.length ≤ 999990 + 0 := by rw [← HM5.out]; exact HV0.out
  rw [HM5.out, HE5.out] at HZ
  rw [HM5.out] at B5
  have HB5 := hid (RB.start B5.r B5.c)
  have HL5 := hid (HL0.out.st S5)
  clear B5 S5 hE5 e9 HT0 HV0 HB0 HL0 RO
  have HT0 := hid hT5
  have HV0 := hid hV5
  have HB0 := HB5
  have HL0 := HL5
  clear hT5 hV5 HB5 HL5
  have y0 := HL0.out.h.cell 0
  have y1 := HL0.out.h.cell 1
  have y2 := HL0.out.h.cell 2
  have y3 := HL0.out.h.cell 3
  have y4 := HL0.out.h.cell 4
  have y5 := HL0.out.h.cell 5
  have y6 := HL0.out.h.cell 6
  have y7 := HL0.out.h.cell 7
  simp only [List.getElem?_toArray, List.getElem?_cons_succ, List.getElem?_cons_zero] at y0 y1 y2 y3 y4 y5 y6 y7
  have ly := HL0.out.h.lt
  go_enter Tryz.func113, Tryz.ntmps113
  have CC := HB0.out.todo (by have := HT0.out; omega) 8 n 0 e5 HE.out (k' := 8) (n' := (n : Nat)) (x' := 0) rfl rfl rfl
  rw [HEA5.out, HBR5.out] at CC
  have HCC := hid CC
  clear CC
  go_wp2_with fail
  refine HCC.out.mono ?_
  rintro e9 w1 ⟨rfl, A11, BB, SS⟩
  clear HCC y0 y1 y2 y3 y4 y5 y6 y7 ly
  have HB1 := hid BB
  have HL1 := hid (HL0.out.st SS)
  have HT1 : Hid ((M5.todo [⟨8, n, 0, e5⟩]).th.tasks.length ≤ 999900 + 1) := by
    show _ ≤ _
    rw [th_todo HB0.out.c]
    have := HT0.out
    simp
    omega
  have HV1 : Hid ((M5.todo [⟨8, n, 0, e5⟩]).th.vals.length ≤ 999990 + 1) := by
    show _ ≤ _
    rw [th_todo HB0.out.c]
    have := HV0.out
    simp
    omega
  clear BB SS
  have y0 := HL1.out.h.cell 0
  have y1 := HL1.out.h.cell 1
  have y2 := HL1.out.h.cell 2
  have y3 := HL1.out.h.cell 3
  have y4 := HL1.out.h.cell 4
  have y5 := HL1.out.h.cell 5
  have y6 := HL1.out.h.cell 6
  have y7 := HL1.out.h.cell 7
  simp only [List.getElem?_toArray, List.getElem?_cons_succ, List.getElem?_cons_zero] at y0 y1 y2 y3 y4 y5 y6 y7
  have ly := HL1.out.h.lt
  have CC := HB1.out.todo (by have := HT1.out; omega) 2 da 0 e5 HE.out (k' := 2) (n' := (da : Nat)) (x' := 0) rfl rfl rfl
  rw [HEA5.out, HBR5.out] at CC
  have HCC := hid CC
  clear CC
  go_wp2_with fail
  refine HCC.out.mono ?_
  rintro e10 w2 ⟨rfl, A12, BB, SS⟩
  clear HCC y0 y1 y2 y3 y4 y5 y6 y7 ly
  have HB2 := hid BB
  have HL2 := hid (HL1.out.st SS)
  have HT2 : Hid (((M5.todo [⟨8, n, 0, e5⟩]).todo [⟨2, da, 0, e5⟩]).th.tasks.length ≤ 999900 + 2) := by
    show _ ≤ _
    rw [th_todo HB1.out.c]
    have := HT1.out
    simp
    omega
  have HV2 : Hid (((M5.todo [⟨8, n, 0, e5⟩]).todo [⟨2, da, 0, e5⟩]).th.vals.length ≤ 999990 + 2) := by
    show _ ≤ _
    rw [th_todo HB1.out.c]
    have := HV1.out
    simp
    omega
  clear BB SS
  have y0 := HL2.out.h.cell 0
  have y1 := HL2.out.h.cell 1
  have y2 := HL2.out.h.cell 2
  have y3 := HL2.out.h.cell 3
  have y4 := HL2.out.h.cell 4
  have y5 := HL2.out.h.cell 5
  have y6 := HL2.out.h.cell 6
  have y7 := HL2.out.h.cell 7
  simp only [List.getElem?_toArray, List.getElem?_cons_succ, List.getElem?_cons_zero] at y0 y1 y2 y3 y4 y5 y6 y7
  have ly := HL2.out.h.lt
  have FIN : Hid (Q (.returned (.tuple #[])) w2) := by
    show Q _ _
    rw [← HQ.out, HZ.out]
    exact ⟨rfl, _, HB2.out.r, HS5.out.trans HB2.out.s⟩
  go_wp2
  refine bodyPost_ret (results_none rfl _ _ _) rfl ?_
  exact FIN.out
end
end Go.Proofs.Qxb6500574aGreatDoor
