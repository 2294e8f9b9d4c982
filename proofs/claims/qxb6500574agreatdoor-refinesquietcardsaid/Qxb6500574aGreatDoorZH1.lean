/-
  THE WALKS of complaw: Do.
-/
import Derived.Test.Qxb6500574aGreatDoorZH0
namespace Go.Proofs.Qxb6500574aGreatDoor
open Go Go.RowKit
set_option linter.unusedVariables false
set_option linter.unusedSimpArgs false
section
variable {bc sx bm bn bt bs ba : Nat} {w w1 w2 w3 : World} {o o1 o2 o3 : Nat → Nat} {C C1 C2 C3 : CC} {num : Value} {A A1 A2 A3 : VL} {c c1 c2 c3 : CmD} {an : AnD}
/-- the answer is written -/
theorem TW.ans (h : TW bc w o C sx num bm bn bt bs w3 o3 A3 C3 c3) (ha : Has w3 ba #[.int .i64 0, .int .i64 0, .int .i64 0, sv [], sv []] 54) (oa : o3 ba = 6) (an : AnD) :
    TW bc w o C sx num bm bn bt bs (((((w3.setCell ⟨ba, 0, none⟩ (.int .i64 an.e)).setCell ⟨ba, 1, none⟩ (.int .i64 an.n)).setCell ⟨ba, 2, none⟩ (.int .i64 an.m)).setCell ⟨ba, 3, none⟩ (sv an.s)).setCell ⟨ba, 4, none⟩ (sv an.t)) o3 A3 C3 c3 ∧ Has (((((w3.setCell ⟨ba, 0, none⟩ (.int .i64 an.e)).setCell ⟨ba, 1, none⟩ (.int .i64 an.n)).setCell ⟨ba, 2, none⟩ (.int .i64 an.m)).setCell ⟨ba, 3, none⟩ (sv an.s)).setCell ⟨ba, 4, none⟩ (sv an.t)) ba #[.int .i64 an.e, .int .i64 an.n, .int .i64 an.m, sv an.s, sv an.t] 54 := by
  refine ⟨((((h.set (p := ⟨ba, 0, none⟩) oa _).set (p := ⟨ba, 1, none⟩) oa _).set (p := ⟨ba, 2, none⟩) oa _).set (p := ⟨ba, 3, none⟩) oa _).set (p := ⟨ba, 4, none⟩) oa _, ?_⟩
  have := ((((ha.put 0 (.int .i64 an.e)).put 1 (.int .i64 an.n)).put 2 (.int .i64 an.m)).put 3 (sv an.s)).put 4 (sv an.t)
  simpa using this
/-- how a step of the real side ends -/
def DoQ (bc : Nat) (w : World) (o : Nat → Nat) (C : CC) (sx : Nat) (num : Value) (bm bn bt bs : Nat) (an : AnD) (e : Ending) (w' : World) : Prop :=
  e = .returned (.agg #[.int .i64 an.e, .int .i64 an.n, .int .i64 an.m, sv an.s, sv an.t]) ∧ ∃ o' A' C' c', TW bc w o C sx num bm bn bt bs w' o' A' C' c'
set_option maxRecDepth 100000
set_option maxHeartbeats 1000000
theorem do_any (h : TW bc w o C sx num bm bn bt bs w1 o1 A1 C1 c1) {kd fa fb fc : Int} {src tx : Bs} (hf1 : fa ≤ 9223372036854775807) {n : Nat} (hr : ∀ img, imageP src = .inr img → runN n img fa = some an) (he : ∀ y, imageP src = .inl y → an = ⟨y.1, y.2, 0, [], []⟩) :
    Calls Tryz.prog 30 #[.pointer (some ⟨C.cb, 0, none⟩), .agg #[.int .i64 kd, .int .i64 fa, .int .i64 fb, .int .i64 fc, sv src, sv tx]] w1 (DoQ bc w o C sx num bm bn bt bs (dAns kd an)) := by
  obtain ⟨W1, HW1⟩ : ∃ W, Hid (w1.alloc (.cells #[.int .i64 kd, .int .i64 fa, .int .i64 fb, .int .i64 fc, sv src, sv tx] 32) = W) := ⟨_, rfl⟩
  have F1 : Fr (fun _ => False) w1 W1 := by rw [← HW1.out]; exact (Fr.refl _ _).alloc _
  have O1 : Has W1 w1.heap.size #[.int .i64 kd, .int .i64 fa, .int .i64 fb, .int .i64 fc, sv src, sv tx] 32 := by rw [← HW1.out]; exact Has.new _ _ _
  have T1 := h.fresh F1
  have s1 : W1.heap.size = w1.heap.size + 1 := by rw [← HW1.out]; simp
  obtain ⟨W2, HW2⟩ : ∃ W, Hid (W1.alloc (.cells #[.int .i64 0, .int .i64 0, .int .i64 0, sv [], sv []] 54) = W) := ⟨_, rfl⟩
  have T2 := T1.local (.cells #[.int .i64 0, .int .i64 0, .int .i64 0, sv [], sv []] 54)
  have F2 : Fr (fun _ => False) W1 W2 := by rw [← HW2.out]; exact (Fr.refl _ _).alloc _
  have A2 : Has W2 W1.heap.size #[.int .i64 0, .int .i64 0, .int .i64 0, sv [], sv []] 54 := by rw [← HW2.out]; exact Has.new _ _ _
  have O2 := O1.fr F2 (fun x => x)
  rw [HW2.out, s1] at T2
  rw [s1] at A2
  obtain ⟨bo, HBO⟩ : ∃ b, Hid (w1.heap.size = b) := ⟨_, rfl⟩
  have e1 : w1.alloc (.cells #[.int .i64 kd, .int .i64 fa, .int .i64 fb, .int .i64 fc, sv src, sv tx] 32) = W1 := HW1.out
  have e2 : W1.alloc (.cells #[.int .i64 0, .int .i64 0, .int .i64 0, sv [], sv []] 54) = W2 := HW2.out
  rw [HBO.out] at T2 A2 O2
  have hs1 : w1.heap.size = bo := HBO.out
  have hs2 : W1.heap.size = bo + 1 := by rw [s1, HBO.out]
  have p0 := O2.cell 0
  have p1 := O2.cell 1
  have p4 := O2.cell 4
  have pl := O2.lt
  simp only [List.getElem?_toArray, List.getElem?_cons_succ, List.getElem?_cons_zero] at p0 p1 p4
  have HT2 := hid T2
  have HA2 := hid A2
  have HO2 := hid O2
  have OA2 : Hid (upd o1 (bo + 1) 6 (bo + 1) = 6) := upd_self _ _ _
  obtain ⟨Q, HQ⟩ : ∃ Q : Ending → World → Prop, Hid (DoQ bc w o C sx num bm bn bt bs (dAns kd an) = Q) := ⟨_, rfl⟩
  rw [HQ.out]
  have HR := hid hr
  have HE := hid he
  have HF := hid hf1
  have HCB := hid h.cb
  clear h T1 T2 F1 F2 O1 A2 O2 s1 hr he hf1
  by_cases k1 : kd = 1
  · have b1 : (kd == 1) = true := by simp [k1]
    have HKD : Hid (dAns kd an = an) := by show dAns kd an = an; unfold dAns; rw [if_pos k1]
    have CC := crun_any HT2.out.M HF.out HR.out HE.out
    rw [HT2.out.cb] at CC
    have HCC := hid CC
    clear CC k1
    go_enter Tryz.func30, Tryz.ntmps30
    go_wp2_with fail
    clear e1 e2 HW1 HW2 hs1 hs2
    refine HCC.out.mono ?_
    rintro e3 w3 ⟨rfl, o3, A3, C3, c3, M3, q1, q2, S3⟩
    have HT3 := hid (HT2.out.real M3 q1 q2 S3)
    have HA3 := hid (S3.has HA2.out (by rw [OA2.out]; exact QM.n6))
    have OA3 : Hid (o3 (bo + 1) = 6) := (S3.ext _ HA2.out.lt).trans OA2.out
    obtain ⟨ae, an1, am, as1, at1⟩ := an
    clear M3 q1 q2 S3 HCC p0 p1 p4 pl
    have PA := TW.ans HT3.out HA3.out OA3.out ⟨ae, an1, am, as1, at1⟩
    have T9 : Hid (Has (((((w3.setCell ⟨bo + 1, 0, none⟩ (.int .i64 ae)).setCell ⟨bo + 1, 1, none⟩ (.int .i64 an1)).setCell ⟨bo + 1, 2, none⟩ (.int .i64 am)).setCell ⟨bo + 1, 3, none⟩ (sv as1)).setCell ⟨bo + 1, 4, none⟩ (sv at1)) (bo + 1) #[.int .i64 ae, .int .i64 an1, .int .i64 am, sv as1, sv at1] 54) := PA.2
    have FIN : Hid (Q (.returned (.agg #[.int .i64 ae, .int .i64 an1, .int .i64 am, sv as1, sv at1])) (((((w3.setCell ⟨bo + 1, 0, none⟩ (.int .i64 ae)).setCell ⟨bo + 1, 1, none⟩ (.int .i64 an1)).setCell ⟨bo + 1, 2, none⟩ (.int .i64 am)).setCell ⟨bo + 1, 3, none⟩ (sv as1)).setCell ⟨bo + 1, 4, none⟩ (sv at1))) := by
      show Q _ _
      rw [← HQ.out, HKD.out]
      exact ⟨rfl, _, _, _, _, PA.1⟩
    have ha := HA3.out
    have a0 := ha.cell 0
    have a1 := ha.cell 1
    have a2 := ha.cell 2
    have a3 := ha.cell 3
    have a4 := ha.cell 4
    have az0 := ha.frozen 0
    have az1 := ha.frozen 1
    have az2 := ha.frozen 2
    have az3 := ha.frozen 3
    have az4 := ha.frozen 4
    have al := ha.lt
    simp only [List.getElem?_toArray, List.getElem?_cons_succ, List.getElem?_cons_zero] at a0 a1 a2 a3 a4
    clear ha PA
    go_wp2_with fail
    exact bodyPost_ret (res_cell isAns rfl rfl T9.out rfl) rfl FIN.out
  have b1 : (kd == 1) = false := by rw [beq_eq_false_iff_ne]; exact k1
  by_cases k2 : kd = 2
  · have b2 : (kd == 2) = true := by simp [k2]
    have HKD : Hid (dAns kd an = ⟨0, 0, 0, [], []⟩) := by show dAns kd an = _; unfold dAns; rw [if_neg k1, if_neg (by omega)]
    have CC := cleft_any HT2.out.M
    rw [HT2.out.cb] at CC
    have HCC := hid CC
    clear CC k1 k2
    go_enter Tryz.func30, Tryz.ntmps30
    go_wp2_with fail
    clear e1 e2 HW1 HW2 hs1 hs2
    refine HCC.out.mono ?_
    rintro e3 w3 ⟨rfl, hw3⟩
    rw [hw3]
    clear hw3 HCC
    clear w3
    have PA := TW.ans HT2.out HA2.out OA2.out ⟨0, 0, 0, [], []⟩
    have T9 : Hid (Has (((((W2.setCell ⟨bo + 1, 0, none⟩ (.int .i64 0)).setCell ⟨bo + 1, 1, none⟩ (.int .i64 0)).setCell ⟨bo + 1, 2, none⟩ (.int .i64 0)).setCell ⟨bo + 1, 3, none⟩ (sv [])).setCell ⟨bo + 1, 4, none⟩ (sv [])) (bo + 1) #[.int .i64 0, .int .i64 0, .int .i64 0, sv [], sv []] 54) := PA.2
    have FIN : Hid (Q (.returned (.agg #[.int .i64 0, .int .i64 0, .int .i64 0, sv [], sv []])) (((((W2.setCell ⟨bo + 1, 0, none⟩ (.int .i64 0)).setCell ⟨bo + 1, 1, none⟩ (.int .i64 0)).setCell ⟨bo + 1, 2, none⟩ (.int .i64 0)).setCell ⟨bo + 1, 3, none⟩ (sv [])).setCell ⟨bo + 1, 4, none⟩ (sv []))) := by
      show Q _ _
      rw [← HQ.out, HKD.out]
      exact ⟨rfl, _, _, _, _, PA.1⟩
    have ha := HA2.out
    have a0 := ha.cell 0
    have a1 := ha.cell 1
    have a2 := ha.cell 2
    have a3 := ha.cell 3
    have a4 := ha.cell 4
    have az0 := ha.frozen 0
    have az1 := ha.frozen 1
    have az2 := ha.frozen 2
    have az3 := ha.frozen 3
    have az4 := ha.frozen 4
    have al := ha.lt
    simp only [List.getElem?_toArray, List.getElem?_cons_succ, List.getElem?_cons_zero] at a0 a1 a2 a3 a4
    clear ha PA
    go_wp2_with fail
    exact bodyPost_ret (res_cell isAns rfl rfl T9.out rfl) rfl FIN.out
  have b2 : (kd == 2) = false := by rw [beq_eq_false_iff_ne]; exact k2
  by_cases k3 : kd = 3
  · have b3 : (kd == 3) = true := by simp [k3]
    have HKD : Hid (dAns kd an = ⟨0, 1, 0, [], []⟩) := by show dAns kd an = _; unfold dAns; rw [if_neg k1, if_pos k3]
    have CC := ccheck_any HT2.out.M
    rw [HT2.out.cb] at CC
    have HCC := hid CC
    have HB : Hid (∀ W2 : World, Calls Tryz.prog 50 #[.bool true] W2 fun e w' => e = .returned (.int .i64 1) ∧ w' = W2) := fun W2 => lb2i_any true
    clear CC k1 k2 k3
    go_enter Tryz.func30, Tryz.ntmps30
    go_wp2_with fail
    clear e1 e2 HW1 HW2 hs1 hs2
    refine HCC.out.mono ?_
    rintro e3 w3 ⟨rfl, f3⟩
    have HT3 := hid (HT2.out.fresh f3)
    have HA3 := hid (HA2.out.fr f3 (fun x => x))
    clear f3 HCC p0 p1 p4 pl
    go_wp2_with fail
    refine (HB.out _).mono ?_
    rintro e4 w4 ⟨rfl, hw4⟩
    rw [hw4]
    clear hw4
    clear w4
    have PA := TW.ans HT3.out HA3.out OA2.out ⟨0, 1, 0, [], []⟩
    have T9 : Hid (Has (((((w3.setCell ⟨bo + 1, 0, none⟩ (.int .i64 0)).setCell ⟨bo + 1, 1, none⟩ (.int .i64 1)).setCell ⟨bo + 1, 2, none⟩ (.int .i64 0)).setCell ⟨bo + 1, 3, none⟩ (sv [])).setCell ⟨bo + 1, 4, none⟩ (sv [])) (bo + 1) #[.int .i64 0, .int .i64 1, .int .i64 0, sv [], sv []] 54) := PA.2
    have FIN : Hid (Q (.returned (.agg #[.int .i64 0, .int .i64 1, .int .i64 0, sv [], sv []])) (((((w3.setCell ⟨bo + 1, 0, none⟩ (.int .i64 0)).setCell ⟨bo + 1, 1, none⟩ (.int .i64 1)).setCell ⟨bo + 1, 2, none⟩ (.int .i64 0)).setCell ⟨bo + 1, 3, none⟩ (sv [])).setCell ⟨bo + 1, 4, none⟩ (sv []))) := by
      show Q _ _
      rw [← HQ.out, HKD.out]
      exact ⟨rfl, _, _, _, _, PA.1⟩
    have ha := HA3.out
    have a0 := ha.cell 0
    have a1 := ha.cell 1
    have a2 := ha.cell 2
    have a3 := ha.cell 3
    have a4 := ha.cell 4
    have az0 := ha.frozen 0
    have az1 := ha.frozen 1
    have az2 := ha.frozen 2
    have az3 := ha.frozen 3
    have az4 := ha.frozen 4
    have al := ha.lt
    simp only [List.getElem?_toArray, List.getElem?_cons_succ, List.getElem?_cons_zero] at a0 a1 a2 a3 a4
    clear ha PA
    go_wp2_with fail
    exact bodyPost_ret (res_cell isAns rfl rfl T9.out rfl) rfl FIN.out
  have b3 : (kd == 3) = false := by rw [beq_eq_false_iff_ne]; exact k3
  have HKD : Hid (dAns kd an = ⟨0, 0, 0, [], []⟩) := by show dAns kd an = _; unfold dAns; rw [if_neg k1, if_neg k3]
  by_cases k4 : kd = 4
  · have b4 : (kd == 4) = true := by simp [k4]
    have HCC : Hid (∀ W2 : World, Calls Tryz.prog 48 #[.pointer (some ⟨C.cb, 0, none⟩)] W2 fun e w' => e = .returned (sv []) ∧ w' = W2) := fun W2 => cshow_any _
    clear k1 k2 k3 k4
    go_enter Tryz.func30, Tryz.ntmps30
    go_wp2_with fail
    clear e1 e2 HW1 HW2 hs1 hs2
    refine (HCC.out _).mono ?_
    rintro e3 w3 ⟨rfl, hw3⟩
    rw [hw3]
    clear hw3 HCC
    clear w3
    have PA := TW.ans HT2.out HA2.out OA2.out ⟨0, 0, 0, [], []⟩
    have T9 : Hid (Has (((((W2.setCell ⟨bo + 1, 0, none⟩ (.int .i64 0)).setCell ⟨bo + 1, 1, none⟩ (.int .i64 0)).setCell ⟨bo + 1, 2, none⟩ (.int .i64 0)).setCell ⟨bo + 1, 3, none⟩ (sv [])).setCell ⟨bo + 1, 4, none⟩ (sv [])) (bo + 1) #[.int .i64 0, .int .i64 0, .int .i64 0, sv [], sv []] 54) := PA.2
    have FIN : Hid (Q (.returned (.agg #[.int .i64 0, .int .i64 0, .int .i64 0, sv [], sv []])) (((((W2.setCell ⟨bo + 1, 0, none⟩ (.int .i64 0)).setCell ⟨bo + 1, 1, none⟩ (.int .i64 0)).setCell ⟨bo + 1, 2, none⟩ (.int .i64 0)).setCell ⟨bo + 1, 3, none⟩ (sv [])).setCell ⟨bo + 1, 4, none⟩ (sv []))) := by
      show Q _ _
      rw [← HQ.out, HKD.out]
      exact ⟨rfl, _, _, _, _, PA.1⟩
    have ha := HA2.out
    have a0 := ha.cell 0
    have a1 := ha.cell 1
    have a2 := ha.cell 2
    have a3 := ha.cell 3
    have a4 := ha.cell 4
    have az0 := ha.frozen 0
    have az1 := ha.frozen 1
    have az2 := ha.frozen 2
    have az3 := ha.frozen 3
    have az4 := ha.frozen 4
    have al := ha.lt
    simp only [List.getElem?_toArray, List.getElem?_cons_succ, List.getElem?_cons_zero] at a0 a1 a2 a3 a4
    clear ha PA
    go_wp2_with fail
    exact bodyPost_ret (res_cell isAns rfl rfl T9.out rfl) rfl FIN.out
  have b4 : (kd == 4) = false := by rw [beq_eq_false_iff_ne]; exact k4
  clear k1 k2 k3 k4
  have PA := TW.ans HT2.out HA2.out OA2.out ⟨0, 0, 0, [], []⟩
  have T9 : Hid (Has (((((W2.setCell ⟨bo + 1, 0, none⟩ (.int .i64 0)).setCell ⟨bo + 1, 1, none⟩ (.int .i64 0)).setCell ⟨bo + 1, 2, none⟩ (.int .i64 0)).setCell ⟨bo + 1, 3, none⟩ (sv [])).setCell ⟨bo + 1, 4, none⟩ (sv [])) (bo + 1) #[.int .i64 0, .int .i64 0, .int .i64 0, sv [], sv []] 54) := PA.2
  have FIN : Hid (Q (.returned (.agg #[.int .i64 0, .int .i64 0, .int .i64 0, sv [], sv []])) (((((W2.setCell ⟨bo + 1, 0, none⟩ (.int .i64 0)).setCell ⟨bo + 1, 1, none⟩ (.int .i64 0)).setCell ⟨bo + 1, 2, none⟩ (.int .i64 0)).setCell ⟨bo + 1, 3, none⟩ (sv [])).setCell ⟨bo + 1, 4, none⟩ (sv []))) := by
    show Q _ _
    rw [← HQ.out, HKD.out]
    exact ⟨rfl, _, _, _, _, PA.1⟩
  have ha := HA2.out
  have a0 := ha.cell 0
  have a1 := ha.cell 1
  have a2 := ha.cell 2
  have a3 := ha.cell 3
  have a4 := ha.cell 4
  have az0 := ha.frozen 0
  have az1 := ha.frozen 1
  have az2 := ha.frozen 2
  have az3 := ha.frozen 3
  have az4 := ha.frozen 4
  have al := ha.lt
  simp only [List.getElem?_toArray, List.getElem?_cons_succ, List.getElem?_cons_zero] at a0 a1 a2 a3 a4
  clear ha PA
  go_enter Tryz.func30, Tryz.ntmps30
  go_wp2_with fail
  clear e1 e2 HW1 HW2 hs1 hs2
  exact bodyPost_ret (res_cell isAns rfl rfl T9.out rfl) rfl FIN.out
end
end Go.Proofs.Qxb6500574aGreatDoor
