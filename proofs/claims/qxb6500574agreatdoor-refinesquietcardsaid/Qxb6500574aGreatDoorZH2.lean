/-
  THE WALKS of complaw: DoM, Seen.
-/
import Derived.Test.Qxb6500574aGreatDoorZH1
namespace Go.Proofs.Qxb6500574aGreatDoor
open Go Go.RowKit
set_option linter.unusedVariables false
set_option linter.unusedSimpArgs false
section
variable {bc sx bm bn bt bs ba : Nat} {w w1 w2 w3 : World} {o o1 o2 o3 : Nat → Nat} {C C1 C2 C3 : CC} {num : Value} {A A1 A2 A3 : VL} {c c1 c2 c3 : CmD} {an : AnD}
/-- how a step of the model ends -/
def DmQ (w : World) (bm bn bt bs : Nat) (an : AnD) (e : Ending) (w' : World) : Prop :=
  e = .returned (.agg #[.int .i64 an.e, .int .i64 an.n, .int .i64 an.m, sv an.s, sv an.t]) ∧ Fr (fun k => k = bt) w w' ∧ CpM w' bm bn bt bs
theorem DmQ.put {b : Nat} (F : Fr (fun k => k = bt) w w3) (m : CpM w3 bm bn bt bs) (hb : w.heap.size ≤ b) (hm : b ≠ bm) (ht : b ≠ bt) (hs : b ≠ bs) (ha : Has w3 b #[.int .i64 0, .int .i64 0, .int .i64 0, sv [], sv []] 54) (an : AnD) :
    (Fr (fun k => k = bt) w (((((w3.setCell ⟨b, 0, none⟩ (.int .i64 an.e)).setCell ⟨b, 1, none⟩ (.int .i64 an.n)).setCell ⟨b, 2, none⟩ (.int .i64 an.m)).setCell ⟨b, 3, none⟩ (sv an.s)).setCell ⟨b, 4, none⟩ (sv an.t)) ∧ CpM (((((w3.setCell ⟨b, 0, none⟩ (.int .i64 an.e)).setCell ⟨b, 1, none⟩ (.int .i64 an.n)).setCell ⟨b, 2, none⟩ (.int .i64 an.m)).setCell ⟨b, 3, none⟩ (sv an.s)).setCell ⟨b, 4, none⟩ (sv an.t)) bm bn bt bs) ∧ Has (((((w3.setCell ⟨b, 0, none⟩ (.int .i64 an.e)).setCell ⟨b, 1, none⟩ (.int .i64 an.n)).setCell ⟨b, 2, none⟩ (.int .i64 an.m)).setCell ⟨b, 3, none⟩ (sv an.s)).setCell ⟨b, 4, none⟩ (sv an.t)) b #[.int .i64 an.e, .int .i64 an.n, .int .i64 an.m, sv an.s, sv an.t] 54 := by
  have st : ∀ {W : World} (i : Nat) (u : Value), Fr (fun k => k = bt) w W ∧ CpM W bm bn bt bs → Fr (fun k => k = bt) w (W.setCell ⟨b, i, none⟩ u) ∧ CpM (W.setCell ⟨b, i, none⟩ u) bm bn bt bs := fun {W} i u h => by
    obtain ⟨s, t⟩ := h.2.t
    exact ⟨h.1.setCell (p := ⟨b, i, none⟩) (.inr hb) u, h.2.c.other (p := ⟨b, i, none⟩) (fun e => hm e.symm) u, ⟨s, t.other (p := ⟨b, i, none⟩) (fun e => ht e.symm) u⟩, h.2.s.other (p := ⟨b, i, none⟩) (fun e => hs e.symm) u, h.2.n1, h.2.n2⟩
  refine ⟨st 4 _ (st 3 _ (st 2 _ (st 1 _ (st 0 _ ⟨F, m⟩)))), ?_⟩
  have := ((((ha.put 0 (.int .i64 an.e)).put 1 (.int .i64 an.n)).put 2 (.int .i64 an.m)).put 3 (sv an.s)).put 4 (sv an.t)
  simpa using this
set_option maxRecDepth 100000
set_option maxHeartbeats 1000000
theorem dom_any (h : CpM w1 bm bn bt bs) {kd fa fb fc : Int} {src tx : Bs} (hrun : ∀ W, CpM W bm bn bt bs → Calls Tryz.prog 51 #[.pointer (some ⟨bm, 0, none⟩), sv src, .int .i64 fa] W (RnF W bm bn bt bs an)) :
    Calls Tryz.prog 31 #[.pointer (some ⟨bm, 0, none⟩), .agg #[.int .i64 kd, .int .i64 fa, .int .i64 fb, .int .i64 fc, sv src, sv tx]] w1 (DmQ w1 bm bn bt bs (dAns kd an)) := by
  obtain ⟨W1, HW1⟩ : ∃ W, Hid (w1.alloc (.cells #[.int .i64 kd, .int .i64 fa, .int .i64 fb, .int .i64 fc, sv src, sv tx] 32) = W) := ⟨_, rfl⟩
  have F1 : Fr (fun _ => False) w1 W1 := by rw [← HW1.out]; exact (Fr.refl _ _).alloc _
  have O1 : Has W1 w1.heap.size #[.int .i64 kd, .int .i64 fa, .int .i64 fb, .int .i64 fc, sv src, sv tx] 32 := by rw [← HW1.out]; exact Has.new _ _ _
  have s1 : W1.heap.size = w1.heap.size + 1 := by rw [← HW1.out]; simp
  obtain ⟨W2, HW2⟩ : ∃ W, Hid (W1.alloc (.cells #[.int .i64 0, .int .i64 0, .int .i64 0, sv [], sv []] 54) = W) := ⟨_, rfl⟩
  have F2 : Fr (fun _ => False) W1 W2 := by rw [← HW2.out]; exact (Fr.refl _ _).alloc _
  have A2 : Has W2 W1.heap.size #[.int .i64 0, .int .i64 0, .int .i64 0, sv [], sv []] 54 := by rw [← HW2.out]; exact Has.new _ _ _
  have O2 := O1.fr F2 (fun x => x)
  have F3 : Fr (fun _ => False) w1 W2 := F1.trans F2 (fun _ _ x => x)
  have M2 := h.fresh F3
  have F4 : Fr (fun k => k = bt) w1 W2 := F3.weaken (fun _ _ x => x.elim)
  rw [s1] at A2
  obtain ⟨st, ht⟩ := h.t
  have l1 := h.c.lt
  have l2 := ht.lt
  have l3 := h.s.lt
  have N0 : Hid (w1.heap.size ≤ w1.heap.size + 1 ∧ w1.heap.size + 1 ≠ bm ∧ w1.heap.size + 1 ≠ bt ∧ w1.heap.size + 1 ≠ bs) := ⟨by omega, by omega, by omega, by omega⟩
  obtain ⟨bo, HBO⟩ : ∃ b, Hid (w1.heap.size = b) := ⟨_, rfl⟩
  have e1 : w1.alloc (.cells #[.int .i64 kd, .int .i64 fa, .int .i64 fb, .int .i64 fc, sv src, sv tx] 32) = W1 := HW1.out
  have e2 : W1.alloc (.cells #[.int .i64 0, .int .i64 0, .int .i64 0, sv [], sv []] 54) = W2 := HW2.out
  have HN0 : Hid (w1.heap.size ≤ bo + 1 ∧ bo + 1 ≠ bm ∧ bo + 1 ≠ bt ∧ bo + 1 ≠ bs) := by
    have := N0.out
    rw [HBO.out] at this ⊢
    exact this
  rw [HBO.out] at A2 O2
  have hs1 : w1.heap.size = bo := HBO.out
  have hs2 : W1.heap.size = bo + 1 := by rw [s1, HBO.out]
  have p0 := O2.cell 0
  have p1 := O2.cell 1
  have p4 := O2.cell 4
  have pl := O2.lt
  simp only [List.getElem?_toArray, List.getElem?_cons_succ, List.getElem?_cons_zero] at p0 p1 p4
  have HM2 := hid M2
  have HF2 := hid F4
  have HA2 := hid A2
  obtain ⟨Q, HQ⟩ : ∃ Q : Ending → World → Prop, Hid (DmQ w1 bm bn bt bs (dAns kd an) = Q) := ⟨_, rfl⟩
  rw [HQ.out]
  have HR := hid hrun
  clear h F1 F2 F3 F4 M2 O1 A2 O2 s1 hrun N0 ht l1 l2 l3
  by_cases k1 : kd = 1
  · have b1 : (kd == 1) = true := by simp [k1]
    have HKD : Hid (dAns kd an = an) := by show dAns kd an = an; unfold dAns; rw [if_pos k1]
    have HCC := hid (HR.out W2 HM2.out)
    clear k1
    go_enter Tryz.func31, Tryz.ntmps31
    go_wp2_with fail
    clear e1 e2 HW1 HW2 hs1 hs2
    refine HCC.out.mono ?_
    rintro e3 w3 ⟨rfl, f3, m3⟩
    have HF3 : Hid (Fr (fun k => k = bt) w1 w3) := HF2.out.trans f3 (fun _ _ x => x)
    have HM3 := hid m3
    have HA3 := hid (HA2.out.fr f3 HN0.out.2.2.1)
    obtain ⟨ae, an1, am, as1, at1⟩ := an
    clear f3 m3 HCC p0 p1 p4 pl
    have PA := DmQ.put HF3.out HM3.out HN0.out.1 HN0.out.2.1 HN0.out.2.2.1 HN0.out.2.2.2 HA3.out ⟨ae, an1, am, as1, at1⟩
    have T9 : Hid (Has (((((w3.setCell ⟨bo + 1, 0, none⟩ (.int .i64 ae)).setCell ⟨bo + 1, 1, none⟩ (.int .i64 an1)).setCell ⟨bo + 1, 2, none⟩ (.int .i64 am)).setCell ⟨bo + 1, 3, none⟩ (sv as1)).setCell ⟨bo + 1, 4, none⟩ (sv at1)) (bo + 1) #[.int .i64 ae, .int .i64 an1, .int .i64 am, sv as1, sv at1] 54) := PA.2
    have FIN : Hid (Q (.returned (.agg #[.int .i64 ae, .int .i64 an1, .int .i64 am, sv as1, sv at1])) (((((w3.setCell ⟨bo + 1, 0, none⟩ (.int .i64 ae)).setCell ⟨bo + 1, 1, none⟩ (.int .i64 an1)).setCell ⟨bo + 1, 2, none⟩ (.int .i64 am)).setCell ⟨bo + 1, 3, none⟩ (sv as1)).setCell ⟨bo + 1, 4, none⟩ (sv at1))) := by
      show Q _ _
      rw [← HQ.out, HKD.out]
      exact ⟨rfl, PA.1⟩
    have ha := HA3.out
    have a0 := ha.cell 0
    have a1 := ha.cell 1
    have a2 := ha.cell 2
    have a3 := ha.cell 3
    have a4 := ha.cell 4
    have az0 := ha.frozen 0
    have az1 := ha.frozen 1
    have az2 := ha.frozen 2
    have az3 := ha.frozen 3
    have az4 := ha.frozen 4
    have al := ha.lt
    simp only [List.getElem?_toArray, List.getElem?_cons_succ, List.getElem?_cons_zero] at a0 a1 a2 a3 a4
    clear ha PA
    go_wp2_with fail
    exact bodyPost_ret (res_cell isAns rfl rfl T9.out rfl) rfl FIN.out
  have b1 : (kd == 1) = false := by rw [beq_eq_false_iff_ne]; exact k1
  by_cases k2 : kd = 2
  · have b2 : (kd == 2) = true := by simp [k2]
    have HKD : Hid (dAns kd an = ⟨0, 0, 0, [], []⟩) := by show dAns kd an = _; unfold dAns; rw [if_neg k1, if_neg (by omega)]
    have HCC : Hid (∀ W2 : World, Calls Tryz.prog 52 #[.pointer (some ⟨bm, 0, none⟩)] W2 fun e w' => e = .returned (.int .i64 0) ∧ w' = W2) := fun W2 => mleft_any _
    clear k1 k2
    go_enter Tryz.func31, Tryz.ntmps31
    go_wp2_with fail
    clear e1 e2 HW1 HW2 hs1 hs2
    refine (HCC.out _).mono ?_
    rintro e3 w3 ⟨rfl, hw3⟩
    rw [hw3]
    clear hw3 HCC
    clear w3
    have PA := DmQ.put HF2.out HM2.out HN0.out.1 HN0.out.2.1 HN0.out.2.2.1 HN0.out.2.2.2 HA2.out ⟨0, 0, 0, [], []⟩
    have T9 : Hid (Has (((((W2.setCell ⟨bo + 1, 0, none⟩ (.int .i64 0)).setCell ⟨bo + 1, 1, none⟩ (.int .i64 0)).setCell ⟨bo + 1, 2, none⟩ (.int .i64 0)).setCell ⟨bo + 1, 3, none⟩ (sv [])).setCell ⟨bo + 1, 4, none⟩ (sv [])) (bo + 1) #[.int .i64 0, .int .i64 0, .int .i64 0, sv [], sv []] 54) := PA.2
    have FIN : Hid (Q (.returned (.agg #[.int .i64 0, .int .i64 0, .int .i64 0, sv [], sv []])) (((((W2.setCell ⟨bo + 1, 0, none⟩ (.int .i64 0)).setCell ⟨bo + 1, 1, none⟩ (.int .i64 0)).setCell ⟨bo + 1, 2, none⟩ (.int .i64 0)).setCell ⟨bo + 1, 3, none⟩ (sv [])).setCell ⟨bo + 1, 4, none⟩ (sv []))) := by
      show Q _ _
      rw [← HQ.out, HKD.out]
      exact ⟨rfl, PA.1⟩
    have ha := HA2.out
    have a0 := ha.cell 0
    have a1 := ha.cell 1
    have a2 := ha.cell 2
    have a3 := ha.cell 3
    have a4 := ha.cell 4
    have az0 := ha.frozen 0
    have az1 := ha.frozen 1
    have az2 := ha.frozen 2
    have az3 := ha.frozen 3
    have az4 := ha.frozen 4
    have al := ha.lt
    simp only [List.getElem?_toArray, List.getElem?_cons_succ, List.getElem?_cons_zero] at a0 a1 a2 a3 a4
    clear ha PA
    go_wp2_with fail
    exact bodyPost_ret (res_cell isAns rfl rfl T9.out rfl) rfl FIN.out
  have b2 : (kd == 2) = false := by rw [beq_eq_false_iff_ne]; exact k2
  by_cases k3 : kd = 3
  · have b3 : (kd == 3) = true := by simp [k3]
    have HKD : Hid (dAns kd an = ⟨0, 1, 0, [], []⟩) := by show dAns kd an = _; unfold dAns; rw [if_neg k1, if_pos k3]
    have HCC : Hid (∀ W2 : World, Calls Tryz.prog 53 #[.pointer (some ⟨bm, 0, none⟩)] W2 fun e w' => e = .returned (.bool true) ∧ w' = W2) := fun W2 => mcheck_any _
    have HB : Hid (∀ W2 : World, Calls Tryz.prog 50 #[.bool true] W2 fun e w' => e = .returned (.int .i64 1) ∧ w' = W2) := fun W2 => lb2i_any true
    clear k1 k2 k3
    go_enter Tryz.func31, Tryz.ntmps31
    go_wp2_with fail
    clear e1 e2 HW1 HW2 hs1 hs2
    refine (HCC.out _).mono ?_
    rintro e3 w3 ⟨rfl, hw3⟩
    rw [hw3]
    clear hw3 HCC
    clear w3
    go_wp2_with fail
    refine (HB.out _).mono ?_
    rintro e4 w4 ⟨rfl, hw4⟩
    rw [hw4]
    clear hw4
    clear w4
    have PA := DmQ.put HF2.out HM2.out HN0.out.1 HN0.out.2.1 HN0.out.2.2.1 HN0.out.2.2.2 HA2.out ⟨0, 1, 0, [], []⟩
    have T9 : Hid (Has (((((W2.setCell ⟨bo + 1, 0, none⟩ (.int .i64 0)).setCell ⟨bo + 1, 1, none⟩ (.int .i64 1)).setCell ⟨bo + 1, 2, none⟩ (.int .i64 0)).setCell ⟨bo + 1, 3, none⟩ (sv [])).setCell ⟨bo + 1, 4, none⟩ (sv [])) (bo + 1) #[.int .i64 0, .int .i64 1, .int .i64 0, sv [], sv []] 54) := PA.2
    have FIN : Hid (Q (.returned (.agg #[.int .i64 0, .int .i64 1, .int .i64 0, sv [], sv []])) (((((W2.setCell ⟨bo + 1, 0, none⟩ (.int .i64 0)).setCell ⟨bo + 1, 1, none⟩ (.int .i64 1)).setCell ⟨bo + 1, 2, none⟩ (.int .i64 0)).setCell ⟨bo + 1, 3, none⟩ (sv [])).setCell ⟨bo + 1, 4, none⟩ (sv []))) := by
      show Q _ _
      rw [← HQ.out, HKD.out]
      exact ⟨rfl, PA.1⟩
    have ha := HA2.out
    have a0 := ha.cell 0
    have a1 := ha.cell 1
    have a2 := ha.cell 2
    have a3 := ha.cell 3
    have a4 := ha.cell 4
    have az0 := ha.frozen 0
    have az1 := ha.frozen 1
    have az2 := ha.frozen 2
    have az3 := ha.frozen 3
    have az4 := ha.frozen 4
    have al := ha.lt
    simp only [List.getElem?_toArray, List.getElem?_cons_succ, List.getElem?_cons_zero] at a0 a1 a2 a3 a4
    clear ha PA
    go_wp2_with fail
    exact bodyPost_ret (res_cell isAns rfl rfl T9.out rfl) rfl FIN.out
  have b3 : (kd == 3) = false := by rw [beq_eq_false_iff_ne]; exact k3
  have HKD : Hid (dAns kd an = ⟨0, 0, 0, [], []⟩) := by show dAns kd an = _; unfold dAns; rw [if_neg k1, if_neg k3]
  by_cases k4 : kd = 4
  · have b4 : (kd == 4) = true := by simp [k4]
    have HCC : Hid (∀ W2 : World, Calls Tryz.prog 49 #[.pointer (some ⟨bm, 0, none⟩)] W2 fun e w' => e = .returned (sv []) ∧ w' = W2) := fun W2 => mshow_any _
    clear k1 k2 k3 k4
    go_enter Tryz.func31, Tryz.ntmps31
    go_wp2_with fail
    clear e1 e2 HW1 HW2 hs1 hs2
    refine (HCC.out _).mono ?_
    rintro e3 w3 ⟨rfl, hw3⟩
    rw [hw3]
    clear hw3 HCC
    clear w3
    have PA := DmQ.put HF2.out HM2.out HN0.out.1 HN0.out.2.1 HN0.out.2.2.1 HN0.out.2.2.2 HA2.out ⟨0, 0, 0, [], []⟩
    have T9 : Hid (Has (((((W2.setCell ⟨bo + 1, 0, none⟩ (.int .i64 0)).setCell ⟨bo + 1, 1, none⟩ (.int .i64 0)).setCell ⟨bo + 1, 2, none⟩ (.int .i64 0)).setCell ⟨bo + 1, 3, none⟩ (sv [])).setCell ⟨bo + 1, 4, none⟩ (sv [])) (bo + 1) #[.int .i64 0, .int .i64 0, .int .i64 0, sv [], sv []] 54) := PA.2
    have FIN : Hid (Q (.returned (.agg #[.int .i64 0, .int .i64 0, .int .i64 0, sv [], sv []])) (((((W2.setCell ⟨bo + 1, 0, none⟩ (.int .i64 0)).setCell ⟨bo + 1, 1, none⟩ (.int .i64 0)).setCell ⟨bo + 1, 2, none⟩ (.int .i64 0)).setCell ⟨bo + 1, 3, none⟩ (sv [])).setCell ⟨bo + 1, 4, none⟩ (sv []))) := by
      show Q _ _
      rw [← HQ.out, HKD.out]
      exact ⟨rfl, PA.1⟩
    have ha := HA2.out
    have a0 := ha.cell 0
    have a1 := ha.cell 1
    have a2 := ha.cell 2
    have a3 := ha.cell 3
    have a4 := ha.cell 4
    have az0 := ha.frozen 0
    have az1 := ha.frozen 1
    have az2 := ha.frozen 2
    have az3 := ha.frozen 3
    have az4 := ha.frozen 4
    have al := ha.lt
    simp only [List.getElem?_toArray, List.getElem?_cons_succ, List.getElem?_cons_zero] at a0 a1 a2 a3 a4
    clear ha PA
    go_wp2_with fail
    exact bodyPost_ret (res_cell isAns rfl rfl T9.out rfl) rfl FIN.out
  have b4 : (kd == 4) = false := by rw [beq_eq_false_iff_ne]; exact k4
  clear k1 k2 k3 k4
  have PA := DmQ.put HF2.out HM2.out HN0.out.1 HN0.out.2.1 HN0.out.2.2.1 HN0.out.2.2.2 HA2.out ⟨0, 0, 0, [], []⟩
  have T9 : Hid (Has (((((W2.setCell ⟨bo + 1, 0, none⟩ (.int .i64 0)).setCell ⟨bo + 1, 1, none⟩ (.int .i64 0)).setCell ⟨bo + 1, 2, none⟩ (.int .i64 0)).setCell ⟨bo + 1, 3, none⟩ (sv [])).setCell ⟨bo + 1, 4, none⟩ (sv [])) (bo + 1) #[.int .i64 0, .int .i64 0, .int .i64 0, sv [], sv []] 54) := PA.2
  have FIN : Hid (Q (.returned (.agg #[.int .i64 0, .int .i64 0, .int .i64 0, sv [], sv []])) (((((W2.setCell ⟨bo + 1, 0, none⟩ (.int .i64 0)).setCell ⟨bo + 1, 1, none⟩ (.int .i64 0)).setCell ⟨bo + 1, 2, none⟩ (.int .i64 0)).setCell ⟨bo + 1, 3, none⟩ (sv [])).setCell ⟨bo + 1, 4, none⟩ (sv []))) := by
    show Q _ _
    rw [← HQ.out, HKD.out]
    exact ⟨rfl, PA.1⟩
  have ha := HA2.out
  have a0 := ha.cell 0
  have a1 := ha.cell 1
  have a2 := ha.cell 2
  have a3 := ha.cell 3
  have a4 := ha.cell 4
  have az0 := ha.frozen 0
  have az1 := ha.frozen 1
  have az2 := ha.frozen 2
  have az3 := ha.frozen 3
  have az4 := ha.frozen 4
  have al := ha.lt
  simp only [List.getElem?_toArray, List.getElem?_cons_succ, List.getElem?_cons_zero] at a0 a1 a2 a3 a4
  clear ha PA
  go_enter Tryz.func31, Tryz.ntmps31
  go_wp2_with fail
  clear e1 e2 HW1 HW2 hs1 hs2
  exact bodyPost_ret (res_cell isAns rfl rfl T9.out rfl) rfl FIN.out
theorem seen_any (h : TW bc w o C sx num bm bn bt bs w1 o1 A1 C1 c1) : Calls Tryz.prog 29 #[.pointer (some ⟨C.cb, 0, none⟩), .pointer (some ⟨bm, 0, none⟩)] w1 fun e w' => e = .returned (.bool true) ∧ Fr (fun _ => False) w1 w' := by
  have H1 : Hid (∀ W2 : World, Calls Tryz.prog 48 #[.pointer (some ⟨C.cb, 0, none⟩)] W2 fun e w' => e = .returned (sv []) ∧ w' = W2) := fun W2 => cshow_any _
  have H2 : Hid (∀ W2 : World, Calls Tryz.prog 49 #[.pointer (some ⟨bm, 0, none⟩)] W2 fun e w' => e = .returned (sv []) ∧ w' = W2) := fun W2 => mshow_any _
  have C3 := cleft_any h.M
  have C4 := ccheck_any h.M
  rw [h.cb] at C3 C4
  have H3 := hid C3
  have H4 := hid C4
  clear C3 C4 h
  go_enter Tryz.func29, Tryz.ntmps29
  go_wp2_with fail
  refine (H1.out _).mono ?_
  rintro e3 w3 ⟨rfl, hw3⟩
  rw [hw3]
  clear hw3
  clear w3
  go_wp2_with fail
  refine (H2.out _).mono ?_
  rintro e3 w3 ⟨rfl, hw3⟩
  rw [hw3]
  clear hw3
  clear w3
  go_wp2_with fail
  refine H3.out.mono ?_
  rintro e3 w3 ⟨rfl, hw3⟩
  rw [hw3]
  clear hw3
  clear w3
  go_wp2_with fail
  refine H4.out.mono ?_
  rintro e4 w4 ⟨rfl, f4⟩
  have HF := hid f4
  clear f4
  go_wp2
  go_ret
  exact ⟨rfl, HF.out⟩
end
end Go.Proofs.Qxb6500574aGreatDoor
