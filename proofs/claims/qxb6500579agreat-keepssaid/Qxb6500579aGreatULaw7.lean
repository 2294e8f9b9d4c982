/-
  THE WALK of vmlaw: Do: Load, Exec; whatever the step.
-/
import Derived.Test.Qxb6500579aGreatULaw6
namespace Go.Proofs.Qxb6500579aGreat
open Go Go.RowKit
set_option linter.unusedVariables false
set_option linter.unusedSimpArgs false
section
variable {w : World} {A : VL} {σ : St} {r : RegD} {o : OpD}
set_option maxRecDepth 100000
set_option maxHeartbeats 1000000
theorem VSt.own0 {w W W1 : World} {A A1 : VL} {b : Nat} {cs : Array Value} {T : TypeId} (hO : Ow w A.o) (hb : w.heap.size ≤ b) (S : VSt isVM W A W1 A1) (hB : Has W b cs T) : A1.o b = 0 ∧ Has W1 b cs T := by
  have h0 : A.o b = 0 := hO b hb
  exact ⟨(S.st.ext b hB.lt).trans h0, S.st.has hB (by rw [h0]; exact fun x => x rfl)⟩
/-- the answer is stored behind a step that ended in σ' -/
theorem do_fin (R : VRep w A σ.m σ.f σ.e) {Q : Ending → World → Prop} (HQ : DoPost w A σ r o = Q) {x : AnsD} {σ' : St} (hd : DoR σ r o x σ') {W : World} {A1 : VL} (hS : VSt isVM w A W A1) (hR1 : VRep W A1 σ'.m σ'.f σ'.e) (h0 : A1.o (w.heap.size + 1 + 1 + 1) = 0) {v0 v1 v2 v3 v4 : Value} (hB : Has W (w.heap.size + 1 + 1 + 1) #[v0, v1, v2, v3, v4] 41) :
    ∀ x0 x1 x2 x3 x4 : Value, .agg #[x0, x1, x2, x3, x4] = AnsD.val x → Q (.returned (.agg #[x0, x1, x2, x3, x4])) (((((W.setCell ⟨w.heap.size + 1 + 1 + 1, 0, none⟩ x0).setCell ⟨w.heap.size + 1 + 1 + 1, 1, none⟩ x1).setCell ⟨w.heap.size + 1 + 1 + 1, 2, none⟩ x2).setCell ⟨w.heap.size + 1 + 1 + 1, 3, none⟩ x3).setCell ⟨w.heap.size + 1 + 1 + 1, 4, none⟩ x4) ∧ Has (((((W.setCell ⟨w.heap.size + 1 + 1 + 1, 0, none⟩ x0).setCell ⟨w.heap.size + 1 + 1 + 1, 1, none⟩ x1).setCell ⟨w.heap.size + 1 + 1 + 1, 2, none⟩ x2).setCell ⟨w.heap.size + 1 + 1 + 1, 3, none⟩ x3).setCell ⟨w.heap.size + 1 + 1 + 1, 4, none⟩ x4) (w.heap.size + 1 + 1 + 1) #[x0, x1, x2, x3, x4] 41 := by
  intro x0 x1 x2 x3 x4 he
  have hf := ans_fin hS hR1 (b := w.heap.size + 1 + 1 + 1) (by omega) h0 hB x0 x1 x2 x3 x4
  rw [← HQ]
  exact ⟨⟨x, σ', A1, by rw [he], hd, hf.1, hf.2.1⟩, hf.2.2⟩
theorem do_load (R : VRep w A σ.m σ.f σ.e) (hO : OpIn o) (hk : o.k = 3) : Calls Tryz.prog 25 #[.pointer (some ⟨A.b, 0, none⟩), .agg #[.pointer (some ⟨A.bn, 0, none⟩), .pointer (some ⟨A.bt, 0, none⟩)], r.val, o.val] w (DoPost w A σ r o) := by
  have HR : Hid (VRep w A σ.m σ.f σ.e) := R
  have ha := hO.a
  have HDO : Hid (DoR σ r o ⟨(loadS o.s o.a).1, 0, 0, [], []⟩ (loadS o.s o.a).2) := by
    unfold DoR
    rw [if_pos hk]
    exact ⟨rfl, rfl⟩
  obtain ⟨Q, HQ⟩ : ∃ Q : Ending → World → Prop, Hid (DoPost w A σ r o = Q) := ⟨_, rfl⟩
  rw [HQ.out]
  have HF0 : Hid (Fr (fun _ => False) w (doW w A r o)) := doW_fr
  have HB0 : Hid (Has (doW w A r o) (w.heap.size + 1 + 1 + 1) #[.int .i64 0, .int .i64 0, .int .i64 0, sv [], sv []] 41) := doW_ans
  have FIN : Hid (∀ W A1, VSt isVM (doW w A r o) A W A1 → VRep W A1 (loadS o.s o.a).2.m (loadS o.s o.a).2.f (loadS o.s o.a).2.e → Has W (w.heap.size + 1 + 1 + 1) #[.int .i64 0, .int .i64 0, .int .i64 0, sv [], sv []] 41 ∧ ∀ x0 x1 x2 x3 x4 : Value, .agg #[x0, x1, x2, x3, x4] = AnsD.val ⟨(loadS o.s o.a).1, 0, 0, [], []⟩ → Q (.returned (.agg #[x0, x1, x2, x3, x4])) (((((W.setCell ⟨w.heap.size + 1 + 1 + 1, 0, none⟩ x0).setCell ⟨w.heap.size + 1 + 1 + 1, 1, none⟩ x1).setCell ⟨w.heap.size + 1 + 1 + 1, 2, none⟩ x2).setCell ⟨w.heap.size + 1 + 1 + 1, 3, none⟩ x3).setCell ⟨w.heap.size + 1 + 1 + 1, 4, none⟩ x4) ∧ Has (((((W.setCell ⟨w.heap.size + 1 + 1 + 1, 0, none⟩ x0).setCell ⟨w.heap.size + 1 + 1 + 1, 1, none⟩ x1).setCell ⟨w.heap.size + 1 + 1 + 1, 2, none⟩ x2).setCell ⟨w.heap.size + 1 + 1 + 1, 3, none⟩ x3).setCell ⟨w.heap.size + 1 + 1 + 1, 4, none⟩ x4) (w.heap.size + 1 + 1 + 1) #[x0, x1, x2, x3, x4] 41) := by
    intro W A1 hS hR1
    obtain ⟨h0, hB⟩ := VSt.own0 HR.out.own (by omega) hS doW_ans
    exact ⟨hB, do_fin HR.out HQ.out HDO.out ((VSt.fresh doW_fr).trans hS) hR1 h0 hB⟩
  obtain ⟨⟨⟨rt, rn, rs⟩, ⟨st, sn, ss⟩⟩, HRG⟩ : ∃ r', Hid (r = r') := ⟨r, rfl⟩
  obtain ⟨⟨ok, oa, ob, oc, os, ot⟩, HOP⟩ : ∃ o', Hid (o = o') := ⟨o, rfl⟩
  rw [HRG.out, HOP.out] at HF0 HB0 FIN ⊢
  rw [HOP.out] at hk ha
  dsimp only at hk ha
  subst hk
  clear R hO
  go_enter Tryz.func25, Tryz.ntmps25
  go_wp2_with fail
  refine (load_all (HR.out.fresh HF0.out) os ha.2).mono ?_
  rintro e' w1 ⟨rfl, A1, R1, S1⟩
  obtain ⟨hB1, hfn⟩ := FIN.out w1 A1 S1 R1
  have HFN : Hid (∀ x0 x1 x2 x3 x4 : Value, _ → _) := hfn
  obtain ⟨LE, HLE⟩ : ∃ x, Hid ((loadS os oa).1 = x) := ⟨_, rfl⟩
  rw [HLE.out] at HFN ⊢
  have x0 := hB1.cell 0
  have x1 := hB1.cell 1
  have x2 := hB1.cell 2
  have x3 := hB1.cell 3
  have x4 := hB1.cell 4
  have z0 := hB1.frozen 0
  have z1 := hB1.frozen 1
  have z2 := hB1.frozen 2
  have z3 := hB1.frozen 3
  have z4 := hB1.frozen 4
  have xl := hB1.lt
  simp only [List.getElem?_toArray, List.getElem?_cons_succ, List.getElem?_cons_zero] at x0 x1 x2 x3 x4
  clear hB1 hfn FIN HF0 HB0 R1 S1
  go_wp2_with fail
  exact bodyPost_ret (res_cell isAnsU rfl rfl (HFN.out _ _ _ _ _ rfl).2 rfl) rfl (HFN.out _ _ _ _ _ rfl).1
theorem do_exec (R : VRep w A σ.m σ.f σ.e) (D : DI σ) (hO : OpIn o) (hG : RegIn r) (hk : o.k = 4) : Calls Tryz.prog 25 #[.pointer (some ⟨A.b, 0, none⟩), .agg #[.pointer (some ⟨A.bn, 0, none⟩), .pointer (some ⟨A.bt, 0, none⟩)], r.val, o.val] w (DoPost w A σ r o) := by
  have HR : Hid (VRep w A σ.m σ.f σ.e) := R
  have HD : Hid (DI σ) := D
  have ha := hO.a
  have g1 := hG.a
  have g2 := hG.b
  have HDO : Hid (∀ ev σ', ExecR σ o.a r.a r.b ev σ' → DoR σ r o (toldD ev) σ') := by
    intro ev σ' h
    unfold DoR
    rw [if_neg (by omega), if_pos hk]
    exact ⟨ev, h, rfl⟩
  obtain ⟨Q, HQ⟩ : ∃ Q : Ending → World → Prop, Hid (DoPost w A σ r o = Q) := ⟨_, rfl⟩
  rw [HQ.out]
  have HF0 : Hid (Fr (fun _ => False) w (doW w A r o)) := doW_fr
  have HB0 : Hid (Has (doW w A r o) (w.heap.size + 1 + 1 + 1) #[.int .i64 0, .int .i64 0, .int .i64 0, sv [], sv []] 41) := doW_ans
  have FIN : Hid (∀ ev σ' W1 A1 W, ExecR σ o.a r.a r.b ev σ' → VSt isVM (doW w A r o) A W1 A1 → VRep W1 A1 σ'.m σ'.f σ'.e → Fr (fun _ => False) W1 W → Has W (w.heap.size + 1 + 1 + 1) #[.int .i64 0, .int .i64 0, .int .i64 0, sv [], sv []] 41 ∧ ∀ x0 x1 x2 x3 x4 : Value, .agg #[x0, x1, x2, x3, x4] = AnsD.val (toldD ev) → Q (.returned (.agg #[x0, x1, x2, x3, x4])) (((((W.setCell ⟨w.heap.size + 1 + 1 + 1, 0, none⟩ x0).setCell ⟨w.heap.size + 1 + 1 + 1, 1, none⟩ x1).setCell ⟨w.heap.size + 1 + 1 + 1, 2, none⟩ x2).setCell ⟨w.heap.size + 1 + 1 + 1, 3, none⟩ x3).setCell ⟨w.heap.size + 1 + 1 + 1, 4, none⟩ x4) ∧ Has (((((W.setCell ⟨w.heap.size + 1 + 1 + 1, 0, none⟩ x0).setCell ⟨w.heap.size + 1 + 1 + 1, 1, none⟩ x1).setCell ⟨w.heap.size + 1 + 1 + 1, 2, none⟩ x2).setCell ⟨w.heap.size + 1 + 1 + 1, 3, none⟩ x3).setCell ⟨w.heap.size + 1 + 1 + 1, 4, none⟩ x4) (w.heap.size + 1 + 1 + 1) #[x0, x1, x2, x3, x4] 41) := by
    intro ev σ' W1 A1 W he hS hR1 hF
    obtain ⟨h0, hB⟩ := VSt.own0 HR.out.own (by omega) hS doW_ans
    have hB2 := hB.fr hF (fun x => x)
    exact ⟨hB2, do_fin HR.out HQ.out (HDO.out ev σ' he) (((VSt.fresh doW_fr).trans hS).trans (VSt.fresh hF)) (hR1.fresh hF) h0 hB2⟩
  obtain ⟨⟨⟨rt, rn, rs⟩, ⟨st, sn, ss⟩⟩, HRG⟩ : ∃ r', Hid (r = r') := ⟨r, rfl⟩
  obtain ⟨⟨ok, oa, ob, oc, os, ot⟩, HOP⟩ : ∃ o', Hid (o = o') := ⟨o, rfl⟩
  rw [HRG.out, HOP.out] at HF0 HB0 FIN ⊢
  rw [HOP.out] at hk ha
  rw [HRG.out] at g1 g2
  dsimp only at hk ha g1 g2
  subst hk
  clear R hO D hG
  go_enter Tryz.func25, Tryz.ntmps25
  go_wp2_with fail
  refine (exec_all (a := ⟨rt, rn, rs⟩) (b := ⟨st, sn, ss⟩) (HR.out.fresh HF0.out) HD.out ha g1 g2).mono ?_
  rintro e' w1 ⟨ev, σ', A1, rfl, hx, R1, S1⟩
  have hsh := ExecR.shw HD.out g1 g2 hx
  have HSH : Hid (Shw ev.v ∧ Shw ev.w) := hsh
  have HFN : Hid (∀ W, Fr (fun _ => False) w1 W → _ ∧ ∀ x0 x1 x2 x3 x4 : Value, _ → _) := fun W hF => FIN.out ev σ' w1 A1 W hx S1 R1 hF
  clear hsh hx R1 S1 FIN HF0 HB0
  obtain ⟨⟨ek, eth, ee, ⟨vt, vn, vs⟩, ⟨wt, wn, ws⟩⟩, HEV⟩ : ∃ e, Hid (ev = e) := ⟨ev, rfl⟩
  rw [HEV.out] at HFN HSH ⊢
  have HFA : Hid (Fr (fun _ => False) w1 (w1.alloc (.cells (evCells ⟨ek, eth, ee, ⟨vt, vn, vs⟩, ⟨wt, wn, ws⟩⟩) 85))) := (Fr.refl _ _).alloc _
  go_wp2_with fail
  refine (told_any ⟨ek, eth, ee, ⟨vt, vn, vs⟩, ⟨wt, wn, ws⟩⟩ HSH.out.1 HSH.out.2).mono ?_
  rintro e' w2 ⟨rfl, F2⟩
  obtain ⟨hB1, hfn⟩ := HFN.out w2 (HFA.out.trans F2 (fun _ _ x => x))
  have HFM : Hid (∀ x0 x1 x2 x3 x4 : Value, _ → _) := hfn
  obtain ⟨⟨te, tn, tm, ts, tt⟩, HTD⟩ : ∃ x, Hid (toldD ⟨ek, eth, ee, ⟨vt, vn, vs⟩, ⟨wt, wn, ws⟩⟩ = x) := ⟨_, rfl⟩
  rw [HTD.out] at HFM ⊢
  have x0 := hB1.cell 0
  have x1 := hB1.cell 1
  have x2 := hB1.cell 2
  have x3 := hB1.cell 3
  have x4 := hB1.cell 4
  have z0 := hB1.frozen 0
  have z1 := hB1.frozen 1
  have z2 := hB1.frozen 2
  have z3 := hB1.frozen 3
  have z4 := hB1.frozen 4
  have xl := hB1.lt
  simp only [List.getElem?_toArray, List.getElem?_cons_succ, List.getElem?_cons_zero] at x0 x1 x2 x3 x4
  clear hB1 hfn HFN F2
  go_wp2_with fail
  exact bodyPost_ret (res_cell isAnsU rfl rfl (HFM.out _ _ _ _ _ rfl).2 rfl) rfl (HFM.out _ _ _ _ _ rfl).1
theorem do_else (R : VRep w A σ.m σ.f σ.e) (hk : o.k < 3 ∨ 11 < o.k) : Calls Tryz.prog 25 #[.pointer (some ⟨A.b, 0, none⟩), .agg #[.pointer (some ⟨A.bn, 0, none⟩), .pointer (some ⟨A.bt, 0, none⟩)], r.val, o.val] w (DoPost w A σ r o) := by
  have HR : Hid (VRep w A σ.m σ.f σ.e) := R
  have HDO : Hid (DoR σ r o ⟨0, 0, 0, [], []⟩ σ) := by
    unfold DoR obsD
    rw [if_neg (by omega), if_neg (by omega), if_neg (by omega), if_neg (by omega), if_neg (by omega), if_neg (by omega), if_neg (by omega), if_neg (by omega), if_neg (by omega)]
    exact ⟨rfl, rfl⟩
  obtain ⟨Q, HQ⟩ : ∃ Q : Ending → World → Prop, Hid (DoPost w A σ r o = Q) := ⟨_, rfl⟩
  rw [HQ.out]
  have FIN2 : Hid (Q (.returned (AnsD.val ⟨0, 0, 0, [], []⟩)) (doW w A r o) ∧ Has (doW w A r o) (w.heap.size + 1 + 1 + 1) #[.int .i64 0, .int .i64 0, .int .i64 0, sv [], sv []] 41) := ⟨by rw [← HQ.out]; exact ⟨_, σ, A, rfl, HDO.out, HR.out.fresh doW_fr, VSt.fresh doW_fr⟩, doW_ans⟩
  obtain ⟨⟨⟨rt, rn, rs⟩, ⟨st, sn, ss⟩⟩, HRG⟩ : ∃ r', Hid (r = r') := ⟨r, rfl⟩
  obtain ⟨⟨ok, oa, ob, oc, os, ot⟩, HOP⟩ : ∃ o', Hid (o = o') := ⟨o, rfl⟩
  rw [HRG.out, HOP.out] at FIN2 ⊢
  rw [HOP.out] at hk
  dsimp only at hk
  have g3 : (ok == 3) = false := by rw [beq_eq_false_iff_ne]; omega
  have g4 : (ok == 4) = false := by rw [beq_eq_false_iff_ne]; omega
  have g5 : (ok == 5) = false := by rw [beq_eq_false_iff_ne]; omega
  have g6 : (ok == 6) = false := by rw [beq_eq_false_iff_ne]; omega
  have g7 : (ok == 7) = false := by rw [beq_eq_false_iff_ne]; omega
  have g8 : (ok == 8) = false := by rw [beq_eq_false_iff_ne]; omega
  have g9 : (ok == 9) = false := by rw [beq_eq_false_iff_ne]; omega
  have g10 : (ok == 10) = false := by rw [beq_eq_false_iff_ne]; omega
  have g11 : (ok == 11) = false := by rw [beq_eq_false_iff_ne]; omega
  clear R hk
  go_enter Tryz.func25, Tryz.ntmps25
  go_wp2_with fail
  exact bodyPost_ret (res_cell isAnsU rfl rfl FIN2.out.2 rfl) rfl FIN2.out.1
theorem do_any (R : VRep w A σ.m σ.f σ.e) (D : DI σ) (hO : OpIn o) (hG : RegIn r) : Calls Tryz.prog 25 #[.pointer (some ⟨A.b, 0, none⟩), .agg #[.pointer (some ⟨A.bn, 0, none⟩), .pointer (some ⟨A.bt, 0, none⟩)], r.val, o.val] w (DoPost w A σ r o) := by
  by_cases h : o.k < 3 ∨ 11 < o.k
  · exact do_else R h
  · have hc : o.k = 3 ∨ o.k = 4 ∨ o.k = 5 ∨ o.k = 6 ∨ o.k = 7 ∨ o.k = 8 ∨ o.k = 9 ∨ o.k = 10 ∨ o.k = 11 := by omega
    rcases hc with e | e | e | e | e | e | e | e | e
    · exact do_load R hO e
    · exact do_exec R D hO hG e
    · exact do_out R D e
    · exact do_fuel R D e
    · exact do_ended R D e
    · exact do_status R D e
    · exact do_show R D e
    · exact do_check R D e
    · exact do_tabs R D e
/-- a step leaves a machine at rest -/
theorem DoR.di (D : DI σ) (hO : OpIn o) (hG : RegIn r) {x : AnsD} {σ' : St} (h : DoR σ r o x σ') : DI σ' := by
  unfold DoR at h
  split at h
  · rw [h.2]; exact loadS_di _ hO.a.2
  · split at h
    · obtain ⟨ev, h1, _⟩ := h; exact h1.di D hG.a hG.b
    · rw [h.2]; exact D
end
end Go.Proofs.Qxb6500579aGreat
