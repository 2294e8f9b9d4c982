/-
  THE WALK of vmlaw: Do.
-/
import Derived.Test.Qxb6500579aGreatULaw5
import Derived.Test.Qxb6500579aGreatUCkC
namespace Go.Proofs.Qxb6500579aGreat
open Go Go.RowKit
set_option linter.unusedVariables false
set_option linter.unusedSimpArgs false
/-- what an observer answers -/
def obsD (σ : St) (o : OpD) : AnsD :=
  if o.k = 5 then ⟨0, 0, 0, σ.m.out, []⟩ else if o.k = 6 then ⟨0, σ.f, 0, [], []⟩ else if o.k = 7 then ⟨σ.e, 0, 0, [], []⟩ else if o.k = 8 then ⟨0, statD σ.m o.a, 0, [], []⟩ else if o.k = 9 then ⟨0, 0, 0, showM σ, []⟩ else if o.k = 10 then ⟨0, 1, 0, [], []⟩ else if o.k = 11 then ⟨0, 0, 0, showT σ.m.tabs, []⟩ else ⟨0, 0, 0, [], []⟩
/-- a step of the script on a machine -/
def DoR (σ : St) (r : RegD) (o : OpD) (x : AnsD) (σ' : St) : Prop :=
  if o.k = 3 then x = ⟨(loadS o.s o.a).1, 0, 0, [], []⟩ ∧ σ' = (loadS o.s o.a).2
  else if o.k = 4 then ∃ ev, ExecR σ o.a r.a r.b ev σ' ∧ x = toldD ev
  else x = obsD σ o ∧ σ' = σ
theorem DoR.det {σ : St} {r : RegD} {o : OpD} {x y : AnsD} {σ1 σ2 : St} (h : DoR σ r o x σ1) (g : DoR σ r o y σ2) : x = y ∧ σ1 = σ2 := by
  unfold DoR at h g
  by_cases h3 : o.k = 3
  · rw [if_pos h3] at h g
    exact ⟨h.1.trans g.1.symm, h.2.trans g.2.symm⟩
  · by_cases h4 : o.k = 4
    · rw [if_neg h3, if_pos h4] at h g
      obtain ⟨ev, h1, h2⟩ := h
      obtain ⟨ev2, g1, g2⟩ := g
      obtain ⟨e1, e2⟩ := h1.det g1
      subst e1
      exact ⟨h2.trans g2.symm, e2⟩
    · rw [if_neg h3, if_neg h4] at h g
      exact ⟨h.1.trans g.1.symm, h.2.trans g.2.symm⟩
/-- a step of the script, in bounds -/
structure OpIn (o : OpD) : Prop where
  a : -9223372036854775808 ≤ o.a ∧ o.a ≤ 9223372036854775807
  b : -9223372036854775808 ≤ o.b ∧ o.b ≤ 9223372036854775807
structure RegIn (r : RegD) : Prop where
  a : r.a.n < 18446744073709551616
  b : r.b.n < 18446744073709551616
theorem RegIn.turn {r : RegD} (h : RegIn r) (o : OpD) : RegIn (turnD r o) := by
  unfold turnD
  split
  · exact ⟨u64N_lt _, h.b⟩
  · split
    · exact ⟨h.a, u64N_lt _⟩
    · exact h
theorem ans_fin {w W : World} {A A1 : VL} {m : VMD} {f e b : Nat} {v0 v1 v2 v3 v4 : Value} (hS : VSt isVM w A W A1) (R : VRep W A1 m f e) (hb : w.heap.size ≤ b) (h0 : A1.o b = 0) (hB : Has W b #[v0, v1, v2, v3, v4] 41) (x0 x1 x2 x3 x4 : Value) :
    VRep (((((W.setCell ⟨b, 0, none⟩ x0).setCell ⟨b, 1, none⟩ x1).setCell ⟨b, 2, none⟩ x2).setCell ⟨b, 3, none⟩ x3).setCell ⟨b, 4, none⟩ x4) A1 m f e ∧ VSt isVM w A (((((W.setCell ⟨b, 0, none⟩ x0).setCell ⟨b, 1, none⟩ x1).setCell ⟨b, 2, none⟩ x2).setCell ⟨b, 3, none⟩ x3).setCell ⟨b, 4, none⟩ x4) A1 ∧ Has (((((W.setCell ⟨b, 0, none⟩ x0).setCell ⟨b, 1, none⟩ x1).setCell ⟨b, 2, none⟩ x2).setCell ⟨b, 3, none⟩ x3).setCell ⟨b, 4, none⟩ x4) b #[x0, x1, x2, x3, x4] 41 := by
  refine ⟨R.zero ((((((Stp.refl _ _ _).setCell (p := ⟨b, 0, none⟩) h0 x0).setCell (p := ⟨b, 1, none⟩) h0 x1).setCell (p := ⟨b, 2, none⟩) h0 x2).setCell (p := ⟨b, 3, none⟩) h0 x3).setCell (p := ⟨b, 4, none⟩) h0 x4), ⟨((((hS.st.own (p := ⟨b, 0, none⟩) hb x0).own (p := ⟨b, 1, none⟩) hb x1).own (p := ⟨b, 2, none⟩) hb x2).own (p := ⟨b, 3, none⟩) hb x3).own (p := ⟨b, 4, none⟩) hb x4, hS.b, hS.bn, hS.bf, hS.bt, hS.bT⟩, ?_⟩
  have := ((((hB.put 0 x0).put 1 x1).put 2 x2).put 3 x3).put 4 x4
  simpa using this
section
variable {w : World} {A : VL} {σ : St} {r : RegD} {o : OpD}
/-- what Do makes of its own -/
abbrev doW (w : World) (A : VL) (r : RegD) (o : OpD) : World := (((w.alloc (.cells #[.pointer (some ⟨A.bn, 0, none⟩), .pointer (some ⟨A.bt, 0, none⟩)] 27)).alloc (.cells (regCells r) 35)).alloc (.cells #[.int .i64 o.k, .int .i64 o.a, .int .i64 o.b, .int .i64 o.c, sv o.s, sv o.t] 37)).alloc (.cells #[.int .i64 0, .int .i64 0, .int .i64 0, sv [], sv []] 41)
theorem doW_fr : Fr (fun _ => False) w (doW w A r o) := ((((Fr.refl _ _).alloc _).alloc _).alloc _).alloc _
theorem doW_ans : Has (doW w A r o) (w.heap.size + 1 + 1 + 1) #[.int .i64 0, .int .i64 0, .int .i64 0, sv [], sv []] 41 := Has.newC _ _ _ (by simp)
set_option maxRecDepth 100000
set_option maxHeartbeats 1000000
abbrev DoPost (w : World) (A : VL) (σ : St) (r : RegD) (o : OpD) (e' : Ending) (w' : World) : Prop := ∃ x σ' A', e' = .returned (AnsD.val x) ∧ DoR σ r o x σ' ∧ VRep w' A' σ'.m σ'.f σ'.e ∧ VSt isVM w A w' A'
theorem do_out (R : VRep w A σ.m σ.f σ.e) (D : DI σ) (hk : o.k = 5) : Calls Tryz.prog 25 #[.pointer (some ⟨A.b, 0, none⟩), .agg #[.pointer (some ⟨A.bn, 0, none⟩), .pointer (some ⟨A.bt, 0, none⟩)], r.val, o.val] w (DoPost w A σ r o) := by
  have HR : Hid (VRep w A σ.m σ.f σ.e) := R
  have HD : Hid (DI σ) := D
  have HDO : Hid (DoR σ r o ⟨0, 0, 0, σ.m.out, []⟩ σ) := by
    unfold DoR obsD
    rw [hk]
    exact ⟨rfl, rfl⟩
  obtain ⟨Q, HQ⟩ : ∃ Q : Ending → World → Prop, Hid (DoPost w A σ r o = Q) := ⟨_, rfl⟩
  rw [HQ.out]
  have HF0 : Hid (Fr (fun _ => False) w (doW w A r o)) := doW_fr
  have HB0 : Hid (Has (doW w A r o) (w.heap.size + 1 + 1 + 1) #[.int .i64 0, .int .i64 0, .int .i64 0, sv [], sv []] 41) := doW_ans
  have FIN : Hid (∀ W, Fr (fun _ => False) (doW w A r o) W → ∀ x0 x1 x2 x3 x4 : Value, .agg #[x0, x1, x2, x3, x4] = AnsD.val ⟨0, 0, 0, σ.m.out, []⟩ → Q (.returned (.agg #[x0, x1, x2, x3, x4])) (((((W.setCell ⟨w.heap.size + 1 + 1 + 1, 0, none⟩ x0).setCell ⟨w.heap.size + 1 + 1 + 1, 1, none⟩ x1).setCell ⟨w.heap.size + 1 + 1 + 1, 2, none⟩ x2).setCell ⟨w.heap.size + 1 + 1 + 1, 3, none⟩ x3).setCell ⟨w.heap.size + 1 + 1 + 1, 4, none⟩ x4) ∧ Has (((((W.setCell ⟨w.heap.size + 1 + 1 + 1, 0, none⟩ x0).setCell ⟨w.heap.size + 1 + 1 + 1, 1, none⟩ x1).setCell ⟨w.heap.size + 1 + 1 + 1, 2, none⟩ x2).setCell ⟨w.heap.size + 1 + 1 + 1, 3, none⟩ x3).setCell ⟨w.heap.size + 1 + 1 + 1, 4, none⟩ x4) (w.heap.size + 1 + 1 + 1) #[x0, x1, x2, x3, x4] 41) := by
    intro W hF x0 x1 x2 x3 x4 he
    have hF2 := doW_fr.trans hF (fun _ _ x => x)
    have hf := ans_fin (A := A) (VSt.fresh hF2) (HR.out.fresh hF2) (b := w.heap.size + 1 + 1 + 1) (by omega) (HR.out.own _ (by omega)) (doW_ans.fr hF (fun x => x)) x0 x1 x2 x3 x4
    rw [← HQ.out]
    exact ⟨⟨⟨0, 0, 0, σ.m.out, []⟩, σ, A, by rw [he], HDO.out, hf.1, hf.2.1⟩, hf.2.2⟩
  obtain ⟨⟨⟨rt, rn, rs⟩, ⟨st, sn, ss⟩⟩, HRG⟩ : ∃ r', Hid (r = r') := ⟨r, rfl⟩
  obtain ⟨⟨ok, oa, ob, oc, os, ot⟩, HOP⟩ : ∃ o', Hid (o = o') := ⟨o, rfl⟩
  rw [HRG.out, HOP.out] at HF0 HB0 FIN ⊢
  rw [HOP.out] at hk
  dsimp only at hk
  subst hk
  have HF1 : Hid (∀ w1, w1 = doW w A ⟨⟨rt, rn, rs⟩, ⟨st, sn, ss⟩⟩ ⟨5, oa, ob, oc, os, ot⟩ → Fr (fun _ => False) (doW w A ⟨⟨rt, rn, rs⟩, ⟨st, sn, ss⟩⟩ ⟨5, oa, ob, oc, os, ot⟩) w1) := fun w1 e => by rw [e]; exact Fr.refl _ _
  clear R D
  go_enter Tryz.func25, Tryz.ntmps25
  go_wp2_with fail
  refine (out_any (HR.out.fresh HF0.out)).mono ?_
  rintro e' w1 ⟨rfl, hw1⟩
  have F1 := HF1.out w1 hw1
  clear hw1
  have hB1 : Has w1 (w.heap.size + 1 + 1 + 1) #[.int .i64 0, .int .i64 0, .int .i64 0, sv [], sv []] 41 := HB0.out.fr F1 (fun x => x)
  have HFIN := FIN.out w1 F1
  have HFN : Hid (∀ x0 x1 x2 x3 x4 : Value, _ → _) := HFIN
  have x0 := hB1.cell 0
  have x1 := hB1.cell 1
  have x2 := hB1.cell 2
  have x3 := hB1.cell 3
  have x4 := hB1.cell 4
  have z0 := hB1.frozen 0
  have z1 := hB1.frozen 1
  have z2 := hB1.frozen 2
  have z3 := hB1.frozen 3
  have z4 := hB1.frozen 4
  have xl := hB1.lt
  simp only [List.getElem?_toArray, List.getElem?_cons_succ, List.getElem?_cons_zero] at x0 x1 x2 x3 x4
  clear hB1 F1 HFIN FIN HF0 HB0
  go_wp2_with fail
  exact bodyPost_ret (res_cell isAnsU rfl rfl (HFN.out _ _ _ _ _ rfl).2 rfl) rfl (HFN.out _ _ _ _ _ rfl).1
theorem do_fuel (R : VRep w A σ.m σ.f σ.e) (D : DI σ) (hk : o.k = 6) : Calls Tryz.prog 25 #[.pointer (some ⟨A.b, 0, none⟩), .agg #[.pointer (some ⟨A.bn, 0, none⟩), .pointer (some ⟨A.bt, 0, none⟩)], r.val, o.val] w (DoPost w A σ r o) := by
  have HR : Hid (VRep w A σ.m σ.f σ.e) := R
  have HD : Hid (DI σ) := D
  have HDO : Hid (DoR σ r o ⟨0, σ.f, 0, [], []⟩ σ) := by
    unfold DoR obsD
    rw [hk]
    exact ⟨rfl, rfl⟩
  obtain ⟨Q, HQ⟩ : ∃ Q : Ending → World → Prop, Hid (DoPost w A σ r o = Q) := ⟨_, rfl⟩
  rw [HQ.out]
  have HF0 : Hid (Fr (fun _ => False) w (doW w A r o)) := doW_fr
  have HB0 : Hid (Has (doW w A r o) (w.heap.size + 1 + 1 + 1) #[.int .i64 0, .int .i64 0, .int .i64 0, sv [], sv []] 41) := doW_ans
  have FIN : Hid (∀ W, Fr (fun _ => False) (doW w A r o) W → ∀ x0 x1 x2 x3 x4 : Value, .agg #[x0, x1, x2, x3, x4] = AnsD.val ⟨0, σ.f, 0, [], []⟩ → Q (.returned (.agg #[x0, x1, x2, x3, x4])) (((((W.setCell ⟨w.heap.size + 1 + 1 + 1, 0, none⟩ x0).setCell ⟨w.heap.size + 1 + 1 + 1, 1, none⟩ x1).setCell ⟨w.heap.size + 1 + 1 + 1, 2, none⟩ x2).setCell ⟨w.heap.size + 1 + 1 + 1, 3, none⟩ x3).setCell ⟨w.heap.size + 1 + 1 + 1, 4, none⟩ x4) ∧ Has (((((W.setCell ⟨w.heap.size + 1 + 1 + 1, 0, none⟩ x0).setCell ⟨w.heap.size + 1 + 1 + 1, 1, none⟩ x1).setCell ⟨w.heap.size + 1 + 1 + 1, 2, none⟩ x2).setCell ⟨w.heap.size + 1 + 1 + 1, 3, none⟩ x3).setCell ⟨w.heap.size + 1 + 1 + 1, 4, none⟩ x4) (w.heap.size + 1 + 1 + 1) #[x0, x1, x2, x3, x4] 41) := by
    intro W hF x0 x1 x2 x3 x4 he
    have hF2 := doW_fr.trans hF (fun _ _ x => x)
    have hf := ans_fin (A := A) (VSt.fresh hF2) (HR.out.fresh hF2) (b := w.heap.size + 1 + 1 + 1) (by omega) (HR.out.own _ (by omega)) (doW_ans.fr hF (fun x => x)) x0 x1 x2 x3 x4
    rw [← HQ.out]
    exact ⟨⟨⟨0, σ.f, 0, [], []⟩, σ, A, by rw [he], HDO.out, hf.1, hf.2.1⟩, hf.2.2⟩
  obtain ⟨⟨⟨rt, rn, rs⟩, ⟨st, sn, ss⟩⟩, HRG⟩ : ∃ r', Hid (r = r') := ⟨r, rfl⟩
  obtain ⟨⟨ok, oa, ob, oc, os, ot⟩, HOP⟩ : ∃ o', Hid (o = o') := ⟨o, rfl⟩
  rw [HRG.out, HOP.out] at HF0 HB0 FIN ⊢
  rw [HOP.out] at hk
  dsimp only at hk
  subst hk
  have HF1 : Hid (∀ w1, w1 = doW w A ⟨⟨rt, rn, rs⟩, ⟨st, sn, ss⟩⟩ ⟨6, oa, ob, oc, os, ot⟩ → Fr (fun _ => False) (doW w A ⟨⟨rt, rn, rs⟩, ⟨st, sn, ss⟩⟩ ⟨6, oa, ob, oc, os, ot⟩) w1) := fun w1 e => by rw [e]; exact Fr.refl _ _
  clear R D
  go_enter Tryz.func25, Tryz.ntmps25
  go_wp2_with fail
  refine (fuel_any (HR.out.fresh HF0.out)).mono ?_
  rintro e' w1 ⟨rfl, hw1⟩
  have F1 := HF1.out w1 hw1
  clear hw1
  have hB1 : Has w1 (w.heap.size + 1 + 1 + 1) #[.int .i64 0, .int .i64 0, .int .i64 0, sv [], sv []] 41 := HB0.out.fr F1 (fun x => x)
  have HFIN := FIN.out w1 F1
  have HFN : Hid (∀ x0 x1 x2 x3 x4 : Value, _ → _) := HFIN
  have x0 := hB1.cell 0
  have x1 := hB1.cell 1
  have x2 := hB1.cell 2
  have x3 := hB1.cell 3
  have x4 := hB1.cell 4
  have z0 := hB1.frozen 0
  have z1 := hB1.frozen 1
  have z2 := hB1.frozen 2
  have z3 := hB1.frozen 3
  have z4 := hB1.frozen 4
  have xl := hB1.lt
  simp only [List.getElem?_toArray, List.getElem?_cons_succ, List.getElem?_cons_zero] at x0 x1 x2 x3 x4
  clear hB1 F1 HFIN FIN HF0 HB0
  go_wp2_with fail
  exact bodyPost_ret (res_cell isAnsU rfl rfl (HFN.out _ _ _ _ _ rfl).2 rfl) rfl (HFN.out _ _ _ _ _ rfl).1
theorem do_ended (R : VRep w A σ.m σ.f σ.e) (D : DI σ) (hk : o.k = 7) : Calls Tryz.prog 25 #[.pointer (some ⟨A.b, 0, none⟩), .agg #[.pointer (some ⟨A.bn, 0, none⟩), .pointer (some ⟨A.bt, 0, none⟩)], r.val, o.val] w (DoPost w A σ r o) := by
  have HR : Hid (VRep w A σ.m σ.f σ.e) := R
  have HD : Hid (DI σ) := D
  have HDO : Hid (DoR σ r o ⟨σ.e, 0, 0, [], []⟩ σ) := by
    unfold DoR obsD
    rw [hk]
    exact ⟨rfl, rfl⟩
  obtain ⟨Q, HQ⟩ : ∃ Q : Ending → World → Prop, Hid (DoPost w A σ r o = Q) := ⟨_, rfl⟩
  rw [HQ.out]
  have HF0 : Hid (Fr (fun _ => False) w (doW w A r o)) := doW_fr
  have HB0 : Hid (Has (doW w A r o) (w.heap.size + 1 + 1 + 1) #[.int .i64 0, .int .i64 0, .int .i64 0, sv [], sv []] 41) := doW_ans
  have FIN : Hid (∀ W, Fr (fun _ => False) (doW w A r o) W → ∀ x0 x1 x2 x3 x4 : Value, .agg #[x0, x1, x2, x3, x4] = AnsD.val ⟨σ.e, 0, 0, [], []⟩ → Q (.returned (.agg #[x0, x1, x2, x3, x4])) (((((W.setCell ⟨w.heap.size + 1 + 1 + 1, 0, none⟩ x0).setCell ⟨w.heap.size + 1 + 1 + 1, 1, none⟩ x1).setCell ⟨w.heap.size + 1 + 1 + 1, 2, none⟩ x2).setCell ⟨w.heap.size + 1 + 1 + 1, 3, none⟩ x3).setCell ⟨w.heap.size + 1 + 1 + 1, 4, none⟩ x4) ∧ Has (((((W.setCell ⟨w.heap.size + 1 + 1 + 1, 0, none⟩ x0).setCell ⟨w.heap.size + 1 + 1 + 1, 1, none⟩ x1).setCell ⟨w.heap.size + 1 + 1 + 1, 2, none⟩ x2).setCell ⟨w.heap.size + 1 + 1 + 1, 3, none⟩ x3).setCell ⟨w.heap.size + 1 + 1 + 1, 4, none⟩ x4) (w.heap.size + 1 + 1 + 1) #[x0, x1, x2, x3, x4] 41) := by
    intro W hF x0 x1 x2 x3 x4 he
    have hF2 := doW_fr.trans hF (fun _ _ x => x)
    have hf := ans_fin (A := A) (VSt.fresh hF2) (HR.out.fresh hF2) (b := w.heap.size + 1 + 1 + 1) (by omega) (HR.out.own _ (by omega)) (doW_ans.fr hF (fun x => x)) x0 x1 x2 x3 x4
    rw [← HQ.out]
    exact ⟨⟨⟨σ.e, 0, 0, [], []⟩, σ, A, by rw [he], HDO.out, hf.1, hf.2.1⟩, hf.2.2⟩
  obtain ⟨⟨⟨rt, rn, rs⟩, ⟨st, sn, ss⟩⟩, HRG⟩ : ∃ r', Hid (r = r') := ⟨r, rfl⟩
  obtain ⟨⟨ok, oa, ob, oc, os, ot⟩, HOP⟩ : ∃ o', Hid (o = o') := ⟨o, rfl⟩
  rw [HRG.out, HOP.out] at HF0 HB0 FIN ⊢
  rw [HOP.out] at hk
  dsimp only at hk
  subst hk
  have HF1 : Hid (∀ w1, w1 = doW w A ⟨⟨rt, rn, rs⟩, ⟨st, sn, ss⟩⟩ ⟨7, oa, ob, oc, os, ot⟩ → Fr (fun _ => False) (doW w A ⟨⟨rt, rn, rs⟩, ⟨st, sn, ss⟩⟩ ⟨7, oa, ob, oc, os, ot⟩) w1) := fun w1 e => by rw [e]; exact Fr.refl _ _
  clear R D
  go_enter Tryz.func25, Tryz.ntmps25
  go_wp2_with fail
  refine (ended_any (HR.out.fresh HF0.out)).mono ?_
  rintro e' w1 ⟨rfl, hw1⟩
  have F1 := HF1.out w1 hw1
  clear hw1
  have hB1 : Has w1 (w.heap.size + 1 + 1 + 1) #[.int .i64 0, .int .i64 0, .int .i64 0, sv [], sv []] 41 := HB0.out.fr F1 (fun x => x)
  have HFIN := FIN.out w1 F1
  have HFN : Hid (∀ x0 x1 x2 x3 x4 : Value, _ → _) := HFIN
  have x0 := hB1.cell 0
  have x1 := hB1.cell 1
  have x2 := hB1.cell 2
  have x3 := hB1.cell 3
  have x4 := hB1.cell 4
  have z0 := hB1.frozen 0
  have z1 := hB1.frozen 1
  have z2 := hB1.frozen 2
  have z3 := hB1.frozen 3
  have z4 := hB1.frozen 4
  have xl := hB1.lt
  simp only [List.getElem?_toArray, List.getElem?_cons_succ, List.getElem?_cons_zero] at x0 x1 x2 x3 x4
  clear hB1 F1 HFIN FIN HF0 HB0
  go_wp2_with fail
  exact bodyPost_ret (res_cell isAnsU rfl rfl (HFN.out _ _ _ _ _ rfl).2 rfl) rfl (HFN.out _ _ _ _ _ rfl).1
theorem do_status (R : VRep w A σ.m σ.f σ.e) (D : DI σ) (hk : o.k = 8) : Calls Tryz.prog 25 #[.pointer (some ⟨A.b, 0, none⟩), .agg #[.pointer (some ⟨A.bn, 0, none⟩), .pointer (some ⟨A.bt, 0, none⟩)], r.val, o.val] w (DoPost w A σ r o) := by
  have HR : Hid (VRep w A σ.m σ.f σ.e) := R
  have HD : Hid (DI σ) := D
  have HDO : Hid (DoR σ r o ⟨0, statD σ.m o.a, 0, [], []⟩ σ) := by
    unfold DoR obsD
    rw [hk]
    exact ⟨rfl, rfl⟩
  obtain ⟨Q, HQ⟩ : ∃ Q : Ending → World → Prop, Hid (DoPost w A σ r o = Q) := ⟨_, rfl⟩
  rw [HQ.out]
  have HF0 : Hid (Fr (fun _ => False) w (doW w A r o)) := doW_fr
  have HB0 : Hid (Has (doW w A r o) (w.heap.size + 1 + 1 + 1) #[.int .i64 0, .int .i64 0, .int .i64 0, sv [], sv []] 41) := doW_ans
  have FIN : Hid (∀ W, Fr (fun _ => False) (doW w A r o) W → ∀ x0 x1 x2 x3 x4 : Value, .agg #[x0, x1, x2, x3, x4] = AnsD.val ⟨0, statD σ.m o.a, 0, [], []⟩ → Q (.returned (.agg #[x0, x1, x2, x3, x4])) (((((W.setCell ⟨w.heap.size + 1 + 1 + 1, 0, none⟩ x0).setCell ⟨w.heap.size + 1 + 1 + 1, 1, none⟩ x1).setCell ⟨w.heap.size + 1 + 1 + 1, 2, none⟩ x2).setCell ⟨w.heap.size + 1 + 1 + 1, 3, none⟩ x3).setCell ⟨w.heap.size + 1 + 1 + 1, 4, none⟩ x4) ∧ Has (((((W.setCell ⟨w.heap.size + 1 + 1 + 1, 0, none⟩ x0).setCell ⟨w.heap.size + 1 + 1 + 1, 1, none⟩ x1).setCell ⟨w.heap.size + 1 + 1 + 1, 2, none⟩ x2).setCell ⟨w.heap.size + 1 + 1 + 1, 3, none⟩ x3).setCell ⟨w.heap.size + 1 + 1 + 1, 4, none⟩ x4) (w.heap.size + 1 + 1 + 1) #[x0, x1, x2, x3, x4] 41) := by
    intro W hF x0 x1 x2 x3 x4 he
    have hF2 := doW_fr.trans hF (fun _ _ x => x)
    have hf := ans_fin (A := A) (VSt.fresh hF2) (HR.out.fresh hF2) (b := w.heap.size + 1 + 1 + 1) (by omega) (HR.out.own _ (by omega)) (doW_ans.fr hF (fun x => x)) x0 x1 x2 x3 x4
    rw [← HQ.out]
    exact ⟨⟨⟨0, statD σ.m o.a, 0, [], []⟩, σ, A, by rw [he], HDO.out, hf.1, hf.2.1⟩, hf.2.2⟩
  obtain ⟨⟨⟨rt, rn, rs⟩, ⟨st, sn, ss⟩⟩, HRG⟩ : ∃ r', Hid (r = r') := ⟨r, rfl⟩
  obtain ⟨⟨ok, oa, ob, oc, os, ot⟩, HOP⟩ : ∃ o', Hid (o = o') := ⟨o, rfl⟩
  rw [HRG.out, HOP.out] at HF0 HB0 FIN ⊢
  rw [HOP.out] at hk
  dsimp only at hk
  subst hk
  have HF1 : Hid (∀ w1, w1 = doW w A ⟨⟨rt, rn, rs⟩, ⟨st, sn, ss⟩⟩ ⟨8, oa, ob, oc, os, ot⟩ → Fr (fun _ => False) (doW w A ⟨⟨rt, rn, rs⟩, ⟨st, sn, ss⟩⟩ ⟨8, oa, ob, oc, os, ot⟩) w1) := fun w1 e => by rw [e]; exact Fr.refl _ _
  clear R D
  go_enter Tryz.func25, Tryz.ntmps25
  go_wp2_with fail
  refine (status_all (HR.out.fresh HF0.out) _).mono ?_
  rintro e' w1 ⟨rfl, hw1⟩
  have F1 := HF1.out w1 hw1
  clear hw1
  have hB1 : Has w1 (w.heap.size + 1 + 1 + 1) #[.int .i64 0, .int .i64 0, .int .i64 0, sv [], sv []] 41 := HB0.out.fr F1 (fun x => x)
  have HFIN := FIN.out w1 F1
  have HFN : Hid (∀ x0 x1 x2 x3 x4 : Value, _ → _) := HFIN
  have x0 := hB1.cell 0
  have x1 := hB1.cell 1
  have x2 := hB1.cell 2
  have x3 := hB1.cell 3
  have x4 := hB1.cell 4
  have z0 := hB1.frozen 0
  have z1 := hB1.frozen 1
  have z2 := hB1.frozen 2
  have z3 := hB1.frozen 3
  have z4 := hB1.frozen 4
  have xl := hB1.lt
  simp only [List.getElem?_toArray, List.getElem?_cons_succ, List.getElem?_cons_zero] at x0 x1 x2 x3 x4
  clear hB1 F1 HFIN FIN HF0 HB0
  go_wp2_with fail
  exact bodyPost_ret (res_cell isAnsU rfl rfl (HFN.out _ _ _ _ _ rfl).2 rfl) rfl (HFN.out _ _ _ _ _ rfl).1
theorem do_show (R : VRep w A σ.m σ.f σ.e) (D : DI σ) (hk : o.k = 9) : Calls Tryz.prog 25 #[.pointer (some ⟨A.b, 0, none⟩), .agg #[.pointer (some ⟨A.bn, 0, none⟩), .pointer (some ⟨A.bt, 0, none⟩)], r.val, o.val] w (DoPost w A σ r o) := by
  have HR : Hid (VRep w A σ.m σ.f σ.e) := R
  have HD : Hid (DI σ) := D
  have HDO : Hid (DoR σ r o ⟨0, 0, 0, showM σ, []⟩ σ) := by
    unfold DoR obsD
    rw [hk]
    exact ⟨rfl, rfl⟩
  obtain ⟨Q, HQ⟩ : ∃ Q : Ending → World → Prop, Hid (DoPost w A σ r o = Q) := ⟨_, rfl⟩
  rw [HQ.out]
  have HF0 : Hid (Fr (fun _ => False) w (doW w A r o)) := doW_fr
  have HB0 : Hid (Has (doW w A r o) (w.heap.size + 1 + 1 + 1) #[.int .i64 0, .int .i64 0, .int .i64 0, sv [], sv []] 41) := doW_ans
  have FIN : Hid (∀ W, Fr (fun _ => False) (doW w A r o) W → ∀ x0 x1 x2 x3 x4 : Value, .agg #[x0, x1, x2, x3, x4] = AnsD.val ⟨0, 0, 0, showM σ, []⟩ → Q (.returned (.agg #[x0, x1, x2, x3, x4])) (((((W.setCell ⟨w.heap.size + 1 + 1 + 1, 0, none⟩ x0).setCell ⟨w.heap.size + 1 + 1 + 1, 1, none⟩ x1).setCell ⟨w.heap.size + 1 + 1 + 1, 2, none⟩ x2).setCell ⟨w.heap.size + 1 + 1 + 1, 3, none⟩ x3).setCell ⟨w.heap.size + 1 + 1 + 1, 4, none⟩ x4) ∧ Has (((((W.setCell ⟨w.heap.size + 1 + 1 + 1, 0, none⟩ x0).setCell ⟨w.heap.size + 1 + 1 + 1, 1, none⟩ x1).setCell ⟨w.heap.size + 1 + 1 + 1, 2, none⟩ x2).setCell ⟨w.heap.size + 1 + 1 + 1, 3, none⟩ x3).setCell ⟨w.heap.size + 1 + 1 + 1, 4, none⟩ x4) (w.heap.size + 1 + 1 + 1) #[x0, x1, x2, x3, x4] 41) := by
    intro W hF x0 x1 x2 x3 x4 he
    have hF2 := doW_fr.trans hF (fun _ _ x => x)
    have hf := ans_fin (A := A) (VSt.fresh hF2) (HR.out.fresh hF2) (b := w.heap.size + 1 + 1 + 1) (by omega) (HR.out.own _ (by omega)) (doW_ans.fr hF (fun x => x)) x0 x1 x2 x3 x4
    rw [← HQ.out]
    exact ⟨⟨⟨0, 0, 0, showM σ, []⟩, σ, A, by rw [he], HDO.out, hf.1, hf.2.1⟩, hf.2.2⟩
  obtain ⟨⟨⟨rt, rn, rs⟩, ⟨st, sn, ss⟩⟩, HRG⟩ : ∃ r', Hid (r = r') := ⟨r, rfl⟩
  obtain ⟨⟨ok, oa, ob, oc, os, ot⟩, HOP⟩ : ∃ o', Hid (o = o') := ⟨o, rfl⟩
  rw [HRG.out, HOP.out] at HF0 HB0 FIN ⊢
  rw [HOP.out] at hk
  dsimp only at hk
  subst hk
  clear R D
  go_enter Tryz.func25, Tryz.ntmps25
  go_wp2_with fail
  refine (show_all (HR.out.fresh HF0.out) HD.out).mono ?_
  rintro e' w1 ⟨rfl, F1⟩
  have hB1 : Has w1 (w.heap.size + 1 + 1 + 1) #[.int .i64 0, .int .i64 0, .int .i64 0, sv [], sv []] 41 := HB0.out.fr F1 (fun x => x)
  have HFIN := FIN.out w1 F1
  have HFN : Hid (∀ x0 x1 x2 x3 x4 : Value, _ → _) := HFIN
  have x0 := hB1.cell 0
  have x1 := hB1.cell 1
  have x2 := hB1.cell 2
  have x3 := hB1.cell 3
  have x4 := hB1.cell 4
  have z0 := hB1.frozen 0
  have z1 := hB1.frozen 1
  have z2 := hB1.frozen 2
  have z3 := hB1.frozen 3
  have z4 := hB1.frozen 4
  have xl := hB1.lt
  simp only [List.getElem?_toArray, List.getElem?_cons_succ, List.getElem?_cons_zero] at x0 x1 x2 x3 x4
  clear hB1 F1 HFIN FIN HF0 HB0
  go_wp2_with fail
  exact bodyPost_ret (res_cell isAnsU rfl rfl (HFN.out _ _ _ _ _ rfl).2 rfl) rfl (HFN.out _ _ _ _ _ rfl).1
theorem do_tabs (R : VRep w A σ.m σ.f σ.e) (D : DI σ) (hk : o.k = 11) : Calls Tryz.prog 25 #[.pointer (some ⟨A.b, 0, none⟩), .agg #[.pointer (some ⟨A.bn, 0, none⟩), .pointer (some ⟨A.bt, 0, none⟩)], r.val, o.val] w (DoPost w A σ r o) := by
  have HR : Hid (VRep w A σ.m σ.f σ.e) := R
  have HD : Hid (DI σ) := D
  have HDO : Hid (DoR σ r o ⟨0, 0, 0, showT σ.m.tabs, []⟩ σ) := by
    unfold DoR obsD
    rw [hk]
    exact ⟨rfl, rfl⟩
  obtain ⟨Q, HQ⟩ : ∃ Q : Ending → World → Prop, Hid (DoPost w A σ r o = Q) := ⟨_, rfl⟩
  rw [HQ.out]
  have HF0 : Hid (Fr (fun _ => False) w (doW w A r o)) := doW_fr
  have HB0 : Hid (Has (doW w A r o) (w.heap.size + 1 + 1 + 1) #[.int .i64 0, .int .i64 0, .int .i64 0, sv [], sv []] 41) := doW_ans
  have FIN : Hid (∀ W, Fr (fun _ => False) (doW w A r o) W → ∀ x0 x1 x2 x3 x4 : Value, .agg #[x0, x1, x2, x3, x4] = AnsD.val ⟨0, 0, 0, showT σ.m.tabs, []⟩ → Q (.returned (.agg #[x0, x1, x2, x3, x4])) (((((W.setCell ⟨w.heap.size + 1 + 1 + 1, 0, none⟩ x0).setCell ⟨w.heap.size + 1 + 1 + 1, 1, none⟩ x1).setCell ⟨w.heap.size + 1 + 1 + 1, 2, none⟩ x2).setCell ⟨w.heap.size + 1 + 1 + 1, 3, none⟩ x3).setCell ⟨w.heap.size + 1 + 1 + 1, 4, none⟩ x4) ∧ Has (((((W.setCell ⟨w.heap.size + 1 + 1 + 1, 0, none⟩ x0).setCell ⟨w.heap.size + 1 + 1 + 1, 1, none⟩ x1).setCell ⟨w.heap.size + 1 + 1 + 1, 2, none⟩ x2).setCell ⟨w.heap.size + 1 + 1 + 1, 3, none⟩ x3).setCell ⟨w.heap.size + 1 + 1 + 1, 4, none⟩ x4) (w.heap.size + 1 + 1 + 1) #[x0, x1, x2, x3, x4] 41) := by
    intro W hF x0 x1 x2 x3 x4 he
    have hF2 := doW_fr.trans hF (fun _ _ x => x)
    have hf := ans_fin (A := A) (VSt.fresh hF2) (HR.out.fresh hF2) (b := w.heap.size + 1 + 1 + 1) (by omega) (HR.out.own _ (by omega)) (doW_ans.fr hF (fun x => x)) x0 x1 x2 x3 x4
    rw [← HQ.out]
    exact ⟨⟨⟨0, 0, 0, showT σ.m.tabs, []⟩, σ, A, by rw [he], HDO.out, hf.1, hf.2.1⟩, hf.2.2⟩
  obtain ⟨⟨⟨rt, rn, rs⟩, ⟨st, sn, ss⟩⟩, HRG⟩ : ∃ r', Hid (r = r') := ⟨r, rfl⟩
  obtain ⟨⟨ok, oa, ob, oc, os, ot⟩, HOP⟩ : ∃ o', Hid (o = o') := ⟨o, rfl⟩
  rw [HRG.out, HOP.out] at HF0 HB0 FIN ⊢
  rw [HOP.out] at hk
  dsimp only at hk
  subst hk
  clear R D
  go_enter Tryz.func25, Tryz.ntmps25
  go_wp2_with fail
  refine (tabs_all (HR.out.fresh HF0.out) HD.out).mono ?_
  rintro e' w1 ⟨rfl, F1⟩
  have hB1 : Has w1 (w.heap.size + 1 + 1 + 1) #[.int .i64 0, .int .i64 0, .int .i64 0, sv [], sv []] 41 := HB0.out.fr F1 (fun x => x)
  have HFIN := FIN.out w1 F1
  have HFN : Hid (∀ x0 x1 x2 x3 x4 : Value, _ → _) := HFIN
  have x0 := hB1.cell 0
  have x1 := hB1.cell 1
  have x2 := hB1.cell 2
  have x3 := hB1.cell 3
  have x4 := hB1.cell 4
  have z0 := hB1.frozen 0
  have z1 := hB1.frozen 1
  have z2 := hB1.frozen 2
  have z3 := hB1.frozen 3
  have z4 := hB1.frozen 4
  have xl := hB1.lt
  simp only [List.getElem?_toArray, List.getElem?_cons_succ, List.getElem?_cons_zero] at x0 x1 x2 x3 x4
  clear hB1 F1 HFIN FIN HF0 HB0
  go_wp2_with fail
  exact bodyPost_ret (res_cell isAnsU rfl rfl (HFN.out _ _ _ _ _ rfl).2 rfl) rfl (HFN.out _ _ _ _ _ rfl).1
theorem do_check (R : VRep w A σ.m σ.f σ.e) (D : DI σ) (hk : o.k = 10) : Calls Tryz.prog 25 #[.pointer (some ⟨A.b, 0, none⟩), .agg #[.pointer (some ⟨A.bn, 0, none⟩), .pointer (some ⟨A.bt, 0, none⟩)], r.val, o.val] w (DoPost w A σ r o) := by
  have HR : Hid (VRep w A σ.m σ.f σ.e) := R
  have HD : Hid (DI σ) := D
  have HDO : Hid (DoR σ r o ⟨0, 1, 0, [], []⟩ σ) := by
    unfold DoR obsD
    rw [hk]
    exact ⟨rfl, rfl⟩
  obtain ⟨Q, HQ⟩ : ∃ Q : Ending → World → Prop, Hid (DoPost w A σ r o = Q) := ⟨_, rfl⟩
  rw [HQ.out]
  have HF0 : Hid (Fr (fun _ => False) w (doW w A r o)) := doW_fr
  have HB0 : Hid (Has (doW w A r o) (w.heap.size + 1 + 1 + 1) #[.int .i64 0, .int .i64 0, .int .i64 0, sv [], sv []] 41) := doW_ans
  have FIN : Hid (∀ W, Fr (fun _ => False) (doW w A r o) W → ∀ x0 x1 x2 x3 x4 : Value, .agg #[x0, x1, x2, x3, x4] = AnsD.val ⟨0, 1, 0, [], []⟩ → Q (.returned (.agg #[x0, x1, x2, x3, x4])) (((((W.setCell ⟨w.heap.size + 1 + 1 + 1, 0, none⟩ x0).setCell ⟨w.heap.size + 1 + 1 + 1, 1, none⟩ x1).setCell ⟨w.heap.size + 1 + 1 + 1, 2, none⟩ x2).setCell ⟨w.heap.size + 1 + 1 + 1, 3, none⟩ x3).setCell ⟨w.heap.size + 1 + 1 + 1, 4, none⟩ x4) ∧ Has (((((W.setCell ⟨w.heap.size + 1 + 1 + 1, 0, none⟩ x0).setCell ⟨w.heap.size + 1 + 1 + 1, 1, none⟩ x1).setCell ⟨w.heap.size + 1 + 1 + 1, 2, none⟩ x2).setCell ⟨w.heap.size + 1 + 1 + 1, 3, none⟩ x3).setCell ⟨w.heap.size + 1 + 1 + 1, 4, none⟩ x4) (w.heap.size + 1 + 1 + 1) #[x0, x1, x2, x3, x4] 41) := by
    intro W hF x0 x1 x2 x3 x4 he
    have hF2 := doW_fr.trans hF (fun _ _ x => x)
    have hf := ans_fin (A := A) (VSt.fresh hF2) (HR.out.fresh hF2) (b := w.heap.size + 1 + 1 + 1) (by omega) (HR.out.own _ (by omega)) (doW_ans.fr hF (fun x => x)) x0 x1 x2 x3 x4
    rw [← HQ.out]
    exact ⟨⟨⟨0, 1, 0, [], []⟩, σ, A, by rw [he], HDO.out, hf.1, hf.2.1⟩, hf.2.2⟩
  obtain ⟨⟨⟨rt, rn, rs⟩, ⟨st, sn, ss⟩⟩, HRG⟩ : ∃ r', Hid (r = r') := ⟨r, rfl⟩
  obtain ⟨⟨ok, oa, ob, oc, os, ot⟩, HOP⟩ : ∃ o', Hid (o = o') := ⟨o, rfl⟩
  rw [HRG.out, HOP.out] at HF0 HB0 FIN ⊢
  rw [HOP.out] at hk
  dsimp only at hk
  subst hk
  clear R D
  go_enter Tryz.func25, Tryz.ntmps25
  go_wp2_with fail
  refine (check_all (HR.out.fresh HF0.out) HD.out).mono ?_
  rintro e' w1 ⟨rfl, F1⟩
  go_wp2_with fail
  refine (b2i_any _).mono ?_
  rintro e' w2 ⟨rfl, hw2⟩
  rw [hw2]
  clear hw2 w2
  have hB1 : Has w1 (w.heap.size + 1 + 1 + 1) #[.int .i64 0, .int .i64 0, .int .i64 0, sv [], sv []] 41 := HB0.out.fr F1 (fun x => x)
  have HFIN := FIN.out w1 F1
  have HFN : Hid (∀ x0 x1 x2 x3 x4 : Value, _ → _) := HFIN
  have x0 := hB1.cell 0
  have x1 := hB1.cell 1
  have x2 := hB1.cell 2
  have x3 := hB1.cell 3
  have x4 := hB1.cell 4
  have z0 := hB1.frozen 0
  have z1 := hB1.frozen 1
  have z2 := hB1.frozen 2
  have z3 := hB1.frozen 3
  have z4 := hB1.frozen 4
  have xl := hB1.lt
  simp only [List.getElem?_toArray, List.getElem?_cons_succ, List.getElem?_cons_zero] at x0 x1 x2 x3 x4
  clear hB1 F1 HFIN FIN HF0 HB0
  go_wp2_with fail
  exact bodyPost_ret (res_cell isAnsU rfl rfl (HFN.out _ _ _ _ _ rfl).2 rfl) rfl (HFN.out _ _ _ _ _ rfl).1
end
end Go.Proofs.Qxb6500579aGreat
