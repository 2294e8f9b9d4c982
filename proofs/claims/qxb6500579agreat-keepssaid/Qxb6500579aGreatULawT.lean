/-
  THE WALK of vmlaw: held whole; Held.
-/
import Derived.Test.Qxb6500579aGreatULawS4
namespace Go.Proofs.Qxb6500579aGreat
open Go Go.RowKit
set_option linter.unusedVariables false
set_option linter.unusedSimpArgs false
section
variable {w : World} {A : VL} {σ : St} {r : RegD} {o : OpD}
set_option maxRecDepth 100000
set_option maxHeartbeats 2000000
theorem held_any (R : VRep w A σ.m σ.f σ.e) (D : DI σ) (hO : OpIn o) (hG : RegIn r) : Calls Tryz.prog 11 #[sideV A, r.val, o.val] w (HeldPost w A σ r o) := by
  by_cases h12 : o.k = 12
  · exact held_probe R D hO hG h12
  · by_cases h3 : o.k = 3
    · exact held_load R D hO hG h3
    · by_cases h4 : o.k = 4
      · exact held_exec R D hO hG h4
      · exact held_obs R D hO hG ⟨h3, h4, h12⟩
theorem stS_di : DI stS := by
  obtain ⟨d0, d1, d2, s0, s1, E⟩ := cat2_ex
  obtain ⟨ev, σ', h⟩ := exec_ex (p2_loadS_di E) 0 nil_lt nil_lt
  have hd := h.di (p2_loadS_di E) nil_lt nil_lt
  rw [(pr_exS E h).2] at hd
  have he := E.fin
  rw [← he]
  exact hd
theorem StepR.di (D : DI σ) (hO : OpIn o) (hG : RegIn r) {x : AnsD} {σ' : St} (h : StepR σ r o x σ') : DI σ' := by
  unfold StepR at h
  split at h
  · rw [h.2]; exact stS_di
  · exact h.di D hO hG
theorem StepR.det {x y : AnsD} {σ1 σ2 : St} (h : StepR σ r o x σ1) (g : StepR σ r o y σ2) : x = y ∧ σ1 = σ2 := by
  unfold StepR at h g
  by_cases h12 : o.k = 12
  · rw [if_pos h12] at h g
    exact ⟨h.1.trans g.1.symm, h.2.trans g.2.symm⟩
  · rw [if_neg h12] at h g
    exact h.det g
/-- Load and the catechisms forget the past -/
theorem StepR.forget {σa σb : St} {x y : AnsD} {σ1 σ2 : St} (hk : o.k = 3 ∨ o.k = 12) (h : StepR σa r o x σ1) (g : StepR σb r o y σ2) : x = y ∧ σ1 = σ2 := by
  unfold StepR at h g
  by_cases h12 : o.k = 12
  · rw [if_pos h12] at h g
    exact ⟨h.1.trans g.1.symm, h.2.trans g.2.symm⟩
  · rw [if_neg h12] at h g
    unfold DoR at h g
    have h3 : o.k = 3 := by omega
    rw [if_pos h3] at h g
    exact ⟨h.1.trans g.1.symm, h.2.trans g.2.symm⟩
theorem heldTop_any (R : VRep w A σ.m σ.f σ.e) (D : DI σ) (hO : OpIn o) (hG : RegIn r) : Calls Tryz.prog 6 #[sideV A, r.val, o.val] w (HeldPost w A σ r o) := by
  obtain ⟨Q, HQ⟩ : ∃ Q : Ending → World → Prop, Hid (HeldPost w A σ r o = Q) := ⟨_, rfl⟩
  rw [HQ.out]
  have FIN : Hid (∀ W (x : AnsD) σ' A', StepR σ r o x σ' → VRep W A' (St.m σ') (St.f σ') (St.e σ') → VSt isVM w A W A' → Q (.returned (.tuple #[x.val, .bool true])) W) := fun W x σ' A' h0 h1 h2 => by rw [← HQ.out]; exact ⟨x, σ', A', rfl, h0, h1, h2⟩
  have HS0 : Hid (HeS w A r o σ (heW w A r o) A) := HeS.start R
  have HD : Hid (DI σ) := D
  have HO : Hid (OpIn o) := hO
  have HG : Hid (RegIn r) := hG
  obtain ⟨⟨⟨ct, cn, cs⟩, ⟨dt, dn, ds⟩⟩, HRG⟩ : ∃ r', Hid (r = r') := ⟨r, rfl⟩
  obtain ⟨⟨ok, oa, ob, oc, os, ot⟩, HOP⟩ : ∃ o', Hid (o = o') := ⟨o, rfl⟩
  rw [HRG.out, HOP.out] at FIN HS0 ⊢
  rw [HRG.out] at HG
  rw [HOP.out] at HO
  clear R D hO hG HQ
  unfold sideV
  go_enter Tryz.func6, Tryz.ntmps6
  go_wp2_with fail
  refine (show Calls Tryz.prog 11 #[.agg #[.pointer (some ⟨A.b, 0, none⟩), .pointer (some ⟨A.bn, 0, none⟩), .pointer (some ⟨A.bt, 0, none⟩)], RegD.val ⟨⟨ct, cn, cs⟩, ⟨dt, dn, ds⟩⟩, OpD.val ⟨ok, oa, ob, oc, os, ot⟩] _ _ from held_any HS0.out.rep HD.out HO.out HG.out).mono ?_
  rintro e' w1 ⟨x, σ', A1, rfl, hx, R1, S1⟩
  have HS1 : Hid (HeS w A ⟨⟨ct, cn, cs⟩, ⟨dt, dn, ds⟩⟩ ⟨ok, oa, ob, oc, os, ot⟩ σ' w1 A1) := HS0.out.step S1 R1
  have HX : Hid (StepR σ ⟨⟨ct, cn, cs⟩, ⟨dt, dn, ds⟩⟩ ⟨ok, oa, ob, oc, os, ot⟩ x σ') := hx
  have HD1 : Hid (DI σ') := hx.di HD.out HO.out HG.out
  clear R1 S1 hx HS0
  obtain ⟨s0, s1, s2, r0, r1, r2, r3, r4, r5, p0, p1, p2, p3, p4, p5, a0, a1, a2, a3, a4, z0, z1, z2, z3, z4, l3, l4, l5, l6⟩ := HS1.out.c
  dsimp only at r0 r1 r2 r3 r4 r5 p0 p1 p2 p3 p4 p5
  obtain ⟨⟨xe, xn, xm, xs, xt⟩, HXX⟩ : ∃ y, Hid (x = y) := ⟨x, rfl⟩
  rw [HXX.out] at HX ⊢
  have HS2 : Hid (HeS w A ⟨⟨ct, cn, cs⟩, ⟨dt, dn, ds⟩⟩ ⟨ok, oa, ob, oc, os, ot⟩ σ' (w1.alloc (.cells #[.int .i64 xe, .int .i64 xn, .int .i64 xm, sv xs, sv xt] 41)) A1) := HS1.out.fresh ((Fr.refl _ _).alloc _)
  have HB2 : Hid (Has (w1.alloc (.cells #[.int .i64 xe, .int .i64 xn, .int .i64 xm, sv xs, sv xt] 41)) w1.heap.size #[.int .i64 xe, .int .i64 xn, .int .i64 xm, sv xs, sv xt] 41) := Has.newC _ _ _ rfl
  go_wp2_with fail
  refine (show Calls Tryz.prog 12 #[.pointer (some ⟨A.b, 0, none⟩)] _ _ from by
    have h := check_all HS2.out.rep HD1.out
    rw [HS2.out.st.b] at h
    exact h).mono ?_
  rintro e' w3 ⟨rfl, F3⟩
  have HSN : Hid (HeS w A ⟨⟨ct, cn, cs⟩, ⟨dt, dn, ds⟩⟩ ⟨ok, oa, ob, oc, os, ot⟩ σ' w3 A1) := HS2.out.fresh F3
  have HB3 : Hid (Has w3 w1.heap.size #[.int .i64 xe, .int .i64 xn, .int .i64 xm, sv xs, sv xt] 41) := HB2.out.fr F3 (fun x => x)
  clear F3 HS2 HS1 HB2 s0 s1 s2 r0 r1 r2 r3 r4 r5 p0 p1 p2 p3 p4 p5 a0 a1 a2 a3 a4 z0 z1 z2 z3 z4 l3 l4 l5 l6
  obtain ⟨s0, s1, s2, r0, r1, r2, r3, r4, r5, p0, p1, p2, p3, p4, p5, a0, a1, a2, a3, a4, z0, z1, z2, z3, z4, l3, l4, l5, l6⟩ := HSN.out.c
  dsimp only at r0 r1 r2 r3 r4 r5 p0 p1 p2 p3 p4 p5
  have q0 : w3.cell? ⟨w1.heap.size, 0, none⟩ = some (.int .i64 xe) := HB3.out.cell 0
  have q1 : w3.cell? ⟨w1.heap.size, 1, none⟩ = some (.int .i64 xn) := HB3.out.cell 1
  have q2 : w3.cell? ⟨w1.heap.size, 2, none⟩ = some (.int .i64 xm) := HB3.out.cell 2
  have q3 : w3.cell? ⟨w1.heap.size, 3, none⟩ = some (sv xs) := HB3.out.cell 3
  have q4 : w3.cell? ⟨w1.heap.size, 4, none⟩ = some (sv xt) := HB3.out.cell 4
  have ql := HB3.out.lt
  go_wp2_with fail
  refine bodyPost_ret (res_cell_tmp isAnsU rfl rfl (HSN.out.fin _ _ _ _ _).2.2 rfl) rfl ?_
  exact FIN.out _ ⟨xe, xn, xm, xs, xt⟩ σ' A1 HX.out (HSN.out.fin _ _ _ _ _).1 (HSN.out.fin _ _ _ _ _).2.1
end
end Go.Proofs.Qxb6500579aGreat
