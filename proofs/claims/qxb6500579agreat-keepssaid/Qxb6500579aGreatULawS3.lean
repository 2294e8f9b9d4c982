/-
  THE WALK of vmlaw: held: an observer, or nothing.
-/
import Derived.Test.Qxb6500579aGreatULawS2
namespace Go.Proofs.Qxb6500579aGreat
open Go Go.RowKit
set_option linter.unusedVariables false
set_option linter.unusedSimpArgs false
section
variable {w : World} {A : VL} {σ : St} {r : RegD} {o : OpD}
set_option maxRecDepth 100000
set_option maxHeartbeats 2000000
theorem held_obs (R : VRep w A σ.m σ.f σ.e) (D : DI σ) (hO : OpIn o) (hG : RegIn r) (hk : o.k ≠ 3 ∧ o.k ≠ 4 ∧ o.k ≠ 12) : Calls Tryz.prog 11 #[sideV A, r.val, o.val] w (HeldPost w A σ r o) := by
  obtain ⟨Q, HQ⟩ : ∃ Q : Ending → World → Prop, Hid (HeldPost w A σ r o = Q) := ⟨_, rfl⟩
  rw [HQ.out]
  have FIN : Hid (∀ W (x : AnsD) σ' A', StepR σ r o x σ' → VRep W A' (St.m σ') (St.f σ') (St.e σ') → VSt isVM w A W A' → Q (.returned (.tuple #[x.val, .bool true])) W) := fun W x σ' A' h0 h1 h2 => by rw [← HQ.out]; exact ⟨x, σ', A', rfl, h0, h1, h2⟩
  have HS0 : Hid (HeS w A r o σ (heW w A r o) A) := HeS.start R
  have HD : Hid (DI σ) := D
  have HO : Hid (OpIn o) := hO
  have HG : Hid (RegIn r) := hG
  obtain ⟨⟨⟨ct, cn, cs⟩, ⟨dt, dn, ds⟩⟩, HRG⟩ : ∃ r', Hid (r = r') := ⟨r, rfl⟩
  obtain ⟨⟨ok, oa, ob, oc, os, ot⟩, HOP⟩ : ∃ o', Hid (o = o') := ⟨o, rfl⟩
  rw [HRG.out, HOP.out] at FIN HS0 ⊢
  rw [HRG.out] at HG
  rw [HOP.out] at HO hk
  dsimp only at hk
  clear R D hO hG HQ
  unfold sideV
  have k3 : (ok == 3) = false := by rw [beq_eq_false_iff_ne]; exact hk.1
  have k4 : (ok != 4) = true := by rw [bne_iff_ne]; exact hk.2.1
  have k5 : (ok == 4) = false := by rw [beq_eq_false_iff_ne]; exact hk.2.1
  have k12 : (ok == 12) = false := by rw [beq_eq_false_iff_ne]; exact hk.2.2
  have HK : Hid (ok ≠ 3 ∧ ok ≠ 4 ∧ ok ≠ 12) := hk
  clear hk
  obtain ⟨F0, HF0⟩ : ∃ x, Hid (σ.f = x) := ⟨_, rfl⟩
  obtain ⟨O0, HO0⟩ : ∃ x, Hid (σ.m.out = x) := ⟨_, rfl⟩
  obtain ⟨SX, HSX⟩ : ∃ x, Hid (showM σ = x) := ⟨_, rfl⟩
  obtain ⟨TX, HTX⟩ : ∃ x, Hid (showT σ.m.tabs = x) := ⟨_, rfl⟩
  have hF0 : F0 < 9223372036854775808 := by rw [← HF0.out]; exact HD.out.fu
  have hO0 : O0.length ≤ 200 := by rw [← HO0.out]; exact HD.out.ol
  go_enter Tryz.func11, Tryz.ntmps11
  go_wp2_with fail
  refine (fuel_any HS0.out.rep).mono ?_
  rintro e' w1 ⟨rfl, rfl⟩
  rw [HF0.out]
  go_wp2_with fail
  refine (out_any HS0.out.rep).mono ?_
  rintro e' w1 ⟨rfl, rfl⟩
  rw [HO0.out]
  go_wp2_with fail
  refine (show_all HS0.out.rep HD.out).mono ?_
  rintro e' w1 ⟨rfl, F1⟩
  rw [HSX.out]
  have HS1 : Hid (HeS w A ⟨⟨ct, cn, cs⟩, ⟨dt, dn, ds⟩⟩ ⟨ok, oa, ob, oc, os, ot⟩ σ w1 A) := HS0.out.fresh F1
  clear F1 HS0
  obtain ⟨s0, s1, s2, r0, r1, r2, r3, r4, r5, p0, p1, p2, p3, p4, p5, a0, a1, a2, a3, a4, z0, z1, z2, z3, z4, l3, l4, l5, l6⟩ := HS1.out.c
  dsimp only at r0 r1 r2 r3 r4 r5 p0 p1 p2 p3 p4 p5
  go_wp2_with fail
  refine (tabs_all HS1.out.rep HD.out).mono ?_
  rintro e' w2 ⟨rfl, F2⟩
  rw [HTX.out]
  have HS2 : Hid (HeS w A ⟨⟨ct, cn, cs⟩, ⟨dt, dn, ds⟩⟩ ⟨ok, oa, ob, oc, os, ot⟩ σ w2 A) := HS1.out.fresh F2
  clear F2 HS1 s0 s1 s2 r0 r1 r2 r3 r4 r5 p0 p1 p2 p3 p4 p5 a0 a1 a2 a3 a4 z0 z1 z2 z3 z4 l3 l4 l5 l6
  obtain ⟨s0, s1, s2, r0, r1, r2, r3, r4, r5, p0, p1, p2, p3, p4, p5, a0, a1, a2, a3, a4, z0, z1, z2, z3, z4, l3, l4, l5, l6⟩ := HS2.out.c
  dsimp only at r0 r1 r2 r3 r4 r5 p0 p1 p2 p3 p4 p5
  go_wp2_with fail
  refine (do_any HS2.out.rep HD.out HO.out HG.out).mono ?_
  rintro e' w3 ⟨x, σ', A3, rfl, hx, R3, S3⟩
  have HS3 : Hid (HeS w A ⟨⟨ct, cn, cs⟩, ⟨dt, dn, ds⟩⟩ ⟨ok, oa, ob, oc, os, ot⟩ σ' w3 A3) := HS2.out.step S3 R3
  have HX : Hid (DoR σ ⟨⟨ct, cn, cs⟩, ⟨dt, dn, ds⟩⟩ ⟨ok, oa, ob, oc, os, ot⟩ x σ') := hx
  have HD3 : Hid (DI σ') := hx.di HD.out HO.out HG.out
  clear R3 S3 hx HS2 s0 s1 s2 r0 r1 r2 r3 r4 r5 p0 p1 p2 p3 p4 p5 a0 a1 a2 a3 a4 z0 z1 z2 z3 z4 l3 l4 l5 l6
  obtain ⟨s0, s1, s2, r0, r1, r2, r3, r4, r5, p0, p1, p2, p3, p4, p5, a0, a1, a2, a3, a4, z0, z1, z2, z3, z4, l3, l4, l5, l6⟩ := HS3.out.c
  dsimp only at r0 r1 r2 r3 r4 r5 p0 p1 p2 p3 p4 p5
  have hx := HX.out
  unfold DoR at hx
  rw [if_neg HK.out.1, if_neg HK.out.2.1] at hx
  have hx2 := hx.2
  have HST : Hid (StepR σ ⟨⟨ct, cn, cs⟩, ⟨dt, dn, ds⟩⟩ ⟨ok, oa, ob, oc, os, ot⟩ x σ') := by
    unfold StepR
    rw [if_neg HK.out.2.2]
    exact HX.out
  subst hx2
  clear hx HX
  obtain ⟨⟨xe, xn, xm, xs, xt⟩, HXX⟩ : ∃ y, Hid (x = y) := ⟨x, rfl⟩
  have HS4 : Hid (HeS w A ⟨⟨ct, cn, cs⟩, ⟨dt, dn, ds⟩⟩ ⟨ok, oa, ob, oc, os, ot⟩ σ' (w3.alloc (.cells #[.int .i64 xe, .int .i64 xn, .int .i64 xm, sv xs, sv xt] 41)) A3) := HS3.out.fresh ((Fr.refl _ _).alloc _)
  have HB4 : Hid (Has (w3.alloc (.cells #[.int .i64 xe, .int .i64 xn, .int .i64 xm, sv xs, sv xt] 41)) w3.heap.size #[.int .i64 xe, .int .i64 xn, .int .i64 xm, sv xs, sv xt] 41) := Has.newC _ _ _ rfl
  rw [HXX.out] at HST ⊢
  go_wp2_with fail
  refine (show Calls Tryz.prog 23 #[.pointer (some ⟨A.b, 0, none⟩)] _ _ from by
    have h := fuel_any HS4.out.rep
    rw [HS4.out.st.b, HF0.out] at h
    exact h).mono ?_
  rintro e' w4 ⟨rfl, rfl⟩
  go_wp2_with fail
  refine (show Calls Tryz.prog 24 #[.pointer (some ⟨A.b, 0, none⟩)] _ _ from by
    have h := out_any HS4.out.rep
    rw [HS4.out.st.b, HO0.out] at h
    exact h).mono ?_
  rintro e' w4 ⟨rfl, rfl⟩
  go_wp2_with fail
  refine (grown_any O0 O0 (List.prefix_refl _) hO0 (by rw [← HO0.out]; exact HD.out.ln)).mono ?_
  rintro e' w4 ⟨rfl, rfl⟩
  go_wp2_with fail
  refine (show Calls Tryz.prog 7 #[.pointer (some ⟨A.b, 0, none⟩)] _ _ from by
    have h := show_all HS4.out.rep HD.out
    rw [HS4.out.st.b, HSX.out] at h
    exact h).mono ?_
  rintro e' w5 ⟨rfl, F5⟩
  have HS5 : Hid (HeS w A ⟨⟨ct, cn, cs⟩, ⟨dt, dn, ds⟩⟩ ⟨ok, oa, ob, oc, os, ot⟩ σ' w5 A3) := HS4.out.fresh F5
  have HB5 : Hid (Has w5 w3.heap.size #[.int .i64 xe, .int .i64 xn, .int .i64 xm, sv xs, sv xt] 41) := HB4.out.fr F5 (fun x => x)
  clear F5 HS4 HS3 HB4 s0 s1 s2 r0 r1 r2 r3 r4 r5 p0 p1 p2 p3 p4 p5 a0 a1 a2 a3 a4 z0 z1 z2 z3 z4 l3 l4 l5 l6
  obtain ⟨s0, s1, s2, r0, r1, r2, r3, r4, r5, p0, p1, p2, p3, p4, p5, a0, a1, a2, a3, a4, z0, z1, z2, z3, z4, l3, l4, l5, l6⟩ := HS5.out.c
  dsimp only at r0 r1 r2 r3 r4 r5 p0 p1 p2 p3 p4 p5
  go_wp2_with fail
  refine (show Calls Tryz.prog 8 #[.agg #[.pointer (some ⟨A.bn, 0, none⟩), .pointer (some ⟨A.bt, 0, none⟩)]] _ _ from by
    have h := tabs_all HS5.out.rep HD.out
    rw [HS5.out.st.bn, HS5.out.st.bt, HTX.out] at h
    exact h).mono ?_
  rintro e' w6 ⟨rfl, F6⟩
  have HSN : Hid (HeS w A ⟨⟨ct, cn, cs⟩, ⟨dt, dn, ds⟩⟩ ⟨ok, oa, ob, oc, os, ot⟩ σ' w6 A3) := HS5.out.fresh F6
  have HB6 : Hid (Has w6 w3.heap.size #[.int .i64 xe, .int .i64 xn, .int .i64 xm, sv xs, sv xt] 41) := HB5.out.fr F6 (fun x => x)
  clear F6 HS5 HB5 s0 s1 s2 r0 r1 r2 r3 r4 r5 p0 p1 p2 p3 p4 p5 a0 a1 a2 a3 a4 z0 z1 z2 z3 z4 l3 l4 l5 l6
  obtain ⟨s0, s1, s2, r0, r1, r2, r3, r4, r5, p0, p1, p2, p3, p4, p5, a0, a1, a2, a3, a4, z0, z1, z2, z3, z4, l3, l4, l5, l6⟩ := HSN.out.c
  dsimp only at r0 r1 r2 r3 r4 r5 p0 p1 p2 p3 p4 p5
  have q0 : w6.cell? ⟨w3.heap.size, 0, none⟩ = some (.int .i64 xe) := HB6.out.cell 0
  have q1 : w6.cell? ⟨w3.heap.size, 1, none⟩ = some (.int .i64 xn) := HB6.out.cell 1
  have q2 : w6.cell? ⟨w3.heap.size, 2, none⟩ = some (.int .i64 xm) := HB6.out.cell 2
  have q3 : w6.cell? ⟨w3.heap.size, 3, none⟩ = some (sv xs) := HB6.out.cell 3
  have q4 : w6.cell? ⟨w3.heap.size, 4, none⟩ = some (sv xt) := HB6.out.cell 4
  have ql := HB6.out.lt
  go_wp2_with fail
  refine bodyPost_ret (res_cell_tmp isAnsU rfl rfl (HSN.out.fin _ _ _ _ _).2.2 rfl) rfl ?_
  exact FIN.out _ ⟨xe, xn, xm, xs, xt⟩ σ' A3 HST.out (HSN.out.fin _ _ _ _ _).1 (HSN.out.fin _ _ _ _ _).2.1
end
end Go.Proofs.Qxb6500579aGreat
