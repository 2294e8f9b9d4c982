/-
  THE WALK of vmlaw: held: Load.
-/
import Derived.Test.Qxb6500579aGreatULawS1
namespace Go.Proofs.Qxb6500579aGreat
open Go Go.RowKit
set_option linter.unusedVariables false
set_option linter.unusedSimpArgs false
section
variable {w : World} {A : VL} {σ : St} {r : RegD} {o : OpD}
set_option maxRecDepth 100000
set_option maxHeartbeats 2000000
theorem held_load (R : VRep w A σ.m σ.f σ.e) (D : DI σ) (hO : OpIn o) (hG : RegIn r) (hk : o.k = 3) : Calls Tryz.prog 11 #[sideV A, r.val, o.val] w (HeldPost w A σ r o) := by
  obtain ⟨Q, HQ⟩ : ∃ Q : Ending → World → Prop, Hid (HeldPost w A σ r o = Q) := ⟨_, rfl⟩
  rw [HQ.out]
  have FIN : Hid (∀ W (x : AnsD) σ' A', StepR σ r o x σ' → VRep W A' (St.m σ') (St.f σ') (St.e σ') → VSt isVM w A W A' → Q (.returned (.tuple #[x.val, .bool true])) W) := fun W x σ' A' h0 h1 h2 => by rw [← HQ.out]; exact ⟨x, σ', A', rfl, h0, h1, h2⟩
  have HS0 : Hid (HeS w A r o σ (heW w A r o) A) := HeS.start R
  have HD : Hid (DI σ) := D
  have HO : Hid (OpIn o) := hO
  have HG : Hid (RegIn r) := hG
  obtain ⟨⟨⟨ct, cn, cs⟩, ⟨dt, dn, ds⟩⟩, HRG⟩ : ∃ r', Hid (r = r') := ⟨r, rfl⟩
  obtain ⟨⟨ok, oa, ob, oc, os, ot⟩, HOP⟩ : ∃ o', Hid (o = o') := ⟨o, rfl⟩
  rw [HRG.out, HOP.out] at FIN HS0 ⊢
  rw [HRG.out] at HG
  rw [HOP.out] at HO hk
  dsimp only at hk
  clear R D hO hG HQ
  unfold sideV
  subst hk
  obtain ⟨F0, HF0⟩ : ∃ x, Hid (σ.f = x) := ⟨_, rfl⟩
  obtain ⟨O0, HO0⟩ : ∃ x, Hid (σ.m.out = x) := ⟨_, rfl⟩
  obtain ⟨SX, HSX⟩ : ∃ x, Hid (showM σ = x) := ⟨_, rfl⟩
  obtain ⟨TX, HTX⟩ : ∃ x, Hid (showT σ.m.tabs = x) := ⟨_, rfl⟩
  have hF0 : F0 < 9223372036854775808 := by rw [← HF0.out]; exact HD.out.fu
  have hO0 : O0.length ≤ 200 := by rw [← HO0.out]; exact HD.out.ol
  go_enter Tryz.func11, Tryz.ntmps11
  go_wp2_with fail
  refine (fuel_any HS0.out.rep).mono ?_
  rintro e' w1 ⟨rfl, rfl⟩
  rw [HF0.out]
  go_wp2_with fail
  refine (out_any HS0.out.rep).mono ?_
  rintro e' w1 ⟨rfl, rfl⟩
  rw [HO0.out]
  go_wp2_with fail
  refine (show_all HS0.out.rep HD.out).mono ?_
  rintro e' w1 ⟨rfl, F1⟩
  rw [HSX.out]
  have HS1 : Hid (HeS w A ⟨⟨ct, cn, cs⟩, ⟨dt, dn, ds⟩⟩ ⟨3, oa, ob, oc, os, ot⟩ σ w1 A) := HS0.out.fresh F1
  clear F1 HS0
  obtain ⟨s0, s1, s2, r0, r1, r2, r3, r4, r5, p0, p1, p2, p3, p4, p5, a0, a1, a2, a3, a4, z0, z1, z2, z3, z4, l3, l4, l5, l6⟩ := HS1.out.c
  dsimp only at r0 r1 r2 r3 r4 r5 p0 p1 p2 p3 p4 p5
  go_wp2_with fail
  refine (tabs_all HS1.out.rep HD.out).mono ?_
  rintro e' w2 ⟨rfl, F2⟩
  rw [HTX.out]
  have HS2 : Hid (HeS w A ⟨⟨ct, cn, cs⟩, ⟨dt, dn, ds⟩⟩ ⟨3, oa, ob, oc, os, ot⟩ σ w2 A) := HS1.out.fresh F2
  clear F2 HS1 s0 s1 s2 r0 r1 r2 r3 r4 r5 p0 p1 p2 p3 p4 p5 a0 a1 a2 a3 a4 z0 z1 z2 z3 z4 l3 l4 l5 l6
  obtain ⟨s0, s1, s2, r0, r1, r2, r3, r4, r5, p0, p1, p2, p3, p4, p5, a0, a1, a2, a3, a4, z0, z1, z2, z3, z4, l3, l4, l5, l6⟩ := HS2.out.c
  dsimp only at r0 r1 r2 r3 r4 r5 p0 p1 p2 p3 p4 p5
  go_wp2_with fail
  refine (do_any HS2.out.rep HD.out HO.out HG.out).mono ?_
  rintro e' w3 ⟨x, σ', A3, rfl, hx, R3, S3⟩
  have HS3 : Hid (HeS w A ⟨⟨ct, cn, cs⟩, ⟨dt, dn, ds⟩⟩ ⟨3, oa, ob, oc, os, ot⟩ σ' w3 A3) := HS2.out.step S3 R3
  have HX : Hid (DoR σ ⟨⟨ct, cn, cs⟩, ⟨dt, dn, ds⟩⟩ ⟨3, oa, ob, oc, os, ot⟩ x σ') := hx
  have HD3 : Hid (DI σ') := hx.di HD.out HO.out HG.out
  clear R3 S3 hx HS2 s0 s1 s2 r0 r1 r2 r3 r4 r5 p0 p1 p2 p3 p4 p5 a0 a1 a2 a3 a4 z0 z1 z2 z3 z4 l3 l4 l5 l6
  obtain ⟨s0, s1, s2, r0, r1, r2, r3, r4, r5, p0, p1, p2, p3, p4, p5, a0, a1, a2, a3, a4, z0, z1, z2, z3, z4, l3, l4, l5, l6⟩ := HS3.out.c
  dsimp only at r0 r1 r2 r3 r4 r5 p0 p1 p2 p3 p4 p5
  have hx := HX.out
  unfold DoR at hx
  rw [if_pos rfl] at hx
  obtain ⟨hx1, hx2⟩ := hx
  have HX1 : Hid (x = ⟨(loadS os oa).1, 0, 0, [], []⟩) := hx1
  have HX2 : Hid (σ' = (loadS os oa).2) := hx2
  have HST : Hid (StepR σ ⟨⟨ct, cn, cs⟩, ⟨dt, dn, ds⟩⟩ ⟨3, oa, ob, oc, os, ot⟩ x σ') := by
    unfold StepR
    rw [if_neg (show ¬ ((3 : Int) = 12) by decide)]
    exact HX.out
  clear hx1 hx2
  obtain ⟨er, HER⟩ : ∃ e, Hid ((loadS os oa).1 = e) := ⟨_, rfl⟩
  rw [HER.out] at HX1
  have hx1 := HX1.out
  subst hx1
  have HS4 : Hid (HeS w A ⟨⟨ct, cn, cs⟩, ⟨dt, dn, ds⟩⟩ ⟨3, oa, ob, oc, os, ot⟩ σ' (w3.alloc (.cells #[.int .i64 er, .int .i64 0, .int .i64 0, sv [], sv []] 41)) A3) := HS3.out.fresh ((Fr.refl _ _).alloc _)
  have HB4 : Hid (Has (w3.alloc (.cells #[.int .i64 er, .int .i64 0, .int .i64 0, sv [], sv []] 41)) w3.heap.size #[.int .i64 er, .int .i64 0, .int .i64 0, sv [], sv []] 41) := Has.newC _ _ _ rfl
  go_wp2_with fail
  refine (show Calls Tryz.prog 26 #[.agg #[.pointer (some ⟨A.b, 0, none⟩), .pointer (some ⟨A.bn, 0, none⟩), .pointer (some ⟨A.bt, 0, none⟩)], .agg #[.int .i64 3, .int .i64 oa, .int .i64 ob, .int .i64 oc, sv os, sv ot], .int .i64 er] _ _ from by
    have h := loaded_any (o := ⟨3, oa, ob, oc, os, ot⟩) HS4.out.rep HD3.out HO.out HX2.out er HER.out.symm
    unfold sideV at h; rw [HS4.out.st.b, HS4.out.st.bn, HS4.out.st.bt] at h
    exact h).mono ?_
  rintro e' w5 ⟨rfl, F5⟩
  have HSN : Hid (HeS w A ⟨⟨ct, cn, cs⟩, ⟨dt, dn, ds⟩⟩ ⟨3, oa, ob, oc, os, ot⟩ σ' w5 A3) := HS4.out.fresh F5
  have HB5 : Hid (Has w5 w3.heap.size #[.int .i64 er, .int .i64 0, .int .i64 0, sv [], sv []] 41) := HB4.out.fr F5 (fun x => x)
  clear F5 HS4 HS3 HB4 s0 s1 s2 r0 r1 r2 r3 r4 r5 p0 p1 p2 p3 p4 p5 a0 a1 a2 a3 a4 z0 z1 z2 z3 z4 l3 l4 l5 l6
  obtain ⟨s0, s1, s2, r0, r1, r2, r3, r4, r5, p0, p1, p2, p3, p4, p5, a0, a1, a2, a3, a4, z0, z1, z2, z3, z4, l3, l4, l5, l6⟩ := HSN.out.c
  dsimp only at r0 r1 r2 r3 r4 r5 p0 p1 p2 p3 p4 p5
  have q0 : w5.cell? ⟨w3.heap.size, 0, none⟩ = some (.int .i64 er) := HB5.out.cell 0
  have q1 : w5.cell? ⟨w3.heap.size, 1, none⟩ = some (.int .i64 0) := HB5.out.cell 1
  have q2 : w5.cell? ⟨w3.heap.size, 2, none⟩ = some (.int .i64 0) := HB5.out.cell 2
  have q3 : w5.cell? ⟨w3.heap.size, 3, none⟩ = some (sv []) := HB5.out.cell 3
  have q4 : w5.cell? ⟨w3.heap.size, 4, none⟩ = some (sv []) := HB5.out.cell 4
  have ql := HB5.out.lt
  go_wp2_with fail
  refine bodyPost_ret (res_cell_tmp isAnsU rfl rfl (HSN.out.fin _ _ _ _ _).2.2 rfl) rfl ?_
  exact FIN.out _ ⟨er, 0, 0, [], []⟩ σ' A3 HST.out (HSN.out.fin _ _ _ _ _).1 (HSN.out.fin _ _ _ _ _).2.1
end
end Go.Proofs.Qxb6500579aGreat
