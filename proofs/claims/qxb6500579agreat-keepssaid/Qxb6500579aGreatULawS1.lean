/-
  THE WALK of vmlaw: held: the catechisms.
-/
import Derived.Test.Qxb6500579aGreatULawS
namespace Go.Proofs.Qxb6500579aGreat
open Go Go.RowKit
set_option linter.unusedVariables false
set_option linter.unusedSimpArgs false
section
variable {w : World} {A : VL} {σ : St} {r : RegD} {o : OpD}
set_option maxRecDepth 100000
set_option maxHeartbeats 2000000
abbrev HeldPost (w : World) (A : VL) (σ : St) (r : RegD) (o : OpD) (e' : Ending) (w' : World) : Prop := ∃ x σ' A', e' = .returned (.tuple #[AnsD.val x, .bool true]) ∧ StepR σ r o x σ' ∧ VRep w' A' (St.m σ') (St.f σ') (St.e σ') ∧ VSt isVM w A w' A'
theorem held_probe (R : VRep w A σ.m σ.f σ.e) (D : DI σ) (hO : OpIn o) (hG : RegIn r) (hk : o.k = 12) : Calls Tryz.prog 11 #[sideV A, r.val, o.val] w (HeldPost w A σ r o) := by
  obtain ⟨Q, HQ⟩ : ∃ Q : Ending → World → Prop, Hid (HeldPost w A σ r o = Q) := ⟨_, rfl⟩
  rw [HQ.out]
  have FIN : Hid (∀ W (x : AnsD) σ' A', StepR σ r o x σ' → VRep W A' (St.m σ') (St.f σ') (St.e σ') → VSt isVM w A W A' → Q (.returned (.tuple #[x.val, .bool true])) W) := fun W x σ' A' h0 h1 h2 => by rw [← HQ.out]; exact ⟨x, σ', A', rfl, h0, h1, h2⟩
  have HS0 : Hid (HeS w A r o σ (heW w A r o) A) := HeS.start R
  have HD : Hid (DI σ) := D
  have HO : Hid (OpIn o) := hO
  have HG : Hid (RegIn r) := hG
  have HST : Hid (StepR σ r o ⟨0, 0, 0, [], []⟩ stS) := by
    unfold StepR
    rw [if_pos hk]
    exact ⟨rfl, rfl⟩
  obtain ⟨⟨⟨ct, cn, cs⟩, ⟨dt, dn, ds⟩⟩, HRG⟩ : ∃ r', Hid (r = r') := ⟨r, rfl⟩
  obtain ⟨⟨ok, oa, ob, oc, os, ot⟩, HOP⟩ : ∃ o', Hid (o = o') := ⟨o, rfl⟩
  rw [HRG.out, HOP.out] at FIN HS0 HST ⊢
  rw [HRG.out] at HG
  rw [HOP.out] at HO hk
  dsimp only at hk
  clear R D hO hG HQ
  unfold sideV
  subst hk
  go_enter Tryz.func11, Tryz.ntmps11
  go_wp2_with fail
  refine (probe_any HS0.out.rep HG.out).mono ?_
  rintro e' w1 ⟨rfl, σ1, A1, R1, S1⟩
  have HS1 : Hid (HeS w A ⟨⟨ct, cn, cs⟩, ⟨dt, dn, ds⟩⟩ ⟨12, oa, ob, oc, os, ot⟩ σ1 w1 A1) := HS0.out.step S1 R1
  clear R1 S1 HS0
  obtain ⟨s0, s1, s2, r0, r1, r2, r3, r4, r5, p0, p1, p2, p3, p4, p5, a0, a1, a2, a3, a4, z0, z1, z2, z3, z4, l3, l4, l5, l6⟩ := HS1.out.c
  dsimp only at r0 r1 r2 r3 r4 r5 p0 p1 p2 p3 p4 p5
  go_wp2_with fail
  refine (show Calls Tryz.prog 22 #[.agg #[.pointer (some ⟨A.b, 0, none⟩), .pointer (some ⟨A.bn, 0, none⟩), .pointer (some ⟨A.bt, 0, none⟩)]] w1 _ from by
    have h := probe2_any HS1.out.rep
    unfold sideV at h
    rw [HS1.out.st.b, HS1.out.st.bn, HS1.out.st.bt] at h
    exact h).mono ?_
  rintro e' w2 ⟨rfl, A2, R2, S2⟩
  have HS2 : Hid (HeS w A ⟨⟨ct, cn, cs⟩, ⟨dt, dn, ds⟩⟩ ⟨12, oa, ob, oc, os, ot⟩ stS w2 A2) := HS1.out.step S2 R2
  clear R2 S2 HS1 s0 s1 s2 r0 r1 r2 r3 r4 r5 p0 p1 p2 p3 p4 p5 a0 a1 a2 a3 a4 z0 z1 z2 z3 z4 l3 l4 l5 l6
  obtain ⟨s0, s1, s2, r0, r1, r2, r3, r4, r5, p0, p1, p2, p3, p4, p5, a0, a1, a2, a3, a4, z0, z1, z2, z3, z4, l3, l4, l5, l6⟩ := HS2.out.c
  dsimp only at r0 r1 r2 r3 r4 r5 p0 p1 p2 p3 p4 p5
  go_wp2_with fail
  refine bodyPost_ret (res_cell_tmp isAnsU rfl rfl (HS2.out.fin _ _ _ _ _).2.2 rfl) rfl ?_
  exact FIN.out _ ⟨0, 0, 0, [], []⟩ stS A2 HST.out (HS2.out.fin _ _ _ _ _).1 (HS2.out.fin _ _ _ _ _).2.1
end
end Go.Proofs.Qxb6500579aGreat
