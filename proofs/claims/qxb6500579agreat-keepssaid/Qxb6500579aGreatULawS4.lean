/-
  THE WALK of vmlaw: held: Exec.
-/
import Derived.Test.Qxb6500579aGreatULawS3
namespace Go.Proofs.Qxb6500579aGreat
open Go Go.RowKit
set_option linter.unusedVariables false
set_option linter.unusedSimpArgs false
section
variable {w : World} {A : VL} {σ : St} {r : RegD} {o : OpD}
set_option maxRecDepth 100000
set_option maxHeartbeats 2000000
/-- without fuel no error 'call' reaches the bottom -/
theorem not_call {ev : EvD} (h : ev.k = 2 → Msg ev.v) : (toldD ev).same (toldD ⟨2, 0, 0, strV [99, 97, 108, 108], nilV⟩) = false := by
  cases hs : (toldD ev).same (toldD ⟨2, 0, 0, strV [99, 97, 108, 108], nilV⟩) with
  | false => rfl
  | true =>
    have he := (AnsD.same_iff _ _).1 hs
    have hk : ev.k = 2 := by
      have := congrArg AnsD.n he
      simp only [toldD] at this
      omega
    have hm := h hk
    have ht := congrArg AnsD.s he
    simp only [toldD] at ht
    unfold Msg at hm
    simp only [List.mem_cons, List.not_mem_nil, or_false] at hm
    have ht2 := congrArg (List.take 4) ht
    rcases hm with hm | hm | hm | hm | hm | hm | hm | hm | hm <;>
    · rw [hm] at ht2
      rw [List.append_assoc, List.append_assoc, List.take_append_of_le_length (by decide), List.take_append_of_le_length (by decide)] at ht2
      exact absurd ht2 (by decide)
theorem shw_call : Shw (EvD.v ⟨2, 0, 0, strV [99, 97, 108, 108], nilV⟩) ∧ Shw (EvD.w ⟨2, 0, 0, strV [99, 97, 108, 108], nilV⟩) := ⟨⟨by decide, by decide, by decide, by decide, .inr ⟨rfl, rfl⟩⟩, evBad_shw.2⟩
theorem held_exec (R : VRep w A σ.m σ.f σ.e) (D : DI σ) (hO : OpIn o) (hG : RegIn r) (hk : o.k = 4) : Calls Tryz.prog 11 #[sideV A, r.val, o.val] w (HeldPost w A σ r o) := by
  obtain ⟨Q, HQ⟩ : ∃ Q : Ending → World → Prop, Hid (HeldPost w A σ r o = Q) := ⟨_, rfl⟩
  rw [HQ.out]
  have FIN : Hid (∀ W (x : AnsD) σ' A', StepR σ r o x σ' → VRep W A' (St.m σ') (St.f σ') (St.e σ') → VSt isVM w A W A' → Q (.returned (.tuple #[x.val, .bool true])) W) := fun W x σ' A' h0 h1 h2 => by rw [← HQ.out]; exact ⟨x, σ', A', rfl, h0, h1, h2⟩
  have HS0 : Hid (HeS w A r o σ (heW w A r o) A) := HeS.start R
  have HD : Hid (DI σ) := D
  have HO : Hid (OpIn o) := hO
  have HG : Hid (RegIn r) := hG
  obtain ⟨⟨⟨ct, cn, cs⟩, ⟨dt, dn, ds⟩⟩, HRG⟩ : ∃ r', Hid (r = r') := ⟨r, rfl⟩
  obtain ⟨⟨ok, oa, ob, oc, os, ot⟩, HOP⟩ : ∃ o', Hid (o = o') := ⟨o, rfl⟩
  rw [HRG.out, HOP.out] at FIN HS0 ⊢
  rw [HRG.out] at HG
  rw [HOP.out] at HO hk
  dsimp only at hk
  clear R D hO hG HQ
  unfold sideV
  subst hk
  obtain ⟨F0, HF0⟩ : ∃ x, Hid (σ.f = x) := ⟨_, rfl⟩
  obtain ⟨O0, HO0⟩ : ∃ x, Hid (σ.m.out = x) := ⟨_, rfl⟩
  obtain ⟨SX, HSX⟩ : ∃ x, Hid (showM σ = x) := ⟨_, rfl⟩
  obtain ⟨TX, HTX⟩ : ∃ x, Hid (showT σ.m.tabs = x) := ⟨_, rfl⟩
  have hF0 : F0 < 9223372036854775808 := by rw [← HF0.out]; exact HD.out.fu
  have hO0 : O0.length ≤ 200 := by rw [← HO0.out]; exact HD.out.ol
  go_enter Tryz.func11, Tryz.ntmps11
  go_wp2_with fail
  refine (fuel_any HS0.out.rep).mono ?_
  rintro e' w1 ⟨rfl, rfl⟩
  rw [HF0.out]
  go_wp2_with fail
  refine (out_any HS0.out.rep).mono ?_
  rintro e' w1 ⟨rfl, rfl⟩
  rw [HO0.out]
  go_wp2_with fail
  refine (show_all HS0.out.rep HD.out).mono ?_
  rintro e' w1 ⟨rfl, F1⟩
  rw [HSX.out]
  have HS1 : Hid (HeS w A ⟨⟨ct, cn, cs⟩, ⟨dt, dn, ds⟩⟩ ⟨4, oa, ob, oc, os, ot⟩ σ w1 A) := HS0.out.fresh F1
  clear F1 HS0
  obtain ⟨s0, s1, s2, r0, r1, r2, r3, r4, r5, p0, p1, p2, p3, p4, p5, a0, a1, a2, a3, a4, z0, z1, z2, z3, z4, l3, l4, l5, l6⟩ := HS1.out.c
  dsimp only at r0 r1 r2 r3 r4 r5 p0 p1 p2 p3 p4 p5
  go_wp2_with fail
  refine (tabs_all HS1.out.rep HD.out).mono ?_
  rintro e' w2 ⟨rfl, F2⟩
  rw [HTX.out]
  have HS2 : Hid (HeS w A ⟨⟨ct, cn, cs⟩, ⟨dt, dn, ds⟩⟩ ⟨4, oa, ob, oc, os, ot⟩ σ w2 A) := HS1.out.fresh F2
  clear F2 HS1 s0 s1 s2 r0 r1 r2 r3 r4 r5 p0 p1 p2 p3 p4 p5 a0 a1 a2 a3 a4 z0 z1 z2 z3 z4 l3 l4 l5 l6
  obtain ⟨s0, s1, s2, r0, r1, r2, r3, r4, r5, p0, p1, p2, p3, p4, p5, a0, a1, a2, a3, a4, z0, z1, z2, z3, z4, l3, l4, l5, l6⟩ := HS2.out.c
  dsimp only at r0 r1 r2 r3 r4 r5 p0 p1 p2 p3 p4 p5
  go_wp2_with fail
  refine (do_any HS2.out.rep HD.out HO.out HG.out).mono ?_
  rintro e' w3 ⟨x, σ', A3, rfl, hx, R3, S3⟩
  have HS3 : Hid (HeS w A ⟨⟨ct, cn, cs⟩, ⟨dt, dn, ds⟩⟩ ⟨4, oa, ob, oc, os, ot⟩ σ' w3 A3) := HS2.out.step S3 R3
  have HX : Hid (DoR σ ⟨⟨ct, cn, cs⟩, ⟨dt, dn, ds⟩⟩ ⟨4, oa, ob, oc, os, ot⟩ x σ') := hx
  have HD3 : Hid (DI σ') := hx.di HD.out HO.out HG.out
  clear R3 S3 hx HS2 s0 s1 s2 r0 r1 r2 r3 r4 r5 p0 p1 p2 p3 p4 p5 a0 a1 a2 a3 a4 z0 z1 z2 z3 z4 l3 l4 l5 l6
  obtain ⟨s0, s1, s2, r0, r1, r2, r3, r4, r5, p0, p1, p2, p3, p4, p5, a0, a1, a2, a3, a4, z0, z1, z2, z3, z4, l3, l4, l5, l6⟩ := HS3.out.c
  dsimp only at r0 r1 r2 r3 r4 r5 p0 p1 p2 p3 p4 p5
  have hx := HX.out
  unfold DoR at hx
  rw [if_neg (show ¬ ((4 : Int) = 3) by decide), if_pos rfl] at hx
  obtain ⟨ev, hev, hxe⟩ := hx
  have HST : Hid (StepR σ ⟨⟨ct, cn, cs⟩, ⟨dt, dn, ds⟩⟩ ⟨4, oa, ob, oc, os, ot⟩ x σ') := by
    unfold StepR
    rw [if_neg (show ¬ ((4 : Int) = 12) by decide)]
    exact HX.out
  dsimp only at hev
  rcases exec_law HD.out HG.out.a HG.out.b hev with ⟨h1, h2⟩ | ⟨h6, F⟩
  · have HXE : Hid (x = toldD evBad) := by rw [hxe, h1]; exact rfl
    subst h2
    clear hev hxe h1 HX ev
    obtain ⟨⟨xe, xn, xm, xs, xt⟩, HXX⟩ : ∃ y, Hid (x = y) := ⟨x, rfl⟩
    have HS4 : Hid (HeS w A ⟨⟨ct, cn, cs⟩, ⟨dt, dn, ds⟩⟩ ⟨4, oa, ob, oc, os, ot⟩ σ' (w3.alloc (.cells #[.int .i64 xe, .int .i64 xn, .int .i64 xm, sv xs, sv xt] 41)) A3) := HS3.out.fresh ((Fr.refl _ _).alloc _)
    have HB4 : Hid (Has (w3.alloc (.cells #[.int .i64 xe, .int .i64 xn, .int .i64 xm, sv xs, sv xt] 41)) w3.heap.size #[.int .i64 xe, .int .i64 xn, .int .i64 xm, sv xs, sv xt] 41) := Has.newC _ _ _ rfl
    have HXN : Hid (xn = 6) := by
      have h := HXE.out
      rw [HXX.out] at h
      exact congrArg AnsD.n h
    rw [HXX.out] at HST ⊢
    have hxn := HXN.out
    subst hxn
    go_wp2_with fail
    refine (show Calls Tryz.prog 23 #[.pointer (some ⟨A.b, 0, none⟩)] _ _ from by
      have h := fuel_any HS4.out.rep
      rw [HS4.out.st.b, HF0.out] at h
      exact h).mono ?_
    rintro e' w4 ⟨rfl, rfl⟩
    go_wp2_with fail
    refine (show Calls Tryz.prog 24 #[.pointer (some ⟨A.b, 0, none⟩)] _ _ from by
      have h := out_any HS4.out.rep
      rw [HS4.out.st.b, HO0.out] at h
      exact h).mono ?_
    rintro e' w4 ⟨rfl, rfl⟩
    go_wp2_with fail
    refine (grown_any O0 O0 (List.prefix_refl _) hO0 (by rw [← HO0.out]; exact HD.out.ln)).mono ?_
    rintro e' w4 ⟨rfl, rfl⟩
    go_wp2_with fail
    refine (show Calls Tryz.prog 7 #[.pointer (some ⟨A.b, 0, none⟩)] _ _ from by
      have h := show_all HS4.out.rep HD.out
      rw [HS4.out.st.b, HSX.out] at h
      exact h).mono ?_
    rintro e' w5 ⟨rfl, F5⟩
    have HS5 : Hid (HeS w A ⟨⟨ct, cn, cs⟩, ⟨dt, dn, ds⟩⟩ ⟨4, oa, ob, oc, os, ot⟩ σ' w5 A3) := HS4.out.fresh F5
    have HB5 : Hid (Has w5 w3.heap.size #[.int .i64 xe, .int .i64 6, .int .i64 xm, sv xs, sv xt] 41) := HB4.out.fr F5 (fun x => x)
    clear F5 HS4 HS3 HB4 s0 s1 s2 r0 r1 r2 r3 r4 r5 p0 p1 p2 p3 p4 p5 a0 a1 a2 a3 a4 z0 z1 z2 z3 z4 l3 l4 l5 l6
    obtain ⟨s0, s1, s2, r0, r1, r2, r3, r4, r5, p0, p1, p2, p3, p4, p5, a0, a1, a2, a3, a4, z0, z1, z2, z3, z4, l3, l4, l5, l6⟩ := HS5.out.c
    dsimp only at r0 r1 r2 r3 r4 r5 p0 p1 p2 p3 p4 p5
    go_wp2_with fail
    refine (show Calls Tryz.prog 8 #[.agg #[.pointer (some ⟨A.bn, 0, none⟩), .pointer (some ⟨A.bt, 0, none⟩)]] _ _ from by
      have h := tabs_all HS5.out.rep HD.out
      rw [HS5.out.st.bn, HS5.out.st.bt, HTX.out] at h
      exact h).mono ?_
    rintro e' w6 ⟨rfl, F6⟩
    have HSN : Hid (HeS w A ⟨⟨ct, cn, cs⟩, ⟨dt, dn, ds⟩⟩ ⟨4, oa, ob, oc, os, ot⟩ σ' w6 A3) := HS5.out.fresh F6
    have HB6 : Hid (Has w6 w3.heap.size #[.int .i64 xe, .int .i64 6, .int .i64 xm, sv xs, sv xt] 41) := HB5.out.fr F6 (fun x => x)
    clear F6 HS5 HB5 s0 s1 s2 r0 r1 r2 r3 r4 r5 p0 p1 p2 p3 p4 p5 a0 a1 a2 a3 a4 z0 z1 z2 z3 z4 l3 l4 l5 l6
    obtain ⟨s0, s1, s2, r0, r1, r2, r3, r4, r5, p0, p1, p2, p3, p4, p5, a0, a1, a2, a3, a4, z0, z1, z2, z3, z4, l3, l4, l5, l6⟩ := HSN.out.c
    dsimp only at r0 r1 r2 r3 r4 r5 p0 p1 p2 p3 p4 p5
    have q0 : w6.cell? ⟨w3.heap.size, 0, none⟩ = some (.int .i64 xe) := HB6.out.cell 0
    have q1 : w6.cell? ⟨w3.heap.size, 1, none⟩ = some (.int .i64 6) := HB6.out.cell 1
    have q2 : w6.cell? ⟨w3.heap.size, 2, none⟩ = some (.int .i64 xm) := HB6.out.cell 2
    have q3 : w6.cell? ⟨w3.heap.size, 3, none⟩ = some (sv xs) := HB6.out.cell 3
    have q4 : w6.cell? ⟨w3.heap.size, 4, none⟩ = some (sv xt) := HB6.out.cell 4
    have ql := HB6.out.lt
    go_wp2_with fail
    refine bodyPost_ret (res_cell_tmp isAnsU rfl rfl (HSN.out.fin _ _ _ _ _).2.2 rfl) rfl ?_
    exact FIN.out _ ⟨xe, 6, xm, xs, xt⟩ σ' A3 HST.out (HSN.out.fin _ _ _ _ _).1 (HSN.out.fin _ _ _ _ _).2.1
  · have HXE : Hid (x = toldD ev) := hxe
    have HF : Hid (ExF σ oa ev σ') := F
    have HEV : Hid (ExecR σ oa ⟨ct, cn, cs⟩ ⟨dt, dn, ds⟩ ev σ') := hev
    have hk1 := F.k1
    have hk5 := F.k5
    clear hev hxe HX F h6
    obtain ⟨NM, HNM⟩ : ∃ s, Hid (showV ev.v ++ [44] ++ showV ev.w = s) := ⟨showV ev.v ++ [44] ++ showV ev.w, Eq.refl (showV ev.v ++ [44] ++ showV ev.w)⟩
    have HXV : Hid (x = ⟨ev.e, ev.k, ev.th, NM, []⟩) := by rw [HXE.out, ← HNM.out]; exact rfl
    rw [HXV.out] at HST ⊢
    obtain ⟨F1, HF1⟩ : ∃ x, Hid (σ'.f = x) := ⟨_, rfl⟩
    obtain ⟨O1, HO1⟩ : ∃ x, Hid (σ'.m.out = x) := ⟨_, rfl⟩
    obtain ⟨TY, HTY⟩ : ∃ x, Hid (showT σ'.m.tabs = x) := ⟨_, rfl⟩
    have hf1 : F1 ≤ F0 := by rw [← HF1.out, ← HF0.out]; exact HF.out.f
    have hpr : O0 <+: O1 := by rw [← HO0.out, ← HO1.out]; exact HF.out.o.1
    have HPR : Hid (O0 <+: O1) := hpr
    have hO1 : O1.length ≤ 200 := by rw [← HO1.out]; exact HD3.out.ol
    have HLN : Hid (O1 = [] ∨ O1.getLast? = some 10) := by rw [← HO1.out]; exact HD3.out.ln
    clear hpr
    obtain ⟨EE, HEE⟩ : ∃ x, Hid (ev.e = x) := ⟨_, rfl⟩
    obtain ⟨EK, HEK⟩ : ∃ x, Hid (ev.k = x) := ⟨_, rfl⟩
    obtain ⟨ET, HET⟩ : ∃ x, Hid (ev.th = x) := ⟨_, rfl⟩
    have hk6 : ((EK : Int) == 6) = false := by rw [beq_eq_false_iff_ne, ← HEK.out]; omega
    rw [HEE.out, HEK.out, HET.out] at HST ⊢
    have HS4 : Hid (HeS w A ⟨⟨ct, cn, cs⟩, ⟨dt, dn, ds⟩⟩ ⟨4, oa, ob, oc, os, ot⟩ σ' (w3.alloc (.cells #[.int .i64 EE, .int .i64 EK, .int .i64 ET, sv NM, sv []] 41)) A3) := HS3.out.fresh ((Fr.refl _ _).alloc _)
    have HB4 : Hid (Has (w3.alloc (.cells #[.int .i64 EE, .int .i64 EK, .int .i64 ET, sv NM, sv []] 41)) w3.heap.size #[.int .i64 EE, .int .i64 EK, .int .i64 ET, sv NM, sv []] 41) := Has.newC _ _ _ rfl
    have g1 : decide (F0 < F1) = false := by rw [decide_eq_false_iff_not]; omega
    have g2 : decide ((F1 : Int) < 0) = false := by rw [decide_eq_false_iff_not]; omega
    go_wp2_with fail
    refine (show Calls Tryz.prog 23 #[.pointer (some ⟨A.b, 0, none⟩)] _ _ from by
      have h := fuel_any HS4.out.rep
      rw [HS4.out.st.b, HF1.out] at h
      exact h).mono ?_
    rintro e' w4 ⟨rfl, rfl⟩
    go_wp2_with fail
    refine (show Calls Tryz.prog 24 #[.pointer (some ⟨A.b, 0, none⟩)] _ _ from by
      have h := out_any HS4.out.rep
      rw [HS4.out.st.b, HO1.out] at h
      exact h).mono ?_
    rintro e' w4 ⟨rfl, rfl⟩
    go_wp2_with fail
    refine (grown_any O0 O1 HPR.out hO1 HLN.out).mono ?_
    rintro e' w4 ⟨rfl, rfl⟩
    go_wp2_with fail
    refine (told_any ⟨2, 0, 0, strV [99, 97, 108, 108], nilV⟩ shw_call.1 shw_call.2).mono ?_
    rintro e' w5 ⟨he, F5⟩
    obtain ⟨⟨ne, nn, nm, ns, nt⟩, HNC⟩ : ∃ y, Hid (toldD ⟨2, 0, 0, strV [99, 97, 108, 108], nilV⟩ = y) := ⟨_, rfl⟩
    rw [HNC.out] at he
    have he : e' = .returned (.agg #[.int .i64 ne, .int .i64 nn, .int .i64 nm, sv ns, sv nt]) := he
    subst he
    have HS5 : Hid (HeS w A ⟨⟨ct, cn, cs⟩, ⟨dt, dn, ds⟩⟩ ⟨4, oa, ob, oc, os, ot⟩ σ' w5 A3) := HS4.out.fresh F5
    have HB5 : Hid (Has w5 w3.heap.size #[.int .i64 EE, .int .i64 EK, .int .i64 ET, sv NM, sv []] 41) := HB4.out.fr F5 (fun x => x)
    obtain ⟨zs, HZS⟩ : ∃ z : Bool, Hid (AnsD.same ⟨EE, EK, ET, NM, []⟩ ⟨ne, nn, nm, ns, nt⟩ = z) := ⟨_, rfl⟩
    have hcm : ∀ W, (binOp .eql 41 (.agg #[.int .i64 EE, .int .i64 EK, .int .i64 ET, sv NM, sv []]) (.agg #[.int .i64 ne, .int .i64 nn, .int .i64 nm, sv ns, sv nt])).run Tryz.prog W = .ok (.bool zs) W := fun W => by rw [← HZS.out]; exact ans_eql ⟨EE, EK, ET, NM, []⟩ ⟨ne, nn, nm, ns, nt⟩ W
    have HZ : Hid (F0 = 0 → O1 = O0 ∧ EK ≠ 3 ∧ EK ≠ 4 ∧ zs = false) := by
      intro h0
      have hz := HF.out.z (by rw [HF0.out]; exact h0)
      rw [HO1.out, HO0.out, HEK.out] at hz
      refine ⟨hz.1, hz.2.1, hz.2.2.1, ?_⟩
      rw [← HZS.out, ← HNC.out]
      have h := not_call (ev := ev) (by rw [HEK.out]; exact hz.2.2.2)
      have ht : toldD ev = ⟨EE, EK, ET, NM, []⟩ := by rw [← HEE.out, ← HEK.out, ← HET.out, ← HNM.out]; rfl
      rw [ht] at h
      exact h
    have hszD : w3.heap.size < w5.heap.size := HB5.out.lt
    have HS6 : Hid (HeS w A ⟨⟨ct, cn, cs⟩, ⟨dt, dn, ds⟩⟩ ⟨4, oa, ob, oc, os, ot⟩ σ' (w5.alloc (.cells #[.int .i64 ne, .int .i64 nn, .int .i64 nm, sv ns, sv nt] 41)) A3) := HS5.out.fresh ((Fr.refl _ _).alloc _)
    have HB6 : Hid (Has (w5.alloc (.cells #[.int .i64 ne, .int .i64 nn, .int .i64 nm, sv ns, sv nt] 41)) w3.heap.size #[.int .i64 EE, .int .i64 EK, .int .i64 ET, sv NM, sv []] 41) := HB5.out.alloc _
    clear F5 HS4 HS3 HB4 s0 s1 s2 r0 r1 r2 r3 r4 r5 p0 p1 p2 p3 p4 p5 a0 a1 a2 a3 a4 z0 z1 z2 z3 z4 l3 l4 l5 l6
    obtain ⟨s0, s1, s2, r0, r1, r2, r3, r4, r5, p0, p1, p2, p3, p4, p5, a0, a1, a2, a3, a4, z0, z1, z2, z3, z4, l3, l4, l5, l6⟩ := HS5.out.c
    dsimp only at r0 r1 r2 r3 r4 r5 p0 p1 p2 p3 p4 p5
    have q0 : w5.cell? ⟨w3.heap.size, 0, none⟩ = some (.int .i64 EE) := HB5.out.cell 0
    have q1 : w5.cell? ⟨w3.heap.size, 1, none⟩ = some (.int .i64 EK) := HB5.out.cell 1
    have q2 : w5.cell? ⟨w3.heap.size, 2, none⟩ = some (.int .i64 ET) := HB5.out.cell 2
    have q3 : w5.cell? ⟨w3.heap.size, 3, none⟩ = some (sv NM) := HB5.out.cell 3
    have q4 : w5.cell? ⟨w3.heap.size, 4, none⟩ = some (sv []) := HB5.out.cell 4
    have ql := HB5.out.lt
    have HEVN : Hid (∀ W, VRep W A3 σ'.m σ'.f σ'.e → Calls Tryz.prog 29 #[.pointer (some ⟨A.b, 0, none⟩), .int .i64 oa, .agg #[.int .i64 EE, .int .i64 EK, .int .i64 ET, sv NM, sv []]] W fun e' w' => e' = .returned (.bool true) ∧ Fr (fun _ => False) W w') := fun W hW => by
      have h := event_any (s := NM) (t := []) hW HF.out HO.out.a
      rw [HS5.out.b, HEE.out, HEK.out, HET.out] at h
      exact h
    have HTBN : Hid (EK = 5 → TY ≠ []) := fun e => by
      rw [← HTY.out]
      exact showT_ne (HF.out.t5 (by rw [HEK.out]; exact e)).2.2.2
    have hex : ∀ z3 z4 : Bool, ((EK : Int) == 3) = z3 → ((EK : Int) == 4) = z4 → (F0 = 0 → z3 = false ∧ z4 = false) := by
      intro z3 z4 e3 e4 h0
      obtain ⟨_, h3, h4, _⟩ := HZ.out h0
      rw [← e3, ← e4]
      exact ⟨by rw [beq_eq_false_iff_ne]; omega, by rw [beq_eq_false_iff_ne]; omega⟩
    by_cases h0 : F0 = 0
    · obtain ⟨ho, _, _, hz⟩ := HZ.out h0
      obtain ⟨g3, g4⟩ := hex _ _ rfl rfl h0
      subst hz
      subst ho
      subst h0
      clear hex
      by_cases h5 : EK = 5
      · have hty := HTBN.out h5
        subst h5
        have hcm5 : ∀ W, (binOp .eql 41 (.agg #[.int .i64 EE, .int .i64 5, .int .i64 ET, sv NM, sv []]) (.agg #[.int .i64 ne, .int .i64 nn, .int .i64 nm, sv ns, sv nt])).run Tryz.prog W = .ok (.bool false) W := hcm
        clear hcm
        go_wp2_with fail
        refine (show Calls Tryz.prog 8 #[.agg #[.pointer (some ⟨A.bn, 0, none⟩), .pointer (some ⟨A.bt, 0, none⟩)]] _ _ from by
        have h := tabs_all HS6.out.rep HD3.out
        rw [HS6.out.st.bn, HS6.out.st.bt, HTY.out] at h
        exact h).mono ?_
        rintro e' w7 ⟨rfl, F7⟩
        have HS7 : Hid (HeS w A ⟨⟨ct, cn, cs⟩, ⟨dt, dn, ds⟩⟩ ⟨4, oa, ob, oc, os, ot⟩ σ' w7 A3) := HS6.out.fresh F7
        have HB7 : Hid (Has w7 w3.heap.size #[.int .i64 EE, .int .i64 5, .int .i64 ET, sv NM, sv []] 41) := HB6.out.fr F7 (fun x => x)
        have hye : (TY == []) = false := by cases TY with
          | nil => exact absurd rfl hty
          | cons a r => rfl
        have hyl : TY.isEmpty = false := by cases TY with
          | nil => exact absurd rfl hty
          | cons a r => rfl
        clear F7 HS6 HB6 q0 q1 q2 q3 q4 ql s0 s1 s2 r0 r1 r2 r3 r4 r5 p0 p1 p2 p3 p4 p5 a0 a1 a2 a3 a4 z0 z1 z2 z3 z4 l3 l4 l5 l6
        obtain ⟨s0, s1, s2, r0, r1, r2, r3, r4, r5, p0, p1, p2, p3, p4, p5, a0, a1, a2, a3, a4, z0, z1, z2, z3, z4, l3, l4, l5, l6⟩ := HS7.out.c
        dsimp only at r0 r1 r2 r3 r4 r5 p0 p1 p2 p3 p4 p5
        have q0 : w7.cell? ⟨w3.heap.size, 0, none⟩ = some (.int .i64 EE) := HB7.out.cell 0
        have q1 : w7.cell? ⟨w3.heap.size, 1, none⟩ = some (.int .i64 5) := HB7.out.cell 1
        have q2 : w7.cell? ⟨w3.heap.size, 2, none⟩ = some (.int .i64 ET) := HB7.out.cell 2
        have q3 : w7.cell? ⟨w3.heap.size, 3, none⟩ = some (sv NM) := HB7.out.cell 3
        have q4 : w7.cell? ⟨w3.heap.size, 4, none⟩ = some (sv []) := HB7.out.cell 4
        have ql := HB7.out.lt
        go_wp2_with fail
        refine (HEVN.out _ HS7.out.rep).mono ?_
        rintro e' w8 ⟨rfl, F8⟩
        have HSN : Hid (HeS w A ⟨⟨ct, cn, cs⟩, ⟨dt, dn, ds⟩⟩ ⟨4, oa, ob, oc, os, ot⟩ σ' w8 A3) := HS7.out.fresh F8
        have HB8 : Hid (Has w8 w3.heap.size #[.int .i64 EE, .int .i64 5, .int .i64 ET, sv NM, sv []] 41) := HB7.out.fr F8 (fun x => x)
        clear F8 HS7 HB7 q0 q1 q2 q3 q4 ql s0 s1 s2 r0 r1 r2 r3 r4 r5 p0 p1 p2 p3 p4 p5 a0 a1 a2 a3 a4 z0 z1 z2 z3 z4 l3 l4 l5 l6
        obtain ⟨s0, s1, s2, r0, r1, r2, r3, r4, r5, p0, p1, p2, p3, p4, p5, a0, a1, a2, a3, a4, z0, z1, z2, z3, z4, l3, l4, l5, l6⟩ := HSN.out.c
        dsimp only at r0 r1 r2 r3 r4 r5 p0 p1 p2 p3 p4 p5
        have q0 : w8.cell? ⟨w3.heap.size, 0, none⟩ = some (.int .i64 EE) := HB8.out.cell 0
        have q1 : w8.cell? ⟨w3.heap.size, 1, none⟩ = some (.int .i64 5) := HB8.out.cell 1
        have q2 : w8.cell? ⟨w3.heap.size, 2, none⟩ = some (.int .i64 ET) := HB8.out.cell 2
        have q3 : w8.cell? ⟨w3.heap.size, 3, none⟩ = some (sv NM) := HB8.out.cell 3
        have q4 : w8.cell? ⟨w3.heap.size, 4, none⟩ = some (sv []) := HB8.out.cell 4
        have ql := HB8.out.lt
        go_wp2_with fail
        refine bodyPost_ret (res_cell_tmp isAnsU rfl rfl (HSN.out.fin _ _ _ _ _).2.2 rfl) rfl ?_
        exact FIN.out _ ⟨EE, 5, ET, NM, []⟩ σ' A3 HST.out (HSN.out.fin _ _ _ _ _).1 (HSN.out.fin _ _ _ _ _).2.1
      · have g5 : ((EK : Int) == 5) = false := by rw [beq_eq_false_iff_ne]; omega
        go_wp2_with fail
        refine (HEVN.out _ HS6.out.rep).mono ?_
        rintro e' w8 ⟨rfl, F8⟩
        have HSN : Hid (HeS w A ⟨⟨ct, cn, cs⟩, ⟨dt, dn, ds⟩⟩ ⟨4, oa, ob, oc, os, ot⟩ σ' w8 A3) := HS6.out.fresh F8
        have HB8 : Hid (Has w8 w3.heap.size #[.int .i64 EE, .int .i64 EK, .int .i64 ET, sv NM, sv []] 41) := HB6.out.fr F8 (fun x => x)
        clear F8 HS6 HB6 q0 q1 q2 q3 q4 ql s0 s1 s2 r0 r1 r2 r3 r4 r5 p0 p1 p2 p3 p4 p5 a0 a1 a2 a3 a4 z0 z1 z2 z3 z4 l3 l4 l5 l6
        obtain ⟨s0, s1, s2, r0, r1, r2, r3, r4, r5, p0, p1, p2, p3, p4, p5, a0, a1, a2, a3, a4, z0, z1, z2, z3, z4, l3, l4, l5, l6⟩ := HSN.out.c
        dsimp only at r0 r1 r2 r3 r4 r5 p0 p1 p2 p3 p4 p5
        have q0 : w8.cell? ⟨w3.heap.size, 0, none⟩ = some (.int .i64 EE) := HB8.out.cell 0
        have q1 : w8.cell? ⟨w3.heap.size, 1, none⟩ = some (.int .i64 EK) := HB8.out.cell 1
        have q2 : w8.cell? ⟨w3.heap.size, 2, none⟩ = some (.int .i64 ET) := HB8.out.cell 2
        have q3 : w8.cell? ⟨w3.heap.size, 3, none⟩ = some (sv NM) := HB8.out.cell 3
        have q4 : w8.cell? ⟨w3.heap.size, 4, none⟩ = some (sv []) := HB8.out.cell 4
        have ql := HB8.out.lt
        go_wp2_with fail
        refine bodyPost_ret (res_cell_tmp isAnsU rfl rfl (HSN.out.fin _ _ _ _ _).2.2 rfl) rfl ?_
        exact FIN.out _ ⟨EE, EK, ET, NM, []⟩ σ' A3 HST.out (HSN.out.fin _ _ _ _ _).1 (HSN.out.fin _ _ _ _ _).2.1
    · have g0 : ((F0 : Int) == 0) = false := by rw [beq_eq_false_iff_ne]; omega
      clear hex
      by_cases h5 : EK = 5
      · have hty := HTBN.out h5
        subst h5
        have hcm5 : ∀ W, (binOp .eql 41 (.agg #[.int .i64 EE, .int .i64 5, .int .i64 ET, sv NM, sv []]) (.agg #[.int .i64 ne, .int .i64 nn, .int .i64 nm, sv ns, sv nt])).run Tryz.prog W = .ok (.bool zs) W := hcm
        clear hcm
        go_wp2_with fail
        refine (show Calls Tryz.prog 8 #[.agg #[.pointer (some ⟨A.bn, 0, none⟩), .pointer (some ⟨A.bt, 0, none⟩)]] _ _ from by
        have h := tabs_all HS6.out.rep HD3.out
        rw [HS6.out.st.bn, HS6.out.st.bt, HTY.out] at h
        exact h).mono ?_
        rintro e' w7 ⟨rfl, F7⟩
        have HS7 : Hid (HeS w A ⟨⟨ct, cn, cs⟩, ⟨dt, dn, ds⟩⟩ ⟨4, oa, ob, oc, os, ot⟩ σ' w7 A3) := HS6.out.fresh F7
        have HB7 : Hid (Has w7 w3.heap.size #[.int .i64 EE, .int .i64 5, .int .i64 ET, sv NM, sv []] 41) := HB6.out.fr F7 (fun x => x)
        have hye : (TY == []) = false := by cases TY with
          | nil => exact absurd rfl hty
          | cons a r => rfl
        have hyl : TY.isEmpty = false := by cases TY with
          | nil => exact absurd rfl hty
          | cons a r => rfl
        clear F7 HS6 HB6 q0 q1 q2 q3 q4 ql s0 s1 s2 r0 r1 r2 r3 r4 r5 p0 p1 p2 p3 p4 p5 a0 a1 a2 a3 a4 z0 z1 z2 z3 z4 l3 l4 l5 l6
        obtain ⟨s0, s1, s2, r0, r1, r2, r3, r4, r5, p0, p1, p2, p3, p4, p5, a0, a1, a2, a3, a4, z0, z1, z2, z3, z4, l3, l4, l5, l6⟩ := HS7.out.c
        dsimp only at r0 r1 r2 r3 r4 r5 p0 p1 p2 p3 p4 p5
        have q0 : w7.cell? ⟨w3.heap.size, 0, none⟩ = some (.int .i64 EE) := HB7.out.cell 0
        have q1 : w7.cell? ⟨w3.heap.size, 1, none⟩ = some (.int .i64 5) := HB7.out.cell 1
        have q2 : w7.cell? ⟨w3.heap.size, 2, none⟩ = some (.int .i64 ET) := HB7.out.cell 2
        have q3 : w7.cell? ⟨w3.heap.size, 3, none⟩ = some (sv NM) := HB7.out.cell 3
        have q4 : w7.cell? ⟨w3.heap.size, 4, none⟩ = some (sv []) := HB7.out.cell 4
        have ql := HB7.out.lt
        go_wp2_with fail
        refine (HEVN.out _ HS7.out.rep).mono ?_
        rintro e' w8 ⟨rfl, F8⟩
        have HSN : Hid (HeS w A ⟨⟨ct, cn, cs⟩, ⟨dt, dn, ds⟩⟩ ⟨4, oa, ob, oc, os, ot⟩ σ' w8 A3) := HS7.out.fresh F8
        have HB8 : Hid (Has w8 w3.heap.size #[.int .i64 EE, .int .i64 5, .int .i64 ET, sv NM, sv []] 41) := HB7.out.fr F8 (fun x => x)
        clear F8 HS7 HB7 q0 q1 q2 q3 q4 ql s0 s1 s2 r0 r1 r2 r3 r4 r5 p0 p1 p2 p3 p4 p5 a0 a1 a2 a3 a4 z0 z1 z2 z3 z4 l3 l4 l5 l6
        obtain ⟨s0, s1, s2, r0, r1, r2, r3, r4, r5, p0, p1, p2, p3, p4, p5, a0, a1, a2, a3, a4, z0, z1, z2, z3, z4, l3, l4, l5, l6⟩ := HSN.out.c
        dsimp only at r0 r1 r2 r3 r4 r5 p0 p1 p2 p3 p4 p5
        have q0 : w8.cell? ⟨w3.heap.size, 0, none⟩ = some (.int .i64 EE) := HB8.out.cell 0
        have q1 : w8.cell? ⟨w3.heap.size, 1, none⟩ = some (.int .i64 5) := HB8.out.cell 1
        have q2 : w8.cell? ⟨w3.heap.size, 2, none⟩ = some (.int .i64 ET) := HB8.out.cell 2
        have q3 : w8.cell? ⟨w3.heap.size, 3, none⟩ = some (sv NM) := HB8.out.cell 3
        have q4 : w8.cell? ⟨w3.heap.size, 4, none⟩ = some (sv []) := HB8.out.cell 4
        have ql := HB8.out.lt
        go_wp2_with fail
        refine bodyPost_ret (res_cell_tmp isAnsU rfl rfl (HSN.out.fin _ _ _ _ _).2.2 rfl) rfl ?_
        exact FIN.out _ ⟨EE, 5, ET, NM, []⟩ σ' A3 HST.out (HSN.out.fin _ _ _ _ _).1 (HSN.out.fin _ _ _ _ _).2.1
      · have g5 : ((EK : Int) == 5) = false := by rw [beq_eq_false_iff_ne]; omega
        go_wp2_with fail
        refine (HEVN.out _ HS6.out.rep).mono ?_
        rintro e' w8 ⟨rfl, F8⟩
        have HSN : Hid (HeS w A ⟨⟨ct, cn, cs⟩, ⟨dt, dn, ds⟩⟩ ⟨4, oa, ob, oc, os, ot⟩ σ' w8 A3) := HS6.out.fresh F8
        have HB8 : Hid (Has w8 w3.heap.size #[.int .i64 EE, .int .i64 EK, .int .i64 ET, sv NM, sv []] 41) := HB6.out.fr F8 (fun x => x)
        clear F8 HS6 HB6 q0 q1 q2 q3 q4 ql s0 s1 s2 r0 r1 r2 r3 r4 r5 p0 p1 p2 p3 p4 p5 a0 a1 a2 a3 a4 z0 z1 z2 z3 z4 l3 l4 l5 l6
        obtain ⟨s0, s1, s2, r0, r1, r2, r3, r4, r5, p0, p1, p2, p3, p4, p5, a0, a1, a2, a3, a4, z0, z1, z2, z3, z4, l3, l4, l5, l6⟩ := HSN.out.c
        dsimp only at r0 r1 r2 r3 r4 r5 p0 p1 p2 p3 p4 p5
        have q0 : w8.cell? ⟨w3.heap.size, 0, none⟩ = some (.int .i64 EE) := HB8.out.cell 0
        have q1 : w8.cell? ⟨w3.heap.size, 1, none⟩ = some (.int .i64 EK) := HB8.out.cell 1
        have q2 : w8.cell? ⟨w3.heap.size, 2, none⟩ = some (.int .i64 ET) := HB8.out.cell 2
        have q3 : w8.cell? ⟨w3.heap.size, 3, none⟩ = some (sv NM) := HB8.out.cell 3
        have q4 : w8.cell? ⟨w3.heap.size, 4, none⟩ = some (sv []) := HB8.out.cell 4
        have ql := HB8.out.lt
        go_wp2_with fail
        refine bodyPost_ret (res_cell_tmp isAnsU rfl rfl (HSN.out.fin _ _ _ _ _).2.2 rfl) rfl ?_
        exact FIN.out _ ⟨EE, EK, ET, NM, []⟩ σ' A3 HST.out (HSN.out.fin _ _ _ _ _).1 (HSN.out.fin _ _ _ _ _).2.1
end
end Go.Proofs.Qxb6500579aGreat
