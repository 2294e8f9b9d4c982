/-
  THE WALKS of compm: apply: builtins.
-/
import Derived.Test.Qxb6500574aGreatDoorZC28
namespace Go.Proofs.Qxb6500574aGreatDoor
open Go Go.RowKit
set_option linter.unusedVariables false
set_option linter.unusedSimpArgs false
section
variable {w W W1 : World} {A A1 A2 : RnP} {N : List Nd} {root : Nat} {m R : MD} {bA bF xb ba bb bp bq x : Nat} {fn p q : Vl} {args : List Vl} {a : Act}
set_option maxRecDepth 100000
set_option maxHeartbeats 2000000
theorem ap_b2 (P : ApC w A N root W A1 m bA bF xb ba bb bp bq fn args) (K : ApOk N m fn args) (H : FrAq (.pointer (some ⟨A.br, 0, none⟩)) (.pointer (some ⟨xb, 0, none⟩)) (.pointer (some ⟨bA, 0, none⟩)) (.pointer (some ⟨bF, 0, none⟩)) (.pointer (some ⟨ba, 0, none⟩)) (.pointer (some ⟨bb, 0, none⟩)) (.pointer (some ⟨bp, 0, none⟩)) (.pointer (some ⟨bq, 0, none⟩)) a) (hn : fn.n = 2) :
    (apB Tryz.f126.body).wp Tryz.prog (bodyPost Tryz.prog Tryz.f126 (PQm w A N root (m.push [strV (textV (args.getD 0 nilV)), nilV]))) a W := by
  obtain ⟨u, rfl⟩ := H.form
  obtain ⟨Q, HQ⟩ : ∃ Q : Ending → World → Prop, Hid (PQm w A N root (m.push [strV (textV (args.getD 0 nilV)), nilV]) = Q) := ⟨_, rfl⟩
  rw [HQ.out]
  have f1 := P.LF.h.cell 1
  have lf := P.LF.h.lt
  simp only [vlC, List.getElem?_toArray, List.getElem?_cons_zero, List.getElem?_cons_succ] at f1
  rw [hn] at f1
  have f1 : W.cell? ⟨bF, 1, none⟩ = some (.int .u64 2) := f1
  have va : VM m (args.getD 0 nilV) := vk_getD K.arV 0
  have vb : VM m (args.getD 1 nilV) := vk_getD K.arV 1
  have nb := va.big K.u.t12 K.u.c24 K.u.h5
  obtain ⟨⟨at', an, axs⟩, HA⟩ : ∃ v, Hid (args.getD 0 nilV = v) := ⟨_, rfl⟩
  obtain ⟨⟨bt, bn, bxs⟩, HBB⟩ : ∃ v, Hid (args.getD 1 nilV = v) := ⟨_, rfl⟩
  have La := P.La
  have Lb := P.Lb
  rw [HA.out] at va La nb
  rw [HBB.out] at vb Lb
  try rw [HA.out] at HQ
  try rw [HBB.out] at HQ
  dsimp only at nb
  obtain ⟨p0, p1, p2, p3, p4, p5, lp⟩ := P.d.pc
  obtain ⟨q0, q1, q2, q3, q4, q5, lq⟩ := P.d.qc
  have HVL : Hid (m.th.vals.length ≤ 900000) := K.vl
  have a0 := La.h.cell 0
  have a1 := La.h.cell 1
  have a2 := La.h.cell 2
  have b0 := Lb.h.cell 0
  have b1 := Lb.h.cell 1
  have b2 := Lb.h.cell 2
  have la := La.h.lt
  have lb := Lb.h.lt
  simp only [vlC, List.getElem?_toArray, List.getElem?_cons_succ, List.getElem?_cons_zero] at a0 a1 a2 b0 b1 b2
  dsimp only [nilV] at p0 p1 p2 q0 q1 q2
  obtain ⟨cc0, cc1, lcc⟩ := P.B.c0
  have HP := hid P
  have HK := hid K
  have HVA := hid va
  have HVB := hid vb
  have HLa := hid La
  have HLb := hid Lb
  clear P K H va vb La Lb
  have HEND : Hid (∀ (a : Act) (W' : World) (A' : RnP), ApD w A N root W' A' (m) bp bq (strV (textV ⟨at', an, axs⟩)) nilV → FrAe (.pointer (some ⟨A.br, 0, none⟩)) (.pointer (some ⟨bp, 0, none⟩)) (.pointer (some ⟨bq, 0, none⟩)) a → (apE Tryz.f126.body).wp Tryz.prog (bodyPost Tryz.prog Tryz.f126 Q) a W') := fun a W' A' D H => by
    rw [← HQ.out]
    exact ap_end D (by have := HVL.out; exact this) H
  obtain ⟨TL, HTL⟩ : ∃ TL, Hid (apE Tryz.f126.body = TL) := ⟨_, rfl⟩
  have EQ : apB Tryz.f126.body = Code.seq (cL (apB Tryz.f126.body)) (apE Tryz.f126.body) := by kernel_rfl
  rw [HTL.out] at EQ HEND
  rw [EQ]
  obtain ⟨c, hc⟩ : ∃ c, c = cL (apB Tryz.f126.body) := ⟨_, rfl⟩
  rw [← hc]
  clear EQ HTL
  simp only [apB, apT, cR, cL, Tryz.f126, Option.getD_some] at hc
  subst hc
  have TA : Hid (∀ W2, Calls Tryz.prog 199 #[.pointer (some ⟨A.bn, 0, none⟩), .agg #[.int .i64 at', .int .u64 an, sv axs]] W2 fun e w' => e = .returned (sv (textV ⟨at', an, axs⟩)) ∧ Fr (fun _ => False) W2 w') := fun W2 => mtext_m ⟨at', an, axs⟩ HVA.out.w nb
  obtain ⟨tx, HTX⟩ : ∃ tx, Hid (textV ⟨at', an, axs⟩ = tx) := ⟨_, rfl⟩
  rw [HTX.out] at TA HEND
  go_wp2_with fail
  refine wp_region_tail 5 (by kernel_rfl) (by kernel_rfl) (fun _ _ _ _ _ h => h) ?_
  simp only [List.take_succ_cons, List.take_zero, List.drop_succ_cons, List.drop_zero]
  repeat go_big_quiet_step (fail)
  refine wpQuiet_nil ?_
  go_wp2_with fail
  refine (TA.out _).mono ?_
  rintro e1 w1 ⟨rfl, G1⟩
  have D1 := HP.out.d.fr (((Fr.refl _ _).drew).trans G1 (fun _ _ x => x))
  have HD := hid D1
  clear p0 p1 p2 p3 p4 p5 lp
  obtain ⟨p0, p1, p2, p3, p4, p5, lp⟩ := D1.pc
  dsimp only [nilV] at p0 p1 p2
  clear D1 G1
  go_wp2_with fail
  exact HEND.out _ _ _ (HD.out.setP (strV tx)) ⟨by kernel_rfl, by kernel_rfl, by kernel_rfl, by kernel_rfl, rfl⟩
theorem ap_b4 (P : ApC w A N root W A1 m bA bF xb ba bb bp bq fn args) (K : ApOk N m fn args) (H : FrAq (.pointer (some ⟨A.br, 0, none⟩)) (.pointer (some ⟨xb, 0, none⟩)) (.pointer (some ⟨bA, 0, none⟩)) (.pointer (some ⟨bF, 0, none⟩)) (.pointer (some ⟨ba, 0, none⟩)) (.pointer (some ⟨bb, 0, none⟩)) (.pointer (some ⟨bp, 0, none⟩)) (.pointer (some ⟨bq, 0, none⟩)) a) (hn : fn.n = 4) :
    (apB Tryz.f126.body).wp Tryz.prog (bodyPost Tryz.prog Tryz.f126 (PQm w A N root (m.push [strV (typeN (args.getD 0 nilV)), nilV]))) a W := by
  obtain ⟨u, rfl⟩ := H.form
  obtain ⟨Q, HQ⟩ : ∃ Q : Ending → World → Prop, Hid (PQm w A N root (m.push [strV (typeN (args.getD 0 nilV)), nilV]) = Q) := ⟨_, rfl⟩
  rw [HQ.out]
  have f1 := P.LF.h.cell 1
  have lf := P.LF.h.lt
  simp only [vlC, List.getElem?_toArray, List.getElem?_cons_zero, List.getElem?_cons_succ] at f1
  rw [hn] at f1
  have f1 : W.cell? ⟨bF, 1, none⟩ = some (.int .u64 4) := f1
  have va : VM m (args.getD 0 nilV) := vk_getD K.arV 0
  have vb : VM m (args.getD 1 nilV) := vk_getD K.arV 1
  have nb := va.big K.u.t12 K.u.c24 K.u.h5
  obtain ⟨⟨at', an, axs⟩, HA⟩ : ∃ v, Hid (args.getD 0 nilV = v) := ⟨_, rfl⟩
  obtain ⟨⟨bt, bn, bxs⟩, HBB⟩ : ∃ v, Hid (args.getD 1 nilV = v) := ⟨_, rfl⟩
  have La := P.La
  have Lb := P.Lb
  rw [HA.out] at va La nb
  rw [HBB.out] at vb Lb
  try rw [HA.out] at HQ
  try rw [HBB.out] at HQ
  dsimp only at nb
  obtain ⟨p0, p1, p2, p3, p4, p5, lp⟩ := P.d.pc
  obtain ⟨q0, q1, q2, q3, q4, q5, lq⟩ := P.d.qc
  have HVL : Hid (m.th.vals.length ≤ 900000) := K.vl
  have a0 := La.h.cell 0
  have a1 := La.h.cell 1
  have a2 := La.h.cell 2
  have b0 := Lb.h.cell 0
  have b1 := Lb.h.cell 1
  have b2 := Lb.h.cell 2
  have la := La.h.lt
  have lb := Lb.h.lt
  simp only [vlC, List.getElem?_toArray, List.getElem?_cons_succ, List.getElem?_cons_zero] at a0 a1 a2 b0 b1 b2
  dsimp only [nilV] at p0 p1 p2 q0 q1 q2
  obtain ⟨cc0, cc1, lcc⟩ := P.B.c0
  have HP := hid P
  have HK := hid K
  have HVA := hid va
  have HVB := hid vb
  have HLa := hid La
  have HLb := hid Lb
  clear P K H va vb La Lb
  have HEND : Hid (∀ (a : Act) (W' : World) (A' : RnP), ApD w A N root W' A' (m) bp bq (strV (typeN ⟨at', an, axs⟩)) nilV → FrAe (.pointer (some ⟨A.br, 0, none⟩)) (.pointer (some ⟨bp, 0, none⟩)) (.pointer (some ⟨bq, 0, none⟩)) a → (apE Tryz.f126.body).wp Tryz.prog (bodyPost Tryz.prog Tryz.f126 Q) a W') := fun a W' A' D H => by
    rw [← HQ.out]
    exact ap_end D (by have := HVL.out; exact this) H
  obtain ⟨TL, HTL⟩ : ∃ TL, Hid (apE Tryz.f126.body = TL) := ⟨_, rfl⟩
  have EQ : apB Tryz.f126.body = Code.seq (cL (apB Tryz.f126.body)) (apE Tryz.f126.body) := by kernel_rfl
  rw [HTL.out] at EQ HEND
  rw [EQ]
  obtain ⟨c, hc⟩ : ∃ c, c = cL (apB Tryz.f126.body) := ⟨_, rfl⟩
  rw [← hc]
  clear EQ HTL
  simp only [apB, apT, cR, cL, Tryz.f126, Option.getD_some] at hc
  subst hc
  have TA : Hid (∀ W2, Calls Tryz.prog 200 #[.agg #[.int .i64 at', .int .u64 an, sv axs]] W2 fun e w' => e = .returned (sv (typeN ⟨at', an, axs⟩)) ∧ Fr (fun _ => False) W2 w') := fun W2 => typeName_any ⟨at', an, axs⟩
  obtain ⟨tx, HTX⟩ : ∃ tx, Hid (typeN ⟨at', an, axs⟩ = tx) := ⟨_, rfl⟩
  rw [HTX.out] at TA HEND
  go_wp2_with fail
  refine (TA.out _).mono ?_
  rintro e1 w1 ⟨rfl, G1⟩
  have D1 := HP.out.d.fr G1
  have HD := hid D1
  clear p0 p1 p2 p3 p4 p5 lp
  obtain ⟨p0, p1, p2, p3, p4, p5, lp⟩ := D1.pc
  dsimp only [nilV] at p0 p1 p2
  clear D1 G1
  go_wp2_with fail
  exact HEND.out _ _ _ (HD.out.setP (strV tx)) ⟨by kernel_rfl, by kernel_rfl, by kernel_rfl, by kernel_rfl, rfl⟩
theorem ap_b5 (P : ApC w A N root W A1 m bA bF xb ba bb bp bq fn args) (K : ApOk N m fn args) (H : FrAq (.pointer (some ⟨A.br, 0, none⟩)) (.pointer (some ⟨xb, 0, none⟩)) (.pointer (some ⟨bA, 0, none⟩)) (.pointer (some ⟨bF, 0, none⟩)) (.pointer (some ⟨ba, 0, none⟩)) (.pointer (some ⟨bb, 0, none⟩)) (.pointer (some ⟨bp, 0, none⟩)) (.pointer (some ⟨bq, 0, none⟩)) a) (hn : fn.n = 5) :
    (apB Tryz.f126.body).wp Tryz.prog (bodyPost Tryz.prog Tryz.f126 (PQm w A N root (m.throw (args.getD 0 nilV)))) a W := by
  obtain ⟨u, rfl⟩ := H.form
  obtain ⟨Q, HQ⟩ : ∃ Q : Ending → World → Prop, Hid (PQm w A N root (m.throw (args.getD 0 nilV)) = Q) := ⟨_, rfl⟩
  rw [HQ.out]
  have f1 := P.LF.h.cell 1
  have lf := P.LF.h.lt
  simp only [vlC, List.getElem?_toArray, List.getElem?_cons_zero, List.getElem?_cons_succ] at f1
  rw [hn] at f1
  have f1 : W.cell? ⟨bF, 1, none⟩ = some (.int .u64 5) := f1
  have va : VM m (args.getD 0 nilV) := vk_getD K.arV 0
  have vb : VM m (args.getD 1 nilV) := vk_getD K.arV 1
  have nb := va.big K.u.t12 K.u.c24 K.u.h5
  obtain ⟨⟨at', an, axs⟩, HA⟩ : ∃ v, Hid (args.getD 0 nilV = v) := ⟨_, rfl⟩
  obtain ⟨⟨bt, bn, bxs⟩, HBB⟩ : ∃ v, Hid (args.getD 1 nilV = v) := ⟨_, rfl⟩
  have La := P.La
  have Lb := P.Lb
  rw [HA.out] at va La nb
  rw [HBB.out] at vb Lb
  try rw [HA.out] at HQ
  try rw [HBB.out] at HQ
  dsimp only at nb
  obtain ⟨p0, p1, p2, p3, p4, p5, lp⟩ := P.d.pc
  obtain ⟨q0, q1, q2, q3, q4, q5, lq⟩ := P.d.qc
  have HVL : Hid (m.th.vals.length ≤ 900000) := K.vl
  have a0 := La.h.cell 0
  have a1 := La.h.cell 1
  have a2 := La.h.cell 2
  have b0 := Lb.h.cell 0
  have b1 := Lb.h.cell 1
  have b2 := Lb.h.cell 2
  have la := La.h.lt
  have lb := Lb.h.lt
  simp only [vlC, List.getElem?_toArray, List.getElem?_cons_succ, List.getElem?_cons_zero] at a0 a1 a2 b0 b1 b2
  dsimp only [nilV] at p0 p1 p2 q0 q1 q2
  obtain ⟨cc0, cc1, lcc⟩ := P.B.c0
  have HP := hid P
  have HK := hid K
  have HVA := hid va
  have HVB := hid vb
  have HLa := hid La
  have HLb := hid Lb
  clear P K H va vb La Lb
  obtain ⟨c, hc⟩ : ∃ c, c = apB Tryz.f126.body := ⟨_, rfl⟩
  rw [← hc]
  simp only [apB, apT, cR, Tryz.f126, Option.getD_some] at hc
  subst hc
  have C : Hid (Calls Tryz.prog 191 #[.pointer (some ⟨A.br, 0, none⟩), .agg #[.int .i64 at', .int .u64 an, sv axs]] W (PQm w A N root (m.throw ⟨at', an, axs⟩))) := HP.out.B.throw HK.out.thr ⟨at', an, axs⟩ HVA.out.w HVA.out.n
  go_wp2_with fail
  refine C.out.mono ?_
  intro e3 w3 hq
  obtain rfl := hq.1
  have FIN : Hid (Q (.returned (.tuple #[])) w3) := by
    show Q _ _
    rw [← HQ.out]
    exact hq
  clear hq
  go_wp2
  refine bodyPost_ret (results_none rfl _ _ _) rfl ?_
  exact FIN.out
theorem ap_b3a (P : ApC w A N root W A1 m bA bF xb ba bb bp bq fn args) (K : ApOk N m fn args) (H : FrAq (.pointer (some ⟨A.br, 0, none⟩)) (.pointer (some ⟨xb, 0, none⟩)) (.pointer (some ⟨bA, 0, none⟩)) (.pointer (some ⟨bF, 0, none⟩)) (.pointer (some ⟨ba, 0, none⟩)) (.pointer (some ⟨bb, 0, none⟩)) (.pointer (some ⟨bp, 0, none⟩)) (.pointer (some ⟨bq, 0, none⟩)) a) (hn : fn.n = 3) (ht : (args.getD 0 nilV).t = 2) :
    (apB Tryz.f126.body).wp Tryz.prog (bodyPost Tryz.prog Tryz.f126 (PQm w A N root (m.push [(args.getD 0 nilV), nilV]))) a W := by
  obtain ⟨u, rfl⟩ := H.form
  obtain ⟨Q, HQ⟩ : ∃ Q : Ending → World → Prop, Hid (PQm w A N root (m.push [(args.getD 0 nilV), nilV]) = Q) := ⟨_, rfl⟩
  rw [HQ.out]
  have f1 := P.LF.h.cell 1
  have lf := P.LF.h.lt
  simp only [vlC, List.getElem?_toArray, List.getElem?_cons_zero, List.getElem?_cons_succ] at f1
  rw [hn] at f1
  have f1 : W.cell? ⟨bF, 1, none⟩ = some (.int .u64 3) := f1
  have va : VM m (args.getD 0 nilV) := vk_getD K.arV 0
  have vb : VM m (args.getD 1 nilV) := vk_getD K.arV 1
  have nb := va.big K.u.t12 K.u.c24 K.u.h5
  obtain ⟨⟨at', an, axs⟩, HA⟩ : ∃ v, Hid (args.getD 0 nilV = v) := ⟨_, rfl⟩
  obtain ⟨⟨bt, bn, bxs⟩, HBB⟩ : ∃ v, Hid (args.getD 1 nilV = v) := ⟨_, rfl⟩
  have La := P.La
  have Lb := P.Lb
  rw [HA.out] at va La nb ht
  rw [HBB.out] at vb Lb
  try rw [HA.out] at HQ
  try rw [HBB.out] at HQ
  dsimp only at nb ht
  obtain ⟨p0, p1, p2, p3, p4, p5, lp⟩ := P.d.pc
  obtain ⟨q0, q1, q2, q3, q4, q5, lq⟩ := P.d.qc
  have HVL : Hid (m.th.vals.length ≤ 900000) := K.vl
  have a0 := La.h.cell 0
  have a1 := La.h.cell 1
  have a2 := La.h.cell 2
  have b0 := Lb.h.cell 0
  have b1 := Lb.h.cell 1
  have b2 := Lb.h.cell 2
  have la := La.h.lt
  have lb := Lb.h.lt
  simp only [vlC, List.getElem?_toArray, List.getElem?_cons_succ, List.getElem?_cons_zero] at a0 a1 a2 b0 b1 b2
  dsimp only [nilV] at p0 p1 p2 q0 q1 q2
  obtain ⟨cc0, cc1, lcc⟩ := P.B.c0
  have HP := hid P
  have HK := hid K
  have HVA := hid va
  have HVB := hid vb
  have HLa := hid La
  have HLb := hid Lb
  subst ht
  clear P K H va vb La Lb
  have HEND : Hid (∀ (a : Act) (W' : World) (A' : RnP), ApD w A N root W' A' (m) bp bq ⟨2, an, axs⟩ nilV → FrAe (.pointer (some ⟨A.br, 0, none⟩)) (.pointer (some ⟨bp, 0, none⟩)) (.pointer (some ⟨bq, 0, none⟩)) a → (apE Tryz.f126.body).wp Tryz.prog (bodyPost Tryz.prog Tryz.f126 Q) a W') := fun a W' A' D H => by
    rw [← HQ.out]
    exact ap_end D (by have := HVL.out; exact this) H
  obtain ⟨TL, HTL⟩ : ∃ TL, Hid (apE Tryz.f126.body = TL) := ⟨_, rfl⟩
  have EQ : apB Tryz.f126.body = Code.seq (cL (apB Tryz.f126.body)) (apE Tryz.f126.body) := by kernel_rfl
  rw [HTL.out] at EQ HEND
  rw [EQ]
  obtain ⟨c, hc⟩ : ∃ c, c = cL (apB Tryz.f126.body) := ⟨_, rfl⟩
  rw [← hc]
  clear EQ HTL
  simp only [apB, apT, cR, cL, Tryz.f126, Option.getD_some] at hc
  subst hc
  go_wp2_with fail
  exact HEND.out _ _ _ (HP.out.d.setP ⟨2, an, axs⟩) ⟨by kernel_rfl, by kernel_rfl, by kernel_rfl, by kernel_rfl, rfl⟩
theorem ap_b3b (P : ApC w A N root W A1 m bA bF xb ba bb bp bq fn args) (K : ApOk N m fn args) (H : FrAq (.pointer (some ⟨A.br, 0, none⟩)) (.pointer (some ⟨xb, 0, none⟩)) (.pointer (some ⟨bA, 0, none⟩)) (.pointer (some ⟨bF, 0, none⟩)) (.pointer (some ⟨ba, 0, none⟩)) (.pointer (some ⟨bb, 0, none⟩)) (.pointer (some ⟨bp, 0, none⟩)) (.pointer (some ⟨bq, 0, none⟩)) a) (hn : fn.n = 3) (ht : (args.getD 0 nilV).t ≠ 2) (ht3 : (args.getD 0 nilV).t ≠ 3) :
    (apB Tryz.f126.body).wp Tryz.prog (bodyPost Tryz.prog Tryz.f126 (PQm w A N root (m.push [nilV, nilV]))) a W := by
  obtain ⟨u, rfl⟩ := H.form
  obtain ⟨Q, HQ⟩ : ∃ Q : Ending → World → Prop, Hid (PQm w A N root (m.push [nilV, nilV]) = Q) := ⟨_, rfl⟩
  rw [HQ.out]
  have f1 := P.LF.h.cell 1
  have lf := P.LF.h.lt
  simp only [vlC, List.getElem?_toArray, List.getElem?_cons_zero, List.getElem?_cons_succ] at f1
  rw [hn] at f1
  have f1 : W.cell? ⟨bF, 1, none⟩ = some (.int .u64 3) := f1
  have va : VM m (args.getD 0 nilV) := vk_getD K.arV 0
  have vb : VM m (args.getD 1 nilV) := vk_getD K.arV 1
  have nb := va.big K.u.t12 K.u.c24 K.u.h5
  obtain ⟨⟨at', an, axs⟩, HA⟩ : ∃ v, Hid (args.getD 0 nilV = v) := ⟨_, rfl⟩
  obtain ⟨⟨bt, bn, bxs⟩, HBB⟩ : ∃ v, Hid (args.getD 1 nilV = v) := ⟨_, rfl⟩
  have La := P.La
  have Lb := P.Lb
  rw [HA.out] at va La nb ht ht3
  rw [HBB.out] at vb Lb
  try rw [HA.out] at HQ
  try rw [HBB.out] at HQ
  dsimp only at nb ht ht3
  obtain ⟨p0, p1, p2, p3, p4, p5, lp⟩ := P.d.pc
  obtain ⟨q0, q1, q2, q3, q4, q5, lq⟩ := P.d.qc
  have HVL : Hid (m.th.vals.length ≤ 900000) := K.vl
  have a0 := La.h.cell 0
  have a1 := La.h.cell 1
  have a2 := La.h.cell 2
  have b0 := Lb.h.cell 0
  have b1 := Lb.h.cell 1
  have b2 := Lb.h.cell 2
  have la := La.h.lt
  have lb := Lb.h.lt
  simp only [vlC, List.getElem?_toArray, List.getElem?_cons_succ, List.getElem?_cons_zero] at a0 a1 a2 b0 b1 b2
  dsimp only [nilV] at p0 p1 p2 q0 q1 q2
  obtain ⟨cc0, cc1, lcc⟩ := P.B.c0
  have HP := hid P
  have HK := hid K
  have HVA := hid va
  have HVB := hid vb
  have HLa := hid La
  have HLb := hid Lb
  clear P K H va vb La Lb
  have HEND : Hid (∀ (a : Act) (W' : World) (A' : RnP), ApD w A N root W' A' (m) bp bq nilV nilV → FrAe (.pointer (some ⟨A.br, 0, none⟩)) (.pointer (some ⟨bp, 0, none⟩)) (.pointer (some ⟨bq, 0, none⟩)) a → (apE Tryz.f126.body).wp Tryz.prog (bodyPost Tryz.prog Tryz.f126 Q) a W') := fun a W' A' D H => by
    rw [← HQ.out]
    exact ap_end D (by have := HVL.out; exact this) H
  obtain ⟨TL, HTL⟩ : ∃ TL, Hid (apE Tryz.f126.body = TL) := ⟨_, rfl⟩
  have EQ : apB Tryz.f126.body = Code.seq (cL (apB Tryz.f126.body)) (apE Tryz.f126.body) := by kernel_rfl
  rw [HTL.out] at EQ HEND
  rw [EQ]
  obtain ⟨c, hc⟩ : ∃ c, c = cL (apB Tryz.f126.body) := ⟨_, rfl⟩
  rw [← hc]
  clear EQ HTL
  simp only [apB, apT, cR, cL, Tryz.f126, Option.getD_some] at hc
  subst hc
  have e2 : (at' == 2) = false := by rw [beq_eq_false_iff_ne]; exact ht
  have e3 : (at' == 3) = false := by rw [beq_eq_false_iff_ne]; exact ht3
  go_wp2_with fail
  exact HEND.out _ _ _ (HP.out.d) ⟨by kernel_rfl, by kernel_rfl, by kernel_rfl, by kernel_rfl, rfl⟩
theorem ap_b3c (P : ApC w A N root W A1 m bA bF xb ba bb bp bq fn args) (K : ApOk N m fn args) (H : FrAq (.pointer (some ⟨A.br, 0, none⟩)) (.pointer (some ⟨xb, 0, none⟩)) (.pointer (some ⟨bA, 0, none⟩)) (.pointer (some ⟨bF, 0, none⟩)) (.pointer (some ⟨ba, 0, none⟩)) (.pointer (some ⟨bb, 0, none⟩)) (.pointer (some ⟨bp, 0, none⟩)) (.pointer (some ⟨bq, 0, none⟩)) a) (hn : fn.n = 3) (ht : (args.getD 0 nilV).t = 3) {z : Nat} (hp : parseN (args.getD 0 nilV).s = some z) :
    (apB Tryz.f126.body).wp Tryz.prog (bodyPost Tryz.prog Tryz.f126 (PQm w A N root (m.push [numV z, nilV]))) a W := by
  obtain ⟨u, rfl⟩ := H.form
  obtain ⟨Q, HQ⟩ : ∃ Q : Ending → World → Prop, Hid (PQm w A N root (m.push [numV z, nilV]) = Q) := ⟨_, rfl⟩
  rw [HQ.out]
  have f1 := P.LF.h.cell 1
  have lf := P.LF.h.lt
  simp only [vlC, List.getElem?_toArray, List.getElem?_cons_zero, List.getElem?_cons_succ] at f1
  rw [hn] at f1
  have f1 : W.cell? ⟨bF, 1, none⟩ = some (.int .u64 3) := f1
  have va : VM m (args.getD 0 nilV) := vk_getD K.arV 0
  have vb : VM m (args.getD 1 nilV) := vk_getD K.arV 1
  have nb := va.big K.u.t12 K.u.c24 K.u.h5
  obtain ⟨⟨at', an, axs⟩, HA⟩ : ∃ v, Hid (args.getD 0 nilV = v) := ⟨_, rfl⟩
  obtain ⟨⟨bt, bn, bxs⟩, HBB⟩ : ∃ v, Hid (args.getD 1 nilV = v) := ⟨_, rfl⟩
  have La := P.La
  have Lb := P.Lb
  rw [HA.out] at va La nb ht hp
  rw [HBB.out] at vb Lb
  try rw [HA.out] at HQ
  try rw [HBB.out] at HQ
  dsimp only at nb ht hp
  obtain ⟨p0, p1, p2, p3, p4, p5, lp⟩ := P.d.pc
  obtain ⟨q0, q1, q2, q3, q4, q5, lq⟩ := P.d.qc
  have HVL : Hid (m.th.vals.length ≤ 900000) := K.vl
  have a0 := La.h.cell 0
  have a1 := La.h.cell 1
  have a2 := La.h.cell 2
  have b0 := Lb.h.cell 0
  have b1 := Lb.h.cell 1
  have b2 := Lb.h.cell 2
  have la := La.h.lt
  have lb := Lb.h.lt
  simp only [vlC, List.getElem?_toArray, List.getElem?_cons_succ, List.getElem?_cons_zero] at a0 a1 a2 b0 b1 b2
  dsimp only [nilV] at p0 p1 p2 q0 q1 q2
  obtain ⟨cc0, cc1, lcc⟩ := P.B.c0
  have HP := hid P
  have HK := hid K
  have HVA := hid va
  have HVB := hid vb
  have HLa := hid La
  have HLb := hid Lb
  subst ht
  have ls : axs.length ≤ 40 := by
    have w := va.w
    unfold wellV at w
    simp at w
    exact w.2
  clear P K H va vb La Lb
  have HEND : Hid (∀ (a : Act) (W' : World) (A' : RnP), ApD w A N root W' A' (m) bp bq (numV z) nilV → FrAe (.pointer (some ⟨A.br, 0, none⟩)) (.pointer (some ⟨bp, 0, none⟩)) (.pointer (some ⟨bq, 0, none⟩)) a → (apE Tryz.f126.body).wp Tryz.prog (bodyPost Tryz.prog Tryz.f126 Q) a W') := fun a W' A' D H => by
    rw [← HQ.out]
    exact ap_end D (by have := HVL.out; exact this) H
  obtain ⟨TL, HTL⟩ : ∃ TL, Hid (apE Tryz.f126.body = TL) := ⟨_, rfl⟩
  have EQ : apB Tryz.f126.body = Code.seq (cL (apB Tryz.f126.body)) (apE Tryz.f126.body) := by kernel_rfl
  rw [HTL.out] at EQ HEND
  rw [EQ]
  obtain ⟨c, hc⟩ : ∃ c, c = cL (apB Tryz.f126.body) := ⟨_, rfl⟩
  rw [← hc]
  clear EQ HTL
  simp only [apB, apT, cR, cL, Tryz.f126, Option.getD_some] at hc
  subst hc
  have TA : Hid (∀ W2, Calls Tryz.prog 183 #[.pointer (some ⟨A.bn, 0, none⟩), sv axs] W2 (ParsePost (parseM axs) W2)) := fun W2 => parse_m (by have := ls; omega)
  rw [← parse_okM] at TA
  rw [hp] at TA
  clear hp ls
  have k1 := fun z : WS W => z.f.cell cc0
  have k2 := fun z : WS W => z.f.cell a2
  have NE := WS.non W
  go_wp2_with fail
  refine wp_region_plan [0, 1, 2, 3, 4, 5] (.one 6 (.quiet [7, 8, 9] .done)) 10 (fun x => ∃ s : WS W, x = s.y) (by kernel_rfl) (by kernel_rfl) (fun _ _ _ _ _ h => h) ⟨⟨W.drew, (Fr.refl _ _).drew⟩, rfl⟩ [_, _, _, _, _, _] rfl _ rfl ?_
  simp only [List.getElem_toArray, List.getElem_cons_succ, List.getElem_cons_zero, List.drop_succ_cons, List.drop_zero, List.length_cons, List.length_nil, Nat.zero_add]
  repeat go_big_quiet_step (fail)
  refine wpQuiet_nil ?_
  refine ⟨fun a' a W2 =>  a = ((((a'.put (some 134) (.tuple #[.int .u64 z, .int .i64 0])).put (some 127) (.tuple #[.int .u64 z, .int .i64 0])).put (some 135) (.int .u64 z)).put (some 136) (.int .i64 0)) ∧ Fr (fun _ => False) W W2, ?_, ?_⟩
  · rintro a W2 hSW ⟨rfl, f4⟩
    clear hSW NE k1 k2
    have D1 := HP.out.d.fr f4
    have HD := hid D1
    have HF4 := hid f4
    clear p0 p1 p2 p3 p4 p5 lp
    obtain ⟨p0, p1, p2, p3, p4, p5, lp⟩ := D1.pc
    dsimp only [nilV] at p0 p1 p2
    clear D1 f4
    simp only [Act.put, List.setIfInBounds_toArray, List.set_cons_succ, List.set_cons_zero]
    unfold wpChain
    go_wp2
    refine ⟨⟨⟨_, HF4.out⟩, rfl⟩, ?_⟩
    unfold wpChain
    go_wp2
    refine ⟨⟨⟨_, HF4.out⟩, rfl⟩, ?_⟩
    rw [wpChain_zero]
    go_wp2_with fail
    exact HEND.out _ _ _ (HD.out.setP (numV z)) ⟨by kernel_rfl, by kernel_rfl, by kernel_rfl, by kernel_rfl, rfl⟩
  · intro G HG
    refine ⟨_, rfl, ?_⟩
    go_wp2_with fail
    refine (TA.out _).mono ?_
    rintro e1 w1 ⟨rfl, G1⟩
    have f6 : Fr (fun _ => False) W w1 := ((Fr.refl _ W).drew).trans G1 (fun _ _ x => x)
    clear G1
    go_wp2_with fail
    refine ⟨⟨⟨_, f6⟩, rfl⟩, [_, _, _], rfl, ?_⟩
    simp only [List.getElem_toArray, List.getElem_cons_succ, List.getElem_cons_zero]
    repeat go_big_quiet_step (fail)
    refine wpQuiet_nil ?_
    show G _ _
    rw [HG.out]
    exact ⟨by kernel_rfl, f6⟩
theorem ap_b3d (P : ApC w A N root W A1 m bA bF xb ba bb bp bq fn args) (K : ApOk N m fn args) (H : FrAq (.pointer (some ⟨A.br, 0, none⟩)) (.pointer (some ⟨xb, 0, none⟩)) (.pointer (some ⟨bA, 0, none⟩)) (.pointer (some ⟨bF, 0, none⟩)) (.pointer (some ⟨ba, 0, none⟩)) (.pointer (some ⟨bb, 0, none⟩)) (.pointer (some ⟨bp, 0, none⟩)) (.pointer (some ⟨bq, 0, none⟩)) a) (hn : fn.n = 3) (ht : (args.getD 0 nilV).t = 3) (hp : parseN (args.getD 0 nilV).s = none) :
    (apB Tryz.f126.body).wp Tryz.prog (bodyPost Tryz.prog Tryz.f126 (PQm w A N root (m.push [nilV, nilV]))) a W := by
  obtain ⟨u, rfl⟩ := H.form
  obtain ⟨Q, HQ⟩ : ∃ Q : Ending → World → Prop, Hid (PQm w A N root (m.push [nilV, nilV]) = Q) := ⟨_, rfl⟩
  rw [HQ.out]
  have f1 := P.LF.h.cell 1
  have lf := P.LF.h.lt
  simp only [vlC, List.getElem?_toArray, List.getElem?_cons_zero, List.getElem?_cons_succ] at f1
  rw [hn] at f1
  have f1 : W.cell? ⟨bF, 1, none⟩ = some (.int .u64 3) := f1
  have va : VM m (args.getD 0 nilV) := vk_getD K.arV 0
  have vb : VM m (args.getD 1 nilV) := vk_getD K.arV 1
  have nb := va.big K.u.t12 K.u.c24 K.u.h5
  obtain ⟨⟨at', an, axs⟩, HA⟩ : ∃ v, Hid (args.getD 0 nilV = v) := ⟨_, rfl⟩
  obtain ⟨⟨bt, bn, bxs⟩, HBB⟩ : ∃ v, Hid (args.getD 1 nilV = v) := ⟨_, rfl⟩
  have La := P.La
  have Lb := P.Lb
  rw [HA.out] at va La nb ht hp
  rw [HBB.out] at vb Lb
  try rw [HA.out] at HQ
  try rw [HBB.out] at HQ
  dsimp only at nb ht hp
  obtain ⟨p0, p1, p2, p3, p4, p5, lp⟩ := P.d.pc
  obtain ⟨q0, q1, q2, q3, q4, q5, lq⟩ := P.d.qc
  have HVL : Hid (m.th.vals.length ≤ 900000) := K.vl
  have a0 := La.h.cell 0
  have a1 := La.h.cell 1
  have a2 := La.h.cell 2
  have b0 := Lb.h.cell 0
  have b1 := Lb.h.cell 1
  have b2 := Lb.h.cell 2
  have la := La.h.lt
  have lb := Lb.h.lt
  simp only [vlC, List.getElem?_toArray, List.getElem?_cons_succ, List.getElem?_cons_zero] at a0 a1 a2 b0 b1 b2
  dsimp only [nilV] at p0 p1 p2 q0 q1 q2
  obtain ⟨cc0, cc1, lcc⟩ := P.B.c0
  have HP := hid P
  have HK := hid K
  have HVA := hid va
  have HVB := hid vb
  have HLa := hid La
  have HLb := hid Lb
  subst ht
  have ls : axs.length ≤ 40 := by
    have w := va.w
    unfold wellV at w
    simp at w
    exact w.2
  clear P K H va vb La Lb
  have HEND : Hid (∀ (a : Act) (W' : World) (A' : RnP), ApD w A N root W' A' (m) bp bq nilV nilV → FrAe (.pointer (some ⟨A.br, 0, none⟩)) (.pointer (some ⟨bp, 0, none⟩)) (.pointer (some ⟨bq, 0, none⟩)) a → (apE Tryz.f126.body).wp Tryz.prog (bodyPost Tryz.prog Tryz.f126 Q) a W') := fun a W' A' D H => by
    rw [← HQ.out]
    exact ap_end D (by have := HVL.out; exact this) H
  obtain ⟨TL, HTL⟩ : ∃ TL, Hid (apE Tryz.f126.body = TL) := ⟨_, rfl⟩
  have EQ : apB Tryz.f126.body = Code.seq (cL (apB Tryz.f126.body)) (apE Tryz.f126.body) := by kernel_rfl
  rw [HTL.out] at EQ HEND
  rw [EQ]
  obtain ⟨c, hc⟩ : ∃ c, c = cL (apB Tryz.f126.body) := ⟨_, rfl⟩
  rw [← hc]
  clear EQ HTL
  simp only [apB, apT, cR, cL, Tryz.f126, Option.getD_some] at hc
  subst hc
  have TA : Hid (∀ W2, Calls Tryz.prog 183 #[.pointer (some ⟨A.bn, 0, none⟩), sv axs] W2 (ParsePost (parseM axs) W2)) := fun W2 => parse_m (by have := ls; omega)
  rw [← parse_okM] at TA
  rw [hp] at TA
  clear hp ls
  have k1 := fun z : WS W => z.f.cell cc0
  have k2 := fun z : WS W => z.f.cell a2
  have NE := WS.non W
  go_wp2_with fail
  refine wp_region_plan [0, 1, 2, 3, 4, 5] (.one 6 (.quiet [7, 8, 9] .done)) 10 (fun x => ∃ s : WS W, x = s.y) (by kernel_rfl) (by kernel_rfl) (fun _ _ _ _ _ h => h) ⟨⟨W.drew, (Fr.refl _ _).drew⟩, rfl⟩ [_, _, _, _, _, _] rfl _ rfl ?_
  simp only [List.getElem_toArray, List.getElem_cons_succ, List.getElem_cons_zero, List.drop_succ_cons, List.drop_zero, List.length_cons, List.length_nil, Nat.zero_add]
  repeat go_big_quiet_step (fail)
  refine wpQuiet_nil ?_
  refine ⟨fun a' a W2 => ∃ er : Nat, er ≠ 0 ∧ a = ((((a'.put (some 134) (.tuple #[.int .u64 0, .int .i64 (er : Nat)])).put (some 127) (.tuple #[.int .u64 0, .int .i64 (er : Nat)])).put (some 135) (.int .u64 0)).put (some 136) (.int .i64 (er : Nat))) ∧ Fr (fun _ => False) W W2, ?_, ?_⟩
  · rintro a W2 hSW ⟨er, he, rfl, f4⟩
    clear hSW NE k1 k2
    have D1 := HP.out.d.fr f4
    have HD := hid D1
    have HF4 := hid f4
    clear p0 p1 p2 p3 p4 p5 lp
    obtain ⟨p0, p1, p2, p3, p4, p5, lp⟩ := D1.pc
    dsimp only [nilV] at p0 p1 p2
    clear D1 f4
    simp only [Act.put, List.setIfInBounds_toArray, List.set_cons_succ, List.set_cons_zero]
    unfold wpChain
    go_wp2
    refine ⟨⟨⟨_, HF4.out⟩, rfl⟩, ?_⟩
    unfold wpChain
    go_wp2
    refine ⟨⟨⟨_, HF4.out⟩, rfl⟩, ?_⟩
    rw [wpChain_zero]
    have ez : ((er : Int) == 0) = false := by rw [beq_eq_false_iff_ne]; omega
    go_wp2_with fail
    exact HEND.out _ _ _ (HD.out) ⟨by kernel_rfl, by kernel_rfl, by kernel_rfl, by kernel_rfl, rfl⟩
  · intro G HG
    refine ⟨_, rfl, ?_⟩
    go_wp2_with fail
    refine (TA.out _).mono ?_
    rintro e1 w1 ⟨⟨er, he, rfl⟩, G1⟩
    have f6 : Fr (fun _ => False) W w1 := ((Fr.refl _ W).drew).trans G1 (fun _ _ x => x)
    clear G1
    go_wp2_with fail
    refine ⟨⟨⟨_, f6⟩, rfl⟩, [_, _, _], rfl, ?_⟩
    simp only [List.getElem_toArray, List.getElem_cons_succ, List.getElem_cons_zero]
    repeat go_big_quiet_step (fail)
    refine wpQuiet_nil ?_
    show G _ _
    rw [HG.out]
    exact ⟨er, he, by kernel_rfl, f6⟩
end
end Go.Proofs.Qxb6500574aGreatDoor
