/-
  THE WALKS of compm: apply: print, pcall, status.
-/
import Derived.Test.Qxb6500574aGreatDoorZC28
namespace Go.Proofs.Qxb6500574aGreatDoor
open Go Go.RowKit
set_option linter.unusedVariables false
set_option linter.unusedSimpArgs false
/-- a thread in memory -/
structure ThAt (W : World) (br gt tb LT cap j : Nat) (T : MTh) : Prop where
  c5 : W.cell? ⟨br, 5, none⟩ = some (.slice (some ⟨gt, 0, none⟩) LT cap)
  cg : W.cell? ⟨gt, j, none⟩ = some (.pointer (some ⟨tb, 0, none⟩))
  c0 : W.cell? ⟨tb, 0, none⟩ = some (.int .i64 T.st)
  c1 : W.cell? ⟨tb, 1, none⟩ = some (.int .i64 T.fn)
  l0 : br < W.heap.size
  l1 : gt < W.heap.size
  l2 : tb < W.heap.size
  lc : LT ≤ cap
  lj : j < LT
  l5 : LT ≤ 5
theorem RB.thAt {w W : World} {A A1 : RnP} {N : List Nd} {root : Nat} {M : MD} (B : RB w A N root W A1 M) {j : Nat} (hj : j < M.ths.length) : ∃ gt y, A1.X[j]? = some y ∧ M.ths[j]? = some (M.ths.getD j mt0) ∧ ThAt W A.br gt y.b M.ths.length A1.th.c j (M.ths.getD j mt0) := by
  have ht : M.ths[j]? = some (M.ths.getD j mt0) := by rw [List.getD_eq_getElem?_getD, List.getElem?_eq_getElem hj]; rfl
  obtain ⟨y, hy⟩ := B.r.xat ht
  have O := B.r.one _ _ _ ht hy
  obtain ⟨g, h1, h2, h3, h4, h5, h6⟩ := B.r.ths.cells (show 0 < M.ths.length by omega)
  have c5 : W.cell? ⟨A1.br, 5, none⟩ = some (.slice (some ⟨g, 0, none⟩) M.ths.length A1.th.c) := by rw [B.r.run.has.cell]; simp [rnV, h1]
  have lb := B.r.run.has.lt
  rw [B.s.br] at c5 lb
  refine ⟨g, y, hy, ht, ⟨c5, ?_, O.b.has.cell 0, O.b.has.cell 1, lb, h4, O.b.has.lt, h2, hj, B.r.l5⟩⟩
  have a := flatMap_at xtV 1 xtV_len A1.X j 0 _ hy (by omega)
  rw [Nat.mul_one, Nat.add_zero] at a
  rw [h5 j (by omega), a]
  rfl
section
variable {w W W1 : World} {A A1 A2 : RnP} {N : List Nd} {root : Nat} {m R : MD} {bA bF xb ba bb bp bq x : Nat} {fn p q : Vl} {args : List Vl} {a : Act}
set_option maxRecDepth 100000
set_option maxHeartbeats 2000000
theorem ap_b1a (P : ApC w A N root W A1 m bA bF xb ba bb bp bq fn args) (K : ApOk N m fn args) (H : FrAq (.pointer (some ⟨A.br, 0, none⟩)) (.pointer (some ⟨xb, 0, none⟩)) (.pointer (some ⟨bA, 0, none⟩)) (.pointer (some ⟨bF, 0, none⟩)) (.pointer (some ⟨ba, 0, none⟩)) (.pointer (some ⟨bb, 0, none⟩)) (.pointer (some ⟨bp, 0, none⟩)) (.pointer (some ⟨bq, 0, none⟩)) a) (hn : fn.n = 1) (hl : m.out.length + (textV (args.getD 0 nilV)).length + 1 > 200) :
    (apB Tryz.f126.body).wp Tryz.prog (bodyPost Tryz.prog Tryz.f126 (PQm w A N root (m.finish 10 [45]))) a W := by
  obtain ⟨u, rfl⟩ := H.form
  obtain ⟨Q, HQ⟩ : ∃ Q : Ending → World → Prop, Hid (PQm w A N root (m.finish 10 [45]) = Q) := ⟨_, rfl⟩
  rw [HQ.out]
  have f1 := P.LF.h.cell 1
  have lf := P.LF.h.lt
  simp only [vlC, List.getElem?_toArray, List.getElem?_cons_zero, List.getElem?_cons_succ] at f1
  rw [hn] at f1
  have f1 : W.cell? ⟨bF, 1, none⟩ = some (.int .u64 1) := f1
  have va : VM m (args.getD 0 nilV) := vk_getD K.arV 0
  have vb : VM m (args.getD 1 nilV) := vk_getD K.arV 1
  have nb := va.big K.u.t12 K.u.c24 K.u.h5
  obtain ⟨⟨at', an, axs⟩, HA⟩ : ∃ v, Hid (args.getD 0 nilV = v) := ⟨_, rfl⟩
  obtain ⟨⟨bt, bn, bxs⟩, HBB⟩ : ∃ v, Hid (args.getD 1 nilV = v) := ⟨_, rfl⟩
  have La := P.La
  have Lb := P.Lb
  rw [HA.out] at va La nb hl
  rw [HBB.out] at vb Lb
  try rw [HA.out] at HQ
  try rw [HBB.out] at HQ
  dsimp only at nb
  obtain ⟨p0, p1, p2, p3, p4, p5, lp⟩ := P.d.pc
  obtain ⟨q0, q1, q2, q3, q4, q5, lq⟩ := P.d.qc
  have HVL : Hid (m.th.vals.length ≤ 900000) := K.vl
  have a0 := La.h.cell 0
  have a1 := La.h.cell 1
  have a2 := La.h.cell 2
  have b0 := Lb.h.cell 0
  have b1 := Lb.h.cell 1
  have b2 := Lb.h.cell 2
  have la := La.h.lt
  have lb := Lb.h.lt
  simp only [vlC, List.getElem?_toArray, List.getElem?_cons_succ, List.getElem?_cons_zero] at a0 a1 a2 b0 b1 b2
  dsimp only [nilV] at p0 p1 p2 q0 q1 q2
  obtain ⟨cc0, cc1, lcc⟩ := P.B.c0
  have HP := hid P
  have HK := hid K
  have HVA := hid va
  have HVB := hid vb
  have HLa := hid La
  have HLb := hid Lb
  have c15 : W.cell? ⟨A.br, 15, none⟩ = some (sv m.out) := by rw [← P.B.s.br]; exact P.B.r.rc 15 rfl
  clear P K H va vb La Lb
  obtain ⟨c, hc⟩ : ∃ c, c = apB Tryz.f126.body := ⟨_, rfl⟩
  rw [← hc]
  simp only [apB, apT, cR, Tryz.f126, Option.getD_some] at hc
  subst hc
  have TA : Hid (∀ W2, Calls Tryz.prog 199 #[.pointer (some ⟨A.bn, 0, none⟩), .agg #[.int .i64 at', .int .u64 an, sv axs]] W2 fun e w' => e = .returned (sv (textV ⟨at', an, axs⟩)) ∧ Fr (fun _ => False) W2 w') := fun W2 => mtext_m ⟨at', an, axs⟩ HVA.out.w nb
  have ltx := HVA.out.text HK.out.u.t12 HK.out.u.c24 HK.out.u.h5
  have lou := HK.out.u.ou
  obtain ⟨tx, HTX⟩ : ∃ tx, Hid (textV ⟨at', an, axs⟩ = tx) := ⟨_, rfl⟩
  obtain ⟨ou, HOU⟩ : ∃ ou, Hid (m.out = ou) := ⟨_, rfl⟩
  rw [HTX.out] at TA ltx hl
  rw [HOU.out] at c15 lou hl
  have sza : (⟨tx.toArray⟩ : ByteArray).size = tx.length := by simp [ByteArray.size]
  have szb : (⟨ou.toArray⟩ : ByteArray).size = ou.length := by simp [ByteArray.size]
  go_wp2_with fail
  refine wp_region_tail 5 (by kernel_rfl) (by kernel_rfl) (fun _ _ _ _ _ h => h) ?_
  simp only [List.take_succ_cons, List.take_zero, List.drop_succ_cons, List.drop_zero]
  repeat go_big_quiet_step (fail)
  refine wpQuiet_nil ?_
  go_wp2_with fail
  refine (TA.out _).mono ?_
  rintro e1 w1 ⟨rfl, G1⟩
  have D1 := HP.out.d.fr (((Fr.refl _ _).drew).trans G1 (fun _ _ x => x))
  have HD := hid D1
  have c15 : w1.cell? ⟨A.br, 15, none⟩ = some (sv ou) := by rw [← HOU.out, ← D1.B.s.br]; exact D1.B.r.rc 15 rfl
  have lbr : A.br < w1.heap.size := by rw [← D1.B.s.br]; exact D1.B.r.run.has.lt
  have fbr : w1.frozen? ⟨A.br, 15, none⟩ = false := by rw [← D1.B.s.br]; exact D1.B.r.run.has.frozen 15
  clear p0 p1 p2 p3 p4 p5 lp q0 q1 q2 q3 q4 q5 lq D1 G1
  have hli : ((200 : Int) < (ou.length : Int) + (tx.length : Int) + 1) = True := by simp; omega
  have HC := hid (HD.out.B.finish 10 [45] (e' := 10) rfl)
  go_wp2_with fail
  refine HC.out.mono ?_
  rintro e3 w3 ⟨rfl, A3, B3, S3⟩
  have FIN : Hid (Q (.returned (.tuple #[])) w3) := by
    show Q _ _
    rw [← HQ.out]
    exact B3.end
  clear B3 S3
  go_wp2
  refine bodyPost_ret (results_none rfl _ _ _) rfl ?_
  exact FIN.out
theorem ap_b1b (P : ApC w A N root W A1 m bA bF xb ba bb bp bq fn args) (K : ApOk N m fn args) (H : FrAq (.pointer (some ⟨A.br, 0, none⟩)) (.pointer (some ⟨xb, 0, none⟩)) (.pointer (some ⟨bA, 0, none⟩)) (.pointer (some ⟨bF, 0, none⟩)) (.pointer (some ⟨ba, 0, none⟩)) (.pointer (some ⟨bb, 0, none⟩)) (.pointer (some ⟨bp, 0, none⟩)) (.pointer (some ⟨bq, 0, none⟩)) a) (hn : fn.n = 1) (hl : ¬ m.out.length + (textV (args.getD 0 nilV)).length + 1 > 200) :
    (apB Tryz.f126.body).wp Tryz.prog (bodyPost Tryz.prog Tryz.f126 (PQm w A N root (({ m with out := m.out ++ textV (args.getD 0 nilV) ++ [10] } : MD).push [nilV, nilV]))) a W := by
  obtain ⟨u, rfl⟩ := H.form
  obtain ⟨Q, HQ⟩ : ∃ Q : Ending → World → Prop, Hid (PQm w A N root (({ m with out := m.out ++ textV (args.getD 0 nilV) ++ [10] } : MD).push [nilV, nilV]) = Q) := ⟨_, rfl⟩
  rw [HQ.out]
  have f1 := P.LF.h.cell 1
  have lf := P.LF.h.lt
  simp only [vlC, List.getElem?_toArray, List.getElem?_cons_zero, List.getElem?_cons_succ] at f1
  rw [hn] at f1
  have f1 : W.cell? ⟨bF, 1, none⟩ = some (.int .u64 1) := f1
  have va : VM m (args.getD 0 nilV) := vk_getD K.arV 0
  have vb : VM m (args.getD 1 nilV) := vk_getD K.arV 1
  have nb := va.big K.u.t12 K.u.c24 K.u.h5
  obtain ⟨⟨at', an, axs⟩, HA⟩ : ∃ v, Hid (args.getD 0 nilV = v) := ⟨_, rfl⟩
  obtain ⟨⟨bt, bn, bxs⟩, HBB⟩ : ∃ v, Hid (args.getD 1 nilV = v) := ⟨_, rfl⟩
  have La := P.La
  have Lb := P.Lb
  rw [HA.out] at va La nb hl
  rw [HBB.out] at vb Lb
  try rw [HA.out] at HQ
  try rw [HBB.out] at HQ
  dsimp only at nb
  obtain ⟨p0, p1, p2, p3, p4, p5, lp⟩ := P.d.pc
  obtain ⟨q0, q1, q2, q3, q4, q5, lq⟩ := P.d.qc
  have HVL : Hid (m.th.vals.length ≤ 900000) := K.vl
  have a0 := La.h.cell 0
  have a1 := La.h.cell 1
  have a2 := La.h.cell 2
  have b0 := Lb.h.cell 0
  have b1 := Lb.h.cell 1
  have b2 := Lb.h.cell 2
  have la := La.h.lt
  have lb := Lb.h.lt
  simp only [vlC, List.getElem?_toArray, List.getElem?_cons_succ, List.getElem?_cons_zero] at a0 a1 a2 b0 b1 b2
  dsimp only [nilV] at p0 p1 p2 q0 q1 q2
  obtain ⟨cc0, cc1, lcc⟩ := P.B.c0
  have HP := hid P
  have HK := hid K
  have HVA := hid va
  have HVB := hid vb
  have HLa := hid La
  have HLb := hid Lb
  have c15 : W.cell? ⟨A.br, 15, none⟩ = some (sv m.out) := by rw [← P.B.s.br]; exact P.B.r.rc 15 rfl
  clear P K H va vb La Lb
  have HEND : Hid (∀ (a : Act) (W' : World) (A' : RnP), ApD w A N root W' A' (({ m with out := m.out ++ textV ⟨at', an, axs⟩ ++ [10] } : MD)) bp bq nilV nilV → FrAe (.pointer (some ⟨A.br, 0, none⟩)) (.pointer (some ⟨bp, 0, none⟩)) (.pointer (some ⟨bq, 0, none⟩)) a → (apE Tryz.f126.body).wp Tryz.prog (bodyPost Tryz.prog Tryz.f126 Q) a W') := fun a W' A' D H => by
    rw [← HQ.out]
    exact ap_end D (by have := HVL.out; exact this) H
  obtain ⟨TL, HTL⟩ : ∃ TL, Hid (apE Tryz.f126.body = TL) := ⟨_, rfl⟩
  have EQ : apB Tryz.f126.body = Code.seq (cL (apB Tryz.f126.body)) (apE Tryz.f126.body) := by kernel_rfl
  rw [HTL.out] at EQ HEND
  rw [EQ]
  obtain ⟨c, hc⟩ : ∃ c, c = cL (apB Tryz.f126.body) := ⟨_, rfl⟩
  rw [← hc]
  clear EQ HTL
  simp only [apB, apT, cR, cL, Tryz.f126, Option.getD_some] at hc
  subst hc
  have TA : Hid (∀ W2, Calls Tryz.prog 199 #[.pointer (some ⟨A.bn, 0, none⟩), .agg #[.int .i64 at', .int .u64 an, sv axs]] W2 fun e w' => e = .returned (sv (textV ⟨at', an, axs⟩)) ∧ Fr (fun _ => False) W2 w') := fun W2 => mtext_m ⟨at', an, axs⟩ HVA.out.w nb
  have ltx := HVA.out.text HK.out.u.t12 HK.out.u.c24 HK.out.u.h5
  have lou := HK.out.u.ou
  obtain ⟨tx, HTX⟩ : ∃ tx, Hid (textV ⟨at', an, axs⟩ = tx) := ⟨_, rfl⟩
  obtain ⟨ou, HOU⟩ : ∃ ou, Hid (m.out = ou) := ⟨_, rfl⟩
  rw [HTX.out] at TA ltx hl HEND
  rw [HOU.out] at c15 lou hl HEND
  have sza : (⟨tx.toArray⟩ : ByteArray).size = tx.length := by simp [ByteArray.size]
  have szb : (⟨ou.toArray⟩ : ByteArray).size = ou.length := by simp [ByteArray.size]
  go_wp2_with fail
  refine wp_region_tail 5 (by kernel_rfl) (by kernel_rfl) (fun _ _ _ _ _ h => h) ?_
  simp only [List.take_succ_cons, List.take_zero, List.drop_succ_cons, List.drop_zero]
  repeat go_big_quiet_step (fail)
  refine wpQuiet_nil ?_
  go_wp2_with fail
  refine (TA.out _).mono ?_
  rintro e1 w1 ⟨rfl, G1⟩
  have D1 := HP.out.d.fr (((Fr.refl _ _).drew).trans G1 (fun _ _ x => x))
  have HD := hid D1
  have c15 : w1.cell? ⟨A.br, 15, none⟩ = some (sv ou) := by rw [← HOU.out, ← D1.B.s.br]; exact D1.B.r.rc 15 rfl
  have lbr : A.br < w1.heap.size := by rw [← D1.B.s.br]; exact D1.B.r.run.has.lt
  have fbr : w1.frozen? ⟨A.br, 15, none⟩ = false := by rw [← D1.B.s.br]; exact D1.B.r.run.has.frozen 15
  clear p0 p1 p2 p3 p4 p5 lp q0 q1 q2 q3 q4 q5 lq D1 G1
  have hli : ((200 : Int) < (ou.length : Int) + (tx.length : Int) + 1) = False := by simp; omega
  have D2 : ApD w A N root (w1.setCell ⟨A.br, 15, none⟩ (sv ((ou ++ tx) ++ [10]))) A1 { m with out := ou ++ tx ++ [10] } bp bq nilV nilV := by
    have B := HD.out.B
    obtain ⟨r1, r2⟩ := B.r.run.put 15 (sv ((ou ++ tx) ++ [10])) (cs' := rnV A1 N root { m with out := ou ++ tx ++ [10] }) rfl
    rw [B.s.br] at r1 r2
    obtain ⟨y1, y2⟩ := B.r.scal r2 (sk := A1.sk) (an := A1.an) (m' := { m with out := ou ++ tx ++ [10] }) (by rw [B.s.br]; exact r1.has) rfl rfl rfl rfl B.r.skl B.r.sk B.r.don
    exact ⟨⟨y1, B.s.trans y2, B.c⟩, HD.out.Lp.st y2, HD.out.Lq.st y2, HD.out.ne, HD.out.sp, HD.out.sq⟩
  have HD2 := hid D2
  clear D2
  go_wp2_with fail
  exact HEND.out _ _ _ (HD2.out) ⟨by kernel_rfl, by kernel_rfl, by kernel_rfl, by kernel_rfl, rfl⟩
theorem ap_b6a (P : ApC w A N root W A1 m bA bF xb ba bb bp bq fn args) (K : ApOk N m fn args) (H : FrAq (.pointer (some ⟨A.br, 0, none⟩)) (.pointer (some ⟨xb, 0, none⟩)) (.pointer (some ⟨bA, 0, none⟩)) (.pointer (some ⟨bF, 0, none⟩)) (.pointer (some ⟨ba, 0, none⟩)) (.pointer (some ⟨bb, 0, none⟩)) (.pointer (some ⟨bp, 0, none⟩)) (.pointer (some ⟨bq, 0, none⟩)) a) (hn : fn.n = 6) (ht : (args.getD 0 nilV).t ≠ 5) :
    (apB Tryz.f126.body).wp Tryz.prog (bodyPost Tryz.prog Tryz.f126 (PQm w A N root (m.push [boolV false, strV mCall]))) a W := by
  obtain ⟨u, rfl⟩ := H.form
  obtain ⟨Q, HQ⟩ : ∃ Q : Ending → World → Prop, Hid (PQm w A N root (m.push [boolV false, strV mCall]) = Q) := ⟨_, rfl⟩
  rw [HQ.out]
  have f1 := P.LF.h.cell 1
  have lf := P.LF.h.lt
  simp only [vlC, List.getElem?_toArray, List.getElem?_cons_zero, List.getElem?_cons_succ] at f1
  rw [hn] at f1
  have f1 : W.cell? ⟨bF, 1, none⟩ = some (.int .u64 6) := f1
  have va : VM m (args.getD 0 nilV) := vk_getD K.arV 0
  have vb : VM m (args.getD 1 nilV) := vk_getD K.arV 1
  have nb := va.big K.u.t12 K.u.c24 K.u.h5
  obtain ⟨⟨at', an, axs⟩, HA⟩ : ∃ v, Hid (args.getD 0 nilV = v) := ⟨_, rfl⟩
  obtain ⟨⟨bt, bn, bxs⟩, HBB⟩ : ∃ v, Hid (args.getD 1 nilV = v) := ⟨_, rfl⟩
  have La := P.La
  have Lb := P.Lb
  rw [HA.out] at va La nb ht
  rw [HBB.out] at vb Lb
  try rw [HA.out] at HQ
  try rw [HBB.out] at HQ
  dsimp only at nb ht
  obtain ⟨p0, p1, p2, p3, p4, p5, lp⟩ := P.d.pc
  obtain ⟨q0, q1, q2, q3, q4, q5, lq⟩ := P.d.qc
  have HVL : Hid (m.th.vals.length ≤ 900000) := K.vl
  have a0 := La.h.cell 0
  have a1 := La.h.cell 1
  have a2 := La.h.cell 2
  have b0 := Lb.h.cell 0
  have b1 := Lb.h.cell 1
  have b2 := Lb.h.cell 2
  have la := La.h.lt
  have lb := Lb.h.lt
  simp only [vlC, List.getElem?_toArray, List.getElem?_cons_succ, List.getElem?_cons_zero] at a0 a1 a2 b0 b1 b2
  dsimp only [nilV] at p0 p1 p2 q0 q1 q2
  obtain ⟨cc0, cc1, lcc⟩ := P.B.c0
  have HP := hid P
  have HK := hid K
  have HVA := hid va
  have HVB := hid vb
  have HLa := hid La
  have HLb := hid Lb
  clear P K H va vb La Lb
  have HEND : Hid (∀ (a : Act) (W' : World) (A' : RnP), ApD w A N root W' A' (m) bp bq (boolV false) (strV mCall) → FrAe (.pointer (some ⟨A.br, 0, none⟩)) (.pointer (some ⟨bp, 0, none⟩)) (.pointer (some ⟨bq, 0, none⟩)) a → (apE Tryz.f126.body).wp Tryz.prog (bodyPost Tryz.prog Tryz.f126 Q) a W') := fun a W' A' D H => by
    rw [← HQ.out]
    exact ap_end D (by have := HVL.out; exact this) H
  obtain ⟨TL, HTL⟩ : ∃ TL, Hid (apE Tryz.f126.body = TL) := ⟨_, rfl⟩
  have EQ : apB Tryz.f126.body = Code.seq (cL (apB Tryz.f126.body)) (apE Tryz.f126.body) := by kernel_rfl
  rw [HTL.out] at EQ HEND
  rw [EQ]
  obtain ⟨c, hc⟩ : ∃ c, c = cL (apB Tryz.f126.body) := ⟨_, rfl⟩
  rw [← hc]
  clear EQ HTL
  simp only [apB, apT, cR, cL, Tryz.f126, Option.getD_some] at hc
  subst hc
  have e5 : (at' != 5) = true := by rw [bne_iff_ne]; exact ht
  have ne := HP.out.d.ne
  go_wp2_with fail
  exact HEND.out _ _ _ ((HP.out.d.setP (boolV false)).setQ (strV mCall)) ⟨by kernel_rfl, by kernel_rfl, by kernel_rfl, by kernel_rfl, rfl⟩
theorem ap_b6b (P : ApC w A N root W A1 m bA bF xb ba bb bp bq fn args) (K : ApOk N m fn args) (H : FrAq (.pointer (some ⟨A.br, 0, none⟩)) (.pointer (some ⟨xb, 0, none⟩)) (.pointer (some ⟨bA, 0, none⟩)) (.pointer (some ⟨bF, 0, none⟩)) (.pointer (some ⟨ba, 0, none⟩)) (.pointer (some ⟨bb, 0, none⟩)) (.pointer (some ⟨bp, 0, none⟩)) (.pointer (some ⟨bq, 0, none⟩)) a) (hn : fn.n = 6) (ht : (args.getD 0 nilV).t = 5) (hd : 8 ≤ m.th.depth) :
    (apB Tryz.f126.body).wp Tryz.prog (bodyPost Tryz.prog Tryz.f126 (PQm w A N root (m.push [boolV false, strV mDepth]))) a W := by
  obtain ⟨u, rfl⟩ := H.form
  obtain ⟨Q, HQ⟩ : ∃ Q : Ending → World → Prop, Hid (PQm w A N root (m.push [boolV false, strV mDepth]) = Q) := ⟨_, rfl⟩
  rw [HQ.out]
  have f1 := P.LF.h.cell 1
  have lf := P.LF.h.lt
  simp only [vlC, List.getElem?_toArray, List.getElem?_cons_zero, List.getElem?_cons_succ] at f1
  rw [hn] at f1
  have f1 : W.cell? ⟨bF, 1, none⟩ = some (.int .u64 6) := f1
  have va : VM m (args.getD 0 nilV) := vk_getD K.arV 0
  have vb : VM m (args.getD 1 nilV) := vk_getD K.arV 1
  have nb := va.big K.u.t12 K.u.c24 K.u.h5
  obtain ⟨⟨at', an, axs⟩, HA⟩ : ∃ v, Hid (args.getD 0 nilV = v) := ⟨_, rfl⟩
  obtain ⟨⟨bt, bn, bxs⟩, HBB⟩ : ∃ v, Hid (args.getD 1 nilV = v) := ⟨_, rfl⟩
  have La := P.La
  have Lb := P.Lb
  rw [HA.out] at va La nb ht
  rw [HBB.out] at vb Lb
  try rw [HA.out] at HQ
  try rw [HBB.out] at HQ
  dsimp only at nb ht
  obtain ⟨p0, p1, p2, p3, p4, p5, lp⟩ := P.d.pc
  obtain ⟨q0, q1, q2, q3, q4, q5, lq⟩ := P.d.qc
  have HVL : Hid (m.th.vals.length ≤ 900000) := K.vl
  have a0 := La.h.cell 0
  have a1 := La.h.cell 1
  have a2 := La.h.cell 2
  have b0 := Lb.h.cell 0
  have b1 := Lb.h.cell 1
  have b2 := Lb.h.cell 2
  have la := La.h.lt
  have lb := Lb.h.lt
  simp only [vlC, List.getElem?_toArray, List.getElem?_cons_succ, List.getElem?_cons_zero] at a0 a1 a2 b0 b1 b2
  dsimp only [nilV] at p0 p1 p2 q0 q1 q2
  obtain ⟨cc0, cc1, lcc⟩ := P.B.c0
  have HP := hid P
  have HK := hid K
  have HVA := hid va
  have HVB := hid vb
  have HLa := hid La
  have HLb := hid Lb
  subst ht
  obtain ⟨x9, hx9, hb9⟩ := P.x
  have O9 := P.B.r.one _ _ _ (th_cur P.B.c) hx9
  have d2 : W.cell? ⟨xb, 2, none⟩ = some (.int .i64 m.th.depth) := by rw [← hb9, O9.b.has.cell]; rfl
  have ld : xb < W.heap.size := by rw [← hb9]; exact O9.b.has.lt
  obtain ⟨dp, HDP⟩ : ∃ dp : Nat, Hid (m.th.depth = dp) := ⟨_, rfl⟩
  rw [HDP.out] at d2 hd
  clear O9 hx9 hb9
  clear P K H va vb La Lb
  have HEND : Hid (∀ (a : Act) (W' : World) (A' : RnP), ApD w A N root W' A' (m) bp bq (boolV false) (strV mDepth) → FrAe (.pointer (some ⟨A.br, 0, none⟩)) (.pointer (some ⟨bp, 0, none⟩)) (.pointer (some ⟨bq, 0, none⟩)) a → (apE Tryz.f126.body).wp Tryz.prog (bodyPost Tryz.prog Tryz.f126 Q) a W') := fun a W' A' D H => by
    rw [← HQ.out]
    exact ap_end D (by have := HVL.out; exact this) H
  obtain ⟨TL, HTL⟩ : ∃ TL, Hid (apE Tryz.f126.body = TL) := ⟨_, rfl⟩
  have EQ : apB Tryz.f126.body = Code.seq (cL (apB Tryz.f126.body)) (apE Tryz.f126.body) := by kernel_rfl
  rw [HTL.out] at EQ HEND
  rw [EQ]
  obtain ⟨c, hc⟩ : ∃ c, c = cL (apB Tryz.f126.body) := ⟨_, rfl⟩
  rw [← hc]
  clear EQ HTL
  simp only [apB, apT, cR, cL, Tryz.f126, Option.getD_some] at hc
  subst hc
  have hdi : (8 : Int) ≤ (dp : Int) := by omega
  have ne := HP.out.d.ne
  go_wp2_with fail
  exact HEND.out _ _ _ ((HP.out.d.setP (boolV false)).setQ (strV mDepth)) ⟨by kernel_rfl, by kernel_rfl, by kernel_rfl, by kernel_rfl, rfl⟩
theorem ap_b6c (P : ApC w A N root W A1 m bA bF xb ba bb bp bq fn args) (K : ApOk N m fn args) (H : FrAq (.pointer (some ⟨A.br, 0, none⟩)) (.pointer (some ⟨xb, 0, none⟩)) (.pointer (some ⟨bA, 0, none⟩)) (.pointer (some ⟨bF, 0, none⟩)) (.pointer (some ⟨ba, 0, none⟩)) (.pointer (some ⟨bb, 0, none⟩)) (.pointer (some ⟨bp, 0, none⟩)) (.pointer (some ⟨bq, 0, none⟩)) a) (hn : fn.n = 6) (ht : (args.getD 0 nilV).t = 5) (hd : m.th.depth < 8) :
    (apB Tryz.f126.body).wp Tryz.prog (bodyPost Tryz.prog Tryz.f126 (PQm w A N root (m.enter N root (args.getD 0 nilV).n [args.getD 1 nilV] 1))) a W := by
  obtain ⟨u, rfl⟩ := H.form
  obtain ⟨Q, HQ⟩ : ∃ Q : Ending → World → Prop, Hid (PQm w A N root (m.enter N root (args.getD 0 nilV).n [args.getD 1 nilV] 1) = Q) := ⟨_, rfl⟩
  rw [HQ.out]
  have f1 := P.LF.h.cell 1
  have lf := P.LF.h.lt
  simp only [vlC, List.getElem?_toArray, List.getElem?_cons_zero, List.getElem?_cons_succ] at f1
  rw [hn] at f1
  have f1 : W.cell? ⟨bF, 1, none⟩ = some (.int .u64 6) := f1
  have va : VM m (args.getD 0 nilV) := vk_getD K.arV 0
  have vb : VM m (args.getD 1 nilV) := vk_getD K.arV 1
  have nb := va.big K.u.t12 K.u.c24 K.u.h5
  obtain ⟨⟨at', an, axs⟩, HA⟩ : ∃ v, Hid (args.getD 0 nilV = v) := ⟨_, rfl⟩
  obtain ⟨⟨bt, bn, bxs⟩, HBB⟩ : ∃ v, Hid (args.getD 1 nilV = v) := ⟨_, rfl⟩
  have La := P.La
  have Lb := P.Lb
  rw [HA.out] at va La nb ht
  rw [HBB.out] at vb Lb
  try rw [HA.out] at HQ
  try rw [HBB.out] at HQ
  dsimp only at nb ht
  obtain ⟨p0, p1, p2, p3, p4, p5, lp⟩ := P.d.pc
  obtain ⟨q0, q1, q2, q3, q4, q5, lq⟩ := P.d.qc
  have HVL : Hid (m.th.vals.length ≤ 900000) := K.vl
  have a0 := La.h.cell 0
  have a1 := La.h.cell 1
  have a2 := La.h.cell 2
  have b0 := Lb.h.cell 0
  have b1 := Lb.h.cell 1
  have b2 := Lb.h.cell 2
  have la := La.h.lt
  have lb := Lb.h.lt
  simp only [vlC, List.getElem?_toArray, List.getElem?_cons_succ, List.getElem?_cons_zero] at a0 a1 a2 b0 b1 b2
  dsimp only [nilV] at p0 p1 p2 q0 q1 q2
  obtain ⟨cc0, cc1, lcc⟩ := P.B.c0
  have HP := hid P
  have HK := hid K
  have HVA := hid va
  have HVB := hid vb
  have HLa := hid La
  have HLb := hid Lb
  subst ht
  obtain ⟨x9, hx9, hb9⟩ := P.x
  have O9 := P.B.r.one _ _ _ (th_cur P.B.c) hx9
  have d2 : W.cell? ⟨xb, 2, none⟩ = some (.int .i64 m.th.depth) := by rw [← hb9, O9.b.has.cell]; rfl
  have ld : xb < W.heap.size := by rw [← hb9]; exact O9.b.has.lt
  obtain ⟨dp, HDP⟩ : ∃ dp : Nat, Hid (m.th.depth = dp) := ⟨_, rfl⟩
  rw [HDP.out] at d2 hd
  clear O9 hx9 hb9
  clear P K H va vb La Lb
  obtain ⟨c, hc⟩ : ∃ c, c = apB Tryz.f126.body := ⟨_, rfl⟩
  rw [← hc]
  simp only [apB, apT, cR, Tryz.f126, Option.getD_some] at hc
  subst hc
  have hcl : an < m.clos.length := HVA.out.f rfl
  have c24 := HK.out.u.c24
  obtain ⟨qc, hqc⟩ : ∃ q, m.clos[an]? = some q := ⟨m.clos[an]'hcl, by simp⟩
  obtain ⟨qc1, qc2⟩ := HK.out.cl qc (List.mem_of_getElem? hqc)
  have AS : ArgS W.drew A1 (.slice (some ⟨bA, 3, none⟩) 1 2) [⟨bt, bn, bxs⟩] := by
    refine .inr ⟨bA, arC args, 3, 2, 317, HP.out.LA.fr ((Fr.refl _ _).drew), rfl, by simp, fun i v hv => ?_⟩
    have hl := (List.getElem?_eq_some_iff.1 hv).1
    have : i = 0 := by simp at hl; exact hl
    subst this
    have : v = ⟨bt, bn, bxs⟩ := by simpa using hv.symm
    rw [this, ← HBB.out]
    exact ⟨rfl, rfl, rfl⟩
  have C := enter_m HP.out.B.drew HK.out.ref (by have := HK.out.tl; omega) (by have := HK.out.d8; omega) (by have := HK.out.vl; omega) hqc qc1 (by omega) qc2 (HK.out.no.a _ qc1) HK.out.no.nx HK.out.no.l [⟨bt, bn, bxs⟩] _ AS (by simp) 1 (c' := an) (p' := 1) rfl rfl
  have HC := hid C
  have lA := HP.out.LA.h.lt
  have han : an < 24 := by omega
  clear C AS hqc qc1 qc2 hcl c24
  have hdi : ¬ (8 : Int) ≤ (dp : Int) := by omega
  go_wp2_with fail
  refine C.wp_region_tail 5 (by kernel_rfl) (by kernel_rfl) (fun _ _ _ _ _ h => h) ?_
  simp only [List.take_succ_cons, List.take_zero, List.drop_succ_cons, List.drop_zero]
  repeat go_big_quiet_step (fail)
  refine wpQuiet_nil ?_
  go_wp2_with fail
  refine HC.out.mono ?_
  rintro e3 w3 ⟨rfl, A3, B3, S3⟩
  have FIN : Hid (Q (.returned (.tuple #[])) w3) := by
    show Q _ _
    rw [← HQ.out]
    exact B3.end
  clear B3 S3
  go_wp2
  refine bodyPost_ret (results_none rfl _ _ _) rfl ?_
  exact FIN.out
theorem ap_b11a (P : ApC w A N root W A1 m bA bF xb ba bb bp bq fn args) (K : ApOk N m fn args) (H : FrAq (.pointer (some ⟨A.br, 0, none⟩)) (.pointer (some ⟨xb, 0, none⟩)) (.pointer (some ⟨bA, 0, none⟩)) (.pointer (some ⟨bF, 0, none⟩)) (.pointer (some ⟨ba, 0, none⟩)) (.pointer (some ⟨bb, 0, none⟩)) (.pointer (some ⟨bp, 0, none⟩)) (.pointer (some ⟨bq, 0, none⟩)) a) (hn : fn.n = 11) (ht : (args.getD 0 nilV).t ≠ 7) :
    (apB Tryz.f126.body).wp Tryz.prog (bodyPost Tryz.prog Tryz.f126 (PQm w A N root (m.raise mCo))) a W := by
  obtain ⟨u, rfl⟩ := H.form
  obtain ⟨Q, HQ⟩ : ∃ Q : Ending → World → Prop, Hid (PQm w A N root (m.raise mCo) = Q) := ⟨_, rfl⟩
  rw [HQ.out]
  have f1 := P.LF.h.cell 1
  have lf := P.LF.h.lt
  simp only [vlC, List.getElem?_toArray, List.getElem?_cons_zero, List.getElem?_cons_succ] at f1
  rw [hn] at f1
  have f1 : W.cell? ⟨bF, 1, none⟩ = some (.int .u64 11) := f1
  have va : VM m (args.getD 0 nilV) := vk_getD K.arV 0
  have vb : VM m (args.getD 1 nilV) := vk_getD K.arV 1
  have nb := va.big K.u.t12 K.u.c24 K.u.h5
  obtain ⟨⟨at', an, axs⟩, HA⟩ : ∃ v, Hid (args.getD 0 nilV = v) := ⟨_, rfl⟩
  obtain ⟨⟨bt, bn, bxs⟩, HBB⟩ : ∃ v, Hid (args.getD 1 nilV = v) := ⟨_, rfl⟩
  have La := P.La
  have Lb := P.Lb
  rw [HA.out] at va La nb ht
  rw [HBB.out] at vb Lb
  try rw [HA.out] at HQ
  try rw [HBB.out] at HQ
  dsimp only at nb ht
  obtain ⟨p0, p1, p2, p3, p4, p5, lp⟩ := P.d.pc
  obtain ⟨q0, q1, q2, q3, q4, q5, lq⟩ := P.d.qc
  have HVL : Hid (m.th.vals.length ≤ 900000) := K.vl
  have a0 := La.h.cell 0
  have a1 := La.h.cell 1
  have a2 := La.h.cell 2
  have b0 := Lb.h.cell 0
  have b1 := Lb.h.cell 1
  have b2 := Lb.h.cell 2
  have la := La.h.lt
  have lb := Lb.h.lt
  simp only [vlC, List.getElem?_toArray, List.getElem?_cons_succ, List.getElem?_cons_zero] at a0 a1 a2 b0 b1 b2
  dsimp only [nilV] at p0 p1 p2 q0 q1 q2
  obtain ⟨cc0, cc1, lcc⟩ := P.B.c0
  have HP := hid P
  have HK := hid K
  have HVA := hid va
  have HVB := hid vb
  have HLa := hid La
  have HLb := hid Lb
  clear P K H va vb La Lb
  obtain ⟨c, hc⟩ : ∃ c, c = apB Tryz.f126.body := ⟨_, rfl⟩
  rw [← hc]
  simp only [apB, apT, cR, Tryz.f126, Option.getD_some] at hc
  subst hc
  have e7 : (at' != 7) = true := by rw [bne_iff_ne]; exact ht
  have C : Hid (Calls Tryz.prog 121 #[.pointer (some ⟨A.br, 0, none⟩), sv [99, 111]] W (PQm w A N root (m.raise mCo))) := HP.out.B.raise HK.out.thr mCo (by decide)
  go_wp2_with fail
  refine C.out.mono ?_
  intro e3 w3 hq
  obtain rfl := hq.1
  have FIN : Hid (Q (.returned (.tuple #[])) w3) := by
    show Q _ _
    rw [← HQ.out]
    exact hq
  clear hq
  go_wp2
  refine bodyPost_ret (results_none rfl _ _ _) rfl ?_
  exact FIN.out
theorem ap_b11b (P : ApC w A N root W A1 m bA bF xb ba bb bp bq fn args) (K : ApOk N m fn args) (H : FrAq (.pointer (some ⟨A.br, 0, none⟩)) (.pointer (some ⟨xb, 0, none⟩)) (.pointer (some ⟨bA, 0, none⟩)) (.pointer (some ⟨bF, 0, none⟩)) (.pointer (some ⟨ba, 0, none⟩)) (.pointer (some ⟨bb, 0, none⟩)) (.pointer (some ⟨bp, 0, none⟩)) (.pointer (some ⟨bq, 0, none⟩)) a) (hn : fn.n = 11) (ht : (args.getD 0 nilV).t = 7) :
    (apB Tryz.f126.body).wp Tryz.prog (bodyPost Tryz.prog Tryz.f126 (PQm w A N root (m.push [strV (statusN (m.ths.getD (args.getD 0 nilV).n mt0).st), nilV]))) a W := by
  obtain ⟨u, rfl⟩ := H.form
  obtain ⟨Q, HQ⟩ : ∃ Q : Ending → World → Prop, Hid (PQm w A N root (m.push [strV (statusN (m.ths.getD (args.getD 0 nilV).n mt0).st), nilV]) = Q) := ⟨_, rfl⟩
  rw [HQ.out]
  have f1 := P.LF.h.cell 1
  have lf := P.LF.h.lt
  simp only [vlC, List.getElem?_toArray, List.getElem?_cons_zero, List.getElem?_cons_succ] at f1
  rw [hn] at f1
  have f1 : W.cell? ⟨bF, 1, none⟩ = some (.int .u64 11) := f1
  have va : VM m (args.getD 0 nilV) := vk_getD K.arV 0
  have vb : VM m (args.getD 1 nilV) := vk_getD K.arV 1
  have nb := va.big K.u.t12 K.u.c24 K.u.h5
  obtain ⟨⟨at', an, axs⟩, HA⟩ : ∃ v, Hid (args.getD 0 nilV = v) := ⟨_, rfl⟩
  obtain ⟨⟨bt, bn, bxs⟩, HBB⟩ : ∃ v, Hid (args.getD 1 nilV = v) := ⟨_, rfl⟩
  have La := P.La
  have Lb := P.Lb
  rw [HA.out] at va La nb ht
  rw [HBB.out] at vb Lb
  try rw [HA.out] at HQ
  try rw [HBB.out] at HQ
  dsimp only at nb ht
  obtain ⟨p0, p1, p2, p3, p4, p5, lp⟩ := P.d.pc
  obtain ⟨q0, q1, q2, q3, q4, q5, lq⟩ := P.d.qc
  have HVL : Hid (m.th.vals.length ≤ 900000) := K.vl
  have a0 := La.h.cell 0
  have a1 := La.h.cell 1
  have a2 := La.h.cell 2
  have b0 := Lb.h.cell 0
  have b1 := Lb.h.cell 1
  have b2 := Lb.h.cell 2
  have la := La.h.lt
  have lb := Lb.h.lt
  simp only [vlC, List.getElem?_toArray, List.getElem?_cons_succ, List.getElem?_cons_zero] at a0 a1 a2 b0 b1 b2
  dsimp only [nilV] at p0 p1 p2 q0 q1 q2
  obtain ⟨cc0, cc1, lcc⟩ := P.B.c0
  have HP := hid P
  have HK := hid K
  have HVA := hid va
  have HVB := hid vb
  have HLa := hid La
  have HLb := hid Lb
  subst ht
  have hj : an < m.ths.length := va.c rfl
  obtain ⟨gt, y, hy, hty, ⟨t5, tg, ts, tf, tl0, tl1, tl2, tlc, tlj, tl5⟩⟩ := P.B.thAt hj
  obtain ⟨TH, HTH⟩ : ∃ TH, Hid (m.ths.getD an mt0 = TH) := ⟨_, rfl⟩
  rw [HTH.out] at ts tf hty
  obtain ⟨LT, HLT⟩ : ∃ LT : Nat, Hid (m.ths.length = LT) := ⟨_, rfl⟩
  rw [HLT.out] at t5 tlc tlj tl5
  obtain ⟨cap, HCAP⟩ : ∃ cap : Nat, Hid (A1.th.c = cap) := ⟨_, rfl⟩
  rw [HCAP.out] at t5 tlc
  obtain ⟨tst, HTST⟩ : ∃ tst : Nat, Hid (TH.st = tst) := ⟨_, rfl⟩
  rw [HTST.out] at ts
  have HHY := hid hy
  have HTY := hid hty
  clear hy hty hj
  clear P K H va vb La Lb
  have HEND : Hid (∀ (a : Act) (W' : World) (A' : RnP), ApD w A N root W' A' (m) bp bq (strV (statusN (m.ths.getD an mt0).st)) nilV → FrAe (.pointer (some ⟨A.br, 0, none⟩)) (.pointer (some ⟨bp, 0, none⟩)) (.pointer (some ⟨bq, 0, none⟩)) a → (apE Tryz.f126.body).wp Tryz.prog (bodyPost Tryz.prog Tryz.f126 Q) a W') := fun a W' A' D H => by
    rw [← HQ.out]
    exact ap_end D (by have := HVL.out; exact this) H
  obtain ⟨TL, HTL⟩ : ∃ TL, Hid (apE Tryz.f126.body = TL) := ⟨_, rfl⟩
  have EQ : apB Tryz.f126.body = Code.seq (cL (apB Tryz.f126.body)) (apE Tryz.f126.body) := by kernel_rfl
  rw [HTL.out] at EQ HEND
  rw [EQ]
  obtain ⟨c, hc⟩ : ∃ c, c = cL (apB Tryz.f126.body) := ⟨_, rfl⟩
  rw [← hc]
  clear EQ HTL
  simp only [apB, apT, cR, cL, Tryz.f126, Option.getD_some] at hc
  subst hc
  rw [HTH.out, HTST.out] at HEND
  have TA : Hid (∀ W2, Calls Tryz.prog 201 #[.int .i64 tst] W2 fun e w' => e = .returned (sv (statusN tst)) ∧ w' = W2) := fun W2 => statusName_any tst
  obtain ⟨tx, HTX⟩ : ∃ tx, Hid (statusN tst = tx) := ⟨_, rfl⟩
  rw [HTX.out] at TA HEND
  go_wp2_with fail
  refine wp_region_tail 11 (by kernel_rfl) (by kernel_rfl) (fun _ _ _ _ _ h => h) ?_
  simp only [List.take_succ_cons, List.take_zero, List.drop_succ_cons, List.drop_zero]
  repeat go_big_quiet_step (fail)
  refine wpQuiet_nil ?_
  go_wp2_with fail
  refine (TA.out _).mono ?_
  rintro e1 w1 ⟨rfl, hw1⟩
  rw [hw1]
  go_wp2_with fail
  exact HEND.out _ _ _ ((HP.out.d.setP (strV tx)).fr ((Fr.refl _ _).drew)) ⟨by kernel_rfl, by kernel_rfl, by kernel_rfl, by kernel_rfl, rfl⟩
end
end Go.Proofs.Qxb6500574aGreatDoor
