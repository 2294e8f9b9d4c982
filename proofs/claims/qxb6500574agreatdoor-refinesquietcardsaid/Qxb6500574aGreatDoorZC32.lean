/-
  THE WALKS of compm: apply: resume.
-/
import Derived.Test.Qxb6500574aGreatDoorZC31
namespace Go.Proofs.Qxb6500574aGreatDoor
open Go Go.RowKit
set_option linter.unusedVariables false
set_option linter.unusedSimpArgs false
theorem list5 {l : List Nat} (h : l.length = 5) : ∃ a b c d e, l = [a, b, c, d, e] := by
  match l, h with
  | [a, b, c, d, e], _ => exact ⟨a, b, c, d, e, rfl⟩
/-- another thread is at hand, this one waits -/
theorem MRep.goto {w : World} {A : RnP} {N : List Nd} {root : Nat} {m : MD} (h : MRep w A N root m) {n : Nat} (hn : m.stack.length = n) (h4 : n ≤ 4) (j : Nat) :
    MRep (((w.setCell ⟨A.br, 6 + n, none⟩ (.int .i64 m.cur)).setCell ⟨A.br, 11, none⟩ (.int .i64 (n + 1 : Nat))).setCell ⟨A.br, 12, none⟩ (.int .i64 j)) { A with sk := A.sk.set n m.cur } N root { m with stack := m.cur :: m.stack, cur := j } ∧
    MSt w A (((w.setCell ⟨A.br, 6 + n, none⟩ (.int .i64 m.cur)).setCell ⟨A.br, 11, none⟩ (.int .i64 (n + 1 : Nat))).setCell ⟨A.br, 12, none⟩ (.int .i64 j)) { A with sk := A.sk.set n m.cur } := by
  have hk := h.skl
  have key : (rnV A N root m).setIfInBounds (6 + n) (.int .i64 m.cur) = rnV { A with sk := A.sk.set n m.cur } N root m := by
    obtain ⟨s0, s1, s2, s3, s4, hs⟩ := list5 hk
    unfold rnV
    simp only [hs]
    have : n = 0 ∨ n = 1 ∨ n = 2 ∨ n = 3 ∨ n = 4 := by omega
    rcases this with rfl | rfl | rfl | rfl | rfl <;> rfl
  obtain ⟨p1, p2⟩ := h.run.put (6 + n) (.int .i64 m.cur) (cs' := rnV { A with sk := A.sk.set n m.cur } N root m) key
  obtain ⟨q1, q2⟩ := p1.put 11 (.int .i64 (n + 1 : Nat)) (cs' := rnV { A with sk := A.sk.set n m.cur } N root { m with stack := m.cur :: m.stack }) (by unfold rnV; simp [hn])
  obtain ⟨r1, r2⟩ := q1.put 12 (.int .i64 j) (cs' := rnV { A with sk := A.sk.set n m.cur } N root { m with stack := m.cur :: m.stack, cur := j }) (by unfold rnV; simp)
  refine h.scal ((p2.trans q2).trans r2) (sk := A.sk.set n m.cur) (an := A.an) (m' := { m with stack := m.cur :: m.stack, cur := j }) r1.has rfl rfl rfl rfl (by rw [List.length_set]; exact hk) ?_ h.don
  obtain ⟨t, ht⟩ := h.sk
  have hl : m.stack.reverse.length = n := by rw [List.length_reverse]; exact hn
  cases t with
  | nil =>
    exfalso
    have := congrArg List.length ht
    rw [List.append_nil, hl] at this
    omega
  | cons y t =>
    refine ⟨t, ?_⟩
    show (m.cur :: m.stack).reverse ++ t = A.sk.set n m.cur
    rw [← ht, List.reverse_cons, List.append_assoc, List.set_append_right _ _ (by omega), hl, Nat.sub_self]
    rfl
section
variable {w W W1 : World} {A A1 A2 : RnP} {N : List Nd} {root : Nat} {m R : MD} {bA bF xb ba bb bp bq x : Nat} {fn p q : Vl} {args : List Vl} {a : Act}
set_option maxRecDepth 100000
set_option maxHeartbeats 2000000
theorem ap_b9a (P : ApC w A N root W A1 m bA bF xb ba bb bp bq fn args) (K : ApOk N m fn args) (H : FrAq (.pointer (some ⟨A.br, 0, none⟩)) (.pointer (some ⟨xb, 0, none⟩)) (.pointer (some ⟨bA, 0, none⟩)) (.pointer (some ⟨bF, 0, none⟩)) (.pointer (some ⟨ba, 0, none⟩)) (.pointer (some ⟨bb, 0, none⟩)) (.pointer (some ⟨bp, 0, none⟩)) (.pointer (some ⟨bq, 0, none⟩)) a) (hn : fn.n = 9) (ht : (args.getD 0 nilV).t ≠ 7) :
    (apB Tryz.f126.body).wp Tryz.prog (bodyPost Tryz.prog Tryz.f126 (PQm w A N root (m.raise mCo))) a W := by
  obtain ⟨u, rfl⟩ := H.form
  obtain ⟨Q, HQ⟩ : ∃ Q : Ending → World → Prop, Hid (PQm w A N root (m.raise mCo) = Q) := ⟨_, rfl⟩
  rw [HQ.out]
  have f1 := P.LF.h.cell 1
  have lf := P.LF.h.lt
  simp only [vlC, List.getElem?_toArray, List.getElem?_cons_zero, List.getElem?_cons_succ] at f1
  rw [hn] at f1
  have f1 : W.cell? ⟨bF, 1, none⟩ = some (.int .u64 9) := f1
  have va : VM m (args.getD 0 nilV) := vk_getD K.arV 0
  have vb : VM m (args.getD 1 nilV) := vk_getD K.arV 1
  have nb := va.big K.u.t12 K.u.c24 K.u.h5
  obtain ⟨⟨at', an, axs⟩, HA⟩ : ∃ v, Hid (args.getD 0 nilV = v) := ⟨_, rfl⟩
  obtain ⟨⟨bt, bn, bxs⟩, HBB⟩ : ∃ v, Hid (args.getD 1 nilV = v) := ⟨_, rfl⟩
  have La := P.La
  have Lb := P.Lb
  rw [HA.out] at va La nb ht
  rw [HBB.out] at vb Lb
  try rw [HA.out] at HQ
  try rw [HBB.out] at HQ
  dsimp only at nb ht
  obtain ⟨p0, p1, p2, p3, p4, p5, lp⟩ := P.d.pc
  obtain ⟨q0, q1, q2, q3, q4, q5, lq⟩ := P.d.qc
  have HVL : Hid (m.th.vals.length ≤ 900000) := K.vl
  have a0 := La.h.cell 0
  have a1 := La.h.cell 1
  have a2 := La.h.cell 2
  have b0 := Lb.h.cell 0
  have b1 := Lb.h.cell 1
  have b2 := Lb.h.cell 2
  have la := La.h.lt
  have lb := Lb.h.lt
  simp only [vlC, List.getElem?_toArray, List.getElem?_cons_succ, List.getElem?_cons_zero] at a0 a1 a2 b0 b1 b2
  dsimp only [nilV] at p0 p1 p2 q0 q1 q2
  obtain ⟨cc0, cc1, lcc⟩ := P.B.c0
  have HP := hid P
  have HK := hid K
  have HVA := hid va
  have HVB := hid vb
  have HLa := hid La
  have HLb := hid Lb
  clear P K H va vb La Lb
  obtain ⟨c, hc⟩ : ∃ c, c = apB Tryz.f126.body := ⟨_, rfl⟩
  rw [← hc]
  simp only [apB, apT, cR, Tryz.f126, Option.getD_some] at hc
  subst hc
  have e7 : (at' != 7) = true := by rw [bne_iff_ne]; exact ht
  have C : Hid (Calls Tryz.prog 121 #[.pointer (some ⟨A.br, 0, none⟩), sv [99, 111]] W (PQm w A N root (m.raise mCo))) := HP.out.B.raise HK.out.thr mCo (by decide)
  go_wp2_with fail
  refine C.out.mono ?_
  intro e3 w3 hq
  obtain rfl := hq.1
  have FIN : Hid (Q (.returned (.tuple #[])) w3) := by
    show Q _ _
    rw [← HQ.out]
    exact hq
  clear hq
  go_wp2
  refine bodyPost_ret (results_none rfl _ _ _) rfl ?_
  exact FIN.out
theorem ap_b9b (P : ApC w A N root W A1 m bA bF xb ba bb bp bq fn args) (K : ApOk N m fn args) (H : FrAq (.pointer (some ⟨A.br, 0, none⟩)) (.pointer (some ⟨xb, 0, none⟩)) (.pointer (some ⟨bA, 0, none⟩)) (.pointer (some ⟨bF, 0, none⟩)) (.pointer (some ⟨ba, 0, none⟩)) (.pointer (some ⟨bb, 0, none⟩)) (.pointer (some ⟨bp, 0, none⟩)) (.pointer (some ⟨bq, 0, none⟩)) a) (hn : fn.n = 9) (ht : (args.getD 0 nilV).t = 7) (h12 : (m.ths.getD (args.getD 0 nilV).n mt0).st ≠ 1 ∧ (m.ths.getD (args.getD 0 nilV).n mt0).st ≠ 2) :
    (apB Tryz.f126.body).wp Tryz.prog (bodyPost Tryz.prog Tryz.f126 (PQm w A N root (m.push [boolV false, strV (statusN (m.ths.getD (args.getD 0 nilV).n mt0).st)]))) a W := by
  obtain ⟨u, rfl⟩ := H.form
  obtain ⟨Q, HQ⟩ : ∃ Q : Ending → World → Prop, Hid (PQm w A N root (m.push [boolV false, strV (statusN (m.ths.getD (args.getD 0 nilV).n mt0).st)]) = Q) := ⟨_, rfl⟩
  rw [HQ.out]
  have f1 := P.LF.h.cell 1
  have lf := P.LF.h.lt
  simp only [vlC, List.getElem?_toArray, List.getElem?_cons_zero, List.getElem?_cons_succ] at f1
  rw [hn] at f1
  have f1 : W.cell? ⟨bF, 1, none⟩ = some (.int .u64 9) := f1
  have va : VM m (args.getD 0 nilV) := vk_getD K.arV 0
  have vb : VM m (args.getD 1 nilV) := vk_getD K.arV 1
  have nb := va.big K.u.t12 K.u.c24 K.u.h5
  obtain ⟨⟨at', an, axs⟩, HA⟩ : ∃ v, Hid (args.getD 0 nilV = v) := ⟨_, rfl⟩
  obtain ⟨⟨bt, bn, bxs⟩, HBB⟩ : ∃ v, Hid (args.getD 1 nilV = v) := ⟨_, rfl⟩
  have La := P.La
  have Lb := P.Lb
  rw [HA.out] at va La nb ht h12
  rw [HBB.out] at vb Lb
  try rw [HA.out] at HQ
  try rw [HBB.out] at HQ
  dsimp only at nb ht h12
  obtain ⟨p0, p1, p2, p3, p4, p5, lp⟩ := P.d.pc
  obtain ⟨q0, q1, q2, q3, q4, q5, lq⟩ := P.d.qc
  have HVL : Hid (m.th.vals.length ≤ 900000) := K.vl
  have a0 := La.h.cell 0
  have a1 := La.h.cell 1
  have a2 := La.h.cell 2
  have b0 := Lb.h.cell 0
  have b1 := Lb.h.cell 1
  have b2 := Lb.h.cell 2
  have la := La.h.lt
  have lb := Lb.h.lt
  simp only [vlC, List.getElem?_toArray, List.getElem?_cons_succ, List.getElem?_cons_zero] at a0 a1 a2 b0 b1 b2
  dsimp only [nilV] at p0 p1 p2 q0 q1 q2
  obtain ⟨cc0, cc1, lcc⟩ := P.B.c0
  have HP := hid P
  have HK := hid K
  have HVA := hid va
  have HVB := hid vb
  have HLa := hid La
  have HLb := hid Lb
  subst ht
  have hj : an < m.ths.length := va.c rfl
  obtain ⟨gt, y, hy, hty, ⟨t5, tg, ts, tf, tl0, tl1, tl2, tlc, tlj, tl5⟩⟩ := P.B.thAt hj
  obtain ⟨TH, HTH⟩ : ∃ TH, Hid (m.ths.getD an mt0 = TH) := ⟨_, rfl⟩
  rw [HTH.out] at ts tf hty h12
  obtain ⟨LT, HLT⟩ : ∃ LT : Nat, Hid (m.ths.length = LT) := ⟨_, rfl⟩
  rw [HLT.out] at t5 tlc tlj tl5
  obtain ⟨cap, HCAP⟩ : ∃ cap : Nat, Hid (A1.th.c = cap) := ⟨_, rfl⟩
  rw [HCAP.out] at t5 tlc
  obtain ⟨tst, HTST⟩ : ∃ tst : Nat, Hid (TH.st = tst) := ⟨_, rfl⟩
  rw [HTST.out] at ts h12
  have HHY := hid hy
  have HTY := hid hty
  clear hy hty hj
  clear P K H va vb La Lb
  have HEND : Hid (∀ (a : Act) (W' : World) (A' : RnP), ApD w A N root W' A' (m) bp bq (boolV false) (strV (statusN (m.ths.getD an mt0).st)) → FrAe (.pointer (some ⟨A.br, 0, none⟩)) (.pointer (some ⟨bp, 0, none⟩)) (.pointer (some ⟨bq, 0, none⟩)) a → (apE Tryz.f126.body).wp Tryz.prog (bodyPost Tryz.prog Tryz.f126 Q) a W') := fun a W' A' D H => by
    rw [← HQ.out]
    exact ap_end D (by have := HVL.out; exact this) H
  obtain ⟨TL, HTL⟩ : ∃ TL, Hid (apE Tryz.f126.body = TL) := ⟨_, rfl⟩
  have EQ : apB Tryz.f126.body = Code.seq (cL (apB Tryz.f126.body)) (apE Tryz.f126.body) := by kernel_rfl
  rw [HTL.out] at EQ HEND
  rw [EQ]
  obtain ⟨c, hc⟩ : ∃ c, c = cL (apB Tryz.f126.body) := ⟨_, rfl⟩
  rw [← hc]
  clear EQ HTL
  simp only [apB, apT, cR, cL, Tryz.f126, Option.getD_some] at hc
  subst hc
  rw [HTH.out, HTST.out] at HEND
  have TA : Hid (∀ W2, Calls Tryz.prog 201 #[.int .i64 tst] W2 fun e w' => e = .returned (sv (statusN tst)) ∧ w' = W2) := fun W2 => statusName_any tst
  obtain ⟨tx, HTX⟩ : ∃ tx, Hid (statusN tst = tx) := ⟨_, rfl⟩
  rw [HTX.out] at TA HEND
  have z1 : ((tst : Int) != 1) = true := by rw [bne_iff_ne]; omega
  have z2 : ((tst : Int) != 2) = true := by rw [bne_iff_ne]; omega
  have ne := HP.out.d.ne
  clear h12
  go_wp2_with fail
  refine wp_region_tail 8 (by kernel_rfl) (by kernel_rfl) (fun _ _ _ _ _ h => h) ?_
  simp only [List.take_succ_cons, List.take_zero, List.drop_succ_cons, List.drop_zero]
  repeat go_big_quiet_step (fail)
  refine wpQuiet_nil ?_
  go_wp2_with fail
  refine (TA.out _).mono ?_
  rintro e1 w1 ⟨rfl, hw1⟩
  rw [hw1]
  go_wp2_with fail
  exact HEND.out _ _ _ (((HP.out.d.setP (boolV false)).setQ (strV tx)).fr ((Fr.refl _ _).drew)) ⟨by kernel_rfl, by kernel_rfl, by kernel_rfl, by kernel_rfl, rfl⟩
end
end Go.Proofs.Qxb6500574aGreatDoor
