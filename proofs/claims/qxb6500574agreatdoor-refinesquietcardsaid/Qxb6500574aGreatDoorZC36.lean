/-
  THE WALKS of compm: apply: next.
-/
import Derived.Test.Qxb6500574aGreatDoorZC32
import Derived.Test.Qxb6500574aGreatDoorReg9
namespace Go.Proofs.Qxb6500574aGreatDoor
open Go Go.RowKit
set_option linter.unusedVariables false
set_option linter.unusedSimpArgs false
section
variable {w W W1 : World} {A A1 A2 : RnP} {N : List Nd} {root : Nat} {m R : MD} {bA bF xb ba bb bp bq x : Nat} {fn p q : Vl} {args : List Vl} {a : Act}
set_option maxRecDepth 100000
set_option maxHeartbeats 2000000
theorem ap_b7a (P : ApC w A N root W A1 m bA bF xb ba bb bp bq fn args) (K : ApOk N m fn args) (H : FrAq (.pointer (some ⟨A.br, 0, none⟩)) (.pointer (some ⟨xb, 0, none⟩)) (.pointer (some ⟨bA, 0, none⟩)) (.pointer (some ⟨bF, 0, none⟩)) (.pointer (some ⟨ba, 0, none⟩)) (.pointer (some ⟨bb, 0, none⟩)) (.pointer (some ⟨bp, 0, none⟩)) (.pointer (some ⟨bq, 0, none⟩)) a) (hn : fn.n = 7) (ht : (args.getD 0 nilV).t ≠ 4) :
    (apB Tryz.f126.body).wp Tryz.prog (bodyPost Tryz.prog Tryz.f126 (PQm w A N root (m.raise mNext))) a W := by
  obtain ⟨u, rfl⟩ := H.form
  obtain ⟨Q, HQ⟩ : ∃ Q : Ending → World → Prop, Hid (PQm w A N root (m.raise mNext) = Q) := ⟨_, rfl⟩
  rw [HQ.out]
  have f1 := P.LF.h.cell 1
  have lf := P.LF.h.lt
  simp only [vlC, List.getElem?_toArray, List.getElem?_cons_zero, List.getElem?_cons_succ] at f1
  rw [hn] at f1
  have f1 : W.cell? ⟨bF, 1, none⟩ = some (.int .u64 7) := f1
  have va : VM m (args.getD 0 nilV) := vk_getD K.arV 0
  have vb : VM m (args.getD 1 nilV) := vk_getD K.arV 1
  have nb := va.big K.u.t12 K.u.c24 K.u.h5
  obtain ⟨⟨at', an, axs⟩, HA⟩ : ∃ v, Hid (args.getD 0 nilV = v) := ⟨_, rfl⟩
  obtain ⟨⟨bt, bn, bxs⟩, HBB⟩ : ∃ v, Hid (args.getD 1 nilV = v) := ⟨_, rfl⟩
  have La := P.La
  have Lb := P.Lb
  rw [HA.out] at va La nb ht
  rw [HBB.out] at vb Lb
  try rw [HA.out] at HQ
  try rw [HBB.out] at HQ
  dsimp only at nb ht
  obtain ⟨p0, p1, p2, p3, p4, p5, lp⟩ := P.d.pc
  obtain ⟨q0, q1, q2, q3, q4, q5, lq⟩ := P.d.qc
  have HVL : Hid (m.th.vals.length ≤ 900000) := K.vl
  have a0 := La.h.cell 0
  have a1 := La.h.cell 1
  have a2 := La.h.cell 2
  have b0 := Lb.h.cell 0
  have b1 := Lb.h.cell 1
  have b2 := Lb.h.cell 2
  have la := La.h.lt
  have lb := Lb.h.lt
  simp only [vlC, List.getElem?_toArray, List.getElem?_cons_succ, List.getElem?_cons_zero] at a0 a1 a2 b0 b1 b2
  dsimp only [nilV] at p0 p1 p2 q0 q1 q2
  obtain ⟨cc0, cc1, lcc⟩ := P.B.c0
  have HP := hid P
  have HK := hid K
  have HVA := hid va
  have HVB := hid vb
  have HLa := hid La
  have HLb := hid Lb
  clear P K H va vb La Lb
  obtain ⟨c, hc⟩ : ∃ c, c = apB Tryz.f126.body := ⟨_, rfl⟩
  rw [← hc]
  simp only [apB, apT, cR, Tryz.f126, Option.getD_some] at hc
  subst hc
  have e7 : (at' != 4) = true := by rw [bne_iff_ne]; exact ht
  have HC : Hid (Calls Tryz.prog 121 #[.pointer (some ⟨A.br, 0, none⟩), sv [110, 101, 120, 116]] W (PQm w A N root (m.raise mNext))) := HP.out.B.raise HK.out.thr mNext (by decide)
  go_wp2_with fail
  refine HC.out.mono ?_
  intro e3 w3 hq
  obtain rfl := hq.1
  have FIN : Hid (Q (.returned (.tuple #[])) w3) := by
    show Q _ _
    rw [← HQ.out]
    exact hq
  clear hq
  go_wp2
  refine bodyPost_ret (results_none rfl _ _ _) rfl ?_
  exact FIN.out
theorem ap_b7 (P : ApC w A N root W A1 m bA bF xb ba bb bp bq fn args) (K : ApOk N m fn args) (H : FrAq (.pointer (some ⟨A.br, 0, none⟩)) (.pointer (some ⟨xb, 0, none⟩)) (.pointer (some ⟨bA, 0, none⟩)) (.pointer (some ⟨bF, 0, none⟩)) (.pointer (some ⟨ba, 0, none⟩)) (.pointer (some ⟨bb, 0, none⟩)) (.pointer (some ⟨bp, 0, none⟩)) (.pointer (some ⟨bq, 0, none⟩)) a) (hn : fn.n = 7) (ht : (args.getD 0 nilV).t = 4) :
    (apB Tryz.f126.body).wp Tryz.prog (bodyPost Tryz.prog Tryz.f126 (PQm w A N root ((match (m.tabs.getD (args.getD 0 nilV).n tab0).next (args.getD 1 nilV) with | none => m.raise mNext | some r => m.push [r.1, r.2])))) a W := by
  obtain ⟨u, rfl⟩ := H.form
  obtain ⟨Q, HQ⟩ : ∃ Q : Ending → World → Prop, Hid (PQm w A N root ((match (m.tabs.getD (args.getD 0 nilV).n tab0).next (args.getD 1 nilV) with | none => m.raise mNext | some r => m.push [r.1, r.2])) = Q) := ⟨_, rfl⟩
  rw [HQ.out]
  have f1 := P.LF.h.cell 1
  have lf := P.LF.h.lt
  simp only [vlC, List.getElem?_toArray, List.getElem?_cons_zero, List.getElem?_cons_succ] at f1
  rw [hn] at f1
  have f1 : W.cell? ⟨bF, 1, none⟩ = some (.int .u64 7) := f1
  have va : VM m (args.getD 0 nilV) := vk_getD K.arV 0
  have vb : VM m (args.getD 1 nilV) := vk_getD K.arV 1
  have nb := va.big K.u.t12 K.u.c24 K.u.h5
  obtain ⟨⟨at', an, axs⟩, HA⟩ : ∃ v, Hid (args.getD 0 nilV = v) := ⟨_, rfl⟩
  obtain ⟨⟨bt, bn, bxs⟩, HBB⟩ : ∃ v, Hid (args.getD 1 nilV = v) := ⟨_, rfl⟩
  have La := P.La
  have Lb := P.Lb
  rw [HA.out] at va La nb ht
  rw [HBB.out] at vb Lb
  try rw [HA.out] at HQ
  try rw [HBB.out] at HQ
  dsimp only at nb ht
  obtain ⟨p0, p1, p2, p3, p4, p5, lp⟩ := P.d.pc
  obtain ⟨q0, q1, q2, q3, q4, q5, lq⟩ := P.d.qc
  have HVL : Hid (m.th.vals.length ≤ 900000) := K.vl
  have a0 := La.h.cell 0
  have a1 := La.h.cell 1
  have a2 := La.h.cell 2
  have b0 := Lb.h.cell 0
  have b1 := Lb.h.cell 1
  have b2 := Lb.h.cell 2
  have la := La.h.lt
  have lb := Lb.h.lt
  simp only [vlC, List.getElem?_toArray, List.getElem?_cons_succ, List.getElem?_cons_zero] at a0 a1 a2 b0 b1 b2
  dsimp only [nilV] at p0 p1 p2 q0 q1 q2
  obtain ⟨cc0, cc1, lcc⟩ := P.B.c0
  have HP := hid P
  have HK := hid K
  have HVA := hid va
  have HVB := hid vb
  have HLa := hid La
  have HLb := hid Lb
  subst ht
  clear P K H va vb La Lb
  have HEND : Hid (∀ {p q : Vl}, (match (m.tabs.getD an tab0).next ⟨bt, bn, bxs⟩ with | none => m.raise mNext | some r => m.push [r.1, r.2]) = m.push [p, q] → ∀ (a : Act) (W' : World) (A' : RnP), ApD w A N root W' A' m bp bq p q → FrAe (.pointer (some ⟨A.br, 0, none⟩)) (.pointer (some ⟨bp, 0, none⟩)) (.pointer (some ⟨bq, 0, none⟩)) a → (apE Tryz.f126.body).wp Tryz.prog (bodyPost Tryz.prog Tryz.f126 Q) a W') := fun {p q} e a W' A' D H => by
    rw [← HQ.out, e]
    exact ap_end D (by have := HVL.out; exact this) H
  obtain ⟨TL, HTL⟩ : ∃ TL, Hid (apE Tryz.f126.body = TL) := ⟨_, rfl⟩
  have EQ : apB Tryz.f126.body = Code.seq (cL (apB Tryz.f126.body)) (apE Tryz.f126.body) := by kernel_rfl
  rw [HTL.out] at EQ HEND
  rw [EQ]
  obtain ⟨c, hc⟩ : ∃ c, c = cL (apB Tryz.f126.body) := ⟨_, rfl⟩
  rw [← hc]
  clear EQ HTL
  simp only [apB, apT, cR, cL, Tryz.f126, Option.getD_some] at hc
  subst hc
  obtain ⟨⟨gt, gn, gs⟩, ⟨ht, hn9, hs⟩, er, HNX⟩ : ∃ a b : Vl, ∃ er : Int, Hid (nextR ((m.tabs.getD an tab0).next ⟨bt, bn, bxs⟩) = .tuple #[a.val, b.val, .int .i64 er] ∧ ((er = 7 ∧ (match (m.tabs.getD an tab0).next ⟨bt, bn, bxs⟩ with | none => m.raise mNext | some r => m.push [r.1, r.2]) = m.raise mNext) ∨ (er = 0 ∧ (match (m.tabs.getD an tab0).next ⟨bt, bn, bxs⟩ with | none => m.raise mNext | some r => m.push [r.1, r.2]) = m.push [a, b]))) := by
    cases (m.tabs.getD an tab0).next ⟨bt, bn, bxs⟩ with
    | none => exact ⟨nilV, nilV, 7, rfl, .inl ⟨rfl, rfl⟩⟩
    | some e => exact ⟨e.1, e.2, 0, rfl, .inr ⟨rfl, rfl⟩⟩
  have hun : an < 13 := Nat.lt_of_lt_of_le (HVA.out.t rfl) (by have := HK.out.u.t12; omega)
  have NXT0 : ∀ W2, Fr (fun _ => False) W W2 → Calls Tryz.prog 125 #[.pointer (some ⟨A.bt, 0, none⟩), .int .i64 an, (⟨bt, bn, bxs⟩ : Vl).val] W2 fun e w' => e = .returned (nextR ((m.tabs.getD an tab0).next ⟨bt, bn, bxs⟩)) ∧ Fr (fun _ => False) W2 w' := fun W2 f => (HP.out.B.fresh f).tnext (fun t ht => (HK.out.u.tb t ht).ti) (HVA.out.t rfl) HVB.out.w HVB.out.n
  rw [HNX.out.1] at NXT0
  have NXT : Hid (∀ W2, Fr (fun _ => False) W W2 → Calls Tryz.prog 125 #[.pointer (some ⟨A.bt, 0, none⟩), .int .i64 an, .agg #[.int .i64 bt, .int .u64 bn, sv bxs]] W2 fun e w' => e = .returned (.tuple #[.agg #[.int .i64 gt, .int .u64 gn, sv gs], .agg #[.int .i64 ht, .int .u64 hn9, sv hs], .int .i64 er]) ∧ Fr (fun _ => False) W2 w') := NXT0
  have HRES := hid HNX.out.2
  clear NXT0 HNX
  have k0 := fun z : WS W => z.f.cell cc1
  have k1 := fun z : WS W => z.f.cell a1
  have k2 := fun z : WS W => z.f.cell b0
  have k3 := fun z : WS W => z.f.cell b1
  have k4 := fun z : WS W => z.f.cell b2
  have HNE : Nonempty (WS W) := WS.non W
  go_wp2_with fail
  refine wp_region_plan [0, 1, 2, 3, 4, 5, 7] (.three 6 (.three 8 (.quiet [9, 10, 11, 12] (.two 13 (.one 14 .done) 14 (.one 13 .done))) 13 (.two 8 (.quiet [9, 10, 11, 12] (.one 14 .done)) 14 (.one 8 (.quiet [9, 10, 11, 12] .done))) 14 (.two 8 (.quiet [9, 10, 11, 12] (.one 13 .done)) 13 (.one 8 (.quiet [9, 10, 11, 12] .done)))) 13 (.two 6 (.two 8 (.quiet [9, 10, 11, 12] (.one 14 .done)) 14 (.one 8 (.quiet [9, 10, 11, 12] .done))) 14 (.one 6 (.one 8 (.quiet [9, 10, 11, 12] .done)))) 14 (.two 6 (.two 8 (.quiet [9, 10, 11, 12] (.one 13 .done)) 13 (.one 8 (.quiet [9, 10, 11, 12] .done))) 13 (.one 6 (.one 8 (.quiet [9, 10, 11, 12] .done))))) 15 (fun x => ∃ s : WS W, x = s.y) (by kernel_rfl) (by kernel_rfl) (fun _ _ _ _ _ h => h) ⟨⟨W.drew, (Fr.refl _ _).drew⟩, rfl⟩ [_, _, _, _, _, _, _] rfl _ rfl ?_
  simp only [List.getElem_toArray, List.getElem_cons_succ, List.getElem_cons_zero, List.drop_succ_cons, List.drop_zero, List.length_cons, List.length_nil, Nat.zero_add]
  repeat go_big_quiet_step (fail)
  refine wpQuiet_nil ?_
  clear k0 k1 k2 k3 k4
  refine ⟨fun a' a W9 => ∃ B C, a = (((((((a'.put (some 186) (.int .i64 an)).put (some 188) (.tuple #[.agg #[.int .i64 gt, .int .u64 gn, sv gs], .agg #[.int .i64 ht, .int .u64 hn9, sv hs], .int .i64 er])).put (some 179) (.tuple #[.agg #[.int .i64 gt, .int .u64 gn, sv gs], .agg #[.int .i64 ht, .int .u64 hn9, sv hs], .int .i64 er])).put (some 189) (.agg #[.int .i64 gt, .int .u64 gn, sv gs])).put (some 190) (.agg #[.int .i64 ht, .int .u64 hn9, sv hs])).put (some 191) (.int .i64 er)).put (some 17) (.pointer (some ⟨B, 0, none⟩))).put (some 18) (.pointer (some ⟨C, 0, none⟩)) ∧ Fr (fun _ => False) W W9 ∧ Has W9 B #[.int .i64 0, .int .u64 0, sv []] 68 ∧ Has W9 C #[.int .i64 0, .int .u64 0, sv []] 68 ∧ W.heap.size ≤ B ∧ W.heap.size ≤ C ∧ B ≠ C, ?_, ?_⟩
  · rintro a W9 hSW ⟨B, C, rfl, f9, hB, hC, lB, lC, nBC⟩
    clear hSW HNE
    simp only [Act.put, List.setIfInBounds_toArray, List.set_cons_succ, List.set_cons_zero]
    have nCB : C ≠ B := fun e => nBC e.symm
    obtain ⟨e0, e1, e2⟩ := Has.cells3 (v := nilV) hB
    dsimp only [nilV] at e0 e1 e2
    obtain ⟨e3, e4, e5⟩ := hB.frz3
    have hlB := hB.lt
    obtain ⟨Wa, HWa⟩ : ∃ Wa, Hid (((W9.setCell ⟨B, 0, none⟩ (.int .i64 gt)).setCell ⟨B, 1, none⟩ (.int .u64 gn)).setCell ⟨B, 2, none⟩ (sv gs) = Wa) := ⟨_, rfl⟩
    have HFa : Hid (Fr (fun _ => False) W Wa) := by
      show Fr _ _ _
      rw [← HWa.out]
      exact ((f9.setCell (p := ⟨B, 0, none⟩) (.inr lB) _).setCell (p := ⟨B, 1, none⟩) (.inr lB) _).setCell (p := ⟨B, 2, none⟩) (.inr lB) _
    have hBa : Has Wa B #[.int .i64 gt, .int .u64 gn, sv gs] 68 := by rw [← HWa.out]; exact hB.put3 _ _ _
    have hCa : Has Wa C #[.int .i64 0, .int .u64 0, sv []] 68 := by rw [← HWa.out]; exact ((hC.other (p := ⟨B, 0, none⟩) nCB _).other (p := ⟨B, 1, none⟩) nCB _).other (p := ⟨B, 2, none⟩) nCB _
    have eWa : (((W9.setCell ⟨B, 0, none⟩ (.int .i64 gt)).setCell ⟨B, 1, none⟩ (.int .u64 gn)).setCell ⟨B, 2, none⟩ (.string ⟨gs.toArray⟩)) = Wa := HWa.out
    have HEa := hid eWa
    have HHB := hid hBa
    have HHC := hid hCa
    clear eWa f9 hB hC hBa hCa NXT
    clear a0 a1 a2 la b0 b1 b2 lb p0 p1 p2 p3 p4 p5 lp q0 q1 q2 q3 q4 q5 lq cc0 cc1 lcc f1 lf
    unfold wpChain
    go_wp2
    rw [HEa.out]
    clear e0 e1 e2 e3 e4 e5 hlB HEa HWa
    clear W9
    refine ⟨⟨⟨_, HFa.out⟩, rfl⟩, ?_⟩
    obtain ⟨y0, y1, y2⟩ := Has.cells3 (v := nilV) HHC.out
    dsimp only [nilV] at y0 y1 y2
    obtain ⟨y3, y4, y5⟩ := HHC.out.frz3
    have hlC := HHC.out.lt
    obtain ⟨Wb, HWb⟩ : ∃ Wb, Hid (((Wa.setCell ⟨C, 0, none⟩ (.int .i64 ht)).setCell ⟨C, 1, none⟩ (.int .u64 hn9)).setCell ⟨C, 2, none⟩ (sv hs) = Wb) := ⟨_, rfl⟩
    have HFb : Hid (Fr (fun _ => False) W Wb) := by
      show Fr _ _ _
      rw [← HWb.out]
      exact ((HFa.out.setCell (p := ⟨C, 0, none⟩) (.inr lC) _).setCell (p := ⟨C, 1, none⟩) (.inr lC) _).setCell (p := ⟨C, 2, none⟩) (.inr lC) _
    have HCb : Hid (Has Wb C #[.int .i64 ht, .int .u64 hn9, sv hs] 68) := by
      show Has _ _ _ _
      rw [← HWb.out]
      exact HHC.out.put3 _ _ _
    have HBb : Hid (Has Wb B #[.int .i64 gt, .int .u64 gn, sv gs] 68) := by
      show Has _ _ _ _
      rw [← HWb.out]
      exact ((HHB.out.other (p := ⟨C, 0, none⟩) nBC _).other (p := ⟨C, 1, none⟩) nBC _).other (p := ⟨C, 2, none⟩) nBC _
    have eWb : (((Wa.setCell ⟨C, 0, none⟩ (.int .i64 ht)).setCell ⟨C, 1, none⟩ (.int .u64 hn9)).setCell ⟨C, 2, none⟩ (.string ⟨hs.toArray⟩)) = Wb := HWb.out
    have HEb := hid eWb
    clear eWb
    unfold wpChain
    go_wp2
    rw [HEb.out]
    clear y0 y1 y2 y3 y4 y5 hlC HEb HWb
    refine ⟨⟨⟨_, HFb.out⟩, rfl⟩, ?_⟩
    unfold wpChain
    go_wp2
    refine ⟨⟨⟨_, HFb.out⟩, rfl⟩, ?_⟩
    rw [wpChain_zero]
    have D1 := HP.out.d.fr HFb.out
    have HD := hid D1
    obtain ⟨p0, p1, p2, p3, p4, p5, lp⟩ := D1.pc
    obtain ⟨q0, q1, q2, q3, q4, q5, lq⟩ := D1.qc
    dsimp only [nilV] at p0 p1 p2 q0 q1 q2
    have ne := D1.ne
    have ne2 : bq ≠ bp := fun e => ne e.symm
    obtain ⟨x0, x1, x2⟩ := Has.cells3 (v := ⟨gt, gn, gs⟩) HBb.out
    obtain ⟨y0, y1, y2⟩ := Has.cells3 (v := ⟨ht, hn9, hs⟩) HCb.out
    dsimp only at x0 x1 x2 y0 y1 y2
    have lx := HBb.out.lt
    have ly := HCb.out.lt
    have sB : W.heap.size ≤ B := lB
    have n1 : B ≠ bp := fun e => by have := HP.out.d.Lp.h.lt; omega
    have n2 : C ≠ bp := fun e => by have := HP.out.d.Lp.h.lt; omega
    have n3 : B ≠ bq := fun e => by have := HP.out.d.Lq.h.lt; omega
    have n4 : C ≠ bq := fun e => by have := HP.out.d.Lq.h.lt; omega
    have m1 : bp ≠ B := fun e => n1 e.symm
    have m2 : bp ≠ C := fun e => n2 e.symm
    have m3 : bq ≠ B := fun e => n3 e.symm
    have m4 : bq ≠ C := fun e => n4 e.symm
    clear D1 HFb HFa HHB HHC
    clear Wa
    rcases HRES.out with ⟨rfl, hr⟩ | ⟨rfl, hr⟩
    · have HC : Hid (Calls Tryz.prog 121 #[.pointer (some ⟨A.br, 0, none⟩), sv [110, 101, 120, 116]] Wb (PQm w A N root (m.raise mNext))) := HD.out.B.raise HK.out.thr mNext (by decide)
      have HR := hid hr
      clear hr
      go_wp2_with fail
      refine HC.out.mono ?_
      intro e3 w3 hq
      obtain rfl := hq.1
      have FIN : Hid (Q (.returned (.tuple #[])) w3) := by
        show Q _ _
        rw [← HQ.out, HR.out]
        exact hq
      clear hq
      go_wp2
      refine bodyPost_ret (results_none rfl _ _ _) rfl ?_
      exact FIN.out
    · have HE2 := HEND.out hr
      have HR := hid HE2
      clear hr HE2
      go_wp2_with fail
      exact HR.out _ _ _ ((HD.out.setP ⟨gt, gn, gs⟩).setQ ⟨ht, hn9, hs⟩) ⟨by kernel_rfl, by kernel_rfl, by kernel_rfl, by kernel_rfl, rfl⟩
  · intro G HG
    refine ⟨⟨_, rfl, ?_⟩, ⟨_, rfl, ?_⟩, ⟨_, rfl, ?_⟩⟩
    · go_wp2_with fail
      refine ⟨⟨⟨_, ((Fr.refl _ W).drew)⟩, rfl⟩, ⟨_, rfl, ?_⟩, ⟨_, rfl, ?_⟩, ⟨_, rfl, ?_⟩⟩
      · go_wp2_with fail
        refine (NXT.out _ ((Fr.refl _ W).drew)).mono ?_
        rintro e31 y1 ⟨rfl, g1⟩
        have f1 : Fr (fun _ => False) W y1 := ((Fr.refl _ W).drew).trans g1 (fun _ _ x => x)
        have z1 := f1.size
        clear g1
        go_wp2_with fail
        refine ⟨⟨⟨_, f1⟩, rfl⟩, [_, _, _, _], rfl, ?_⟩
        simp only [List.getElem_toArray, List.getElem_cons_succ, List.getElem_cons_zero]
        repeat go_big_quiet_step (fail)
        refine wpQuiet_nil ?_
        refine ⟨⟨_, rfl, ?_⟩, ⟨_, rfl, ?_⟩⟩
        · go_wp2_with fail
          refine ⟨⟨⟨_, (f1.alloc (.cells #[.int .i64 0, .int .u64 0, sv []] 68))⟩, rfl⟩, _, rfl, ?_⟩
          go_wp2_with fail
          refine ⟨⟨⟨_, ((f1.alloc (.cells #[.int .i64 0, .int .u64 0, sv []] 68)).alloc (.cells #[.int .i64 0, .int .u64 0, sv []] 68))⟩, rfl⟩, ?_⟩
          show G _ _
          rw [HG.out]
          exact ⟨y1.heap.size, y1.heap.size + 1, by kernel_rfl, ((f1.alloc (.cells #[.int .i64 0, .int .u64 0, sv []] 68)).alloc (.cells #[.int .i64 0, .int .u64 0, sv []] 68)), ((Has.newC _ _ _ (by simp)).alloc _), (Has.newC _ _ _ (by simp)), by omega, by omega, by omega⟩
        · go_wp2_with fail
          refine ⟨⟨⟨_, (f1.alloc (.cells #[.int .i64 0, .int .u64 0, sv []] 68))⟩, rfl⟩, _, rfl, ?_⟩
          go_wp2_with fail
          refine ⟨⟨⟨_, ((f1.alloc (.cells #[.int .i64 0, .int .u64 0, sv []] 68)).alloc (.cells #[.int .i64 0, .int .u64 0, sv []] 68))⟩, rfl⟩, ?_⟩
          show G _ _
          rw [HG.out]
          exact ⟨y1.heap.size + 1, y1.heap.size, by kernel_rfl, ((f1.alloc (.cells #[.int .i64 0, .int .u64 0, sv []] 68)).alloc (.cells #[.int .i64 0, .int .u64 0, sv []] 68)), (Has.newC _ _ _ (by simp)), ((Has.newC _ _ _ (by simp)).alloc _), by omega, by omega, by omega⟩
      · go_wp2_with fail
        refine ⟨⟨⟨_, (((Fr.refl _ W).drew).alloc (.cells #[.int .i64 0, .int .u64 0, sv []] 68))⟩, rfl⟩, ⟨_, rfl, ?_⟩, ⟨_, rfl, ?_⟩⟩
        · go_wp2_with fail
          refine (NXT.out _ (((Fr.refl _ W).drew).alloc (.cells #[.int .i64 0, .int .u64 0, sv []] 68))).mono ?_
          rintro e37 y7 ⟨rfl, g7⟩
          have f7 : Fr (fun _ => False) W y7 := (((Fr.refl _ W).drew).alloc (.cells #[.int .i64 0, .int .u64 0, sv []] 68)).trans g7 (fun _ _ x => x)
          have z7 := f7.size
          have h7_13 : Has y7 (W.heap.size) #[.int .i64 0, .int .u64 0, sv []] 68 := Has.fr (Has.newC _ _ _ (by simp)) g7 (fun x => x)
          have l7_13 := h7_13.lt
          clear g7
          go_wp2_with fail
          refine ⟨⟨⟨_, f7⟩, rfl⟩, [_, _, _, _], rfl, ?_⟩
          simp only [List.getElem_toArray, List.getElem_cons_succ, List.getElem_cons_zero]
          repeat go_big_quiet_step (fail)
          refine wpQuiet_nil ?_
          refine ⟨_, rfl, ?_⟩
          go_wp2_with fail
          refine ⟨⟨⟨_, (f7.alloc (.cells #[.int .i64 0, .int .u64 0, sv []] 68))⟩, rfl⟩, ?_⟩
          show G _ _
          rw [HG.out]
          exact ⟨W.heap.size, y7.heap.size, by kernel_rfl, (f7.alloc (.cells #[.int .i64 0, .int .u64 0, sv []] 68)), (h7_13.alloc _), (Has.newC _ _ _ (by simp)), by omega, by omega, by omega⟩
        · go_wp2_with fail
          refine ⟨⟨⟨_, ((((Fr.refl _ W).drew).alloc (.cells #[.int .i64 0, .int .u64 0, sv []] 68)).alloc (.cells #[.int .i64 0, .int .u64 0, sv []] 68))⟩, rfl⟩, _, rfl, ?_⟩
          go_wp2_with fail
          refine (NXT.out _ ((((Fr.refl _ W).drew).alloc (.cells #[.int .i64 0, .int .u64 0, sv []] 68)).alloc (.cells #[.int .i64 0, .int .u64 0, sv []] 68))).mono ?_
          rintro e40 y10 ⟨rfl, g10⟩
          have f10 : Fr (fun _ => False) W y10 := ((((Fr.refl _ W).drew).alloc (.cells #[.int .i64 0, .int .u64 0, sv []] 68)).alloc (.cells #[.int .i64 0, .int .u64 0, sv []] 68)).trans g10 (fun _ _ x => x)
          have z10 := f10.size
          have h10_13 : Has y10 (W.heap.size) #[.int .i64 0, .int .u64 0, sv []] 68 := Has.fr ((Has.newC _ _ _ (by simp)).alloc _) g10 (fun x => x)
          have l10_13 := h10_13.lt
          have h10_14 : Has y10 (W.heap.size + 1) #[.int .i64 0, .int .u64 0, sv []] 68 := Has.fr (Has.newC _ _ _ (by simp)) g10 (fun x => x)
          have l10_14 := h10_14.lt
          clear g10
          go_wp2_with fail
          refine ⟨⟨⟨_, f10⟩, rfl⟩, [_, _, _, _], rfl, ?_⟩
          simp only [List.getElem_toArray, List.getElem_cons_succ, List.getElem_cons_zero]
          repeat go_big_quiet_step (fail)
          refine wpQuiet_nil ?_
          show G _ _
          rw [HG.out]
          exact ⟨W.heap.size, W.heap.size + 1, by kernel_rfl, f10, h10_13, h10_14, by omega, by omega, by omega⟩
      · go_wp2_with fail
        refine ⟨⟨⟨_, (((Fr.refl _ W).drew).alloc (.cells #[.int .i64 0, .int .u64 0, sv []] 68))⟩, rfl⟩, ⟨_, rfl, ?_⟩, ⟨_, rfl, ?_⟩⟩
        · go_wp2_with fail
          refine (NXT.out _ (((Fr.refl _ W).drew).alloc (.cells #[.int .i64 0, .int .u64 0, sv []] 68))).mono ?_
          rintro e42 y12 ⟨rfl, g12⟩
          have f12 : Fr (fun _ => False) W y12 := (((Fr.refl _ W).drew).alloc (.cells #[.int .i64 0, .int .u64 0, sv []] 68)).trans g12 (fun _ _ x => x)
          have z12 := f12.size
          have h12_14 : Has y12 (W.heap.size) #[.int .i64 0, .int .u64 0, sv []] 68 := Has.fr (Has.newC _ _ _ (by simp)) g12 (fun x => x)
          have l12_14 := h12_14.lt
          clear g12
          go_wp2_with fail
          refine ⟨⟨⟨_, f12⟩, rfl⟩, [_, _, _, _], rfl, ?_⟩
          simp only [List.getElem_toArray, List.getElem_cons_succ, List.getElem_cons_zero]
          repeat go_big_quiet_step (fail)
          refine wpQuiet_nil ?_
          refine ⟨_, rfl, ?_⟩
          go_wp2_with fail
          refine ⟨⟨⟨_, (f12.alloc (.cells #[.int .i64 0, .int .u64 0, sv []] 68))⟩, rfl⟩, ?_⟩
          show G _ _
          rw [HG.out]
          exact ⟨y12.heap.size, W.heap.size, by kernel_rfl, (f12.alloc (.cells #[.int .i64 0, .int .u64 0, sv []] 68)), (Has.newC _ _ _ (by simp)), (h12_14.alloc _), by omega, by omega, by omega⟩
        · go_wp2_with fail
          refine ⟨⟨⟨_, ((((Fr.refl _ W).drew).alloc (.cells #[.int .i64 0, .int .u64 0, sv []] 68)).alloc (.cells #[.int .i64 0, .int .u64 0, sv []] 68))⟩, rfl⟩, _, rfl, ?_⟩
          go_wp2_with fail
          refine (NXT.out _ ((((Fr.refl _ W).drew).alloc (.cells #[.int .i64 0, .int .u64 0, sv []] 68)).alloc (.cells #[.int .i64 0, .int .u64 0, sv []] 68))).mono ?_
          rintro e45 y15 ⟨rfl, g15⟩
          have f15 : Fr (fun _ => False) W y15 := ((((Fr.refl _ W).drew).alloc (.cells #[.int .i64 0, .int .u64 0, sv []] 68)).alloc (.cells #[.int .i64 0, .int .u64 0, sv []] 68)).trans g15 (fun _ _ x => x)
          have z15 := f15.size
          have h15_14 : Has y15 (W.heap.size) #[.int .i64 0, .int .u64 0, sv []] 68 := Has.fr ((Has.newC _ _ _ (by simp)).alloc _) g15 (fun x => x)
          have l15_14 := h15_14.lt
          have h15_13 : Has y15 (W.heap.size + 1) #[.int .i64 0, .int .u64 0, sv []] 68 := Has.fr (Has.newC _ _ _ (by simp)) g15 (fun x => x)
          have l15_13 := h15_13.lt
          clear g15
          go_wp2_with fail
          refine ⟨⟨⟨_, f15⟩, rfl⟩, [_, _, _, _], rfl, ?_⟩
          simp only [List.getElem_toArray, List.getElem_cons_succ, List.getElem_cons_zero]
          repeat go_big_quiet_step (fail)
          refine wpQuiet_nil ?_
          show G _ _
          rw [HG.out]
          exact ⟨W.heap.size + 1, W.heap.size, by kernel_rfl, f15, h15_13, h15_14, by omega, by omega, by omega⟩
    · go_wp2_with fail
      refine ⟨⟨⟨_, (((Fr.refl _ W).drew).alloc (.cells #[.int .i64 0, .int .u64 0, sv []] 68))⟩, rfl⟩, ⟨_, rfl, ?_⟩, ⟨_, rfl, ?_⟩⟩
      · go_wp2_with fail
        refine ⟨⟨⟨_, (((Fr.refl _ W).drew).alloc (.cells #[.int .i64 0, .int .u64 0, sv []] 68))⟩, rfl⟩, ⟨_, rfl, ?_⟩, ⟨_, rfl, ?_⟩⟩
        · go_wp2_with fail
          refine (NXT.out _ (((Fr.refl _ W).drew).alloc (.cells #[.int .i64 0, .int .u64 0, sv []] 68))).mono ?_
          rintro e47 y17 ⟨rfl, g17⟩
          have f17 : Fr (fun _ => False) W y17 := (((Fr.refl _ W).drew).alloc (.cells #[.int .i64 0, .int .u64 0, sv []] 68)).trans g17 (fun _ _ x => x)
          have z17 := f17.size
          have h17_13 : Has y17 (W.heap.size) #[.int .i64 0, .int .u64 0, sv []] 68 := Has.fr (Has.newC _ _ _ (by simp)) g17 (fun x => x)
          have l17_13 := h17_13.lt
          clear g17
          go_wp2_with fail
          refine ⟨⟨⟨_, f17⟩, rfl⟩, [_, _, _, _], rfl, ?_⟩
          simp only [List.getElem_toArray, List.getElem_cons_succ, List.getElem_cons_zero]
          repeat go_big_quiet_step (fail)
          refine wpQuiet_nil ?_
          refine ⟨_, rfl, ?_⟩
          go_wp2_with fail
          refine ⟨⟨⟨_, (f17.alloc (.cells #[.int .i64 0, .int .u64 0, sv []] 68))⟩, rfl⟩, ?_⟩
          show G _ _
          rw [HG.out]
          exact ⟨W.heap.size, y17.heap.size, by kernel_rfl, (f17.alloc (.cells #[.int .i64 0, .int .u64 0, sv []] 68)), (h17_13.alloc _), (Has.newC _ _ _ (by simp)), by omega, by omega, by omega⟩
        · go_wp2_with fail
          refine ⟨⟨⟨_, ((((Fr.refl _ W).drew).alloc (.cells #[.int .i64 0, .int .u64 0, sv []] 68)).alloc (.cells #[.int .i64 0, .int .u64 0, sv []] 68))⟩, rfl⟩, _, rfl, ?_⟩
          go_wp2_with fail
          refine (NXT.out _ ((((Fr.refl _ W).drew).alloc (.cells #[.int .i64 0, .int .u64 0, sv []] 68)).alloc (.cells #[.int .i64 0, .int .u64 0, sv []] 68))).mono ?_
          rintro e50 y20 ⟨rfl, g20⟩
          have f20 : Fr (fun _ => False) W y20 := ((((Fr.refl _ W).drew).alloc (.cells #[.int .i64 0, .int .u64 0, sv []] 68)).alloc (.cells #[.int .i64 0, .int .u64 0, sv []] 68)).trans g20 (fun _ _ x => x)
          have z20 := f20.size
          have h20_13 : Has y20 (W.heap.size) #[.int .i64 0, .int .u64 0, sv []] 68 := Has.fr ((Has.newC _ _ _ (by simp)).alloc _) g20 (fun x => x)
          have l20_13 := h20_13.lt
          have h20_14 : Has y20 (W.heap.size + 1) #[.int .i64 0, .int .u64 0, sv []] 68 := Has.fr (Has.newC _ _ _ (by simp)) g20 (fun x => x)
          have l20_14 := h20_14.lt
          clear g20
          go_wp2_with fail
          refine ⟨⟨⟨_, f20⟩, rfl⟩, [_, _, _, _], rfl, ?_⟩
          simp only [List.getElem_toArray, List.getElem_cons_succ, List.getElem_cons_zero]
          repeat go_big_quiet_step (fail)
          refine wpQuiet_nil ?_
          show G _ _
          rw [HG.out]
          exact ⟨W.heap.size, W.heap.size + 1, by kernel_rfl, f20, h20_13, h20_14, by omega, by omega, by omega⟩
      · go_wp2_with fail
        refine ⟨⟨⟨_, ((((Fr.refl _ W).drew).alloc (.cells #[.int .i64 0, .int .u64 0, sv []] 68)).alloc (.cells #[.int .i64 0, .int .u64 0, sv []] 68))⟩, rfl⟩, _, rfl, ?_⟩
        go_wp2_with fail
        refine ⟨⟨⟨_, ((((Fr.refl _ W).drew).alloc (.cells #[.int .i64 0, .int .u64 0, sv []] 68)).alloc (.cells #[.int .i64 0, .int .u64 0, sv []] 68))⟩, rfl⟩, _, rfl, ?_⟩
        go_wp2_with fail
        refine (NXT.out _ ((((Fr.refl _ W).drew).alloc (.cells #[.int .i64 0, .int .u64 0, sv []] 68)).alloc (.cells #[.int .i64 0, .int .u64 0, sv []] 68))).mono ?_
        rintro e52 y22 ⟨rfl, g22⟩
        have f22 : Fr (fun _ => False) W y22 := ((((Fr.refl _ W).drew).alloc (.cells #[.int .i64 0, .int .u64 0, sv []] 68)).alloc (.cells #[.int .i64 0, .int .u64 0, sv []] 68)).trans g22 (fun _ _ x => x)
        have z22 := f22.size
        have h22_13 : Has y22 (W.heap.size) #[.int .i64 0, .int .u64 0, sv []] 68 := Has.fr ((Has.newC _ _ _ (by simp)).alloc _) g22 (fun x => x)
        have l22_13 := h22_13.lt
        have h22_14 : Has y22 (W.heap.size + 1) #[.int .i64 0, .int .u64 0, sv []] 68 := Has.fr (Has.newC _ _ _ (by simp)) g22 (fun x => x)
        have l22_14 := h22_14.lt
        clear g22
        go_wp2_with fail
        refine ⟨⟨⟨_, f22⟩, rfl⟩, [_, _, _, _], rfl, ?_⟩
        simp only [List.getElem_toArray, List.getElem_cons_succ, List.getElem_cons_zero]
        repeat go_big_quiet_step (fail)
        refine wpQuiet_nil ?_
        show G _ _
        rw [HG.out]
        exact ⟨W.heap.size, W.heap.size + 1, by kernel_rfl, f22, h22_13, h22_14, by omega, by omega, by omega⟩
    · go_wp2_with fail
      refine ⟨⟨⟨_, (((Fr.refl _ W).drew).alloc (.cells #[.int .i64 0, .int .u64 0, sv []] 68))⟩, rfl⟩, ⟨_, rfl, ?_⟩, ⟨_, rfl, ?_⟩⟩
      · go_wp2_with fail
        refine ⟨⟨⟨_, (((Fr.refl _ W).drew).alloc (.cells #[.int .i64 0, .int .u64 0, sv []] 68))⟩, rfl⟩, ⟨_, rfl, ?_⟩, ⟨_, rfl, ?_⟩⟩
        · go_wp2_with fail
          refine (NXT.out _ (((Fr.refl _ W).drew).alloc (.cells #[.int .i64 0, .int .u64 0, sv []] 68))).mono ?_
          rintro e54 y24 ⟨rfl, g24⟩
          have f24 : Fr (fun _ => False) W y24 := (((Fr.refl _ W).drew).alloc (.cells #[.int .i64 0, .int .u64 0, sv []] 68)).trans g24 (fun _ _ x => x)
          have z24 := f24.size
          have h24_14 : Has y24 (W.heap.size) #[.int .i64 0, .int .u64 0, sv []] 68 := Has.fr (Has.newC _ _ _ (by simp)) g24 (fun x => x)
          have l24_14 := h24_14.lt
          clear g24
          go_wp2_with fail
          refine ⟨⟨⟨_, f24⟩, rfl⟩, [_, _, _, _], rfl, ?_⟩
          simp only [List.getElem_toArray, List.getElem_cons_succ, List.getElem_cons_zero]
          repeat go_big_quiet_step (fail)
          refine wpQuiet_nil ?_
          refine ⟨_, rfl, ?_⟩
          go_wp2_with fail
          refine ⟨⟨⟨_, (f24.alloc (.cells #[.int .i64 0, .int .u64 0, sv []] 68))⟩, rfl⟩, ?_⟩
          show G _ _
          rw [HG.out]
          exact ⟨y24.heap.size, W.heap.size, by kernel_rfl, (f24.alloc (.cells #[.int .i64 0, .int .u64 0, sv []] 68)), (Has.newC _ _ _ (by simp)), (h24_14.alloc _), by omega, by omega, by omega⟩
        · go_wp2_with fail
          refine ⟨⟨⟨_, ((((Fr.refl _ W).drew).alloc (.cells #[.int .i64 0, .int .u64 0, sv []] 68)).alloc (.cells #[.int .i64 0, .int .u64 0, sv []] 68))⟩, rfl⟩, _, rfl, ?_⟩
          go_wp2_with fail
          refine (NXT.out _ ((((Fr.refl _ W).drew).alloc (.cells #[.int .i64 0, .int .u64 0, sv []] 68)).alloc (.cells #[.int .i64 0, .int .u64 0, sv []] 68))).mono ?_
          rintro e57 y27 ⟨rfl, g27⟩
          have f27 : Fr (fun _ => False) W y27 := ((((Fr.refl _ W).drew).alloc (.cells #[.int .i64 0, .int .u64 0, sv []] 68)).alloc (.cells #[.int .i64 0, .int .u64 0, sv []] 68)).trans g27 (fun _ _ x => x)
          have z27 := f27.size
          have h27_14 : Has y27 (W.heap.size) #[.int .i64 0, .int .u64 0, sv []] 68 := Has.fr ((Has.newC _ _ _ (by simp)).alloc _) g27 (fun x => x)
          have l27_14 := h27_14.lt
          have h27_13 : Has y27 (W.heap.size + 1) #[.int .i64 0, .int .u64 0, sv []] 68 := Has.fr (Has.newC _ _ _ (by simp)) g27 (fun x => x)
          have l27_13 := h27_13.lt
          clear g27
          go_wp2_with fail
          refine ⟨⟨⟨_, f27⟩, rfl⟩, [_, _, _, _], rfl, ?_⟩
          simp only [List.getElem_toArray, List.getElem_cons_succ, List.getElem_cons_zero]
          repeat go_big_quiet_step (fail)
          refine wpQuiet_nil ?_
          show G _ _
          rw [HG.out]
          exact ⟨W.heap.size + 1, W.heap.size, by kernel_rfl, f27, h27_13, h27_14, by omega, by omega, by omega⟩
      · go_wp2_with fail
        refine ⟨⟨⟨_, ((((Fr.refl _ W).drew).alloc (.cells #[.int .i64 0, .int .u64 0, sv []] 68)).alloc (.cells #[.int .i64 0, .int .u64 0, sv []] 68))⟩, rfl⟩, _, rfl, ?_⟩
        go_wp2_with fail
        refine ⟨⟨⟨_, ((((Fr.refl _ W).drew).alloc (.cells #[.int .i64 0, .int .u64 0, sv []] 68)).alloc (.cells #[.int .i64 0, .int .u64 0, sv []] 68))⟩, rfl⟩, _, rfl, ?_⟩
        go_wp2_with fail
        refine (NXT.out _ ((((Fr.refl _ W).drew).alloc (.cells #[.int .i64 0, .int .u64 0, sv []] 68)).alloc (.cells #[.int .i64 0, .int .u64 0, sv []] 68))).mono ?_
        rintro e59 y29 ⟨rfl, g29⟩
        have f29 : Fr (fun _ => False) W y29 := ((((Fr.refl _ W).drew).alloc (.cells #[.int .i64 0, .int .u64 0, sv []] 68)).alloc (.cells #[.int .i64 0, .int .u64 0, sv []] 68)).trans g29 (fun _ _ x => x)
        have z29 := f29.size
        have h29_14 : Has y29 (W.heap.size) #[.int .i64 0, .int .u64 0, sv []] 68 := Has.fr ((Has.newC _ _ _ (by simp)).alloc _) g29 (fun x => x)
        have l29_14 := h29_14.lt
        have h29_13 : Has y29 (W.heap.size + 1) #[.int .i64 0, .int .u64 0, sv []] 68 := Has.fr (Has.newC _ _ _ (by simp)) g29 (fun x => x)
        have l29_13 := h29_13.lt
        clear g29
        go_wp2_with fail
        refine ⟨⟨⟨_, f29⟩, rfl⟩, [_, _, _, _], rfl, ?_⟩
        simp only [List.getElem_toArray, List.getElem_cons_succ, List.getElem_cons_zero]
        repeat go_big_quiet_step (fail)
        refine wpQuiet_nil ?_
        show G _ _
        rw [HG.out]
        exact ⟨W.heap.size + 1, W.heap.size, by kernel_rfl, f29, h29_13, h29_14, by omega, by omega, by omega⟩
theorem ap_b7b (P : ApC w A N root W A1 m bA bF xb ba bb bp bq fn args) (K : ApOk N m fn args) (H : FrAq (.pointer (some ⟨A.br, 0, none⟩)) (.pointer (some ⟨xb, 0, none⟩)) (.pointer (some ⟨bA, 0, none⟩)) (.pointer (some ⟨bF, 0, none⟩)) (.pointer (some ⟨ba, 0, none⟩)) (.pointer (some ⟨bb, 0, none⟩)) (.pointer (some ⟨bp, 0, none⟩)) (.pointer (some ⟨bq, 0, none⟩)) a) (hn : fn.n = 7) (ht : (args.getD 0 nilV).t = 4) (hx : (m.tabs.getD (args.getD 0 nilV).n tab0).next (args.getD 1 nilV) = none) :
    (apB Tryz.f126.body).wp Tryz.prog (bodyPost Tryz.prog Tryz.f126 (PQm w A N root (m.raise mNext))) a W := by
  have := ap_b7 P K H hn ht
  rw [hx] at this
  exact this
theorem ap_b7c (P : ApC w A N root W A1 m bA bF xb ba bb bp bq fn args) (K : ApOk N m fn args) (H : FrAq (.pointer (some ⟨A.br, 0, none⟩)) (.pointer (some ⟨xb, 0, none⟩)) (.pointer (some ⟨bA, 0, none⟩)) (.pointer (some ⟨bF, 0, none⟩)) (.pointer (some ⟨ba, 0, none⟩)) (.pointer (some ⟨bb, 0, none⟩)) (.pointer (some ⟨bp, 0, none⟩)) (.pointer (some ⟨bq, 0, none⟩)) a) (hn : fn.n = 7) (ht : (args.getD 0 nilV).t = 4) {e : Vl × Vl} (hx : (m.tabs.getD (args.getD 0 nilV).n tab0).next (args.getD 1 nilV) = some e) :
    (apB Tryz.f126.body).wp Tryz.prog (bodyPost Tryz.prog Tryz.f126 (PQm w A N root (m.push [e.1, e.2]))) a W := by
  have := ap_b7 P K H hn ht
  rw [hx] at this
  exact this
end
end Go.Proofs.Qxb6500574aGreatDoor
