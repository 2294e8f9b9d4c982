/-
  THE WALKS of compm: step: a table is read.
-/
import Derived.Test.Qxb6500574aGreatDoorZD13
namespace Go.Proofs.Qxb6500574aGreatDoor
open Go Go.RowKit
set_option linter.unusedVariables false
set_option linter.unusedSimpArgs false
section
variable {w W W1 : World} {A A1 A2 : RnP} {N : List Nd} {root : Nat} {M m : MD} {k : TkD} {r : List TkD} {d : Nd} {bT bD xb : Nat} {a : Act}
set_option maxRecDepth 100000
set_option maxHeartbeats 2000000
theorem st28b (P : StZ w A N root W A1 m bT bD xb k d) (hk : k.k = 28) (H : FrZs (.pointer (some ⟨A.br, 0, none⟩)) (.pointer (some ⟨xb, 0, none⟩)) (.pointer (some ⟨bT, 0, none⟩)) (.pointer (some ⟨bD, 0, none⟩)) (.int .i64 k.k) a) (hl : m.th.tasks.length ≤ 900000) (hvl : m.th.vals.length ≤ 900000) (hv : 2 ≤ m.th.vals.length) (hw0 : WvB (m.topM 0)) (TI : ∀ t ∈ m.tabs, TTi t) (h12 : m.tabs.length ≤ 12) (u4 : ((m.pops 1).topM 0).t = 4) (ut : ((m.pops 1).topM 0).n < m.tabs.length) :
    (cTz (stC 27 (cI (stB Tryz.f77.body)))).wp Tryz.prog (Exit.inBlock 0 (bodyPost Tryz.prog Tryz.f77 (PQm w A N root ((m.pops 2).push [(m.tabs.getD ((m.pops 1).topM 0).n tab0).get (m.topM 0)])))) a W := by
  obtain ⟨u, rfl⟩ := H.form
  obtain ⟨kk, kn, kx, ke⟩ := k
  obtain ⟨dk, da, db, dc, dnx, dn, dss, dp⟩ := d
  dsimp only at hk
  subst hk
  obtain ⟨Q, HQ⟩ : ∃ Q : Ending → World → Prop, Hid (PQm w A N root ((m.pops 2).push [(m.tabs.getD ((m.pops 1).topM 0).n tab0).get (m.topM 0)]) = Q) := ⟨_, rfl⟩
  dsimp only at HQ ⊢
  rw [HQ.out]
  obtain ⟨ea, HEA⟩ : ∃ ea, Hid (eAd A.E ke = ea) := ⟨_, rfl⟩
  have HE : Hid (∀ i, ke = some i → i < A.E.length) := P.he
  have HB0 := hid P.B
  have HLT0 : Hid (LcB W A1 bT #[.int .i64 (28 : Nat), .int .i64 kn, .int .i64 kx, .pointer ea] 224) := by
    have := P.LT
    dsimp only at this
    rw [HEA.out] at this
    exact this
  have HLD0 : Hid (LcB W A1 bD #[.int .i64 (dk : Nat), .int .i64 (da : Nat), .int .i64 (db : Nat), .int .i64 (dc : Nat), .int .i64 (dnx : Nat), .int .u64 (dn : Nat), sv dss, .int .i64 (dp : Nat)] 134) := P.LD
  have HT0 : Hid (m.th.tasks.length ≤ 900000 + 0) := hl
  have HV0 : Hid (m.th.vals.length ≤ 900000 + 0) := hvl
  have HXX := hid P.x
  have HBC := hid P.B.c
  have HVP : Hid (0 < m.th.vals.length) := by show _ < _; omega
  have HVP1 : Hid (0 < (m.pops 1).th.vals.length) := by show _ < _; rw [th_pops HBC.out]; simp; omega
  clear hv
  have HW0 : Hid (∀ v, m.topM 0 = v → WvB v) := fun v hv => by rw [← hv]; exact hw0
  have HTI := hid TI
  have H12 := hid h12
  have HU4 : Hid (∀ v, (m.pops 1).topM 0 = v → v.t = 4) := fun v hv => by rw [← hv]; exact u4
  have HUT : Hid (∀ v, (m.pops 1).topM 0 = v → v.n < m.tabs.length) := fun v hv => by rw [← hv]; exact ut
  clear hw0 TI h12 u4 ut
  clear P H hl hvl
  obtain ⟨c, hc⟩ : ∃ c, c = cTz (stC 27 (cI (stB Tryz.f77.body))) := ⟨_, rfl⟩
  rw [← hc]
  simp only [cTz, cE, cI, cR, stC, stB, Tryz.f77, Option.getD_some] at hc
  subst hc
  have t0 := HLT0.out.h.cell 0
  have t1 := HLT0.out.h.cell 1
  have t2 := HLT0.out.h.cell 2
  have t3 := HLT0.out.h.cell 3
  simp only [List.getElem?_toArray, List.getElem?_cons_succ, List.getElem?_cons_zero] at t0 t1 t2 t3
  have lT := HLT0.out.h.lt
  have d0 := HLD0.out.h.cell 0
  have d1 := HLD0.out.h.cell 1
  have d2 := HLD0.out.h.cell 2
  have d3 := HLD0.out.h.cell 3
  have d4 := HLD0.out.h.cell 4
  have d5 := HLD0.out.h.cell 5
  have d6 := HLD0.out.h.cell 6
  have d7 := HLD0.out.h.cell 7
  simp only [List.getElem?_toArray, List.getElem?_cons_succ, List.getElem?_cons_zero] at d0 d1 d2 d3 d4 d5 d6 d7
  have lD := HLD0.out.h.lt
  obtain ⟨cc0, cc1, lcc⟩ := HB0.out.c0
  obtain ⟨⟨vt, vn, vs⟩, HXv⟩ : ∃ v, Hid (m.topM 0 = v) := ⟨_, rfl⟩
  have CC := HB0.out.pop (HVP.out) (by have := HV0.out; omega)
  rw [HXv.out] at CC
  have HCC : Hid (Calls Tryz.prog 116 #[.pointer (some ⟨A.br, 0, none⟩)] W (fun e w' => e = .returned (.agg #[.int .i64 vt, .int .u64 vn, sv vs]) ∧ ∃ A', RB w A N root w' A' (m.pops 1) ∧ MSt W A1 w' A')) := CC
  clear CC
  go_wp2_with fail
  refine HCC.out.mono ?_
  rintro e9 w1 ⟨rfl, A11, BB, SS⟩
  clear t0 t1 t2 t3 lT d0 d1 d2 d3 d4 d5 d6 d7 lD cc0 cc1 lcc
  clear HCC
  have FA : Fr (fun _ => False) w1 (w1.alloc (.cells #[.int .i64 vt, .int .u64 vn, sv vs] 68)) := (Fr.refl _ _).alloc _
  have HB1 := hid (BB.fresh FA)
  have HLT1 := hid ((HLT0.out.st SS).fr FA)
  have HLD1 := hid ((HLD0.out.st SS).fr FA)
  have HLV1 : Hid (LcB (w1.alloc (.cells #[.int .i64 vt, .int .u64 vn, sv vs] 68)) A11 w1.heap.size #[.int .i64 vt, .int .u64 vn, sv vs] 68) := LcB.new BB.r.own _ _
  have HS1 := hid (SS.trans (MSt.fresh _ FA))
  clear FA BB SS
  have HT1 : Hid ((m.pops 1).th.tasks.length ≤ 900000 + 1) := by
    show _ ≤ _
    rw [th_pops HB0.out.c]
    have := HT0.out
    simp
    omega
  have HV1 : Hid ((m.pops 1).th.vals.length ≤ 900000 + 1) := by
    show _ ≤ _
    rw [th_pops HB0.out.c]
    have := HV0.out
    simp
    omega
  have t0 := HLT1.out.h.cell 0
  have t1 := HLT1.out.h.cell 1
  have t2 := HLT1.out.h.cell 2
  have t3 := HLT1.out.h.cell 3
  simp only [List.getElem?_toArray, List.getElem?_cons_succ, List.getElem?_cons_zero] at t0 t1 t2 t3
  have lT := HLT1.out.h.lt
  have d0 := HLD1.out.h.cell 0
  have d1 := HLD1.out.h.cell 1
  have d2 := HLD1.out.h.cell 2
  have d3 := HLD1.out.h.cell 3
  have d4 := HLD1.out.h.cell 4
  have d5 := HLD1.out.h.cell 5
  have d6 := HLD1.out.h.cell 6
  have d7 := HLD1.out.h.cell 7
  simp only [List.getElem?_toArray, List.getElem?_cons_succ, List.getElem?_cons_zero] at d0 d1 d2 d3 d4 d5 d6 d7
  have lD := HLD1.out.h.lt
  have v0 := HLV1.out.h.cell 0
  have v1 := HLV1.out.h.cell 1
  have v2 := HLV1.out.h.cell 2
  simp only [List.getElem?_toArray, List.getElem?_cons_succ, List.getElem?_cons_zero] at v0 v1 v2
  have lV := HLV1.out.h.lt
  obtain ⟨cc0, cc1, lcc⟩ := HB1.out.c0
  obtain ⟨⟨ut, un, us⟩, HXu⟩ : ∃ v, Hid ((m.pops 1).topM 0 = v) := ⟨_, rfl⟩
  have CC := HB1.out.pop (HVP1.out) (by have := HV1.out; omega)
  rw [HXu.out] at CC
  have HCC : Hid (Calls Tryz.prog 116 #[.pointer (some ⟨A.br, 0, none⟩)] (w1.alloc (.cells #[.int .i64 vt, .int .u64 vn, sv vs] 68)) (fun e w' => e = .returned (.agg #[.int .i64 ut, .int .u64 un, sv us]) ∧ ∃ A', RB w A N root w' A' ((m.pops 1).pops 1) ∧ MSt (w1.alloc (.cells #[.int .i64 vt, .int .u64 vn, sv vs] 68)) A11 w' A')) := CC
  clear CC
  go_wp2_with fail
  refine HCC.out.mono ?_
  rintro e10 w2 ⟨rfl, A12, BB, SS⟩
  clear t0 t1 t2 t3 lT d0 d1 d2 d3 d4 d5 d6 d7 lD v0 v1 v2 lV cc0 cc1 lcc
  clear HCC
  have FA : Fr (fun _ => False) w2 (w2.alloc (.cells #[.int .i64 ut, .int .u64 un, sv us] 68)) := (Fr.refl _ _).alloc _
  have HB2 := hid (BB.fresh FA)
  have HLT2 := hid ((HLT1.out.st SS).fr FA)
  have HLD2 := hid ((HLD1.out.st SS).fr FA)
  have HLV2 := hid ((HLV1.out.st SS).fr FA)
  have HLU2 : Hid (LcB (w2.alloc (.cells #[.int .i64 ut, .int .u64 un, sv us] 68)) A12 w2.heap.size #[.int .i64 ut, .int .u64 un, sv us] 68) := LcB.new BB.r.own _ _
  have HS2 := hid (SS.trans (MSt.fresh _ FA))
  clear FA BB SS
  have HT2 : Hid (((m.pops 1).pops 1).th.tasks.length ≤ 900000 + 2) := by
    show _ ≤ _
    rw [th_pops HB1.out.c]
    have := HT1.out
    simp
    omega
  have HV2 : Hid (((m.pops 1).pops 1).th.vals.length ≤ 900000 + 2) := by
    show _ ≤ _
    rw [th_pops HB1.out.c]
    have := HV1.out
    simp
    omega
  have t0 := HLT2.out.h.cell 0
  have t1 := HLT2.out.h.cell 1
  have t2 := HLT2.out.h.cell 2
  have t3 := HLT2.out.h.cell 3
  simp only [List.getElem?_toArray, List.getElem?_cons_succ, List.getElem?_cons_zero] at t0 t1 t2 t3
  have lT := HLT2.out.h.lt
  have d0 := HLD2.out.h.cell 0
  have d1 := HLD2.out.h.cell 1
  have d2 := HLD2.out.h.cell 2
  have d3 := HLD2.out.h.cell 3
  have d4 := HLD2.out.h.cell 4
  have d5 := HLD2.out.h.cell 5
  have d6 := HLD2.out.h.cell 6
  have d7 := HLD2.out.h.cell 7
  simp only [List.getElem?_toArray, List.getElem?_cons_succ, List.getElem?_cons_zero] at d0 d1 d2 d3 d4 d5 d6 d7
  have lD := HLD2.out.h.lt
  have v0 := HLV2.out.h.cell 0
  have v1 := HLV2.out.h.cell 1
  have v2 := HLV2.out.h.cell 2
  simp only [List.getElem?_toArray, List.getElem?_cons_succ, List.getElem?_cons_zero] at v0 v1 v2
  have lV := HLV2.out.h.lt
  have u0 := HLU2.out.h.cell 0
  have u1 := HLU2.out.h.cell 1
  have u2 := HLU2.out.h.cell 2
  simp only [List.getElem?_toArray, List.getElem?_cons_succ, List.getElem?_cons_zero] at u0 u1 u2
  have lU := HLU2.out.h.lt
  obtain ⟨cc0, cc1, lcc⟩ := HB2.out.c0
  have hu4 := HU4.out _ HXu.out
  dsimp only at hu4
  have hne : ((ut : Int) != 4) = false := by rw [hu4]; rfl
  clear hu4
  have hut : un < m.tabs.length := HUT.out _ HXu.out
  have hun : un < 13 := Nat.lt_of_lt_of_le hut (by have := H12.out; omega)
  obtain ⟨V1, HV1x⟩ : ∃ V, Hid ((w2.alloc (.cells #[.int .i64 ut, .int .u64 un, sv us] 68)) = V) := ⟨_, rfl⟩
  obtain ⟨⟨gt, gn, gs⟩, HGV⟩ : ∃ v, Hid ((m.tabs.getD un tab0).get ⟨vt, vn, vs⟩ = v) := ⟨_, rfl⟩
  have GET0 : ∀ W2, Fr (fun _ => False) (w2.alloc (.cells #[.int .i64 ut, .int .u64 un, sv us] 68)) W2 → Calls Tryz.prog 131 #[.pointer (some ⟨A.bt, 0, none⟩), .int .i64 un, (⟨vt, vn, vs⟩ : Vl).val] W2 fun e w' => e = .returned (.tuple #[((m.tabs.getD un tab0).get ⟨vt, vn, vs⟩).val, .int .i64 0]) ∧ Fr (fun _ => False) W2 w' := fun W2 f => (HB2.out.fresh f).tget HTI.out hut (HW0.out _ HXv.out).1 (HW0.out _ HXv.out).2
  rw [HGV.out] at GET0
  have GET : Hid (∀ W2, Fr (fun _ => False) V1 W2 → Calls Tryz.prog 131 #[.pointer (some ⟨A.bt, 0, none⟩), .int .i64 un, .agg #[.int .i64 vt, .int .u64 vn, sv vs]] W2 fun e w' => e = .returned (.tuple #[.agg #[.int .i64 gt, .int .u64 gn, sv gs], .int .i64 0]) ∧ Fr (fun _ => False) W2 w') := fun W2 f => GET0 W2 (by rw [HV1x.out]; exact f)
  clear GET0
  go_wp2_with fail
  refine cwp_at HV1x.out ?_
  clear t0 t1 t2 t3 lT d0 d1 d2 d3 d4 d5 d6 d7 lD v0 v1 v2 lV u0 u1 u2 lU cc0 cc1 lcc
  rw [HV1x.out] at HB2 HLT2 HLD2 HLV2 HLU2
  obtain ⟨w1b, Hw1b⟩ : ∃ b, Hid (w1.heap.size = b) := ⟨_, rfl⟩
  obtain ⟨w2b, Hw2b⟩ : ∃ b, Hid (w2.heap.size = b) := ⟨_, rfl⟩
  rw [Hw1b.out] at HLV2 ⊢
  rw [Hw2b.out] at HLU2 ⊢
  have t0 := HLT2.out.h.cell 0
  have t1 := HLT2.out.h.cell 1
  have t2 := HLT2.out.h.cell 2
  have t3 := HLT2.out.h.cell 3
  simp only [List.getElem?_toArray, List.getElem?_cons_succ, List.getElem?_cons_zero] at t0 t1 t2 t3
  have lT := HLT2.out.h.lt
  have d0 := HLD2.out.h.cell 0
  have d1 := HLD2.out.h.cell 1
  have d2 := HLD2.out.h.cell 2
  have d3 := HLD2.out.h.cell 3
  have d4 := HLD2.out.h.cell 4
  have d5 := HLD2.out.h.cell 5
  have d6 := HLD2.out.h.cell 6
  have d7 := HLD2.out.h.cell 7
  simp only [List.getElem?_toArray, List.getElem?_cons_succ, List.getElem?_cons_zero] at d0 d1 d2 d3 d4 d5 d6 d7
  have lD := HLD2.out.h.lt
  have v0 := HLV2.out.h.cell 0
  have v1 := HLV2.out.h.cell 1
  have v2 := HLV2.out.h.cell 2
  simp only [List.getElem?_toArray, List.getElem?_cons_succ, List.getElem?_cons_zero] at v0 v1 v2
  have lV := HLV2.out.h.lt
  have u0 := HLU2.out.h.cell 0
  have u1 := HLU2.out.h.cell 1
  have u2 := HLU2.out.h.cell 2
  simp only [List.getElem?_toArray, List.getElem?_cons_succ, List.getElem?_cons_zero] at u0 u1 u2
  have lU := HLU2.out.h.lt
  obtain ⟨cc0, cc1, lcc⟩ := HB2.out.c0
  have k0 := fun z : WS V1 => z.f.cell cc1
  have k1 := fun z : WS V1 => z.f.cell u1
  have k2 := fun z : WS V1 => z.f.cell v0
  have k3 := fun z : WS V1 => z.f.cell v1
  have k4 := fun z : WS V1 => z.f.cell v2
  have HNE : Nonempty (WS V1) := WS.non V1
  refine wp_region_plan [0, 1, 2, 3, 4, 5, 7] (.two 6 (.two 8 (.quiet [9, 10, 11] (.one 12 .done)) 12 (.one 8 (.quiet [9, 10, 11] .done))) 12 (.one 6 (.one 8 (.quiet [9, 10, 11] .done)))) 13 (fun x => ∃ s : WS V1, x = s.y) (by kernel_rfl) (by kernel_rfl) (fun _ _ _ _ _ h => h) ⟨⟨V1.drew, (Fr.refl _ _).drew⟩, rfl⟩ [_, _, _, _, _, _, _] rfl _ rfl ?_
  simp only [List.getElem_toArray, List.getElem_cons_succ, List.getElem_cons_zero, List.drop_succ_cons, List.drop_zero, List.length_cons, List.length_nil, Nat.zero_add]
  repeat go_big_quiet_step (fail)
  refine wpQuiet_nil ?_
  clear k0 k1 k2 k3 k4
  refine ⟨fun a' a W => ∃ B, a = ((((((a'.put (some 812) (.int .i64 un)).put (some 814) (.tuple #[.agg #[.int .i64 gt, .int .u64 gn, sv gs], .int .i64 0])).put (some 805) (.tuple #[.agg #[.int .i64 gt, .int .u64 gn, sv gs], .int .i64 0])).put (some 815) (.agg #[.int .i64 gt, .int .u64 gn, sv gs])).put (some 816) (.int .i64 0)).put (some 42) (.pointer (some ⟨B, 0, none⟩))) ∧ Fr (fun _ => False) V1 W ∧ Has W B #[.int .i64 0, .int .u64 0, sv []] 68 ∧ V1.heap.size ≤ B, ?_, ?_⟩
  · rintro a W9 hSW ⟨B, rfl, f4, h4, l4⟩
    clear hSW HNE
    simp only [Act.put, List.setIfInBounds_toArray, List.set_cons_succ, List.set_cons_zero]
    obtain ⟨e0, e1, e2⟩ := Has.cells3 (v := nilV) h4
    dsimp only [nilV] at e0 e1 e2
    obtain ⟨e3, e4, e5⟩ := h4.frz3
    have hl4 := h4.lt
    have HFW : Hid (Fr (fun _ => False) V1 (((W9.setCell ⟨B, 0, none⟩ (.int .i64 gt)).setCell ⟨B, 1, none⟩ (.int .u64 gn)).setCell ⟨B, 2, none⟩ (sv gs))) := ((f4.setCell (p := ⟨B, 0, none⟩) (.inr l4) _).setCell (p := ⟨B, 1, none⟩) (.inr l4) _).setCell (p := ⟨B, 2, none⟩) (.inr l4) _
    have HHW : Hid (Has (((W9.setCell ⟨B, 0, none⟩ (.int .i64 gt)).setCell ⟨B, 1, none⟩ (.int .u64 gn)).setCell ⟨B, 2, none⟩ (sv gs)) B #[.int .i64 gt, .int .u64 gn, sv gs] 68) := h4.put3 _ _ _
    clear f4 h4 l4 GET
    unfold wpChain
    go_wp2
    refine ⟨⟨⟨_, HFW.out⟩, rfl⟩, ?_⟩
    unfold wpChain
    go_wp2
    refine ⟨⟨⟨_, HFW.out⟩, rfl⟩, ?_⟩
    rw [wpChain_zero]
    obtain ⟨w6, HW6⟩ : ∃ w6, Hid ((((W9.setCell ⟨B, 0, none⟩ (.int .i64 gt)).setCell ⟨B, 1, none⟩ (.int .u64 gn)).setCell ⟨B, 2, none⟩ (sv gs)) = w6) := ⟨_, rfl⟩
    rw [HW6.out] at HFW HHW
    have e6 : (((W9.setCell ⟨B, 0, none⟩ (.int .i64 gt)).setCell ⟨B, 1, none⟩ (.int .u64 gn)).setCell ⟨B, 2, none⟩ (.string ⟨gs.toArray⟩)) = w6 := HW6.out
    rw [e6]
    clear e0 e1 e2 e3 e4 e5 hl4 HW6 e6
    obtain ⟨q0, q1, q2⟩ := Has.cells3 (v := ⟨gt, gn, gs⟩) HHW.out
    have ql := HHW.out.lt
    have CC := (HB2.out.fresh HFW.out).push (by have := HV2.out; omega) ⟨gt, gn, gs⟩
    have HCC : Hid (Calls Tryz.prog 124 #[.pointer (some ⟨A.br, 0, none⟩), .agg #[.int .i64 gt, .int .u64 gn, sv gs]] w6 (RBQ w A N root w6 A12 (((m.pops 1).pops 1).push [⟨gt, gn, gs⟩]))) := CC
    clear CC
    clear W9
    go_wp2_with fail
    refine HCC.out.mono ?_
    rintro e' wz ⟨rfl, A15, B5, S5⟩
    have FIN : Hid (Q (.returned (.tuple #[])) wz) := by
      show Q _ _
      rw [← HQ.out, HXv.out, HXu.out]
      dsimp only
      rw [HGV.out, ← pops_pops HBC.out 1 1]
      exact B5.end
    clear B5 S5 HCC
    go_wp2_with fail
    go_end0
    exact FIN.out
  · intro G HG
    refine ⟨⟨_, rfl, ?_⟩, ⟨_, rfl, ?_⟩⟩
    · go_wp2_with fail
      refine ⟨⟨⟨_, (Fr.refl _ _).drew⟩, rfl⟩, ⟨_, rfl, ?_⟩, ⟨_, rfl, ?_⟩⟩
      · go_wp2_with fail
        refine (GET.out _ ((Fr.refl _ V1).drew)).mono ?_
        rintro e' w5 ⟨rfl, f5⟩
        have f6 : Fr (fun _ => False) V1 w5 := ((Fr.refl _ V1).drew).trans f5 (fun _ _ x => x)
        clear f5
        go_wp2_with fail
        refine ⟨⟨⟨_, f6⟩, rfl⟩, [_, _, _], rfl, ?_⟩
        simp only [List.getElem_toArray, List.getElem_cons_succ, List.getElem_cons_zero]
        repeat go_big_quiet_step (fail)
        refine wpQuiet_nil ?_
        refine ⟨_, rfl, ?_⟩
        go_wp2_with fail
        refine ⟨⟨⟨_, f6.alloc _⟩, rfl⟩, ?_⟩
        show G _ _
        rw [HG.out]
        exact ⟨w5.heap.size, by kernel_rfl, f6.alloc _, Has.new _ _ _, f6.size⟩
      · go_wp2_with fail
        refine ⟨⟨⟨_, ((Fr.refl _ V1).drew).alloc _⟩, rfl⟩, _, rfl, ?_⟩
        go_wp2_with fail
        refine (GET.out _ (((Fr.refl _ V1).drew).alloc _)).mono ?_
        rintro e' w5 ⟨rfl, f5⟩
        have f6 : Fr (fun _ => False) V1 w5 := (((Fr.refl _ V1).drew).alloc _).trans f5 (fun _ _ x => x)
        have h6 : Has w5 V1.heap.size #[.int .i64 0, .int .u64 0, sv []] 68 := (Has.newC V1.drew _ _ rfl).fr f5 (fun x => x)
        clear f5
        go_wp2_with fail
        refine ⟨⟨⟨_, f6⟩, rfl⟩, [_, _, _], rfl, ?_⟩
        simp only [List.getElem_toArray, List.getElem_cons_succ, List.getElem_cons_zero]
        repeat go_big_quiet_step (fail)
        refine wpQuiet_nil ?_
        show G _ _
        rw [HG.out]
        exact ⟨V1.heap.size, by kernel_rfl, f6, h6, Nat.le_refl _⟩
    · go_wp2_with fail
      refine ⟨⟨⟨_, ((Fr.refl _ V1).drew).alloc _⟩, rfl⟩, _, rfl, ?_⟩
      go_wp2_with fail
      refine ⟨⟨⟨_, ((Fr.refl _ V1).drew).alloc _⟩, rfl⟩, _, rfl, ?_⟩
      go_wp2_with fail
      refine (GET.out _ (((Fr.refl _ V1).drew).alloc _)).mono ?_
      rintro e' w5 ⟨rfl, f5⟩
      have f6 : Fr (fun _ => False) V1 w5 := (((Fr.refl _ V1).drew).alloc _).trans f5 (fun _ _ x => x)
      have h6 : Has w5 V1.heap.size #[.int .i64 0, .int .u64 0, sv []] 68 := (Has.newC V1.drew _ _ rfl).fr f5 (fun x => x)
      clear f5
      go_wp2_with fail
      refine ⟨⟨⟨_, f6⟩, rfl⟩, [_, _, _], rfl, ?_⟩
      simp only [List.getElem_toArray, List.getElem_cons_succ, List.getElem_cons_zero]
      repeat go_big_quiet_step (fail)
      refine wpQuiet_nil ?_
      show G _ _
      rw [HG.out]
      exact ⟨V1.heap.size, by kernel_rfl, f6, h6, Nat.le_refl _⟩
end
end Go.Proofs.Qxb6500574aGreatDoor
