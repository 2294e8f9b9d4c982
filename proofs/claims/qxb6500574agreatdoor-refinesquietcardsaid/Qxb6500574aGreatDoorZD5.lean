/-
  THE WALKS of compm: step: set, apply, operators.
-/
import Derived.Test.Qxb6500574aGreatDoorZD4
namespace Go.Proofs.Qxb6500574aGreatDoor
open Go Go.RowKit
set_option linter.unusedVariables false
set_option linter.unusedSimpArgs false
/-- a value is well, its number a word -/
def WvB (v : Vl) : Prop := wellV v = true ∧ (v.t = 2 → v.n < 18446744073709551616)
section
variable {w W W1 : World} {A A1 A2 : RnP} {N : List Nd} {root : Nat} {M m : MD} {k : TkD} {r : List TkD} {d : Nd} {bT bD xb : Nat} {a : Act}
set_option maxRecDepth 100000
set_option maxHeartbeats 2000000
theorem st24 (P : StZ w A N root W A1 m bT bD xb k d) (hk : k.k = 24) (H : FrZs (.pointer (some ⟨A.br, 0, none⟩)) (.pointer (some ⟨xb, 0, none⟩)) (.pointer (some ⟨bT, 0, none⟩)) (.pointer (some ⟨bD, 0, none⟩)) (.int .i64 k.k) a) (hl : m.th.tasks.length ≤ 900000) (hvl : m.th.vals.length ≤ 900000) (hv : 2 ≤ m.th.vals.length) (hw0 : WvB (m.topM 0)) (hw1 : WvB ((m.pops 1).topM 0)) (K : ThrOk (m.pops 2)) (ho : (1 ≤ d.n ∧ d.n ≤ 6) ∨ (11 ≤ d.n ∧ d.n ≤ 16) ∨ d.n = 20) :
    (cTz (stC 23 (cI (stB Tryz.f77.body)))).wp Tryz.prog (Exit.inBlock 0 (bodyPost Tryz.prog Tryz.f77 (PQm w A N root ((m.pops 2).bin d.n ((m.pops 1).topM 0) (m.topM 0))))) a W := by
  obtain ⟨u, rfl⟩ := H.form
  obtain ⟨kk, kn, kx, ke⟩ := k
  obtain ⟨dk, da, db, dc, dnx, dn, dss, dp⟩ := d
  dsimp only at hk ho
  subst hk
  obtain ⟨Q, HQ⟩ : ∃ Q : Ending → World → Prop, Hid (PQm w A N root ((m.pops 2).bin dn ((m.pops 1).topM 0) (m.topM 0)) = Q) := ⟨_, rfl⟩
  dsimp only at HQ ⊢
  rw [HQ.out]
  obtain ⟨ea, HEA⟩ : ∃ ea, Hid (eAd A.E ke = ea) := ⟨_, rfl⟩
  have HE : Hid (∀ i, ke = some i → i < A.E.length) := P.he
  have HB0 := hid P.B
  have HLT0 : Hid (LcB W A1 bT #[.int .i64 (24 : Nat), .int .i64 kn, .int .i64 kx, .pointer ea] 224) := by
    have := P.LT
    dsimp only at this
    rw [HEA.out] at this
    exact this
  have HLD0 : Hid (LcB W A1 bD #[.int .i64 (dk : Nat), .int .i64 (da : Nat), .int .i64 (db : Nat), .int .i64 (dc : Nat), .int .i64 (dnx : Nat), .int .u64 (dn : Nat), sv dss, .int .i64 (dp : Nat)] 134) := P.LD
  have HT0 : Hid (m.th.tasks.length ≤ 900000 + 0) := hl
  have HV0 : Hid (m.th.vals.length ≤ 900000 + 0) := hvl
  have HXX := hid P.x
  have HBC := hid P.B.c
  have HZ : Hid ((m.pops 2).bin dn ((m.pops 1).topM 0) (m.topM 0) = ((m.pops 1).pops 1).bin dn ((m.pops 1).topM 0) (m.topM 0)) := by
    show _ = _
    rw [pops_pops HBC.out]
  have HVP : Hid (0 < m.th.vals.length) := by show _ < _; omega
  have HVP1 : Hid (0 < (m.pops 1).th.vals.length) := by show _ < _; rw [th_pops HBC.out]; simp; omega
  clear hv
  have HW0 : Hid (∀ v, m.topM 0 = v → WvB v) := fun v hv => by rw [← hv]; exact hw0
  have HW1 : Hid (∀ v, (m.pops 1).topM 0 = v → WvB v) := fun v hv => by rw [← hv]; exact hw1
  clear hw0 hw1
  have HK : Hid (ThrOk ((m.pops 1).pops 1)) := by show ThrOk _; rw [pops_pops HBC.out]; exact K
  have HO := hid ho
  have hd20 : dn ≤ 20 := by omega
  clear K ho
  clear P H hl hvl
  obtain ⟨c, hc⟩ : ∃ c, c = cTz (stC 23 (cI (stB Tryz.f77.body))) := ⟨_, rfl⟩
  rw [← hc]
  simp only [cTz, cE, cI, cR, stC, stB, Tryz.f77, Option.getD_some] at hc
  subst hc
  have t0 := HLT0.out.h.cell 0
  have t1 := HLT0.out.h.cell 1
  have t2 := HLT0.out.h.cell 2
  have t3 := HLT0.out.h.cell 3
  simp only [List.getElem?_toArray, List.getElem?_cons_succ, List.getElem?_cons_zero] at t0 t1 t2 t3
  have lT := HLT0.out.h.lt
  have d0 := HLD0.out.h.cell 0
  have d1 := HLD0.out.h.cell 1
  have d2 := HLD0.out.h.cell 2
  have d3 := HLD0.out.h.cell 3
  have d4 := HLD0.out.h.cell 4
  have d5 := HLD0.out.h.cell 5
  have d6 := HLD0.out.h.cell 6
  have d7 := HLD0.out.h.cell 7
  simp only [List.getElem?_toArray, List.getElem?_cons_succ, List.getElem?_cons_zero] at d0 d1 d2 d3 d4 d5 d6 d7
  have lD := HLD0.out.h.lt
  obtain ⟨cc0, cc1, lcc⟩ := HB0.out.c0
  obtain ⟨⟨vt, vn, vs⟩, HXv⟩ : ∃ v, Hid (m.topM 0 = v) := ⟨_, rfl⟩
  have CC := HB0.out.pop (HVP.out) (by have := HV0.out; omega)
  rw [HXv.out] at CC
  have HCC : Hid (Calls Tryz.prog 116 #[.pointer (some ⟨A.br, 0, none⟩)] W (fun e w' => e = .returned (.agg #[.int .i64 vt, .int .u64 vn, sv vs]) ∧ ∃ A', RB w A N root w' A' (m.pops 1) ∧ MSt W A1 w' A')) := CC
  clear CC
  go_wp2_with fail
  refine HCC.out.mono ?_
  rintro e9 w1 ⟨rfl, A11, BB, SS⟩
  clear t0 t1 t2 t3 lT d0 d1 d2 d3 d4 d5 d6 d7 lD cc0 cc1 lcc
  clear HCC
  have FA : Fr (fun _ => False) w1 (w1.alloc (.cells #[.int .i64 vt, .int .u64 vn, sv vs] 68)) := (Fr.refl _ _).alloc _
  have HB1 := hid (BB.fresh FA)
  have HLT1 := hid ((HLT0.out.st SS).fr FA)
  have HLD1 := hid ((HLD0.out.st SS).fr FA)
  have HLV1 : Hid (LcB (w1.alloc (.cells #[.int .i64 vt, .int .u64 vn, sv vs] 68)) A11 w1.heap.size #[.int .i64 vt, .int .u64 vn, sv vs] 68) := LcB.new BB.r.own _ _
  have HS1 := hid (SS.trans (MSt.fresh _ FA))
  clear FA BB SS
  have HT1 : Hid ((m.pops 1).th.tasks.length ≤ 900000 + 1) := by
    show _ ≤ _
    rw [th_pops HB0.out.c]
    have := HT0.out
    simp
    omega
  have HV1 : Hid ((m.pops 1).th.vals.length ≤ 900000 + 1) := by
    show _ ≤ _
    rw [th_pops HB0.out.c]
    have := HV0.out
    simp
    omega
  have t0 := HLT1.out.h.cell 0
  have t1 := HLT1.out.h.cell 1
  have t2 := HLT1.out.h.cell 2
  have t3 := HLT1.out.h.cell 3
  simp only [List.getElem?_toArray, List.getElem?_cons_succ, List.getElem?_cons_zero] at t0 t1 t2 t3
  have lT := HLT1.out.h.lt
  have d0 := HLD1.out.h.cell 0
  have d1 := HLD1.out.h.cell 1
  have d2 := HLD1.out.h.cell 2
  have d3 := HLD1.out.h.cell 3
  have d4 := HLD1.out.h.cell 4
  have d5 := HLD1.out.h.cell 5
  have d6 := HLD1.out.h.cell 6
  have d7 := HLD1.out.h.cell 7
  simp only [List.getElem?_toArray, List.getElem?_cons_succ, List.getElem?_cons_zero] at d0 d1 d2 d3 d4 d5 d6 d7
  have lD := HLD1.out.h.lt
  have v0 := HLV1.out.h.cell 0
  have v1 := HLV1.out.h.cell 1
  have v2 := HLV1.out.h.cell 2
  simp only [List.getElem?_toArray, List.getElem?_cons_succ, List.getElem?_cons_zero] at v0 v1 v2
  have lV := HLV1.out.h.lt
  obtain ⟨cc0, cc1, lcc⟩ := HB1.out.c0
  obtain ⟨⟨ut, un, us⟩, HXu⟩ : ∃ v, Hid ((m.pops 1).topM 0 = v) := ⟨_, rfl⟩
  have CC := HB1.out.pop (HVP1.out) (by have := HV1.out; omega)
  rw [HXu.out] at CC
  have HCC : Hid (Calls Tryz.prog 116 #[.pointer (some ⟨A.br, 0, none⟩)] (w1.alloc (.cells #[.int .i64 vt, .int .u64 vn, sv vs] 68)) (fun e w' => e = .returned (.agg #[.int .i64 ut, .int .u64 un, sv us]) ∧ ∃ A', RB w A N root w' A' ((m.pops 1).pops 1) ∧ MSt (w1.alloc (.cells #[.int .i64 vt, .int .u64 vn, sv vs] 68)) A11 w' A')) := CC
  clear CC
  go_wp2_with fail
  refine HCC.out.mono ?_
  rintro e10 w2 ⟨rfl, A12, BB, SS⟩
  clear t0 t1 t2 t3 lT d0 d1 d2 d3 d4 d5 d6 d7 lD v0 v1 v2 lV cc0 cc1 lcc
  clear HCC
  have FA : Fr (fun _ => False) w2 (w2.alloc (.cells #[.int .i64 ut, .int .u64 un, sv us] 68)) := (Fr.refl _ _).alloc _
  have HB2 := hid (BB.fresh FA)
  have HLT2 := hid ((HLT1.out.st SS).fr FA)
  have HLD2 := hid ((HLD1.out.st SS).fr FA)
  have HLV2 := hid ((HLV1.out.st SS).fr FA)
  have HLU2 : Hid (LcB (w2.alloc (.cells #[.int .i64 ut, .int .u64 un, sv us] 68)) A12 w2.heap.size #[.int .i64 ut, .int .u64 un, sv us] 68) := LcB.new BB.r.own _ _
  have HS2 := hid (SS.trans (MSt.fresh _ FA))
  clear FA BB SS
  have HT2 : Hid (((m.pops 1).pops 1).th.tasks.length ≤ 900000 + 2) := by
    show _ ≤ _
    rw [th_pops HB1.out.c]
    have := HT1.out
    simp
    omega
  have HV2 : Hid (((m.pops 1).pops 1).th.vals.length ≤ 900000 + 2) := by
    show _ ≤ _
    rw [th_pops HB1.out.c]
    have := HV1.out
    simp
    omega
  have t0 := HLT2.out.h.cell 0
  have t1 := HLT2.out.h.cell 1
  have t2 := HLT2.out.h.cell 2
  have t3 := HLT2.out.h.cell 3
  simp only [List.getElem?_toArray, List.getElem?_cons_succ, List.getElem?_cons_zero] at t0 t1 t2 t3
  have lT := HLT2.out.h.lt
  have d0 := HLD2.out.h.cell 0
  have d1 := HLD2.out.h.cell 1
  have d2 := HLD2.out.h.cell 2
  have d3 := HLD2.out.h.cell 3
  have d4 := HLD2.out.h.cell 4
  have d5 := HLD2.out.h.cell 5
  have d6 := HLD2.out.h.cell 6
  have d7 := HLD2.out.h.cell 7
  simp only [List.getElem?_toArray, List.getElem?_cons_succ, List.getElem?_cons_zero] at d0 d1 d2 d3 d4 d5 d6 d7
  have lD := HLD2.out.h.lt
  have v0 := HLV2.out.h.cell 0
  have v1 := HLV2.out.h.cell 1
  have v2 := HLV2.out.h.cell 2
  simp only [List.getElem?_toArray, List.getElem?_cons_succ, List.getElem?_cons_zero] at v0 v1 v2
  have lV := HLV2.out.h.lt
  have u0 := HLU2.out.h.cell 0
  have u1 := HLU2.out.h.cell 1
  have u2 := HLU2.out.h.cell 2
  simp only [List.getElem?_toArray, List.getElem?_cons_succ, List.getElem?_cons_zero] at u0 u1 u2
  have lU := HLU2.out.h.lt
  obtain ⟨cc0, cc1, lcc⟩ := HB2.out.c0
  have CC := bin_m (op := dn) (a := ⟨ut, un, us⟩) (b := ⟨vt, vn, vs⟩) HB2.out HK.out HO.out (HW1.out _ HXu.out).1 (HW0.out _ HXv.out).1 (HW1.out _ HXu.out).2 (HW0.out _ HXv.out).2 rfl
  have HCC := hid CC
  clear CC
  go_wp2_with fail
  refine HCC.out.mono ?_
  intro e11 w3 hq
  obtain rfl := hq.1
  clear t0 t1 t2 t3 lT d0 d1 d2 d3 d4 d5 d6 d7 lD v0 v1 v2 lV u0 u1 u2 lU cc0 cc1 lcc
  have FIN : Hid (Q (.returned (.tuple #[])) w3) := by
    show Q _ _
    rw [← HQ.out, HZ.out, HXu.out, HXv.out]
    exact hq
  clear hq HCC
  go_wp2
  go_end0
  exact FIN.out
theorem st25 (P : StZ w A N root W A1 m bT bD xb k d) (hk : k.k = 25) (H : FrZs (.pointer (some ⟨A.br, 0, none⟩)) (.pointer (some ⟨xb, 0, none⟩)) (.pointer (some ⟨bT, 0, none⟩)) (.pointer (some ⟨bD, 0, none⟩)) (.int .i64 k.k) a) (hl : m.th.tasks.length ≤ 900000) (hvl : m.th.vals.length ≤ 900000) (hv : 1 ≤ m.th.vals.length) (hw0 : WvB (m.topM 0)) (K : ThrOk (m.pops 1)) (TI : ∀ t ∈ m.tabs, TTi t) (h12 : m.tabs.length ≤ 12) (h4 : (m.topM 0).t = 4 → (m.topM 0).n < m.tabs.length) (ho : 1 ≤ d.n ∧ d.n ≤ 3) :
    (cTz (stC 24 (cI (stB Tryz.f77.body)))).wp Tryz.prog (Exit.inBlock 0 (bodyPost Tryz.prog Tryz.f77 (PQm w A N root ((m.pops 1).un d.n (m.topM 0))))) a W := by
  obtain ⟨u, rfl⟩ := H.form
  obtain ⟨kk, kn, kx, ke⟩ := k
  obtain ⟨dk, da, db, dc, dnx, dn, dss, dp⟩ := d
  dsimp only at hk ho
  subst hk
  obtain ⟨Q, HQ⟩ : ∃ Q : Ending → World → Prop, Hid (PQm w A N root ((m.pops 1).un dn (m.topM 0)) = Q) := ⟨_, rfl⟩
  dsimp only at HQ ⊢
  rw [HQ.out]
  obtain ⟨ea, HEA⟩ : ∃ ea, Hid (eAd A.E ke = ea) := ⟨_, rfl⟩
  have HE : Hid (∀ i, ke = some i → i < A.E.length) := P.he
  have HB0 := hid P.B
  have HLT0 : Hid (LcB W A1 bT #[.int .i64 (25 : Nat), .int .i64 kn, .int .i64 kx, .pointer ea] 224) := by
    have := P.LT
    dsimp only at this
    rw [HEA.out] at this
    exact this
  have HLD0 : Hid (LcB W A1 bD #[.int .i64 (dk : Nat), .int .i64 (da : Nat), .int .i64 (db : Nat), .int .i64 (dc : Nat), .int .i64 (dnx : Nat), .int .u64 (dn : Nat), sv dss, .int .i64 (dp : Nat)] 134) := P.LD
  have HT0 : Hid (m.th.tasks.length ≤ 900000 + 0) := hl
  have HV0 : Hid (m.th.vals.length ≤ 900000 + 0) := hvl
  have HXX := hid P.x
  have HBC := hid P.B.c
  have HVP : Hid (0 < m.th.vals.length) := by show _ < _; omega
  clear hv
  have HW0 : Hid (∀ v, m.topM 0 = v → WvB v) := fun v hv => by rw [← hv]; exact hw0
  clear hw0
  have HK : Hid (ThrOk (m.pops 1)) := K
  have HTI : Hid (∀ t ∈ (m.pops 1).tabs, TTi t) := TI
  have H12 : Hid ((m.pops 1).tabs.length ≤ 12) := h12
  have H4 : Hid (∀ v, m.topM 0 = v → v.t = 4 → v.n < (m.pops 1).tabs.length) := fun v hv => by rw [← hv]; exact h4
  have HO := hid ho
  have hd20 : dn ≤ 20 := by omega
  clear K ho TI h12 h4
  clear P H hl hvl
  obtain ⟨c, hc⟩ : ∃ c, c = cTz (stC 24 (cI (stB Tryz.f77.body))) := ⟨_, rfl⟩
  rw [← hc]
  simp only [cTz, cE, cI, cR, stC, stB, Tryz.f77, Option.getD_some] at hc
  subst hc
  have t0 := HLT0.out.h.cell 0
  have t1 := HLT0.out.h.cell 1
  have t2 := HLT0.out.h.cell 2
  have t3 := HLT0.out.h.cell 3
  simp only [List.getElem?_toArray, List.getElem?_cons_succ, List.getElem?_cons_zero] at t0 t1 t2 t3
  have lT := HLT0.out.h.lt
  have d0 := HLD0.out.h.cell 0
  have d1 := HLD0.out.h.cell 1
  have d2 := HLD0.out.h.cell 2
  have d3 := HLD0.out.h.cell 3
  have d4 := HLD0.out.h.cell 4
  have d5 := HLD0.out.h.cell 5
  have d6 := HLD0.out.h.cell 6
  have d7 := HLD0.out.h.cell 7
  simp only [List.getElem?_toArray, List.getElem?_cons_succ, List.getElem?_cons_zero] at d0 d1 d2 d3 d4 d5 d6 d7
  have lD := HLD0.out.h.lt
  obtain ⟨cc0, cc1, lcc⟩ := HB0.out.c0
  obtain ⟨⟨vt, vn, vs⟩, HXv⟩ : ∃ v, Hid (m.topM 0 = v) := ⟨_, rfl⟩
  have CC := HB0.out.pop (HVP.out) (by have := HV0.out; omega)
  rw [HXv.out] at CC
  have HCC : Hid (Calls Tryz.prog 116 #[.pointer (some ⟨A.br, 0, none⟩)] W (fun e w' => e = .returned (.agg #[.int .i64 vt, .int .u64 vn, sv vs]) ∧ ∃ A', RB w A N root w' A' (m.pops 1) ∧ MSt W A1 w' A')) := CC
  clear CC
  go_wp2_with fail
  refine HCC.out.mono ?_
  rintro e9 w1 ⟨rfl, A11, BB, SS⟩
  clear t0 t1 t2 t3 lT d0 d1 d2 d3 d4 d5 d6 d7 lD cc0 cc1 lcc
  clear HCC
  have FA : Fr (fun _ => False) w1 (w1.alloc (.cells #[.int .i64 vt, .int .u64 vn, sv vs] 68)) := (Fr.refl _ _).alloc _
  have HB1 := hid (BB.fresh FA)
  have HLT1 := hid ((HLT0.out.st SS).fr FA)
  have HLD1 := hid ((HLD0.out.st SS).fr FA)
  have HLV1 : Hid (LcB (w1.alloc (.cells #[.int .i64 vt, .int .u64 vn, sv vs] 68)) A11 w1.heap.size #[.int .i64 vt, .int .u64 vn, sv vs] 68) := LcB.new BB.r.own _ _
  have HS1 := hid (SS.trans (MSt.fresh _ FA))
  clear FA BB SS
  have HT1 : Hid ((m.pops 1).th.tasks.length ≤ 900000 + 1) := by
    show _ ≤ _
    rw [th_pops HB0.out.c]
    have := HT0.out
    simp
    omega
  have HV1 : Hid ((m.pops 1).th.vals.length ≤ 900000 + 1) := by
    show _ ≤ _
    rw [th_pops HB0.out.c]
    have := HV0.out
    simp
    omega
  have t0 := HLT1.out.h.cell 0
  have t1 := HLT1.out.h.cell 1
  have t2 := HLT1.out.h.cell 2
  have t3 := HLT1.out.h.cell 3
  simp only [List.getElem?_toArray, List.getElem?_cons_succ, List.getElem?_cons_zero] at t0 t1 t2 t3
  have lT := HLT1.out.h.lt
  have d0 := HLD1.out.h.cell 0
  have d1 := HLD1.out.h.cell 1
  have d2 := HLD1.out.h.cell 2
  have d3 := HLD1.out.h.cell 3
  have d4 := HLD1.out.h.cell 4
  have d5 := HLD1.out.h.cell 5
  have d6 := HLD1.out.h.cell 6
  have d7 := HLD1.out.h.cell 7
  simp only [List.getElem?_toArray, List.getElem?_cons_succ, List.getElem?_cons_zero] at d0 d1 d2 d3 d4 d5 d6 d7
  have lD := HLD1.out.h.lt
  have v0 := HLV1.out.h.cell 0
  have v1 := HLV1.out.h.cell 1
  have v2 := HLV1.out.h.cell 2
  simp only [List.getElem?_toArray, List.getElem?_cons_succ, List.getElem?_cons_zero] at v0 v1 v2
  have lV := HLV1.out.h.lt
  obtain ⟨cc0, cc1, lcc⟩ := HB1.out.c0
  have CC := un_m (op := dn) (a := ⟨vt, vn, vs⟩) HB1.out HK.out HTI.out H12.out HO.out (HW0.out _ HXv.out).1 (HW0.out _ HXv.out).2 (H4.out _ HXv.out) rfl
  have HCC := hid CC
  clear CC
  go_wp2_with fail
  refine HCC.out.mono ?_
  intro e10 w2 hq
  obtain rfl := hq.1
  clear t0 t1 t2 t3 lT d0 d1 d2 d3 d4 d5 d6 d7 lD v0 v1 v2 lV cc0 cc1 lcc
  have FIN : Hid (Q (.returned (.tuple #[])) w2) := by
    show Q _ _
    rw [← HQ.out, HXv.out]
    exact hq
  clear hq HCC
  go_wp2
  go_end0
  exact FIN.out
theorem st10 (P : StZ w A N root W A1 m bT bD xb k d) (hk : k.k = 10) (H : FrZs (.pointer (some ⟨A.br, 0, none⟩)) (.pointer (some ⟨xb, 0, none⟩)) (.pointer (some ⟨bT, 0, none⟩)) (.pointer (some ⟨bD, 0, none⟩)) (.int .i64 k.k) a) (hl : m.th.tasks.length ≤ 900000) (hvl : m.th.vals.length ≤ 900000) (hv : 3 ≤ m.th.vals.length) (hw0 : WvB (m.topM 0)) (hw1 : WvB ((m.pops 1).topM 0)) (K : ThrOk (m.pops 3)) (TI : ∀ t ∈ m.tabs, TTi t) (h12 : m.tabs.length ≤ 12) (h4 : ((m.pops 2).topM 0).t = 4 → ((m.pops 2).topM 0).n < m.tabs.length) :
    (cTz (stC 9 (cI (stB Tryz.f77.body)))).wp Tryz.prog (Exit.inBlock 0 (bodyPost Tryz.prog Tryz.f77 (PQm w A N root ((m.pops 3).setT ((m.pops 2).topM 0) ((m.pops 1).topM 0) (m.topM 0))))) a W := by
  obtain ⟨u, rfl⟩ := H.form
  obtain ⟨kk, kn, kx, ke⟩ := k
  obtain ⟨dk, da, db, dc, dnx, dn, dss, dp⟩ := d
  dsimp only at hk
  subst hk
  obtain ⟨Q, HQ⟩ : ∃ Q : Ending → World → Prop, Hid (PQm w A N root ((m.pops 3).setT ((m.pops 2).topM 0) ((m.pops 1).topM 0) (m.topM 0)) = Q) := ⟨_, rfl⟩
  dsimp only at HQ ⊢
  rw [HQ.out]
  obtain ⟨ea, HEA⟩ : ∃ ea, Hid (eAd A.E ke = ea) := ⟨_, rfl⟩
  have HE : Hid (∀ i, ke = some i → i < A.E.length) := P.he
  have HB0 := hid P.B
  have HLT0 : Hid (LcB W A1 bT #[.int .i64 (10 : Nat), .int .i64 kn, .int .i64 kx, .pointer ea] 224) := by
    have := P.LT
    dsimp only at this
    rw [HEA.out] at this
    exact this
  have HLD0 : Hid (LcB W A1 bD #[.int .i64 (dk : Nat), .int .i64 (da : Nat), .int .i64 (db : Nat), .int .i64 (dc : Nat), .int .i64 (dnx : Nat), .int .u64 (dn : Nat), sv dss, .int .i64 (dp : Nat)] 134) := P.LD
  have HT0 : Hid (m.th.tasks.length ≤ 900000 + 0) := hl
  have HV0 : Hid (m.th.vals.length ≤ 900000 + 0) := hvl
  have HXX := hid P.x
  have HBC := hid P.B.c
  have HZ : Hid ((m.pops 3).setT ((m.pops 2).topM 0) ((m.pops 1).topM 0) (m.topM 0) = (((m.pops 1).pops 1).pops 1).setT (((m.pops 1).pops 1).topM 0) ((m.pops 1).topM 0) (m.topM 0)) := by
    show _ = _
    rw [pops_pops HBC.out, pops_pops HBC.out]
  have HVP : Hid (0 < m.th.vals.length) := by show _ < _; omega
  have HVP1 : Hid (0 < (m.pops 1).th.vals.length) := by show _ < _; rw [th_pops HBC.out]; simp; omega
  have HVP2 : Hid (0 < ((m.pops 1).pops 1).th.vals.length) := by show _ < _; rw [pops_pops HBC.out, th_pops HBC.out]; simp; omega
  clear hv
  have HW0 : Hid (∀ v, m.topM 0 = v → WvB v) := fun v hv => by rw [← hv]; exact hw0
  have HW1 : Hid (∀ v, (m.pops 1).topM 0 = v → WvB v) := fun v hv => by rw [← hv]; exact hw1
  clear hw0 hw1
  have HK : Hid (ThrOk (((m.pops 1).pops 1).pops 1)) := by show ThrOk _; rw [pops_pops HBC.out, pops_pops HBC.out]; exact K
  have HTI : Hid (∀ t ∈ (((m.pops 1).pops 1).pops 1).tabs, TTi t) := TI
  have H12 : Hid ((((m.pops 1).pops 1).pops 1).tabs.length ≤ 12) := h12
  have H4 : Hid (∀ v, ((m.pops 1).pops 1).topM 0 = v → v.t = 4 → v.n < (((m.pops 1).pops 1).pops 1).tabs.length) := fun v hv => by rw [← hv, pops_pops HBC.out]; exact h4
  clear K TI h12 h4
  clear P H hl hvl
  obtain ⟨c, hc⟩ : ∃ c, c = cTz (stC 9 (cI (stB Tryz.f77.body))) := ⟨_, rfl⟩
  rw [← hc]
  simp only [cTz, cE, cI, cR, stC, stB, Tryz.f77, Option.getD_some] at hc
  subst hc
  have t0 := HLT0.out.h.cell 0
  have t1 := HLT0.out.h.cell 1
  have t2 := HLT0.out.h.cell 2
  have t3 := HLT0.out.h.cell 3
  simp only [List.getElem?_toArray, List.getElem?_cons_succ, List.getElem?_cons_zero] at t0 t1 t2 t3
  have lT := HLT0.out.h.lt
  have d0 := HLD0.out.h.cell 0
  have d1 := HLD0.out.h.cell 1
  have d2 := HLD0.out.h.cell 2
  have d3 := HLD0.out.h.cell 3
  have d4 := HLD0.out.h.cell 4
  have d5 := HLD0.out.h.cell 5
  have d6 := HLD0.out.h.cell 6
  have d7 := HLD0.out.h.cell 7
  simp only [List.getElem?_toArray, List.getElem?_cons_succ, List.getElem?_cons_zero] at d0 d1 d2 d3 d4 d5 d6 d7
  have lD := HLD0.out.h.lt
  obtain ⟨cc0, cc1, lcc⟩ := HB0.out.c0
  obtain ⟨⟨vt, vn, vs⟩, HXv⟩ : ∃ v, Hid (m.topM 0 = v) := ⟨_, rfl⟩
  have CC := HB0.out.pop (HVP.out) (by have := HV0.out; omega)
  rw [HXv.out] at CC
  have HCC : Hid (Calls Tryz.prog 116 #[.pointer (some ⟨A.br, 0, none⟩)] W (fun e w' => e = .returned (.agg #[.int .i64 vt, .int .u64 vn, sv vs]) ∧ ∃ A', RB w A N root w' A' (m.pops 1) ∧ MSt W A1 w' A')) := CC
  clear CC
  go_wp2_with fail
  refine HCC.out.mono ?_
  rintro e9 w1 ⟨rfl, A11, BB, SS⟩
  clear t0 t1 t2 t3 lT d0 d1 d2 d3 d4 d5 d6 d7 lD cc0 cc1 lcc
  clear HCC
  have FA : Fr (fun _ => False) w1 (w1.alloc (.cells #[.int .i64 vt, .int .u64 vn, sv vs] 68)) := (Fr.refl _ _).alloc _
  have HB1 := hid (BB.fresh FA)
  have HLT1 := hid ((HLT0.out.st SS).fr FA)
  have HLD1 := hid ((HLD0.out.st SS).fr FA)
  have HLV1 : Hid (LcB (w1.alloc (.cells #[.int .i64 vt, .int .u64 vn, sv vs] 68)) A11 w1.heap.size #[.int .i64 vt, .int .u64 vn, sv vs] 68) := LcB.new BB.r.own _ _
  have HS1 := hid (SS.trans (MSt.fresh _ FA))
  clear FA BB SS
  have HT1 : Hid ((m.pops 1).th.tasks.length ≤ 900000 + 1) := by
    show _ ≤ _
    rw [th_pops HB0.out.c]
    have := HT0.out
    simp
    omega
  have HV1 : Hid ((m.pops 1).th.vals.length ≤ 900000 + 1) := by
    show _ ≤ _
    rw [th_pops HB0.out.c]
    have := HV0.out
    simp
    omega
  have t0 := HLT1.out.h.cell 0
  have t1 := HLT1.out.h.cell 1
  have t2 := HLT1.out.h.cell 2
  have t3 := HLT1.out.h.cell 3
  simp only [List.getElem?_toArray, List.getElem?_cons_succ, List.getElem?_cons_zero] at t0 t1 t2 t3
  have lT := HLT1.out.h.lt
  have d0 := HLD1.out.h.cell 0
  have d1 := HLD1.out.h.cell 1
  have d2 := HLD1.out.h.cell 2
  have d3 := HLD1.out.h.cell 3
  have d4 := HLD1.out.h.cell 4
  have d5 := HLD1.out.h.cell 5
  have d6 := HLD1.out.h.cell 6
  have d7 := HLD1.out.h.cell 7
  simp only [List.getElem?_toArray, List.getElem?_cons_succ, List.getElem?_cons_zero] at d0 d1 d2 d3 d4 d5 d6 d7
  have lD := HLD1.out.h.lt
  have v0 := HLV1.out.h.cell 0
  have v1 := HLV1.out.h.cell 1
  have v2 := HLV1.out.h.cell 2
  simp only [List.getElem?_toArray, List.getElem?_cons_succ, List.getElem?_cons_zero] at v0 v1 v2
  have lV := HLV1.out.h.lt
  obtain ⟨cc0, cc1, lcc⟩ := HB1.out.c0
  obtain ⟨⟨ut, un, us⟩, HXu⟩ : ∃ v, Hid ((m.pops 1).topM 0 = v) := ⟨_, rfl⟩
  have CC := HB1.out.pop (HVP1.out) (by have := HV1.out; omega)
  rw [HXu.out] at CC
  have HCC : Hid (Calls Tryz.prog 116 #[.pointer (some ⟨A.br, 0, none⟩)] (w1.alloc (.cells #[.int .i64 vt, .int .u64 vn, sv vs] 68)) (fun e w' => e = .returned (.agg #[.int .i64 ut, .int .u64 un, sv us]) ∧ ∃ A', RB w A N root w' A' ((m.pops 1).pops 1) ∧ MSt (w1.alloc (.cells #[.int .i64 vt, .int .u64 vn, sv vs] 68)) A11 w' A')) := CC
  clear CC
  go_wp2_with fail
  refine HCC.out.mono ?_
  rintro e10 w2 ⟨rfl, A12, BB, SS⟩
  clear t0 t1 t2 t3 lT d0 d1 d2 d3 d4 d5 d6 d7 lD v0 v1 v2 lV cc0 cc1 lcc
  clear HCC
  have FA : Fr (fun _ => False) w2 (w2.alloc (.cells #[.int .i64 ut, .int .u64 un, sv us] 68)) := (Fr.refl _ _).alloc _
  have HB2 := hid (BB.fresh FA)
  have HLT2 := hid ((HLT1.out.st SS).fr FA)
  have HLD2 := hid ((HLD1.out.st SS).fr FA)
  have HLV2 := hid ((HLV1.out.st SS).fr FA)
  have HLU2 : Hid (LcB (w2.alloc (.cells #[.int .i64 ut, .int .u64 un, sv us] 68)) A12 w2.heap.size #[.int .i64 ut, .int .u64 un, sv us] 68) := LcB.new BB.r.own _ _
  have HS2 := hid (SS.trans (MSt.fresh _ FA))
  clear FA BB SS
  have HT2 : Hid (((m.pops 1).pops 1).th.tasks.length ≤ 900000 + 2) := by
    show _ ≤ _
    rw [th_pops HB1.out.c]
    have := HT1.out
    simp
    omega
  have HV2 : Hid (((m.pops 1).pops 1).th.vals.length ≤ 900000 + 2) := by
    show _ ≤ _
    rw [th_pops HB1.out.c]
    have := HV1.out
    simp
    omega
  have t0 := HLT2.out.h.cell 0
  have t1 := HLT2.out.h.cell 1
  have t2 := HLT2.out.h.cell 2
  have t3 := HLT2.out.h.cell 3
  simp only [List.getElem?_toArray, List.getElem?_cons_succ, List.getElem?_cons_zero] at t0 t1 t2 t3
  have lT := HLT2.out.h.lt
  have d0 := HLD2.out.h.cell 0
  have d1 := HLD2.out.h.cell 1
  have d2 := HLD2.out.h.cell 2
  have d3 := HLD2.out.h.cell 3
  have d4 := HLD2.out.h.cell 4
  have d5 := HLD2.out.h.cell 5
  have d6 := HLD2.out.h.cell 6
  have d7 := HLD2.out.h.cell 7
  simp only [List.getElem?_toArray, List.getElem?_cons_succ, List.getElem?_cons_zero] at d0 d1 d2 d3 d4 d5 d6 d7
  have lD := HLD2.out.h.lt
  have v0 := HLV2.out.h.cell 0
  have v1 := HLV2.out.h.cell 1
  have v2 := HLV2.out.h.cell 2
  simp only [List.getElem?_toArray, List.getElem?_cons_succ, List.getElem?_cons_zero] at v0 v1 v2
  have lV := HLV2.out.h.lt
  have u0 := HLU2.out.h.cell 0
  have u1 := HLU2.out.h.cell 1
  have u2 := HLU2.out.h.cell 2
  simp only [List.getElem?_toArray, List.getElem?_cons_succ, List.getElem?_cons_zero] at u0 u1 u2
  have lU := HLU2.out.h.lt
  obtain ⟨cc0, cc1, lcc⟩ := HB2.out.c0
  obtain ⟨⟨tt, tn, ts⟩, HXt⟩ : ∃ v, Hid (((m.pops 1).pops 1).topM 0 = v) := ⟨_, rfl⟩
  have CC := HB2.out.pop (HVP2.out) (by have := HV2.out; omega)
  rw [HXt.out] at CC
  have HCC : Hid (Calls Tryz.prog 116 #[.pointer (some ⟨A.br, 0, none⟩)] (w2.alloc (.cells #[.int .i64 ut, .int .u64 un, sv us] 68)) (fun e w' => e = .returned (.agg #[.int .i64 tt, .int .u64 tn, sv ts]) ∧ ∃ A', RB w A N root w' A' (((m.pops 1).pops 1).pops 1) ∧ MSt (w2.alloc (.cells #[.int .i64 ut, .int .u64 un, sv us] 68)) A12 w' A')) := CC
  clear CC
  go_wp2_with fail
  refine HCC.out.mono ?_
  rintro e11 w3 ⟨rfl, A13, BB, SS⟩
  clear t0 t1 t2 t3 lT d0 d1 d2 d3 d4 d5 d6 d7 lD v0 v1 v2 lV u0 u1 u2 lU cc0 cc1 lcc
  clear HCC
  have FA : Fr (fun _ => False) w3 (w3.alloc (.cells #[.int .i64 tt, .int .u64 tn, sv ts] 68)) := (Fr.refl _ _).alloc _
  have HB3 := hid (BB.fresh FA)
  have HLT3 := hid ((HLT2.out.st SS).fr FA)
  have HLD3 := hid ((HLD2.out.st SS).fr FA)
  have HLV3 := hid ((HLV2.out.st SS).fr FA)
  have HLU3 := hid ((HLU2.out.st SS).fr FA)
  have HLT3 : Hid (LcB (w3.alloc (.cells #[.int .i64 tt, .int .u64 tn, sv ts] 68)) A13 w3.heap.size #[.int .i64 tt, .int .u64 tn, sv ts] 68) := LcB.new BB.r.own _ _
  have HS3 := hid (SS.trans (MSt.fresh _ FA))
  clear FA BB SS
  have HT3 : Hid ((((m.pops 1).pops 1).pops 1).th.tasks.length ≤ 900000 + 3) := by
    show _ ≤ _
    rw [th_pops HB2.out.c]
    have := HT2.out
    simp
    omega
  have HV3 : Hid ((((m.pops 1).pops 1).pops 1).th.vals.length ≤ 900000 + 3) := by
    show _ ≤ _
    rw [th_pops HB2.out.c]
    have := HV2.out
    simp
    omega
  have t0 := HLT3.out.h.cell 0
  have t1 := HLT3.out.h.cell 1
  have t2 := HLT3.out.h.cell 2
  simp only [List.getElem?_toArray, List.getElem?_cons_succ, List.getElem?_cons_zero] at t0 t1 t2
  have lT := HLT3.out.h.lt
  have d0 := HLD3.out.h.cell 0
  have d1 := HLD3.out.h.cell 1
  have d2 := HLD3.out.h.cell 2
  have d3 := HLD3.out.h.cell 3
  have d4 := HLD3.out.h.cell 4
  have d5 := HLD3.out.h.cell 5
  have d6 := HLD3.out.h.cell 6
  have d7 := HLD3.out.h.cell 7
  simp only [List.getElem?_toArray, List.getElem?_cons_succ, List.getElem?_cons_zero] at d0 d1 d2 d3 d4 d5 d6 d7
  have lD := HLD3.out.h.lt
  have v0 := HLV3.out.h.cell 0
  have v1 := HLV3.out.h.cell 1
  have v2 := HLV3.out.h.cell 2
  simp only [List.getElem?_toArray, List.getElem?_cons_succ, List.getElem?_cons_zero] at v0 v1 v2
  have lV := HLV3.out.h.lt
  have u0 := HLU3.out.h.cell 0
  have u1 := HLU3.out.h.cell 1
  have u2 := HLU3.out.h.cell 2
  simp only [List.getElem?_toArray, List.getElem?_cons_succ, List.getElem?_cons_zero] at u0 u1 u2
  have lU := HLU3.out.h.lt
  obtain ⟨cc0, cc1, lcc⟩ := HB3.out.c0
  have CC := set_m (t := ⟨tt, tn, ts⟩) (k := ⟨ut, un, us⟩) (v := ⟨vt, vn, vs⟩) HB3.out HK.out HTI.out H12.out (H4.out _ HXt.out) (HW1.out _ HXu.out).1 (HW0.out _ HXv.out).1 (HW1.out _ HXu.out).2
  have HCC := hid CC
  clear CC
  go_wp2_with fail
  refine HCC.out.mono ?_
  intro e12 w4 hq
  obtain rfl := hq.1
  clear t0 t1 t2 lT d0 d1 d2 d3 d4 d5 d6 d7 lD v0 v1 v2 lV u0 u1 u2 lU cc0 cc1 lcc
  have FIN : Hid (Q (.returned (.tuple #[])) w4) := by
    show Q _ _
    rw [← HQ.out, HZ.out, HXt.out, HXu.out, HXv.out]
    exact hq
  clear hq HCC
  go_wp2
  go_end0
  exact FIN.out
theorem st22 (P : StZ w A N root W A1 m bT bD xb k d) (hk : k.k = 22) (H : FrZs (.pointer (some ⟨A.br, 0, none⟩)) (.pointer (some ⟨xb, 0, none⟩)) (.pointer (some ⟨bT, 0, none⟩)) (.pointer (some ⟨bD, 0, none⟩)) (.int .i64 k.k) a) (hl : m.th.tasks.length ≤ 900000) (hvl : m.th.vals.length ≤ 900000) (hap : ∀ W A1, RB w A N root W A1 m → Calls Tryz.prog 126 #[.pointer (some ⟨A.br, 0, none⟩), .int .i64 (k.x : Nat)] W (PQm w A N root (m.apply N root k.x))) :
    (cTz (stC 21 (cI (stB Tryz.f77.body)))).wp Tryz.prog (Exit.inBlock 0 (bodyPost Tryz.prog Tryz.f77 (PQm w A N root (m.apply N root k.x)))) a W := by
  obtain ⟨u, rfl⟩ := H.form
  obtain ⟨kk, kn, kx, ke⟩ := k
  obtain ⟨dk, da, db, dc, dnx, dn, dss, dp⟩ := d
  dsimp only at hk hap
  subst hk
  obtain ⟨Q, HQ⟩ : ∃ Q : Ending → World → Prop, Hid (PQm w A N root (m.apply N root kx) = Q) := ⟨_, rfl⟩
  dsimp only at HQ ⊢
  rw [HQ.out]
  obtain ⟨ea, HEA⟩ : ∃ ea, Hid (eAd A.E ke = ea) := ⟨_, rfl⟩
  have HE : Hid (∀ i, ke = some i → i < A.E.length) := P.he
  have HB0 := hid P.B
  have HLT0 : Hid (LcB W A1 bT #[.int .i64 (22 : Nat), .int .i64 kn, .int .i64 kx, .pointer ea] 224) := by
    have := P.LT
    dsimp only at this
    rw [HEA.out] at this
    exact this
  have HLD0 : Hid (LcB W A1 bD #[.int .i64 (dk : Nat), .int .i64 (da : Nat), .int .i64 (db : Nat), .int .i64 (dc : Nat), .int .i64 (dnx : Nat), .int .u64 (dn : Nat), sv dss, .int .i64 (dp : Nat)] 134) := P.LD
  have HT0 : Hid (m.th.tasks.length ≤ 900000 + 0) := hl
  have HV0 : Hid (m.th.vals.length ≤ 900000 + 0) := hvl
  have HXX := hid P.x
  have HBC := hid P.B.c
  have HAP := hid hap
  clear hap
  clear P H hl hvl
  obtain ⟨c, hc⟩ : ∃ c, c = cTz (stC 21 (cI (stB Tryz.f77.body))) := ⟨_, rfl⟩
  rw [← hc]
  simp only [cTz, cE, cI, cR, stC, stB, Tryz.f77, Option.getD_some] at hc
  subst hc
  have t0 := HLT0.out.h.cell 0
  have t1 := HLT0.out.h.cell 1
  have t2 := HLT0.out.h.cell 2
  have t3 := HLT0.out.h.cell 3
  simp only [List.getElem?_toArray, List.getElem?_cons_succ, List.getElem?_cons_zero] at t0 t1 t2 t3
  have lT := HLT0.out.h.lt
  have d0 := HLD0.out.h.cell 0
  have d1 := HLD0.out.h.cell 1
  have d2 := HLD0.out.h.cell 2
  have d3 := HLD0.out.h.cell 3
  have d4 := HLD0.out.h.cell 4
  have d5 := HLD0.out.h.cell 5
  have d6 := HLD0.out.h.cell 6
  have d7 := HLD0.out.h.cell 7
  simp only [List.getElem?_toArray, List.getElem?_cons_succ, List.getElem?_cons_zero] at d0 d1 d2 d3 d4 d5 d6 d7
  have lD := HLD0.out.h.lt
  obtain ⟨cc0, cc1, lcc⟩ := HB0.out.c0
  have CC := HAP.out _ _ HB0.out
  have HCC := hid CC
  clear CC
  go_wp2_with fail
  refine HCC.out.mono ?_
  intro e9 w1 hq
  obtain rfl := hq.1
  clear t0 t1 t2 t3 lT d0 d1 d2 d3 d4 d5 d6 d7 lD cc0 cc1 lcc
  have FIN : Hid (Q (.returned (.tuple #[])) w1) := by
    show Q _ _
    rw [← HQ.out]
    exact hq
  clear hq HCC
  go_wp2
  go_end0
  exact FIN.out
theorem st28a (P : StZ w A N root W A1 m bT bD xb k d) (hk : k.k = 28) (H : FrZs (.pointer (some ⟨A.br, 0, none⟩)) (.pointer (some ⟨xb, 0, none⟩)) (.pointer (some ⟨bT, 0, none⟩)) (.pointer (some ⟨bD, 0, none⟩)) (.int .i64 k.k) a) (hl : m.th.tasks.length ≤ 900000) (hvl : m.th.vals.length ≤ 900000) (hv : 2 ≤ m.th.vals.length) (K : ThrOk (m.pops 2)) (hne : ((m.pops 1).topM 0).t ≠ 4) :
    (cTz (stC 27 (cI (stB Tryz.f77.body)))).wp Tryz.prog (Exit.inBlock 0 (bodyPost Tryz.prog Tryz.f77 (PQm w A N root ((m.pops 2).raise mIndex)))) a W := by
  obtain ⟨u, rfl⟩ := H.form
  obtain ⟨kk, kn, kx, ke⟩ := k
  obtain ⟨dk, da, db, dc, dnx, dn, dss, dp⟩ := d
  dsimp only at hk
  subst hk
  obtain ⟨Q, HQ⟩ : ∃ Q : Ending → World → Prop, Hid (PQm w A N root ((m.pops 2).raise mIndex) = Q) := ⟨_, rfl⟩
  dsimp only at HQ ⊢
  rw [HQ.out]
  obtain ⟨ea, HEA⟩ : ∃ ea, Hid (eAd A.E ke = ea) := ⟨_, rfl⟩
  have HE : Hid (∀ i, ke = some i → i < A.E.length) := P.he
  have HB0 := hid P.B
  have HLT0 : Hid (LcB W A1 bT #[.int .i64 (28 : Nat), .int .i64 kn, .int .i64 kx, .pointer ea] 224) := by
    have := P.LT
    dsimp only at this
    rw [HEA.out] at this
    exact this
  have HLD0 : Hid (LcB W A1 bD #[.int .i64 (dk : Nat), .int .i64 (da : Nat), .int .i64 (db : Nat), .int .i64 (dc : Nat), .int .i64 (dnx : Nat), .int .u64 (dn : Nat), sv dss, .int .i64 (dp : Nat)] 134) := P.LD
  have HT0 : Hid (m.th.tasks.length ≤ 900000 + 0) := hl
  have HV0 : Hid (m.th.vals.length ≤ 900000 + 0) := hvl
  have HXX := hid P.x
  have HBC := hid P.B.c
  have HZ : Hid ((m.pops 2).raise mIndex = ((m.pops 1).pops 1).raise mIndex) := by
    show _ = _
    rw [pops_pops HBC.out]
  have HVP : Hid (0 < m.th.vals.length) := by show _ < _; omega
  have HVP1 : Hid (0 < (m.pops 1).th.vals.length) := by show _ < _; rw [th_pops HBC.out]; simp; omega
  clear hv
  have HK : Hid (ThrOk ((m.pops 1).pops 1)) := by show ThrOk _; rw [pops_pops HBC.out]; exact K
  have HNE : Hid (∀ v, (m.pops 1).topM 0 = v → v.t ≠ 4) := fun v hv => by rw [← hv]; exact hne
  clear K hne
  clear P H hl hvl
  obtain ⟨c, hc⟩ : ∃ c, c = cTz (stC 27 (cI (stB Tryz.f77.body))) := ⟨_, rfl⟩
  rw [← hc]
  simp only [cTz, cE, cI, cR, stC, stB, Tryz.f77, Option.getD_some] at hc
  subst hc
  have t0 := HLT0.out.h.cell 0
  have t1 := HLT0.out.h.cell 1
  have t2 := HLT0.out.h.cell 2
  have t3 := HLT0.out.h.cell 3
  simp only [List.getElem?_toArray, List.getElem?_cons_succ, List.getElem?_cons_zero] at t0 t1 t2 t3
  have lT := HLT0.out.h.lt
  have d0 := HLD0.out.h.cell 0
  have d1 := HLD0.out.h.cell 1
  have d2 := HLD0.out.h.cell 2
  have d3 := HLD0.out.h.cell 3
  have d4 := HLD0.out.h.cell 4
  have d5 := HLD0.out.h.cell 5
  have d6 := HLD0.out.h.cell 6
  have d7 := HLD0.out.h.cell 7
  simp only [List.getElem?_toArray, List.getElem?_cons_succ, List.getElem?_cons_zero] at d0 d1 d2 d3 d4 d5 d6 d7
  have lD := HLD0.out.h.lt
  obtain ⟨cc0, cc1, lcc⟩ := HB0.out.c0
  obtain ⟨⟨vt, vn, vs⟩, HXv⟩ : ∃ v, Hid (m.topM 0 = v) := ⟨_, rfl⟩
  have CC := HB0.out.pop (HVP.out) (by have := HV0.out; omega)
  rw [HXv.out] at CC
  have HCC : Hid (Calls Tryz.prog 116 #[.pointer (some ⟨A.br, 0, none⟩)] W (fun e w' => e = .returned (.agg #[.int .i64 vt, .int .u64 vn, sv vs]) ∧ ∃ A', RB w A N root w' A' (m.pops 1) ∧ MSt W A1 w' A')) := CC
  clear CC
  go_wp2_with fail
  refine HCC.out.mono ?_
  rintro e9 w1 ⟨rfl, A11, BB, SS⟩
  clear t0 t1 t2 t3 lT d0 d1 d2 d3 d4 d5 d6 d7 lD cc0 cc1 lcc
  clear HCC
  have FA : Fr (fun _ => False) w1 (w1.alloc (.cells #[.int .i64 vt, .int .u64 vn, sv vs] 68)) := (Fr.refl _ _).alloc _
  have HB1 := hid (BB.fresh FA)
  have HLT1 := hid ((HLT0.out.st SS).fr FA)
  have HLD1 := hid ((HLD0.out.st SS).fr FA)
  have HLV1 : Hid (LcB (w1.alloc (.cells #[.int .i64 vt, .int .u64 vn, sv vs] 68)) A11 w1.heap.size #[.int .i64 vt, .int .u64 vn, sv vs] 68) := LcB.new BB.r.own _ _
  have HS1 := hid (SS.trans (MSt.fresh _ FA))
  clear FA BB SS
  have HT1 : Hid ((m.pops 1).th.tasks.length ≤ 900000 + 1) := by
    show _ ≤ _
    rw [th_pops HB0.out.c]
    have := HT0.out
    simp
    omega
  have HV1 : Hid ((m.pops 1).th.vals.length ≤ 900000 + 1) := by
    show _ ≤ _
    rw [th_pops HB0.out.c]
    have := HV0.out
    simp
    omega
  have t0 := HLT1.out.h.cell 0
  have t1 := HLT1.out.h.cell 1
  have t2 := HLT1.out.h.cell 2
  have t3 := HLT1.out.h.cell 3
  simp only [List.getElem?_toArray, List.getElem?_cons_succ, List.getElem?_cons_zero] at t0 t1 t2 t3
  have lT := HLT1.out.h.lt
  have d0 := HLD1.out.h.cell 0
  have d1 := HLD1.out.h.cell 1
  have d2 := HLD1.out.h.cell 2
  have d3 := HLD1.out.h.cell 3
  have d4 := HLD1.out.h.cell 4
  have d5 := HLD1.out.h.cell 5
  have d6 := HLD1.out.h.cell 6
  have d7 := HLD1.out.h.cell 7
  simp only [List.getElem?_toArray, List.getElem?_cons_succ, List.getElem?_cons_zero] at d0 d1 d2 d3 d4 d5 d6 d7
  have lD := HLD1.out.h.lt
  have v0 := HLV1.out.h.cell 0
  have v1 := HLV1.out.h.cell 1
  have v2 := HLV1.out.h.cell 2
  simp only [List.getElem?_toArray, List.getElem?_cons_succ, List.getElem?_cons_zero] at v0 v1 v2
  have lV := HLV1.out.h.lt
  obtain ⟨cc0, cc1, lcc⟩ := HB1.out.c0
  obtain ⟨⟨ut, un, us⟩, HXu⟩ : ∃ v, Hid ((m.pops 1).topM 0 = v) := ⟨_, rfl⟩
  have CC := HB1.out.pop (HVP1.out) (by have := HV1.out; omega)
  rw [HXu.out] at CC
  have HCC : Hid (Calls Tryz.prog 116 #[.pointer (some ⟨A.br, 0, none⟩)] (w1.alloc (.cells #[.int .i64 vt, .int .u64 vn, sv vs] 68)) (fun e w' => e = .returned (.agg #[.int .i64 ut, .int .u64 un, sv us]) ∧ ∃ A', RB w A N root w' A' ((m.pops 1).pops 1) ∧ MSt (w1.alloc (.cells #[.int .i64 vt, .int .u64 vn, sv vs] 68)) A11 w' A')) := CC
  clear CC
  go_wp2_with fail
  refine HCC.out.mono ?_
  rintro e10 w2 ⟨rfl, A12, BB, SS⟩
  clear t0 t1 t2 t3 lT d0 d1 d2 d3 d4 d5 d6 d7 lD v0 v1 v2 lV cc0 cc1 lcc
  clear HCC
  have FA : Fr (fun _ => False) w2 (w2.alloc (.cells #[.int .i64 ut, .int .u64 un, sv us] 68)) := (Fr.refl _ _).alloc _
  have HB2 := hid (BB.fresh FA)
  have HLT2 := hid ((HLT1.out.st SS).fr FA)
  have HLD2 := hid ((HLD1.out.st SS).fr FA)
  have HLV2 := hid ((HLV1.out.st SS).fr FA)
  have HLU2 : Hid (LcB (w2.alloc (.cells #[.int .i64 ut, .int .u64 un, sv us] 68)) A12 w2.heap.size #[.int .i64 ut, .int .u64 un, sv us] 68) := LcB.new BB.r.own _ _
  have HS2 := hid (SS.trans (MSt.fresh _ FA))
  clear FA BB SS
  have HT2 : Hid (((m.pops 1).pops 1).th.tasks.length ≤ 900000 + 2) := by
    show _ ≤ _
    rw [th_pops HB1.out.c]
    have := HT1.out
    simp
    omega
  have HV2 : Hid (((m.pops 1).pops 1).th.vals.length ≤ 900000 + 2) := by
    show _ ≤ _
    rw [th_pops HB1.out.c]
    have := HV1.out
    simp
    omega
  have t0 := HLT2.out.h.cell 0
  have t1 := HLT2.out.h.cell 1
  have t2 := HLT2.out.h.cell 2
  have t3 := HLT2.out.h.cell 3
  simp only [List.getElem?_toArray, List.getElem?_cons_succ, List.getElem?_cons_zero] at t0 t1 t2 t3
  have lT := HLT2.out.h.lt
  have d0 := HLD2.out.h.cell 0
  have d1 := HLD2.out.h.cell 1
  have d2 := HLD2.out.h.cell 2
  have d3 := HLD2.out.h.cell 3
  have d4 := HLD2.out.h.cell 4
  have d5 := HLD2.out.h.cell 5
  have d6 := HLD2.out.h.cell 6
  have d7 := HLD2.out.h.cell 7
  simp only [List.getElem?_toArray, List.getElem?_cons_succ, List.getElem?_cons_zero] at d0 d1 d2 d3 d4 d5 d6 d7
  have lD := HLD2.out.h.lt
  have v0 := HLV2.out.h.cell 0
  have v1 := HLV2.out.h.cell 1
  have v2 := HLV2.out.h.cell 2
  simp only [List.getElem?_toArray, List.getElem?_cons_succ, List.getElem?_cons_zero] at v0 v1 v2
  have lV := HLV2.out.h.lt
  have u0 := HLU2.out.h.cell 0
  have u1 := HLU2.out.h.cell 1
  have u2 := HLU2.out.h.cell 2
  simp only [List.getElem?_toArray, List.getElem?_cons_succ, List.getElem?_cons_zero] at u0 u1 u2
  have lU := HLU2.out.h.lt
  obtain ⟨cc0, cc1, lcc⟩ := HB2.out.c0
  have hne : ((ut : Int) != 4) = true := by
    have := HNE.out _ HXu.out
    rw [bne_iff_ne]
    dsimp only at this
    omega
  have CC := HB2.out.raise HK.out mIndex (by decide)
  have HCC := hid CC
  clear CC
  go_wp2_with fail
  refine HCC.out.mono ?_
  intro e11 w3 hq
  obtain rfl := hq.1
  clear t0 t1 t2 t3 lT d0 d1 d2 d3 d4 d5 d6 d7 lD v0 v1 v2 lV u0 u1 u2 lU cc0 cc1 lcc
  have FIN : Hid (Q (.returned (.tuple #[])) w3) := by
    show Q _ _
    rw [← HQ.out, HZ.out]
    exact hq
  clear hq HCC
  go_wp2
  refine bodyPost_ret (results_none rfl _ _ _) rfl ?_
  exact FIN.out
end
end Go.Proofs.Qxb6500574aGreatDoor
