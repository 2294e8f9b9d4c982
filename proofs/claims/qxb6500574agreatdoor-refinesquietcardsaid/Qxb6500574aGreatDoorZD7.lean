/-
  THE WALKS of compm: step: and, or, the start of a walk through a table.
-/
import Derived.Test.Qxb6500574aGreatDoorZD6
namespace Go.Proofs.Qxb6500574aGreatDoor
open Go Go.RowKit
set_option linter.unusedVariables false
set_option linter.unusedSimpArgs false
section
variable {w W W1 : World} {A A1 A2 : RnP} {N : List Nd} {root : Nat} {M m : MD} {k : TkD} {r : List TkD} {d : Nd} {bT bD xb : Nat} {a : Act}
set_option maxRecDepth 100000
set_option maxHeartbeats 2000000
/-- the values in memory -/
theorem RB.tops (B : RB w A N root W A1 m) (hx : ∃ x, A1.X[m.cur]? = some x ∧ x.b = xb) (h0 : 0 < m.th.vals.length) :
    ∃ g c, W.cell? ⟨xb, 4, none⟩ = some (.slice (some ⟨g, 0, none⟩) m.th.vals.length c) ∧ m.th.vals.length ≤ c ∧ g < W.heap.size ∧ xb < W.heap.size ∧
      ∀ j, j < m.th.vals.length → W.cell? ⟨g, j * 3, none⟩ = some (.int .i64 (m.th.vals.getD j nilV).t) ∧ W.cell? ⟨g, j * 3 + 1, none⟩ = some (.int .u64 (m.th.vals.getD j nilV).n) ∧ W.cell? ⟨g, j * 3 + 2, none⟩ = some (sv (m.th.vals.getD j nilV).s) := by
  obtain ⟨x, hx, rfl⟩ := hx
  have O := B.r.one _ _ _ (th_cur B.c) hx
  have c4 := O.b.has.cell 4
  simp only [thV, List.getElem?_toArray, List.getElem?_cons_succ, List.getElem?_cons_zero, Sl.v] at c4
  obtain ⟨g, ga, gc, _, gl, gx, _⟩ := O.vl.cells h0
  rw [ga] at c4
  refine ⟨g, x.vl.c, c4, gc, gl, O.b.has.lt, fun j hj => ?_⟩
  have hv0 : m.th.vals[j]? = some (m.th.vals.getD j nilV) := by rw [List.getD_eq_getElem?_getD, List.getElem?_eq_getElem hj]; rfl
  obtain ⟨a0, a1, a2⟩ := at3 hv0
  exact ⟨(gx _ (show _ < m.th.vals.length * 3 by omega)).trans a0, (gx _ (show _ < m.th.vals.length * 3 by omega)).trans a1, (gx _ (show _ < m.th.vals.length * 3 by omega)).trans a2⟩
theorem RB.x1 {W2 : World} {A2 : RnP} {c : Nat} (h : ∃ x, A1.X[c]? = some x ∧ x.b = xb) (s : MSt W A1 W2 A2) : ∃ x, A2.X[c]? = some x ∧ x.b = xb := by
  obtain ⟨x, h1, h2⟩ := h
  obtain ⟨y, h3, h4⟩ := s.x _ _ h1
  exact ⟨y, h3, h4.trans h2⟩
theorem st26a (P : StZ w A N root W A1 m bT bD xb k d) (hk : k.k = 26) (H : FrZs (.pointer (some ⟨A.br, 0, none⟩)) (.pointer (some ⟨xb, 0, none⟩)) (.pointer (some ⟨bT, 0, none⟩)) (.pointer (some ⟨bD, 0, none⟩)) (.int .i64 k.k) a) (hl : m.th.tasks.length ≤ 900000) (hvl : m.th.vals.length ≤ 900000) (hv : 1 ≤ m.th.vals.length) (htr : truthy (m.topM 0) = true) :
    (cTz (stC 25 (cI (stB Tryz.f77.body)))).wp Tryz.prog (Exit.inBlock 0 (bodyPost Tryz.prog Tryz.f77 (PQm w A N root ((m.pops 1).todo [⟨2, d.b, 0, k.e⟩])))) a W := by
  obtain ⟨u, rfl⟩ := H.form
  obtain ⟨kk, kn, kx, ke⟩ := k
  obtain ⟨dk, da, db, dc, dnx, dn, dss, dp⟩ := d
  dsimp only at hk
  subst hk
  obtain ⟨Q, HQ⟩ : ∃ Q : Ending → World → Prop, Hid (PQm w A N root ((m.pops 1).todo [⟨2, db, 0, ke⟩]) = Q) := ⟨_, rfl⟩
  dsimp only at HQ ⊢
  rw [HQ.out]
  obtain ⟨ea, HEA⟩ : ∃ ea, Hid (eAd A.E ke = ea) := ⟨_, rfl⟩
  have HE : Hid (∀ i, ke = some i → i < A.E.length) := P.he
  have HB0 := hid P.B
  have HLT0 : Hid (LcB W A1 bT #[.int .i64 (26 : Nat), .int .i64 kn, .int .i64 kx, .pointer ea] 224) := by
    have := P.LT
    dsimp only at this
    rw [HEA.out] at this
    exact this
  have HLD0 : Hid (LcB W A1 bD #[.int .i64 (dk : Nat), .int .i64 (da : Nat), .int .i64 (db : Nat), .int .i64 (dc : Nat), .int .i64 (dnx : Nat), .int .u64 (dn : Nat), sv dss, .int .i64 (dp : Nat)] 134) := P.LD
  have HT0 : Hid (m.th.tasks.length ≤ 900000 + 0) := hl
  have HV0 : Hid (m.th.vals.length ≤ 900000 + 0) := hvl
  have HXX := hid P.x
  have HBC := hid P.B.c
  have HVK : Hid (1 ≤ m.th.vals.length) := hv
  have HVP : Hid (0 < m.th.vals.length) := by show _ < _; omega
  clear hv
  have HTR : Hid (truthy (m.topM 0) = true) := htr
  clear htr
  clear P H hl hvl
  obtain ⟨c, hc⟩ : ∃ c, c = cTz (stC 25 (cI (stB Tryz.f77.body))) := ⟨_, rfl⟩
  rw [← hc]
  simp only [cTz, cE, cI, cR, stC, stB, Tryz.f77, Option.getD_some] at hc
  subst hc
  have t0 := HLT0.out.h.cell 0
  have t1 := HLT0.out.h.cell 1
  have t2 := HLT0.out.h.cell 2
  have t3 := HLT0.out.h.cell 3
  simp only [List.getElem?_toArray, List.getElem?_cons_succ, List.getElem?_cons_zero] at t0 t1 t2 t3
  have lT := HLT0.out.h.lt
  have d0 := HLD0.out.h.cell 0
  have d1 := HLD0.out.h.cell 1
  have d2 := HLD0.out.h.cell 2
  have d3 := HLD0.out.h.cell 3
  have d4 := HLD0.out.h.cell 4
  have d5 := HLD0.out.h.cell 5
  have d6 := HLD0.out.h.cell 6
  have d7 := HLD0.out.h.cell 7
  simp only [List.getElem?_toArray, List.getElem?_cons_succ, List.getElem?_cons_zero] at d0 d1 d2 d3 d4 d5 d6 d7
  have lD := HLD0.out.h.lt
  obtain ⟨cc0, cc1, lcc⟩ := HB0.out.c0
  obtain ⟨g, cp, c4, lc4, lg, lxb, CV⟩ := HB0.out.tops HXX.out (by have := HVK.out; omega)
  obtain ⟨n, HNV⟩ : ∃ n, Hid (m.th.vals.length = n + 1) := ⟨m.th.vals.length - 1, by show _ = _; have := HVK.out; omega⟩
  obtain ⟨⟨vt, vn, vs⟩, HXv⟩ : ∃ v, Hid (m.topM 0 = v) := ⟨_, rfl⟩
  have D := CV (n) (by rw [HNV.out]; omega)
  have ej : m.th.vals.getD (n) nilV = ⟨vt, vn, vs⟩ := by rw [← HXv.out]; unfold MD.topM; rw [HNV.out]; congr 1
  rw [ej] at D
  dsimp only at D
  obtain ⟨zv0, zv1, zv2⟩ := D
  clear ej
  rw [HNV.out] at c4 lc4
  have hnb : n ≤ 900010 := by have := HV0.out; rw [HNV.out] at this; omega
  clear CV
  have ei1 : (n : Int) + 1 - 1 = (n : Int) := by omega
  have hpos : (0 : Int) < (n : Int) + 1 := by omega
  have TA : Hid (∀ W2, Calls Tryz.prog 119 #[.agg #[.int .i64 vt, .int .u64 vn, sv vs]] W2 fun e w' => e = .returned (.bool (truthy ⟨vt, vn, vs⟩)) ∧ Fr (fun _ => False) W2 w') := fun W2 => truthy_any ⟨vt, vn, vs⟩
  have HTV := HTR
  rw [HXv.out] at HTV
  rw [HTV.out] at TA
  go_wp2_with fail
  refine wp_region_tail 12 (by kernel_rfl) (by kernel_rfl) (fun _ _ _ _ _ h => h) ?_
  simp only [List.take_succ_cons, List.take_zero, List.drop_succ_cons, List.drop_zero]
  repeat go_big_quiet_step (fail)
  refine wpQuiet_nil ?_
  go_wp2_with fail
  refine (TA.out _).mono ?_
  rintro e9 w1 ⟨rfl, G0⟩
  have G : Fr (fun _ => False) W w1 := ((Fr.refl _ _).drew).trans G0 (fun _ _ z => z)
  clear t0 t1 t2 t3 lT d0 d1 d2 d3 d4 d5 d6 d7 lD cc0 cc1 lcc c4 lc4 lg lxb zv0 zv1 zv2 ei1 hpos hnb
  have HB1 := hid (HB0.out.fresh G)
  have HLT1 := hid (HLT0.out.fr G)
  have HLD1 := hid (HLD0.out.fr G)
  have HT1 : Hid (m.th.tasks.length ≤ 900000 + 1) := by show _ ≤ _; have := HT0.out; omega
  have HV1 : Hid (m.th.vals.length ≤ 900000 + 1) := by show _ ≤ _; have := HV0.out; omega
  clear G G0 TA
  have t0 := HLT1.out.h.cell 0
  have t1 := HLT1.out.h.cell 1
  have t2 := HLT1.out.h.cell 2
  have t3 := HLT1.out.h.cell 3
  simp only [List.getElem?_toArray, List.getElem?_cons_succ, List.getElem?_cons_zero] at t0 t1 t2 t3
  have lT := HLT1.out.h.lt
  have d0 := HLD1.out.h.cell 0
  have d1 := HLD1.out.h.cell 1
  have d2 := HLD1.out.h.cell 2
  have d3 := HLD1.out.h.cell 3
  have d4 := HLD1.out.h.cell 4
  have d5 := HLD1.out.h.cell 5
  have d6 := HLD1.out.h.cell 6
  have d7 := HLD1.out.h.cell 7
  simp only [List.getElem?_toArray, List.getElem?_cons_succ, List.getElem?_cons_zero] at d0 d1 d2 d3 d4 d5 d6 d7
  have lD := HLD1.out.h.lt
  obtain ⟨cc0, cc1, lcc⟩ := HB1.out.c0
  obtain ⟨⟨pt, pn, ps⟩, HXp⟩ : ∃ v, Hid (m.topM 0 = v) := ⟨_, rfl⟩
  have CC := HB1.out.pop (HVP.out) (by have := HV1.out; omega)
  rw [HXp.out] at CC
  have HCC : Hid (Calls Tryz.prog 116 #[.pointer (some ⟨A.br, 0, none⟩)] w1 (fun e w' => e = .returned (.agg #[.int .i64 pt, .int .u64 pn, sv ps]) ∧ ∃ A', RB w A N root w' A' (m.pops 1) ∧ MSt w1 A1 w' A')) := CC
  clear CC
  go_wp2_with fail
  refine HCC.out.mono ?_
  rintro e10 w2 ⟨rfl, A12, BB, SS⟩
  clear t0 t1 t2 t3 lT d0 d1 d2 d3 d4 d5 d6 d7 lD cc0 cc1 lcc
  clear HCC
  have HB2 := hid BB
  have HLT2 := hid (HLT1.out.st SS)
  have HLD2 := hid (HLD1.out.st SS)
  have HS2 := hid SS
  clear BB SS
  have HT2 : Hid ((m.pops 1).th.tasks.length ≤ 900000 + 2) := by
    show _ ≤ _
    rw [th_pops HB1.out.c]
    have := HT1.out
    simp
    omega
  have HV2 : Hid ((m.pops 1).th.vals.length ≤ 900000 + 2) := by
    show _ ≤ _
    rw [th_pops HB1.out.c]
    have := HV1.out
    simp
    omega
  have t0 := HLT2.out.h.cell 0
  have t1 := HLT2.out.h.cell 1
  have t2 := HLT2.out.h.cell 2
  have t3 := HLT2.out.h.cell 3
  simp only [List.getElem?_toArray, List.getElem?_cons_succ, List.getElem?_cons_zero] at t0 t1 t2 t3
  have lT := HLT2.out.h.lt
  have d0 := HLD2.out.h.cell 0
  have d1 := HLD2.out.h.cell 1
  have d2 := HLD2.out.h.cell 2
  have d3 := HLD2.out.h.cell 3
  have d4 := HLD2.out.h.cell 4
  have d5 := HLD2.out.h.cell 5
  have d6 := HLD2.out.h.cell 6
  have d7 := HLD2.out.h.cell 7
  simp only [List.getElem?_toArray, List.getElem?_cons_succ, List.getElem?_cons_zero] at d0 d1 d2 d3 d4 d5 d6 d7
  have lD := HLD2.out.h.lt
  obtain ⟨cc0, cc1, lcc⟩ := HB2.out.c0
  have CC := HB2.out.todo (by have := HT2.out; omega) 2 db 0 ke HE.out (k' := 2) (n' := (db : Nat)) (x' := 0) rfl rfl rfl
  rw [HEA.out] at CC
  have HCC := hid CC
  clear CC
  go_wp2_with fail
  refine HCC.out.mono ?_
  rintro e11 w3 ⟨rfl, A13, BB, SS⟩
  clear t0 t1 t2 t3 lT d0 d1 d2 d3 d4 d5 d6 d7 lD cc0 cc1 lcc
  clear HCC
  have HB3 := hid BB
  have HLT3 := hid (HLT2.out.st SS)
  have HLD3 := hid (HLD2.out.st SS)
  have HS3 := hid SS
  clear BB SS
  have HT3 : Hid (((m.pops 1).todo [⟨2, db, 0, ke⟩]).th.tasks.length ≤ 900000 + 3) := by
    show _ ≤ _
    rw [th_todo HB2.out.c]
    have := HT2.out
    simp
    omega
  have HV3 : Hid (((m.pops 1).todo [⟨2, db, 0, ke⟩]).th.vals.length ≤ 900000 + 3) := by
    show _ ≤ _
    rw [th_todo HB2.out.c]
    have := HV2.out
    simp
    omega
  have t0 := HLT3.out.h.cell 0
  have t1 := HLT3.out.h.cell 1
  have t2 := HLT3.out.h.cell 2
  have t3 := HLT3.out.h.cell 3
  simp only [List.getElem?_toArray, List.getElem?_cons_succ, List.getElem?_cons_zero] at t0 t1 t2 t3
  have lT := HLT3.out.h.lt
  have d0 := HLD3.out.h.cell 0
  have d1 := HLD3.out.h.cell 1
  have d2 := HLD3.out.h.cell 2
  have d3 := HLD3.out.h.cell 3
  have d4 := HLD3.out.h.cell 4
  have d5 := HLD3.out.h.cell 5
  have d6 := HLD3.out.h.cell 6
  have d7 := HLD3.out.h.cell 7
  simp only [List.getElem?_toArray, List.getElem?_cons_succ, List.getElem?_cons_zero] at d0 d1 d2 d3 d4 d5 d6 d7
  have lD := HLD3.out.h.lt
  obtain ⟨cc0, cc1, lcc⟩ := HB3.out.c0
  have FIN : Hid (Q (.returned (.tuple #[])) w3) := by
    show Q _ _
    rw [← HQ.out]
    exact HB3.out.end
  go_wp2
  go_end0
  exact FIN.out
theorem st26b (P : StZ w A N root W A1 m bT bD xb k d) (hk : k.k = 26) (H : FrZs (.pointer (some ⟨A.br, 0, none⟩)) (.pointer (some ⟨xb, 0, none⟩)) (.pointer (some ⟨bT, 0, none⟩)) (.pointer (some ⟨bD, 0, none⟩)) (.int .i64 k.k) a) (hl : m.th.tasks.length ≤ 900000) (hvl : m.th.vals.length ≤ 900000) (hv : 1 ≤ m.th.vals.length) (htr : truthy (m.topM 0) = false) :
    (cTz (stC 25 (cI (stB Tryz.f77.body)))).wp Tryz.prog (Exit.inBlock 0 (bodyPost Tryz.prog Tryz.f77 (PQm w A N root (m)))) a W := by
  obtain ⟨u, rfl⟩ := H.form
  obtain ⟨kk, kn, kx, ke⟩ := k
  obtain ⟨dk, da, db, dc, dnx, dn, dss, dp⟩ := d
  dsimp only at hk
  subst hk
  obtain ⟨Q, HQ⟩ : ∃ Q : Ending → World → Prop, Hid (PQm w A N root (m) = Q) := ⟨_, rfl⟩
  dsimp only at HQ ⊢
  rw [HQ.out]
  obtain ⟨ea, HEA⟩ : ∃ ea, Hid (eAd A.E ke = ea) := ⟨_, rfl⟩
  have HE : Hid (∀ i, ke = some i → i < A.E.length) := P.he
  have HB0 := hid P.B
  have HLT0 : Hid (LcB W A1 bT #[.int .i64 (26 : Nat), .int .i64 kn, .int .i64 kx, .pointer ea] 224) := by
    have := P.LT
    dsimp only at this
    rw [HEA.out] at this
    exact this
  have HLD0 : Hid (LcB W A1 bD #[.int .i64 (dk : Nat), .int .i64 (da : Nat), .int .i64 (db : Nat), .int .i64 (dc : Nat), .int .i64 (dnx : Nat), .int .u64 (dn : Nat), sv dss, .int .i64 (dp : Nat)] 134) := P.LD
  have HT0 : Hid (m.th.tasks.length ≤ 900000 + 0) := hl
  have HV0 : Hid (m.th.vals.length ≤ 900000 + 0) := hvl
  have HXX := hid P.x
  have HBC := hid P.B.c
  have HVK : Hid (1 ≤ m.th.vals.length) := hv
  have HVP : Hid (0 < m.th.vals.length) := by show _ < _; omega
  clear hv
  have HTR : Hid (truthy (m.topM 0) = false) := htr
  clear htr
  clear P H hl hvl
  obtain ⟨c, hc⟩ : ∃ c, c = cTz (stC 25 (cI (stB Tryz.f77.body))) := ⟨_, rfl⟩
  rw [← hc]
  simp only [cTz, cE, cI, cR, stC, stB, Tryz.f77, Option.getD_some] at hc
  subst hc
  have t0 := HLT0.out.h.cell 0
  have t1 := HLT0.out.h.cell 1
  have t2 := HLT0.out.h.cell 2
  have t3 := HLT0.out.h.cell 3
  simp only [List.getElem?_toArray, List.getElem?_cons_succ, List.getElem?_cons_zero] at t0 t1 t2 t3
  have lT := HLT0.out.h.lt
  have d0 := HLD0.out.h.cell 0
  have d1 := HLD0.out.h.cell 1
  have d2 := HLD0.out.h.cell 2
  have d3 := HLD0.out.h.cell 3
  have d4 := HLD0.out.h.cell 4
  have d5 := HLD0.out.h.cell 5
  have d6 := HLD0.out.h.cell 6
  have d7 := HLD0.out.h.cell 7
  simp only [List.getElem?_toArray, List.getElem?_cons_succ, List.getElem?_cons_zero] at d0 d1 d2 d3 d4 d5 d6 d7
  have lD := HLD0.out.h.lt
  obtain ⟨cc0, cc1, lcc⟩ := HB0.out.c0
  obtain ⟨g, cp, c4, lc4, lg, lxb, CV⟩ := HB0.out.tops HXX.out (by have := HVK.out; omega)
  obtain ⟨n, HNV⟩ : ∃ n, Hid (m.th.vals.length = n + 1) := ⟨m.th.vals.length - 1, by show _ = _; have := HVK.out; omega⟩
  obtain ⟨⟨vt, vn, vs⟩, HXv⟩ : ∃ v, Hid (m.topM 0 = v) := ⟨_, rfl⟩
  have D := CV (n) (by rw [HNV.out]; omega)
  have ej : m.th.vals.getD (n) nilV = ⟨vt, vn, vs⟩ := by rw [← HXv.out]; unfold MD.topM; rw [HNV.out]; congr 1
  rw [ej] at D
  dsimp only at D
  obtain ⟨zv0, zv1, zv2⟩ := D
  clear ej
  rw [HNV.out] at c4 lc4
  have hnb : n ≤ 900010 := by have := HV0.out; rw [HNV.out] at this; omega
  clear CV
  have ei1 : (n : Int) + 1 - 1 = (n : Int) := by omega
  have hpos : (0 : Int) < (n : Int) + 1 := by omega
  have TA : Hid (∀ W2, Calls Tryz.prog 119 #[.agg #[.int .i64 vt, .int .u64 vn, sv vs]] W2 fun e w' => e = .returned (.bool (truthy ⟨vt, vn, vs⟩)) ∧ Fr (fun _ => False) W2 w') := fun W2 => truthy_any ⟨vt, vn, vs⟩
  have HTV := HTR
  rw [HXv.out] at HTV
  rw [HTV.out] at TA
  go_wp2_with fail
  refine wp_region_tail 12 (by kernel_rfl) (by kernel_rfl) (fun _ _ _ _ _ h => h) ?_
  simp only [List.take_succ_cons, List.take_zero, List.drop_succ_cons, List.drop_zero]
  repeat go_big_quiet_step (fail)
  refine wpQuiet_nil ?_
  go_wp2_with fail
  refine (TA.out _).mono ?_
  rintro e9 w1 ⟨rfl, G0⟩
  have G : Fr (fun _ => False) W w1 := ((Fr.refl _ _).drew).trans G0 (fun _ _ z => z)
  clear t0 t1 t2 t3 lT d0 d1 d2 d3 d4 d5 d6 d7 lD cc0 cc1 lcc c4 lc4 lg lxb zv0 zv1 zv2 ei1 hpos hnb
  have HB1 := hid (HB0.out.fresh G)
  have HLT1 := hid (HLT0.out.fr G)
  have HLD1 := hid (HLD0.out.fr G)
  have HT1 : Hid (m.th.tasks.length ≤ 900000 + 1) := by show _ ≤ _; have := HT0.out; omega
  have HV1 : Hid (m.th.vals.length ≤ 900000 + 1) := by show _ ≤ _; have := HV0.out; omega
  clear G G0 TA
  have t0 := HLT1.out.h.cell 0
  have t1 := HLT1.out.h.cell 1
  have t2 := HLT1.out.h.cell 2
  have t3 := HLT1.out.h.cell 3
  simp only [List.getElem?_toArray, List.getElem?_cons_succ, List.getElem?_cons_zero] at t0 t1 t2 t3
  have lT := HLT1.out.h.lt
  have d0 := HLD1.out.h.cell 0
  have d1 := HLD1.out.h.cell 1
  have d2 := HLD1.out.h.cell 2
  have d3 := HLD1.out.h.cell 3
  have d4 := HLD1.out.h.cell 4
  have d5 := HLD1.out.h.cell 5
  have d6 := HLD1.out.h.cell 6
  have d7 := HLD1.out.h.cell 7
  simp only [List.getElem?_toArray, List.getElem?_cons_succ, List.getElem?_cons_zero] at d0 d1 d2 d3 d4 d5 d6 d7
  have lD := HLD1.out.h.lt
  obtain ⟨cc0, cc1, lcc⟩ := HB1.out.c0
  have FIN : Hid (Q (.returned (.tuple #[])) w1) := by
    show Q _ _
    rw [← HQ.out]
    exact HB1.out.end
  go_wp2
  go_end0
  exact FIN.out
theorem st27a (P : StZ w A N root W A1 m bT bD xb k d) (hk : k.k = 27) (H : FrZs (.pointer (some ⟨A.br, 0, none⟩)) (.pointer (some ⟨xb, 0, none⟩)) (.pointer (some ⟨bT, 0, none⟩)) (.pointer (some ⟨bD, 0, none⟩)) (.int .i64 k.k) a) (hl : m.th.tasks.length ≤ 900000) (hvl : m.th.vals.length ≤ 900000) (hv : 1 ≤ m.th.vals.length) (htr : truthy (m.topM 0) = true) :
    (cTz (stC 26 (cI (stB Tryz.f77.body)))).wp Tryz.prog (Exit.inBlock 0 (bodyPost Tryz.prog Tryz.f77 (PQm w A N root (m)))) a W := by
  obtain ⟨u, rfl⟩ := H.form
  obtain ⟨kk, kn, kx, ke⟩ := k
  obtain ⟨dk, da, db, dc, dnx, dn, dss, dp⟩ := d
  dsimp only at hk
  subst hk
  obtain ⟨Q, HQ⟩ : ∃ Q : Ending → World → Prop, Hid (PQm w A N root (m) = Q) := ⟨_, rfl⟩
  dsimp only at HQ ⊢
  rw [HQ.out]
  obtain ⟨ea, HEA⟩ : ∃ ea, Hid (eAd A.E ke = ea) := ⟨_, rfl⟩
  have HE : Hid (∀ i, ke = some i → i < A.E.length) := P.he
  have HB0 := hid P.B
  have HLT0 : Hid (LcB W A1 bT #[.int .i64 (27 : Nat), .int .i64 kn, .int .i64 kx, .pointer ea] 224) := by
    have := P.LT
    dsimp only at this
    rw [HEA.out] at this
    exact this
  have HLD0 : Hid (LcB W A1 bD #[.int .i64 (dk : Nat), .int .i64 (da : Nat), .int .i64 (db : Nat), .int .i64 (dc : Nat), .int .i64 (dnx : Nat), .int .u64 (dn : Nat), sv dss, .int .i64 (dp : Nat)] 134) := P.LD
  have HT0 : Hid (m.th.tasks.length ≤ 900000 + 0) := hl
  have HV0 : Hid (m.th.vals.length ≤ 900000 + 0) := hvl
  have HXX := hid P.x
  have HBC := hid P.B.c
  have HVK : Hid (1 ≤ m.th.vals.length) := hv
  have HVP : Hid (0 < m.th.vals.length) := by show _ < _; omega
  clear hv
  have HTR : Hid (truthy (m.topM 0) = true) := htr
  clear htr
  clear P H hl hvl
  obtain ⟨c, hc⟩ : ∃ c, c = cTz (stC 26 (cI (stB Tryz.f77.body))) := ⟨_, rfl⟩
  rw [← hc]
  simp only [cTz, cE, cI, cR, stC, stB, Tryz.f77, Option.getD_some] at hc
  subst hc
  have t0 := HLT0.out.h.cell 0
  have t1 := HLT0.out.h.cell 1
  have t2 := HLT0.out.h.cell 2
  have t3 := HLT0.out.h.cell 3
  simp only [List.getElem?_toArray, List.getElem?_cons_succ, List.getElem?_cons_zero] at t0 t1 t2 t3
  have lT := HLT0.out.h.lt
  have d0 := HLD0.out.h.cell 0
  have d1 := HLD0.out.h.cell 1
  have d2 := HLD0.out.h.cell 2
  have d3 := HLD0.out.h.cell 3
  have d4 := HLD0.out.h.cell 4
  have d5 := HLD0.out.h.cell 5
  have d6 := HLD0.out.h.cell 6
  have d7 := HLD0.out.h.cell 7
  simp only [List.getElem?_toArray, List.getElem?_cons_succ, List.getElem?_cons_zero] at d0 d1 d2 d3 d4 d5 d6 d7
  have lD := HLD0.out.h.lt
  obtain ⟨cc0, cc1, lcc⟩ := HB0.out.c0
  obtain ⟨g, cp, c4, lc4, lg, lxb, CV⟩ := HB0.out.tops HXX.out (by have := HVK.out; omega)
  obtain ⟨n, HNV⟩ : ∃ n, Hid (m.th.vals.length = n + 1) := ⟨m.th.vals.length - 1, by show _ = _; have := HVK.out; omega⟩
  obtain ⟨⟨vt, vn, vs⟩, HXv⟩ : ∃ v, Hid (m.topM 0 = v) := ⟨_, rfl⟩
  have D := CV (n) (by rw [HNV.out]; omega)
  have ej : m.th.vals.getD (n) nilV = ⟨vt, vn, vs⟩ := by rw [← HXv.out]; unfold MD.topM; rw [HNV.out]; congr 1
  rw [ej] at D
  dsimp only at D
  obtain ⟨zv0, zv1, zv2⟩ := D
  clear ej
  rw [HNV.out] at c4 lc4
  have hnb : n ≤ 900010 := by have := HV0.out; rw [HNV.out] at this; omega
  clear CV
  have ei1 : (n : Int) + 1 - 1 = (n : Int) := by omega
  have hpos : (0 : Int) < (n : Int) + 1 := by omega
  have TA : Hid (∀ W2, Calls Tryz.prog 119 #[.agg #[.int .i64 vt, .int .u64 vn, sv vs]] W2 fun e w' => e = .returned (.bool (truthy ⟨vt, vn, vs⟩)) ∧ Fr (fun _ => False) W2 w') := fun W2 => truthy_any ⟨vt, vn, vs⟩
  have HTV := HTR
  rw [HXv.out] at HTV
  rw [HTV.out] at TA
  go_wp2_with fail
  refine wp_region_tail 12 (by kernel_rfl) (by kernel_rfl) (fun _ _ _ _ _ h => h) ?_
  simp only [List.take_succ_cons, List.take_zero, List.drop_succ_cons, List.drop_zero]
  repeat go_big_quiet_step (fail)
  refine wpQuiet_nil ?_
  go_wp2_with fail
  refine (TA.out _).mono ?_
  rintro e9 w1 ⟨rfl, G0⟩
  have G : Fr (fun _ => False) W w1 := ((Fr.refl _ _).drew).trans G0 (fun _ _ z => z)
  clear t0 t1 t2 t3 lT d0 d1 d2 d3 d4 d5 d6 d7 lD cc0 cc1 lcc c4 lc4 lg lxb zv0 zv1 zv2 ei1 hpos hnb
  have HB1 := hid (HB0.out.fresh G)
  have HLT1 := hid (HLT0.out.fr G)
  have HLD1 := hid (HLD0.out.fr G)
  have HT1 : Hid (m.th.tasks.length ≤ 900000 + 1) := by show _ ≤ _; have := HT0.out; omega
  have HV1 : Hid (m.th.vals.length ≤ 900000 + 1) := by show _ ≤ _; have := HV0.out; omega
  clear G G0 TA
  have t0 := HLT1.out.h.cell 0
  have t1 := HLT1.out.h.cell 1
  have t2 := HLT1.out.h.cell 2
  have t3 := HLT1.out.h.cell 3
  simp only [List.getElem?_toArray, List.getElem?_cons_succ, List.getElem?_cons_zero] at t0 t1 t2 t3
  have lT := HLT1.out.h.lt
  have d0 := HLD1.out.h.cell 0
  have d1 := HLD1.out.h.cell 1
  have d2 := HLD1.out.h.cell 2
  have d3 := HLD1.out.h.cell 3
  have d4 := HLD1.out.h.cell 4
  have d5 := HLD1.out.h.cell 5
  have d6 := HLD1.out.h.cell 6
  have d7 := HLD1.out.h.cell 7
  simp only [List.getElem?_toArray, List.getElem?_cons_succ, List.getElem?_cons_zero] at d0 d1 d2 d3 d4 d5 d6 d7
  have lD := HLD1.out.h.lt
  obtain ⟨cc0, cc1, lcc⟩ := HB1.out.c0
  have FIN : Hid (Q (.returned (.tuple #[])) w1) := by
    show Q _ _
    rw [← HQ.out]
    exact HB1.out.end
  go_wp2
  go_end0
  exact FIN.out
theorem st27b (P : StZ w A N root W A1 m bT bD xb k d) (hk : k.k = 27) (H : FrZs (.pointer (some ⟨A.br, 0, none⟩)) (.pointer (some ⟨xb, 0, none⟩)) (.pointer (some ⟨bT, 0, none⟩)) (.pointer (some ⟨bD, 0, none⟩)) (.int .i64 k.k) a) (hl : m.th.tasks.length ≤ 900000) (hvl : m.th.vals.length ≤ 900000) (hv : 1 ≤ m.th.vals.length) (htr : truthy (m.topM 0) = false) :
    (cTz (stC 26 (cI (stB Tryz.f77.body)))).wp Tryz.prog (Exit.inBlock 0 (bodyPost Tryz.prog Tryz.f77 (PQm w A N root ((m.pops 1).todo [⟨2, d.b, 0, k.e⟩])))) a W := by
  obtain ⟨u, rfl⟩ := H.form
  obtain ⟨kk, kn, kx, ke⟩ := k
  obtain ⟨dk, da, db, dc, dnx, dn, dss, dp⟩ := d
  dsimp only at hk
  subst hk
  obtain ⟨Q, HQ⟩ : ∃ Q : Ending → World → Prop, Hid (PQm w A N root ((m.pops 1).todo [⟨2, db, 0, ke⟩]) = Q) := ⟨_, rfl⟩
  dsimp only at HQ ⊢
  rw [HQ.out]
  obtain ⟨ea, HEA⟩ : ∃ ea, Hid (eAd A.E ke = ea) := ⟨_, rfl⟩
  have HE : Hid (∀ i, ke = some i → i < A.E.length) := P.he
  have HB0 := hid P.B
  have HLT0 : Hid (LcB W A1 bT #[.int .i64 (27 : Nat), .int .i64 kn, .int .i64 kx, .pointer ea] 224) := by
    have := P.LT
    dsimp only at this
    rw [HEA.out] at this
    exact this
  have HLD0 : Hid (LcB W A1 bD #[.int .i64 (dk : Nat), .int .i64 (da : Nat), .int .i64 (db : Nat), .int .i64 (dc : Nat), .int .i64 (dnx : Nat), .int .u64 (dn : Nat), sv dss, .int .i64 (dp : Nat)] 134) := P.LD
  have HT0 : Hid (m.th.tasks.length ≤ 900000 + 0) := hl
  have HV0 : Hid (m.th.vals.length ≤ 900000 + 0) := hvl
  have HXX := hid P.x
  have HBC := hid P.B.c
  have HVK : Hid (1 ≤ m.th.vals.length) := hv
  have HVP : Hid (0 < m.th.vals.length) := by show _ < _; omega
  clear hv
  have HTR : Hid (truthy (m.topM 0) = false) := htr
  clear htr
  clear P H hl hvl
  obtain ⟨c, hc⟩ : ∃ c, c = cTz (stC 26 (cI (stB Tryz.f77.body))) := ⟨_, rfl⟩
  rw [← hc]
  simp only [cTz, cE, cI, cR, stC, stB, Tryz.f77, Option.getD_some] at hc
  subst hc
  have t0 := HLT0.out.h.cell 0
  have t1 := HLT0.out.h.cell 1
  have t2 := HLT0.out.h.cell 2
  have t3 := HLT0.out.h.cell 3
  simp only [List.getElem?_toArray, List.getElem?_cons_succ, List.getElem?_cons_zero] at t0 t1 t2 t3
  have lT := HLT0.out.h.lt
  have d0 := HLD0.out.h.cell 0
  have d1 := HLD0.out.h.cell 1
  have d2 := HLD0.out.h.cell 2
  have d3 := HLD0.out.h.cell 3
  have d4 := HLD0.out.h.cell 4
  have d5 := HLD0.out.h.cell 5
  have d6 := HLD0.out.h.cell 6
  have d7 := HLD0.out.h.cell 7
  simp only [List.getElem?_toArray, List.getElem?_cons_succ, List.getElem?_cons_zero] at d0 d1 d2 d3 d4 d5 d6 d7
  have lD := HLD0.out.h.lt
  obtain ⟨cc0, cc1, lcc⟩ := HB0.out.c0
  obtain ⟨g, cp, c4, lc4, lg, lxb, CV⟩ := HB0.out.tops HXX.out (by have := HVK.out; omega)
  obtain ⟨n, HNV⟩ : ∃ n, Hid (m.th.vals.length = n + 1) := ⟨m.th.vals.length - 1, by show _ = _; have := HVK.out; omega⟩
  obtain ⟨⟨vt, vn, vs⟩, HXv⟩ : ∃ v, Hid (m.topM 0 = v) := ⟨_, rfl⟩
  have D := CV (n) (by rw [HNV.out]; omega)
  have ej : m.th.vals.getD (n) nilV = ⟨vt, vn, vs⟩ := by rw [← HXv.out]; unfold MD.topM; rw [HNV.out]; congr 1
  rw [ej] at D
  dsimp only at D
  obtain ⟨zv0, zv1, zv2⟩ := D
  clear ej
  rw [HNV.out] at c4 lc4
  have hnb : n ≤ 900010 := by have := HV0.out; rw [HNV.out] at this; omega
  clear CV
  have ei1 : (n : Int) + 1 - 1 = (n : Int) := by omega
  have hpos : (0 : Int) < (n : Int) + 1 := by omega
  have TA : Hid (∀ W2, Calls Tryz.prog 119 #[.agg #[.int .i64 vt, .int .u64 vn, sv vs]] W2 fun e w' => e = .returned (.bool (truthy ⟨vt, vn, vs⟩)) ∧ Fr (fun _ => False) W2 w') := fun W2 => truthy_any ⟨vt, vn, vs⟩
  have HTV := HTR
  rw [HXv.out] at HTV
  rw [HTV.out] at TA
  go_wp2_with fail
  refine wp_region_tail 12 (by kernel_rfl) (by kernel_rfl) (fun _ _ _ _ _ h => h) ?_
  simp only [List.take_succ_cons, List.take_zero, List.drop_succ_cons, List.drop_zero]
  repeat go_big_quiet_step (fail)
  refine wpQuiet_nil ?_
  go_wp2_with fail
  refine (TA.out _).mono ?_
  rintro e9 w1 ⟨rfl, G0⟩
  have G : Fr (fun _ => False) W w1 := ((Fr.refl _ _).drew).trans G0 (fun _ _ z => z)
  clear t0 t1 t2 t3 lT d0 d1 d2 d3 d4 d5 d6 d7 lD cc0 cc1 lcc c4 lc4 lg lxb zv0 zv1 zv2 ei1 hpos hnb
  have HB1 := hid (HB0.out.fresh G)
  have HLT1 := hid (HLT0.out.fr G)
  have HLD1 := hid (HLD0.out.fr G)
  have HT1 : Hid (m.th.tasks.length ≤ 900000 + 1) := by show _ ≤ _; have := HT0.out; omega
  have HV1 : Hid (m.th.vals.length ≤ 900000 + 1) := by show _ ≤ _; have := HV0.out; omega
  clear G G0 TA
  have t0 := HLT1.out.h.cell 0
  have t1 := HLT1.out.h.cell 1
  have t2 := HLT1.out.h.cell 2
  have t3 := HLT1.out.h.cell 3
  simp only [List.getElem?_toArray, List.getElem?_cons_succ, List.getElem?_cons_zero] at t0 t1 t2 t3
  have lT := HLT1.out.h.lt
  have d0 := HLD1.out.h.cell 0
  have d1 := HLD1.out.h.cell 1
  have d2 := HLD1.out.h.cell 2
  have d3 := HLD1.out.h.cell 3
  have d4 := HLD1.out.h.cell 4
  have d5 := HLD1.out.h.cell 5
  have d6 := HLD1.out.h.cell 6
  have d7 := HLD1.out.h.cell 7
  simp only [List.getElem?_toArray, List.getElem?_cons_succ, List.getElem?_cons_zero] at d0 d1 d2 d3 d4 d5 d6 d7
  have lD := HLD1.out.h.lt
  obtain ⟨cc0, cc1, lcc⟩ := HB1.out.c0
  obtain ⟨⟨pt, pn, ps⟩, HXp⟩ : ∃ v, Hid (m.topM 0 = v) := ⟨_, rfl⟩
  have CC := HB1.out.pop (HVP.out) (by have := HV1.out; omega)
  rw [HXp.out] at CC
  have HCC : Hid (Calls Tryz.prog 116 #[.pointer (some ⟨A.br, 0, none⟩)] w1 (fun e w' => e = .returned (.agg #[.int .i64 pt, .int .u64 pn, sv ps]) ∧ ∃ A', RB w A N root w' A' (m.pops 1) ∧ MSt w1 A1 w' A')) := CC
  clear CC
  go_wp2_with fail
  refine HCC.out.mono ?_
  rintro e10 w2 ⟨rfl, A12, BB, SS⟩
  clear t0 t1 t2 t3 lT d0 d1 d2 d3 d4 d5 d6 d7 lD cc0 cc1 lcc
  clear HCC
  have HB2 := hid BB
  have HLT2 := hid (HLT1.out.st SS)
  have HLD2 := hid (HLD1.out.st SS)
  have HS2 := hid SS
  clear BB SS
  have HT2 : Hid ((m.pops 1).th.tasks.length ≤ 900000 + 2) := by
    show _ ≤ _
    rw [th_pops HB1.out.c]
    have := HT1.out
    simp
    omega
  have HV2 : Hid ((m.pops 1).th.vals.length ≤ 900000 + 2) := by
    show _ ≤ _
    rw [th_pops HB1.out.c]
    have := HV1.out
    simp
    omega
  have t0 := HLT2.out.h.cell 0
  have t1 := HLT2.out.h.cell 1
  have t2 := HLT2.out.h.cell 2
  have t3 := HLT2.out.h.cell 3
  simp only [List.getElem?_toArray, List.getElem?_cons_succ, List.getElem?_cons_zero] at t0 t1 t2 t3
  have lT := HLT2.out.h.lt
  have d0 := HLD2.out.h.cell 0
  have d1 := HLD2.out.h.cell 1
  have d2 := HLD2.out.h.cell 2
  have d3 := HLD2.out.h.cell 3
  have d4 := HLD2.out.h.cell 4
  have d5 := HLD2.out.h.cell 5
  have d6 := HLD2.out.h.cell 6
  have d7 := HLD2.out.h.cell 7
  simp only [List.getElem?_toArray, List.getElem?_cons_succ, List.getElem?_cons_zero] at d0 d1 d2 d3 d4 d5 d6 d7
  have lD := HLD2.out.h.lt
  obtain ⟨cc0, cc1, lcc⟩ := HB2.out.c0
  have CC := HB2.out.todo (by have := HT2.out; omega) 2 db 0 ke HE.out (k' := 2) (n' := (db : Nat)) (x' := 0) rfl rfl rfl
  rw [HEA.out] at CC
  have HCC := hid CC
  clear CC
  go_wp2_with fail
  refine HCC.out.mono ?_
  rintro e11 w3 ⟨rfl, A13, BB, SS⟩
  clear t0 t1 t2 t3 lT d0 d1 d2 d3 d4 d5 d6 d7 lD cc0 cc1 lcc
  clear HCC
  have HB3 := hid BB
  have HLT3 := hid (HLT2.out.st SS)
  have HLD3 := hid (HLD2.out.st SS)
  have HS3 := hid SS
  clear BB SS
  have HT3 : Hid (((m.pops 1).todo [⟨2, db, 0, ke⟩]).th.tasks.length ≤ 900000 + 3) := by
    show _ ≤ _
    rw [th_todo HB2.out.c]
    have := HT2.out
    simp
    omega
  have HV3 : Hid (((m.pops 1).todo [⟨2, db, 0, ke⟩]).th.vals.length ≤ 900000 + 3) := by
    show _ ≤ _
    rw [th_todo HB2.out.c]
    have := HV2.out
    simp
    omega
  have t0 := HLT3.out.h.cell 0
  have t1 := HLT3.out.h.cell 1
  have t2 := HLT3.out.h.cell 2
  have t3 := HLT3.out.h.cell 3
  simp only [List.getElem?_toArray, List.getElem?_cons_succ, List.getElem?_cons_zero] at t0 t1 t2 t3
  have lT := HLT3.out.h.lt
  have d0 := HLD3.out.h.cell 0
  have d1 := HLD3.out.h.cell 1
  have d2 := HLD3.out.h.cell 2
  have d3 := HLD3.out.h.cell 3
  have d4 := HLD3.out.h.cell 4
  have d5 := HLD3.out.h.cell 5
  have d6 := HLD3.out.h.cell 6
  have d7 := HLD3.out.h.cell 7
  simp only [List.getElem?_toArray, List.getElem?_cons_succ, List.getElem?_cons_zero] at d0 d1 d2 d3 d4 d5 d6 d7
  have lD := HLD3.out.h.lt
  obtain ⟨cc0, cc1, lcc⟩ := HB3.out.c0
  have FIN : Hid (Q (.returned (.tuple #[])) w3) := by
    show Q _ _
    rw [← HQ.out]
    exact HB3.out.end
  go_wp2
  go_end0
  exact FIN.out
theorem st18a (P : StZ w A N root W A1 m bT bD xb k d) (hk : k.k = 18) (H : FrZs (.pointer (some ⟨A.br, 0, none⟩)) (.pointer (some ⟨xb, 0, none⟩)) (.pointer (some ⟨bT, 0, none⟩)) (.pointer (some ⟨bD, 0, none⟩)) (.int .i64 k.k) a) (hl : m.th.tasks.length ≤ 900000) (hvl : m.th.vals.length ≤ 900000) (hv : 1 ≤ m.th.vals.length) (K : ThrOk m) (hne : (m.topM 0).t ≠ 4) :
    (cTz (stC 17 (cI (stB Tryz.f77.body)))).wp Tryz.prog (Exit.inBlock 0 (bodyPost Tryz.prog Tryz.f77 (PQm w A N root (m.raise mFor)))) a W := by
  obtain ⟨u, rfl⟩ := H.form
  obtain ⟨kk, kn, kx, ke⟩ := k
  obtain ⟨dk, da, db, dc, dnx, dn, dss, dp⟩ := d
  dsimp only at hk
  subst hk
  obtain ⟨Q, HQ⟩ : ∃ Q : Ending → World → Prop, Hid (PQm w A N root (m.raise mFor) = Q) := ⟨_, rfl⟩
  dsimp only at HQ ⊢
  rw [HQ.out]
  obtain ⟨ea, HEA⟩ : ∃ ea, Hid (eAd A.E ke = ea) := ⟨_, rfl⟩
  have HE : Hid (∀ i, ke = some i → i < A.E.length) := P.he
  have HB0 := hid P.B
  have HLT0 : Hid (LcB W A1 bT #[.int .i64 (18 : Nat), .int .i64 kn, .int .i64 kx, .pointer ea] 224) := by
    have := P.LT
    dsimp only at this
    rw [HEA.out] at this
    exact this
  have HLD0 : Hid (LcB W A1 bD #[.int .i64 (dk : Nat), .int .i64 (da : Nat), .int .i64 (db : Nat), .int .i64 (dc : Nat), .int .i64 (dnx : Nat), .int .u64 (dn : Nat), sv dss, .int .i64 (dp : Nat)] 134) := P.LD
  have HT0 : Hid (m.th.tasks.length ≤ 900000 + 0) := hl
  have HV0 : Hid (m.th.vals.length ≤ 900000 + 0) := hvl
  have HXX := hid P.x
  have HBC := hid P.B.c
  have HVK : Hid (1 ≤ m.th.vals.length) := hv
  have HK := hid K
  have HNE := hid hne
  clear K hne hv
  clear P H hl hvl
  obtain ⟨c, hc⟩ : ∃ c, c = cTz (stC 17 (cI (stB Tryz.f77.body))) := ⟨_, rfl⟩
  rw [← hc]
  simp only [cTz, cE, cI, cR, stC, stB, Tryz.f77, Option.getD_some] at hc
  subst hc
  have t0 := HLT0.out.h.cell 0
  have t1 := HLT0.out.h.cell 1
  have t2 := HLT0.out.h.cell 2
  have t3 := HLT0.out.h.cell 3
  simp only [List.getElem?_toArray, List.getElem?_cons_succ, List.getElem?_cons_zero] at t0 t1 t2 t3
  have lT := HLT0.out.h.lt
  have d0 := HLD0.out.h.cell 0
  have d1 := HLD0.out.h.cell 1
  have d2 := HLD0.out.h.cell 2
  have d3 := HLD0.out.h.cell 3
  have d4 := HLD0.out.h.cell 4
  have d5 := HLD0.out.h.cell 5
  have d6 := HLD0.out.h.cell 6
  have d7 := HLD0.out.h.cell 7
  simp only [List.getElem?_toArray, List.getElem?_cons_succ, List.getElem?_cons_zero] at d0 d1 d2 d3 d4 d5 d6 d7
  have lD := HLD0.out.h.lt
  obtain ⟨cc0, cc1, lcc⟩ := HB0.out.c0
  obtain ⟨g, cp, c4, lc4, lg, lxb, CV⟩ := HB0.out.tops HXX.out (by have := HVK.out; omega)
  obtain ⟨n, HNV⟩ : ∃ n, Hid (m.th.vals.length = n + 1) := ⟨m.th.vals.length - 1, by show _ = _; have := HVK.out; omega⟩
  obtain ⟨⟨vt, vn, vs⟩, HXv⟩ : ∃ v, Hid (m.topM 0 = v) := ⟨_, rfl⟩
  have D := CV (n) (by rw [HNV.out]; omega)
  have ej : m.th.vals.getD (n) nilV = ⟨vt, vn, vs⟩ := by rw [← HXv.out]; unfold MD.topM; rw [HNV.out]; congr 1
  rw [ej] at D
  dsimp only at D
  obtain ⟨zv0, zv1, zv2⟩ := D
  clear ej
  rw [HNV.out] at c4 lc4
  have hnb : n ≤ 900010 := by have := HV0.out; rw [HNV.out] at this; omega
  clear CV
  have ei1 : (n : Int) + 1 - 1 = (n : Int) := by omega
  have hpos : (0 : Int) < (n : Int) + 1 := by omega
  have hne : ((vt : Int) != 4) = true := by
    have := HNE.out
    rw [HXv.out] at this
    dsimp only at this
    rw [bne_iff_ne]
    omega
  have CC := HB0.out.raise HK.out mFor (by decide)
  have HCC := hid CC
  clear CC
  go_wp2_with fail
  refine HCC.out.mono ?_
  intro e9 w1 hq
  obtain rfl := hq.1
  clear t0 t1 t2 t3 lT d0 d1 d2 d3 d4 d5 d6 d7 lD cc0 cc1 lcc c4 lc4 lg lxb zv0 zv1 zv2 ei1 hpos hnb hne
  have FIN : Hid (Q (.returned (.tuple #[])) w1) := by
    show Q _ _
    rw [← HQ.out]
    exact hq
  clear hq HCC
  go_wp2
  refine bodyPost_ret (results_none rfl _ _ _) rfl ?_
  exact FIN.out
theorem st18b (P : StZ w A N root W A1 m bT bD xb k d) (hk : k.k = 18) (H : FrZs (.pointer (some ⟨A.br, 0, none⟩)) (.pointer (some ⟨xb, 0, none⟩)) (.pointer (some ⟨bT, 0, none⟩)) (.pointer (some ⟨bD, 0, none⟩)) (.int .i64 k.k) a) (hl : m.th.tasks.length ≤ 900000) (hvl : m.th.vals.length ≤ 900000) (hv : 1 ≤ m.th.vals.length) (hne : (m.topM 0).t = 4) :
    (cTz (stC 17 (cI (stB Tryz.f77.body)))).wp Tryz.prog (Exit.inBlock 0 (bodyPost Tryz.prog Tryz.f77 (PQm w A N root ((m.push [nilV]).todo [⟨19, k.n, 0, k.e⟩])))) a W := by
  obtain ⟨u, rfl⟩ := H.form
  obtain ⟨kk, kn, kx, ke⟩ := k
  obtain ⟨dk, da, db, dc, dnx, dn, dss, dp⟩ := d
  dsimp only at hk
  subst hk
  obtain ⟨Q, HQ⟩ : ∃ Q : Ending → World → Prop, Hid (PQm w A N root ((m.push [nilV]).todo [⟨19, kn, 0, ke⟩]) = Q) := ⟨_, rfl⟩
  dsimp only at HQ ⊢
  rw [HQ.out]
  obtain ⟨ea, HEA⟩ : ∃ ea, Hid (eAd A.E ke = ea) := ⟨_, rfl⟩
  have HE : Hid (∀ i, ke = some i → i < A.E.length) := P.he
  have HB0 := hid P.B
  have HLT0 : Hid (LcB W A1 bT #[.int .i64 (18 : Nat), .int .i64 kn, .int .i64 kx, .pointer ea] 224) := by
    have := P.LT
    dsimp only at this
    rw [HEA.out] at this
    exact this
  have HLD0 : Hid (LcB W A1 bD #[.int .i64 (dk : Nat), .int .i64 (da : Nat), .int .i64 (db : Nat), .int .i64 (dc : Nat), .int .i64 (dnx : Nat), .int .u64 (dn : Nat), sv dss, .int .i64 (dp : Nat)] 134) := P.LD
  have HT0 : Hid (m.th.tasks.length ≤ 900000 + 0) := hl
  have HV0 : Hid (m.th.vals.length ≤ 900000 + 0) := hvl
  have HXX := hid P.x
  have HBC := hid P.B.c
  have HVK : Hid (1 ≤ m.th.vals.length) := hv
  have HNE := hid hne
  clear hne hv
  clear P H hl hvl
  obtain ⟨c, hc⟩ : ∃ c, c = cTz (stC 17 (cI (stB Tryz.f77.body))) := ⟨_, rfl⟩
  rw [← hc]
  simp only [cTz, cE, cI, cR, stC, stB, Tryz.f77, Option.getD_some] at hc
  subst hc
  have t0 := HLT0.out.h.cell 0
  have t1 := HLT0.out.h.cell 1
  have t2 := HLT0.out.h.cell 2
  have t3 := HLT0.out.h.cell 3
  simp only [List.getElem?_toArray, List.getElem?_cons_succ, List.getElem?_cons_zero] at t0 t1 t2 t3
  have lT := HLT0.out.h.lt
  have d0 := HLD0.out.h.cell 0
  have d1 := HLD0.out.h.cell 1
  have d2 := HLD0.out.h.cell 2
  have d3 := HLD0.out.h.cell 3
  have d4 := HLD0.out.h.cell 4
  have d5 := HLD0.out.h.cell 5
  have d6 := HLD0.out.h.cell 6
  have d7 := HLD0.out.h.cell 7
  simp only [List.getElem?_toArray, List.getElem?_cons_succ, List.getElem?_cons_zero] at d0 d1 d2 d3 d4 d5 d6 d7
  have lD := HLD0.out.h.lt
  obtain ⟨cc0, cc1, lcc⟩ := HB0.out.c0
  obtain ⟨g, cp, c4, lc4, lg, lxb, CV⟩ := HB0.out.tops HXX.out (by have := HVK.out; omega)
  obtain ⟨n, HNV⟩ : ∃ n, Hid (m.th.vals.length = n + 1) := ⟨m.th.vals.length - 1, by show _ = _; have := HVK.out; omega⟩
  obtain ⟨⟨vt, vn, vs⟩, HXv⟩ : ∃ v, Hid (m.topM 0 = v) := ⟨_, rfl⟩
  have D := CV (n) (by rw [HNV.out]; omega)
  have ej : m.th.vals.getD (n) nilV = ⟨vt, vn, vs⟩ := by rw [← HXv.out]; unfold MD.topM; rw [HNV.out]; congr 1
  rw [ej] at D
  dsimp only at D
  obtain ⟨zv0, zv1, zv2⟩ := D
  clear ej
  rw [HNV.out] at c4 lc4
  have hnb : n ≤ 900010 := by have := HV0.out; rw [HNV.out] at this; omega
  clear CV
  have ei1 : (n : Int) + 1 - 1 = (n : Int) := by omega
  have hpos : (0 : Int) < (n : Int) + 1 := by omega
  have hne : ((vt : Int) != 4) = false := by
    have := HNE.out
    rw [HXv.out] at this
    dsimp only at this
    rw [this]
    rfl
  have CC := HB0.out.push (by have := HV0.out; omega) nilV
  have HCC := hid CC
  clear CC
  go_wp2_with fail
  refine HCC.out.mono ?_
  rintro e9 w1 ⟨rfl, A11, BB, SS⟩
  clear t0 t1 t2 t3 lT d0 d1 d2 d3 d4 d5 d6 d7 lD cc0 cc1 lcc c4 lc4 lg lxb zv0 zv1 zv2 ei1 hpos hnb hne
  clear HCC
  have HB1 := hid BB
  have HLT1 := hid (HLT0.out.st SS)
  have HLD1 := hid (HLD0.out.st SS)
  have HS1 := hid SS
  clear BB SS
  have HT1 : Hid ((m.push [nilV]).th.tasks.length ≤ 900000 + 1) := by
    show _ ≤ _
    rw [th_push HB0.out.c]
    have := HT0.out
    simp
    omega
  have HV1 : Hid ((m.push [nilV]).th.vals.length ≤ 900000 + 1) := by
    show _ ≤ _
    rw [th_push HB0.out.c]
    have := HV0.out
    simp
    omega
  have t0 := HLT1.out.h.cell 0
  have t1 := HLT1.out.h.cell 1
  have t2 := HLT1.out.h.cell 2
  have t3 := HLT1.out.h.cell 3
  simp only [List.getElem?_toArray, List.getElem?_cons_succ, List.getElem?_cons_zero] at t0 t1 t2 t3
  have lT := HLT1.out.h.lt
  have d0 := HLD1.out.h.cell 0
  have d1 := HLD1.out.h.cell 1
  have d2 := HLD1.out.h.cell 2
  have d3 := HLD1.out.h.cell 3
  have d4 := HLD1.out.h.cell 4
  have d5 := HLD1.out.h.cell 5
  have d6 := HLD1.out.h.cell 6
  have d7 := HLD1.out.h.cell 7
  simp only [List.getElem?_toArray, List.getElem?_cons_succ, List.getElem?_cons_zero] at d0 d1 d2 d3 d4 d5 d6 d7
  have lD := HLD1.out.h.lt
  obtain ⟨cc0, cc1, lcc⟩ := HB1.out.c0
  have CC := HB1.out.todo (by have := HT1.out; omega) 19 kn 0 ke HE.out (k' := 19) (n' := (kn : Nat)) (x' := 0) rfl rfl rfl
  rw [HEA.out] at CC
  have HCC := hid CC
  clear CC
  go_wp2_with fail
  refine HCC.out.mono ?_
  rintro e10 w2 ⟨rfl, A12, BB, SS⟩
  clear t0 t1 t2 t3 lT d0 d1 d2 d3 d4 d5 d6 d7 lD cc0 cc1 lcc
  clear HCC
  have HB2 := hid BB
  have HLT2 := hid (HLT1.out.st SS)
  have HLD2 := hid (HLD1.out.st SS)
  have HS2 := hid SS
  clear BB SS
  have HT2 : Hid (((m.push [nilV]).todo [⟨19, kn, 0, ke⟩]).th.tasks.length ≤ 900000 + 2) := by
    show _ ≤ _
    rw [th_todo HB1.out.c]
    have := HT1.out
    simp
    omega
  have HV2 : Hid (((m.push [nilV]).todo [⟨19, kn, 0, ke⟩]).th.vals.length ≤ 900000 + 2) := by
    show _ ≤ _
    rw [th_todo HB1.out.c]
    have := HV1.out
    simp
    omega
  have t0 := HLT2.out.h.cell 0
  have t1 := HLT2.out.h.cell 1
  have t2 := HLT2.out.h.cell 2
  have t3 := HLT2.out.h.cell 3
  simp only [List.getElem?_toArray, List.getElem?_cons_succ, List.getElem?_cons_zero] at t0 t1 t2 t3
  have lT := HLT2.out.h.lt
  have d0 := HLD2.out.h.cell 0
  have d1 := HLD2.out.h.cell 1
  have d2 := HLD2.out.h.cell 2
  have d3 := HLD2.out.h.cell 3
  have d4 := HLD2.out.h.cell 4
  have d5 := HLD2.out.h.cell 5
  have d6 := HLD2.out.h.cell 6
  have d7 := HLD2.out.h.cell 7
  simp only [List.getElem?_toArray, List.getElem?_cons_succ, List.getElem?_cons_zero] at d0 d1 d2 d3 d4 d5 d6 d7
  have lD := HLD2.out.h.lt
  obtain ⟨cc0, cc1, lcc⟩ := HB2.out.c0
  have FIN : Hid (Q (.returned (.tuple #[])) w2) := by
    show Q _ _
    rw [← HQ.out]
    exact HB2.out.end
  go_wp2
  go_end0
  exact FIN.out
end
end Go.Proofs.Qxb6500574aGreatDoor
