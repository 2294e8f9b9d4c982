/-
  THE WALKS of compm: step: two variables at once.
-/
import Derived.Test.Qxb6500574aGreatDoorZD12
namespace Go.Proofs.Qxb6500574aGreatDoor
open Go Go.RowKit
set_option linter.unusedVariables false
set_option linter.unusedSimpArgs false
section
variable {w W W1 : World} {A A1 A2 : RnP} {N : List Nd} {root : Nat} {M m : MD} {k : TkD} {r : List TkD} {d : Nd} {bT bD xb : Nat} {a : Act}
set_option maxRecDepth 100000
set_option maxHeartbeats 2000000
theorem st7 (P : StZ w A N root W A1 m bT bD xb k d) (hk : k.k = 7) (H : FrZs (.pointer (some ⟨A.br, 0, none⟩)) (.pointer (some ⟨xb, 0, none⟩)) (.pointer (some ⟨bT, 0, none⟩)) (.pointer (some ⟨bD, 0, none⟩)) (.int .i64 k.k) a) (hl : m.th.tasks.length ≤ 900000) (hvl : m.th.vals.length ≤ 900000) (hv : 2 ≤ m.th.vals.length) (hN : N.length ≤ 1000) (hda : d.a < N.length) (hxn : (N.getD d.a nd0).next < N.length) (RO : RefOk (m.pops 2)) :
    (cTz (stC 6 (cI (stB Tryz.f77.body)))).wp Tryz.prog (Exit.inBlock 0 (bodyPost Tryz.prog Tryz.f77 (PQm w A N root ({ (m.pops 2).todo [⟨1, d.next, 0, some (m.envs.length + 1)⟩] with envs := m.envs ++ [⟨(N.getD d.a nd0).s, (m.pops 1).topM 0, k.e⟩, ⟨(N.getD (N.getD d.a nd0).next nd0).s, m.topM 0, some m.envs.length⟩] })))) a W := by
  obtain ⟨u, rfl⟩ := H.form
  obtain ⟨kk, kn, kx, ke⟩ := k
  obtain ⟨dk, da, db, dc, dnx, dn, dss, dp⟩ := d
  dsimp only at hk hda hxn
  subst hk
  obtain ⟨Q, HQ⟩ : ∃ Q : Ending → World → Prop, Hid (PQm w A N root ({ (m.pops 2).todo [⟨1, dnx, 0, some (m.envs.length + 1)⟩] with envs := m.envs ++ [⟨(N.getD da nd0).s, (m.pops 1).topM 0, ke⟩, ⟨(N.getD (N.getD da nd0).next nd0).s, m.topM 0, some m.envs.length⟩] }) = Q) := ⟨_, rfl⟩
  dsimp only at HQ ⊢
  rw [HQ.out]
  obtain ⟨ea, HEA⟩ : ∃ ea, Hid (eAd A.E ke = ea) := ⟨_, rfl⟩
  have HE : Hid (∀ i, ke = some i → i < A.E.length) := P.he
  have HB0 := hid P.B
  have HLT0 : Hid (LcB W A1 bT #[.int .i64 (7 : Nat), .int .i64 kn, .int .i64 kx, .pointer ea] 224) := by
    have := P.LT
    dsimp only at this
    rw [HEA.out] at this
    exact this
  have HLD0 : Hid (LcB W A1 bD #[.int .i64 (dk : Nat), .int .i64 (da : Nat), .int .i64 (db : Nat), .int .i64 (dc : Nat), .int .i64 (dnx : Nat), .int .u64 (dn : Nat), sv dss, .int .i64 (dp : Nat)] 134) := P.LD
  have HT0 : Hid (m.th.tasks.length ≤ 900000 + 0) := hl
  have HV0 : Hid (m.th.vals.length ≤ 900000 + 0) := hvl
  have HXX := hid P.x
  have HBC := hid P.B.c
  have HVP : Hid (0 < m.th.vals.length) := by show _ < _; omega
  have HVP1 : Hid (0 < (m.pops 1).th.vals.length) := by show _ < _; rw [th_pops HBC.out]; simp; omega
  clear hv
  have HN := hid hN
  have HDA := hid hda
  have HXN := hid hxn
  have RO1 : Hid (RefOk ((m.pops 1).pops 1)) := by show RefOk _; rw [pops_pops HBC.out]; exact RO
  clear hN hda hxn RO
  clear P H hl hvl
  obtain ⟨c, hc⟩ : ∃ c, c = cTz (stC 6 (cI (stB Tryz.f77.body))) := ⟨_, rfl⟩
  rw [← hc]
  simp only [cTz, cE, cI, cR, stC, stB, Tryz.f77, Option.getD_some] at hc
  subst hc
  have t0 := HLT0.out.h.cell 0
  have t1 := HLT0.out.h.cell 1
  have t2 := HLT0.out.h.cell 2
  have t3 := HLT0.out.h.cell 3
  simp only [List.getElem?_toArray, List.getElem?_cons_succ, List.getElem?_cons_zero] at t0 t1 t2 t3
  have lT := HLT0.out.h.lt
  have d0 := HLD0.out.h.cell 0
  have d1 := HLD0.out.h.cell 1
  have d2 := HLD0.out.h.cell 2
  have d3 := HLD0.out.h.cell 3
  have d4 := HLD0.out.h.cell 4
  have d5 := HLD0.out.h.cell 5
  have d6 := HLD0.out.h.cell 6
  have d7 := HLD0.out.h.cell 7
  simp only [List.getElem?_toArray, List.getElem?_cons_succ, List.getElem?_cons_zero] at d0 d1 d2 d3 d4 d5 d6 d7
  have lD := HLD0.out.h.lt
  obtain ⟨cc0, cc1, lcc⟩ := HB0.out.c0
  obtain ⟨⟨vt, vn, vs⟩, HXv⟩ : ∃ v, Hid (m.topM 0 = v) := ⟨_, rfl⟩
  have CC := HB0.out.pop (HVP.out) (by have := HV0.out; omega)
  rw [HXv.out] at CC
  have HCC : Hid (Calls Tryz.prog 116 #[.pointer (some ⟨A.br, 0, none⟩)] W (fun e w' => e = .returned (.agg #[.int .i64 vt, .int .u64 vn, sv vs]) ∧ ∃ A', RB w A N root w' A' (m.pops 1) ∧ MSt W A1 w' A')) := CC
  clear CC
  go_wp2_with fail
  refine HCC.out.mono ?_
  rintro e9 w1 ⟨rfl, A11, BB, SS⟩
  clear t0 t1 t2 t3 lT d0 d1 d2 d3 d4 d5 d6 d7 lD cc0 cc1 lcc
  clear HCC
  have FA : Fr (fun _ => False) w1 (w1.alloc (.cells #[.int .i64 vt, .int .u64 vn, sv vs] 68)) := (Fr.refl _ _).alloc _
  have HB1 := hid (BB.fresh FA)
  have HLT1 := hid ((HLT0.out.st SS).fr FA)
  have HLD1 := hid ((HLD0.out.st SS).fr FA)
  have HLV1 : Hid (LcB (w1.alloc (.cells #[.int .i64 vt, .int .u64 vn, sv vs] 68)) A11 w1.heap.size #[.int .i64 vt, .int .u64 vn, sv vs] 68) := LcB.new BB.r.own _ _
  have HS1 := hid (SS.trans (MSt.fresh _ FA))
  clear FA BB SS
  have HT1 : Hid ((m.pops 1).th.tasks.length ≤ 900000 + 1) := by
    show _ ≤ _
    rw [th_pops HB0.out.c]
    have := HT0.out
    simp
    omega
  have HV1 : Hid ((m.pops 1).th.vals.length ≤ 900000 + 1) := by
    show _ ≤ _
    rw [th_pops HB0.out.c]
    have := HV0.out
    simp
    omega
  have t0 := HLT1.out.h.cell 0
  have t1 := HLT1.out.h.cell 1
  have t2 := HLT1.out.h.cell 2
  have t3 := HLT1.out.h.cell 3
  simp only [List.getElem?_toArray, List.getElem?_cons_succ, List.getElem?_cons_zero] at t0 t1 t2 t3
  have lT := HLT1.out.h.lt
  have d0 := HLD1.out.h.cell 0
  have d1 := HLD1.out.h.cell 1
  have d2 := HLD1.out.h.cell 2
  have d3 := HLD1.out.h.cell 3
  have d4 := HLD1.out.h.cell 4
  have d5 := HLD1.out.h.cell 5
  have d6 := HLD1.out.h.cell 6
  have d7 := HLD1.out.h.cell 7
  simp only [List.getElem?_toArray, List.getElem?_cons_succ, List.getElem?_cons_zero] at d0 d1 d2 d3 d4 d5 d6 d7
  have lD := HLD1.out.h.lt
  have v0 := HLV1.out.h.cell 0
  have v1 := HLV1.out.h.cell 1
  have v2 := HLV1.out.h.cell 2
  simp only [List.getElem?_toArray, List.getElem?_cons_succ, List.getElem?_cons_zero] at v0 v1 v2
  have lV := HLV1.out.h.lt
  obtain ⟨cc0, cc1, lcc⟩ := HB1.out.c0
  obtain ⟨⟨ut, un, us⟩, HXu⟩ : ∃ v, Hid ((m.pops 1).topM 0 = v) := ⟨_, rfl⟩
  have CC := HB1.out.pop (HVP1.out) (by have := HV1.out; omega)
  rw [HXu.out] at CC
  have HCC : Hid (Calls Tryz.prog 116 #[.pointer (some ⟨A.br, 0, none⟩)] (w1.alloc (.cells #[.int .i64 vt, .int .u64 vn, sv vs] 68)) (fun e w' => e = .returned (.agg #[.int .i64 ut, .int .u64 un, sv us]) ∧ ∃ A', RB w A N root w' A' ((m.pops 1).pops 1) ∧ MSt (w1.alloc (.cells #[.int .i64 vt, .int .u64 vn, sv vs] 68)) A11 w' A')) := CC
  clear CC
  go_wp2_with fail
  refine HCC.out.mono ?_
  rintro e10 w2 ⟨rfl, A12, BB, SS⟩
  clear t0 t1 t2 t3 lT d0 d1 d2 d3 d4 d5 d6 d7 lD v0 v1 v2 lV cc0 cc1 lcc
  clear HCC
  have FA : Fr (fun _ => False) w2 (w2.alloc (.cells #[.int .i64 ut, .int .u64 un, sv us] 68)) := (Fr.refl _ _).alloc _
  have HB2 := hid (BB.fresh FA)
  have HLT2 := hid ((HLT1.out.st SS).fr FA)
  have HLD2 := hid ((HLD1.out.st SS).fr FA)
  have HLV2 := hid ((HLV1.out.st SS).fr FA)
  have HLU2 : Hid (LcB (w2.alloc (.cells #[.int .i64 ut, .int .u64 un, sv us] 68)) A12 w2.heap.size #[.int .i64 ut, .int .u64 un, sv us] 68) := LcB.new BB.r.own _ _
  have HS2 := hid (SS.trans (MSt.fresh _ FA))
  clear FA BB SS
  have HT2 : Hid (((m.pops 1).pops 1).th.tasks.length ≤ 900000 + 2) := by
    show _ ≤ _
    rw [th_pops HB1.out.c]
    have := HT1.out
    simp
    omega
  have HV2 : Hid (((m.pops 1).pops 1).th.vals.length ≤ 900000 + 2) := by
    show _ ≤ _
    rw [th_pops HB1.out.c]
    have := HV1.out
    simp
    omega
  have t0 := HLT2.out.h.cell 0
  have t1 := HLT2.out.h.cell 1
  have t2 := HLT2.out.h.cell 2
  have t3 := HLT2.out.h.cell 3
  simp only [List.getElem?_toArray, List.getElem?_cons_succ, List.getElem?_cons_zero] at t0 t1 t2 t3
  have lT := HLT2.out.h.lt
  have d0 := HLD2.out.h.cell 0
  have d1 := HLD2.out.h.cell 1
  have d2 := HLD2.out.h.cell 2
  have d3 := HLD2.out.h.cell 3
  have d4 := HLD2.out.h.cell 4
  have d5 := HLD2.out.h.cell 5
  have d6 := HLD2.out.h.cell 6
  have d7 := HLD2.out.h.cell 7
  simp only [List.getElem?_toArray, List.getElem?_cons_succ, List.getElem?_cons_zero] at d0 d1 d2 d3 d4 d5 d6 d7
  have lD := HLD2.out.h.lt
  have v0 := HLV2.out.h.cell 0
  have v1 := HLV2.out.h.cell 1
  have v2 := HLV2.out.h.cell 2
  simp only [List.getElem?_toArray, List.getElem?_cons_succ, List.getElem?_cons_zero] at v0 v1 v2
  have lV := HLV2.out.h.lt
  have u0 := HLU2.out.h.cell 0
  have u1 := HLU2.out.h.cell 1
  have u2 := HLU2.out.h.cell 2
  simp only [List.getElem?_toArray, List.getElem?_cons_succ, List.getElem?_cons_zero] at u0 u1 u2
  have lU := HLU2.out.h.lt
  obtain ⟨cc0, cc1, lcc⟩ := HB2.out.c0
  go_wp2_with fail
  obtain ⟨V1, HV1x⟩ : ∃ V, Hid ((w2.alloc (.cells #[.int .i64 ut, .int .u64 un, sv us] 68)) = V) := ⟨_, rfl⟩
  refine cwp_at HV1x.out ?_
  clear t0 t1 t2 t3 lT d0 d1 d2 d3 d4 d5 d6 d7 lD v0 v1 v2 lV u0 u1 u2 lU cc0 cc1 lcc
  rw [HV1x.out] at HB2 HLT2 HLD2 HLV2 HLU2
  obtain ⟨NL, HNL⟩ : ∃ NL : Nat, Hid (N.length = NL) := ⟨_, rfl⟩
  have hNL : NL ≤ 1000 := by rw [← HNL.out]; exact HN.out
  obtain ⟨w1b, Hw1b⟩ : ∃ b, Hid (w1.heap.size = b) := ⟨_, rfl⟩
  obtain ⟨w2b, Hw2b⟩ : ∃ b, Hid (w2.heap.size = b) := ⟨_, rfl⟩
  rw [Hw1b.out] at HLV2 ⊢
  rw [Hw2b.out] at HLU2 ⊢
  have t0 := HLT2.out.h.cell 0
  have t1 := HLT2.out.h.cell 1
  have t2 := HLT2.out.h.cell 2
  have t3 := HLT2.out.h.cell 3
  simp only [List.getElem?_toArray, List.getElem?_cons_succ, List.getElem?_cons_zero] at t0 t1 t2 t3
  have lT := HLT2.out.h.lt
  have d0 := HLD2.out.h.cell 0
  have d1 := HLD2.out.h.cell 1
  have d2 := HLD2.out.h.cell 2
  have d3 := HLD2.out.h.cell 3
  have d4 := HLD2.out.h.cell 4
  have d5 := HLD2.out.h.cell 5
  have d6 := HLD2.out.h.cell 6
  have d7 := HLD2.out.h.cell 7
  simp only [List.getElem?_toArray, List.getElem?_cons_succ, List.getElem?_cons_zero] at d0 d1 d2 d3 d4 d5 d6 d7
  have lD := HLD2.out.h.lt
  have v0 := HLV2.out.h.cell 0
  have v1 := HLV2.out.h.cell 1
  have v2 := HLV2.out.h.cell 2
  simp only [List.getElem?_toArray, List.getElem?_cons_succ, List.getElem?_cons_zero] at v0 v1 v2
  have lV := HLV2.out.h.lt
  have u0 := HLU2.out.h.cell 0
  have u1 := HLU2.out.h.cell 1
  have u2 := HLU2.out.h.cell 2
  simp only [List.getElem?_toArray, List.getElem?_cons_succ, List.getElem?_cons_zero] at u0 u1 u2
  have lU := HLU2.out.h.lt
  obtain ⟨cc0, cc1, lcc⟩ := HB2.out.c0
  obtain ⟨gnx, cnx, c2, lc, lbn, lgn, lnn, q0, q1, q2, q3, q4, q5, q6, q7⟩ := HB2.out.nd (HDA.out)
  obtain ⟨⟨xk, xa, xb, xc, xx, xn, xs, xp⟩, HxD⟩ : ∃ d, Hid (N.getD da nd0 = d) := ⟨_, rfl⟩
  rw [HxD.out] at q0 q1 q2 q3 q4 q5 q6 q7
  dsimp only at q0 q1 q2 q3 q4 q5 q6 q7
  rw [HNL.out] at c2 lc lnn
  have k0 := fun z : WS V1 => z.f.cell c2
  have k1 := fun z : WS V1 => z.f.cell q0
  have k2 := fun z : WS V1 => z.f.cell q1
  have k3 := fun z : WS V1 => z.f.cell q2
  have k4 := fun z : WS V1 => z.f.cell q3
  have k5 := fun z : WS V1 => z.f.cell q4
  have k6 := fun z : WS V1 => z.f.cell q5
  have k7 := fun z : WS V1 => z.f.cell q6
  have k8 := fun z : WS V1 => z.f.cell q7
  have k9 := fun z : WS V1 => z.f.cell d1
  have NE := WS.non V1
  refine wp_region_head 8 1 (fun y => ∃ s : WS V1, y = s.y) (by kernel_rfl) (by kernel_rfl) (fun _ _ _ _ _ h => h) ⟨⟨V1.drew, (Fr.refl _ _).drew⟩, rfl⟩ ?_
  simp only [List.take_succ_cons, List.take_zero, List.drop_succ_cons, List.drop_zero]
  repeat go_big_quiet_step (fail)
  refine wpQuiet_nil ?_
  unfold wpChain
  go_wp2_with fail
  refine ⟨⟨⟨_, ((Fr.refl _ _).alloc _).drew⟩, rfl⟩, ?_⟩
  rw [wpChain_zero]
  go_wp2_with fail
  clear NE k0 k1 k2 k3 k4 k5 k6 k7 k8 k9 c2 lc lbn lgn lnn q0 q1 q2 q3 q4 q5 q6 q7
  obtain ⟨Vx, HVx⟩ : ∃ V, Hid ((V1.alloc (.cells #[.int .i64 (xk : Nat), .int .i64 (xa : Nat), .int .i64 (xb : Nat), .int .i64 (xc : Nat), .int .i64 (xx : Nat), .int .u64 (xn : Nat), sv xs, .int .i64 (xp : Nat)] 134)).drew = V) := ⟨_, rfl⟩
  obtain ⟨bx, Hbx⟩ : ∃ b, Hid (V1.heap.size = b) := ⟨_, rfl⟩
  rw [Hbx.out]
  refine cwp_at HVx.out ?_
  have FN : Fr (fun _ => False) V1 Vx := by rw [← HVx.out]; exact ((Fr.refl _ _).alloc _).drew
  clear t0 t1 t2 t3 lT d0 d1 d2 d3 d4 d5 d6 d7 lD v0 v1 v2 lV u0 u1 u2 lU cc0 cc1 lcc
  have HB3 := hid (HB2.out.fresh FN)
  have HLT3 := hid (HLT2.out.fr FN)
  have HLD3 := hid (HLD2.out.fr FN)
  have HLV3 := hid (HLV2.out.fr FN)
  have HLU3 := hid (HLU2.out.fr FN)
  have HLX3 : Hid (LcB Vx A12 bx #[.int .i64 (xk : Nat), .int .i64 (xa : Nat), .int .i64 (xb : Nat), .int .i64 (xc : Nat), .int .i64 (xx : Nat), .int .u64 (xn : Nat), sv xs, .int .i64 (xp : Nat)] 134) := by
    show LcB _ _ _ _ _
    rw [← HVx.out, ← Hbx.out]
    exact (LcB.new HB2.out.r.own _ _).fr ((Fr.refl _ _).drew)
  have HT3 : Hid (((m.pops 1).pops 1).th.tasks.length ≤ 900000 + 3) := Nat.le_trans HT2.out (by decide)
  have HV3 : Hid (((m.pops 1).pops 1).th.vals.length ≤ 900000 + 3) := Nat.le_trans HV2.out (by decide)
  clear FN
  have t0 := HLT3.out.h.cell 0
  have t1 := HLT3.out.h.cell 1
  have t2 := HLT3.out.h.cell 2
  have t3 := HLT3.out.h.cell 3
  simp only [List.getElem?_toArray, List.getElem?_cons_succ, List.getElem?_cons_zero] at t0 t1 t2 t3
  have lT := HLT3.out.h.lt
  have d0 := HLD3.out.h.cell 0
  have d1 := HLD3.out.h.cell 1
  have d2 := HLD3.out.h.cell 2
  have d3 := HLD3.out.h.cell 3
  have d4 := HLD3.out.h.cell 4
  have d5 := HLD3.out.h.cell 5
  have d6 := HLD3.out.h.cell 6
  have d7 := HLD3.out.h.cell 7
  simp only [List.getElem?_toArray, List.getElem?_cons_succ, List.getElem?_cons_zero] at d0 d1 d2 d3 d4 d5 d6 d7
  have lD := HLD3.out.h.lt
  have v0 := HLV3.out.h.cell 0
  have v1 := HLV3.out.h.cell 1
  have v2 := HLV3.out.h.cell 2
  simp only [List.getElem?_toArray, List.getElem?_cons_succ, List.getElem?_cons_zero] at v0 v1 v2
  have lV := HLV3.out.h.lt
  have u0 := HLU3.out.h.cell 0
  have u1 := HLU3.out.h.cell 1
  have u2 := HLU3.out.h.cell 2
  simp only [List.getElem?_toArray, List.getElem?_cons_succ, List.getElem?_cons_zero] at u0 u1 u2
  have lU := HLU3.out.h.lt
  have x0 := HLX3.out.h.cell 0
  have x1 := HLX3.out.h.cell 1
  have x2 := HLX3.out.h.cell 2
  have x3 := HLX3.out.h.cell 3
  have x4 := HLX3.out.h.cell 4
  have x5 := HLX3.out.h.cell 5
  have x6 := HLX3.out.h.cell 6
  have x7 := HLX3.out.h.cell 7
  simp only [List.getElem?_toArray, List.getElem?_cons_succ, List.getElem?_cons_zero] at x0 x1 x2 x3 x4 x5 x6 x7
  have lX := HLX3.out.h.lt
  obtain ⟨cc0, cc1, lcc⟩ := HB3.out.c0
  obtain ⟨gnz, cnz, c2, lc, lbn, lgn, lnn, q0, q1, q2, q3, q4, q5, q6, q7⟩ := HB3.out.nd (by have := HXN.out; rw [HxD.out] at this; exact this)
  obtain ⟨⟨zk, za, zb, zc, zx, zn, zs, zp⟩, HzD⟩ : ∃ d, Hid (N.getD xx nd0 = d) := ⟨_, rfl⟩
  rw [HzD.out] at q0 q1 q2 q3 q4 q5 q6 q7
  dsimp only at q0 q1 q2 q3 q4 q5 q6 q7
  rw [HNL.out] at c2 lc lnn
  have k0 := fun z : WS Vx => z.f.cell c2
  have k1 := fun z : WS Vx => z.f.cell q0
  have k2 := fun z : WS Vx => z.f.cell q1
  have k3 := fun z : WS Vx => z.f.cell q2
  have k4 := fun z : WS Vx => z.f.cell q3
  have k5 := fun z : WS Vx => z.f.cell q4
  have k6 := fun z : WS Vx => z.f.cell q5
  have k7 := fun z : WS Vx => z.f.cell q6
  have k8 := fun z : WS Vx => z.f.cell q7
  have k9 := fun z : WS Vx => z.f.cell x4
  have NE := WS.non Vx
  have FN : Fr (fun _ => False) Vx (Vx.alloc (.cells #[.int .i64 (zk : Nat), .int .i64 (za : Nat), .int .i64 (zb : Nat), .int .i64 (zc : Nat), .int .i64 (zx : Nat), .int .u64 (zn : Nat), sv zs, .int .i64 (zp : Nat)] 134)) := (Fr.refl _ _).alloc _
  have HB4 := hid (HB3.out.fresh FN)
  have HLT4 := hid (HLT3.out.fr FN)
  have HLD4 := hid (HLD3.out.fr FN)
  have HLV4 := hid (HLV3.out.fr FN)
  have HLU4 := hid (HLU3.out.fr FN)
  have HLX4 := hid (HLX3.out.fr FN)
  have HT4 : Hid (((m.pops 1).pops 1).th.tasks.length ≤ 900000 + 4) := Nat.le_trans HT3.out (by decide)
  have HV4 : Hid (((m.pops 1).pops 1).th.vals.length ≤ 900000 + 4) := Nat.le_trans HV3.out (by decide)
  obtain ⟨AE4, BE4, SE4, hE4⟩ := HB4.out.newEnv RO1.out ⟨xs, ⟨ut, un, us⟩, ke⟩ (HB4.out.eIn HE.out)
  have e9 : enV A12.E ⟨xs, ⟨ut, un, us⟩, ke⟩ = #[sv xs, .int .i64 ut, .int .u64 un, sv us, .pointer ea] := by
    unfold enV ePtr
    dsimp only
    rw [HB4.out.eN HE.out, HEA.out]
  rw [e9] at BE4 SE4
  have HP5 : Hid (eAd AE4.E (some ((m.pops 1).pops 1).envs.length) = some ⟨Vx.heap.size + 1, 0, none⟩) := by
    show _ = _
    rw [hE4]
    simp
  have HB5 := hid BE4
  have HLT5 := hid (HLT4.out.st SE4)
  have HLD5 := hid (HLD4.out.st SE4)
  have HLV5 := hid (HLV4.out.st SE4)
  have HLU5 := hid (HLU4.out.st SE4)
  have HLX5 := hid (HLX4.out.st SE4)
  have HT5 : Hid (({ ((m.pops 1).pops 1) with envs := ((m.pops 1).pops 1).envs ++ [⟨xs, ⟨ut, un, us⟩, ke⟩] } : MD).th.tasks.length ≤ 900000 + 5) := by show ((m.pops 1).pops 1).th.tasks.length ≤ _; have := HT4.out; omega
  have HV5 : Hid (({ ((m.pops 1).pops 1) with envs := ((m.pops 1).pops 1).envs ++ [⟨xs, ⟨ut, un, us⟩, ke⟩] } : MD).th.vals.length ≤ 900000 + 5) := by show ((m.pops 1).pops 1).th.vals.length ≤ _; have := HV4.out; omega
  clear BE4 SE4 hE4 e9
  obtain ⟨AE5, BE5, SE5, hE5⟩ := HB5.out.newEnv (RO1.out.env (HB4.out.eIn HE.out)) ⟨zs, ⟨vt, vn, vs⟩, (some ((m.pops 1).pops 1).envs.length)⟩ (fun j hj => by cases hj; simp)
  have e9 : enV AE4.E ⟨zs, ⟨vt, vn, vs⟩, (some ((m.pops 1).pops 1).envs.length)⟩ = #[sv zs, .int .i64 vt, .int .u64 vn, sv vs, .pointer (some ⟨Vx.heap.size + 1, 0, none⟩)] := by
    unfold enV ePtr
    dsimp only
    rw [HP5.out]
  rw [e9] at BE5 SE5
  have HP6 : Hid (eAd AE5.E (some ({ ((m.pops 1).pops 1) with envs := ((m.pops 1).pops 1).envs ++ [⟨xs, ⟨ut, un, us⟩, ke⟩] } : MD).envs.length) = some ⟨Vx.heap.size + 1 + 1, 0, none⟩) := by
    show _ = _
    rw [hE5]
    simp
  have HB6 := hid BE5
  have HLT6 := hid (HLT5.out.st SE5)
  have HLD6 := hid (HLD5.out.st SE5)
  have HLV6 := hid (HLV5.out.st SE5)
  have HLU6 := hid (HLU5.out.st SE5)
  have HLX6 := hid (HLX5.out.st SE5)
  have HT6 : Hid (({ ({ ((m.pops 1).pops 1) with envs := ((m.pops 1).pops 1).envs ++ [⟨xs, ⟨ut, un, us⟩, ke⟩] } : MD) with envs := ({ ((m.pops 1).pops 1) with envs := ((m.pops 1).pops 1).envs ++ [⟨xs, ⟨ut, un, us⟩, ke⟩] } : MD).envs ++ [⟨zs, ⟨vt, vn, vs⟩, (some ((m.pops 1).pops 1).envs.length)⟩] } : MD).th.tasks.length ≤ 900000 + 6) := by show ({ ((m.pops 1).pops 1) with envs := ((m.pops 1).pops 1).envs ++ [⟨xs, ⟨ut, un, us⟩, ke⟩] } : MD).th.tasks.length ≤ _; have := HT5.out; omega
  have HV6 : Hid (({ ({ ((m.pops 1).pops 1) with envs := ((m.pops 1).pops 1).envs ++ [⟨xs, ⟨ut, un, us⟩, ke⟩] } : MD) with envs := ({ ((m.pops 1).pops 1) with envs := ((m.pops 1).pops 1).envs ++ [⟨xs, ⟨ut, un, us⟩, ke⟩] } : MD).envs ++ [⟨zs, ⟨vt, vn, vs⟩, (some ((m.pops 1).pops 1).envs.length)⟩] } : MD).th.vals.length ≤ 900000 + 6) := by show ({ ((m.pops 1).pops 1) with envs := ((m.pops 1).pops 1).envs ++ [⟨xs, ⟨ut, un, us⟩, ke⟩] } : MD).th.vals.length ≤ _; have := HV5.out; omega
  clear BE5 SE5 hE5 e9
  have HCC := hid (HB6.out.drew.todoC (Nat.le_trans HT6.out (by decide)) 1 dnx 0 (some ({ ((m.pops 1).pops 1) with envs := ((m.pops 1).pops 1).envs ++ [⟨xs, ⟨ut, un, us⟩, ke⟩] } : MD).envs.length) HP6.out (k' := 1) (n' := (dnx : Nat)) (x' := 0) rfl rfl rfl)
  refine wp_region_head 8 1 (fun y => ∃ s : WS Vx, y = s.y) (by kernel_rfl) (by kernel_rfl) (fun _ _ _ _ _ h => h) ⟨⟨Vx.drew, (Fr.refl _ _).drew⟩, rfl⟩ ?_
  simp only [List.take_succ_cons, List.take_zero, List.drop_succ_cons, List.drop_zero]
  repeat go_big_quiet_step (fail)
  refine wpQuiet_nil ?_
  unfold wpChain
  go_wp2_with fail
  refine ⟨⟨⟨_, ((Fr.refl _ _).alloc _).drew⟩, rfl⟩, ?_⟩
  rw [wpChain_zero]
  go_wp2_with fail
  refine HCC.out.mono ?_
  rintro e22 w5 ⟨rfl, A15, B5, S5⟩
  clear t0 t1 t2 t3 lT d0 d1 d2 d3 d4 d5 d6 d7 lD v0 v1 v2 lV u0 u1 u2 lU x0 x1 x2 x3 x4 x5 x6 x7 lX cc0 cc1 lcc NE c2 lc lbn lgn lnn k0 k1 k2 k3 k4 k5 k6 k7 k8 k9 q0 q1 q2 q3 q4 q5 q6 q7
  have FIN : Hid (Q (.returned (.tuple #[])) w5) := by
    show Q _ _
    rw [← HQ.out, HxD.out]
    dsimp only
    rw [HzD.out, HXv.out, HXu.out]
    dsimp only
    have B6 := B5.end
    rw [pops_pops HBC.out] at B6
    have e : ({ (m.pops 2).todo [⟨1, dnx, 0, some (m.envs.length + 1)⟩] with envs := m.envs ++ [⟨xs, ⟨ut, un, us⟩, ke⟩, ⟨zs, ⟨vt, vn, vs⟩, some m.envs.length⟩] } : MD) = ({ m.pops 2 with envs := (m.envs ++ ([⟨xs, ⟨ut, un, us⟩, ke⟩] : List EnD)) ++ [⟨zs, ⟨vt, vn, vs⟩, some m.envs.length⟩] } : MD).todo [⟨1, dnx, 0, some (m.envs ++ ([⟨xs, ⟨ut, un, us⟩, ke⟩] : List EnD)).length⟩] := by
      rw [List.append_assoc, List.length_append]
      rfl
    have e' := congrArg (fun z => PQm w A N root z (.returned (.tuple #[])) w5) e
    exact e'.mpr B6
  clear B5 S5 HCC
  go_wp2
  go_end0
  exact FIN.out
end
end Go.Proofs.Qxb6500574aGreatDoor
