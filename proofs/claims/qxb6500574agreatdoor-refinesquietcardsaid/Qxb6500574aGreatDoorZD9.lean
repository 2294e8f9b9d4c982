/-
  THE WALKS of compm: step: a function ends, a list grows.
-/
import Derived.Test.Qxb6500574aGreatDoorZD8
namespace Go.Proofs.Qxb6500574aGreatDoor
open Go Go.RowKit
set_option linter.unusedVariables false
set_option linter.unusedSimpArgs false
section
variable {w W W1 : World} {A A1 A2 : RnP} {N : List Nd} {root : Nat} {M m : MD} {k : TkD} {r : List TkD} {d : Nd} {bT bD xb : Nat} {a : Act}
set_option maxRecDepth 100000
set_option maxHeartbeats 2000000
theorem st3 (P : StZ w A N root W A1 m bT bD xb k d) (hk : k.k = 3) (H : FrZs (.pointer (some ⟨A.br, 0, none⟩)) (.pointer (some ⟨xb, 0, none⟩)) (.pointer (some ⟨bT, 0, none⟩)) (.pointer (some ⟨bD, 0, none⟩)) (.int .i64 k.k) a) (hl : m.th.tasks.length ≤ 900000) (hvl : m.th.vals.length ≤ 900000) (hrt : RetOk (m.todo [⟨3, k.n, k.x, k.e⟩])) :
    (cTz (stC 2 (cI (stB Tryz.f77.body)))).wp Tryz.prog (Exit.inBlock 0 (bodyPost Tryz.prog Tryz.f77 (PQm w A N root ((m.todo [⟨3, k.n, k.x, k.e⟩]).ret nilV nilV)))) a W := by
  obtain ⟨u, rfl⟩ := H.form
  obtain ⟨kk, kn, kx, ke⟩ := k
  obtain ⟨dk, da, db, dc, dnx, dn, dss, dp⟩ := d
  dsimp only at hk hrt
  subst hk
  obtain ⟨Q, HQ⟩ : ∃ Q : Ending → World → Prop, Hid (PQm w A N root ((m.todo [⟨3, kn, kx, ke⟩]).ret nilV nilV) = Q) := ⟨_, rfl⟩
  dsimp only at HQ ⊢
  rw [HQ.out]
  obtain ⟨ea, HEA⟩ : ∃ ea, Hid (eAd A.E ke = ea) := ⟨_, rfl⟩
  have HE : Hid (∀ i, ke = some i → i < A.E.length) := P.he
  have HB0 := hid P.B
  have HLT0 : Hid (LcB W A1 bT #[.int .i64 (3 : Nat), .int .i64 kn, .int .i64 kx, .pointer ea] 224) := by
    have := P.LT
    dsimp only at this
    rw [HEA.out] at this
    exact this
  have HLD0 : Hid (LcB W A1 bD #[.int .i64 (dk : Nat), .int .i64 (da : Nat), .int .i64 (db : Nat), .int .i64 (dc : Nat), .int .i64 (dnx : Nat), .int .u64 (dn : Nat), sv dss, .int .i64 (dp : Nat)] 134) := P.LD
  have HT0 : Hid (m.th.tasks.length ≤ 900000 + 0) := hl
  have HV0 : Hid (m.th.vals.length ≤ 900000 + 0) := hvl
  have HXX := hid P.x
  have HBC := hid P.B.c
  have HRT := hid hrt
  clear hrt
  clear P H hl hvl
  obtain ⟨c, hc⟩ : ∃ c, c = cTz (stC 2 (cI (stB Tryz.f77.body))) := ⟨_, rfl⟩
  rw [← hc]
  simp only [cTz, cE, cI, cR, stC, stB, Tryz.f77, Option.getD_some] at hc
  subst hc
  have t0 := HLT0.out.h.cell 0
  have t1 := HLT0.out.h.cell 1
  have t2 := HLT0.out.h.cell 2
  have t3 := HLT0.out.h.cell 3
  simp only [List.getElem?_toArray, List.getElem?_cons_succ, List.getElem?_cons_zero] at t0 t1 t2 t3
  have lT := HLT0.out.h.lt
  have d0 := HLD0.out.h.cell 0
  have d1 := HLD0.out.h.cell 1
  have d2 := HLD0.out.h.cell 2
  have d3 := HLD0.out.h.cell 3
  have d4 := HLD0.out.h.cell 4
  have d5 := HLD0.out.h.cell 5
  have d6 := HLD0.out.h.cell 6
  have d7 := HLD0.out.h.cell 7
  simp only [List.getElem?_toArray, List.getElem?_cons_succ, List.getElem?_cons_zero] at d0 d1 d2 d3 d4 d5 d6 d7
  have lD := HLD0.out.h.lt
  obtain ⟨cc0, cc1, lcc⟩ := HB0.out.c0
  obtain ⟨x, hx, hxb⟩ := HXX.out
  have O := HB0.out.r.one _ _ _ (th_cur HBC.out) hx
  have c3 := O.b.has.cell 3
  simp only [thV, List.getElem?_toArray, List.getElem?_cons_succ, List.getElem?_cons_zero, Sl.v] at c3
  have lxb := O.b.has.lt
  rw [hxb] at c3 lxb
  have HO := hid O
  have HX := hid hx
  have HXB := hid hxb
  have HEQ : Hid (tkV A1.E ⟨3, kn, kx, ke⟩ = [.int .i64 (3 : Nat), .int .i64 kn, .int .i64 kx, .pointer ea]) := by
    show _ = _
    unfold tkV ePtr
    rw [HB0.out.eN HE.out, HEA.out]
  have HRW : Hid (W.ownsRow 0 224 4 (x.tk.v m.th.tasks.length) m.th.tasks.length (m.th.tasks.reverse.flatMap (tkV A1.E))) := O.tk.own
  obtain ⟨M, HM⟩ : ∃ M : Nat, Hid (m.th.tasks.length = M) := ⟨_, rfl⟩
  rw [HM.out] at c3
  have hMb : M ≤ 900000 := by rw [← HM.out]; have := HT0.out; omega
  clear O hx hxb
  go_wp2_with fail
  refine wp_region_app rowTask 6 (by kernel_rfl) (by kernel_rfl) (fun _ _ _ _ _ h => h) _ _ _ rfl (.tmp 121) (.tmp 120) 122 123 rfl rfl rfl rfl rfl rfl (x.tk.v m.th.tasks.length) m.th.tasks.length (m.th.tasks.reverse.flatMap (tkV A1.E)) HRW.out (.agg #[.int .i64 (3 : Nat), .int .i64 kn, .int .i64 kx, .pointer ea]) rfl (by decide) (by simp [Value.cells, Value.oneCell']) (by rw [HM.out]; omega) ?_
  intro g3 cap3 w3 q1 q2 q3 q4
  have hq3 : (x.tk.v m.th.tasks.length).ownBlock = some g3 ∨ W.heap.size ≤ g3 := by
    rcases q3 with q3 | q3
    · exact .inl q3
    · right; rw [q3]; omega
  have hB3 : Has w3 bT #[.int .i64 (3 : Nat), .int .i64 kn, .int .i64 kx, .pointer ea] 224 := by
    refine (HLT0.out.h.alloc _).fr q2 (fun hq => ?_)
    have h1 := HO.out.tk.lb bT (by rw [ownBlock_any _ _ _ m.th.tasks.length x.tk.c]; exact hq)
    rw [HLT0.out.z] at h1
    omega
  obtain ⟨hh, A', s1, s2⟩ := HB0.out.r.pushT (th_cur HBC.out) HX.out ⟨3, kn, kx, ke⟩ ((Fr.refl _ _).alloc _) (by rw [HEQ.out]; exact q1) q2 hq3 q4
  rw [HXB.out] at hh s1 s2
  have z0 := hB3.cell 0
  have z1 := hB3.cell 1
  have z2 := hB3.cell 2
  have z3 := hB3.cell 3
  simp only [List.getElem?_toArray, List.getElem?_cons_succ, List.getElem?_cons_zero] at z0 z1 z2 z3
  have lz := hB3.lt
  have e3 := hh.cell 3
  simp only [thV, List.getElem?_toArray, List.getElem?_cons_succ, List.getElem?_cons_zero, Sl.v] at e3
  have f3 := hh.frozen 3
  have le3 := hh.lt
  have CC := ret_m s1 HRT.out nilV nilV rfl (fun z => by cases z)
  rw [s2.br, HB0.out.s.br, HM.out] at CC
  have HCC : Hid (Calls Tryz.prog 115 #[.pointer (some ⟨A.br, 0, none⟩), .agg #[.int .i64 0, .int .u64 0, sv []], .agg #[.int .i64 0, .int .u64 0, sv []]] (w3.setCell ⟨xb, 3, none⟩ (.slice (some ⟨g3, 0, none⟩) (M + 1) cap3)) (PQm (w3.setCell ⟨xb, 3, none⟩ (.slice (some ⟨g3, 0, none⟩) (M + 1) cap3)) A' N root ((m.todo [⟨3, kn, kx, ke⟩]).ret nilV nilV))) := CC
  have HS2 := hid s2
  rw [HM.out] at HS2 e3
  rw [HM.out]
  clear q1 q2 q3 q4 hq3 hh s1 s2 hB3 CC
  simp only [List.take_succ_cons, List.take_zero]
  repeat go_big_quiet_step (fail)
  refine wpQuiet_nil ⟨rfl, rfl, by simp, rfl, ?_⟩
  go_wp2_with fail
  refine HCC.out.mono ?_
  rintro e9 w4 ⟨rfl, A13, r1, r2⟩
  have FIN : Hid (Q (.returned (.tuple #[])) w4) := by
    show Q _ _
    rw [← HQ.out]
    exact ⟨rfl, A13, r1, HB0.out.s.trans (HS2.out.trans r2)⟩
  clear r1 r2 HCC HS2
  go_wp2
  go_end0
  exact FIN.out
theorem st23a (P : StZ w A N root W A1 m bT bD xb k d) (hk : k.k = 23) (H : FrZs (.pointer (some ⟨A.br, 0, none⟩)) (.pointer (some ⟨xb, 0, none⟩)) (.pointer (some ⟨bT, 0, none⟩)) (.pointer (some ⟨bD, 0, none⟩)) (.int .i64 k.k) a) (hl : m.th.tasks.length ≤ 900000) (hvl : m.th.vals.length ≤ 900000) (hv : 2 ≤ m.th.vals.length) (hw0 : WvB (m.topM 0)) (K : ThrOk (m.pops 1)) (TI : ∀ t ∈ m.tabs, TTi t) (h12 : m.tabs.length ≤ 12) (h4 : ((m.pops 1).topM 0).t = 4 → ((m.pops 1).topM 0).n < m.tabs.length) (hkx : k.x ≤ 1000000) (hfx : fromIntN k.x < 18446744073709551616) (hwk : wellV (numV (fromIntN k.x)) = true) (hdn : ((m.pops 1).setT ((m.pops 1).topM 0) (numV (fromIntN k.x)) (m.topM 0)).done.isSome = true) :
    (cTz (stC 22 (cI (stB Tryz.f77.body)))).wp Tryz.prog (Exit.inBlock 0 (bodyPost Tryz.prog Tryz.f77 (PQm w A N root ((m.pops 1).setT ((m.pops 1).topM 0) (numV (fromIntN k.x)) (m.topM 0))))) a W := by
  obtain ⟨u, rfl⟩ := H.form
  obtain ⟨kk, kn, kx, ke⟩ := k
  obtain ⟨dk, da, db, dc, dnx, dn, dss, dp⟩ := d
  dsimp only at hk hkx hfx hwk hdn
  subst hk
  obtain ⟨Q, HQ⟩ : ∃ Q : Ending → World → Prop, Hid (PQm w A N root ((m.pops 1).setT ((m.pops 1).topM 0) (numV (fromIntN kx)) (m.topM 0)) = Q) := ⟨_, rfl⟩
  dsimp only at HQ ⊢
  rw [HQ.out]
  obtain ⟨ea, HEA⟩ : ∃ ea, Hid (eAd A.E ke = ea) := ⟨_, rfl⟩
  have HE : Hid (∀ i, ke = some i → i < A.E.length) := P.he
  have HB0 := hid P.B
  have HLT0 : Hid (LcB W A1 bT #[.int .i64 (23 : Nat), .int .i64 kn, .int .i64 kx, .pointer ea] 224) := by
    have := P.LT
    dsimp only at this
    rw [HEA.out] at this
    exact this
  have HLD0 : Hid (LcB W A1 bD #[.int .i64 (dk : Nat), .int .i64 (da : Nat), .int .i64 (db : Nat), .int .i64 (dc : Nat), .int .i64 (dnx : Nat), .int .u64 (dn : Nat), sv dss, .int .i64 (dp : Nat)] 134) := P.LD
  have HT0 : Hid (m.th.tasks.length ≤ 900000 + 0) := hl
  have HV0 : Hid (m.th.vals.length ≤ 900000 + 0) := hvl
  have HXX := hid P.x
  have HBC := hid P.B.c
  have HVK1 : Hid (1 ≤ (m.pops 1).th.vals.length) := by show _ ≤ _; rw [th_pops HBC.out]; simp; omega
  have HVP : Hid (0 < m.th.vals.length) := by show _ < _; omega
  clear hv
  have HW0 : Hid (∀ v, m.topM 0 = v → WvB v) := fun v hv => by rw [← hv]; exact hw0
  clear hw0
  have HK : Hid (ThrOk (m.pops 1)) := K
  have HTI : Hid (∀ t ∈ (m.pops 1).tabs, TTi t) := TI
  have H12 : Hid ((m.pops 1).tabs.length ≤ 12) := h12
  have H4 : Hid (∀ v, (m.pops 1).topM 0 = v → v.t = 4 → v.n < (m.pops 1).tabs.length) := fun v hv => by rw [← hv]; exact h4
  have HFX0 := hid hfx
  have HWK := hid hwk
  have HDN := hid hdn
  clear K TI h12 h4 hfx hwk hdn
  clear P H hl hvl
  obtain ⟨c, hc⟩ : ∃ c, c = cTz (stC 22 (cI (stB Tryz.f77.body))) := ⟨_, rfl⟩
  rw [← hc]
  simp only [cTz, cE, cI, cR, stC, stB, Tryz.f77, Option.getD_some] at hc
  subst hc
  have t0 := HLT0.out.h.cell 0
  have t1 := HLT0.out.h.cell 1
  have t2 := HLT0.out.h.cell 2
  have t3 := HLT0.out.h.cell 3
  simp only [List.getElem?_toArray, List.getElem?_cons_succ, List.getElem?_cons_zero] at t0 t1 t2 t3
  have lT := HLT0.out.h.lt
  have d0 := HLD0.out.h.cell 0
  have d1 := HLD0.out.h.cell 1
  have d2 := HLD0.out.h.cell 2
  have d3 := HLD0.out.h.cell 3
  have d4 := HLD0.out.h.cell 4
  have d5 := HLD0.out.h.cell 5
  have d6 := HLD0.out.h.cell 6
  have d7 := HLD0.out.h.cell 7
  simp only [List.getElem?_toArray, List.getElem?_cons_succ, List.getElem?_cons_zero] at d0 d1 d2 d3 d4 d5 d6 d7
  have lD := HLD0.out.h.lt
  obtain ⟨cc0, cc1, lcc⟩ := HB0.out.c0
  obtain ⟨⟨vt, vn, vs⟩, HXv⟩ : ∃ v, Hid (m.topM 0 = v) := ⟨_, rfl⟩
  have CC := HB0.out.pop (HVP.out) (by have := HV0.out; omega)
  rw [HXv.out] at CC
  have HCC : Hid (Calls Tryz.prog 116 #[.pointer (some ⟨A.br, 0, none⟩)] W (fun e w' => e = .returned (.agg #[.int .i64 vt, .int .u64 vn, sv vs]) ∧ ∃ A', RB w A N root w' A' (m.pops 1) ∧ MSt W A1 w' A')) := CC
  clear CC
  go_wp2_with fail
  refine HCC.out.mono ?_
  rintro e9 w1 ⟨rfl, A11, BB, SS⟩
  clear t0 t1 t2 t3 lT d0 d1 d2 d3 d4 d5 d6 d7 lD cc0 cc1 lcc
  clear HCC
  have FA : Fr (fun _ => False) w1 (w1.alloc (.cells #[.int .i64 vt, .int .u64 vn, sv vs] 68)) := (Fr.refl _ _).alloc _
  have HB1 := hid (BB.fresh FA)
  have HLT1 := hid ((HLT0.out.st SS).fr FA)
  have HLD1 := hid ((HLD0.out.st SS).fr FA)
  have HLV1 : Hid (LcB (w1.alloc (.cells #[.int .i64 vt, .int .u64 vn, sv vs] 68)) A11 w1.heap.size #[.int .i64 vt, .int .u64 vn, sv vs] 68) := LcB.new BB.r.own _ _
  have HS1 := hid (SS.trans (MSt.fresh _ FA))
  clear FA BB SS
  have HT1 : Hid ((m.pops 1).th.tasks.length ≤ 900000 + 1) := by
    show _ ≤ _
    rw [th_pops HB0.out.c]
    have := HT0.out
    simp
    omega
  have HV1 : Hid ((m.pops 1).th.vals.length ≤ 900000 + 1) := by
    show _ ≤ _
    rw [th_pops HB0.out.c]
    have := HV0.out
    simp
    omega
  have t0 := HLT1.out.h.cell 0
  have t1 := HLT1.out.h.cell 1
  have t2 := HLT1.out.h.cell 2
  have t3 := HLT1.out.h.cell 3
  simp only [List.getElem?_toArray, List.getElem?_cons_succ, List.getElem?_cons_zero] at t0 t1 t2 t3
  have lT := HLT1.out.h.lt
  have d0 := HLD1.out.h.cell 0
  have d1 := HLD1.out.h.cell 1
  have d2 := HLD1.out.h.cell 2
  have d3 := HLD1.out.h.cell 3
  have d4 := HLD1.out.h.cell 4
  have d5 := HLD1.out.h.cell 5
  have d6 := HLD1.out.h.cell 6
  have d7 := HLD1.out.h.cell 7
  simp only [List.getElem?_toArray, List.getElem?_cons_succ, List.getElem?_cons_zero] at d0 d1 d2 d3 d4 d5 d6 d7
  have lD := HLD1.out.h.lt
  have v0 := HLV1.out.h.cell 0
  have v1 := HLV1.out.h.cell 1
  have v2 := HLV1.out.h.cell 2
  simp only [List.getElem?_toArray, List.getElem?_cons_succ, List.getElem?_cons_zero] at v0 v1 v2
  have lV := HLV1.out.h.lt
  obtain ⟨cc0, cc1, lcc⟩ := HB1.out.c0
  have HXX1 := hid (RB.x1 HXX.out HS1.out)
  obtain ⟨g, cp, c4, lc4, lg, lxb, CV⟩ := HB1.out.tops HXX1.out (by have := HVK1.out; omega)
  obtain ⟨n, HNV⟩ : ∃ n, Hid ((m.pops 1).th.vals.length = n + 1) := ⟨(m.pops 1).th.vals.length - 1, by show _ = _; have := HVK1.out; omega⟩
  obtain ⟨⟨tt, tn, ts⟩, HXt⟩ : ∃ v, Hid ((m.pops 1).topM 0 = v) := ⟨_, rfl⟩
  have D := CV (n) (by rw [HNV.out]; omega)
  have ej : (m.pops 1).th.vals.getD (n) nilV = ⟨tt, tn, ts⟩ := by rw [← HXt.out]; unfold MD.topM; rw [HNV.out]; congr 1
  rw [ej] at D
  dsimp only at D
  obtain ⟨zt0, zt1, zt2⟩ := D
  clear ej
  rw [HNV.out] at c4 lc4
  have hnb : n ≤ 900010 := by have := HV1.out; rw [HNV.out] at this; omega
  clear CV
  have ei1 : (n : Int) + 1 - 1 = (n : Int) := by omega
  have hpos : (0 : Int) < (n : Int) + 1 := by omega
  have CF : Hid (∀ W2, Calls Tryz.prog 127 #[.pointer (some ⟨A.bn, 0, none⟩), .int .i64 (kx : Nat)] W2 fun e w' => e = .returned (.int .u64 (fromIntN kx)) ∧ w' = W2) := fun W2 => by
    rw [fromInt_okM (by omega) (by omega)]
    exact fromInt_m (by omega) (by omega)
  have CC := fun F => set_m (t := ⟨tt, tn, ts⟩) (k := numV (fromIntN kx)) (v := ⟨vt, vn, vs⟩) (RB.start (HB1.out.fresh (W1 := (w1.alloc (.cells #[.int .i64 vt, .int .u64 vn, sv vs] 68)).drew.drew) F).r (HB1.out.fresh F).c) HK.out HTI.out H12.out (H4.out _ HXt.out) HWK.out (HW0.out _ HXv.out).1 (fun _ => HFX0.out)
  replace CC := CC (((Fr.refl _ _).drew).drew)
  rw [HB1.out.s.br] at CC
  have HM1X : Hid ((m.pops 1).setT ((m.pops 1).topM 0) (numV (fromIntN kx)) (m.topM 0) = (m.pops 1).setT ⟨tt, tn, ts⟩ (numV (fromIntN kx)) ⟨vt, vn, vs⟩) := by show _ = _; rw [HXt.out, HXv.out]
  have HCC := hid CC
  clear CC
  unfold numV at HCC
  obtain ⟨fx, HFX⟩ : ∃ fx, Hid (fromIntN kx = fx) := ⟨_, rfl⟩
  rw [HFX.out] at HCC CF
  have HCC2 : Hid (Calls Tryz.prog 118 #[.pointer (some ⟨A.br, 0, none⟩), .agg #[.int .i64 tt, .int .u64 tn, sv ts], .agg #[.int .i64 2, .int .u64 fx, sv []], .agg #[.int .i64 vt, .int .u64 vn, sv vs]] (w1.alloc (.cells #[.int .i64 vt, .int .u64 vn, sv vs] 68)).drew.drew (PQm (w1.alloc (.cells #[.int .i64 vt, .int .u64 vn, sv vs] 68)).drew.drew A11 N root ((m.pops 1).setT ⟨tt, tn, ts⟩ ⟨2, fx, []⟩ ⟨vt, vn, vs⟩))) := HCC.out
  clear HCC
  go_wp2_with fail
  refine wp_region_tail 6 (by kernel_rfl) (by kernel_rfl) (fun _ _ _ _ _ h => h) ?_
  simp only [List.take_succ_cons, List.take_zero, List.drop_succ_cons, List.drop_zero]
  repeat go_big_quiet_step (fail)
  refine wpQuiet_nil ?_
  go_wp2_with fail
  refine (CF.out _).mono ?_
  rintro e20 w20 ⟨rfl, hw20⟩
  rw [hw20]
  clear hw20 CF
  go_wp2_with fail
  refine wp_region_tail 16 (by kernel_rfl) (by kernel_rfl) (fun _ _ _ _ _ h => h) ?_
  simp only [List.take_succ_cons, List.take_zero, List.drop_succ_cons, List.drop_zero]
  repeat go_big_quiet_step (fail)
  refine wpQuiet_nil ?_
  go_wp2_with fail
  refine HCC2.out.mono ?_
  rintro e21 w4 ⟨rfl, A14, R4, S4⟩
  clear t0 t1 t2 t3 lT d0 d1 d2 d3 d4 d5 d6 d7 lD v0 v1 v2 lV cc0 cc1 lcc c4 lc4 lg lxb zt0 zt1 zt2 ei1 hpos hnb
  clear HCC2
  have F4 : Fr (fun _ => False) (w1.alloc (.cells #[.int .i64 vt, .int .u64 vn, sv vs] 68)) (w1.alloc (.cells #[.int .i64 vt, .int .u64 vn, sv vs] 68)).drew.drew := ((Fr.refl _ _).drew).drew
  have HM1F : Hid ((m.pops 1).setT ((m.pops 1).topM 0) (numV (fromIntN kx)) (m.topM 0) = (m.pops 1).setT ⟨tt, tn, ts⟩ ⟨2, fx, []⟩ ⟨vt, vn, vs⟩) := by
    show _ = _
    rw [HM1X.out, HFX.out]
    rfl
  rw [← HM1F.out] at R4
  obtain ⟨M1, HM1⟩ : ∃ M1, Hid ((m.pops 1).setT ((m.pops 1).topM 0) (numV (fromIntN kx)) (m.topM 0) = M1) := ⟨_, rfl⟩
  rw [HM1.out] at R4 HDN
  have hdn := HDN.out
  have c16 : w4.cell? ⟨A14.br, 16, none⟩ = some (.bool M1.done.isSome) := R4.rc 16 rfl
  have l16 := R4.run.has.lt
  rw [S4.br, HB1.out.s.br] at c16 l16
  rw [hdn] at c16
  have HS4 := hid (HB1.out.s.trans ((MSt.fresh A11 F4).trans S4))
  have HR4 := hid R4
  have FIN : Hid (Q (.returned (.tuple #[])) w4) := by
    show Q _ _
    rw [← HQ.out, HM1.out]
    exact ⟨rfl, A14, HR4.out, HS4.out⟩
  clear R4 S4 F4 hdn
  go_wp2
  go_end0
  exact FIN.out
theorem st23b (P : StZ w A N root W A1 m bT bD xb k d) (hk : k.k = 23) (H : FrZs (.pointer (some ⟨A.br, 0, none⟩)) (.pointer (some ⟨xb, 0, none⟩)) (.pointer (some ⟨bT, 0, none⟩)) (.pointer (some ⟨bD, 0, none⟩)) (.int .i64 k.k) a) (hl : m.th.tasks.length ≤ 900000) (hvl : m.th.vals.length ≤ 900000) (hv : 2 ≤ m.th.vals.length) (hw0 : WvB (m.topM 0)) (K : ThrOk (m.pops 1)) (TI : ∀ t ∈ m.tabs, TTi t) (h12 : m.tabs.length ≤ 12) (h4 : ((m.pops 1).topM 0).t = 4 → ((m.pops 1).topM 0).n < m.tabs.length) (hkx : k.x ≤ 1000000) (hfx : fromIntN k.x < 18446744073709551616) (hwk : wellV (numV (fromIntN k.x)) = true) (hdn : ((m.pops 1).setT ((m.pops 1).topM 0) (numV (fromIntN k.x)) (m.topM 0)).done.isSome = false) (hc1 : ((m.pops 1).setT ((m.pops 1).topM 0) (numV (fromIntN k.x)) (m.topM 0)).cur < ((m.pops 1).setT ((m.pops 1).topM 0) (numV (fromIntN k.x)) (m.topM 0)).ths.length) (hl1 : ((m.pops 1).setT ((m.pops 1).topM 0) (numV (fromIntN k.x)) (m.topM 0)).th.tasks.length ≤ 999990) :
    (cTz (stC 22 (cI (stB Tryz.f77.body)))).wp Tryz.prog (Exit.inBlock 0 (bodyPost Tryz.prog Tryz.f77 (PQm w A N root (((m.pops 1).setT ((m.pops 1).topM 0) (numV (fromIntN k.x)) (m.topM 0)).items d.next (k.x + 1) k.e)))) a W := by
  obtain ⟨u, rfl⟩ := H.form
  obtain ⟨kk, kn, kx, ke⟩ := k
  obtain ⟨dk, da, db, dc, dnx, dn, dss, dp⟩ := d
  dsimp only at hk hkx hfx hwk hdn hc1 hl1
  subst hk
  obtain ⟨Q, HQ⟩ : ∃ Q : Ending → World → Prop, Hid (PQm w A N root (((m.pops 1).setT ((m.pops 1).topM 0) (numV (fromIntN kx)) (m.topM 0)).items dnx (kx + 1) ke) = Q) := ⟨_, rfl⟩
  dsimp only at HQ ⊢
  rw [HQ.out]
  obtain ⟨ea, HEA⟩ : ∃ ea, Hid (eAd A.E ke = ea) := ⟨_, rfl⟩
  have HE : Hid (∀ i, ke = some i → i < A.E.length) := P.he
  have HB0 := hid P.B
  have HLT0 : Hid (LcB W A1 bT #[.int .i64 (23 : Nat), .int .i64 kn, .int .i64 kx, .pointer ea] 224) := by
    have := P.LT
    dsimp only at this
    rw [HEA.out] at this
    exact this
  have HLD0 : Hid (LcB W A1 bD #[.int .i64 (dk : Nat), .int .i64 (da : Nat), .int .i64 (db : Nat), .int .i64 (dc : Nat), .int .i64 (dnx : Nat), .int .u64 (dn : Nat), sv dss, .int .i64 (dp : Nat)] 134) := P.LD
  have HT0 : Hid (m.th.tasks.length ≤ 900000 + 0) := hl
  have HV0 : Hid (m.th.vals.length ≤ 900000 + 0) := hvl
  have HXX := hid P.x
  have HBC := hid P.B.c
  have HVK1 : Hid (1 ≤ (m.pops 1).th.vals.length) := by show _ ≤ _; rw [th_pops HBC.out]; simp; omega
  have HVP : Hid (0 < m.th.vals.length) := by show _ < _; omega
  clear hv
  have HW0 : Hid (∀ v, m.topM 0 = v → WvB v) := fun v hv => by rw [← hv]; exact hw0
  clear hw0
  have HK : Hid (ThrOk (m.pops 1)) := K
  have HTI : Hid (∀ t ∈ (m.pops 1).tabs, TTi t) := TI
  have H12 : Hid ((m.pops 1).tabs.length ≤ 12) := h12
  have H4 : Hid (∀ v, (m.pops 1).topM 0 = v → v.t = 4 → v.n < (m.pops 1).tabs.length) := fun v hv => by rw [← hv]; exact h4
  have HFX0 := hid hfx
  have HWK := hid hwk
  have HDN := hid hdn
  clear K TI h12 h4 hfx hwk hdn
  have HC1 := hid hc1
  have HL1 := hid hl1
  clear hc1 hl1
  clear P H hl hvl
  obtain ⟨c, hc⟩ : ∃ c, c = cTz (stC 22 (cI (stB Tryz.f77.body))) := ⟨_, rfl⟩
  rw [← hc]
  simp only [cTz, cE, cI, cR, stC, stB, Tryz.f77, Option.getD_some] at hc
  subst hc
  have t0 := HLT0.out.h.cell 0
  have t1 := HLT0.out.h.cell 1
  have t2 := HLT0.out.h.cell 2
  have t3 := HLT0.out.h.cell 3
  simp only [List.getElem?_toArray, List.getElem?_cons_succ, List.getElem?_cons_zero] at t0 t1 t2 t3
  have lT := HLT0.out.h.lt
  have d0 := HLD0.out.h.cell 0
  have d1 := HLD0.out.h.cell 1
  have d2 := HLD0.out.h.cell 2
  have d3 := HLD0.out.h.cell 3
  have d4 := HLD0.out.h.cell 4
  have d5 := HLD0.out.h.cell 5
  have d6 := HLD0.out.h.cell 6
  have d7 := HLD0.out.h.cell 7
  simp only [List.getElem?_toArray, List.getElem?_cons_succ, List.getElem?_cons_zero] at d0 d1 d2 d3 d4 d5 d6 d7
  have lD := HLD0.out.h.lt
  obtain ⟨cc0, cc1, lcc⟩ := HB0.out.c0
  obtain ⟨⟨vt, vn, vs⟩, HXv⟩ : ∃ v, Hid (m.topM 0 = v) := ⟨_, rfl⟩
  have CC := HB0.out.pop (HVP.out) (by have := HV0.out; omega)
  rw [HXv.out] at CC
  have HCC : Hid (Calls Tryz.prog 116 #[.pointer (some ⟨A.br, 0, none⟩)] W (fun e w' => e = .returned (.agg #[.int .i64 vt, .int .u64 vn, sv vs]) ∧ ∃ A', RB w A N root w' A' (m.pops 1) ∧ MSt W A1 w' A')) := CC
  clear CC
  go_wp2_with fail
  refine HCC.out.mono ?_
  rintro e9 w1 ⟨rfl, A11, BB, SS⟩
  clear t0 t1 t2 t3 lT d0 d1 d2 d3 d4 d5 d6 d7 lD cc0 cc1 lcc
  clear HCC
  have FA : Fr (fun _ => False) w1 (w1.alloc (.cells #[.int .i64 vt, .int .u64 vn, sv vs] 68)) := (Fr.refl _ _).alloc _
  have HB1 := hid (BB.fresh FA)
  have HLT1 := hid ((HLT0.out.st SS).fr FA)
  have HLD1 := hid ((HLD0.out.st SS).fr FA)
  have HLV1 : Hid (LcB (w1.alloc (.cells #[.int .i64 vt, .int .u64 vn, sv vs] 68)) A11 w1.heap.size #[.int .i64 vt, .int .u64 vn, sv vs] 68) := LcB.new BB.r.own _ _
  have HS1 := hid (SS.trans (MSt.fresh _ FA))
  clear FA BB SS
  have HT1 : Hid ((m.pops 1).th.tasks.length ≤ 900000 + 1) := by
    show _ ≤ _
    rw [th_pops HB0.out.c]
    have := HT0.out
    simp
    omega
  have HV1 : Hid ((m.pops 1).th.vals.length ≤ 900000 + 1) := by
    show _ ≤ _
    rw [th_pops HB0.out.c]
    have := HV0.out
    simp
    omega
  have t0 := HLT1.out.h.cell 0
  have t1 := HLT1.out.h.cell 1
  have t2 := HLT1.out.h.cell 2
  have t3 := HLT1.out.h.cell 3
  simp only [List.getElem?_toArray, List.getElem?_cons_succ, List.getElem?_cons_zero] at t0 t1 t2 t3
  have lT := HLT1.out.h.lt
  have d0 := HLD1.out.h.cell 0
  have d1 := HLD1.out.h.cell 1
  have d2 := HLD1.out.h.cell 2
  have d3 := HLD1.out.h.cell 3
  have d4 := HLD1.out.h.cell 4
  have d5 := HLD1.out.h.cell 5
  have d6 := HLD1.out.h.cell 6
  have d7 := HLD1.out.h.cell 7
  simp only [List.getElem?_toArray, List.getElem?_cons_succ, List.getElem?_cons_zero] at d0 d1 d2 d3 d4 d5 d6 d7
  have lD := HLD1.out.h.lt
  have v0 := HLV1.out.h.cell 0
  have v1 := HLV1.out.h.cell 1
  have v2 := HLV1.out.h.cell 2
  simp only [List.getElem?_toArray, List.getElem?_cons_succ, List.getElem?_cons_zero] at v0 v1 v2
  have lV := HLV1.out.h.lt
  obtain ⟨cc0, cc1, lcc⟩ := HB1.out.c0
  have HXX1 := hid (RB.x1 HXX.out HS1.out)
  obtain ⟨g, cp, c4, lc4, lg, lxb, CV⟩ := HB1.out.tops HXX1.out (by have := HVK1.out; omega)
  obtain ⟨n, HNV⟩ : ∃ n, Hid ((m.pops 1).th.vals.length = n + 1) := ⟨(m.pops 1).th.vals.length - 1, by show _ = _; have := HVK1.out; omega⟩
  obtain ⟨⟨tt, tn, ts⟩, HXt⟩ : ∃ v, Hid ((m.pops 1).topM 0 = v) := ⟨_, rfl⟩
  have D := CV (n) (by rw [HNV.out]; omega)
  have ej : (m.pops 1).th.vals.getD (n) nilV = ⟨tt, tn, ts⟩ := by rw [← HXt.out]; unfold MD.topM; rw [HNV.out]; congr 1
  rw [ej] at D
  dsimp only at D
  obtain ⟨zt0, zt1, zt2⟩ := D
  clear ej
  rw [HNV.out] at c4 lc4
  have hnb : n ≤ 900010 := by have := HV1.out; rw [HNV.out] at this; omega
  clear CV
  have ei1 : (n : Int) + 1 - 1 = (n : Int) := by omega
  have hpos : (0 : Int) < (n : Int) + 1 := by omega
  have CF : Hid (∀ W2, Calls Tryz.prog 127 #[.pointer (some ⟨A.bn, 0, none⟩), .int .i64 (kx : Nat)] W2 fun e w' => e = .returned (.int .u64 (fromIntN kx)) ∧ w' = W2) := fun W2 => by
    rw [fromInt_okM (by omega) (by omega)]
    exact fromInt_m (by omega) (by omega)
  have CC := fun F => set_m (t := ⟨tt, tn, ts⟩) (k := numV (fromIntN kx)) (v := ⟨vt, vn, vs⟩) (RB.start (HB1.out.fresh (W1 := (w1.alloc (.cells #[.int .i64 vt, .int .u64 vn, sv vs] 68)).drew.drew) F).r (HB1.out.fresh F).c) HK.out HTI.out H12.out (H4.out _ HXt.out) HWK.out (HW0.out _ HXv.out).1 (fun _ => HFX0.out)
  replace CC := CC (((Fr.refl _ _).drew).drew)
  rw [HB1.out.s.br] at CC
  have HM1X : Hid ((m.pops 1).setT ((m.pops 1).topM 0) (numV (fromIntN kx)) (m.topM 0) = (m.pops 1).setT ⟨tt, tn, ts⟩ (numV (fromIntN kx)) ⟨vt, vn, vs⟩) := by show _ = _; rw [HXt.out, HXv.out]
  have HCC := hid CC
  clear CC
  unfold numV at HCC
  obtain ⟨fx, HFX⟩ : ∃ fx, Hid (fromIntN kx = fx) := ⟨_, rfl⟩
  rw [HFX.out] at HCC CF
  have HCC2 : Hid (Calls Tryz.prog 118 #[.pointer (some ⟨A.br, 0, none⟩), .agg #[.int .i64 tt, .int .u64 tn, sv ts], .agg #[.int .i64 2, .int .u64 fx, sv []], .agg #[.int .i64 vt, .int .u64 vn, sv vs]] (w1.alloc (.cells #[.int .i64 vt, .int .u64 vn, sv vs] 68)).drew.drew (PQm (w1.alloc (.cells #[.int .i64 vt, .int .u64 vn, sv vs] 68)).drew.drew A11 N root ((m.pops 1).setT ⟨tt, tn, ts⟩ ⟨2, fx, []⟩ ⟨vt, vn, vs⟩))) := HCC.out
  clear HCC
  go_wp2_with fail
  refine wp_region_tail 6 (by kernel_rfl) (by kernel_rfl) (fun _ _ _ _ _ h => h) ?_
  simp only [List.take_succ_cons, List.take_zero, List.drop_succ_cons, List.drop_zero]
  repeat go_big_quiet_step (fail)
  refine wpQuiet_nil ?_
  go_wp2_with fail
  refine (CF.out _).mono ?_
  rintro e20 w20 ⟨rfl, hw20⟩
  rw [hw20]
  clear hw20 CF
  go_wp2_with fail
  refine wp_region_tail 16 (by kernel_rfl) (by kernel_rfl) (fun _ _ _ _ _ h => h) ?_
  simp only [List.take_succ_cons, List.take_zero, List.drop_succ_cons, List.drop_zero]
  repeat go_big_quiet_step (fail)
  refine wpQuiet_nil ?_
  go_wp2_with fail
  refine HCC2.out.mono ?_
  rintro e21 w4 ⟨rfl, A14, R4, S4⟩
  clear t0 t1 t2 t3 lT d0 d1 d2 d3 d4 d5 d6 d7 lD v0 v1 v2 lV cc0 cc1 lcc c4 lc4 lg lxb zt0 zt1 zt2 ei1 hpos hnb
  clear HCC2
  have F4 : Fr (fun _ => False) (w1.alloc (.cells #[.int .i64 vt, .int .u64 vn, sv vs] 68)) (w1.alloc (.cells #[.int .i64 vt, .int .u64 vn, sv vs] 68)).drew.drew := ((Fr.refl _ _).drew).drew
  have HM1F : Hid ((m.pops 1).setT ((m.pops 1).topM 0) (numV (fromIntN kx)) (m.topM 0) = (m.pops 1).setT ⟨tt, tn, ts⟩ ⟨2, fx, []⟩ ⟨vt, vn, vs⟩) := by
    show _ = _
    rw [HM1X.out, HFX.out]
    rfl
  rw [← HM1F.out] at R4
  obtain ⟨M1, HM1⟩ : ∃ M1, Hid ((m.pops 1).setT ((m.pops 1).topM 0) (numV (fromIntN kx)) (m.topM 0) = M1) := ⟨_, rfl⟩
  rw [HM1.out] at R4 HDN
  have hdn := HDN.out
  have c16 : w4.cell? ⟨A14.br, 16, none⟩ = some (.bool M1.done.isSome) := R4.rc 16 rfl
  have l16 := R4.run.has.lt
  rw [S4.br, HB1.out.s.br] at c16 l16
  rw [hdn] at c16
  have HS4 := hid (HB1.out.s.trans ((MSt.fresh A11 F4).trans S4))
  have HR4 := hid R4
  rw [HM1.out] at HC1 HL1
  have HB4 : Hid (RB w A N root w4 A14 M1) := ⟨HR4.out, HS4.out, HC1.out⟩
  have HLT4 := hid ((HLT1.out.fr F4).st S4)
  have HLD4 := hid ((HLD1.out.fr F4).st S4)
  have HLV4 := hid ((HLV1.out.fr F4).st S4)
  clear R4 S4 F4 hdn
  have t0 := HLT4.out.h.cell 0
  have t1 := HLT4.out.h.cell 1
  have t2 := HLT4.out.h.cell 2
  have t3 := HLT4.out.h.cell 3
  simp only [List.getElem?_toArray, List.getElem?_cons_succ, List.getElem?_cons_zero] at t0 t1 t2 t3
  have lT := HLT4.out.h.lt
  have d0 := HLD4.out.h.cell 0
  have d1 := HLD4.out.h.cell 1
  have d2 := HLD4.out.h.cell 2
  have d3 := HLD4.out.h.cell 3
  have d4 := HLD4.out.h.cell 4
  have d5 := HLD4.out.h.cell 5
  have d6 := HLD4.out.h.cell 6
  have d7 := HLD4.out.h.cell 7
  simp only [List.getElem?_toArray, List.getElem?_cons_succ, List.getElem?_cons_zero] at d0 d1 d2 d3 d4 d5 d6 d7
  have lD := HLD4.out.h.lt
  have v0 := HLV4.out.h.cell 0
  have v1 := HLV4.out.h.cell 1
  have v2 := HLV4.out.h.cell 2
  simp only [List.getElem?_toArray, List.getElem?_cons_succ, List.getElem?_cons_zero] at v0 v1 v2
  have lV := HLV4.out.h.lt
  obtain ⟨cc0, cc1, lcc⟩ := HB4.out.c0
  have CC := items_m HB4.out HL1.out dnx (kx + 1) ke HE.out (n' := (dnx : Nat)) (i' := (kx : Int) + 1) rfl (by omega)
  rw [HEA.out] at CC
  have HCC := hid CC
  clear CC
  go_wp2_with fail
  refine HCC.out.mono ?_
  rintro e22 w5 ⟨rfl, A15, B5, S5⟩
  clear t0 t1 t2 t3 lT d0 d1 d2 d3 d4 d5 d6 d7 lD v0 v1 v2 lV cc0 cc1 lcc
  have FIN : Hid (Q (.returned (.tuple #[])) w5) := by
    show Q _ _
    rw [← HQ.out, HM1.out]
    exact B5.end
  clear B5 S5 HCC
  go_wp2
  go_end0
  exact FIN.out
end
end Go.Proofs.Qxb6500574aGreatDoor
