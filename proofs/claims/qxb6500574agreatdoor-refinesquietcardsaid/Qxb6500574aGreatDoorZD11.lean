/-
  THE WALKS of compm: step: the step of a numeric for.
-/
import Derived.Test.Qxb6500574aGreatDoorZD10
namespace Go.Proofs.Qxb6500574aGreatDoor
open Go Go.RowKit
set_option linter.unusedVariables false
set_option linter.unusedSimpArgs false
section
variable {w W W1 : World} {A A1 A2 : RnP} {N : List Nd} {root : Nat} {M m : MD} {k : TkD} {r : List TkD} {d : Nd} {bT bD xb : Nat} {a : Act}
set_option maxRecDepth 100000
set_option maxHeartbeats 2000000
/-- a value's number turned -/
theorem RB.setVn (B : RB w A N root W A1 m) (hx : ∃ x, A1.X[m.cur]? = some x ∧ x.b = xb) {g c L : Nat} (h4 : W.cell? ⟨xb, 4, none⟩ = some (.slice (some ⟨g, 0, none⟩) L c)) {i : Nat} (hi : i < m.th.vals.length) (y : Nat) :
    W.frozen? ⟨g, i * 3 + 1, none⟩ = false ∧ ∃ A', RB w A N root (W.setCell ⟨g, i * 3 + 1, none⟩ (.int .u64 y)) A' (m.upT fun t => { t with vals := t.vals.set i { m.th.vals.getD i nilV with n := y } }) ∧ MSt W A1 (W.setCell ⟨g, i * 3 + 1, none⟩ (.int .u64 y)) A' := by
  obtain ⟨x, hx, rfl⟩ := hx
  have O := B.r.one _ _ _ (th_cur B.c) hx
  have c4 := O.b.has.cell 4
  simp only [thV, List.getElem?_toArray, List.getElem?_cons_succ, List.getElem?_cons_zero, Sl.v] at c4
  rw [h4] at c4
  injection c4 with c4
  injection c4 with e1 e2 e3
  have hv0 : m.th.vals[i]? = some (m.th.vals.getD i nilV) := by rw [List.getD_eq_getElem?_getD, List.getElem?_eq_getElem hi]; rfl
  obtain ⟨g', ga, gc, _, gl, gx, gf⟩ := O.vl.cells (by omega)
  have eg : g' = g := by
    rw [← e1] at ga
    injection ga with ga
    injection ga with ga
    exact ga.symm
  subst eg
  obtain ⟨p1, p2⟩ := O.vl.put ga (i * 3 + 1) (.int .u64 y) (ys := (m.th.vals.set i { m.th.vals.getD i nilV with n := y }).flatMap vCells) (flatMap_set vCells 3 vCells_len m.th.vals i 1 (m.th.vals.getD i nilV) { m.th.vals.getD i nilV with n := y } (.int .u64 y) hv0 (by decide) rfl).symm
  obtain ⟨r1, r2⟩ := B.r.turn (th_cur B.c) hx (p2.weaken (fun l hl => by omega)) (x' := x) (T' := { m.th with vals := m.th.vals.set i { m.th.vals.getD i nilV with n := y } }) ⟨by
    have := O.b.st p2 (by omega)
    have e : thV x { m.th with vals := m.th.vals.set i { m.th.vals.getD i nilV with n := y } } = thV x m.th := by simp [thV]
    rw [e]
    exact this, O.tk.st p2 (by omega), by
    show Row _ _ _ _ _ _ (m.th.vals.set i { m.th.vals.getD i nilV with n := y }).length _
    rw [List.length_set]
    exact p1⟩ rfl
  exact ⟨gf _, _, ⟨r1, B.s.trans r2, by rw [upT_len]; exact B.c⟩, r2⟩
theorem st17a (P : StZ w A N root W A1 m bT bD xb k d) (hk : k.k = 17) (H : FrZs (.pointer (some ⟨A.br, 0, none⟩)) (.pointer (some ⟨xb, 0, none⟩)) (.pointer (some ⟨bT, 0, none⟩)) (.pointer (some ⟨bD, 0, none⟩)) (.int .i64 k.k) a) (hl : m.th.tasks.length ≤ 900000) (hvl : m.th.vals.length ≤ 900000) (hv : 3 ≤ m.th.vals.length) (n0 : (m.topM 0).n < 18446744073709551616) (n2 : (m.topM 2).n < 18446744073709551616) {f : Nat} (hf : m.fuel = f + 1) (hfm : f < 9223372036854775807) :
    (cTz (stC 16 (cI (stB Tryz.f77.body)))).wp Tryz.prog (Exit.inBlock 0 (bodyPost Tryz.prog Tryz.f77 (PQm w A N root (({ (m.upT fun t => { t with vals := t.vals.set (m.th.vals.length - 3) { m.topM 2 with n := arithN 1 (m.topM 2).n (m.topM 0).n } }) with fuel := f } : MD).todo [⟨16, k.n, 0, k.e⟩])))) a W := by
  obtain ⟨u, rfl⟩ := H.form
  obtain ⟨kk, kn, kx, ke⟩ := k
  obtain ⟨dk, da, db, dc, dnx, dn, dss, dp⟩ := d
  dsimp only at hk
  subst hk
  obtain ⟨Q, HQ⟩ : ∃ Q : Ending → World → Prop, Hid (PQm w A N root (({ (m.upT fun t => { t with vals := t.vals.set (m.th.vals.length - 3) { m.topM 2 with n := arithN 1 (m.topM 2).n (m.topM 0).n } }) with fuel := f } : MD).todo [⟨16, kn, 0, ke⟩]) = Q) := ⟨_, rfl⟩
  dsimp only at HQ ⊢
  rw [HQ.out]
  obtain ⟨ea, HEA⟩ : ∃ ea, Hid (eAd A.E ke = ea) := ⟨_, rfl⟩
  have HE : Hid (∀ i, ke = some i → i < A.E.length) := P.he
  have HB0 := hid P.B
  have HLT0 : Hid (LcB W A1 bT #[.int .i64 (17 : Nat), .int .i64 kn, .int .i64 kx, .pointer ea] 224) := by
    have := P.LT
    dsimp only at this
    rw [HEA.out] at this
    exact this
  have HLD0 : Hid (LcB W A1 bD #[.int .i64 (dk : Nat), .int .i64 (da : Nat), .int .i64 (db : Nat), .int .i64 (dc : Nat), .int .i64 (dnx : Nat), .int .u64 (dn : Nat), sv dss, .int .i64 (dp : Nat)] 134) := P.LD
  have HT0 : Hid (m.th.tasks.length ≤ 900000 + 0) := hl
  have HV0 : Hid (m.th.vals.length ≤ 900000 + 0) := hvl
  have HXX := hid P.x
  have HBC := hid P.B.c
  have HVK : Hid (3 ≤ m.th.vals.length) := hv
  have HN0 : Hid (∀ v, m.topM 0 = v → v.n < 18446744073709551616) := fun v hv => by rw [← hv]; exact n0
  have HN2 : Hid (∀ v, m.topM 2 = v → v.n < 18446744073709551616) := fun v hv => by rw [← hv]; exact n2
  clear n0 n2 hv
  have HFU := hid hf
  have HFM := hid hfm
  clear hf hfm
  clear P H hl hvl
  obtain ⟨c, hc⟩ : ∃ c, c = cTz (stC 16 (cI (stB Tryz.f77.body))) := ⟨_, rfl⟩
  rw [← hc]
  simp only [cTz, cE, cI, cR, stC, stB, Tryz.f77, Option.getD_some] at hc
  subst hc
  have t0 := HLT0.out.h.cell 0
  have t1 := HLT0.out.h.cell 1
  have t2 := HLT0.out.h.cell 2
  have t3 := HLT0.out.h.cell 3
  simp only [List.getElem?_toArray, List.getElem?_cons_succ, List.getElem?_cons_zero] at t0 t1 t2 t3
  have lT := HLT0.out.h.lt
  have d0 := HLD0.out.h.cell 0
  have d1 := HLD0.out.h.cell 1
  have d2 := HLD0.out.h.cell 2
  have d3 := HLD0.out.h.cell 3
  have d4 := HLD0.out.h.cell 4
  have d5 := HLD0.out.h.cell 5
  have d6 := HLD0.out.h.cell 6
  have d7 := HLD0.out.h.cell 7
  simp only [List.getElem?_toArray, List.getElem?_cons_succ, List.getElem?_cons_zero] at d0 d1 d2 d3 d4 d5 d6 d7
  have lD := HLD0.out.h.lt
  obtain ⟨cc0, cc1, lcc⟩ := HB0.out.c0
  obtain ⟨g, cp, c4, lc4, lg, lxb, CV⟩ := HB0.out.tops HXX.out (by have := HVK.out; omega)
  obtain ⟨n, HNV⟩ : ∃ n, Hid (m.th.vals.length = n + 3) := ⟨m.th.vals.length - 3, by show _ = _; have := HVK.out; omega⟩
  obtain ⟨⟨vt, vn, vs⟩, HXv⟩ : ∃ v, Hid (m.topM 0 = v) := ⟨_, rfl⟩
  have D := CV (n + 2) (by rw [HNV.out]; omega)
  have ej : m.th.vals.getD (n + 2) nilV = ⟨vt, vn, vs⟩ := by rw [← HXv.out]; unfold MD.topM; rw [HNV.out]; congr 1
  rw [ej] at D
  dsimp only at D
  obtain ⟨zv0, zv1, zv2⟩ := D
  clear ej
  obtain ⟨⟨ut, un, us⟩, HXu⟩ : ∃ v, Hid (m.topM 1 = v) := ⟨_, rfl⟩
  have D := CV (n + 1) (by rw [HNV.out]; omega)
  have ej : m.th.vals.getD (n + 1) nilV = ⟨ut, un, us⟩ := by rw [← HXu.out]; unfold MD.topM; rw [HNV.out]; congr 1
  rw [ej] at D
  dsimp only at D
  obtain ⟨zu0, zu1, zu2⟩ := D
  clear ej
  obtain ⟨⟨tt, tn, ts⟩, HXt⟩ : ∃ v, Hid (m.topM 2 = v) := ⟨_, rfl⟩
  have D := CV (n) (by rw [HNV.out]; omega)
  have ej : m.th.vals.getD (n) nilV = ⟨tt, tn, ts⟩ := by rw [← HXt.out]; unfold MD.topM; rw [HNV.out]; congr 1
  rw [ej] at D
  dsimp only at D
  obtain ⟨zt0, zt1, zt2⟩ := D
  clear ej
  rw [HNV.out] at c4 lc4
  have hnb : n ≤ 900010 := by have := HV0.out; rw [HNV.out] at this; omega
  clear CV
  have ei1 : (n : Int) + 3 - 1 = (n : Int) + 2 := by omega
  have ei2 : (n : Int) + 3 - 2 = (n : Int) + 1 := by omega
  have ei3 : (n : Int) + 3 - 3 = (n : Int) := by omega
  have hpos : (0 : Int) < (n : Int) + 3 := by omega
  obtain ⟨y, HY⟩ : ∃ y, Hid (arithN 1 tn vn = y) := ⟨_, rfl⟩
  have CA : Hid (∀ W2, Calls Tryz.prog 123 #[.pointer (some ⟨A.bn, 0, none⟩), .int .i64 1, .int .u64 tn, .int .u64 vn] W2 fun e w' => e = .returned (.int .u64 y) ∧ w' = W2) := fun W2 => by
    rw [← HY.out]
    exact arith_m (op := 1) (by decide) (by decide) (HN2.out _ HXt.out) (HN0.out _ HXv.out)
  obtain ⟨fz, AS, BS, SS⟩ := HB0.out.setVn HXX.out c4 (i := n) (by rw [HNV.out]; omega) y
  have em : m.th.vals.getD n nilV = ⟨tt, tn, ts⟩ := by rw [← HXt.out]; unfold MD.topM; rw [HNV.out]; congr 1
  rw [em] at BS
  have HM1X : Hid ((m.upT fun t => { t with vals := t.vals.set (m.th.vals.length - 3) { m.topM 2 with n := arithN 1 (m.topM 2).n (m.topM 0).n } }) = (m.upT fun t => { t with vals := t.vals.set n { (⟨tt, tn, ts⟩ : Vl) with n := y } })) := by
    show _ = _
    have h : m.th.vals.length - 3 = n := by rw [HNV.out]; omega
    rw [HXt.out, HXv.out, h]
    dsimp only
    rw [HY.out]
  rw [← HM1X.out] at BS
  obtain ⟨M1, HM1⟩ : ∃ M1, Hid ((m.upT fun t => { t with vals := t.vals.set (m.th.vals.length - 3) { m.topM 2 with n := arithN 1 (m.topM 2).n (m.topM 0).n } }) = M1) := ⟨_, rfl⟩
  have hT1 : M1.th.tasks.length ≤ 900000 := by
    rw [← HM1.out, upT_th HBC.out]
    exact HT0.out
  have hV1 : M1.th.vals.length ≤ 900000 := by
    rw [← HM1.out, upT_th HBC.out]
    show (m.th.vals.set _ _).length ≤ _
    rw [List.length_set]
    exact HV0.out
  have hF1 : M1.fuel = m.fuel := by rw [← HM1.out]; rfl
  have HFU1 := hid (hF1.trans HFU.out)
  rw [HM1.out] at BS
  have FD : Fr (fun _ => False) (W.setCell ⟨g, n * 3 + 1, none⟩ (.int .u64 y)) (W.setCell ⟨g, n * 3 + 1, none⟩ (.int .u64 y)).drew := (Fr.refl _ _).drew
  have HB1 := hid (BS.fresh FD)
  have HLT1 := hid ((HLT0.out.st SS).fr FD)
  have HLD1 := hid ((HLD0.out.st SS).fr FD)
  have HT1 : Hid (M1.th.tasks.length ≤ 900000 + 1) := Nat.le_trans hT1 (by decide)
  have HV1 : Hid (M1.th.vals.length ≤ 900000 + 1) := Nat.le_trans hV1 (by decide)
  clear BS SS FD em hT1 hV1 hF1
  go_wp2_with fail
  refine wp_region_head 28 1 (fun y => y = W.drew) (by kernel_rfl) (by kernel_rfl) (fun _ _ _ _ _ h => h) rfl ?_
  simp only [List.take_succ_cons, List.take_zero, List.drop_succ_cons, List.drop_zero]
  repeat go_big_quiet_step (fail)
  refine wpQuiet_nil ?_
  unfold wpChain
  go_wp2_with fail
  refine (CA.out _).mono ?_
  rintro e20 w20 ⟨rfl, rfl⟩
  go_wp2_with fail
  refine ⟨trivial, ?_⟩
  rw [wpChain_zero]
  clear CA
  have CC := mburn_yes HB1.out.r HFU1.out HFM.out
  rw [HB1.out.s.br] at CC
  have HCC := hid CC
  clear CC
  go_wp2_with fail
  refine HCC.out.mono ?_
  rintro e9 w2 ⟨rfl, A12, q1, q2⟩
  clear t0 t1 t2 t3 lT d0 d1 d2 d3 d4 d5 d6 d7 lD cc0 cc1 lcc c4 lc4 lg lxb zv0 zv1 zv2 zu0 zu1 zu2 zt0 zt1 zt2 ei1 ei2 ei3 hpos hnb
  clear fz
  have HB2 : Hid (RB w A N root w2 A12 { M1 with fuel := f }) := ⟨q1, HB1.out.s.trans q2, HB1.out.c⟩
  have HLT2 := hid (HLT1.out.st q2)
  have HLD2 := hid (HLD1.out.st q2)
  have HT2 : Hid (({ M1 with fuel := f } : MD).th.tasks.length ≤ 900000 + 2) := by show M1.th.tasks.length ≤ _; have := HT1.out; omega
  have HV2 : Hid (({ M1 with fuel := f } : MD).th.vals.length ≤ 900000 + 2) := by show M1.th.vals.length ≤ _; have := HV1.out; omega
  clear q1 q2 HCC
  have t0 := HLT2.out.h.cell 0
  have t1 := HLT2.out.h.cell 1
  have t2 := HLT2.out.h.cell 2
  have t3 := HLT2.out.h.cell 3
  simp only [List.getElem?_toArray, List.getElem?_cons_succ, List.getElem?_cons_zero] at t0 t1 t2 t3
  have lT := HLT2.out.h.lt
  have d0 := HLD2.out.h.cell 0
  have d1 := HLD2.out.h.cell 1
  have d2 := HLD2.out.h.cell 2
  have d3 := HLD2.out.h.cell 3
  have d4 := HLD2.out.h.cell 4
  have d5 := HLD2.out.h.cell 5
  have d6 := HLD2.out.h.cell 6
  have d7 := HLD2.out.h.cell 7
  simp only [List.getElem?_toArray, List.getElem?_cons_succ, List.getElem?_cons_zero] at d0 d1 d2 d3 d4 d5 d6 d7
  have lD := HLD2.out.h.lt
  obtain ⟨cc0, cc1, lcc⟩ := HB2.out.c0
  have CC := HB2.out.todo (by have := HT2.out; omega) 16 kn 0 ke HE.out (k' := 16) (n' := (kn : Nat)) (x' := 0) rfl rfl rfl
  rw [HEA.out] at CC
  have HCC := hid CC
  clear CC
  go_wp2_with fail
  refine HCC.out.mono ?_
  rintro e11 w3 ⟨rfl, A13, BB, SS⟩
  clear t0 t1 t2 t3 lT d0 d1 d2 d3 d4 d5 d6 d7 lD cc0 cc1 lcc
  clear HCC
  have HB3 := hid BB
  have HLT3 := hid (HLT2.out.st SS)
  have HLD3 := hid (HLD2.out.st SS)
  have HS3 := hid SS
  clear BB SS
  have HT3 : Hid ((({ M1 with fuel := f } : MD).todo [⟨16, kn, 0, ke⟩]).th.tasks.length ≤ 900000 + 3) := by
    show _ ≤ _
    rw [th_todo HB2.out.c]
    have := HT2.out
    simp
    omega
  have HV3 : Hid ((({ M1 with fuel := f } : MD).todo [⟨16, kn, 0, ke⟩]).th.vals.length ≤ 900000 + 3) := by
    show _ ≤ _
    rw [th_todo HB2.out.c]
    have := HV2.out
    simp
    omega
  have t0 := HLT3.out.h.cell 0
  have t1 := HLT3.out.h.cell 1
  have t2 := HLT3.out.h.cell 2
  have t3 := HLT3.out.h.cell 3
  simp only [List.getElem?_toArray, List.getElem?_cons_succ, List.getElem?_cons_zero] at t0 t1 t2 t3
  have lT := HLT3.out.h.lt
  have d0 := HLD3.out.h.cell 0
  have d1 := HLD3.out.h.cell 1
  have d2 := HLD3.out.h.cell 2
  have d3 := HLD3.out.h.cell 3
  have d4 := HLD3.out.h.cell 4
  have d5 := HLD3.out.h.cell 5
  have d6 := HLD3.out.h.cell 6
  have d7 := HLD3.out.h.cell 7
  simp only [List.getElem?_toArray, List.getElem?_cons_succ, List.getElem?_cons_zero] at d0 d1 d2 d3 d4 d5 d6 d7
  have lD := HLD3.out.h.lt
  obtain ⟨cc0, cc1, lcc⟩ := HB3.out.c0
  have FIN : Hid (Q (.returned (.tuple #[])) w3) := by
    show Q _ _
    rw [← HQ.out, HM1.out]
    exact HB3.out.end
  go_wp2
  go_end0
  exact FIN.out
theorem st17b (P : StZ w A N root W A1 m bT bD xb k d) (hk : k.k = 17) (H : FrZs (.pointer (some ⟨A.br, 0, none⟩)) (.pointer (some ⟨xb, 0, none⟩)) (.pointer (some ⟨bT, 0, none⟩)) (.pointer (some ⟨bD, 0, none⟩)) (.int .i64 k.k) a) (hl : m.th.tasks.length ≤ 900000) (hvl : m.th.vals.length ≤ 900000) (hv : 3 ≤ m.th.vals.length) (n0 : (m.topM 0).n < 18446744073709551616) (n2 : (m.topM 2).n < 18446744073709551616) (hf : m.fuel = 0) :
    (cTz (stC 16 (cI (stB Tryz.f77.body)))).wp Tryz.prog (Exit.inBlock 0 (bodyPost Tryz.prog Tryz.f77 (PQm w A N root ((m.upT fun t => { t with vals := t.vals.set (m.th.vals.length - 3) { m.topM 2 with n := arithN 1 (m.topM 2).n (m.topM 0).n } }).finish 9 [45])))) a W := by
  obtain ⟨u, rfl⟩ := H.form
  obtain ⟨kk, kn, kx, ke⟩ := k
  obtain ⟨dk, da, db, dc, dnx, dn, dss, dp⟩ := d
  dsimp only at hk
  subst hk
  obtain ⟨Q, HQ⟩ : ∃ Q : Ending → World → Prop, Hid (PQm w A N root ((m.upT fun t => { t with vals := t.vals.set (m.th.vals.length - 3) { m.topM 2 with n := arithN 1 (m.topM 2).n (m.topM 0).n } }).finish 9 [45]) = Q) := ⟨_, rfl⟩
  dsimp only at HQ ⊢
  rw [HQ.out]
  obtain ⟨ea, HEA⟩ : ∃ ea, Hid (eAd A.E ke = ea) := ⟨_, rfl⟩
  have HE : Hid (∀ i, ke = some i → i < A.E.length) := P.he
  have HB0 := hid P.B
  have HLT0 : Hid (LcB W A1 bT #[.int .i64 (17 : Nat), .int .i64 kn, .int .i64 kx, .pointer ea] 224) := by
    have := P.LT
    dsimp only at this
    rw [HEA.out] at this
    exact this
  have HLD0 : Hid (LcB W A1 bD #[.int .i64 (dk : Nat), .int .i64 (da : Nat), .int .i64 (db : Nat), .int .i64 (dc : Nat), .int .i64 (dnx : Nat), .int .u64 (dn : Nat), sv dss, .int .i64 (dp : Nat)] 134) := P.LD
  have HT0 : Hid (m.th.tasks.length ≤ 900000 + 0) := hl
  have HV0 : Hid (m.th.vals.length ≤ 900000 + 0) := hvl
  have HXX := hid P.x
  have HBC := hid P.B.c
  have HVK : Hid (3 ≤ m.th.vals.length) := hv
  have HN0 : Hid (∀ v, m.topM 0 = v → v.n < 18446744073709551616) := fun v hv => by rw [← hv]; exact n0
  have HN2 : Hid (∀ v, m.topM 2 = v → v.n < 18446744073709551616) := fun v hv => by rw [← hv]; exact n2
  clear n0 n2 hv
  have HFU := hid hf
  clear hf
  clear P H hl hvl
  obtain ⟨c, hc⟩ : ∃ c, c = cTz (stC 16 (cI (stB Tryz.f77.body))) := ⟨_, rfl⟩
  rw [← hc]
  simp only [cTz, cE, cI, cR, stC, stB, Tryz.f77, Option.getD_some] at hc
  subst hc
  have t0 := HLT0.out.h.cell 0
  have t1 := HLT0.out.h.cell 1
  have t2 := HLT0.out.h.cell 2
  have t3 := HLT0.out.h.cell 3
  simp only [List.getElem?_toArray, List.getElem?_cons_succ, List.getElem?_cons_zero] at t0 t1 t2 t3
  have lT := HLT0.out.h.lt
  have d0 := HLD0.out.h.cell 0
  have d1 := HLD0.out.h.cell 1
  have d2 := HLD0.out.h.cell 2
  have d3 := HLD0.out.h.cell 3
  have d4 := HLD0.out.h.cell 4
  have d5 := HLD0.out.h.cell 5
  have d6 := HLD0.out.h.cell 6
  have d7 := HLD0.out.h.cell 7
  simp only [List.getElem?_toArray, List.getElem?_cons_succ, List.getElem?_cons_zero] at d0 d1 d2 d3 d4 d5 d6 d7
  have lD := HLD0.out.h.lt
  obtain ⟨cc0, cc1, lcc⟩ := HB0.out.c0
  obtain ⟨g, cp, c4, lc4, lg, lxb, CV⟩ := HB0.out.tops HXX.out (by have := HVK.out; omega)
  obtain ⟨n, HNV⟩ : ∃ n, Hid (m.th.vals.length = n + 3) := ⟨m.th.vals.length - 3, by show _ = _; have := HVK.out; omega⟩
  obtain ⟨⟨vt, vn, vs⟩, HXv⟩ : ∃ v, Hid (m.topM 0 = v) := ⟨_, rfl⟩
  have D := CV (n + 2) (by rw [HNV.out]; omega)
  have ej : m.th.vals.getD (n + 2) nilV = ⟨vt, vn, vs⟩ := by rw [← HXv.out]; unfold MD.topM; rw [HNV.out]; congr 1
  rw [ej] at D
  dsimp only at D
  obtain ⟨zv0, zv1, zv2⟩ := D
  clear ej
  obtain ⟨⟨ut, un, us⟩, HXu⟩ : ∃ v, Hid (m.topM 1 = v) := ⟨_, rfl⟩
  have D := CV (n + 1) (by rw [HNV.out]; omega)
  have ej : m.th.vals.getD (n + 1) nilV = ⟨ut, un, us⟩ := by rw [← HXu.out]; unfold MD.topM; rw [HNV.out]; congr 1
  rw [ej] at D
  dsimp only at D
  obtain ⟨zu0, zu1, zu2⟩ := D
  clear ej
  obtain ⟨⟨tt, tn, ts⟩, HXt⟩ : ∃ v, Hid (m.topM 2 = v) := ⟨_, rfl⟩
  have D := CV (n) (by rw [HNV.out]; omega)
  have ej : m.th.vals.getD (n) nilV = ⟨tt, tn, ts⟩ := by rw [← HXt.out]; unfold MD.topM; rw [HNV.out]; congr 1
  rw [ej] at D
  dsimp only at D
  obtain ⟨zt0, zt1, zt2⟩ := D
  clear ej
  rw [HNV.out] at c4 lc4
  have hnb : n ≤ 900010 := by have := HV0.out; rw [HNV.out] at this; omega
  clear CV
  have ei1 : (n : Int) + 3 - 1 = (n : Int) + 2 := by omega
  have ei2 : (n : Int) + 3 - 2 = (n : Int) + 1 := by omega
  have ei3 : (n : Int) + 3 - 3 = (n : Int) := by omega
  have hpos : (0 : Int) < (n : Int) + 3 := by omega
  obtain ⟨y, HY⟩ : ∃ y, Hid (arithN 1 tn vn = y) := ⟨_, rfl⟩
  have CA : Hid (∀ W2, Calls Tryz.prog 123 #[.pointer (some ⟨A.bn, 0, none⟩), .int .i64 1, .int .u64 tn, .int .u64 vn] W2 fun e w' => e = .returned (.int .u64 y) ∧ w' = W2) := fun W2 => by
    rw [← HY.out]
    exact arith_m (op := 1) (by decide) (by decide) (HN2.out _ HXt.out) (HN0.out _ HXv.out)
  obtain ⟨fz, AS, BS, SS⟩ := HB0.out.setVn HXX.out c4 (i := n) (by rw [HNV.out]; omega) y
  have em : m.th.vals.getD n nilV = ⟨tt, tn, ts⟩ := by rw [← HXt.out]; unfold MD.topM; rw [HNV.out]; congr 1
  rw [em] at BS
  have HM1X : Hid ((m.upT fun t => { t with vals := t.vals.set (m.th.vals.length - 3) { m.topM 2 with n := arithN 1 (m.topM 2).n (m.topM 0).n } }) = (m.upT fun t => { t with vals := t.vals.set n { (⟨tt, tn, ts⟩ : Vl) with n := y } })) := by
    show _ = _
    have h : m.th.vals.length - 3 = n := by rw [HNV.out]; omega
    rw [HXt.out, HXv.out, h]
    dsimp only
    rw [HY.out]
  rw [← HM1X.out] at BS
  obtain ⟨M1, HM1⟩ : ∃ M1, Hid ((m.upT fun t => { t with vals := t.vals.set (m.th.vals.length - 3) { m.topM 2 with n := arithN 1 (m.topM 2).n (m.topM 0).n } }) = M1) := ⟨_, rfl⟩
  have hT1 : M1.th.tasks.length ≤ 900000 := by
    rw [← HM1.out, upT_th HBC.out]
    exact HT0.out
  have hV1 : M1.th.vals.length ≤ 900000 := by
    rw [← HM1.out, upT_th HBC.out]
    show (m.th.vals.set _ _).length ≤ _
    rw [List.length_set]
    exact HV0.out
  have hF1 : M1.fuel = m.fuel := by rw [← HM1.out]; rfl
  have HFU1 := hid (hF1.trans HFU.out)
  rw [HM1.out] at BS
  have FD : Fr (fun _ => False) (W.setCell ⟨g, n * 3 + 1, none⟩ (.int .u64 y)) (W.setCell ⟨g, n * 3 + 1, none⟩ (.int .u64 y)).drew := (Fr.refl _ _).drew
  have HB1 := hid (BS.fresh FD)
  have HLT1 := hid ((HLT0.out.st SS).fr FD)
  have HLD1 := hid ((HLD0.out.st SS).fr FD)
  have HT1 : Hid (M1.th.tasks.length ≤ 900000 + 1) := Nat.le_trans hT1 (by decide)
  have HV1 : Hid (M1.th.vals.length ≤ 900000 + 1) := Nat.le_trans hV1 (by decide)
  clear BS SS FD em hT1 hV1 hF1
  go_wp2_with fail
  refine wp_region_head 28 1 (fun y => y = W.drew) (by kernel_rfl) (by kernel_rfl) (fun _ _ _ _ _ h => h) rfl ?_
  simp only [List.take_succ_cons, List.take_zero, List.drop_succ_cons, List.drop_zero]
  repeat go_big_quiet_step (fail)
  refine wpQuiet_nil ?_
  unfold wpChain
  go_wp2_with fail
  refine (CA.out _).mono ?_
  rintro e20 w20 ⟨rfl, rfl⟩
  go_wp2_with fail
  refine ⟨trivial, ?_⟩
  rw [wpChain_zero]
  clear CA
  have CC := mburn_no HB1.out.r HFU1.out
  rw [HB1.out.s.br] at CC
  have HCC := hid CC
  clear CC
  go_wp2_with fail
  refine HCC.out.mono ?_
  rintro e9 w2 ⟨rfl, A12, q1, q2⟩
  clear t0 t1 t2 t3 lT d0 d1 d2 d3 d4 d5 d6 d7 lD cc0 cc1 lcc c4 lc4 lg lxb zv0 zv1 zv2 zu0 zu1 zu2 zt0 zt1 zt2 ei1 ei2 ei3 hpos hnb
  have FIN : Hid (Q (.returned (.tuple #[])) w2) := by
    show Q _ _
    rw [← HQ.out, HM1.out]
    exact ⟨rfl, A12, q1, HB1.out.s.trans q2⟩
  clear q1 q2 HCC fz
  go_wp2
  go_end0
  exact FIN.out
end
end Go.Proofs.Qxb6500574aGreatDoor
