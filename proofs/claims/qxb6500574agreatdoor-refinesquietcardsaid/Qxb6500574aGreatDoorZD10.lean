/-
  THE WALKS of compm: step: the round of a numeric for.
-/
import Derived.Test.Qxb6500574aGreatDoorZD9
namespace Go.Proofs.Qxb6500574aGreatDoor
open Go Go.RowKit
set_option linter.unusedVariables false
set_option linter.unusedSimpArgs false
section
variable {w W W1 : World} {A A1 A2 : RnP} {N : List Nd} {root : Nat} {M m : MD} {k : TkD} {r : List TkD} {d : Nd} {bT bD xb : Nat} {a : Act}
set_option maxRecDepth 100000
set_option maxHeartbeats 2000000
/-- the values are cut -/
theorem RB.cuts (B : RB w A N root W A1 m) (hx : ∃ x, A1.X[m.cur]? = some x ∧ x.b = xb) {g c L : Nat} (h4 : W.cell? ⟨xb, 4, none⟩ = some (.slice (some ⟨g, 0, none⟩) L c)) :
    W.frozen? ⟨xb, 4, none⟩ = false ∧ ∀ n, n ≤ m.th.vals.length → ∃ A', MRep (W.setCell ⟨xb, 4, none⟩ (.slice (some ⟨g, 0, none⟩) n c)) A' N root { m with ths := m.ths.set m.cur { m.th with vals := m.th.vals.take n } } ∧ MSt W A1 (W.setCell ⟨xb, 4, none⟩ (.slice (some ⟨g, 0, none⟩) n c)) A' := by
  obtain ⟨x, hx, rfl⟩ := hx
  have O := B.r.one _ _ _ (th_cur B.c) hx
  have c4 := O.b.has.cell 4
  simp only [thV, List.getElem?_toArray, List.getElem?_cons_succ, List.getElem?_cons_zero, Sl.v] at c4
  rw [h4] at c4
  injection c4 with c4
  injection c4 with e1 e2 e3
  refine ⟨O.b.has.frozen 4, fun n hn => ?_⟩
  obtain ⟨A', s1, s2, _⟩ := B.r.cutV (th_cur B.c) hx n hn
  rw [← e1, ← e3] at s1 s2
  exact ⟨A', s1, s2⟩
theorem st16a (P : StZ w A N root W A1 m bT bD xb k d) (hk : k.k = 16) (H : FrZs (.pointer (some ⟨A.br, 0, none⟩)) (.pointer (some ⟨xb, 0, none⟩)) (.pointer (some ⟨bT, 0, none⟩)) (.pointer (some ⟨bD, 0, none⟩)) (.int .i64 k.k) a) (hl : m.th.tasks.length ≤ 900000) (hvl : m.th.vals.length ≤ 900000) (hv : 3 ≤ m.th.vals.length) (n0 : (m.topM 0).n < 18446744073709551616) (n1 : (m.topM 1).n < 18446744073709551616) (n2 : (m.topM 2).n < 18446744073709551616) (c5 : cmpN 5 (m.topM 0).n 0 = true) (cr : cmpN 4 (m.topM 2).n (m.topM 1).n = true) (RO : RefOk (m.todo [⟨17, k.n, 0, k.e⟩])) :
    (cTz (stC 15 (cI (stB Tryz.f77.body)))).wp Tryz.prog (Exit.inBlock 0 (bodyPost Tryz.prog Tryz.f77 (PQm w A N root ({ m.todo [⟨1, d.b, 0, some m.envs.length⟩, ⟨17, k.n, 0, k.e⟩] with envs := m.envs ++ [⟨d.s, m.topM 2, k.e⟩] })))) a W := by
  obtain ⟨u, rfl⟩ := H.form
  obtain ⟨kk, kn, kx, ke⟩ := k
  obtain ⟨dk, da, db, dc, dnx, dn, dss, dp⟩ := d
  dsimp only at hk RO
  subst hk
  obtain ⟨Q, HQ⟩ : ∃ Q : Ending → World → Prop, Hid (PQm w A N root ({ m.todo [⟨1, db, 0, some m.envs.length⟩, ⟨17, kn, 0, ke⟩] with envs := m.envs ++ [⟨dss, m.topM 2, ke⟩] }) = Q) := ⟨_, rfl⟩
  dsimp only at HQ ⊢
  rw [HQ.out]
  obtain ⟨ea, HEA⟩ : ∃ ea, Hid (eAd A.E ke = ea) := ⟨_, rfl⟩
  have HE : Hid (∀ i, ke = some i → i < A.E.length) := P.he
  have HB0 := hid P.B
  have HLT0 : Hid (LcB W A1 bT #[.int .i64 (16 : Nat), .int .i64 kn, .int .i64 kx, .pointer ea] 224) := by
    have := P.LT
    dsimp only at this
    rw [HEA.out] at this
    exact this
  have HLD0 : Hid (LcB W A1 bD #[.int .i64 (dk : Nat), .int .i64 (da : Nat), .int .i64 (db : Nat), .int .i64 (dc : Nat), .int .i64 (dnx : Nat), .int .u64 (dn : Nat), sv dss, .int .i64 (dp : Nat)] 134) := P.LD
  have HT0 : Hid (m.th.tasks.length ≤ 900000 + 0) := hl
  have HV0 : Hid (m.th.vals.length ≤ 900000 + 0) := hvl
  have HXX := hid P.x
  have HBC := hid P.B.c
  have HZ : Hid ({ m.todo [⟨1, db, 0, some m.envs.length⟩, ⟨17, kn, 0, ke⟩] with envs := m.envs ++ [⟨dss, m.topM 2, ke⟩] } = (({ m.todo [⟨17, kn, 0, ke⟩] with envs := (m.todo [⟨17, kn, 0, ke⟩]).envs ++ [⟨dss, m.topM 2, ke⟩] } : MD).todo [⟨1, db, 0, some (m.todo [⟨17, kn, 0, ke⟩]).envs.length⟩])) := by
    show _ = _
    exact (todo_todo (m := { m with envs := m.envs ++ [⟨dss, m.topM 2, ke⟩] }) HBC.out [⟨17, kn, 0, ke⟩] [⟨1, db, 0, some m.envs.length⟩]).symm
  have HVK : Hid (3 ≤ m.th.vals.length) := hv
  have HN0 : Hid (∀ v, m.topM 0 = v → v.n < 18446744073709551616) := fun v hv => by rw [← hv]; exact n0
  have HN1 : Hid (∀ v, m.topM 1 = v → v.n < 18446744073709551616) := fun v hv => by rw [← hv]; exact n1
  have HN2 : Hid (∀ v, m.topM 2 = v → v.n < 18446744073709551616) := fun v hv => by rw [← hv]; exact n2
  have HC5 := hid c5
  have HCR := hid cr
  clear n0 n1 n2 c5 cr hv
  have RO2 := hid RO
  clear RO
  clear P H hl hvl
  obtain ⟨c, hc⟩ : ∃ c, c = cTz (stC 15 (cI (stB Tryz.f77.body))) := ⟨_, rfl⟩
  rw [← hc]
  simp only [cTz, cE, cI, cR, stC, stB, Tryz.f77, Option.getD_some] at hc
  subst hc
  have t0 := HLT0.out.h.cell 0
  have t1 := HLT0.out.h.cell 1
  have t2 := HLT0.out.h.cell 2
  have t3 := HLT0.out.h.cell 3
  simp only [List.getElem?_toArray, List.getElem?_cons_succ, List.getElem?_cons_zero] at t0 t1 t2 t3
  have lT := HLT0.out.h.lt
  have d0 := HLD0.out.h.cell 0
  have d1 := HLD0.out.h.cell 1
  have d2 := HLD0.out.h.cell 2
  have d3 := HLD0.out.h.cell 3
  have d4 := HLD0.out.h.cell 4
  have d5 := HLD0.out.h.cell 5
  have d6 := HLD0.out.h.cell 6
  have d7 := HLD0.out.h.cell 7
  simp only [List.getElem?_toArray, List.getElem?_cons_succ, List.getElem?_cons_zero] at d0 d1 d2 d3 d4 d5 d6 d7
  have lD := HLD0.out.h.lt
  obtain ⟨cc0, cc1, lcc⟩ := HB0.out.c0
  obtain ⟨g, cp, c4, lc4, lg, lxb, CV⟩ := HB0.out.tops HXX.out (by have := HVK.out; omega)
  obtain ⟨n, HNV⟩ : ∃ n, Hid (m.th.vals.length = n + 3) := ⟨m.th.vals.length - 3, by show _ = _; have := HVK.out; omega⟩
  obtain ⟨⟨vt, vn, vs⟩, HXv⟩ : ∃ v, Hid (m.topM 0 = v) := ⟨_, rfl⟩
  have D := CV (n + 2) (by rw [HNV.out]; omega)
  have ej : m.th.vals.getD (n + 2) nilV = ⟨vt, vn, vs⟩ := by rw [← HXv.out]; unfold MD.topM; rw [HNV.out]; congr 1
  rw [ej] at D
  dsimp only at D
  obtain ⟨zv0, zv1, zv2⟩ := D
  clear ej
  obtain ⟨⟨ut, un, us⟩, HXu⟩ : ∃ v, Hid (m.topM 1 = v) := ⟨_, rfl⟩
  have D := CV (n + 1) (by rw [HNV.out]; omega)
  have ej : m.th.vals.getD (n + 1) nilV = ⟨ut, un, us⟩ := by rw [← HXu.out]; unfold MD.topM; rw [HNV.out]; congr 1
  rw [ej] at D
  dsimp only at D
  obtain ⟨zu0, zu1, zu2⟩ := D
  clear ej
  obtain ⟨⟨tt, tn, ts⟩, HXt⟩ : ∃ v, Hid (m.topM 2 = v) := ⟨_, rfl⟩
  have D := CV (n) (by rw [HNV.out]; omega)
  have ej : m.th.vals.getD (n) nilV = ⟨tt, tn, ts⟩ := by rw [← HXt.out]; unfold MD.topM; rw [HNV.out]; congr 1
  rw [ej] at D
  dsimp only at D
  obtain ⟨zt0, zt1, zt2⟩ := D
  clear ej
  rw [HNV.out] at c4 lc4
  have hnb : n ≤ 900010 := by have := HV0.out; rw [HNV.out] at this; omega
  clear CV
  have ei1 : (n : Int) + 3 - 1 = (n : Int) + 2 := by omega
  have ei2 : (n : Int) + 3 - 2 = (n : Int) + 1 := by omega
  have ei3 : (n : Int) + 3 - 3 = (n : Int) := by omega
  have hpos : (0 : Int) < (n : Int) + 3 := by omega
  have CQ5 : Hid (∀ W2, Calls Tryz.prog 122 #[.pointer (some ⟨A.bn, 0, none⟩), .int .i64 5, .int .u64 vn, .int .u64 0] W2 fun e w' => e = .returned (.bool true) ∧ w' = W2) := fun W2 => HB0.out.cmp (op := 5) (c := 0) (by decide) (by decide) (HN0.out _ HXv.out) (by decide) (by have := HC5.out; rw [HXv.out] at this; exact this) rfl rfl W2
  have CQR : Hid (∀ W2, Calls Tryz.prog 122 #[.pointer (some ⟨A.bn, 0, none⟩), .int .i64 4, .int .u64 tn, .int .u64 un] W2 fun e w' => e = .returned (.bool true) ∧ w' = W2) := fun W2 => HB0.out.cmp (op := 4) (by decide) (by decide) (HN2.out _ HXt.out) (HN1.out _ HXu.out) (by have := HCR.out; rw [HXt.out, HXu.out] at this; exact this) rfl rfl W2
  go_wp2_with fail
  refine wp_region_tail 13 (by kernel_rfl) (by kernel_rfl) (fun _ _ _ _ _ h => h) ?_
  simp only [List.take_succ_cons, List.take_zero, List.drop_succ_cons, List.drop_zero]
  repeat go_big_quiet_step (fail)
  refine wpQuiet_nil ?_
  go_wp2_with fail
  refine (CQ5.out _).mono ?_
  rintro e21 w21 ⟨rfl, hw21⟩
  rw [hw21]
  clear hw21 CQ5
  go_wp2_with fail
  refine wp_region_tail 22 (by kernel_rfl) (by kernel_rfl) (fun _ _ _ _ _ h => h) ?_
  simp only [List.take_succ_cons, List.take_zero, List.drop_succ_cons, List.drop_zero]
  repeat go_big_quiet_step (fail)
  refine wpQuiet_nil ?_
  go_wp2_with fail
  refine (CQR.out _).mono ?_
  rintro e22 w22 ⟨rfl, hw22⟩
  rw [hw22]
  clear hw22 CQR
  have HB1 := hid (HB0.out.fresh (((Fr.refl _ _).drew).drew))
  have HLT1 := hid (HLT0.out.fr (((Fr.refl _ _).drew).drew))
  have HLD1 := hid (HLD0.out.fr (((Fr.refl _ _).drew).drew))
  have HT1 : Hid (m.th.tasks.length ≤ 900000 + 1) := by show _ ≤ _; have := HT0.out; omega
  have HV1 : Hid (m.th.vals.length ≤ 900000 + 1) := by show _ ≤ _; have := HV0.out; omega
  have HXX1 := hid (RB.x1 HXX.out (MSt.fresh A1 (((Fr.refl (fun _ => False) W).drew).drew)))
  have CC := HB1.out.todo (by have := HT1.out; omega) 17 kn 0 ke HE.out (k' := 17) (n' := (kn : Nat)) (x' := 0) rfl rfl rfl
  rw [HEA.out] at CC
  have HCC := hid CC
  clear CC
  go_wp2_with fail
  refine HCC.out.mono ?_
  rintro e10 w2 ⟨rfl, A12, BB, SS⟩
  clear t0 t1 t2 t3 lT d0 d1 d2 d3 d4 d5 d6 d7 lD cc0 cc1 lcc c4 lc4 lg lxb zv0 zv1 zv2 zu0 zu1 zu2 zt0 zt1 zt2 ei1 ei2 ei3 hpos hnb
  clear HCC
  have HB2 := hid BB
  have HLT2 := hid (HLT1.out.st SS)
  have HLD2 := hid (HLD1.out.st SS)
  have HS2 := hid SS
  clear BB SS
  have HT2 : Hid ((m.todo [⟨17, kn, 0, ke⟩]).th.tasks.length ≤ 900000 + 2) := by
    show _ ≤ _
    rw [th_todo HB1.out.c]
    have := HT1.out
    simp
    omega
  have HV2 : Hid ((m.todo [⟨17, kn, 0, ke⟩]).th.vals.length ≤ 900000 + 2) := by
    show _ ≤ _
    rw [th_todo HB1.out.c]
    have := HV1.out
    simp
    omega
  have t0 := HLT2.out.h.cell 0
  have t1 := HLT2.out.h.cell 1
  have t2 := HLT2.out.h.cell 2
  have t3 := HLT2.out.h.cell 3
  simp only [List.getElem?_toArray, List.getElem?_cons_succ, List.getElem?_cons_zero] at t0 t1 t2 t3
  have lT := HLT2.out.h.lt
  have d0 := HLD2.out.h.cell 0
  have d1 := HLD2.out.h.cell 1
  have d2 := HLD2.out.h.cell 2
  have d3 := HLD2.out.h.cell 3
  have d4 := HLD2.out.h.cell 4
  have d5 := HLD2.out.h.cell 5
  have d6 := HLD2.out.h.cell 6
  have d7 := HLD2.out.h.cell 7
  simp only [List.getElem?_toArray, List.getElem?_cons_succ, List.getElem?_cons_zero] at d0 d1 d2 d3 d4 d5 d6 d7
  have lD := HLD2.out.h.lt
  obtain ⟨cc0, cc1, lcc⟩ := HB2.out.c0
  have HXX2 := hid (RB.x1 HXX1.out HS2.out)
  have hlen : (m.todo [⟨17, kn, 0, ke⟩]).th.vals.length = n + 3 := by rw [th_todo HBC.out]; exact HNV.out
  obtain ⟨g2, cp2, c4, lc4, lg, lxb, CV⟩ := HB2.out.tops HXX2.out (by rw [hlen]; omega)
  have D := CV n (by rw [hlen]; omega)
  have ej : (m.todo [⟨17, kn, 0, ke⟩]).th.vals.getD n nilV = ⟨tt, tn, ts⟩ := by rw [th_todo HBC.out, ← HXt.out]; unfold MD.topM; rw [HNV.out]; congr 1
  rw [ej] at D
  dsimp only at D
  obtain ⟨z0, z1, z2⟩ := D
  rw [hlen] at c4 lc4
  have hnb : n ≤ 900010 := by have := HV0.out; rw [HNV.out] at this; omega
  have ei3 : (n : Int) + 3 - 3 = n := by omega
  have hpos : (0 : Int) < (n : Int) + 3 := by omega
  have k0 := fun z : WS w2 => z.f.cell d2
  have k1 := fun z : WS w2 => z.f.cell d6
  have k2 := fun z : WS w2 => z.f.cell c4
  have k3 := fun z : WS w2 => z.f.cell z0
  have k4 := fun z : WS w2 => z.f.cell z1
  have k5 := fun z : WS w2 => z.f.cell z2
  have k6 := fun z : WS w2 => z.f.cell t3
  have NE := WS.non w2
  clear CV ej hlen
  obtain ⟨AE2, BE2, SE2, hE2⟩ := HB2.out.newEnv RO2.out ⟨dss, ⟨tt, tn, ts⟩, ke⟩ (HB2.out.eIn HE.out)
  have e9 : enV A12.E ⟨dss, ⟨tt, tn, ts⟩, ke⟩ = #[sv dss, .int .i64 tt, .int .u64 tn, sv ts, .pointer ea] := by
    unfold enV ePtr
    dsimp only
    rw [HB2.out.eN HE.out, HEA.out]
  rw [e9] at BE2 SE2
  have HP3 : Hid (eAd AE2.E (some (m.todo [⟨17, kn, 0, ke⟩]).envs.length) = some ⟨w2.heap.size, 0, none⟩) := by
    show _ = _
    exact hE2
  have HB3 := hid BE2
  have HLT3 := hid (HLT2.out.st SE2)
  have HLD3 := hid (HLD2.out.st SE2)
  have HT3 : Hid (({ (m.todo [⟨17, kn, 0, ke⟩]) with envs := (m.todo [⟨17, kn, 0, ke⟩]).envs ++ [⟨dss, ⟨tt, tn, ts⟩, ke⟩] } : MD).th.tasks.length ≤ 900000 + 3) := by show (m.todo [⟨17, kn, 0, ke⟩]).th.tasks.length ≤ _; have := HT2.out; omega
  have HV3 : Hid (({ (m.todo [⟨17, kn, 0, ke⟩]) with envs := (m.todo [⟨17, kn, 0, ke⟩]).envs ++ [⟨dss, ⟨tt, tn, ts⟩, ke⟩] } : MD).th.vals.length ≤ 900000 + 3) := by show (m.todo [⟨17, kn, 0, ke⟩]).th.vals.length ≤ _; have := HV2.out; omega
  clear BE2 SE2 hE2 e9
  have HB4 := hid HB3.out.drew
  have HLT4 := hid (HLT3.out.fr ((Fr.refl _ _).drew))
  have HLD4 := hid (HLD3.out.fr ((Fr.refl _ _).drew))
  have HT4 : Hid (({ (m.todo [⟨17, kn, 0, ke⟩]) with envs := (m.todo [⟨17, kn, 0, ke⟩]).envs ++ [⟨dss, ⟨tt, tn, ts⟩, ke⟩] } : MD).th.tasks.length ≤ 900000 + 4) := Nat.le_trans HT3.out (by decide)
  have HV4 : Hid (({ (m.todo [⟨17, kn, 0, ke⟩]) with envs := (m.todo [⟨17, kn, 0, ke⟩]).envs ++ [⟨dss, ⟨tt, tn, ts⟩, ke⟩] } : MD).th.vals.length ≤ 900000 + 4) := Nat.le_trans HV3.out (by decide)
  have HCC := hid (HB4.out.todoC (Nat.le_trans HT4.out (by decide)) 1 db 0 (some (m.todo [⟨17, kn, 0, ke⟩]).envs.length) HP3.out (k' := 1) (n' := (db : Nat)) (x' := 0) rfl rfl rfl)
  go_wp2_with fail
  refine wp_region_head 16 1 (fun y => ∃ s : WS w2, y = s.y) (by kernel_rfl) (by kernel_rfl) (fun _ _ _ _ _ h => h) ⟨⟨w2.drew, (Fr.refl _ _).drew⟩, rfl⟩ ?_
  simp only [List.take_succ_cons, List.take_zero, List.drop_succ_cons, List.drop_zero]
  repeat go_big_quiet_step (fail)
  refine wpQuiet_nil ?_
  unfold wpChain
  go_wp2_with fail
  refine ⟨⟨⟨_, ((Fr.refl _ _).alloc _).drew⟩, rfl⟩, ?_⟩
  rw [wpChain_zero]
  go_wp2_with fail
  refine HCC.out.mono ?_
  rintro e13 w5 ⟨rfl, A15, BB, SS⟩
  clear t0 t1 t2 t3 lT d0 d1 d2 d3 d4 d5 d6 d7 lD cc0 cc1 lcc k0 k1 k2 k3 k4 k5 k6 NE c4 lc4 lg lxb z0 z1 z2 hnb ei3 hpos
  clear HCC
  have HB5 := hid BB
  have HLT5 := hid (HLT4.out.st SS)
  have HLD5 := hid (HLD4.out.st SS)
  have HS5 := hid SS
  clear BB SS
  have HT5 : Hid ((({ (m.todo [⟨17, kn, 0, ke⟩]) with envs := (m.todo [⟨17, kn, 0, ke⟩]).envs ++ [⟨dss, ⟨tt, tn, ts⟩, ke⟩] } : MD).todo [⟨1, db, 0, (some (m.todo [⟨17, kn, 0, ke⟩]).envs.length)⟩]).th.tasks.length ≤ 900000 + 5) := by
    show _ ≤ _
    rw [th_todo HB4.out.c]
    have := HT4.out
    simp
    omega
  have HV5 : Hid ((({ (m.todo [⟨17, kn, 0, ke⟩]) with envs := (m.todo [⟨17, kn, 0, ke⟩]).envs ++ [⟨dss, ⟨tt, tn, ts⟩, ke⟩] } : MD).todo [⟨1, db, 0, (some (m.todo [⟨17, kn, 0, ke⟩]).envs.length)⟩]).th.vals.length ≤ 900000 + 5) := by
    show _ ≤ _
    rw [th_todo HB4.out.c]
    have := HV4.out
    simp
    omega
  have FIN : Hid (Q (.returned (.tuple #[])) w5) := by
    show Q _ _
    rw [← HQ.out, HZ.out, HXt.out]
    exact HB5.out.end
  go_wp2
  go_end0
  exact FIN.out
theorem st16b (P : StZ w A N root W A1 m bT bD xb k d) (hk : k.k = 16) (H : FrZs (.pointer (some ⟨A.br, 0, none⟩)) (.pointer (some ⟨xb, 0, none⟩)) (.pointer (some ⟨bT, 0, none⟩)) (.pointer (some ⟨bD, 0, none⟩)) (.int .i64 k.k) a) (hl : m.th.tasks.length ≤ 900000) (hvl : m.th.vals.length ≤ 900000) (hv : 3 ≤ m.th.vals.length) (n0 : (m.topM 0).n < 18446744073709551616) (n1 : (m.topM 1).n < 18446744073709551616) (n2 : (m.topM 2).n < 18446744073709551616) (c5 : cmpN 5 (m.topM 0).n 0 = false) (cr : cmpN 6 (m.topM 2).n (m.topM 1).n = true) (RO : RefOk (m.todo [⟨17, k.n, 0, k.e⟩])) :
    (cTz (stC 15 (cI (stB Tryz.f77.body)))).wp Tryz.prog (Exit.inBlock 0 (bodyPost Tryz.prog Tryz.f77 (PQm w A N root ({ m.todo [⟨1, d.b, 0, some m.envs.length⟩, ⟨17, k.n, 0, k.e⟩] with envs := m.envs ++ [⟨d.s, m.topM 2, k.e⟩] })))) a W := by
  obtain ⟨u, rfl⟩ := H.form
  obtain ⟨kk, kn, kx, ke⟩ := k
  obtain ⟨dk, da, db, dc, dnx, dn, dss, dp⟩ := d
  dsimp only at hk RO
  subst hk
  obtain ⟨Q, HQ⟩ : ∃ Q : Ending → World → Prop, Hid (PQm w A N root ({ m.todo [⟨1, db, 0, some m.envs.length⟩, ⟨17, kn, 0, ke⟩] with envs := m.envs ++ [⟨dss, m.topM 2, ke⟩] }) = Q) := ⟨_, rfl⟩
  dsimp only at HQ ⊢
  rw [HQ.out]
  obtain ⟨ea, HEA⟩ : ∃ ea, Hid (eAd A.E ke = ea) := ⟨_, rfl⟩
  have HE : Hid (∀ i, ke = some i → i < A.E.length) := P.he
  have HB0 := hid P.B
  have HLT0 : Hid (LcB W A1 bT #[.int .i64 (16 : Nat), .int .i64 kn, .int .i64 kx, .pointer ea] 224) := by
    have := P.LT
    dsimp only at this
    rw [HEA.out] at this
    exact this
  have HLD0 : Hid (LcB W A1 bD #[.int .i64 (dk : Nat), .int .i64 (da : Nat), .int .i64 (db : Nat), .int .i64 (dc : Nat), .int .i64 (dnx : Nat), .int .u64 (dn : Nat), sv dss, .int .i64 (dp : Nat)] 134) := P.LD
  have HT0 : Hid (m.th.tasks.length ≤ 900000 + 0) := hl
  have HV0 : Hid (m.th.vals.length ≤ 900000 + 0) := hvl
  have HXX := hid P.x
  have HBC := hid P.B.c
  have HZ : Hid ({ m.todo [⟨1, db, 0, some m.envs.length⟩, ⟨17, kn, 0, ke⟩] with envs := m.envs ++ [⟨dss, m.topM 2, ke⟩] } = (({ m.todo [⟨17, kn, 0, ke⟩] with envs := (m.todo [⟨17, kn, 0, ke⟩]).envs ++ [⟨dss, m.topM 2, ke⟩] } : MD).todo [⟨1, db, 0, some (m.todo [⟨17, kn, 0, ke⟩]).envs.length⟩])) := by
    show _ = _
    exact (todo_todo (m := { m with envs := m.envs ++ [⟨dss, m.topM 2, ke⟩] }) HBC.out [⟨17, kn, 0, ke⟩] [⟨1, db, 0, some m.envs.length⟩]).symm
  have HVK : Hid (3 ≤ m.th.vals.length) := hv
  have HN0 : Hid (∀ v, m.topM 0 = v → v.n < 18446744073709551616) := fun v hv => by rw [← hv]; exact n0
  have HN1 : Hid (∀ v, m.topM 1 = v → v.n < 18446744073709551616) := fun v hv => by rw [← hv]; exact n1
  have HN2 : Hid (∀ v, m.topM 2 = v → v.n < 18446744073709551616) := fun v hv => by rw [← hv]; exact n2
  have HC5 := hid c5
  have HCR := hid cr
  clear n0 n1 n2 c5 cr hv
  have RO2 := hid RO
  clear RO
  clear P H hl hvl
  obtain ⟨c, hc⟩ : ∃ c, c = cTz (stC 15 (cI (stB Tryz.f77.body))) := ⟨_, rfl⟩
  rw [← hc]
  simp only [cTz, cE, cI, cR, stC, stB, Tryz.f77, Option.getD_some] at hc
  subst hc
  have t0 := HLT0.out.h.cell 0
  have t1 := HLT0.out.h.cell 1
  have t2 := HLT0.out.h.cell 2
  have t3 := HLT0.out.h.cell 3
  simp only [List.getElem?_toArray, List.getElem?_cons_succ, List.getElem?_cons_zero] at t0 t1 t2 t3
  have lT := HLT0.out.h.lt
  have d0 := HLD0.out.h.cell 0
  have d1 := HLD0.out.h.cell 1
  have d2 := HLD0.out.h.cell 2
  have d3 := HLD0.out.h.cell 3
  have d4 := HLD0.out.h.cell 4
  have d5 := HLD0.out.h.cell 5
  have d6 := HLD0.out.h.cell 6
  have d7 := HLD0.out.h.cell 7
  simp only [List.getElem?_toArray, List.getElem?_cons_succ, List.getElem?_cons_zero] at d0 d1 d2 d3 d4 d5 d6 d7
  have lD := HLD0.out.h.lt
  obtain ⟨cc0, cc1, lcc⟩ := HB0.out.c0
  obtain ⟨g, cp, c4, lc4, lg, lxb, CV⟩ := HB0.out.tops HXX.out (by have := HVK.out; omega)
  obtain ⟨n, HNV⟩ : ∃ n, Hid (m.th.vals.length = n + 3) := ⟨m.th.vals.length - 3, by show _ = _; have := HVK.out; omega⟩
  obtain ⟨⟨vt, vn, vs⟩, HXv⟩ : ∃ v, Hid (m.topM 0 = v) := ⟨_, rfl⟩
  have D := CV (n + 2) (by rw [HNV.out]; omega)
  have ej : m.th.vals.getD (n + 2) nilV = ⟨vt, vn, vs⟩ := by rw [← HXv.out]; unfold MD.topM; rw [HNV.out]; congr 1
  rw [ej] at D
  dsimp only at D
  obtain ⟨zv0, zv1, zv2⟩ := D
  clear ej
  obtain ⟨⟨ut, un, us⟩, HXu⟩ : ∃ v, Hid (m.topM 1 = v) := ⟨_, rfl⟩
  have D := CV (n + 1) (by rw [HNV.out]; omega)
  have ej : m.th.vals.getD (n + 1) nilV = ⟨ut, un, us⟩ := by rw [← HXu.out]; unfold MD.topM; rw [HNV.out]; congr 1
  rw [ej] at D
  dsimp only at D
  obtain ⟨zu0, zu1, zu2⟩ := D
  clear ej
  obtain ⟨⟨tt, tn, ts⟩, HXt⟩ : ∃ v, Hid (m.topM 2 = v) := ⟨_, rfl⟩
  have D := CV (n) (by rw [HNV.out]; omega)
  have ej : m.th.vals.getD (n) nilV = ⟨tt, tn, ts⟩ := by rw [← HXt.out]; unfold MD.topM; rw [HNV.out]; congr 1
  rw [ej] at D
  dsimp only at D
  obtain ⟨zt0, zt1, zt2⟩ := D
  clear ej
  rw [HNV.out] at c4 lc4
  have hnb : n ≤ 900010 := by have := HV0.out; rw [HNV.out] at this; omega
  clear CV
  have ei1 : (n : Int) + 3 - 1 = (n : Int) + 2 := by omega
  have ei2 : (n : Int) + 3 - 2 = (n : Int) + 1 := by omega
  have ei3 : (n : Int) + 3 - 3 = (n : Int) := by omega
  have hpos : (0 : Int) < (n : Int) + 3 := by omega
  have CQ5 : Hid (∀ W2, Calls Tryz.prog 122 #[.pointer (some ⟨A.bn, 0, none⟩), .int .i64 5, .int .u64 vn, .int .u64 0] W2 fun e w' => e = .returned (.bool false) ∧ w' = W2) := fun W2 => HB0.out.cmp (op := 5) (c := 0) (by decide) (by decide) (HN0.out _ HXv.out) (by decide) (by have := HC5.out; rw [HXv.out] at this; exact this) rfl rfl W2
  have CQR : Hid (∀ W2, Calls Tryz.prog 122 #[.pointer (some ⟨A.bn, 0, none⟩), .int .i64 6, .int .u64 tn, .int .u64 un] W2 fun e w' => e = .returned (.bool true) ∧ w' = W2) := fun W2 => HB0.out.cmp (op := 6) (by decide) (by decide) (HN2.out _ HXt.out) (HN1.out _ HXu.out) (by have := HCR.out; rw [HXt.out, HXu.out] at this; exact this) rfl rfl W2
  go_wp2_with fail
  refine wp_region_tail 13 (by kernel_rfl) (by kernel_rfl) (fun _ _ _ _ _ h => h) ?_
  simp only [List.take_succ_cons, List.take_zero, List.drop_succ_cons, List.drop_zero]
  repeat go_big_quiet_step (fail)
  refine wpQuiet_nil ?_
  go_wp2_with fail
  refine (CQ5.out _).mono ?_
  rintro e21 w21 ⟨rfl, hw21⟩
  rw [hw21]
  clear hw21 CQ5
  go_wp2_with fail
  refine wp_region_tail 22 (by kernel_rfl) (by kernel_rfl) (fun _ _ _ _ _ h => h) ?_
  simp only [List.take_succ_cons, List.take_zero, List.drop_succ_cons, List.drop_zero]
  repeat go_big_quiet_step (fail)
  refine wpQuiet_nil ?_
  go_wp2_with fail
  refine (CQR.out _).mono ?_
  rintro e22 w22 ⟨rfl, hw22⟩
  rw [hw22]
  clear hw22 CQR
  have HB1 := hid (HB0.out.fresh (((Fr.refl _ _).drew).drew))
  have HLT1 := hid (HLT0.out.fr (((Fr.refl _ _).drew).drew))
  have HLD1 := hid (HLD0.out.fr (((Fr.refl _ _).drew).drew))
  have HT1 : Hid (m.th.tasks.length ≤ 900000 + 1) := by show _ ≤ _; have := HT0.out; omega
  have HV1 : Hid (m.th.vals.length ≤ 900000 + 1) := by show _ ≤ _; have := HV0.out; omega
  have HXX1 := hid (RB.x1 HXX.out (MSt.fresh A1 (((Fr.refl (fun _ => False) W).drew).drew)))
  have CC := HB1.out.todo (by have := HT1.out; omega) 17 kn 0 ke HE.out (k' := 17) (n' := (kn : Nat)) (x' := 0) rfl rfl rfl
  rw [HEA.out] at CC
  have HCC := hid CC
  clear CC
  go_wp2_with fail
  refine HCC.out.mono ?_
  rintro e10 w2 ⟨rfl, A12, BB, SS⟩
  clear t0 t1 t2 t3 lT d0 d1 d2 d3 d4 d5 d6 d7 lD cc0 cc1 lcc c4 lc4 lg lxb zv0 zv1 zv2 zu0 zu1 zu2 zt0 zt1 zt2 ei1 ei2 ei3 hpos hnb
  clear HCC
  have HB2 := hid BB
  have HLT2 := hid (HLT1.out.st SS)
  have HLD2 := hid (HLD1.out.st SS)
  have HS2 := hid SS
  clear BB SS
  have HT2 : Hid ((m.todo [⟨17, kn, 0, ke⟩]).th.tasks.length ≤ 900000 + 2) := by
    show _ ≤ _
    rw [th_todo HB1.out.c]
    have := HT1.out
    simp
    omega
  have HV2 : Hid ((m.todo [⟨17, kn, 0, ke⟩]).th.vals.length ≤ 900000 + 2) := by
    show _ ≤ _
    rw [th_todo HB1.out.c]
    have := HV1.out
    simp
    omega
  have t0 := HLT2.out.h.cell 0
  have t1 := HLT2.out.h.cell 1
  have t2 := HLT2.out.h.cell 2
  have t3 := HLT2.out.h.cell 3
  simp only [List.getElem?_toArray, List.getElem?_cons_succ, List.getElem?_cons_zero] at t0 t1 t2 t3
  have lT := HLT2.out.h.lt
  have d0 := HLD2.out.h.cell 0
  have d1 := HLD2.out.h.cell 1
  have d2 := HLD2.out.h.cell 2
  have d3 := HLD2.out.h.cell 3
  have d4 := HLD2.out.h.cell 4
  have d5 := HLD2.out.h.cell 5
  have d6 := HLD2.out.h.cell 6
  have d7 := HLD2.out.h.cell 7
  simp only [List.getElem?_toArray, List.getElem?_cons_succ, List.getElem?_cons_zero] at d0 d1 d2 d3 d4 d5 d6 d7
  have lD := HLD2.out.h.lt
  obtain ⟨cc0, cc1, lcc⟩ := HB2.out.c0
  have HXX2 := hid (RB.x1 HXX1.out HS2.out)
  have hlen : (m.todo [⟨17, kn, 0, ke⟩]).th.vals.length = n + 3 := by rw [th_todo HBC.out]; exact HNV.out
  obtain ⟨g2, cp2, c4, lc4, lg, lxb, CV⟩ := HB2.out.tops HXX2.out (by rw [hlen]; omega)
  have D := CV n (by rw [hlen]; omega)
  have ej : (m.todo [⟨17, kn, 0, ke⟩]).th.vals.getD n nilV = ⟨tt, tn, ts⟩ := by rw [th_todo HBC.out, ← HXt.out]; unfold MD.topM; rw [HNV.out]; congr 1
  rw [ej] at D
  dsimp only at D
  obtain ⟨z0, z1, z2⟩ := D
  rw [hlen] at c4 lc4
  have hnb : n ≤ 900010 := by have := HV0.out; rw [HNV.out] at this; omega
  have ei3 : (n : Int) + 3 - 3 = n := by omega
  have hpos : (0 : Int) < (n : Int) + 3 := by omega
  have k0 := fun z : WS w2 => z.f.cell d2
  have k1 := fun z : WS w2 => z.f.cell d6
  have k2 := fun z : WS w2 => z.f.cell c4
  have k3 := fun z : WS w2 => z.f.cell z0
  have k4 := fun z : WS w2 => z.f.cell z1
  have k5 := fun z : WS w2 => z.f.cell z2
  have k6 := fun z : WS w2 => z.f.cell t3
  have NE := WS.non w2
  clear CV ej hlen
  obtain ⟨AE2, BE2, SE2, hE2⟩ := HB2.out.newEnv RO2.out ⟨dss, ⟨tt, tn, ts⟩, ke⟩ (HB2.out.eIn HE.out)
  have e9 : enV A12.E ⟨dss, ⟨tt, tn, ts⟩, ke⟩ = #[sv dss, .int .i64 tt, .int .u64 tn, sv ts, .pointer ea] := by
    unfold enV ePtr
    dsimp only
    rw [HB2.out.eN HE.out, HEA.out]
  rw [e9] at BE2 SE2
  have HP3 : Hid (eAd AE2.E (some (m.todo [⟨17, kn, 0, ke⟩]).envs.length) = some ⟨w2.heap.size, 0, none⟩) := by
    show _ = _
    exact hE2
  have HB3 := hid BE2
  have HLT3 := hid (HLT2.out.st SE2)
  have HLD3 := hid (HLD2.out.st SE2)
  have HT3 : Hid (({ (m.todo [⟨17, kn, 0, ke⟩]) with envs := (m.todo [⟨17, kn, 0, ke⟩]).envs ++ [⟨dss, ⟨tt, tn, ts⟩, ke⟩] } : MD).th.tasks.length ≤ 900000 + 3) := by show (m.todo [⟨17, kn, 0, ke⟩]).th.tasks.length ≤ _; have := HT2.out; omega
  have HV3 : Hid (({ (m.todo [⟨17, kn, 0, ke⟩]) with envs := (m.todo [⟨17, kn, 0, ke⟩]).envs ++ [⟨dss, ⟨tt, tn, ts⟩, ke⟩] } : MD).th.vals.length ≤ 900000 + 3) := by show (m.todo [⟨17, kn, 0, ke⟩]).th.vals.length ≤ _; have := HV2.out; omega
  clear BE2 SE2 hE2 e9
  have HB4 := hid HB3.out.drew
  have HLT4 := hid (HLT3.out.fr ((Fr.refl _ _).drew))
  have HLD4 := hid (HLD3.out.fr ((Fr.refl _ _).drew))
  have HT4 : Hid (({ (m.todo [⟨17, kn, 0, ke⟩]) with envs := (m.todo [⟨17, kn, 0, ke⟩]).envs ++ [⟨dss, ⟨tt, tn, ts⟩, ke⟩] } : MD).th.tasks.length ≤ 900000 + 4) := Nat.le_trans HT3.out (by decide)
  have HV4 : Hid (({ (m.todo [⟨17, kn, 0, ke⟩]) with envs := (m.todo [⟨17, kn, 0, ke⟩]).envs ++ [⟨dss, ⟨tt, tn, ts⟩, ke⟩] } : MD).th.vals.length ≤ 900000 + 4) := Nat.le_trans HV3.out (by decide)
  have HCC := hid (HB4.out.todoC (Nat.le_trans HT4.out (by decide)) 1 db 0 (some (m.todo [⟨17, kn, 0, ke⟩]).envs.length) HP3.out (k' := 1) (n' := (db : Nat)) (x' := 0) rfl rfl rfl)
  go_wp2_with fail
  refine wp_region_head 16 1 (fun y => ∃ s : WS w2, y = s.y) (by kernel_rfl) (by kernel_rfl) (fun _ _ _ _ _ h => h) ⟨⟨w2.drew, (Fr.refl _ _).drew⟩, rfl⟩ ?_
  simp only [List.take_succ_cons, List.take_zero, List.drop_succ_cons, List.drop_zero]
  repeat go_big_quiet_step (fail)
  refine wpQuiet_nil ?_
  unfold wpChain
  go_wp2_with fail
  refine ⟨⟨⟨_, ((Fr.refl _ _).alloc _).drew⟩, rfl⟩, ?_⟩
  rw [wpChain_zero]
  go_wp2_with fail
  refine HCC.out.mono ?_
  rintro e13 w5 ⟨rfl, A15, BB, SS⟩
  clear t0 t1 t2 t3 lT d0 d1 d2 d3 d4 d5 d6 d7 lD cc0 cc1 lcc k0 k1 k2 k3 k4 k5 k6 NE c4 lc4 lg lxb z0 z1 z2 hnb ei3 hpos
  clear HCC
  have HB5 := hid BB
  have HLT5 := hid (HLT4.out.st SS)
  have HLD5 := hid (HLD4.out.st SS)
  have HS5 := hid SS
  clear BB SS
  have HT5 : Hid ((({ (m.todo [⟨17, kn, 0, ke⟩]) with envs := (m.todo [⟨17, kn, 0, ke⟩]).envs ++ [⟨dss, ⟨tt, tn, ts⟩, ke⟩] } : MD).todo [⟨1, db, 0, (some (m.todo [⟨17, kn, 0, ke⟩]).envs.length)⟩]).th.tasks.length ≤ 900000 + 5) := by
    show _ ≤ _
    rw [th_todo HB4.out.c]
    have := HT4.out
    simp
    omega
  have HV5 : Hid ((({ (m.todo [⟨17, kn, 0, ke⟩]) with envs := (m.todo [⟨17, kn, 0, ke⟩]).envs ++ [⟨dss, ⟨tt, tn, ts⟩, ke⟩] } : MD).todo [⟨1, db, 0, (some (m.todo [⟨17, kn, 0, ke⟩]).envs.length)⟩]).th.vals.length ≤ 900000 + 5) := by
    show _ ≤ _
    rw [th_todo HB4.out.c]
    have := HV4.out
    simp
    omega
  have FIN : Hid (Q (.returned (.tuple #[])) w5) := by
    show Q _ _
    rw [← HQ.out, HZ.out, HXt.out]
    exact HB5.out.end
  go_wp2
  go_end0
  exact FIN.out
theorem st16c (P : StZ w A N root W A1 m bT bD xb k d) (hk : k.k = 16) (H : FrZs (.pointer (some ⟨A.br, 0, none⟩)) (.pointer (some ⟨xb, 0, none⟩)) (.pointer (some ⟨bT, 0, none⟩)) (.pointer (some ⟨bD, 0, none⟩)) (.int .i64 k.k) a) (hl : m.th.tasks.length ≤ 900000) (hvl : m.th.vals.length ≤ 900000) (hv : 3 ≤ m.th.vals.length) (n0 : (m.topM 0).n < 18446744073709551616) (n1 : (m.topM 1).n < 18446744073709551616) (n2 : (m.topM 2).n < 18446744073709551616) (c5 : cmpN 5 (m.topM 0).n 0 = true) (cr : cmpN 4 (m.topM 2).n (m.topM 1).n = false) :
    (cTz (stC 15 (cI (stB Tryz.f77.body)))).wp Tryz.prog (Exit.inBlock 0 (bodyPost Tryz.prog Tryz.f77 (PQm w A N root (m.pops 3)))) a W := by
  obtain ⟨u, rfl⟩ := H.form
  obtain ⟨kk, kn, kx, ke⟩ := k
  obtain ⟨dk, da, db, dc, dnx, dn, dss, dp⟩ := d
  dsimp only at hk
  subst hk
  obtain ⟨Q, HQ⟩ : ∃ Q : Ending → World → Prop, Hid (PQm w A N root (m.pops 3) = Q) := ⟨_, rfl⟩
  dsimp only at HQ ⊢
  rw [HQ.out]
  obtain ⟨ea, HEA⟩ : ∃ ea, Hid (eAd A.E ke = ea) := ⟨_, rfl⟩
  have HE : Hid (∀ i, ke = some i → i < A.E.length) := P.he
  have HB0 := hid P.B
  have HLT0 : Hid (LcB W A1 bT #[.int .i64 (16 : Nat), .int .i64 kn, .int .i64 kx, .pointer ea] 224) := by
    have := P.LT
    dsimp only at this
    rw [HEA.out] at this
    exact this
  have HLD0 : Hid (LcB W A1 bD #[.int .i64 (dk : Nat), .int .i64 (da : Nat), .int .i64 (db : Nat), .int .i64 (dc : Nat), .int .i64 (dnx : Nat), .int .u64 (dn : Nat), sv dss, .int .i64 (dp : Nat)] 134) := P.LD
  have HT0 : Hid (m.th.tasks.length ≤ 900000 + 0) := hl
  have HV0 : Hid (m.th.vals.length ≤ 900000 + 0) := hvl
  have HXX := hid P.x
  have HBC := hid P.B.c
  have HVK : Hid (3 ≤ m.th.vals.length) := hv
  have HN0 : Hid (∀ v, m.topM 0 = v → v.n < 18446744073709551616) := fun v hv => by rw [← hv]; exact n0
  have HN1 : Hid (∀ v, m.topM 1 = v → v.n < 18446744073709551616) := fun v hv => by rw [← hv]; exact n1
  have HN2 : Hid (∀ v, m.topM 2 = v → v.n < 18446744073709551616) := fun v hv => by rw [← hv]; exact n2
  have HC5 := hid c5
  have HCR := hid cr
  clear n0 n1 n2 c5 cr hv
  clear P H hl hvl
  obtain ⟨c, hc⟩ : ∃ c, c = cTz (stC 15 (cI (stB Tryz.f77.body))) := ⟨_, rfl⟩
  rw [← hc]
  simp only [cTz, cE, cI, cR, stC, stB, Tryz.f77, Option.getD_some] at hc
  subst hc
  have t0 := HLT0.out.h.cell 0
  have t1 := HLT0.out.h.cell 1
  have t2 := HLT0.out.h.cell 2
  have t3 := HLT0.out.h.cell 3
  simp only [List.getElem?_toArray, List.getElem?_cons_succ, List.getElem?_cons_zero] at t0 t1 t2 t3
  have lT := HLT0.out.h.lt
  have d0 := HLD0.out.h.cell 0
  have d1 := HLD0.out.h.cell 1
  have d2 := HLD0.out.h.cell 2
  have d3 := HLD0.out.h.cell 3
  have d4 := HLD0.out.h.cell 4
  have d5 := HLD0.out.h.cell 5
  have d6 := HLD0.out.h.cell 6
  have d7 := HLD0.out.h.cell 7
  simp only [List.getElem?_toArray, List.getElem?_cons_succ, List.getElem?_cons_zero] at d0 d1 d2 d3 d4 d5 d6 d7
  have lD := HLD0.out.h.lt
  obtain ⟨cc0, cc1, lcc⟩ := HB0.out.c0
  obtain ⟨g, cp, c4, lc4, lg, lxb, CV⟩ := HB0.out.tops HXX.out (by have := HVK.out; omega)
  obtain ⟨n, HNV⟩ : ∃ n, Hid (m.th.vals.length = n + 3) := ⟨m.th.vals.length - 3, by show _ = _; have := HVK.out; omega⟩
  obtain ⟨⟨vt, vn, vs⟩, HXv⟩ : ∃ v, Hid (m.topM 0 = v) := ⟨_, rfl⟩
  have D := CV (n + 2) (by rw [HNV.out]; omega)
  have ej : m.th.vals.getD (n + 2) nilV = ⟨vt, vn, vs⟩ := by rw [← HXv.out]; unfold MD.topM; rw [HNV.out]; congr 1
  rw [ej] at D
  dsimp only at D
  obtain ⟨zv0, zv1, zv2⟩ := D
  clear ej
  obtain ⟨⟨ut, un, us⟩, HXu⟩ : ∃ v, Hid (m.topM 1 = v) := ⟨_, rfl⟩
  have D := CV (n + 1) (by rw [HNV.out]; omega)
  have ej : m.th.vals.getD (n + 1) nilV = ⟨ut, un, us⟩ := by rw [← HXu.out]; unfold MD.topM; rw [HNV.out]; congr 1
  rw [ej] at D
  dsimp only at D
  obtain ⟨zu0, zu1, zu2⟩ := D
  clear ej
  obtain ⟨⟨tt, tn, ts⟩, HXt⟩ : ∃ v, Hid (m.topM 2 = v) := ⟨_, rfl⟩
  have D := CV (n) (by rw [HNV.out]; omega)
  have ej : m.th.vals.getD (n) nilV = ⟨tt, tn, ts⟩ := by rw [← HXt.out]; unfold MD.topM; rw [HNV.out]; congr 1
  rw [ej] at D
  dsimp only at D
  obtain ⟨zt0, zt1, zt2⟩ := D
  clear ej
  rw [HNV.out] at c4 lc4
  have hnb : n ≤ 900010 := by have := HV0.out; rw [HNV.out] at this; omega
  clear CV
  have ei1 : (n : Int) + 3 - 1 = (n : Int) + 2 := by omega
  have ei2 : (n : Int) + 3 - 2 = (n : Int) + 1 := by omega
  have ei3 : (n : Int) + 3 - 3 = (n : Int) := by omega
  have hpos : (0 : Int) < (n : Int) + 3 := by omega
  have CQ5 : Hid (∀ W2, Calls Tryz.prog 122 #[.pointer (some ⟨A.bn, 0, none⟩), .int .i64 5, .int .u64 vn, .int .u64 0] W2 fun e w' => e = .returned (.bool true) ∧ w' = W2) := fun W2 => HB0.out.cmp (op := 5) (c := 0) (by decide) (by decide) (HN0.out _ HXv.out) (by decide) (by have := HC5.out; rw [HXv.out] at this; exact this) rfl rfl W2
  have CQR : Hid (∀ W2, Calls Tryz.prog 122 #[.pointer (some ⟨A.bn, 0, none⟩), .int .i64 4, .int .u64 tn, .int .u64 un] W2 fun e w' => e = .returned (.bool false) ∧ w' = W2) := fun W2 => HB0.out.cmp (op := 4) (by decide) (by decide) (HN2.out _ HXt.out) (HN1.out _ HXu.out) (by have := HCR.out; rw [HXt.out, HXu.out] at this; exact this) rfl rfl W2
  obtain ⟨f4, CU⟩ := HB0.out.cuts HXX.out c4
  obtain ⟨A', s1, s2⟩ := CU n (by rw [HNV.out]; omega)
  have FIN : Hid (Q (.returned (.tuple #[])) (W.setCell ⟨xb, 4, none⟩ (.slice (some ⟨g, 0, none⟩) n cp)).drew.drew) := by
    show Q _ _
    rw [← HQ.out]
    have e : m.pops 3 = { m with ths := m.ths.set m.cur { m.th with vals := m.th.vals.take n } } := by
      have h : n = m.th.vals.length - 3 := by rw [HNV.out]; omega
      rw [h]
      rfl
    rw [e]
    have F : Fr (fun _ => False) (W.setCell ⟨xb, 4, none⟩ (.slice (some ⟨g, 0, none⟩) n cp)) (W.setCell ⟨xb, 4, none⟩ (.slice (some ⟨g, 0, none⟩) n cp)).drew.drew := ((Fr.refl _ _).drew).drew
    exact ⟨rfl, A', s1.fresh F, HB0.out.s.trans (s2.trans (MSt.fresh A' F))⟩
  clear s1 s2 CU
  go_wp2_with fail
  refine wp_region_tail 13 (by kernel_rfl) (by kernel_rfl) (fun _ _ _ _ _ h => h) ?_
  simp only [List.take_succ_cons, List.take_zero, List.drop_succ_cons, List.drop_zero]
  repeat go_big_quiet_step (fail)
  refine wpQuiet_nil ?_
  go_wp2_with fail
  refine (CQ5.out _).mono ?_
  rintro e21 w21 ⟨rfl, hw21⟩
  rw [hw21]
  clear hw21 CQ5
  go_wp2_with fail
  refine wp_region_tail 22 (by kernel_rfl) (by kernel_rfl) (fun _ _ _ _ _ h => h) ?_
  simp only [List.take_succ_cons, List.take_zero, List.drop_succ_cons, List.drop_zero]
  repeat go_big_quiet_step (fail)
  refine wpQuiet_nil ?_
  go_wp2_with fail
  refine (CQR.out _).mono ?_
  rintro e22 w22 ⟨rfl, hw22⟩
  rw [hw22]
  clear hw22 CQR
  go_wp2
  refine bodyPost_ret (results_none rfl _ _ _) rfl ?_
  exact FIN.out
theorem st16d (P : StZ w A N root W A1 m bT bD xb k d) (hk : k.k = 16) (H : FrZs (.pointer (some ⟨A.br, 0, none⟩)) (.pointer (some ⟨xb, 0, none⟩)) (.pointer (some ⟨bT, 0, none⟩)) (.pointer (some ⟨bD, 0, none⟩)) (.int .i64 k.k) a) (hl : m.th.tasks.length ≤ 900000) (hvl : m.th.vals.length ≤ 900000) (hv : 3 ≤ m.th.vals.length) (n0 : (m.topM 0).n < 18446744073709551616) (n1 : (m.topM 1).n < 18446744073709551616) (n2 : (m.topM 2).n < 18446744073709551616) (c5 : cmpN 5 (m.topM 0).n 0 = false) (cr : cmpN 6 (m.topM 2).n (m.topM 1).n = false) :
    (cTz (stC 15 (cI (stB Tryz.f77.body)))).wp Tryz.prog (Exit.inBlock 0 (bodyPost Tryz.prog Tryz.f77 (PQm w A N root (m.pops 3)))) a W := by
  obtain ⟨u, rfl⟩ := H.form
  obtain ⟨kk, kn, kx, ke⟩ := k
  obtain ⟨dk, da, db, dc, dnx, dn, dss, dp⟩ := d
  dsimp only at hk
  subst hk
  obtain ⟨Q, HQ⟩ : ∃ Q : Ending → World → Prop, Hid (PQm w A N root (m.pops 3) = Q) := ⟨_, rfl⟩
  dsimp only at HQ ⊢
  rw [HQ.out]
  obtain ⟨ea, HEA⟩ : ∃ ea, Hid (eAd A.E ke = ea) := ⟨_, rfl⟩
  have HE : Hid (∀ i, ke = some i → i < A.E.length) := P.he
  have HB0 := hid P.B
  have HLT0 : Hid (LcB W A1 bT #[.int .i64 (16 : Nat), .int .i64 kn, .int .i64 kx, .pointer ea] 224) := by
    have := P.LT
    dsimp only at this
    rw [HEA.out] at this
    exact this
  have HLD0 : Hid (LcB W A1 bD #[.int .i64 (dk : Nat), .int .i64 (da : Nat), .int .i64 (db : Nat), .int .i64 (dc : Nat), .int .i64 (dnx : Nat), .int .u64 (dn : Nat), sv dss, .int .i64 (dp : Nat)] 134) := P.LD
  have HT0 : Hid (m.th.tasks.length ≤ 900000 + 0) := hl
  have HV0 : Hid (m.th.vals.length ≤ 900000 + 0) := hvl
  have HXX := hid P.x
  have HBC := hid P.B.c
  have HVK : Hid (3 ≤ m.th.vals.length) := hv
  have HN0 : Hid (∀ v, m.topM 0 = v → v.n < 18446744073709551616) := fun v hv => by rw [← hv]; exact n0
  have HN1 : Hid (∀ v, m.topM 1 = v → v.n < 18446744073709551616) := fun v hv => by rw [← hv]; exact n1
  have HN2 : Hid (∀ v, m.topM 2 = v → v.n < 18446744073709551616) := fun v hv => by rw [← hv]; exact n2
  have HC5 := hid c5
  have HCR := hid cr
  clear n0 n1 n2 c5 cr hv
  clear P H hl hvl
  obtain ⟨c, hc⟩ : ∃ c, c = cTz (stC 15 (cI (stB Tryz.f77.body))) := ⟨_, rfl⟩
  rw [← hc]
  simp only [cTz, cE, cI, cR, stC, stB, Tryz.f77, Option.getD_some] at hc
  subst hc
  have t0 := HLT0.out.h.cell 0
  have t1 := HLT0.out.h.cell 1
  have t2 := HLT0.out.h.cell 2
  have t3 := HLT0.out.h.cell 3
  simp only [List.getElem?_toArray, List.getElem?_cons_succ, List.getElem?_cons_zero] at t0 t1 t2 t3
  have lT := HLT0.out.h.lt
  have d0 := HLD0.out.h.cell 0
  have d1 := HLD0.out.h.cell 1
  have d2 := HLD0.out.h.cell 2
  have d3 := HLD0.out.h.cell 3
  have d4 := HLD0.out.h.cell 4
  have d5 := HLD0.out.h.cell 5
  have d6 := HLD0.out.h.cell 6
  have d7 := HLD0.out.h.cell 7
  simp only [List.getElem?_toArray, List.getElem?_cons_succ, List.getElem?_cons_zero] at d0 d1 d2 d3 d4 d5 d6 d7
  have lD := HLD0.out.h.lt
  obtain ⟨cc0, cc1, lcc⟩ := HB0.out.c0
  obtain ⟨g, cp, c4, lc4, lg, lxb, CV⟩ := HB0.out.tops HXX.out (by have := HVK.out; omega)
  obtain ⟨n, HNV⟩ : ∃ n, Hid (m.th.vals.length = n + 3) := ⟨m.th.vals.length - 3, by show _ = _; have := HVK.out; omega⟩
  obtain ⟨⟨vt, vn, vs⟩, HXv⟩ : ∃ v, Hid (m.topM 0 = v) := ⟨_, rfl⟩
  have D := CV (n + 2) (by rw [HNV.out]; omega)
  have ej : m.th.vals.getD (n + 2) nilV = ⟨vt, vn, vs⟩ := by rw [← HXv.out]; unfold MD.topM; rw [HNV.out]; congr 1
  rw [ej] at D
  dsimp only at D
  obtain ⟨zv0, zv1, zv2⟩ := D
  clear ej
  obtain ⟨⟨ut, un, us⟩, HXu⟩ : ∃ v, Hid (m.topM 1 = v) := ⟨_, rfl⟩
  have D := CV (n + 1) (by rw [HNV.out]; omega)
  have ej : m.th.vals.getD (n + 1) nilV = ⟨ut, un, us⟩ := by rw [← HXu.out]; unfold MD.topM; rw [HNV.out]; congr 1
  rw [ej] at D
  dsimp only at D
  obtain ⟨zu0, zu1, zu2⟩ := D
  clear ej
  obtain ⟨⟨tt, tn, ts⟩, HXt⟩ : ∃ v, Hid (m.topM 2 = v) := ⟨_, rfl⟩
  have D := CV (n) (by rw [HNV.out]; omega)
  have ej : m.th.vals.getD (n) nilV = ⟨tt, tn, ts⟩ := by rw [← HXt.out]; unfold MD.topM; rw [HNV.out]; congr 1
  rw [ej] at D
  dsimp only at D
  obtain ⟨zt0, zt1, zt2⟩ := D
  clear ej
  rw [HNV.out] at c4 lc4
  have hnb : n ≤ 900010 := by have := HV0.out; rw [HNV.out] at this; omega
  clear CV
  have ei1 : (n : Int) + 3 - 1 = (n : Int) + 2 := by omega
  have ei2 : (n : Int) + 3 - 2 = (n : Int) + 1 := by omega
  have ei3 : (n : Int) + 3 - 3 = (n : Int) := by omega
  have hpos : (0 : Int) < (n : Int) + 3 := by omega
  have CQ5 : Hid (∀ W2, Calls Tryz.prog 122 #[.pointer (some ⟨A.bn, 0, none⟩), .int .i64 5, .int .u64 vn, .int .u64 0] W2 fun e w' => e = .returned (.bool false) ∧ w' = W2) := fun W2 => HB0.out.cmp (op := 5) (c := 0) (by decide) (by decide) (HN0.out _ HXv.out) (by decide) (by have := HC5.out; rw [HXv.out] at this; exact this) rfl rfl W2
  have CQR : Hid (∀ W2, Calls Tryz.prog 122 #[.pointer (some ⟨A.bn, 0, none⟩), .int .i64 6, .int .u64 tn, .int .u64 un] W2 fun e w' => e = .returned (.bool false) ∧ w' = W2) := fun W2 => HB0.out.cmp (op := 6) (by decide) (by decide) (HN2.out _ HXt.out) (HN1.out _ HXu.out) (by have := HCR.out; rw [HXt.out, HXu.out] at this; exact this) rfl rfl W2
  obtain ⟨f4, CU⟩ := HB0.out.cuts HXX.out c4
  obtain ⟨A', s1, s2⟩ := CU n (by rw [HNV.out]; omega)
  have FIN : Hid (Q (.returned (.tuple #[])) (W.setCell ⟨xb, 4, none⟩ (.slice (some ⟨g, 0, none⟩) n cp)).drew.drew) := by
    show Q _ _
    rw [← HQ.out]
    have e : m.pops 3 = { m with ths := m.ths.set m.cur { m.th with vals := m.th.vals.take n } } := by
      have h : n = m.th.vals.length - 3 := by rw [HNV.out]; omega
      rw [h]
      rfl
    rw [e]
    have F : Fr (fun _ => False) (W.setCell ⟨xb, 4, none⟩ (.slice (some ⟨g, 0, none⟩) n cp)) (W.setCell ⟨xb, 4, none⟩ (.slice (some ⟨g, 0, none⟩) n cp)).drew.drew := ((Fr.refl _ _).drew).drew
    exact ⟨rfl, A', s1.fresh F, HB0.out.s.trans (s2.trans (MSt.fresh A' F))⟩
  clear s1 s2 CU
  go_wp2_with fail
  refine wp_region_tail 13 (by kernel_rfl) (by kernel_rfl) (fun _ _ _ _ _ h => h) ?_
  simp only [List.take_succ_cons, List.take_zero, List.drop_succ_cons, List.drop_zero]
  repeat go_big_quiet_step (fail)
  refine wpQuiet_nil ?_
  go_wp2_with fail
  refine (CQ5.out _).mono ?_
  rintro e21 w21 ⟨rfl, hw21⟩
  rw [hw21]
  clear hw21 CQ5
  go_wp2_with fail
  refine wp_region_tail 22 (by kernel_rfl) (by kernel_rfl) (fun _ _ _ _ _ h => h) ?_
  simp only [List.take_succ_cons, List.take_zero, List.drop_succ_cons, List.drop_zero]
  repeat go_big_quiet_step (fail)
  refine wpQuiet_nil ?_
  go_wp2_with fail
  refine (CQR.out _).mono ?_
  rintro e22 w22 ⟨rfl, hw22⟩
  rw [hw22]
  clear hw22 CQR
  go_wp2
  refine bodyPost_ret (results_none rfl _ _ _) rfl ?_
  exact FIN.out
end
end Go.Proofs.Qxb6500574aGreatDoor
