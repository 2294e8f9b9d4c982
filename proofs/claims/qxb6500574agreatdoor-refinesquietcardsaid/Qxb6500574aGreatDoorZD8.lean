/-
  THE WALKS of compm: step: a numeric for begins.
-/
import Derived.Test.Qxb6500574aGreatDoorZD7
namespace Go.Proofs.Qxb6500574aGreatDoor
open Go Go.RowKit
set_option linter.unusedVariables false
set_option linter.unusedSimpArgs false
section
variable {w W W1 : World} {A A1 A2 : RnP} {N : List Nd} {root : Nat} {M m : MD} {k : TkD} {r : List TkD} {d : Nd} {bT bD xb : Nat} {a : Act}
set_option maxRecDepth 100000
set_option maxHeartbeats 2000000
theorem RB.cmp (B : RB w A N root W A1 m) {op a c : Nat} (ho : 1 ≤ op) (ho6 : op ≤ 6) (h : a < 18446744073709551616) (h2 : c < 18446744073709551616) {b : Bool} (e : cmpN op a c = b) {op' : Int} (eo : op' = op) {c' : Int} (ec : c' = c) (W2 : World) : Calls Tryz.prog 122 #[.pointer (some ⟨A.bn, 0, none⟩), .int .i64 op', .int .u64 a, .int .u64 c'] W2 fun e w' => e = .returned (.bool b) ∧ w' = W2 := by
  subst eo ec
  rw [← e, cmp_ok h h2]
  exact cmp_m ho ho6 h h2
theorem st15a (P : StZ w A N root W A1 m bT bD xb k d) (hk : k.k = 15) (H : FrZs (.pointer (some ⟨A.br, 0, none⟩)) (.pointer (some ⟨xb, 0, none⟩)) (.pointer (some ⟨bT, 0, none⟩)) (.pointer (some ⟨bD, 0, none⟩)) (.int .i64 k.k) a) (hl : m.th.tasks.length ≤ 900000) (hvl : m.th.vals.length ≤ 900000) (hv : 3 ≤ m.th.vals.length) (K : ThrOk m) (g2 : (m.topM 2).t ≠ 2) :
    (cTz (stC 14 (cI (stB Tryz.f77.body)))).wp Tryz.prog (Exit.inBlock 0 (bodyPost Tryz.prog Tryz.f77 (PQm w A N root (m.raise mFor)))) a W := by
  obtain ⟨u, rfl⟩ := H.form
  obtain ⟨kk, kn, kx, ke⟩ := k
  obtain ⟨dk, da, db, dc, dnx, dn, dss, dp⟩ := d
  dsimp only at hk
  subst hk
  obtain ⟨Q, HQ⟩ : ∃ Q : Ending → World → Prop, Hid (PQm w A N root (m.raise mFor) = Q) := ⟨_, rfl⟩
  dsimp only at HQ ⊢
  rw [HQ.out]
  obtain ⟨ea, HEA⟩ : ∃ ea, Hid (eAd A.E ke = ea) := ⟨_, rfl⟩
  have HE : Hid (∀ i, ke = some i → i < A.E.length) := P.he
  have HB0 := hid P.B
  have HLT0 : Hid (LcB W A1 bT #[.int .i64 (15 : Nat), .int .i64 kn, .int .i64 kx, .pointer ea] 224) := by
    have := P.LT
    dsimp only at this
    rw [HEA.out] at this
    exact this
  have HLD0 : Hid (LcB W A1 bD #[.int .i64 (dk : Nat), .int .i64 (da : Nat), .int .i64 (db : Nat), .int .i64 (dc : Nat), .int .i64 (dnx : Nat), .int .u64 (dn : Nat), sv dss, .int .i64 (dp : Nat)] 134) := P.LD
  have HT0 : Hid (m.th.tasks.length ≤ 900000 + 0) := hl
  have HV0 : Hid (m.th.vals.length ≤ 900000 + 0) := hvl
  have HXX := hid P.x
  have HBC := hid P.B.c
  have HVK : Hid (3 ≤ m.th.vals.length) := hv
  have HK := hid K
  have HG2 := hid g2
  clear g2
  clear K hv
  clear P H hl hvl
  obtain ⟨c, hc⟩ : ∃ c, c = cTz (stC 14 (cI (stB Tryz.f77.body))) := ⟨_, rfl⟩
  rw [← hc]
  simp only [cTz, cE, cI, cR, stC, stB, Tryz.f77, Option.getD_some] at hc
  subst hc
  have t0 := HLT0.out.h.cell 0
  have t1 := HLT0.out.h.cell 1
  have t2 := HLT0.out.h.cell 2
  have t3 := HLT0.out.h.cell 3
  simp only [List.getElem?_toArray, List.getElem?_cons_succ, List.getElem?_cons_zero] at t0 t1 t2 t3
  have lT := HLT0.out.h.lt
  have d0 := HLD0.out.h.cell 0
  have d1 := HLD0.out.h.cell 1
  have d2 := HLD0.out.h.cell 2
  have d3 := HLD0.out.h.cell 3
  have d4 := HLD0.out.h.cell 4
  have d5 := HLD0.out.h.cell 5
  have d6 := HLD0.out.h.cell 6
  have d7 := HLD0.out.h.cell 7
  simp only [List.getElem?_toArray, List.getElem?_cons_succ, List.getElem?_cons_zero] at d0 d1 d2 d3 d4 d5 d6 d7
  have lD := HLD0.out.h.lt
  obtain ⟨cc0, cc1, lcc⟩ := HB0.out.c0
  obtain ⟨g, cp, c4, lc4, lg, lxb, CV⟩ := HB0.out.tops HXX.out (by have := HVK.out; omega)
  obtain ⟨n, HNV⟩ : ∃ n, Hid (m.th.vals.length = n + 3) := ⟨m.th.vals.length - 3, by show _ = _; have := HVK.out; omega⟩
  obtain ⟨⟨vt, vn, vs⟩, HXv⟩ : ∃ v, Hid (m.topM 0 = v) := ⟨_, rfl⟩
  have D := CV (n + 2) (by rw [HNV.out]; omega)
  have ej : m.th.vals.getD (n + 2) nilV = ⟨vt, vn, vs⟩ := by rw [← HXv.out]; unfold MD.topM; rw [HNV.out]; congr 1
  rw [ej] at D
  dsimp only at D
  obtain ⟨zv0, zv1, zv2⟩ := D
  clear ej
  obtain ⟨⟨ut, un, us⟩, HXu⟩ : ∃ v, Hid (m.topM 1 = v) := ⟨_, rfl⟩
  have D := CV (n + 1) (by rw [HNV.out]; omega)
  have ej : m.th.vals.getD (n + 1) nilV = ⟨ut, un, us⟩ := by rw [← HXu.out]; unfold MD.topM; rw [HNV.out]; congr 1
  rw [ej] at D
  dsimp only at D
  obtain ⟨zu0, zu1, zu2⟩ := D
  clear ej
  obtain ⟨⟨tt, tn, ts⟩, HXt⟩ : ∃ v, Hid (m.topM 2 = v) := ⟨_, rfl⟩
  have D := CV (n) (by rw [HNV.out]; omega)
  have ej : m.th.vals.getD (n) nilV = ⟨tt, tn, ts⟩ := by rw [← HXt.out]; unfold MD.topM; rw [HNV.out]; congr 1
  rw [ej] at D
  dsimp only at D
  obtain ⟨zt0, zt1, zt2⟩ := D
  clear ej
  rw [HNV.out] at c4 lc4
  have hnb : n ≤ 900010 := by have := HV0.out; rw [HNV.out] at this; omega
  clear CV
  have ei1 : (n : Int) + 3 - 1 = (n : Int) + 2 := by omega
  have ei2 : (n : Int) + 3 - 2 = (n : Int) + 1 := by omega
  have ei3 : (n : Int) + 3 - 3 = (n : Int) := by omega
  have hpos : (0 : Int) < (n : Int) + 3 := by omega
  have htx : ((tt : Int) != 2) = true := by
    have := HG2.out
    rw [HXt.out] at this
    dsimp only at this
    rw [bne_iff_ne]
    omega
  have CC := HB0.out.raise HK.out mFor (by decide)
  have HCC := hid CC
  clear CC
  go_wp2_with fail
  refine HCC.out.mono ?_
  intro e9 w1 hq
  obtain rfl := hq.1
  clear t0 t1 t2 t3 lT d0 d1 d2 d3 d4 d5 d6 d7 lD cc0 cc1 lcc c4 lc4 lg lxb zv0 zv1 zv2 zu0 zu1 zu2 zt0 zt1 zt2 ei1 ei2 ei3 hpos hnb htx
  have FIN : Hid (Q (.returned (.tuple #[])) w1) := by
    show Q _ _
    rw [← HQ.out]
    exact hq
  clear hq HCC
  go_wp2
  refine bodyPost_ret (results_none rfl _ _ _) rfl ?_
  exact FIN.out
theorem st15b (P : StZ w A N root W A1 m bT bD xb k d) (hk : k.k = 15) (H : FrZs (.pointer (some ⟨A.br, 0, none⟩)) (.pointer (some ⟨xb, 0, none⟩)) (.pointer (some ⟨bT, 0, none⟩)) (.pointer (some ⟨bD, 0, none⟩)) (.int .i64 k.k) a) (hl : m.th.tasks.length ≤ 900000) (hvl : m.th.vals.length ≤ 900000) (hv : 3 ≤ m.th.vals.length) (K : ThrOk m) (g2 : (m.topM 2).t = 2) (g1 : (m.topM 1).t ≠ 2) :
    (cTz (stC 14 (cI (stB Tryz.f77.body)))).wp Tryz.prog (Exit.inBlock 0 (bodyPost Tryz.prog Tryz.f77 (PQm w A N root (m.raise mFor)))) a W := by
  obtain ⟨u, rfl⟩ := H.form
  obtain ⟨kk, kn, kx, ke⟩ := k
  obtain ⟨dk, da, db, dc, dnx, dn, dss, dp⟩ := d
  dsimp only at hk
  subst hk
  obtain ⟨Q, HQ⟩ : ∃ Q : Ending → World → Prop, Hid (PQm w A N root (m.raise mFor) = Q) := ⟨_, rfl⟩
  dsimp only at HQ ⊢
  rw [HQ.out]
  obtain ⟨ea, HEA⟩ : ∃ ea, Hid (eAd A.E ke = ea) := ⟨_, rfl⟩
  have HE : Hid (∀ i, ke = some i → i < A.E.length) := P.he
  have HB0 := hid P.B
  have HLT0 : Hid (LcB W A1 bT #[.int .i64 (15 : Nat), .int .i64 kn, .int .i64 kx, .pointer ea] 224) := by
    have := P.LT
    dsimp only at this
    rw [HEA.out] at this
    exact this
  have HLD0 : Hid (LcB W A1 bD #[.int .i64 (dk : Nat), .int .i64 (da : Nat), .int .i64 (db : Nat), .int .i64 (dc : Nat), .int .i64 (dnx : Nat), .int .u64 (dn : Nat), sv dss, .int .i64 (dp : Nat)] 134) := P.LD
  have HT0 : Hid (m.th.tasks.length ≤ 900000 + 0) := hl
  have HV0 : Hid (m.th.vals.length ≤ 900000 + 0) := hvl
  have HXX := hid P.x
  have HBC := hid P.B.c
  have HVK : Hid (3 ≤ m.th.vals.length) := hv
  have HK := hid K
  have HG2 := hid g2
  have HG1 := hid g1
  clear g2 g1
  clear K hv
  clear P H hl hvl
  obtain ⟨c, hc⟩ : ∃ c, c = cTz (stC 14 (cI (stB Tryz.f77.body))) := ⟨_, rfl⟩
  rw [← hc]
  simp only [cTz, cE, cI, cR, stC, stB, Tryz.f77, Option.getD_some] at hc
  subst hc
  have t0 := HLT0.out.h.cell 0
  have t1 := HLT0.out.h.cell 1
  have t2 := HLT0.out.h.cell 2
  have t3 := HLT0.out.h.cell 3
  simp only [List.getElem?_toArray, List.getElem?_cons_succ, List.getElem?_cons_zero] at t0 t1 t2 t3
  have lT := HLT0.out.h.lt
  have d0 := HLD0.out.h.cell 0
  have d1 := HLD0.out.h.cell 1
  have d2 := HLD0.out.h.cell 2
  have d3 := HLD0.out.h.cell 3
  have d4 := HLD0.out.h.cell 4
  have d5 := HLD0.out.h.cell 5
  have d6 := HLD0.out.h.cell 6
  have d7 := HLD0.out.h.cell 7
  simp only [List.getElem?_toArray, List.getElem?_cons_succ, List.getElem?_cons_zero] at d0 d1 d2 d3 d4 d5 d6 d7
  have lD := HLD0.out.h.lt
  obtain ⟨cc0, cc1, lcc⟩ := HB0.out.c0
  obtain ⟨g, cp, c4, lc4, lg, lxb, CV⟩ := HB0.out.tops HXX.out (by have := HVK.out; omega)
  obtain ⟨n, HNV⟩ : ∃ n, Hid (m.th.vals.length = n + 3) := ⟨m.th.vals.length - 3, by show _ = _; have := HVK.out; omega⟩
  obtain ⟨⟨vt, vn, vs⟩, HXv⟩ : ∃ v, Hid (m.topM 0 = v) := ⟨_, rfl⟩
  have D := CV (n + 2) (by rw [HNV.out]; omega)
  have ej : m.th.vals.getD (n + 2) nilV = ⟨vt, vn, vs⟩ := by rw [← HXv.out]; unfold MD.topM; rw [HNV.out]; congr 1
  rw [ej] at D
  dsimp only at D
  obtain ⟨zv0, zv1, zv2⟩ := D
  clear ej
  obtain ⟨⟨ut, un, us⟩, HXu⟩ : ∃ v, Hid (m.topM 1 = v) := ⟨_, rfl⟩
  have D := CV (n + 1) (by rw [HNV.out]; omega)
  have ej : m.th.vals.getD (n + 1) nilV = ⟨ut, un, us⟩ := by rw [← HXu.out]; unfold MD.topM; rw [HNV.out]; congr 1
  rw [ej] at D
  dsimp only at D
  obtain ⟨zu0, zu1, zu2⟩ := D
  clear ej
  obtain ⟨⟨tt, tn, ts⟩, HXt⟩ : ∃ v, Hid (m.topM 2 = v) := ⟨_, rfl⟩
  have D := CV (n) (by rw [HNV.out]; omega)
  have ej : m.th.vals.getD (n) nilV = ⟨tt, tn, ts⟩ := by rw [← HXt.out]; unfold MD.topM; rw [HNV.out]; congr 1
  rw [ej] at D
  dsimp only at D
  obtain ⟨zt0, zt1, zt2⟩ := D
  clear ej
  rw [HNV.out] at c4 lc4
  have hnb : n ≤ 900010 := by have := HV0.out; rw [HNV.out] at this; omega
  clear CV
  have ei1 : (n : Int) + 3 - 1 = (n : Int) + 2 := by omega
  have ei2 : (n : Int) + 3 - 2 = (n : Int) + 1 := by omega
  have ei3 : (n : Int) + 3 - 3 = (n : Int) := by omega
  have hpos : (0 : Int) < (n : Int) + 3 := by omega
  have htx : ((tt : Int) != 2) = false := by
    have := HG2.out
    rw [HXt.out] at this
    dsimp only at this
    rw [this]
    rfl
  have hux : ((ut : Int) != 2) = true := by
    have := HG1.out
    rw [HXu.out] at this
    dsimp only at this
    rw [bne_iff_ne]
    omega
  have CC := HB0.out.raise HK.out mFor (by decide)
  have HCC := hid CC
  clear CC
  go_wp2_with fail
  refine HCC.out.mono ?_
  intro e9 w1 hq
  obtain rfl := hq.1
  clear t0 t1 t2 t3 lT d0 d1 d2 d3 d4 d5 d6 d7 lD cc0 cc1 lcc c4 lc4 lg lxb zv0 zv1 zv2 zu0 zu1 zu2 zt0 zt1 zt2 ei1 ei2 ei3 hpos hnb htx hux
  have FIN : Hid (Q (.returned (.tuple #[])) w1) := by
    show Q _ _
    rw [← HQ.out]
    exact hq
  clear hq HCC
  go_wp2
  refine bodyPost_ret (results_none rfl _ _ _) rfl ?_
  exact FIN.out
theorem st15c (P : StZ w A N root W A1 m bT bD xb k d) (hk : k.k = 15) (H : FrZs (.pointer (some ⟨A.br, 0, none⟩)) (.pointer (some ⟨xb, 0, none⟩)) (.pointer (some ⟨bT, 0, none⟩)) (.pointer (some ⟨bD, 0, none⟩)) (.int .i64 k.k) a) (hl : m.th.tasks.length ≤ 900000) (hvl : m.th.vals.length ≤ 900000) (hv : 3 ≤ m.th.vals.length) (K : ThrOk m) (g2 : (m.topM 2).t = 2) (g1 : (m.topM 1).t = 2) (g0 : (m.topM 0).t ≠ 2) :
    (cTz (stC 14 (cI (stB Tryz.f77.body)))).wp Tryz.prog (Exit.inBlock 0 (bodyPost Tryz.prog Tryz.f77 (PQm w A N root (m.raise mFor)))) a W := by
  obtain ⟨u, rfl⟩ := H.form
  obtain ⟨kk, kn, kx, ke⟩ := k
  obtain ⟨dk, da, db, dc, dnx, dn, dss, dp⟩ := d
  dsimp only at hk
  subst hk
  obtain ⟨Q, HQ⟩ : ∃ Q : Ending → World → Prop, Hid (PQm w A N root (m.raise mFor) = Q) := ⟨_, rfl⟩
  dsimp only at HQ ⊢
  rw [HQ.out]
  obtain ⟨ea, HEA⟩ : ∃ ea, Hid (eAd A.E ke = ea) := ⟨_, rfl⟩
  have HE : Hid (∀ i, ke = some i → i < A.E.length) := P.he
  have HB0 := hid P.B
  have HLT0 : Hid (LcB W A1 bT #[.int .i64 (15 : Nat), .int .i64 kn, .int .i64 kx, .pointer ea] 224) := by
    have := P.LT
    dsimp only at this
    rw [HEA.out] at this
    exact this
  have HLD0 : Hid (LcB W A1 bD #[.int .i64 (dk : Nat), .int .i64 (da : Nat), .int .i64 (db : Nat), .int .i64 (dc : Nat), .int .i64 (dnx : Nat), .int .u64 (dn : Nat), sv dss, .int .i64 (dp : Nat)] 134) := P.LD
  have HT0 : Hid (m.th.tasks.length ≤ 900000 + 0) := hl
  have HV0 : Hid (m.th.vals.length ≤ 900000 + 0) := hvl
  have HXX := hid P.x
  have HBC := hid P.B.c
  have HVK : Hid (3 ≤ m.th.vals.length) := hv
  have HK := hid K
  have HG2 := hid g2
  have HG1 := hid g1
  have HG0 := hid g0
  clear g2 g1 g0
  clear K hv
  clear P H hl hvl
  obtain ⟨c, hc⟩ : ∃ c, c = cTz (stC 14 (cI (stB Tryz.f77.body))) := ⟨_, rfl⟩
  rw [← hc]
  simp only [cTz, cE, cI, cR, stC, stB, Tryz.f77, Option.getD_some] at hc
  subst hc
  have t0 := HLT0.out.h.cell 0
  have t1 := HLT0.out.h.cell 1
  have t2 := HLT0.out.h.cell 2
  have t3 := HLT0.out.h.cell 3
  simp only [List.getElem?_toArray, List.getElem?_cons_succ, List.getElem?_cons_zero] at t0 t1 t2 t3
  have lT := HLT0.out.h.lt
  have d0 := HLD0.out.h.cell 0
  have d1 := HLD0.out.h.cell 1
  have d2 := HLD0.out.h.cell 2
  have d3 := HLD0.out.h.cell 3
  have d4 := HLD0.out.h.cell 4
  have d5 := HLD0.out.h.cell 5
  have d6 := HLD0.out.h.cell 6
  have d7 := HLD0.out.h.cell 7
  simp only [List.getElem?_toArray, List.getElem?_cons_succ, List.getElem?_cons_zero] at d0 d1 d2 d3 d4 d5 d6 d7
  have lD := HLD0.out.h.lt
  obtain ⟨cc0, cc1, lcc⟩ := HB0.out.c0
  obtain ⟨g, cp, c4, lc4, lg, lxb, CV⟩ := HB0.out.tops HXX.out (by have := HVK.out; omega)
  obtain ⟨n, HNV⟩ : ∃ n, Hid (m.th.vals.length = n + 3) := ⟨m.th.vals.length - 3, by show _ = _; have := HVK.out; omega⟩
  obtain ⟨⟨vt, vn, vs⟩, HXv⟩ : ∃ v, Hid (m.topM 0 = v) := ⟨_, rfl⟩
  have D := CV (n + 2) (by rw [HNV.out]; omega)
  have ej : m.th.vals.getD (n + 2) nilV = ⟨vt, vn, vs⟩ := by rw [← HXv.out]; unfold MD.topM; rw [HNV.out]; congr 1
  rw [ej] at D
  dsimp only at D
  obtain ⟨zv0, zv1, zv2⟩ := D
  clear ej
  obtain ⟨⟨ut, un, us⟩, HXu⟩ : ∃ v, Hid (m.topM 1 = v) := ⟨_, rfl⟩
  have D := CV (n + 1) (by rw [HNV.out]; omega)
  have ej : m.th.vals.getD (n + 1) nilV = ⟨ut, un, us⟩ := by rw [← HXu.out]; unfold MD.topM; rw [HNV.out]; congr 1
  rw [ej] at D
  dsimp only at D
  obtain ⟨zu0, zu1, zu2⟩ := D
  clear ej
  obtain ⟨⟨tt, tn, ts⟩, HXt⟩ : ∃ v, Hid (m.topM 2 = v) := ⟨_, rfl⟩
  have D := CV (n) (by rw [HNV.out]; omega)
  have ej : m.th.vals.getD (n) nilV = ⟨tt, tn, ts⟩ := by rw [← HXt.out]; unfold MD.topM; rw [HNV.out]; congr 1
  rw [ej] at D
  dsimp only at D
  obtain ⟨zt0, zt1, zt2⟩ := D
  clear ej
  rw [HNV.out] at c4 lc4
  have hnb : n ≤ 900010 := by have := HV0.out; rw [HNV.out] at this; omega
  clear CV
  have ei1 : (n : Int) + 3 - 1 = (n : Int) + 2 := by omega
  have ei2 : (n : Int) + 3 - 2 = (n : Int) + 1 := by omega
  have ei3 : (n : Int) + 3 - 3 = (n : Int) := by omega
  have hpos : (0 : Int) < (n : Int) + 3 := by omega
  have htx : ((tt : Int) != 2) = false := by
    have := HG2.out
    rw [HXt.out] at this
    dsimp only at this
    rw [this]
    rfl
  have hux : ((ut : Int) != 2) = false := by
    have := HG1.out
    rw [HXu.out] at this
    dsimp only at this
    rw [this]
    rfl
  have hvx : ((vt : Int) != 2) = true := by
    have := HG0.out
    rw [HXv.out] at this
    dsimp only at this
    rw [bne_iff_ne]
    omega
  have CC := HB0.out.raise HK.out mFor (by decide)
  have HCC := hid CC
  clear CC
  go_wp2_with fail
  refine HCC.out.mono ?_
  intro e9 w1 hq
  obtain rfl := hq.1
  clear t0 t1 t2 t3 lT d0 d1 d2 d3 d4 d5 d6 d7 lD cc0 cc1 lcc c4 lc4 lg lxb zv0 zv1 zv2 zu0 zu1 zu2 zt0 zt1 zt2 ei1 ei2 ei3 hpos hnb htx hux hvx
  have FIN : Hid (Q (.returned (.tuple #[])) w1) := by
    show Q _ _
    rw [← HQ.out]
    exact hq
  clear hq HCC
  go_wp2
  refine bodyPost_ret (results_none rfl _ _ _) rfl ?_
  exact FIN.out
theorem st15d (P : StZ w A N root W A1 m bT bD xb k d) (hk : k.k = 15) (H : FrZs (.pointer (some ⟨A.br, 0, none⟩)) (.pointer (some ⟨xb, 0, none⟩)) (.pointer (some ⟨bT, 0, none⟩)) (.pointer (some ⟨bD, 0, none⟩)) (.int .i64 k.k) a) (hl : m.th.tasks.length ≤ 900000) (hvl : m.th.vals.length ≤ 900000) (hv : 3 ≤ m.th.vals.length) (K : ThrOk m) (g2 : (m.topM 2).t = 2) (g1 : (m.topM 1).t = 2) (g0 : (m.topM 0).t = 2) (c5 : cmpN 5 (m.topM 0).n 0 = false) (c3 : cmpN 3 (m.topM 0).n 0 = false) (hw0 : WvB (m.topM 0)) :
    (cTz (stC 14 (cI (stB Tryz.f77.body)))).wp Tryz.prog (Exit.inBlock 0 (bodyPost Tryz.prog Tryz.f77 (PQm w A N root (m.raise mFor)))) a W := by
  obtain ⟨u, rfl⟩ := H.form
  obtain ⟨kk, kn, kx, ke⟩ := k
  obtain ⟨dk, da, db, dc, dnx, dn, dss, dp⟩ := d
  dsimp only at hk
  subst hk
  obtain ⟨Q, HQ⟩ : ∃ Q : Ending → World → Prop, Hid (PQm w A N root (m.raise mFor) = Q) := ⟨_, rfl⟩
  dsimp only at HQ ⊢
  rw [HQ.out]
  obtain ⟨ea, HEA⟩ : ∃ ea, Hid (eAd A.E ke = ea) := ⟨_, rfl⟩
  have HE : Hid (∀ i, ke = some i → i < A.E.length) := P.he
  have HB0 := hid P.B
  have HLT0 : Hid (LcB W A1 bT #[.int .i64 (15 : Nat), .int .i64 kn, .int .i64 kx, .pointer ea] 224) := by
    have := P.LT
    dsimp only at this
    rw [HEA.out] at this
    exact this
  have HLD0 : Hid (LcB W A1 bD #[.int .i64 (dk : Nat), .int .i64 (da : Nat), .int .i64 (db : Nat), .int .i64 (dc : Nat), .int .i64 (dnx : Nat), .int .u64 (dn : Nat), sv dss, .int .i64 (dp : Nat)] 134) := P.LD
  have HT0 : Hid (m.th.tasks.length ≤ 900000 + 0) := hl
  have HV0 : Hid (m.th.vals.length ≤ 900000 + 0) := hvl
  have HXX := hid P.x
  have HBC := hid P.B.c
  have HVK : Hid (3 ≤ m.th.vals.length) := hv
  have HK := hid K
  have HG2 := hid g2
  have HG1 := hid g1
  have HG0 := hid g0
  clear g2 g1 g0
  have HC5 := hid c5
  have HC3 := hid c3
  have HW0 : Hid (∀ v, m.topM 0 = v → WvB v) := fun v hv => by rw [← hv]; exact hw0
  have HG0v : Hid (∀ v, m.topM 0 = v → v.t = 2) := fun v hv => by rw [← hv]; exact HG0.out
  clear c5 c3 hw0
  clear K hv
  clear P H hl hvl
  obtain ⟨c, hc⟩ : ∃ c, c = cTz (stC 14 (cI (stB Tryz.f77.body))) := ⟨_, rfl⟩
  rw [← hc]
  simp only [cTz, cE, cI, cR, stC, stB, Tryz.f77, Option.getD_some] at hc
  subst hc
  have t0 := HLT0.out.h.cell 0
  have t1 := HLT0.out.h.cell 1
  have t2 := HLT0.out.h.cell 2
  have t3 := HLT0.out.h.cell 3
  simp only [List.getElem?_toArray, List.getElem?_cons_succ, List.getElem?_cons_zero] at t0 t1 t2 t3
  have lT := HLT0.out.h.lt
  have d0 := HLD0.out.h.cell 0
  have d1 := HLD0.out.h.cell 1
  have d2 := HLD0.out.h.cell 2
  have d3 := HLD0.out.h.cell 3
  have d4 := HLD0.out.h.cell 4
  have d5 := HLD0.out.h.cell 5
  have d6 := HLD0.out.h.cell 6
  have d7 := HLD0.out.h.cell 7
  simp only [List.getElem?_toArray, List.getElem?_cons_succ, List.getElem?_cons_zero] at d0 d1 d2 d3 d4 d5 d6 d7
  have lD := HLD0.out.h.lt
  obtain ⟨cc0, cc1, lcc⟩ := HB0.out.c0
  obtain ⟨g, cp, c4, lc4, lg, lxb, CV⟩ := HB0.out.tops HXX.out (by have := HVK.out; omega)
  obtain ⟨n, HNV⟩ : ∃ n, Hid (m.th.vals.length = n + 3) := ⟨m.th.vals.length - 3, by show _ = _; have := HVK.out; omega⟩
  obtain ⟨⟨vt, vn, vs⟩, HXv⟩ : ∃ v, Hid (m.topM 0 = v) := ⟨_, rfl⟩
  have D := CV (n + 2) (by rw [HNV.out]; omega)
  have ej : m.th.vals.getD (n + 2) nilV = ⟨vt, vn, vs⟩ := by rw [← HXv.out]; unfold MD.topM; rw [HNV.out]; congr 1
  rw [ej] at D
  dsimp only at D
  obtain ⟨zv0, zv1, zv2⟩ := D
  clear ej
  obtain ⟨⟨ut, un, us⟩, HXu⟩ : ∃ v, Hid (m.topM 1 = v) := ⟨_, rfl⟩
  have D := CV (n + 1) (by rw [HNV.out]; omega)
  have ej : m.th.vals.getD (n + 1) nilV = ⟨ut, un, us⟩ := by rw [← HXu.out]; unfold MD.topM; rw [HNV.out]; congr 1
  rw [ej] at D
  dsimp only at D
  obtain ⟨zu0, zu1, zu2⟩ := D
  clear ej
  obtain ⟨⟨tt, tn, ts⟩, HXt⟩ : ∃ v, Hid (m.topM 2 = v) := ⟨_, rfl⟩
  have D := CV (n) (by rw [HNV.out]; omega)
  have ej : m.th.vals.getD (n) nilV = ⟨tt, tn, ts⟩ := by rw [← HXt.out]; unfold MD.topM; rw [HNV.out]; congr 1
  rw [ej] at D
  dsimp only at D
  obtain ⟨zt0, zt1, zt2⟩ := D
  clear ej
  rw [HNV.out] at c4 lc4
  have hnb : n ≤ 900010 := by have := HV0.out; rw [HNV.out] at this; omega
  clear CV
  have ei1 : (n : Int) + 3 - 1 = (n : Int) + 2 := by omega
  have ei2 : (n : Int) + 3 - 2 = (n : Int) + 1 := by omega
  have ei3 : (n : Int) + 3 - 3 = (n : Int) := by omega
  have hpos : (0 : Int) < (n : Int) + 3 := by omega
  have htx : ((tt : Int) != 2) = false := by
    have := HG2.out
    rw [HXt.out] at this
    dsimp only at this
    rw [this]
    rfl
  have hux : ((ut : Int) != 2) = false := by
    have := HG1.out
    rw [HXu.out] at this
    dsimp only at this
    rw [this]
    rfl
  have hvx : ((vt : Int) != 2) = false := by
    have := HG0.out
    rw [HXv.out] at this
    dsimp only at this
    rw [this]
    rfl
  have CQ5 : Hid (∀ W2, Calls Tryz.prog 122 #[.pointer (some ⟨A.bn, 0, none⟩), .int .i64 5, .int .u64 vn, .int .u64 0] W2 fun e w' => e = .returned (.bool false) ∧ w' = W2) := fun W2 => HB0.out.cmp (op := 5) (c := 0) (by decide) (by decide) ((HW0.out _ HXv.out).2 (HG0v.out _ HXv.out)) (by decide) (by have := HC5.out; rw [HXv.out] at this; exact this) rfl rfl W2
  have CQ3 : Hid (∀ W2, Calls Tryz.prog 122 #[.pointer (some ⟨A.bn, 0, none⟩), .int .i64 3, .int .u64 vn, .int .u64 0] W2 fun e w' => e = .returned (.bool false) ∧ w' = W2) := fun W2 => HB0.out.cmp (op := 3) (c := 0) (by decide) (by decide) ((HW0.out _ HXv.out).2 (HG0v.out _ HXv.out)) (by decide) (by have := HC3.out; rw [HXv.out] at this; exact this) rfl rfl W2
  go_wp2_with fail
  refine wp_region_tail 13 (by kernel_rfl) (by kernel_rfl) (fun _ _ _ _ _ h => h) ?_
  simp only [List.take_succ_cons, List.take_zero, List.drop_succ_cons, List.drop_zero]
  repeat go_big_quiet_step (fail)
  refine wpQuiet_nil ?_
  go_wp2_with fail
  refine (CQ5.out _).mono ?_
  rintro e21 w21 ⟨rfl, hw21⟩
  rw [hw21]
  clear hw21 CQ5
  go_wp2_with fail
  refine wp_region_tail 13 (by kernel_rfl) (by kernel_rfl) (fun _ _ _ _ _ h => h) ?_
  simp only [List.take_succ_cons, List.take_zero, List.drop_succ_cons, List.drop_zero]
  repeat go_big_quiet_step (fail)
  refine wpQuiet_nil ?_
  go_wp2_with fail
  refine (CQ3.out _).mono ?_
  rintro e22 w22 ⟨rfl, hw22⟩
  rw [hw22]
  clear hw22 CQ3
  have HB1 := hid (HB0.out.fresh (((Fr.refl _ _).drew).drew))
  have HLT1 := hid (HLT0.out.fr (((Fr.refl _ _).drew).drew))
  have HLD1 := hid (HLD0.out.fr (((Fr.refl _ _).drew).drew))
  have HT1 : Hid (m.th.tasks.length ≤ 900000 + 1) := by show _ ≤ _; have := HT0.out; omega
  have HV1 : Hid (m.th.vals.length ≤ 900000 + 1) := by show _ ≤ _; have := HV0.out; omega
  have CC := HB1.out.raise HK.out mFor (by decide)
  have HCC := hid CC
  clear CC
  go_wp2_with fail
  refine HCC.out.mono ?_
  intro e10 w2 hq
  obtain rfl := hq.1
  clear t0 t1 t2 t3 lT d0 d1 d2 d3 d4 d5 d6 d7 lD cc0 cc1 lcc c4 lc4 lg lxb zv0 zv1 zv2 zu0 zu1 zu2 zt0 zt1 zt2 ei1 ei2 ei3 hpos hnb htx hux hvx
  have FIN : Hid (Q (.returned (.tuple #[])) w2) := by
    show Q _ _
    rw [← HQ.out]
    exact hq
  clear hq HCC
  go_wp2
  refine bodyPost_ret (results_none rfl _ _ _) rfl ?_
  exact FIN.out
theorem st15e (P : StZ w A N root W A1 m bT bD xb k d) (hk : k.k = 15) (H : FrZs (.pointer (some ⟨A.br, 0, none⟩)) (.pointer (some ⟨xb, 0, none⟩)) (.pointer (some ⟨bT, 0, none⟩)) (.pointer (some ⟨bD, 0, none⟩)) (.int .i64 k.k) a) (hl : m.th.tasks.length ≤ 900000) (hvl : m.th.vals.length ≤ 900000) (hv : 3 ≤ m.th.vals.length) (g2 : (m.topM 2).t = 2) (g1 : (m.topM 1).t = 2) (g0 : (m.topM 0).t = 2) (c5 : cmpN 5 (m.topM 0).n 0 = true) (c3 : cmpN 3 (m.topM 0).n 0 = false) (hw0 : WvB (m.topM 0)) :
    (cTz (stC 14 (cI (stB Tryz.f77.body)))).wp Tryz.prog (Exit.inBlock 0 (bodyPost Tryz.prog Tryz.f77 (PQm w A N root (m.todo [⟨16, k.n, 0, k.e⟩])))) a W := by
  obtain ⟨u, rfl⟩ := H.form
  obtain ⟨kk, kn, kx, ke⟩ := k
  obtain ⟨dk, da, db, dc, dnx, dn, dss, dp⟩ := d
  dsimp only at hk
  subst hk
  obtain ⟨Q, HQ⟩ : ∃ Q : Ending → World → Prop, Hid (PQm w A N root (m.todo [⟨16, kn, 0, ke⟩]) = Q) := ⟨_, rfl⟩
  dsimp only at HQ ⊢
  rw [HQ.out]
  obtain ⟨ea, HEA⟩ : ∃ ea, Hid (eAd A.E ke = ea) := ⟨_, rfl⟩
  have HE : Hid (∀ i, ke = some i → i < A.E.length) := P.he
  have HB0 := hid P.B
  have HLT0 : Hid (LcB W A1 bT #[.int .i64 (15 : Nat), .int .i64 kn, .int .i64 kx, .pointer ea] 224) := by
    have := P.LT
    dsimp only at this
    rw [HEA.out] at this
    exact this
  have HLD0 : Hid (LcB W A1 bD #[.int .i64 (dk : Nat), .int .i64 (da : Nat), .int .i64 (db : Nat), .int .i64 (dc : Nat), .int .i64 (dnx : Nat), .int .u64 (dn : Nat), sv dss, .int .i64 (dp : Nat)] 134) := P.LD
  have HT0 : Hid (m.th.tasks.length ≤ 900000 + 0) := hl
  have HV0 : Hid (m.th.vals.length ≤ 900000 + 0) := hvl
  have HXX := hid P.x
  have HBC := hid P.B.c
  have HVK : Hid (3 ≤ m.th.vals.length) := hv
  have HG2 := hid g2
  have HG1 := hid g1
  have HG0 := hid g0
  clear g2 g1 g0
  have HC5 := hid c5
  have HC3 := hid c3
  have HW0 : Hid (∀ v, m.topM 0 = v → WvB v) := fun v hv => by rw [← hv]; exact hw0
  have HG0v : Hid (∀ v, m.topM 0 = v → v.t = 2) := fun v hv => by rw [← hv]; exact HG0.out
  clear c5 c3 hw0
  clear hv
  clear P H hl hvl
  obtain ⟨c, hc⟩ : ∃ c, c = cTz (stC 14 (cI (stB Tryz.f77.body))) := ⟨_, rfl⟩
  rw [← hc]
  simp only [cTz, cE, cI, cR, stC, stB, Tryz.f77, Option.getD_some] at hc
  subst hc
  have t0 := HLT0.out.h.cell 0
  have t1 := HLT0.out.h.cell 1
  have t2 := HLT0.out.h.cell 2
  have t3 := HLT0.out.h.cell 3
  simp only [List.getElem?_toArray, List.getElem?_cons_succ, List.getElem?_cons_zero] at t0 t1 t2 t3
  have lT := HLT0.out.h.lt
  have d0 := HLD0.out.h.cell 0
  have d1 := HLD0.out.h.cell 1
  have d2 := HLD0.out.h.cell 2
  have d3 := HLD0.out.h.cell 3
  have d4 := HLD0.out.h.cell 4
  have d5 := HLD0.out.h.cell 5
  have d6 := HLD0.out.h.cell 6
  have d7 := HLD0.out.h.cell 7
  simp only [List.getElem?_toArray, List.getElem?_cons_succ, List.getElem?_cons_zero] at d0 d1 d2 d3 d4 d5 d6 d7
  have lD := HLD0.out.h.lt
  obtain ⟨cc0, cc1, lcc⟩ := HB0.out.c0
  obtain ⟨g, cp, c4, lc4, lg, lxb, CV⟩ := HB0.out.tops HXX.out (by have := HVK.out; omega)
  obtain ⟨n, HNV⟩ : ∃ n, Hid (m.th.vals.length = n + 3) := ⟨m.th.vals.length - 3, by show _ = _; have := HVK.out; omega⟩
  obtain ⟨⟨vt, vn, vs⟩, HXv⟩ : ∃ v, Hid (m.topM 0 = v) := ⟨_, rfl⟩
  have D := CV (n + 2) (by rw [HNV.out]; omega)
  have ej : m.th.vals.getD (n + 2) nilV = ⟨vt, vn, vs⟩ := by rw [← HXv.out]; unfold MD.topM; rw [HNV.out]; congr 1
  rw [ej] at D
  dsimp only at D
  obtain ⟨zv0, zv1, zv2⟩ := D
  clear ej
  obtain ⟨⟨ut, un, us⟩, HXu⟩ : ∃ v, Hid (m.topM 1 = v) := ⟨_, rfl⟩
  have D := CV (n + 1) (by rw [HNV.out]; omega)
  have ej : m.th.vals.getD (n + 1) nilV = ⟨ut, un, us⟩ := by rw [← HXu.out]; unfold MD.topM; rw [HNV.out]; congr 1
  rw [ej] at D
  dsimp only at D
  obtain ⟨zu0, zu1, zu2⟩ := D
  clear ej
  obtain ⟨⟨tt, tn, ts⟩, HXt⟩ : ∃ v, Hid (m.topM 2 = v) := ⟨_, rfl⟩
  have D := CV (n) (by rw [HNV.out]; omega)
  have ej : m.th.vals.getD (n) nilV = ⟨tt, tn, ts⟩ := by rw [← HXt.out]; unfold MD.topM; rw [HNV.out]; congr 1
  rw [ej] at D
  dsimp only at D
  obtain ⟨zt0, zt1, zt2⟩ := D
  clear ej
  rw [HNV.out] at c4 lc4
  have hnb : n ≤ 900010 := by have := HV0.out; rw [HNV.out] at this; omega
  clear CV
  have ei1 : (n : Int) + 3 - 1 = (n : Int) + 2 := by omega
  have ei2 : (n : Int) + 3 - 2 = (n : Int) + 1 := by omega
  have ei3 : (n : Int) + 3 - 3 = (n : Int) := by omega
  have hpos : (0 : Int) < (n : Int) + 3 := by omega
  have htx : ((tt : Int) != 2) = false := by
    have := HG2.out
    rw [HXt.out] at this
    dsimp only at this
    rw [this]
    rfl
  have hux : ((ut : Int) != 2) = false := by
    have := HG1.out
    rw [HXu.out] at this
    dsimp only at this
    rw [this]
    rfl
  have hvx : ((vt : Int) != 2) = false := by
    have := HG0.out
    rw [HXv.out] at this
    dsimp only at this
    rw [this]
    rfl
  have CQ5 : Hid (∀ W2, Calls Tryz.prog 122 #[.pointer (some ⟨A.bn, 0, none⟩), .int .i64 5, .int .u64 vn, .int .u64 0] W2 fun e w' => e = .returned (.bool true) ∧ w' = W2) := fun W2 => HB0.out.cmp (op := 5) (c := 0) (by decide) (by decide) ((HW0.out _ HXv.out).2 (HG0v.out _ HXv.out)) (by decide) (by have := HC5.out; rw [HXv.out] at this; exact this) rfl rfl W2
  have CQ3 : Hid (∀ W2, Calls Tryz.prog 122 #[.pointer (some ⟨A.bn, 0, none⟩), .int .i64 3, .int .u64 vn, .int .u64 0] W2 fun e w' => e = .returned (.bool false) ∧ w' = W2) := fun W2 => HB0.out.cmp (op := 3) (c := 0) (by decide) (by decide) ((HW0.out _ HXv.out).2 (HG0v.out _ HXv.out)) (by decide) (by have := HC3.out; rw [HXv.out] at this; exact this) rfl rfl W2
  go_wp2_with fail
  refine wp_region_tail 13 (by kernel_rfl) (by kernel_rfl) (fun _ _ _ _ _ h => h) ?_
  simp only [List.take_succ_cons, List.take_zero, List.drop_succ_cons, List.drop_zero]
  repeat go_big_quiet_step (fail)
  refine wpQuiet_nil ?_
  go_wp2_with fail
  refine (CQ5.out _).mono ?_
  rintro e21 w21 ⟨rfl, hw21⟩
  rw [hw21]
  clear hw21 CQ5
  go_wp2_with fail
  refine wp_region_tail 13 (by kernel_rfl) (by kernel_rfl) (fun _ _ _ _ _ h => h) ?_
  simp only [List.take_succ_cons, List.take_zero, List.drop_succ_cons, List.drop_zero]
  repeat go_big_quiet_step (fail)
  refine wpQuiet_nil ?_
  go_wp2_with fail
  refine (CQ3.out _).mono ?_
  rintro e22 w22 ⟨rfl, hw22⟩
  rw [hw22]
  clear hw22 CQ3
  have HB1 := hid (HB0.out.fresh (((Fr.refl _ _).drew).drew))
  have HLT1 := hid (HLT0.out.fr (((Fr.refl _ _).drew).drew))
  have HLD1 := hid (HLD0.out.fr (((Fr.refl _ _).drew).drew))
  have HT1 : Hid (m.th.tasks.length ≤ 900000 + 1) := by show _ ≤ _; have := HT0.out; omega
  have HV1 : Hid (m.th.vals.length ≤ 900000 + 1) := by show _ ≤ _; have := HV0.out; omega
  have CC := HB1.out.todo (by have := HT1.out; omega) 16 kn 0 ke HE.out (k' := 16) (n' := (kn : Nat)) (x' := 0) rfl rfl rfl
  rw [HEA.out] at CC
  have HCC := hid CC
  clear CC
  go_wp2_with fail
  refine HCC.out.mono ?_
  rintro e10 w2 ⟨rfl, A12, BB, SS⟩
  clear t0 t1 t2 t3 lT d0 d1 d2 d3 d4 d5 d6 d7 lD cc0 cc1 lcc c4 lc4 lg lxb zv0 zv1 zv2 zu0 zu1 zu2 zt0 zt1 zt2 ei1 ei2 ei3 hpos hnb htx hux hvx
  clear HCC
  have HB2 := hid BB
  have HLT2 := hid (HLT1.out.st SS)
  have HLD2 := hid (HLD1.out.st SS)
  have HS2 := hid SS
  clear BB SS
  have HT2 : Hid ((m.todo [⟨16, kn, 0, ke⟩]).th.tasks.length ≤ 900000 + 2) := by
    show _ ≤ _
    rw [th_todo HB1.out.c]
    have := HT1.out
    simp
    omega
  have HV2 : Hid ((m.todo [⟨16, kn, 0, ke⟩]).th.vals.length ≤ 900000 + 2) := by
    show _ ≤ _
    rw [th_todo HB1.out.c]
    have := HV1.out
    simp
    omega
  have t0 := HLT2.out.h.cell 0
  have t1 := HLT2.out.h.cell 1
  have t2 := HLT2.out.h.cell 2
  have t3 := HLT2.out.h.cell 3
  simp only [List.getElem?_toArray, List.getElem?_cons_succ, List.getElem?_cons_zero] at t0 t1 t2 t3
  have lT := HLT2.out.h.lt
  have d0 := HLD2.out.h.cell 0
  have d1 := HLD2.out.h.cell 1
  have d2 := HLD2.out.h.cell 2
  have d3 := HLD2.out.h.cell 3
  have d4 := HLD2.out.h.cell 4
  have d5 := HLD2.out.h.cell 5
  have d6 := HLD2.out.h.cell 6
  have d7 := HLD2.out.h.cell 7
  simp only [List.getElem?_toArray, List.getElem?_cons_succ, List.getElem?_cons_zero] at d0 d1 d2 d3 d4 d5 d6 d7
  have lD := HLD2.out.h.lt
  obtain ⟨cc0, cc1, lcc⟩ := HB2.out.c0
  have FIN : Hid (Q (.returned (.tuple #[])) w2) := by
    show Q _ _
    rw [← HQ.out]
    exact HB2.out.end
  go_wp2
  go_end0
  exact FIN.out
theorem st15f (P : StZ w A N root W A1 m bT bD xb k d) (hk : k.k = 15) (H : FrZs (.pointer (some ⟨A.br, 0, none⟩)) (.pointer (some ⟨xb, 0, none⟩)) (.pointer (some ⟨bT, 0, none⟩)) (.pointer (some ⟨bD, 0, none⟩)) (.int .i64 k.k) a) (hl : m.th.tasks.length ≤ 900000) (hvl : m.th.vals.length ≤ 900000) (hv : 3 ≤ m.th.vals.length) (g2 : (m.topM 2).t = 2) (g1 : (m.topM 1).t = 2) (g0 : (m.topM 0).t = 2) (c5 : cmpN 5 (m.topM 0).n 0 = false) (c3 : cmpN 3 (m.topM 0).n 0 = true) (hw0 : WvB (m.topM 0)) :
    (cTz (stC 14 (cI (stB Tryz.f77.body)))).wp Tryz.prog (Exit.inBlock 0 (bodyPost Tryz.prog Tryz.f77 (PQm w A N root (m.todo [⟨16, k.n, 0, k.e⟩])))) a W := by
  obtain ⟨u, rfl⟩ := H.form
  obtain ⟨kk, kn, kx, ke⟩ := k
  obtain ⟨dk, da, db, dc, dnx, dn, dss, dp⟩ := d
  dsimp only at hk
  subst hk
  obtain ⟨Q, HQ⟩ : ∃ Q : Ending → World → Prop, Hid (PQm w A N root (m.todo [⟨16, kn, 0, ke⟩]) = Q) := ⟨_, rfl⟩
  dsimp only at HQ ⊢
  rw [HQ.out]
  obtain ⟨ea, HEA⟩ : ∃ ea, Hid (eAd A.E ke = ea) := ⟨_, rfl⟩
  have HE : Hid (∀ i, ke = some i → i < A.E.length) := P.he
  have HB0 := hid P.B
  have HLT0 : Hid (LcB W A1 bT #[.int .i64 (15 : Nat), .int .i64 kn, .int .i64 kx, .pointer ea] 224) := by
    have := P.LT
    dsimp only at this
    rw [HEA.out] at this
    exact this
  have HLD0 : Hid (LcB W A1 bD #[.int .i64 (dk : Nat), .int .i64 (da : Nat), .int .i64 (db : Nat), .int .i64 (dc : Nat), .int .i64 (dnx : Nat), .int .u64 (dn : Nat), sv dss, .int .i64 (dp : Nat)] 134) := P.LD
  have HT0 : Hid (m.th.tasks.length ≤ 900000 + 0) := hl
  have HV0 : Hid (m.th.vals.length ≤ 900000 + 0) := hvl
  have HXX := hid P.x
  have HBC := hid P.B.c
  have HVK : Hid (3 ≤ m.th.vals.length) := hv
  have HG2 := hid g2
  have HG1 := hid g1
  have HG0 := hid g0
  clear g2 g1 g0
  have HC5 := hid c5
  have HC3 := hid c3
  have HW0 : Hid (∀ v, m.topM 0 = v → WvB v) := fun v hv => by rw [← hv]; exact hw0
  have HG0v : Hid (∀ v, m.topM 0 = v → v.t = 2) := fun v hv => by rw [← hv]; exact HG0.out
  clear c5 c3 hw0
  clear hv
  clear P H hl hvl
  obtain ⟨c, hc⟩ : ∃ c, c = cTz (stC 14 (cI (stB Tryz.f77.body))) := ⟨_, rfl⟩
  rw [← hc]
  simp only [cTz, cE, cI, cR, stC, stB, Tryz.f77, Option.getD_some] at hc
  subst hc
  have t0 := HLT0.out.h.cell 0
  have t1 := HLT0.out.h.cell 1
  have t2 := HLT0.out.h.cell 2
  have t3 := HLT0.out.h.cell 3
  simp only [List.getElem?_toArray, List.getElem?_cons_succ, List.getElem?_cons_zero] at t0 t1 t2 t3
  have lT := HLT0.out.h.lt
  have d0 := HLD0.out.h.cell 0
  have d1 := HLD0.out.h.cell 1
  have d2 := HLD0.out.h.cell 2
  have d3 := HLD0.out.h.cell 3
  have d4 := HLD0.out.h.cell 4
  have d5 := HLD0.out.h.cell 5
  have d6 := HLD0.out.h.cell 6
  have d7 := HLD0.out.h.cell 7
  simp only [List.getElem?_toArray, List.getElem?_cons_succ, List.getElem?_cons_zero] at d0 d1 d2 d3 d4 d5 d6 d7
  have lD := HLD0.out.h.lt
  obtain ⟨cc0, cc1, lcc⟩ := HB0.out.c0
  obtain ⟨g, cp, c4, lc4, lg, lxb, CV⟩ := HB0.out.tops HXX.out (by have := HVK.out; omega)
  obtain ⟨n, HNV⟩ : ∃ n, Hid (m.th.vals.length = n + 3) := ⟨m.th.vals.length - 3, by show _ = _; have := HVK.out; omega⟩
  obtain ⟨⟨vt, vn, vs⟩, HXv⟩ : ∃ v, Hid (m.topM 0 = v) := ⟨_, rfl⟩
  have D := CV (n + 2) (by rw [HNV.out]; omega)
  have ej : m.th.vals.getD (n + 2) nilV = ⟨vt, vn, vs⟩ := by rw [← HXv.out]; unfold MD.topM; rw [HNV.out]; congr 1
  rw [ej] at D
  dsimp only at D
  obtain ⟨zv0, zv1, zv2⟩ := D
  clear ej
  obtain ⟨⟨ut, un, us⟩, HXu⟩ : ∃ v, Hid (m.topM 1 = v) := ⟨_, rfl⟩
  have D := CV (n + 1) (by rw [HNV.out]; omega)
  have ej : m.th.vals.getD (n + 1) nilV = ⟨ut, un, us⟩ := by rw [← HXu.out]; unfold MD.topM; rw [HNV.out]; congr 1
  rw [ej] at D
  dsimp only at D
  obtain ⟨zu0, zu1, zu2⟩ := D
  clear ej
  obtain ⟨⟨tt, tn, ts⟩, HXt⟩ : ∃ v, Hid (m.topM 2 = v) := ⟨_, rfl⟩
  have D := CV (n) (by rw [HNV.out]; omega)
  have ej : m.th.vals.getD (n) nilV = ⟨tt, tn, ts⟩ := by rw [← HXt.out]; unfold MD.topM; rw [HNV.out]; congr 1
  rw [ej] at D
  dsimp only at D
  obtain ⟨zt0, zt1, zt2⟩ := D
  clear ej
  rw [HNV.out] at c4 lc4
  have hnb : n ≤ 900010 := by have := HV0.out; rw [HNV.out] at this; omega
  clear CV
  have ei1 : (n : Int) + 3 - 1 = (n : Int) + 2 := by omega
  have ei2 : (n : Int) + 3 - 2 = (n : Int) + 1 := by omega
  have ei3 : (n : Int) + 3 - 3 = (n : Int) := by omega
  have hpos : (0 : Int) < (n : Int) + 3 := by omega
  have htx : ((tt : Int) != 2) = false := by
    have := HG2.out
    rw [HXt.out] at this
    dsimp only at this
    rw [this]
    rfl
  have hux : ((ut : Int) != 2) = false := by
    have := HG1.out
    rw [HXu.out] at this
    dsimp only at this
    rw [this]
    rfl
  have hvx : ((vt : Int) != 2) = false := by
    have := HG0.out
    rw [HXv.out] at this
    dsimp only at this
    rw [this]
    rfl
  have CQ5 : Hid (∀ W2, Calls Tryz.prog 122 #[.pointer (some ⟨A.bn, 0, none⟩), .int .i64 5, .int .u64 vn, .int .u64 0] W2 fun e w' => e = .returned (.bool false) ∧ w' = W2) := fun W2 => HB0.out.cmp (op := 5) (c := 0) (by decide) (by decide) ((HW0.out _ HXv.out).2 (HG0v.out _ HXv.out)) (by decide) (by have := HC5.out; rw [HXv.out] at this; exact this) rfl rfl W2
  have CQ3 : Hid (∀ W2, Calls Tryz.prog 122 #[.pointer (some ⟨A.bn, 0, none⟩), .int .i64 3, .int .u64 vn, .int .u64 0] W2 fun e w' => e = .returned (.bool true) ∧ w' = W2) := fun W2 => HB0.out.cmp (op := 3) (c := 0) (by decide) (by decide) ((HW0.out _ HXv.out).2 (HG0v.out _ HXv.out)) (by decide) (by have := HC3.out; rw [HXv.out] at this; exact this) rfl rfl W2
  go_wp2_with fail
  refine wp_region_tail 13 (by kernel_rfl) (by kernel_rfl) (fun _ _ _ _ _ h => h) ?_
  simp only [List.take_succ_cons, List.take_zero, List.drop_succ_cons, List.drop_zero]
  repeat go_big_quiet_step (fail)
  refine wpQuiet_nil ?_
  go_wp2_with fail
  refine (CQ5.out _).mono ?_
  rintro e21 w21 ⟨rfl, hw21⟩
  rw [hw21]
  clear hw21 CQ5
  go_wp2_with fail
  refine wp_region_tail 13 (by kernel_rfl) (by kernel_rfl) (fun _ _ _ _ _ h => h) ?_
  simp only [List.take_succ_cons, List.take_zero, List.drop_succ_cons, List.drop_zero]
  repeat go_big_quiet_step (fail)
  refine wpQuiet_nil ?_
  go_wp2_with fail
  refine (CQ3.out _).mono ?_
  rintro e22 w22 ⟨rfl, hw22⟩
  rw [hw22]
  clear hw22 CQ3
  have HB1 := hid (HB0.out.fresh (((Fr.refl _ _).drew).drew))
  have HLT1 := hid (HLT0.out.fr (((Fr.refl _ _).drew).drew))
  have HLD1 := hid (HLD0.out.fr (((Fr.refl _ _).drew).drew))
  have HT1 : Hid (m.th.tasks.length ≤ 900000 + 1) := by show _ ≤ _; have := HT0.out; omega
  have HV1 : Hid (m.th.vals.length ≤ 900000 + 1) := by show _ ≤ _; have := HV0.out; omega
  have CC := HB1.out.todo (by have := HT1.out; omega) 16 kn 0 ke HE.out (k' := 16) (n' := (kn : Nat)) (x' := 0) rfl rfl rfl
  rw [HEA.out] at CC
  have HCC := hid CC
  clear CC
  go_wp2_with fail
  refine HCC.out.mono ?_
  rintro e10 w2 ⟨rfl, A12, BB, SS⟩
  clear t0 t1 t2 t3 lT d0 d1 d2 d3 d4 d5 d6 d7 lD cc0 cc1 lcc c4 lc4 lg lxb zv0 zv1 zv2 zu0 zu1 zu2 zt0 zt1 zt2 ei1 ei2 ei3 hpos hnb htx hux hvx
  clear HCC
  have HB2 := hid BB
  have HLT2 := hid (HLT1.out.st SS)
  have HLD2 := hid (HLD1.out.st SS)
  have HS2 := hid SS
  clear BB SS
  have HT2 : Hid ((m.todo [⟨16, kn, 0, ke⟩]).th.tasks.length ≤ 900000 + 2) := by
    show _ ≤ _
    rw [th_todo HB1.out.c]
    have := HT1.out
    simp
    omega
  have HV2 : Hid ((m.todo [⟨16, kn, 0, ke⟩]).th.vals.length ≤ 900000 + 2) := by
    show _ ≤ _
    rw [th_todo HB1.out.c]
    have := HV1.out
    simp
    omega
  have t0 := HLT2.out.h.cell 0
  have t1 := HLT2.out.h.cell 1
  have t2 := HLT2.out.h.cell 2
  have t3 := HLT2.out.h.cell 3
  simp only [List.getElem?_toArray, List.getElem?_cons_succ, List.getElem?_cons_zero] at t0 t1 t2 t3
  have lT := HLT2.out.h.lt
  have d0 := HLD2.out.h.cell 0
  have d1 := HLD2.out.h.cell 1
  have d2 := HLD2.out.h.cell 2
  have d3 := HLD2.out.h.cell 3
  have d4 := HLD2.out.h.cell 4
  have d5 := HLD2.out.h.cell 5
  have d6 := HLD2.out.h.cell 6
  have d7 := HLD2.out.h.cell 7
  simp only [List.getElem?_toArray, List.getElem?_cons_succ, List.getElem?_cons_zero] at d0 d1 d2 d3 d4 d5 d6 d7
  have lD := HLD2.out.h.lt
  obtain ⟨cc0, cc1, lcc⟩ := HB2.out.c0
  have FIN : Hid (Q (.returned (.tuple #[])) w2) := by
    show Q _ _
    rw [← HQ.out]
    exact HB2.out.end
  go_wp2
  go_end0
  exact FIN.out
theorem st15g (P : StZ w A N root W A1 m bT bD xb k d) (hk : k.k = 15) (H : FrZs (.pointer (some ⟨A.br, 0, none⟩)) (.pointer (some ⟨xb, 0, none⟩)) (.pointer (some ⟨bT, 0, none⟩)) (.pointer (some ⟨bD, 0, none⟩)) (.int .i64 k.k) a) (hl : m.th.tasks.length ≤ 900000) (hvl : m.th.vals.length ≤ 900000) (hv : 3 ≤ m.th.vals.length) (g2 : (m.topM 2).t = 2) (g1 : (m.topM 1).t = 2) (g0 : (m.topM 0).t = 2) (c5 : cmpN 5 (m.topM 0).n 0 = true) (c3 : cmpN 3 (m.topM 0).n 0 = true) (hw0 : WvB (m.topM 0)) :
    (cTz (stC 14 (cI (stB Tryz.f77.body)))).wp Tryz.prog (Exit.inBlock 0 (bodyPost Tryz.prog Tryz.f77 (PQm w A N root (m.todo [⟨16, k.n, 0, k.e⟩])))) a W := by
  obtain ⟨u, rfl⟩ := H.form
  obtain ⟨kk, kn, kx, ke⟩ := k
  obtain ⟨dk, da, db, dc, dnx, dn, dss, dp⟩ := d
  dsimp only at hk
  subst hk
  obtain ⟨Q, HQ⟩ : ∃ Q : Ending → World → Prop, Hid (PQm w A N root (m.todo [⟨16, kn, 0, ke⟩]) = Q) := ⟨_, rfl⟩
  dsimp only at HQ ⊢
  rw [HQ.out]
  obtain ⟨ea, HEA⟩ : ∃ ea, Hid (eAd A.E ke = ea) := ⟨_, rfl⟩
  have HE : Hid (∀ i, ke = some i → i < A.E.length) := P.he
  have HB0 := hid P.B
  have HLT0 : Hid (LcB W A1 bT #[.int .i64 (15 : Nat), .int .i64 kn, .int .i64 kx, .pointer ea] 224) := by
    have := P.LT
    dsimp only at this
    rw [HEA.out] at this
    exact this
  have HLD0 : Hid (LcB W A1 bD #[.int .i64 (dk : Nat), .int .i64 (da : Nat), .int .i64 (db : Nat), .int .i64 (dc : Nat), .int .i64 (dnx : Nat), .int .u64 (dn : Nat), sv dss, .int .i64 (dp : Nat)] 134) := P.LD
  have HT0 : Hid (m.th.tasks.length ≤ 900000 + 0) := hl
  have HV0 : Hid (m.th.vals.length ≤ 900000 + 0) := hvl
  have HXX := hid P.x
  have HBC := hid P.B.c
  have HVK : Hid (3 ≤ m.th.vals.length) := hv
  have HG2 := hid g2
  have HG1 := hid g1
  have HG0 := hid g0
  clear g2 g1 g0
  have HC5 := hid c5
  have HC3 := hid c3
  have HW0 : Hid (∀ v, m.topM 0 = v → WvB v) := fun v hv => by rw [← hv]; exact hw0
  have HG0v : Hid (∀ v, m.topM 0 = v → v.t = 2) := fun v hv => by rw [← hv]; exact HG0.out
  clear c5 c3 hw0
  clear hv
  clear P H hl hvl
  obtain ⟨c, hc⟩ : ∃ c, c = cTz (stC 14 (cI (stB Tryz.f77.body))) := ⟨_, rfl⟩
  rw [← hc]
  simp only [cTz, cE, cI, cR, stC, stB, Tryz.f77, Option.getD_some] at hc
  subst hc
  have t0 := HLT0.out.h.cell 0
  have t1 := HLT0.out.h.cell 1
  have t2 := HLT0.out.h.cell 2
  have t3 := HLT0.out.h.cell 3
  simp only [List.getElem?_toArray, List.getElem?_cons_succ, List.getElem?_cons_zero] at t0 t1 t2 t3
  have lT := HLT0.out.h.lt
  have d0 := HLD0.out.h.cell 0
  have d1 := HLD0.out.h.cell 1
  have d2 := HLD0.out.h.cell 2
  have d3 := HLD0.out.h.cell 3
  have d4 := HLD0.out.h.cell 4
  have d5 := HLD0.out.h.cell 5
  have d6 := HLD0.out.h.cell 6
  have d7 := HLD0.out.h.cell 7
  simp only [List.getElem?_toArray, List.getElem?_cons_succ, List.getElem?_cons_zero] at d0 d1 d2 d3 d4 d5 d6 d7
  have lD := HLD0.out.h.lt
  obtain ⟨cc0, cc1, lcc⟩ := HB0.out.c0
  obtain ⟨g, cp, c4, lc4, lg, lxb, CV⟩ := HB0.out.tops HXX.out (by have := HVK.out; omega)
  obtain ⟨n, HNV⟩ : ∃ n, Hid (m.th.vals.length = n + 3) := ⟨m.th.vals.length - 3, by show _ = _; have := HVK.out; omega⟩
  obtain ⟨⟨vt, vn, vs⟩, HXv⟩ : ∃ v, Hid (m.topM 0 = v) := ⟨_, rfl⟩
  have D := CV (n + 2) (by rw [HNV.out]; omega)
  have ej : m.th.vals.getD (n + 2) nilV = ⟨vt, vn, vs⟩ := by rw [← HXv.out]; unfold MD.topM; rw [HNV.out]; congr 1
  rw [ej] at D
  dsimp only at D
  obtain ⟨zv0, zv1, zv2⟩ := D
  clear ej
  obtain ⟨⟨ut, un, us⟩, HXu⟩ : ∃ v, Hid (m.topM 1 = v) := ⟨_, rfl⟩
  have D := CV (n + 1) (by rw [HNV.out]; omega)
  have ej : m.th.vals.getD (n + 1) nilV = ⟨ut, un, us⟩ := by rw [← HXu.out]; unfold MD.topM; rw [HNV.out]; congr 1
  rw [ej] at D
  dsimp only at D
  obtain ⟨zu0, zu1, zu2⟩ := D
  clear ej
  obtain ⟨⟨tt, tn, ts⟩, HXt⟩ : ∃ v, Hid (m.topM 2 = v) := ⟨_, rfl⟩
  have D := CV (n) (by rw [HNV.out]; omega)
  have ej : m.th.vals.getD (n) nilV = ⟨tt, tn, ts⟩ := by rw [← HXt.out]; unfold MD.topM; rw [HNV.out]; congr 1
  rw [ej] at D
  dsimp only at D
  obtain ⟨zt0, zt1, zt2⟩ := D
  clear ej
  rw [HNV.out] at c4 lc4
  have hnb : n ≤ 900010 := by have := HV0.out; rw [HNV.out] at this; omega
  clear CV
  have ei1 : (n : Int) + 3 - 1 = (n : Int) + 2 := by omega
  have ei2 : (n : Int) + 3 - 2 = (n : Int) + 1 := by omega
  have ei3 : (n : Int) + 3 - 3 = (n : Int) := by omega
  have hpos : (0 : Int) < (n : Int) + 3 := by omega
  have htx : ((tt : Int) != 2) = false := by
    have := HG2.out
    rw [HXt.out] at this
    dsimp only at this
    rw [this]
    rfl
  have hux : ((ut : Int) != 2) = false := by
    have := HG1.out
    rw [HXu.out] at this
    dsimp only at this
    rw [this]
    rfl
  have hvx : ((vt : Int) != 2) = false := by
    have := HG0.out
    rw [HXv.out] at this
    dsimp only at this
    rw [this]
    rfl
  have CQ5 : Hid (∀ W2, Calls Tryz.prog 122 #[.pointer (some ⟨A.bn, 0, none⟩), .int .i64 5, .int .u64 vn, .int .u64 0] W2 fun e w' => e = .returned (.bool true) ∧ w' = W2) := fun W2 => HB0.out.cmp (op := 5) (c := 0) (by decide) (by decide) ((HW0.out _ HXv.out).2 (HG0v.out _ HXv.out)) (by decide) (by have := HC5.out; rw [HXv.out] at this; exact this) rfl rfl W2
  have CQ3 : Hid (∀ W2, Calls Tryz.prog 122 #[.pointer (some ⟨A.bn, 0, none⟩), .int .i64 3, .int .u64 vn, .int .u64 0] W2 fun e w' => e = .returned (.bool true) ∧ w' = W2) := fun W2 => HB0.out.cmp (op := 3) (c := 0) (by decide) (by decide) ((HW0.out _ HXv.out).2 (HG0v.out _ HXv.out)) (by decide) (by have := HC3.out; rw [HXv.out] at this; exact this) rfl rfl W2
  go_wp2_with fail
  refine wp_region_tail 13 (by kernel_rfl) (by kernel_rfl) (fun _ _ _ _ _ h => h) ?_
  simp only [List.take_succ_cons, List.take_zero, List.drop_succ_cons, List.drop_zero]
  repeat go_big_quiet_step (fail)
  refine wpQuiet_nil ?_
  go_wp2_with fail
  refine (CQ5.out _).mono ?_
  rintro e21 w21 ⟨rfl, hw21⟩
  rw [hw21]
  clear hw21 CQ5
  go_wp2_with fail
  refine wp_region_tail 13 (by kernel_rfl) (by kernel_rfl) (fun _ _ _ _ _ h => h) ?_
  simp only [List.take_succ_cons, List.take_zero, List.drop_succ_cons, List.drop_zero]
  repeat go_big_quiet_step (fail)
  refine wpQuiet_nil ?_
  go_wp2_with fail
  refine (CQ3.out _).mono ?_
  rintro e22 w22 ⟨rfl, hw22⟩
  rw [hw22]
  clear hw22 CQ3
  have HB1 := hid (HB0.out.fresh (((Fr.refl _ _).drew).drew))
  have HLT1 := hid (HLT0.out.fr (((Fr.refl _ _).drew).drew))
  have HLD1 := hid (HLD0.out.fr (((Fr.refl _ _).drew).drew))
  have HT1 : Hid (m.th.tasks.length ≤ 900000 + 1) := by show _ ≤ _; have := HT0.out; omega
  have HV1 : Hid (m.th.vals.length ≤ 900000 + 1) := by show _ ≤ _; have := HV0.out; omega
  have CC := HB1.out.todo (by have := HT1.out; omega) 16 kn 0 ke HE.out (k' := 16) (n' := (kn : Nat)) (x' := 0) rfl rfl rfl
  rw [HEA.out] at CC
  have HCC := hid CC
  clear CC
  go_wp2_with fail
  refine HCC.out.mono ?_
  rintro e10 w2 ⟨rfl, A12, BB, SS⟩
  clear t0 t1 t2 t3 lT d0 d1 d2 d3 d4 d5 d6 d7 lD cc0 cc1 lcc c4 lc4 lg lxb zv0 zv1 zv2 zu0 zu1 zu2 zt0 zt1 zt2 ei1 ei2 ei3 hpos hnb htx hux hvx
  clear HCC
  have HB2 := hid BB
  have HLT2 := hid (HLT1.out.st SS)
  have HLD2 := hid (HLD1.out.st SS)
  have HS2 := hid SS
  clear BB SS
  have HT2 : Hid ((m.todo [⟨16, kn, 0, ke⟩]).th.tasks.length ≤ 900000 + 2) := by
    show _ ≤ _
    rw [th_todo HB1.out.c]
    have := HT1.out
    simp
    omega
  have HV2 : Hid ((m.todo [⟨16, kn, 0, ke⟩]).th.vals.length ≤ 900000 + 2) := by
    show _ ≤ _
    rw [th_todo HB1.out.c]
    have := HV1.out
    simp
    omega
  have t0 := HLT2.out.h.cell 0
  have t1 := HLT2.out.h.cell 1
  have t2 := HLT2.out.h.cell 2
  have t3 := HLT2.out.h.cell 3
  simp only [List.getElem?_toArray, List.getElem?_cons_succ, List.getElem?_cons_zero] at t0 t1 t2 t3
  have lT := HLT2.out.h.lt
  have d0 := HLD2.out.h.cell 0
  have d1 := HLD2.out.h.cell 1
  have d2 := HLD2.out.h.cell 2
  have d3 := HLD2.out.h.cell 3
  have d4 := HLD2.out.h.cell 4
  have d5 := HLD2.out.h.cell 5
  have d6 := HLD2.out.h.cell 6
  have d7 := HLD2.out.h.cell 7
  simp only [List.getElem?_toArray, List.getElem?_cons_succ, List.getElem?_cons_zero] at d0 d1 d2 d3 d4 d5 d6 d7
  have lD := HLD2.out.h.lt
  obtain ⟨cc0, cc1, lcc⟩ := HB2.out.c0
  have FIN : Hid (Q (.returned (.tuple #[])) w2) := by
    show Q _ _
    rw [← HQ.out]
    exact HB2.out.end
  go_wp2
  go_end0
  exact FIN.out
end
end Go.Proofs.Qxb6500574aGreatDoor
