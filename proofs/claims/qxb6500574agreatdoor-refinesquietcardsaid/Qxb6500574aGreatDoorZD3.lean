/-
  THE WALKS of compm: step: plain kinds.
-/
import Derived.Test.Qxb6500574aGreatDoorZD2
namespace Go.Proofs.Qxb6500574aGreatDoor
open Go Go.RowKit
set_option linter.unusedVariables false
set_option linter.unusedSimpArgs false
section
variable {w W W1 : World} {A A1 A2 : RnP} {N : List Nd} {root : Nat} {M m : MD} {k : TkD} {r : List TkD} {d : Nd} {bT bD xb : Nat} {a : Act}
set_option maxRecDepth 100000
set_option maxHeartbeats 2000000
theorem st4 (P : StZ w A N root W A1 m bT bD xb k d) (hk : k.k = 4) (H : FrZs (.pointer (some ⟨A.br, 0, none⟩)) (.pointer (some ⟨xb, 0, none⟩)) (.pointer (some ⟨bT, 0, none⟩)) (.pointer (some ⟨bD, 0, none⟩)) (.int .i64 k.k) a) (hl : m.th.tasks.length ≤ 900000) (hvl : m.th.vals.length ≤ 900000) :
    (cTz (stC 3 (cI (stB Tryz.f77.body)))).wp Tryz.prog (Exit.inBlock 0 (bodyPost Tryz.prog Tryz.f77 (PQm w A N root (m)))) a W := by
  obtain ⟨u, rfl⟩ := H.form
  obtain ⟨kk, kn, kx, ke⟩ := k
  obtain ⟨dk, da, db, dc, dnx, dn, dss, dp⟩ := d
  dsimp only at hk
  subst hk
  obtain ⟨Q, HQ⟩ : ∃ Q : Ending → World → Prop, Hid (PQm w A N root (m) = Q) := ⟨_, rfl⟩
  dsimp only at HQ ⊢
  rw [HQ.out]
  obtain ⟨ea, HEA⟩ : ∃ ea, Hid (eAd A.E ke = ea) := ⟨_, rfl⟩
  have HE : Hid (∀ i, ke = some i → i < A.E.length) := P.he
  have HB0 := hid P.B
  have HLT0 : Hid (LcB W A1 bT #[.int .i64 (4 : Nat), .int .i64 kn, .int .i64 kx, .pointer ea] 224) := by
    have := P.LT
    dsimp only at this
    rw [HEA.out] at this
    exact this
  have HLD0 : Hid (LcB W A1 bD #[.int .i64 (dk : Nat), .int .i64 (da : Nat), .int .i64 (db : Nat), .int .i64 (dc : Nat), .int .i64 (dnx : Nat), .int .u64 (dn : Nat), sv dss, .int .i64 (dp : Nat)] 134) := P.LD
  have HT0 : Hid (m.th.tasks.length ≤ 900000 + 0) := hl
  have HV0 : Hid (m.th.vals.length ≤ 900000 + 0) := hvl
  have HXX := hid P.x
  have HBC := hid P.B.c
  clear P H hl hvl
  obtain ⟨c, hc⟩ : ∃ c, c = cTz (stC 3 (cI (stB Tryz.f77.body))) := ⟨_, rfl⟩
  rw [← hc]
  simp only [cTz, cE, cI, cR, stC, stB, Tryz.f77, Option.getD_some] at hc
  subst hc
  have t0 := HLT0.out.h.cell 0
  have t1 := HLT0.out.h.cell 1
  have t2 := HLT0.out.h.cell 2
  have t3 := HLT0.out.h.cell 3
  simp only [List.getElem?_toArray, List.getElem?_cons_succ, List.getElem?_cons_zero] at t0 t1 t2 t3
  have lT := HLT0.out.h.lt
  have d0 := HLD0.out.h.cell 0
  have d1 := HLD0.out.h.cell 1
  have d2 := HLD0.out.h.cell 2
  have d3 := HLD0.out.h.cell 3
  have d4 := HLD0.out.h.cell 4
  have d5 := HLD0.out.h.cell 5
  have d6 := HLD0.out.h.cell 6
  have d7 := HLD0.out.h.cell 7
  simp only [List.getElem?_toArray, List.getElem?_cons_succ, List.getElem?_cons_zero] at d0 d1 d2 d3 d4 d5 d6 d7
  have lD := HLD0.out.h.lt
  obtain ⟨cc0, cc1, lcc⟩ := HB0.out.c0
  have FIN : Hid (Q (.returned (.tuple #[])) W) := by
    show Q _ _
    rw [← HQ.out]
    exact HB0.out.end
  go_wp2
  go_end0
  exact FIN.out
theorem st1 (P : StZ w A N root W A1 m bT bD xb k d) (hk : k.k = 1) (H : FrZs (.pointer (some ⟨A.br, 0, none⟩)) (.pointer (some ⟨xb, 0, none⟩)) (.pointer (some ⟨bT, 0, none⟩)) (.pointer (some ⟨bD, 0, none⟩)) (.int .i64 k.k) a) (hl : m.th.tasks.length ≤ 900000) (hvl : m.th.vals.length ≤ 900000) (hn0 : k.n ≠ 0) (RO : RefOk m) (NO : NdsOk N) (hn : k.n < N.length) (hkk : 1 ≤ (N.getD k.n nd0).k ∧ (N.getD k.n nd0).k ≤ 11) (hx : ∀ x r, brkT m.th.tasks = some (x, r) → x ≤ m.th.vals.length) :
    (cTz (stC 0 (cI (stB Tryz.f77.body)))).wp Tryz.prog (Exit.inBlock 0 (bodyPost Tryz.prog Tryz.f77 (PQm w A N root (m.stmt N k.n k.e)))) a W := by
  obtain ⟨u, rfl⟩ := H.form
  obtain ⟨kk, kn, kx, ke⟩ := k
  obtain ⟨dk, da, db, dc, dnx, dn, dss, dp⟩ := d
  dsimp only at hk hn0 hn hkk
  subst hk
  obtain ⟨Q, HQ⟩ : ∃ Q : Ending → World → Prop, Hid (PQm w A N root (m.stmt N kn ke) = Q) := ⟨_, rfl⟩
  dsimp only at HQ ⊢
  rw [HQ.out]
  obtain ⟨ea, HEA⟩ : ∃ ea, Hid (eAd A.E ke = ea) := ⟨_, rfl⟩
  have HE : Hid (∀ i, ke = some i → i < A.E.length) := P.he
  have HB0 := hid P.B
  have HLT0 : Hid (LcB W A1 bT #[.int .i64 (1 : Nat), .int .i64 kn, .int .i64 kx, .pointer ea] 224) := by
    have := P.LT
    dsimp only at this
    rw [HEA.out] at this
    exact this
  have HLD0 : Hid (LcB W A1 bD #[.int .i64 (dk : Nat), .int .i64 (da : Nat), .int .i64 (db : Nat), .int .i64 (dc : Nat), .int .i64 (dnx : Nat), .int .u64 (dn : Nat), sv dss, .int .i64 (dp : Nat)] 134) := P.LD
  have HT0 : Hid (m.th.tasks.length ≤ 900000 + 0) := hl
  have HV0 : Hid (m.th.vals.length ≤ 900000 + 0) := hvl
  have HXX := hid P.x
  have HBC := hid P.B.c
  have RO := hid RO
  have NO := hid NO
  have HN := hid hn
  have HK := hid hkk
  have HX := hid hx
  have b0 : ((kn : Int) != 0) = true := by rw [bne_iff_ne]; omega
  clear hn hkk hx hn0
  clear P H hl hvl
  obtain ⟨c, hc⟩ : ∃ c, c = cTz (stC 0 (cI (stB Tryz.f77.body))) := ⟨_, rfl⟩
  rw [← hc]
  simp only [cTz, cE, cI, cR, stC, stB, Tryz.f77, Option.getD_some] at hc
  subst hc
  have t0 := HLT0.out.h.cell 0
  have t1 := HLT0.out.h.cell 1
  have t2 := HLT0.out.h.cell 2
  have t3 := HLT0.out.h.cell 3
  simp only [List.getElem?_toArray, List.getElem?_cons_succ, List.getElem?_cons_zero] at t0 t1 t2 t3
  have lT := HLT0.out.h.lt
  have d0 := HLD0.out.h.cell 0
  have d1 := HLD0.out.h.cell 1
  have d2 := HLD0.out.h.cell 2
  have d3 := HLD0.out.h.cell 3
  have d4 := HLD0.out.h.cell 4
  have d5 := HLD0.out.h.cell 5
  have d6 := HLD0.out.h.cell 6
  have d7 := HLD0.out.h.cell 7
  simp only [List.getElem?_toArray, List.getElem?_cons_succ, List.getElem?_cons_zero] at d0 d1 d2 d3 d4 d5 d6 d7
  have lD := HLD0.out.h.lt
  obtain ⟨cc0, cc1, lcc⟩ := HB0.out.c0
  have CC := stmt_m HB0.out (by have := HT0.out; omega) (by have := HV0.out; omega) RO.out NO.out HN.out HE.out HK.out HX.out
  rw [HEA.out] at CC
  have HCC := hid CC
  clear CC
  go_wp2_with fail
  refine HCC.out.mono ?_
  intro e9 w1 hq
  obtain rfl := hq.1
  clear t0 t1 t2 t3 lT d0 d1 d2 d3 d4 d5 d6 d7 lD cc0 cc1 lcc
  have FIN : Hid (Q (.returned (.tuple #[])) w1) := by
    show Q _ _
    rw [← HQ.out]
    exact hq
  clear hq HCC
  go_wp2
  go_end0
  exact FIN.out
theorem st1z (P : StZ w A N root W A1 m bT bD xb k d) (hk : k.k = 1) (H : FrZs (.pointer (some ⟨A.br, 0, none⟩)) (.pointer (some ⟨xb, 0, none⟩)) (.pointer (some ⟨bT, 0, none⟩)) (.pointer (some ⟨bD, 0, none⟩)) (.int .i64 k.k) a) (hl : m.th.tasks.length ≤ 900000) (hvl : m.th.vals.length ≤ 900000) (hn0 : k.n = 0) :
    (cTz (stC 0 (cI (stB Tryz.f77.body)))).wp Tryz.prog (Exit.inBlock 0 (bodyPost Tryz.prog Tryz.f77 (PQm w A N root (m)))) a W := by
  obtain ⟨u, rfl⟩ := H.form
  obtain ⟨kk, kn, kx, ke⟩ := k
  obtain ⟨dk, da, db, dc, dnx, dn, dss, dp⟩ := d
  dsimp only at hk hn0
  subst hk
  obtain ⟨Q, HQ⟩ : ∃ Q : Ending → World → Prop, Hid (PQm w A N root (m) = Q) := ⟨_, rfl⟩
  dsimp only at HQ ⊢
  rw [HQ.out]
  obtain ⟨ea, HEA⟩ : ∃ ea, Hid (eAd A.E ke = ea) := ⟨_, rfl⟩
  have HE : Hid (∀ i, ke = some i → i < A.E.length) := P.he
  have HB0 := hid P.B
  have HLT0 : Hid (LcB W A1 bT #[.int .i64 (1 : Nat), .int .i64 kn, .int .i64 kx, .pointer ea] 224) := by
    have := P.LT
    dsimp only at this
    rw [HEA.out] at this
    exact this
  have HLD0 : Hid (LcB W A1 bD #[.int .i64 (dk : Nat), .int .i64 (da : Nat), .int .i64 (db : Nat), .int .i64 (dc : Nat), .int .i64 (dnx : Nat), .int .u64 (dn : Nat), sv dss, .int .i64 (dp : Nat)] 134) := P.LD
  have HT0 : Hid (m.th.tasks.length ≤ 900000 + 0) := hl
  have HV0 : Hid (m.th.vals.length ≤ 900000 + 0) := hvl
  have HXX := hid P.x
  have HBC := hid P.B.c
  have b0 : ((kn : Int) != 0) = false := by rw [hn0]; rfl
  clear hn0
  clear P H hl hvl
  obtain ⟨c, hc⟩ : ∃ c, c = cTz (stC 0 (cI (stB Tryz.f77.body))) := ⟨_, rfl⟩
  rw [← hc]
  simp only [cTz, cE, cI, cR, stC, stB, Tryz.f77, Option.getD_some] at hc
  subst hc
  have t0 := HLT0.out.h.cell 0
  have t1 := HLT0.out.h.cell 1
  have t2 := HLT0.out.h.cell 2
  have t3 := HLT0.out.h.cell 3
  simp only [List.getElem?_toArray, List.getElem?_cons_succ, List.getElem?_cons_zero] at t0 t1 t2 t3
  have lT := HLT0.out.h.lt
  have d0 := HLD0.out.h.cell 0
  have d1 := HLD0.out.h.cell 1
  have d2 := HLD0.out.h.cell 2
  have d3 := HLD0.out.h.cell 3
  have d4 := HLD0.out.h.cell 4
  have d5 := HLD0.out.h.cell 5
  have d6 := HLD0.out.h.cell 6
  have d7 := HLD0.out.h.cell 7
  simp only [List.getElem?_toArray, List.getElem?_cons_succ, List.getElem?_cons_zero] at d0 d1 d2 d3 d4 d5 d6 d7
  have lD := HLD0.out.h.lt
  obtain ⟨cc0, cc1, lcc⟩ := HB0.out.c0
  have FIN : Hid (Q (.returned (.tuple #[])) W) := by
    show Q _ _
    rw [← HQ.out]
    exact HB0.out.end
  go_wp2
  go_end0
  exact FIN.out
theorem st2 (P : StZ w A N root W A1 m bT bD xb k d) (hk : k.k = 2) (H : FrZs (.pointer (some ⟨A.br, 0, none⟩)) (.pointer (some ⟨xb, 0, none⟩)) (.pointer (some ⟨bT, 0, none⟩)) (.pointer (some ⟨bD, 0, none⟩)) (.int .i64 k.k) a) (hl : m.th.tasks.length ≤ 900000) (hvl : m.th.vals.length ≤ 900000) (RO : RefOk m) (TI : ∀ t ∈ m.tabs, TTi t) (h0t : 0 < m.tabs.length) (h12 : m.tabs.length ≤ 12) (h24 : m.clos.length ≤ 24) (NO : NdsOk N) (hn : k.n < N.length) (hkk : k.n ≠ 0 → 12 ≤ (N.getD k.n nd0).k ∧ (N.getD k.n nd0).k ≤ 25) (hs : (N.getD k.n nd0).k = 17 → (N.getD k.n nd0).s.length ≤ 40) :
    (cTz (stC 1 (cI (stB Tryz.f77.body)))).wp Tryz.prog (Exit.inBlock 0 (bodyPost Tryz.prog Tryz.f77 (PQm w A N root (m.eval N k.n k.x k.e)))) a W := by
  obtain ⟨u, rfl⟩ := H.form
  obtain ⟨kk, kn, kx, ke⟩ := k
  obtain ⟨dk, da, db, dc, dnx, dn, dss, dp⟩ := d
  dsimp only at hk hn hkk hs
  subst hk
  obtain ⟨Q, HQ⟩ : ∃ Q : Ending → World → Prop, Hid (PQm w A N root (m.eval N kn kx ke) = Q) := ⟨_, rfl⟩
  dsimp only at HQ ⊢
  rw [HQ.out]
  obtain ⟨ea, HEA⟩ : ∃ ea, Hid (eAd A.E ke = ea) := ⟨_, rfl⟩
  have HE : Hid (∀ i, ke = some i → i < A.E.length) := P.he
  have HB0 := hid P.B
  have HLT0 : Hid (LcB W A1 bT #[.int .i64 (2 : Nat), .int .i64 kn, .int .i64 kx, .pointer ea] 224) := by
    have := P.LT
    dsimp only at this
    rw [HEA.out] at this
    exact this
  have HLD0 : Hid (LcB W A1 bD #[.int .i64 (dk : Nat), .int .i64 (da : Nat), .int .i64 (db : Nat), .int .i64 (dc : Nat), .int .i64 (dnx : Nat), .int .u64 (dn : Nat), sv dss, .int .i64 (dp : Nat)] 134) := P.LD
  have HT0 : Hid (m.th.tasks.length ≤ 900000 + 0) := hl
  have HV0 : Hid (m.th.vals.length ≤ 900000 + 0) := hvl
  have HXX := hid P.x
  have HBC := hid P.B.c
  have RO := hid RO
  have TI := hid TI
  have NO := hid NO
  have HN := hid hn
  have HK := hid hkk
  have HX := hid hs
  clear hn hkk hs
  clear P H hl hvl
  obtain ⟨c, hc⟩ : ∃ c, c = cTz (stC 1 (cI (stB Tryz.f77.body))) := ⟨_, rfl⟩
  rw [← hc]
  simp only [cTz, cE, cI, cR, stC, stB, Tryz.f77, Option.getD_some] at hc
  subst hc
  have t0 := HLT0.out.h.cell 0
  have t1 := HLT0.out.h.cell 1
  have t2 := HLT0.out.h.cell 2
  have t3 := HLT0.out.h.cell 3
  simp only [List.getElem?_toArray, List.getElem?_cons_succ, List.getElem?_cons_zero] at t0 t1 t2 t3
  have lT := HLT0.out.h.lt
  have d0 := HLD0.out.h.cell 0
  have d1 := HLD0.out.h.cell 1
  have d2 := HLD0.out.h.cell 2
  have d3 := HLD0.out.h.cell 3
  have d4 := HLD0.out.h.cell 4
  have d5 := HLD0.out.h.cell 5
  have d6 := HLD0.out.h.cell 6
  have d7 := HLD0.out.h.cell 7
  simp only [List.getElem?_toArray, List.getElem?_cons_succ, List.getElem?_cons_zero] at d0 d1 d2 d3 d4 d5 d6 d7
  have lD := HLD0.out.h.lt
  obtain ⟨cc0, cc1, lcc⟩ := HB0.out.c0
  have CC := eval_m (x := kx) HB0.out (by have := HT0.out; omega) (by have := HV0.out; omega) RO.out TI.out h0t h12 h24 NO.out HN.out HE.out HK.out HX.out
  rw [HEA.out] at CC
  have HCC := hid CC
  clear CC
  go_wp2_with fail
  refine HCC.out.mono ?_
  intro e9 w1 hq
  obtain rfl := hq.1
  clear t0 t1 t2 t3 lT d0 d1 d2 d3 d4 d5 d6 d7 lD cc0 cc1 lcc
  have FIN : Hid (Q (.returned (.tuple #[])) w1) := by
    show Q _ _
    rw [← HQ.out]
    exact hq
  clear hq HCC
  go_wp2
  go_end0
  exact FIN.out
theorem st5 (P : StZ w A N root W A1 m bT bD xb k d) (hk : k.k = 5) (H : FrZs (.pointer (some ⟨A.br, 0, none⟩)) (.pointer (some ⟨xb, 0, none⟩)) (.pointer (some ⟨bT, 0, none⟩)) (.pointer (some ⟨bD, 0, none⟩)) (.int .i64 k.k) a) (hl : m.th.tasks.length ≤ 900000) (hvl : m.th.vals.length ≤ 900000) (hv : 1 ≤ m.th.vals.length) :
    (cTz (stC 4 (cI (stB Tryz.f77.body)))).wp Tryz.prog (Exit.inBlock 0 (bodyPost Tryz.prog Tryz.f77 (PQm w A N root (m.pops 1)))) a W := by
  obtain ⟨u, rfl⟩ := H.form
  obtain ⟨kk, kn, kx, ke⟩ := k
  obtain ⟨dk, da, db, dc, dnx, dn, dss, dp⟩ := d
  dsimp only at hk
  subst hk
  obtain ⟨Q, HQ⟩ : ∃ Q : Ending → World → Prop, Hid (PQm w A N root (m.pops 1) = Q) := ⟨_, rfl⟩
  dsimp only at HQ ⊢
  rw [HQ.out]
  obtain ⟨ea, HEA⟩ : ∃ ea, Hid (eAd A.E ke = ea) := ⟨_, rfl⟩
  have HE : Hid (∀ i, ke = some i → i < A.E.length) := P.he
  have HB0 := hid P.B
  have HLT0 : Hid (LcB W A1 bT #[.int .i64 (5 : Nat), .int .i64 kn, .int .i64 kx, .pointer ea] 224) := by
    have := P.LT
    dsimp only at this
    rw [HEA.out] at this
    exact this
  have HLD0 : Hid (LcB W A1 bD #[.int .i64 (dk : Nat), .int .i64 (da : Nat), .int .i64 (db : Nat), .int .i64 (dc : Nat), .int .i64 (dnx : Nat), .int .u64 (dn : Nat), sv dss, .int .i64 (dp : Nat)] 134) := P.LD
  have HT0 : Hid (m.th.tasks.length ≤ 900000 + 0) := hl
  have HV0 : Hid (m.th.vals.length ≤ 900000 + 0) := hvl
  have HXX := hid P.x
  have HBC := hid P.B.c
  have HVP : Hid (0 < m.th.vals.length) := by show _ < _; omega
  clear hv
  clear P H hl hvl
  obtain ⟨c, hc⟩ : ∃ c, c = cTz (stC 4 (cI (stB Tryz.f77.body))) := ⟨_, rfl⟩
  rw [← hc]
  simp only [cTz, cE, cI, cR, stC, stB, Tryz.f77, Option.getD_some] at hc
  subst hc
  have t0 := HLT0.out.h.cell 0
  have t1 := HLT0.out.h.cell 1
  have t2 := HLT0.out.h.cell 2
  have t3 := HLT0.out.h.cell 3
  simp only [List.getElem?_toArray, List.getElem?_cons_succ, List.getElem?_cons_zero] at t0 t1 t2 t3
  have lT := HLT0.out.h.lt
  have d0 := HLD0.out.h.cell 0
  have d1 := HLD0.out.h.cell 1
  have d2 := HLD0.out.h.cell 2
  have d3 := HLD0.out.h.cell 3
  have d4 := HLD0.out.h.cell 4
  have d5 := HLD0.out.h.cell 5
  have d6 := HLD0.out.h.cell 6
  have d7 := HLD0.out.h.cell 7
  simp only [List.getElem?_toArray, List.getElem?_cons_succ, List.getElem?_cons_zero] at d0 d1 d2 d3 d4 d5 d6 d7
  have lD := HLD0.out.h.lt
  obtain ⟨cc0, cc1, lcc⟩ := HB0.out.c0
  obtain ⟨⟨vt, vn, vs⟩, HXv⟩ : ∃ v, Hid (m.topM 0 = v) := ⟨_, rfl⟩
  have CC := HB0.out.pop (HVP.out) (by have := HV0.out; omega)
  rw [HXv.out] at CC
  have HCC : Hid (Calls Tryz.prog 116 #[.pointer (some ⟨A.br, 0, none⟩)] W (fun e w' => e = .returned (.agg #[.int .i64 vt, .int .u64 vn, sv vs]) ∧ ∃ A', RB w A N root w' A' (m.pops 1) ∧ MSt W A1 w' A')) := CC
  clear CC
  go_wp2_with fail
  refine HCC.out.mono ?_
  rintro e9 w1 ⟨rfl, A11, BB, SS⟩
  clear t0 t1 t2 t3 lT d0 d1 d2 d3 d4 d5 d6 d7 lD cc0 cc1 lcc
  clear HCC
  have HB1 := hid BB
  have HLT1 := hid (HLT0.out.st SS)
  have HLD1 := hid (HLD0.out.st SS)
  have HS1 := hid SS
  clear BB SS
  have HT1 : Hid ((m.pops 1).th.tasks.length ≤ 900000 + 1) := by
    show _ ≤ _
    rw [th_pops HB0.out.c]
    have := HT0.out
    simp
    omega
  have HV1 : Hid ((m.pops 1).th.vals.length ≤ 900000 + 1) := by
    show _ ≤ _
    rw [th_pops HB0.out.c]
    have := HV0.out
    simp
    omega
  have t0 := HLT1.out.h.cell 0
  have t1 := HLT1.out.h.cell 1
  have t2 := HLT1.out.h.cell 2
  have t3 := HLT1.out.h.cell 3
  simp only [List.getElem?_toArray, List.getElem?_cons_succ, List.getElem?_cons_zero] at t0 t1 t2 t3
  have lT := HLT1.out.h.lt
  have d0 := HLD1.out.h.cell 0
  have d1 := HLD1.out.h.cell 1
  have d2 := HLD1.out.h.cell 2
  have d3 := HLD1.out.h.cell 3
  have d4 := HLD1.out.h.cell 4
  have d5 := HLD1.out.h.cell 5
  have d6 := HLD1.out.h.cell 6
  have d7 := HLD1.out.h.cell 7
  simp only [List.getElem?_toArray, List.getElem?_cons_succ, List.getElem?_cons_zero] at d0 d1 d2 d3 d4 d5 d6 d7
  have lD := HLD1.out.h.lt
  obtain ⟨cc0, cc1, lcc⟩ := HB1.out.c0
  have FIN : Hid (Q (.returned (.tuple #[])) w1) := by
    show Q _ _
    rw [← HQ.out]
    exact HB1.out.end
  go_wp2
  go_end0
  exact FIN.out
theorem st12 (P : StZ w A N root W A1 m bT bD xb k d) (hk : k.k = 12) (H : FrZs (.pointer (some ⟨A.br, 0, none⟩)) (.pointer (some ⟨xb, 0, none⟩)) (.pointer (some ⟨bT, 0, none⟩)) (.pointer (some ⟨bD, 0, none⟩)) (.int .i64 k.k) a) (hl : m.th.tasks.length ≤ 900000) (hvl : m.th.vals.length ≤ 900000) :
    (cTz (stC 11 (cI (stB Tryz.f77.body)))).wp Tryz.prog (Exit.inBlock 0 (bodyPost Tryz.prog Tryz.f77 (PQm w A N root (m.todo [⟨2, d.a, 0, k.e⟩, ⟨13, k.n, 0, k.e⟩])))) a W := by
  obtain ⟨u, rfl⟩ := H.form
  obtain ⟨kk, kn, kx, ke⟩ := k
  obtain ⟨dk, da, db, dc, dnx, dn, dss, dp⟩ := d
  dsimp only at hk
  subst hk
  obtain ⟨Q, HQ⟩ : ∃ Q : Ending → World → Prop, Hid (PQm w A N root (m.todo [⟨2, da, 0, ke⟩, ⟨13, kn, 0, ke⟩]) = Q) := ⟨_, rfl⟩
  dsimp only at HQ ⊢
  rw [HQ.out]
  obtain ⟨ea, HEA⟩ : ∃ ea, Hid (eAd A.E ke = ea) := ⟨_, rfl⟩
  have HE : Hid (∀ i, ke = some i → i < A.E.length) := P.he
  have HB0 := hid P.B
  have HLT0 : Hid (LcB W A1 bT #[.int .i64 (12 : Nat), .int .i64 kn, .int .i64 kx, .pointer ea] 224) := by
    have := P.LT
    dsimp only at this
    rw [HEA.out] at this
    exact this
  have HLD0 : Hid (LcB W A1 bD #[.int .i64 (dk : Nat), .int .i64 (da : Nat), .int .i64 (db : Nat), .int .i64 (dc : Nat), .int .i64 (dnx : Nat), .int .u64 (dn : Nat), sv dss, .int .i64 (dp : Nat)] 134) := P.LD
  have HT0 : Hid (m.th.tasks.length ≤ 900000 + 0) := hl
  have HV0 : Hid (m.th.vals.length ≤ 900000 + 0) := hvl
  have HXX := hid P.x
  have HBC := hid P.B.c
  have HZ : Hid (m.todo [⟨2, da, 0, ke⟩, ⟨13, kn, 0, ke⟩] = (m.todo [⟨13, kn, 0, ke⟩]).todo [⟨2, da, 0, ke⟩]) := by
    show _ = _
    rw [todo_todo HBC.out]
    rfl
  clear P H hl hvl
  obtain ⟨c, hc⟩ : ∃ c, c = cTz (stC 11 (cI (stB Tryz.f77.body))) := ⟨_, rfl⟩
  rw [← hc]
  simp only [cTz, cE, cI, cR, stC, stB, Tryz.f77, Option.getD_some] at hc
  subst hc
  have t0 := HLT0.out.h.cell 0
  have t1 := HLT0.out.h.cell 1
  have t2 := HLT0.out.h.cell 2
  have t3 := HLT0.out.h.cell 3
  simp only [List.getElem?_toArray, List.getElem?_cons_succ, List.getElem?_cons_zero] at t0 t1 t2 t3
  have lT := HLT0.out.h.lt
  have d0 := HLD0.out.h.cell 0
  have d1 := HLD0.out.h.cell 1
  have d2 := HLD0.out.h.cell 2
  have d3 := HLD0.out.h.cell 3
  have d4 := HLD0.out.h.cell 4
  have d5 := HLD0.out.h.cell 5
  have d6 := HLD0.out.h.cell 6
  have d7 := HLD0.out.h.cell 7
  simp only [List.getElem?_toArray, List.getElem?_cons_succ, List.getElem?_cons_zero] at d0 d1 d2 d3 d4 d5 d6 d7
  have lD := HLD0.out.h.lt
  obtain ⟨cc0, cc1, lcc⟩ := HB0.out.c0
  have CC := HB0.out.todo (by have := HT0.out; omega) 13 kn 0 ke HE.out (k' := 13) (n' := (kn : Nat)) (x' := 0) rfl rfl rfl
  rw [HEA.out] at CC
  have HCC := hid CC
  clear CC
  go_wp2_with fail
  refine HCC.out.mono ?_
  rintro e9 w1 ⟨rfl, A11, BB, SS⟩
  clear t0 t1 t2 t3 lT d0 d1 d2 d3 d4 d5 d6 d7 lD cc0 cc1 lcc
  clear HCC
  have HB1 := hid BB
  have HLT1 := hid (HLT0.out.st SS)
  have HLD1 := hid (HLD0.out.st SS)
  have HS1 := hid SS
  clear BB SS
  have HT1 : Hid ((m.todo [⟨13, kn, 0, ke⟩]).th.tasks.length ≤ 900000 + 1) := by
    show _ ≤ _
    rw [th_todo HB0.out.c]
    have := HT0.out
    simp
    omega
  have HV1 : Hid ((m.todo [⟨13, kn, 0, ke⟩]).th.vals.length ≤ 900000 + 1) := by
    show _ ≤ _
    rw [th_todo HB0.out.c]
    have := HV0.out
    simp
    omega
  have t0 := HLT1.out.h.cell 0
  have t1 := HLT1.out.h.cell 1
  have t2 := HLT1.out.h.cell 2
  have t3 := HLT1.out.h.cell 3
  simp only [List.getElem?_toArray, List.getElem?_cons_succ, List.getElem?_cons_zero] at t0 t1 t2 t3
  have lT := HLT1.out.h.lt
  have d0 := HLD1.out.h.cell 0
  have d1 := HLD1.out.h.cell 1
  have d2 := HLD1.out.h.cell 2
  have d3 := HLD1.out.h.cell 3
  have d4 := HLD1.out.h.cell 4
  have d5 := HLD1.out.h.cell 5
  have d6 := HLD1.out.h.cell 6
  have d7 := HLD1.out.h.cell 7
  simp only [List.getElem?_toArray, List.getElem?_cons_succ, List.getElem?_cons_zero] at d0 d1 d2 d3 d4 d5 d6 d7
  have lD := HLD1.out.h.lt
  obtain ⟨cc0, cc1, lcc⟩ := HB1.out.c0
  have CC := HB1.out.todo (by have := HT1.out; omega) 2 da 0 ke HE.out (k' := 2) (n' := (da : Nat)) (x' := 0) rfl rfl rfl
  rw [HEA.out] at CC
  have HCC := hid CC
  clear CC
  go_wp2_with fail
  refine HCC.out.mono ?_
  rintro e10 w2 ⟨rfl, A12, BB, SS⟩
  clear t0 t1 t2 t3 lT d0 d1 d2 d3 d4 d5 d6 d7 lD cc0 cc1 lcc
  clear HCC
  have HB2 := hid BB
  have HLT2 := hid (HLT1.out.st SS)
  have HLD2 := hid (HLD1.out.st SS)
  have HS2 := hid SS
  clear BB SS
  have HT2 : Hid (((m.todo [⟨13, kn, 0, ke⟩]).todo [⟨2, da, 0, ke⟩]).th.tasks.length ≤ 900000 + 2) := by
    show _ ≤ _
    rw [th_todo HB1.out.c]
    have := HT1.out
    simp
    omega
  have HV2 : Hid (((m.todo [⟨13, kn, 0, ke⟩]).todo [⟨2, da, 0, ke⟩]).th.vals.length ≤ 900000 + 2) := by
    show _ ≤ _
    rw [th_todo HB1.out.c]
    have := HV1.out
    simp
    omega
  have t0 := HLT2.out.h.cell 0
  have t1 := HLT2.out.h.cell 1
  have t2 := HLT2.out.h.cell 2
  have t3 := HLT2.out.h.cell 3
  simp only [List.getElem?_toArray, List.getElem?_cons_succ, List.getElem?_cons_zero] at t0 t1 t2 t3
  have lT := HLT2.out.h.lt
  have d0 := HLD2.out.h.cell 0
  have d1 := HLD2.out.h.cell 1
  have d2 := HLD2.out.h.cell 2
  have d3 := HLD2.out.h.cell 3
  have d4 := HLD2.out.h.cell 4
  have d5 := HLD2.out.h.cell 5
  have d6 := HLD2.out.h.cell 6
  have d7 := HLD2.out.h.cell 7
  simp only [List.getElem?_toArray, List.getElem?_cons_succ, List.getElem?_cons_zero] at d0 d1 d2 d3 d4 d5 d6 d7
  have lD := HLD2.out.h.lt
  obtain ⟨cc0, cc1, lcc⟩ := HB2.out.c0
  have FIN : Hid (Q (.returned (.tuple #[])) w2) := by
    show Q _ _
    rw [← HQ.out, HZ.out]
    exact HB2.out.end
  go_wp2
  go_end0
  exact FIN.out
theorem st11a (P : StZ w A N root W A1 m bT bD xb k d) (hk : k.k = 11) (H : FrZs (.pointer (some ⟨A.br, 0, none⟩)) (.pointer (some ⟨xb, 0, none⟩)) (.pointer (some ⟨bT, 0, none⟩)) (.pointer (some ⟨bD, 0, none⟩)) (.int .i64 k.k) a) (hl : m.th.tasks.length ≤ 900000) (hvl : m.th.vals.length ≤ 900000) (hv : 1 ≤ m.th.vals.length) (htr : truthy (m.topM 0) = true) :
    (cTz (stC 10 (cI (stB Tryz.f77.body)))).wp Tryz.prog (Exit.inBlock 0 (bodyPost Tryz.prog Tryz.f77 (PQm w A N root ((m.pops 1).todo [⟨1, d.b, 0, k.e⟩])))) a W := by
  obtain ⟨u, rfl⟩ := H.form
  obtain ⟨kk, kn, kx, ke⟩ := k
  obtain ⟨dk, da, db, dc, dnx, dn, dss, dp⟩ := d
  dsimp only at hk
  subst hk
  obtain ⟨Q, HQ⟩ : ∃ Q : Ending → World → Prop, Hid (PQm w A N root ((m.pops 1).todo [⟨1, db, 0, ke⟩]) = Q) := ⟨_, rfl⟩
  dsimp only at HQ ⊢
  rw [HQ.out]
  obtain ⟨ea, HEA⟩ : ∃ ea, Hid (eAd A.E ke = ea) := ⟨_, rfl⟩
  have HE : Hid (∀ i, ke = some i → i < A.E.length) := P.he
  have HB0 := hid P.B
  have HLT0 : Hid (LcB W A1 bT #[.int .i64 (11 : Nat), .int .i64 kn, .int .i64 kx, .pointer ea] 224) := by
    have := P.LT
    dsimp only at this
    rw [HEA.out] at this
    exact this
  have HLD0 : Hid (LcB W A1 bD #[.int .i64 (dk : Nat), .int .i64 (da : Nat), .int .i64 (db : Nat), .int .i64 (dc : Nat), .int .i64 (dnx : Nat), .int .u64 (dn : Nat), sv dss, .int .i64 (dp : Nat)] 134) := P.LD
  have HT0 : Hid (m.th.tasks.length ≤ 900000 + 0) := hl
  have HV0 : Hid (m.th.vals.length ≤ 900000 + 0) := hvl
  have HXX := hid P.x
  have HBC := hid P.B.c
  have HVP : Hid (0 < m.th.vals.length) := by show _ < _; omega
  clear hv
  have HTR : Hid (truthy (m.topM 0) = true) := htr
  clear htr
  clear P H hl hvl
  obtain ⟨c, hc⟩ : ∃ c, c = cTz (stC 10 (cI (stB Tryz.f77.body))) := ⟨_, rfl⟩
  rw [← hc]
  simp only [cTz, cE, cI, cR, stC, stB, Tryz.f77, Option.getD_some] at hc
  subst hc
  have t0 := HLT0.out.h.cell 0
  have t1 := HLT0.out.h.cell 1
  have t2 := HLT0.out.h.cell 2
  have t3 := HLT0.out.h.cell 3
  simp only [List.getElem?_toArray, List.getElem?_cons_succ, List.getElem?_cons_zero] at t0 t1 t2 t3
  have lT := HLT0.out.h.lt
  have d0 := HLD0.out.h.cell 0
  have d1 := HLD0.out.h.cell 1
  have d2 := HLD0.out.h.cell 2
  have d3 := HLD0.out.h.cell 3
  have d4 := HLD0.out.h.cell 4
  have d5 := HLD0.out.h.cell 5
  have d6 := HLD0.out.h.cell 6
  have d7 := HLD0.out.h.cell 7
  simp only [List.getElem?_toArray, List.getElem?_cons_succ, List.getElem?_cons_zero] at d0 d1 d2 d3 d4 d5 d6 d7
  have lD := HLD0.out.h.lt
  obtain ⟨cc0, cc1, lcc⟩ := HB0.out.c0
  obtain ⟨⟨vt, vn, vs⟩, HXv⟩ : ∃ v, Hid (m.topM 0 = v) := ⟨_, rfl⟩
  have CC := HB0.out.pop (HVP.out) (by have := HV0.out; omega)
  rw [HXv.out] at CC
  have HCC : Hid (Calls Tryz.prog 116 #[.pointer (some ⟨A.br, 0, none⟩)] W (fun e w' => e = .returned (.agg #[.int .i64 vt, .int .u64 vn, sv vs]) ∧ ∃ A', RB w A N root w' A' (m.pops 1) ∧ MSt W A1 w' A')) := CC
  clear CC
  go_wp2_with fail
  refine HCC.out.mono ?_
  rintro e9 w1 ⟨rfl, A11, BB, SS⟩
  clear t0 t1 t2 t3 lT d0 d1 d2 d3 d4 d5 d6 d7 lD cc0 cc1 lcc
  clear HCC
  have FA : Fr (fun _ => False) w1 (w1.alloc (.cells #[.int .i64 vt, .int .u64 vn, sv vs] 68)) := (Fr.refl _ _).alloc _
  have HB1 := hid (BB.fresh FA)
  have HLT1 := hid ((HLT0.out.st SS).fr FA)
  have HLD1 := hid ((HLD0.out.st SS).fr FA)
  have HLV1 : Hid (LcB (w1.alloc (.cells #[.int .i64 vt, .int .u64 vn, sv vs] 68)) A11 w1.heap.size #[.int .i64 vt, .int .u64 vn, sv vs] 68) := LcB.new BB.r.own _ _
  have HS1 := hid (SS.trans (MSt.fresh _ FA))
  clear FA BB SS
  have HT1 : Hid ((m.pops 1).th.tasks.length ≤ 900000 + 1) := by
    show _ ≤ _
    rw [th_pops HB0.out.c]
    have := HT0.out
    simp
    omega
  have HV1 : Hid ((m.pops 1).th.vals.length ≤ 900000 + 1) := by
    show _ ≤ _
    rw [th_pops HB0.out.c]
    have := HV0.out
    simp
    omega
  have t0 := HLT1.out.h.cell 0
  have t1 := HLT1.out.h.cell 1
  have t2 := HLT1.out.h.cell 2
  have t3 := HLT1.out.h.cell 3
  simp only [List.getElem?_toArray, List.getElem?_cons_succ, List.getElem?_cons_zero] at t0 t1 t2 t3
  have lT := HLT1.out.h.lt
  have d0 := HLD1.out.h.cell 0
  have d1 := HLD1.out.h.cell 1
  have d2 := HLD1.out.h.cell 2
  have d3 := HLD1.out.h.cell 3
  have d4 := HLD1.out.h.cell 4
  have d5 := HLD1.out.h.cell 5
  have d6 := HLD1.out.h.cell 6
  have d7 := HLD1.out.h.cell 7
  simp only [List.getElem?_toArray, List.getElem?_cons_succ, List.getElem?_cons_zero] at d0 d1 d2 d3 d4 d5 d6 d7
  have lD := HLD1.out.h.lt
  have v0 := HLV1.out.h.cell 0
  have v1 := HLV1.out.h.cell 1
  have v2 := HLV1.out.h.cell 2
  simp only [List.getElem?_toArray, List.getElem?_cons_succ, List.getElem?_cons_zero] at v0 v1 v2
  have lV := HLV1.out.h.lt
  obtain ⟨cc0, cc1, lcc⟩ := HB1.out.c0
  have TA : Hid (∀ W2, Calls Tryz.prog 119 #[.agg #[.int .i64 vt, .int .u64 vn, sv vs]] W2 fun e w' => e = .returned (.bool (truthy ⟨vt, vn, vs⟩)) ∧ Fr (fun _ => False) W2 w') := fun W2 => truthy_any ⟨vt, vn, vs⟩
  have HTV := HTR
  rw [HXv.out] at HTV
  rw [HTV.out] at TA
  go_wp2_with fail
  refine (TA.out _).mono ?_
  rintro e10 w2 ⟨rfl, G⟩
  clear t0 t1 t2 t3 lT d0 d1 d2 d3 d4 d5 d6 d7 lD v0 v1 v2 lV cc0 cc1 lcc
  have HB2 := hid (HB1.out.fresh G)
  have HLT2 := hid (HLT1.out.fr G)
  have HLD2 := hid (HLD1.out.fr G)
  have HLV2 := hid (HLV1.out.fr G)
  have HT2 : Hid ((m.pops 1).th.tasks.length ≤ 900000 + 2) := by show _ ≤ _; have := HT1.out; omega
  have HV2 : Hid ((m.pops 1).th.vals.length ≤ 900000 + 2) := by show _ ≤ _; have := HV1.out; omega
  clear G TA
  have t0 := HLT2.out.h.cell 0
  have t1 := HLT2.out.h.cell 1
  have t2 := HLT2.out.h.cell 2
  have t3 := HLT2.out.h.cell 3
  simp only [List.getElem?_toArray, List.getElem?_cons_succ, List.getElem?_cons_zero] at t0 t1 t2 t3
  have lT := HLT2.out.h.lt
  have d0 := HLD2.out.h.cell 0
  have d1 := HLD2.out.h.cell 1
  have d2 := HLD2.out.h.cell 2
  have d3 := HLD2.out.h.cell 3
  have d4 := HLD2.out.h.cell 4
  have d5 := HLD2.out.h.cell 5
  have d6 := HLD2.out.h.cell 6
  have d7 := HLD2.out.h.cell 7
  simp only [List.getElem?_toArray, List.getElem?_cons_succ, List.getElem?_cons_zero] at d0 d1 d2 d3 d4 d5 d6 d7
  have lD := HLD2.out.h.lt
  have v0 := HLV2.out.h.cell 0
  have v1 := HLV2.out.h.cell 1
  have v2 := HLV2.out.h.cell 2
  simp only [List.getElem?_toArray, List.getElem?_cons_succ, List.getElem?_cons_zero] at v0 v1 v2
  have lV := HLV2.out.h.lt
  obtain ⟨cc0, cc1, lcc⟩ := HB2.out.c0
  have CC := HB2.out.todo (by have := HT2.out; omega) 1 db 0 ke HE.out (k' := 1) (n' := (db : Nat)) (x' := 0) rfl rfl rfl
  rw [HEA.out] at CC
  have HCC := hid CC
  clear CC
  go_wp2_with fail
  refine HCC.out.mono ?_
  rintro e11 w3 ⟨rfl, A13, BB, SS⟩
  clear t0 t1 t2 t3 lT d0 d1 d2 d3 d4 d5 d6 d7 lD v0 v1 v2 lV cc0 cc1 lcc
  clear HCC
  have HB3 := hid BB
  have HLT3 := hid (HLT2.out.st SS)
  have HLD3 := hid (HLD2.out.st SS)
  have HLV3 := hid (HLV2.out.st SS)
  have HS3 := hid SS
  clear BB SS
  have HT3 : Hid (((m.pops 1).todo [⟨1, db, 0, ke⟩]).th.tasks.length ≤ 900000 + 3) := by
    show _ ≤ _
    rw [th_todo HB2.out.c]
    have := HT2.out
    simp
    omega
  have HV3 : Hid (((m.pops 1).todo [⟨1, db, 0, ke⟩]).th.vals.length ≤ 900000 + 3) := by
    show _ ≤ _
    rw [th_todo HB2.out.c]
    have := HV2.out
    simp
    omega
  have t0 := HLT3.out.h.cell 0
  have t1 := HLT3.out.h.cell 1
  have t2 := HLT3.out.h.cell 2
  have t3 := HLT3.out.h.cell 3
  simp only [List.getElem?_toArray, List.getElem?_cons_succ, List.getElem?_cons_zero] at t0 t1 t2 t3
  have lT := HLT3.out.h.lt
  have d0 := HLD3.out.h.cell 0
  have d1 := HLD3.out.h.cell 1
  have d2 := HLD3.out.h.cell 2
  have d3 := HLD3.out.h.cell 3
  have d4 := HLD3.out.h.cell 4
  have d5 := HLD3.out.h.cell 5
  have d6 := HLD3.out.h.cell 6
  have d7 := HLD3.out.h.cell 7
  simp only [List.getElem?_toArray, List.getElem?_cons_succ, List.getElem?_cons_zero] at d0 d1 d2 d3 d4 d5 d6 d7
  have lD := HLD3.out.h.lt
  have v0 := HLV3.out.h.cell 0
  have v1 := HLV3.out.h.cell 1
  have v2 := HLV3.out.h.cell 2
  simp only [List.getElem?_toArray, List.getElem?_cons_succ, List.getElem?_cons_zero] at v0 v1 v2
  have lV := HLV3.out.h.lt
  obtain ⟨cc0, cc1, lcc⟩ := HB3.out.c0
  have FIN : Hid (Q (.returned (.tuple #[])) w3) := by
    show Q _ _
    rw [← HQ.out]
    exact HB3.out.end
  go_wp2
  go_end0
  exact FIN.out
theorem st11b (P : StZ w A N root W A1 m bT bD xb k d) (hk : k.k = 11) (H : FrZs (.pointer (some ⟨A.br, 0, none⟩)) (.pointer (some ⟨xb, 0, none⟩)) (.pointer (some ⟨bT, 0, none⟩)) (.pointer (some ⟨bD, 0, none⟩)) (.int .i64 k.k) a) (hl : m.th.tasks.length ≤ 900000) (hvl : m.th.vals.length ≤ 900000) (hv : 1 ≤ m.th.vals.length) (htr : truthy (m.topM 0) = false) :
    (cTz (stC 10 (cI (stB Tryz.f77.body)))).wp Tryz.prog (Exit.inBlock 0 (bodyPost Tryz.prog Tryz.f77 (PQm w A N root ((m.pops 1).todo [⟨1, d.c, 0, k.e⟩])))) a W := by
  obtain ⟨u, rfl⟩ := H.form
  obtain ⟨kk, kn, kx, ke⟩ := k
  obtain ⟨dk, da, db, dc, dnx, dn, dss, dp⟩ := d
  dsimp only at hk
  subst hk
  obtain ⟨Q, HQ⟩ : ∃ Q : Ending → World → Prop, Hid (PQm w A N root ((m.pops 1).todo [⟨1, dc, 0, ke⟩]) = Q) := ⟨_, rfl⟩
  dsimp only at HQ ⊢
  rw [HQ.out]
  obtain ⟨ea, HEA⟩ : ∃ ea, Hid (eAd A.E ke = ea) := ⟨_, rfl⟩
  have HE : Hid (∀ i, ke = some i → i < A.E.length) := P.he
  have HB0 := hid P.B
  have HLT0 : Hid (LcB W A1 bT #[.int .i64 (11 : Nat), .int .i64 kn, .int .i64 kx, .pointer ea] 224) := by
    have := P.LT
    dsimp only at this
    rw [HEA.out] at this
    exact this
  have HLD0 : Hid (LcB W A1 bD #[.int .i64 (dk : Nat), .int .i64 (da : Nat), .int .i64 (db : Nat), .int .i64 (dc : Nat), .int .i64 (dnx : Nat), .int .u64 (dn : Nat), sv dss, .int .i64 (dp : Nat)] 134) := P.LD
  have HT0 : Hid (m.th.tasks.length ≤ 900000 + 0) := hl
  have HV0 : Hid (m.th.vals.length ≤ 900000 + 0) := hvl
  have HXX := hid P.x
  have HBC := hid P.B.c
  have HVP : Hid (0 < m.th.vals.length) := by show _ < _; omega
  clear hv
  have HTR : Hid (truthy (m.topM 0) = false) := htr
  clear htr
  clear P H hl hvl
  obtain ⟨c, hc⟩ : ∃ c, c = cTz (stC 10 (cI (stB Tryz.f77.body))) := ⟨_, rfl⟩
  rw [← hc]
  simp only [cTz, cE, cI, cR, stC, stB, Tryz.f77, Option.getD_some] at hc
  subst hc
  have t0 := HLT0.out.h.cell 0
  have t1 := HLT0.out.h.cell 1
  have t2 := HLT0.out.h.cell 2
  have t3 := HLT0.out.h.cell 3
  simp only [List.getElem?_toArray, List.getElem?_cons_succ, List.getElem?_cons_zero] at t0 t1 t2 t3
  have lT := HLT0.out.h.lt
  have d0 := HLD0.out.h.cell 0
  have d1 := HLD0.out.h.cell 1
  have d2 := HLD0.out.h.cell 2
  have d3 := HLD0.out.h.cell 3
  have d4 := HLD0.out.h.cell 4
  have d5 := HLD0.out.h.cell 5
  have d6 := HLD0.out.h.cell 6
  have d7 := HLD0.out.h.cell 7
  simp only [List.getElem?_toArray, List.getElem?_cons_succ, List.getElem?_cons_zero] at d0 d1 d2 d3 d4 d5 d6 d7
  have lD := HLD0.out.h.lt
  obtain ⟨cc0, cc1, lcc⟩ := HB0.out.c0
  obtain ⟨⟨vt, vn, vs⟩, HXv⟩ : ∃ v, Hid (m.topM 0 = v) := ⟨_, rfl⟩
  have CC := HB0.out.pop (HVP.out) (by have := HV0.out; omega)
  rw [HXv.out] at CC
  have HCC : Hid (Calls Tryz.prog 116 #[.pointer (some ⟨A.br, 0, none⟩)] W (fun e w' => e = .returned (.agg #[.int .i64 vt, .int .u64 vn, sv vs]) ∧ ∃ A', RB w A N root w' A' (m.pops 1) ∧ MSt W A1 w' A')) := CC
  clear CC
  go_wp2_with fail
  refine HCC.out.mono ?_
  rintro e9 w1 ⟨rfl, A11, BB, SS⟩
  clear t0 t1 t2 t3 lT d0 d1 d2 d3 d4 d5 d6 d7 lD cc0 cc1 lcc
  clear HCC
  have FA : Fr (fun _ => False) w1 (w1.alloc (.cells #[.int .i64 vt, .int .u64 vn, sv vs] 68)) := (Fr.refl _ _).alloc _
  have HB1 := hid (BB.fresh FA)
  have HLT1 := hid ((HLT0.out.st SS).fr FA)
  have HLD1 := hid ((HLD0.out.st SS).fr FA)
  have HLV1 : Hid (LcB (w1.alloc (.cells #[.int .i64 vt, .int .u64 vn, sv vs] 68)) A11 w1.heap.size #[.int .i64 vt, .int .u64 vn, sv vs] 68) := LcB.new BB.r.own _ _
  have HS1 := hid (SS.trans (MSt.fresh _ FA))
  clear FA BB SS
  have HT1 : Hid ((m.pops 1).th.tasks.length ≤ 900000 + 1) := by
    show _ ≤ _
    rw [th_pops HB0.out.c]
    have := HT0.out
    simp
    omega
  have HV1 : Hid ((m.pops 1).th.vals.length ≤ 900000 + 1) := by
    show _ ≤ _
    rw [th_pops HB0.out.c]
    have := HV0.out
    simp
    omega
  have t0 := HLT1.out.h.cell 0
  have t1 := HLT1.out.h.cell 1
  have t2 := HLT1.out.h.cell 2
  have t3 := HLT1.out.h.cell 3
  simp only [List.getElem?_toArray, List.getElem?_cons_succ, List.getElem?_cons_zero] at t0 t1 t2 t3
  have lT := HLT1.out.h.lt
  have d0 := HLD1.out.h.cell 0
  have d1 := HLD1.out.h.cell 1
  have d2 := HLD1.out.h.cell 2
  have d3 := HLD1.out.h.cell 3
  have d4 := HLD1.out.h.cell 4
  have d5 := HLD1.out.h.cell 5
  have d6 := HLD1.out.h.cell 6
  have d7 := HLD1.out.h.cell 7
  simp only [List.getElem?_toArray, List.getElem?_cons_succ, List.getElem?_cons_zero] at d0 d1 d2 d3 d4 d5 d6 d7
  have lD := HLD1.out.h.lt
  have v0 := HLV1.out.h.cell 0
  have v1 := HLV1.out.h.cell 1
  have v2 := HLV1.out.h.cell 2
  simp only [List.getElem?_toArray, List.getElem?_cons_succ, List.getElem?_cons_zero] at v0 v1 v2
  have lV := HLV1.out.h.lt
  obtain ⟨cc0, cc1, lcc⟩ := HB1.out.c0
  have TA : Hid (∀ W2, Calls Tryz.prog 119 #[.agg #[.int .i64 vt, .int .u64 vn, sv vs]] W2 fun e w' => e = .returned (.bool (truthy ⟨vt, vn, vs⟩)) ∧ Fr (fun _ => False) W2 w') := fun W2 => truthy_any ⟨vt, vn, vs⟩
  have HTV := HTR
  rw [HXv.out] at HTV
  rw [HTV.out] at TA
  go_wp2_with fail
  refine (TA.out _).mono ?_
  rintro e10 w2 ⟨rfl, G⟩
  clear t0 t1 t2 t3 lT d0 d1 d2 d3 d4 d5 d6 d7 lD v0 v1 v2 lV cc0 cc1 lcc
  have HB2 := hid (HB1.out.fresh G)
  have HLT2 := hid (HLT1.out.fr G)
  have HLD2 := hid (HLD1.out.fr G)
  have HLV2 := hid (HLV1.out.fr G)
  have HT2 : Hid ((m.pops 1).th.tasks.length ≤ 900000 + 2) := by show _ ≤ _; have := HT1.out; omega
  have HV2 : Hid ((m.pops 1).th.vals.length ≤ 900000 + 2) := by show _ ≤ _; have := HV1.out; omega
  clear G TA
  have t0 := HLT2.out.h.cell 0
  have t1 := HLT2.out.h.cell 1
  have t2 := HLT2.out.h.cell 2
  have t3 := HLT2.out.h.cell 3
  simp only [List.getElem?_toArray, List.getElem?_cons_succ, List.getElem?_cons_zero] at t0 t1 t2 t3
  have lT := HLT2.out.h.lt
  have d0 := HLD2.out.h.cell 0
  have d1 := HLD2.out.h.cell 1
  have d2 := HLD2.out.h.cell 2
  have d3 := HLD2.out.h.cell 3
  have d4 := HLD2.out.h.cell 4
  have d5 := HLD2.out.h.cell 5
  have d6 := HLD2.out.h.cell 6
  have d7 := HLD2.out.h.cell 7
  simp only [List.getElem?_toArray, List.getElem?_cons_succ, List.getElem?_cons_zero] at d0 d1 d2 d3 d4 d5 d6 d7
  have lD := HLD2.out.h.lt
  have v0 := HLV2.out.h.cell 0
  have v1 := HLV2.out.h.cell 1
  have v2 := HLV2.out.h.cell 2
  simp only [List.getElem?_toArray, List.getElem?_cons_succ, List.getElem?_cons_zero] at v0 v1 v2
  have lV := HLV2.out.h.lt
  obtain ⟨cc0, cc1, lcc⟩ := HB2.out.c0
  have CC := HB2.out.todo (by have := HT2.out; omega) 1 dc 0 ke HE.out (k' := 1) (n' := (dc : Nat)) (x' := 0) rfl rfl rfl
  rw [HEA.out] at CC
  have HCC := hid CC
  clear CC
  go_wp2_with fail
  refine HCC.out.mono ?_
  rintro e11 w3 ⟨rfl, A13, BB, SS⟩
  clear t0 t1 t2 t3 lT d0 d1 d2 d3 d4 d5 d6 d7 lD v0 v1 v2 lV cc0 cc1 lcc
  clear HCC
  have HB3 := hid BB
  have HLT3 := hid (HLT2.out.st SS)
  have HLD3 := hid (HLD2.out.st SS)
  have HLV3 := hid (HLV2.out.st SS)
  have HS3 := hid SS
  clear BB SS
  have HT3 : Hid (((m.pops 1).todo [⟨1, dc, 0, ke⟩]).th.tasks.length ≤ 900000 + 3) := by
    show _ ≤ _
    rw [th_todo HB2.out.c]
    have := HT2.out
    simp
    omega
  have HV3 : Hid (((m.pops 1).todo [⟨1, dc, 0, ke⟩]).th.vals.length ≤ 900000 + 3) := by
    show _ ≤ _
    rw [th_todo HB2.out.c]
    have := HV2.out
    simp
    omega
  have t0 := HLT3.out.h.cell 0
  have t1 := HLT3.out.h.cell 1
  have t2 := HLT3.out.h.cell 2
  have t3 := HLT3.out.h.cell 3
  simp only [List.getElem?_toArray, List.getElem?_cons_succ, List.getElem?_cons_zero] at t0 t1 t2 t3
  have lT := HLT3.out.h.lt
  have d0 := HLD3.out.h.cell 0
  have d1 := HLD3.out.h.cell 1
  have d2 := HLD3.out.h.cell 2
  have d3 := HLD3.out.h.cell 3
  have d4 := HLD3.out.h.cell 4
  have d5 := HLD3.out.h.cell 5
  have d6 := HLD3.out.h.cell 6
  have d7 := HLD3.out.h.cell 7
  simp only [List.getElem?_toArray, List.getElem?_cons_succ, List.getElem?_cons_zero] at d0 d1 d2 d3 d4 d5 d6 d7
  have lD := HLD3.out.h.lt
  have v0 := HLV3.out.h.cell 0
  have v1 := HLV3.out.h.cell 1
  have v2 := HLV3.out.h.cell 2
  simp only [List.getElem?_toArray, List.getElem?_cons_succ, List.getElem?_cons_zero] at v0 v1 v2
  have lV := HLV3.out.h.lt
  obtain ⟨cc0, cc1, lcc⟩ := HB3.out.c0
  have FIN : Hid (Q (.returned (.tuple #[])) w3) := by
    show Q _ _
    rw [← HQ.out]
    exact HB3.out.end
  go_wp2
  go_end0
  exact FIN.out
theorem st13a (P : StZ w A N root W A1 m bT bD xb k d) (hk : k.k = 13) (H : FrZs (.pointer (some ⟨A.br, 0, none⟩)) (.pointer (some ⟨xb, 0, none⟩)) (.pointer (some ⟨bT, 0, none⟩)) (.pointer (some ⟨bD, 0, none⟩)) (.int .i64 k.k) a) (hl : m.th.tasks.length ≤ 900000) (hvl : m.th.vals.length ≤ 900000) (hv : 1 ≤ m.th.vals.length) (htr : truthy (m.topM 0) = true) :
    (cTz (stC 12 (cI (stB Tryz.f77.body)))).wp Tryz.prog (Exit.inBlock 0 (bodyPost Tryz.prog Tryz.f77 (PQm w A N root ((m.pops 1).todo [⟨1, d.b, 0, k.e⟩, ⟨14, k.n, 0, k.e⟩])))) a W := by
  obtain ⟨u, rfl⟩ := H.form
  obtain ⟨kk, kn, kx, ke⟩ := k
  obtain ⟨dk, da, db, dc, dnx, dn, dss, dp⟩ := d
  dsimp only at hk
  subst hk
  obtain ⟨Q, HQ⟩ : ∃ Q : Ending → World → Prop, Hid (PQm w A N root ((m.pops 1).todo [⟨1, db, 0, ke⟩, ⟨14, kn, 0, ke⟩]) = Q) := ⟨_, rfl⟩
  dsimp only at HQ ⊢
  rw [HQ.out]
  obtain ⟨ea, HEA⟩ : ∃ ea, Hid (eAd A.E ke = ea) := ⟨_, rfl⟩
  have HE : Hid (∀ i, ke = some i → i < A.E.length) := P.he
  have HB0 := hid P.B
  have HLT0 : Hid (LcB W A1 bT #[.int .i64 (13 : Nat), .int .i64 kn, .int .i64 kx, .pointer ea] 224) := by
    have := P.LT
    dsimp only at this
    rw [HEA.out] at this
    exact this
  have HLD0 : Hid (LcB W A1 bD #[.int .i64 (dk : Nat), .int .i64 (da : Nat), .int .i64 (db : Nat), .int .i64 (dc : Nat), .int .i64 (dnx : Nat), .int .u64 (dn : Nat), sv dss, .int .i64 (dp : Nat)] 134) := P.LD
  have HT0 : Hid (m.th.tasks.length ≤ 900000 + 0) := hl
  have HV0 : Hid (m.th.vals.length ≤ 900000 + 0) := hvl
  have HXX := hid P.x
  have HBC := hid P.B.c
  have HZ : Hid ((m.pops 1).todo [⟨1, db, 0, ke⟩, ⟨14, kn, 0, ke⟩] = ((m.pops 1).todo [⟨14, kn, 0, ke⟩]).todo [⟨1, db, 0, ke⟩]) := by
    show _ = _
    rw [todo_todo (c_pops HBC.out 1)]
    rfl
  have HVP : Hid (0 < m.th.vals.length) := by show _ < _; omega
  clear hv
  have HTR : Hid (truthy (m.topM 0) = true) := htr
  clear htr
  clear P H hl hvl
  obtain ⟨c, hc⟩ : ∃ c, c = cTz (stC 12 (cI (stB Tryz.f77.body))) := ⟨_, rfl⟩
  rw [← hc]
  simp only [cTz, cE, cI, cR, stC, stB, Tryz.f77, Option.getD_some] at hc
  subst hc
  have t0 := HLT0.out.h.cell 0
  have t1 := HLT0.out.h.cell 1
  have t2 := HLT0.out.h.cell 2
  have t3 := HLT0.out.h.cell 3
  simp only [List.getElem?_toArray, List.getElem?_cons_succ, List.getElem?_cons_zero] at t0 t1 t2 t3
  have lT := HLT0.out.h.lt
  have d0 := HLD0.out.h.cell 0
  have d1 := HLD0.out.h.cell 1
  have d2 := HLD0.out.h.cell 2
  have d3 := HLD0.out.h.cell 3
  have d4 := HLD0.out.h.cell 4
  have d5 := HLD0.out.h.cell 5
  have d6 := HLD0.out.h.cell 6
  have d7 := HLD0.out.h.cell 7
  simp only [List.getElem?_toArray, List.getElem?_cons_succ, List.getElem?_cons_zero] at d0 d1 d2 d3 d4 d5 d6 d7
  have lD := HLD0.out.h.lt
  obtain ⟨cc0, cc1, lcc⟩ := HB0.out.c0
  obtain ⟨⟨vt, vn, vs⟩, HXv⟩ : ∃ v, Hid (m.topM 0 = v) := ⟨_, rfl⟩
  have CC := HB0.out.pop (HVP.out) (by have := HV0.out; omega)
  rw [HXv.out] at CC
  have HCC : Hid (Calls Tryz.prog 116 #[.pointer (some ⟨A.br, 0, none⟩)] W (fun e w' => e = .returned (.agg #[.int .i64 vt, .int .u64 vn, sv vs]) ∧ ∃ A', RB w A N root w' A' (m.pops 1) ∧ MSt W A1 w' A')) := CC
  clear CC
  go_wp2_with fail
  refine HCC.out.mono ?_
  rintro e9 w1 ⟨rfl, A11, BB, SS⟩
  clear t0 t1 t2 t3 lT d0 d1 d2 d3 d4 d5 d6 d7 lD cc0 cc1 lcc
  clear HCC
  have FA : Fr (fun _ => False) w1 (w1.alloc (.cells #[.int .i64 vt, .int .u64 vn, sv vs] 68)) := (Fr.refl _ _).alloc _
  have HB1 := hid (BB.fresh FA)
  have HLT1 := hid ((HLT0.out.st SS).fr FA)
  have HLD1 := hid ((HLD0.out.st SS).fr FA)
  have HLV1 : Hid (LcB (w1.alloc (.cells #[.int .i64 vt, .int .u64 vn, sv vs] 68)) A11 w1.heap.size #[.int .i64 vt, .int .u64 vn, sv vs] 68) := LcB.new BB.r.own _ _
  have HS1 := hid (SS.trans (MSt.fresh _ FA))
  clear FA BB SS
  have HT1 : Hid ((m.pops 1).th.tasks.length ≤ 900000 + 1) := by
    show _ ≤ _
    rw [th_pops HB0.out.c]
    have := HT0.out
    simp
    omega
  have HV1 : Hid ((m.pops 1).th.vals.length ≤ 900000 + 1) := by
    show _ ≤ _
    rw [th_pops HB0.out.c]
    have := HV0.out
    simp
    omega
  have t0 := HLT1.out.h.cell 0
  have t1 := HLT1.out.h.cell 1
  have t2 := HLT1.out.h.cell 2
  have t3 := HLT1.out.h.cell 3
  simp only [List.getElem?_toArray, List.getElem?_cons_succ, List.getElem?_cons_zero] at t0 t1 t2 t3
  have lT := HLT1.out.h.lt
  have d0 := HLD1.out.h.cell 0
  have d1 := HLD1.out.h.cell 1
  have d2 := HLD1.out.h.cell 2
  have d3 := HLD1.out.h.cell 3
  have d4 := HLD1.out.h.cell 4
  have d5 := HLD1.out.h.cell 5
  have d6 := HLD1.out.h.cell 6
  have d7 := HLD1.out.h.cell 7
  simp only [List.getElem?_toArray, List.getElem?_cons_succ, List.getElem?_cons_zero] at d0 d1 d2 d3 d4 d5 d6 d7
  have lD := HLD1.out.h.lt
  have v0 := HLV1.out.h.cell 0
  have v1 := HLV1.out.h.cell 1
  have v2 := HLV1.out.h.cell 2
  simp only [List.getElem?_toArray, List.getElem?_cons_succ, List.getElem?_cons_zero] at v0 v1 v2
  have lV := HLV1.out.h.lt
  obtain ⟨cc0, cc1, lcc⟩ := HB1.out.c0
  have TA : Hid (∀ W2, Calls Tryz.prog 119 #[.agg #[.int .i64 vt, .int .u64 vn, sv vs]] W2 fun e w' => e = .returned (.bool (truthy ⟨vt, vn, vs⟩)) ∧ Fr (fun _ => False) W2 w') := fun W2 => truthy_any ⟨vt, vn, vs⟩
  have HTV := HTR
  rw [HXv.out] at HTV
  rw [HTV.out] at TA
  go_wp2_with fail
  refine (TA.out _).mono ?_
  rintro e10 w2 ⟨rfl, G⟩
  clear t0 t1 t2 t3 lT d0 d1 d2 d3 d4 d5 d6 d7 lD v0 v1 v2 lV cc0 cc1 lcc
  have HB2 := hid (HB1.out.fresh G)
  have HLT2 := hid (HLT1.out.fr G)
  have HLD2 := hid (HLD1.out.fr G)
  have HLV2 := hid (HLV1.out.fr G)
  have HT2 : Hid ((m.pops 1).th.tasks.length ≤ 900000 + 2) := by show _ ≤ _; have := HT1.out; omega
  have HV2 : Hid ((m.pops 1).th.vals.length ≤ 900000 + 2) := by show _ ≤ _; have := HV1.out; omega
  clear G TA
  have t0 := HLT2.out.h.cell 0
  have t1 := HLT2.out.h.cell 1
  have t2 := HLT2.out.h.cell 2
  have t3 := HLT2.out.h.cell 3
  simp only [List.getElem?_toArray, List.getElem?_cons_succ, List.getElem?_cons_zero] at t0 t1 t2 t3
  have lT := HLT2.out.h.lt
  have d0 := HLD2.out.h.cell 0
  have d1 := HLD2.out.h.cell 1
  have d2 := HLD2.out.h.cell 2
  have d3 := HLD2.out.h.cell 3
  have d4 := HLD2.out.h.cell 4
  have d5 := HLD2.out.h.cell 5
  have d6 := HLD2.out.h.cell 6
  have d7 := HLD2.out.h.cell 7
  simp only [List.getElem?_toArray, List.getElem?_cons_succ, List.getElem?_cons_zero] at d0 d1 d2 d3 d4 d5 d6 d7
  have lD := HLD2.out.h.lt
  have v0 := HLV2.out.h.cell 0
  have v1 := HLV2.out.h.cell 1
  have v2 := HLV2.out.h.cell 2
  simp only [List.getElem?_toArray, List.getElem?_cons_succ, List.getElem?_cons_zero] at v0 v1 v2
  have lV := HLV2.out.h.lt
  obtain ⟨cc0, cc1, lcc⟩ := HB2.out.c0
  have CC := HB2.out.todo (by have := HT2.out; omega) 14 kn 0 ke HE.out (k' := 14) (n' := (kn : Nat)) (x' := 0) rfl rfl rfl
  rw [HEA.out] at CC
  have HCC := hid CC
  clear CC
  go_wp2_with fail
  refine HCC.out.mono ?_
  rintro e11 w3 ⟨rfl, A13, BB, SS⟩
  clear t0 t1 t2 t3 lT d0 d1 d2 d3 d4 d5 d6 d7 lD v0 v1 v2 lV cc0 cc1 lcc
  clear HCC
  have HB3 := hid BB
  have HLT3 := hid (HLT2.out.st SS)
  have HLD3 := hid (HLD2.out.st SS)
  have HLV3 := hid (HLV2.out.st SS)
  have HS3 := hid SS
  clear BB SS
  have HT3 : Hid (((m.pops 1).todo [⟨14, kn, 0, ke⟩]).th.tasks.length ≤ 900000 + 3) := by
    show _ ≤ _
    rw [th_todo HB2.out.c]
    have := HT2.out
    simp
    omega
  have HV3 : Hid (((m.pops 1).todo [⟨14, kn, 0, ke⟩]).th.vals.length ≤ 900000 + 3) := by
    show _ ≤ _
    rw [th_todo HB2.out.c]
    have := HV2.out
    simp
    omega
  have t0 := HLT3.out.h.cell 0
  have t1 := HLT3.out.h.cell 1
  have t2 := HLT3.out.h.cell 2
  have t3 := HLT3.out.h.cell 3
  simp only [List.getElem?_toArray, List.getElem?_cons_succ, List.getElem?_cons_zero] at t0 t1 t2 t3
  have lT := HLT3.out.h.lt
  have d0 := HLD3.out.h.cell 0
  have d1 := HLD3.out.h.cell 1
  have d2 := HLD3.out.h.cell 2
  have d3 := HLD3.out.h.cell 3
  have d4 := HLD3.out.h.cell 4
  have d5 := HLD3.out.h.cell 5
  have d6 := HLD3.out.h.cell 6
  have d7 := HLD3.out.h.cell 7
  simp only [List.getElem?_toArray, List.getElem?_cons_succ, List.getElem?_cons_zero] at d0 d1 d2 d3 d4 d5 d6 d7
  have lD := HLD3.out.h.lt
  have v0 := HLV3.out.h.cell 0
  have v1 := HLV3.out.h.cell 1
  have v2 := HLV3.out.h.cell 2
  simp only [List.getElem?_toArray, List.getElem?_cons_succ, List.getElem?_cons_zero] at v0 v1 v2
  have lV := HLV3.out.h.lt
  obtain ⟨cc0, cc1, lcc⟩ := HB3.out.c0
  have CC := HB3.out.todo (by have := HT3.out; omega) 1 db 0 ke HE.out (k' := 1) (n' := (db : Nat)) (x' := 0) rfl rfl rfl
  rw [HEA.out] at CC
  have HCC := hid CC
  clear CC
  go_wp2_with fail
  refine HCC.out.mono ?_
  rintro e12 w4 ⟨rfl, A14, BB, SS⟩
  clear t0 t1 t2 t3 lT d0 d1 d2 d3 d4 d5 d6 d7 lD v0 v1 v2 lV cc0 cc1 lcc
  clear HCC
  have HB4 := hid BB
  have HLT4 := hid (HLT3.out.st SS)
  have HLD4 := hid (HLD3.out.st SS)
  have HLV4 := hid (HLV3.out.st SS)
  have HS4 := hid SS
  clear BB SS
  have HT4 : Hid ((((m.pops 1).todo [⟨14, kn, 0, ke⟩]).todo [⟨1, db, 0, ke⟩]).th.tasks.length ≤ 900000 + 4) := by
    show _ ≤ _
    rw [th_todo HB3.out.c]
    have := HT3.out
    simp
    omega
  have HV4 : Hid ((((m.pops 1).todo [⟨14, kn, 0, ke⟩]).todo [⟨1, db, 0, ke⟩]).th.vals.length ≤ 900000 + 4) := by
    show _ ≤ _
    rw [th_todo HB3.out.c]
    have := HV3.out
    simp
    omega
  have t0 := HLT4.out.h.cell 0
  have t1 := HLT4.out.h.cell 1
  have t2 := HLT4.out.h.cell 2
  have t3 := HLT4.out.h.cell 3
  simp only [List.getElem?_toArray, List.getElem?_cons_succ, List.getElem?_cons_zero] at t0 t1 t2 t3
  have lT := HLT4.out.h.lt
  have d0 := HLD4.out.h.cell 0
  have d1 := HLD4.out.h.cell 1
  have d2 := HLD4.out.h.cell 2
  have d3 := HLD4.out.h.cell 3
  have d4 := HLD4.out.h.cell 4
  have d5 := HLD4.out.h.cell 5
  have d6 := HLD4.out.h.cell 6
  have d7 := HLD4.out.h.cell 7
  simp only [List.getElem?_toArray, List.getElem?_cons_succ, List.getElem?_cons_zero] at d0 d1 d2 d3 d4 d5 d6 d7
  have lD := HLD4.out.h.lt
  have v0 := HLV4.out.h.cell 0
  have v1 := HLV4.out.h.cell 1
  have v2 := HLV4.out.h.cell 2
  simp only [List.getElem?_toArray, List.getElem?_cons_succ, List.getElem?_cons_zero] at v0 v1 v2
  have lV := HLV4.out.h.lt
  obtain ⟨cc0, cc1, lcc⟩ := HB4.out.c0
  have FIN : Hid (Q (.returned (.tuple #[])) w4) := by
    show Q _ _
    rw [← HQ.out, HZ.out]
    exact HB4.out.end
  go_wp2
  go_end0
  exact FIN.out
theorem st13b (P : StZ w A N root W A1 m bT bD xb k d) (hk : k.k = 13) (H : FrZs (.pointer (some ⟨A.br, 0, none⟩)) (.pointer (some ⟨xb, 0, none⟩)) (.pointer (some ⟨bT, 0, none⟩)) (.pointer (some ⟨bD, 0, none⟩)) (.int .i64 k.k) a) (hl : m.th.tasks.length ≤ 900000) (hvl : m.th.vals.length ≤ 900000) (hv : 1 ≤ m.th.vals.length) (htr : truthy (m.topM 0) = false) :
    (cTz (stC 12 (cI (stB Tryz.f77.body)))).wp Tryz.prog (Exit.inBlock 0 (bodyPost Tryz.prog Tryz.f77 (PQm w A N root (m.pops 1)))) a W := by
  obtain ⟨u, rfl⟩ := H.form
  obtain ⟨kk, kn, kx, ke⟩ := k
  obtain ⟨dk, da, db, dc, dnx, dn, dss, dp⟩ := d
  dsimp only at hk
  subst hk
  obtain ⟨Q, HQ⟩ : ∃ Q : Ending → World → Prop, Hid (PQm w A N root (m.pops 1) = Q) := ⟨_, rfl⟩
  dsimp only at HQ ⊢
  rw [HQ.out]
  obtain ⟨ea, HEA⟩ : ∃ ea, Hid (eAd A.E ke = ea) := ⟨_, rfl⟩
  have HE : Hid (∀ i, ke = some i → i < A.E.length) := P.he
  have HB0 := hid P.B
  have HLT0 : Hid (LcB W A1 bT #[.int .i64 (13 : Nat), .int .i64 kn, .int .i64 kx, .pointer ea] 224) := by
    have := P.LT
    dsimp only at this
    rw [HEA.out] at this
    exact this
  have HLD0 : Hid (LcB W A1 bD #[.int .i64 (dk : Nat), .int .i64 (da : Nat), .int .i64 (db : Nat), .int .i64 (dc : Nat), .int .i64 (dnx : Nat), .int .u64 (dn : Nat), sv dss, .int .i64 (dp : Nat)] 134) := P.LD
  have HT0 : Hid (m.th.tasks.length ≤ 900000 + 0) := hl
  have HV0 : Hid (m.th.vals.length ≤ 900000 + 0) := hvl
  have HXX := hid P.x
  have HBC := hid P.B.c
  have HVP : Hid (0 < m.th.vals.length) := by show _ < _; omega
  clear hv
  have HTR : Hid (truthy (m.topM 0) = false) := htr
  clear htr
  clear P H hl hvl
  obtain ⟨c, hc⟩ : ∃ c, c = cTz (stC 12 (cI (stB Tryz.f77.body))) := ⟨_, rfl⟩
  rw [← hc]
  simp only [cTz, cE, cI, cR, stC, stB, Tryz.f77, Option.getD_some] at hc
  subst hc
  have t0 := HLT0.out.h.cell 0
  have t1 := HLT0.out.h.cell 1
  have t2 := HLT0.out.h.cell 2
  have t3 := HLT0.out.h.cell 3
  simp only [List.getElem?_toArray, List.getElem?_cons_succ, List.getElem?_cons_zero] at t0 t1 t2 t3
  have lT := HLT0.out.h.lt
  have d0 := HLD0.out.h.cell 0
  have d1 := HLD0.out.h.cell 1
  have d2 := HLD0.out.h.cell 2
  have d3 := HLD0.out.h.cell 3
  have d4 := HLD0.out.h.cell 4
  have d5 := HLD0.out.h.cell 5
  have d6 := HLD0.out.h.cell 6
  have d7 := HLD0.out.h.cell 7
  simp only [List.getElem?_toArray, List.getElem?_cons_succ, List.getElem?_cons_zero] at d0 d1 d2 d3 d4 d5 d6 d7
  have lD := HLD0.out.h.lt
  obtain ⟨cc0, cc1, lcc⟩ := HB0.out.c0
  obtain ⟨⟨vt, vn, vs⟩, HXv⟩ : ∃ v, Hid (m.topM 0 = v) := ⟨_, rfl⟩
  have CC := HB0.out.pop (HVP.out) (by have := HV0.out; omega)
  rw [HXv.out] at CC
  have HCC : Hid (Calls Tryz.prog 116 #[.pointer (some ⟨A.br, 0, none⟩)] W (fun e w' => e = .returned (.agg #[.int .i64 vt, .int .u64 vn, sv vs]) ∧ ∃ A', RB w A N root w' A' (m.pops 1) ∧ MSt W A1 w' A')) := CC
  clear CC
  go_wp2_with fail
  refine HCC.out.mono ?_
  rintro e9 w1 ⟨rfl, A11, BB, SS⟩
  clear t0 t1 t2 t3 lT d0 d1 d2 d3 d4 d5 d6 d7 lD cc0 cc1 lcc
  clear HCC
  have FA : Fr (fun _ => False) w1 (w1.alloc (.cells #[.int .i64 vt, .int .u64 vn, sv vs] 68)) := (Fr.refl _ _).alloc _
  have HB1 := hid (BB.fresh FA)
  have HLT1 := hid ((HLT0.out.st SS).fr FA)
  have HLD1 := hid ((HLD0.out.st SS).fr FA)
  have HLV1 : Hid (LcB (w1.alloc (.cells #[.int .i64 vt, .int .u64 vn, sv vs] 68)) A11 w1.heap.size #[.int .i64 vt, .int .u64 vn, sv vs] 68) := LcB.new BB.r.own _ _
  have HS1 := hid (SS.trans (MSt.fresh _ FA))
  clear FA BB SS
  have HT1 : Hid ((m.pops 1).th.tasks.length ≤ 900000 + 1) := by
    show _ ≤ _
    rw [th_pops HB0.out.c]
    have := HT0.out
    simp
    omega
  have HV1 : Hid ((m.pops 1).th.vals.length ≤ 900000 + 1) := by
    show _ ≤ _
    rw [th_pops HB0.out.c]
    have := HV0.out
    simp
    omega
  have t0 := HLT1.out.h.cell 0
  have t1 := HLT1.out.h.cell 1
  have t2 := HLT1.out.h.cell 2
  have t3 := HLT1.out.h.cell 3
  simp only [List.getElem?_toArray, List.getElem?_cons_succ, List.getElem?_cons_zero] at t0 t1 t2 t3
  have lT := HLT1.out.h.lt
  have d0 := HLD1.out.h.cell 0
  have d1 := HLD1.out.h.cell 1
  have d2 := HLD1.out.h.cell 2
  have d3 := HLD1.out.h.cell 3
  have d4 := HLD1.out.h.cell 4
  have d5 := HLD1.out.h.cell 5
  have d6 := HLD1.out.h.cell 6
  have d7 := HLD1.out.h.cell 7
  simp only [List.getElem?_toArray, List.getElem?_cons_succ, List.getElem?_cons_zero] at d0 d1 d2 d3 d4 d5 d6 d7
  have lD := HLD1.out.h.lt
  have v0 := HLV1.out.h.cell 0
  have v1 := HLV1.out.h.cell 1
  have v2 := HLV1.out.h.cell 2
  simp only [List.getElem?_toArray, List.getElem?_cons_succ, List.getElem?_cons_zero] at v0 v1 v2
  have lV := HLV1.out.h.lt
  obtain ⟨cc0, cc1, lcc⟩ := HB1.out.c0
  have TA : Hid (∀ W2, Calls Tryz.prog 119 #[.agg #[.int .i64 vt, .int .u64 vn, sv vs]] W2 fun e w' => e = .returned (.bool (truthy ⟨vt, vn, vs⟩)) ∧ Fr (fun _ => False) W2 w') := fun W2 => truthy_any ⟨vt, vn, vs⟩
  have HTV := HTR
  rw [HXv.out] at HTV
  rw [HTV.out] at TA
  go_wp2_with fail
  refine (TA.out _).mono ?_
  rintro e10 w2 ⟨rfl, G⟩
  clear t0 t1 t2 t3 lT d0 d1 d2 d3 d4 d5 d6 d7 lD v0 v1 v2 lV cc0 cc1 lcc
  have HB2 := hid (HB1.out.fresh G)
  have HLT2 := hid (HLT1.out.fr G)
  have HLD2 := hid (HLD1.out.fr G)
  have HLV2 := hid (HLV1.out.fr G)
  have HT2 : Hid ((m.pops 1).th.tasks.length ≤ 900000 + 2) := by show _ ≤ _; have := HT1.out; omega
  have HV2 : Hid ((m.pops 1).th.vals.length ≤ 900000 + 2) := by show _ ≤ _; have := HV1.out; omega
  clear G TA
  have t0 := HLT2.out.h.cell 0
  have t1 := HLT2.out.h.cell 1
  have t2 := HLT2.out.h.cell 2
  have t3 := HLT2.out.h.cell 3
  simp only [List.getElem?_toArray, List.getElem?_cons_succ, List.getElem?_cons_zero] at t0 t1 t2 t3
  have lT := HLT2.out.h.lt
  have d0 := HLD2.out.h.cell 0
  have d1 := HLD2.out.h.cell 1
  have d2 := HLD2.out.h.cell 2
  have d3 := HLD2.out.h.cell 3
  have d4 := HLD2.out.h.cell 4
  have d5 := HLD2.out.h.cell 5
  have d6 := HLD2.out.h.cell 6
  have d7 := HLD2.out.h.cell 7
  simp only [List.getElem?_toArray, List.getElem?_cons_succ, List.getElem?_cons_zero] at d0 d1 d2 d3 d4 d5 d6 d7
  have lD := HLD2.out.h.lt
  have v0 := HLV2.out.h.cell 0
  have v1 := HLV2.out.h.cell 1
  have v2 := HLV2.out.h.cell 2
  simp only [List.getElem?_toArray, List.getElem?_cons_succ, List.getElem?_cons_zero] at v0 v1 v2
  have lV := HLV2.out.h.lt
  obtain ⟨cc0, cc1, lcc⟩ := HB2.out.c0
  have FIN : Hid (Q (.returned (.tuple #[])) w2) := by
    show Q _ _
    rw [← HQ.out]
    exact HB2.out.end
  go_wp2
  go_end0
  exact FIN.out
end
end Go.Proofs.Qxb6500574aGreatDoor
