/-
  THE WALKS of compm: step: loops, returns, operators.
-/
import Derived.Test.Qxb6500574aGreatDoorZD3
namespace Go.Proofs.Qxb6500574aGreatDoor
open Go Go.RowKit
set_option linter.unusedVariables false
set_option linter.unusedSimpArgs false
section
variable {w W W1 : World} {A A1 A2 : RnP} {N : List Nd} {root : Nat} {M m : MD} {k : TkD} {r : List TkD} {d : Nd} {bT bD xb : Nat} {a : Act}
set_option maxRecDepth 100000
set_option maxHeartbeats 2000000
theorem st14a (P : StZ w A N root W A1 m bT bD xb k d) (hk : k.k = 14) (H : FrZs (.pointer (some ⟨A.br, 0, none⟩)) (.pointer (some ⟨xb, 0, none⟩)) (.pointer (some ⟨bT, 0, none⟩)) (.pointer (some ⟨bD, 0, none⟩)) (.int .i64 k.k) a) (hl : m.th.tasks.length ≤ 900000) (hvl : m.th.vals.length ≤ 900000) {f : Nat} (hf : m.fuel = f + 1) (hfm : f < 9223372036854775807) :
    (cTz (stC 13 (cI (stB Tryz.f77.body)))).wp Tryz.prog (Exit.inBlock 0 (bodyPost Tryz.prog Tryz.f77 (PQm w A N root (({ m with fuel := f } : MD).todo [⟨12, k.n, 0, k.e⟩])))) a W := by
  obtain ⟨u, rfl⟩ := H.form
  obtain ⟨kk, kn, kx, ke⟩ := k
  obtain ⟨dk, da, db, dc, dnx, dn, dss, dp⟩ := d
  dsimp only at hk
  subst hk
  obtain ⟨Q, HQ⟩ : ∃ Q : Ending → World → Prop, Hid (PQm w A N root (({ m with fuel := f } : MD).todo [⟨12, kn, 0, ke⟩]) = Q) := ⟨_, rfl⟩
  dsimp only at HQ ⊢
  rw [HQ.out]
  obtain ⟨ea, HEA⟩ : ∃ ea, Hid (eAd A.E ke = ea) := ⟨_, rfl⟩
  have HE : Hid (∀ i, ke = some i → i < A.E.length) := P.he
  have HB0 := hid P.B
  have HLT0 : Hid (LcB W A1 bT #[.int .i64 (14 : Nat), .int .i64 kn, .int .i64 kx, .pointer ea] 224) := by
    have := P.LT
    dsimp only at this
    rw [HEA.out] at this
    exact this
  have HLD0 : Hid (LcB W A1 bD #[.int .i64 (dk : Nat), .int .i64 (da : Nat), .int .i64 (db : Nat), .int .i64 (dc : Nat), .int .i64 (dnx : Nat), .int .u64 (dn : Nat), sv dss, .int .i64 (dp : Nat)] 134) := P.LD
  have HT0 : Hid (m.th.tasks.length ≤ 900000 + 0) := hl
  have HV0 : Hid (m.th.vals.length ≤ 900000 + 0) := hvl
  have HXX := hid P.x
  have HBC := hid P.B.c
  have HFU := hid hf
  have HFM := hid hfm
  clear hf hfm
  clear P H hl hvl
  obtain ⟨c, hc⟩ : ∃ c, c = cTz (stC 13 (cI (stB Tryz.f77.body))) := ⟨_, rfl⟩
  rw [← hc]
  simp only [cTz, cE, cI, cR, stC, stB, Tryz.f77, Option.getD_some] at hc
  subst hc
  have t0 := HLT0.out.h.cell 0
  have t1 := HLT0.out.h.cell 1
  have t2 := HLT0.out.h.cell 2
  have t3 := HLT0.out.h.cell 3
  simp only [List.getElem?_toArray, List.getElem?_cons_succ, List.getElem?_cons_zero] at t0 t1 t2 t3
  have lT := HLT0.out.h.lt
  have d0 := HLD0.out.h.cell 0
  have d1 := HLD0.out.h.cell 1
  have d2 := HLD0.out.h.cell 2
  have d3 := HLD0.out.h.cell 3
  have d4 := HLD0.out.h.cell 4
  have d5 := HLD0.out.h.cell 5
  have d6 := HLD0.out.h.cell 6
  have d7 := HLD0.out.h.cell 7
  simp only [List.getElem?_toArray, List.getElem?_cons_succ, List.getElem?_cons_zero] at d0 d1 d2 d3 d4 d5 d6 d7
  have lD := HLD0.out.h.lt
  obtain ⟨cc0, cc1, lcc⟩ := HB0.out.c0
  have CC := mburn_yes HB0.out.r HFU.out HFM.out
  rw [HB0.out.s.br] at CC
  have HCC := hid CC
  clear CC
  go_wp2_with fail
  refine HCC.out.mono ?_
  rintro e9 w1 ⟨rfl, A11, q1, q2⟩
  clear t0 t1 t2 t3 lT d0 d1 d2 d3 d4 d5 d6 d7 lD cc0 cc1 lcc
  have HB1 : Hid (RB w A N root w1 A11 { m with fuel := f }) := ⟨q1, HB0.out.s.trans q2, HB0.out.c⟩
  have HLT1 := hid (HLT0.out.st q2)
  have HLD1 := hid (HLD0.out.st q2)
  have HT1 : Hid (({ m with fuel := f } : MD).th.tasks.length ≤ 900000 + 1) := by show m.th.tasks.length ≤ _; have := HT0.out; omega
  have HV1 : Hid (({ m with fuel := f } : MD).th.vals.length ≤ 900000 + 1) := by show m.th.vals.length ≤ _; have := HV0.out; omega
  clear q1 q2 HCC
  have t0 := HLT1.out.h.cell 0
  have t1 := HLT1.out.h.cell 1
  have t2 := HLT1.out.h.cell 2
  have t3 := HLT1.out.h.cell 3
  simp only [List.getElem?_toArray, List.getElem?_cons_succ, List.getElem?_cons_zero] at t0 t1 t2 t3
  have lT := HLT1.out.h.lt
  have d0 := HLD1.out.h.cell 0
  have d1 := HLD1.out.h.cell 1
  have d2 := HLD1.out.h.cell 2
  have d3 := HLD1.out.h.cell 3
  have d4 := HLD1.out.h.cell 4
  have d5 := HLD1.out.h.cell 5
  have d6 := HLD1.out.h.cell 6
  have d7 := HLD1.out.h.cell 7
  simp only [List.getElem?_toArray, List.getElem?_cons_succ, List.getElem?_cons_zero] at d0 d1 d2 d3 d4 d5 d6 d7
  have lD := HLD1.out.h.lt
  obtain ⟨cc0, cc1, lcc⟩ := HB1.out.c0
  have CC := HB1.out.todo (by have := HT1.out; omega) 12 kn 0 ke HE.out (k' := 12) (n' := (kn : Nat)) (x' := 0) rfl rfl rfl
  rw [HEA.out] at CC
  have HCC := hid CC
  clear CC
  go_wp2_with fail
  refine HCC.out.mono ?_
  rintro e10 w2 ⟨rfl, A12, BB, SS⟩
  clear t0 t1 t2 t3 lT d0 d1 d2 d3 d4 d5 d6 d7 lD cc0 cc1 lcc
  clear HCC
  have HB2 := hid BB
  have HLT2 := hid (HLT1.out.st SS)
  have HLD2 := hid (HLD1.out.st SS)
  have HS2 := hid SS
  clear BB SS
  have HT2 : Hid ((({ m with fuel := f } : MD).todo [⟨12, kn, 0, ke⟩]).th.tasks.length ≤ 900000 + 2) := by
    show _ ≤ _
    rw [th_todo HB1.out.c]
    have := HT1.out
    simp
    omega
  have HV2 : Hid ((({ m with fuel := f } : MD).todo [⟨12, kn, 0, ke⟩]).th.vals.length ≤ 900000 + 2) := by
    show _ ≤ _
    rw [th_todo HB1.out.c]
    have := HV1.out
    simp
    omega
  have t0 := HLT2.out.h.cell 0
  have t1 := HLT2.out.h.cell 1
  have t2 := HLT2.out.h.cell 2
  have t3 := HLT2.out.h.cell 3
  simp only [List.getElem?_toArray, List.getElem?_cons_succ, List.getElem?_cons_zero] at t0 t1 t2 t3
  have lT := HLT2.out.h.lt
  have d0 := HLD2.out.h.cell 0
  have d1 := HLD2.out.h.cell 1
  have d2 := HLD2.out.h.cell 2
  have d3 := HLD2.out.h.cell 3
  have d4 := HLD2.out.h.cell 4
  have d5 := HLD2.out.h.cell 5
  have d6 := HLD2.out.h.cell 6
  have d7 := HLD2.out.h.cell 7
  simp only [List.getElem?_toArray, List.getElem?_cons_succ, List.getElem?_cons_zero] at d0 d1 d2 d3 d4 d5 d6 d7
  have lD := HLD2.out.h.lt
  obtain ⟨cc0, cc1, lcc⟩ := HB2.out.c0
  have FIN : Hid (Q (.returned (.tuple #[])) w2) := by
    show Q _ _
    rw [← HQ.out]
    exact HB2.out.end
  go_wp2
  go_end0
  exact FIN.out
theorem st14b (P : StZ w A N root W A1 m bT bD xb k d) (hk : k.k = 14) (H : FrZs (.pointer (some ⟨A.br, 0, none⟩)) (.pointer (some ⟨xb, 0, none⟩)) (.pointer (some ⟨bT, 0, none⟩)) (.pointer (some ⟨bD, 0, none⟩)) (.int .i64 k.k) a) (hl : m.th.tasks.length ≤ 900000) (hvl : m.th.vals.length ≤ 900000) (hf : m.fuel = 0) :
    (cTz (stC 13 (cI (stB Tryz.f77.body)))).wp Tryz.prog (Exit.inBlock 0 (bodyPost Tryz.prog Tryz.f77 (PQm w A N root (m.finish 9 [45])))) a W := by
  obtain ⟨u, rfl⟩ := H.form
  obtain ⟨kk, kn, kx, ke⟩ := k
  obtain ⟨dk, da, db, dc, dnx, dn, dss, dp⟩ := d
  dsimp only at hk
  subst hk
  obtain ⟨Q, HQ⟩ : ∃ Q : Ending → World → Prop, Hid (PQm w A N root (m.finish 9 [45]) = Q) := ⟨_, rfl⟩
  dsimp only at HQ ⊢
  rw [HQ.out]
  obtain ⟨ea, HEA⟩ : ∃ ea, Hid (eAd A.E ke = ea) := ⟨_, rfl⟩
  have HE : Hid (∀ i, ke = some i → i < A.E.length) := P.he
  have HB0 := hid P.B
  have HLT0 : Hid (LcB W A1 bT #[.int .i64 (14 : Nat), .int .i64 kn, .int .i64 kx, .pointer ea] 224) := by
    have := P.LT
    dsimp only at this
    rw [HEA.out] at this
    exact this
  have HLD0 : Hid (LcB W A1 bD #[.int .i64 (dk : Nat), .int .i64 (da : Nat), .int .i64 (db : Nat), .int .i64 (dc : Nat), .int .i64 (dnx : Nat), .int .u64 (dn : Nat), sv dss, .int .i64 (dp : Nat)] 134) := P.LD
  have HT0 : Hid (m.th.tasks.length ≤ 900000 + 0) := hl
  have HV0 : Hid (m.th.vals.length ≤ 900000 + 0) := hvl
  have HXX := hid P.x
  have HBC := hid P.B.c
  have HFU := hid hf
  clear hf
  clear P H hl hvl
  obtain ⟨c, hc⟩ : ∃ c, c = cTz (stC 13 (cI (stB Tryz.f77.body))) := ⟨_, rfl⟩
  rw [← hc]
  simp only [cTz, cE, cI, cR, stC, stB, Tryz.f77, Option.getD_some] at hc
  subst hc
  have t0 := HLT0.out.h.cell 0
  have t1 := HLT0.out.h.cell 1
  have t2 := HLT0.out.h.cell 2
  have t3 := HLT0.out.h.cell 3
  simp only [List.getElem?_toArray, List.getElem?_cons_succ, List.getElem?_cons_zero] at t0 t1 t2 t3
  have lT := HLT0.out.h.lt
  have d0 := HLD0.out.h.cell 0
  have d1 := HLD0.out.h.cell 1
  have d2 := HLD0.out.h.cell 2
  have d3 := HLD0.out.h.cell 3
  have d4 := HLD0.out.h.cell 4
  have d5 := HLD0.out.h.cell 5
  have d6 := HLD0.out.h.cell 6
  have d7 := HLD0.out.h.cell 7
  simp only [List.getElem?_toArray, List.getElem?_cons_succ, List.getElem?_cons_zero] at d0 d1 d2 d3 d4 d5 d6 d7
  have lD := HLD0.out.h.lt
  obtain ⟨cc0, cc1, lcc⟩ := HB0.out.c0
  have CC := mburn_no HB0.out.r HFU.out
  rw [HB0.out.s.br] at CC
  have HCC := hid CC
  clear CC
  go_wp2_with fail
  refine HCC.out.mono ?_
  rintro e9 w1 ⟨rfl, A11, q1, q2⟩
  clear t0 t1 t2 t3 lT d0 d1 d2 d3 d4 d5 d6 d7 lD cc0 cc1 lcc
  have FIN : Hid (Q (.returned (.tuple #[])) w1) := by
    show Q _ _
    rw [← HQ.out]
    exact ⟨rfl, A11, q1, HB0.out.s.trans q2⟩
  clear q1 q2 HCC
  go_wp2
  go_end0
  exact FIN.out
theorem st20a (P : StZ w A N root W A1 m bT bD xb k d) (hk : k.k = 20) (H : FrZs (.pointer (some ⟨A.br, 0, none⟩)) (.pointer (some ⟨xb, 0, none⟩)) (.pointer (some ⟨bT, 0, none⟩)) (.pointer (some ⟨bD, 0, none⟩)) (.int .i64 k.k) a) (hl : m.th.tasks.length ≤ 900000) (hvl : m.th.vals.length ≤ 900000) {f : Nat} (hf : m.fuel = f + 1) (hfm : f < 9223372036854775807) :
    (cTz (stC 19 (cI (stB Tryz.f77.body)))).wp Tryz.prog (Exit.inBlock 0 (bodyPost Tryz.prog Tryz.f77 (PQm w A N root (({ m with fuel := f } : MD).todo [⟨19, k.n, 0, k.e⟩])))) a W := by
  obtain ⟨u, rfl⟩ := H.form
  obtain ⟨kk, kn, kx, ke⟩ := k
  obtain ⟨dk, da, db, dc, dnx, dn, dss, dp⟩ := d
  dsimp only at hk
  subst hk
  obtain ⟨Q, HQ⟩ : ∃ Q : Ending → World → Prop, Hid (PQm w A N root (({ m with fuel := f } : MD).todo [⟨19, kn, 0, ke⟩]) = Q) := ⟨_, rfl⟩
  dsimp only at HQ ⊢
  rw [HQ.out]
  obtain ⟨ea, HEA⟩ : ∃ ea, Hid (eAd A.E ke = ea) := ⟨_, rfl⟩
  have HE : Hid (∀ i, ke = some i → i < A.E.length) := P.he
  have HB0 := hid P.B
  have HLT0 : Hid (LcB W A1 bT #[.int .i64 (20 : Nat), .int .i64 kn, .int .i64 kx, .pointer ea] 224) := by
    have := P.LT
    dsimp only at this
    rw [HEA.out] at this
    exact this
  have HLD0 : Hid (LcB W A1 bD #[.int .i64 (dk : Nat), .int .i64 (da : Nat), .int .i64 (db : Nat), .int .i64 (dc : Nat), .int .i64 (dnx : Nat), .int .u64 (dn : Nat), sv dss, .int .i64 (dp : Nat)] 134) := P.LD
  have HT0 : Hid (m.th.tasks.length ≤ 900000 + 0) := hl
  have HV0 : Hid (m.th.vals.length ≤ 900000 + 0) := hvl
  have HXX := hid P.x
  have HBC := hid P.B.c
  have HFU := hid hf
  have HFM := hid hfm
  clear hf hfm
  clear P H hl hvl
  obtain ⟨c, hc⟩ : ∃ c, c = cTz (stC 19 (cI (stB Tryz.f77.body))) := ⟨_, rfl⟩
  rw [← hc]
  simp only [cTz, cE, cI, cR, stC, stB, Tryz.f77, Option.getD_some] at hc
  subst hc
  have t0 := HLT0.out.h.cell 0
  have t1 := HLT0.out.h.cell 1
  have t2 := HLT0.out.h.cell 2
  have t3 := HLT0.out.h.cell 3
  simp only [List.getElem?_toArray, List.getElem?_cons_succ, List.getElem?_cons_zero] at t0 t1 t2 t3
  have lT := HLT0.out.h.lt
  have d0 := HLD0.out.h.cell 0
  have d1 := HLD0.out.h.cell 1
  have d2 := HLD0.out.h.cell 2
  have d3 := HLD0.out.h.cell 3
  have d4 := HLD0.out.h.cell 4
  have d5 := HLD0.out.h.cell 5
  have d6 := HLD0.out.h.cell 6
  have d7 := HLD0.out.h.cell 7
  simp only [List.getElem?_toArray, List.getElem?_cons_succ, List.getElem?_cons_zero] at d0 d1 d2 d3 d4 d5 d6 d7
  have lD := HLD0.out.h.lt
  obtain ⟨cc0, cc1, lcc⟩ := HB0.out.c0
  have CC := mburn_yes HB0.out.r HFU.out HFM.out
  rw [HB0.out.s.br] at CC
  have HCC := hid CC
  clear CC
  go_wp2_with fail
  refine HCC.out.mono ?_
  rintro e9 w1 ⟨rfl, A11, q1, q2⟩
  clear t0 t1 t2 t3 lT d0 d1 d2 d3 d4 d5 d6 d7 lD cc0 cc1 lcc
  have HB1 : Hid (RB w A N root w1 A11 { m with fuel := f }) := ⟨q1, HB0.out.s.trans q2, HB0.out.c⟩
  have HLT1 := hid (HLT0.out.st q2)
  have HLD1 := hid (HLD0.out.st q2)
  have HT1 : Hid (({ m with fuel := f } : MD).th.tasks.length ≤ 900000 + 1) := by show m.th.tasks.length ≤ _; have := HT0.out; omega
  have HV1 : Hid (({ m with fuel := f } : MD).th.vals.length ≤ 900000 + 1) := by show m.th.vals.length ≤ _; have := HV0.out; omega
  clear q1 q2 HCC
  have t0 := HLT1.out.h.cell 0
  have t1 := HLT1.out.h.cell 1
  have t2 := HLT1.out.h.cell 2
  have t3 := HLT1.out.h.cell 3
  simp only [List.getElem?_toArray, List.getElem?_cons_succ, List.getElem?_cons_zero] at t0 t1 t2 t3
  have lT := HLT1.out.h.lt
  have d0 := HLD1.out.h.cell 0
  have d1 := HLD1.out.h.cell 1
  have d2 := HLD1.out.h.cell 2
  have d3 := HLD1.out.h.cell 3
  have d4 := HLD1.out.h.cell 4
  have d5 := HLD1.out.h.cell 5
  have d6 := HLD1.out.h.cell 6
  have d7 := HLD1.out.h.cell 7
  simp only [List.getElem?_toArray, List.getElem?_cons_succ, List.getElem?_cons_zero] at d0 d1 d2 d3 d4 d5 d6 d7
  have lD := HLD1.out.h.lt
  obtain ⟨cc0, cc1, lcc⟩ := HB1.out.c0
  have CC := HB1.out.todo (by have := HT1.out; omega) 19 kn 0 ke HE.out (k' := 19) (n' := (kn : Nat)) (x' := 0) rfl rfl rfl
  rw [HEA.out] at CC
  have HCC := hid CC
  clear CC
  go_wp2_with fail
  refine HCC.out.mono ?_
  rintro e10 w2 ⟨rfl, A12, BB, SS⟩
  clear t0 t1 t2 t3 lT d0 d1 d2 d3 d4 d5 d6 d7 lD cc0 cc1 lcc
  clear HCC
  have HB2 := hid BB
  have HLT2 := hid (HLT1.out.st SS)
  have HLD2 := hid (HLD1.out.st SS)
  have HS2 := hid SS
  clear BB SS
  have HT2 : Hid ((({ m with fuel := f } : MD).todo [⟨19, kn, 0, ke⟩]).th.tasks.length ≤ 900000 + 2) := by
    show _ ≤ _
    rw [th_todo HB1.out.c]
    have := HT1.out
    simp
    omega
  have HV2 : Hid ((({ m with fuel := f } : MD).todo [⟨19, kn, 0, ke⟩]).th.vals.length ≤ 900000 + 2) := by
    show _ ≤ _
    rw [th_todo HB1.out.c]
    have := HV1.out
    simp
    omega
  have t0 := HLT2.out.h.cell 0
  have t1 := HLT2.out.h.cell 1
  have t2 := HLT2.out.h.cell 2
  have t3 := HLT2.out.h.cell 3
  simp only [List.getElem?_toArray, List.getElem?_cons_succ, List.getElem?_cons_zero] at t0 t1 t2 t3
  have lT := HLT2.out.h.lt
  have d0 := HLD2.out.h.cell 0
  have d1 := HLD2.out.h.cell 1
  have d2 := HLD2.out.h.cell 2
  have d3 := HLD2.out.h.cell 3
  have d4 := HLD2.out.h.cell 4
  have d5 := HLD2.out.h.cell 5
  have d6 := HLD2.out.h.cell 6
  have d7 := HLD2.out.h.cell 7
  simp only [List.getElem?_toArray, List.getElem?_cons_succ, List.getElem?_cons_zero] at d0 d1 d2 d3 d4 d5 d6 d7
  have lD := HLD2.out.h.lt
  obtain ⟨cc0, cc1, lcc⟩ := HB2.out.c0
  have FIN : Hid (Q (.returned (.tuple #[])) w2) := by
    show Q _ _
    rw [← HQ.out]
    exact HB2.out.end
  go_wp2
  go_end0
  exact FIN.out
theorem st20b (P : StZ w A N root W A1 m bT bD xb k d) (hk : k.k = 20) (H : FrZs (.pointer (some ⟨A.br, 0, none⟩)) (.pointer (some ⟨xb, 0, none⟩)) (.pointer (some ⟨bT, 0, none⟩)) (.pointer (some ⟨bD, 0, none⟩)) (.int .i64 k.k) a) (hl : m.th.tasks.length ≤ 900000) (hvl : m.th.vals.length ≤ 900000) (hf : m.fuel = 0) :
    (cTz (stC 19 (cI (stB Tryz.f77.body)))).wp Tryz.prog (Exit.inBlock 0 (bodyPost Tryz.prog Tryz.f77 (PQm w A N root (m.finish 9 [45])))) a W := by
  obtain ⟨u, rfl⟩ := H.form
  obtain ⟨kk, kn, kx, ke⟩ := k
  obtain ⟨dk, da, db, dc, dnx, dn, dss, dp⟩ := d
  dsimp only at hk
  subst hk
  obtain ⟨Q, HQ⟩ : ∃ Q : Ending → World → Prop, Hid (PQm w A N root (m.finish 9 [45]) = Q) := ⟨_, rfl⟩
  dsimp only at HQ ⊢
  rw [HQ.out]
  obtain ⟨ea, HEA⟩ : ∃ ea, Hid (eAd A.E ke = ea) := ⟨_, rfl⟩
  have HE : Hid (∀ i, ke = some i → i < A.E.length) := P.he
  have HB0 := hid P.B
  have HLT0 : Hid (LcB W A1 bT #[.int .i64 (20 : Nat), .int .i64 kn, .int .i64 kx, .pointer ea] 224) := by
    have := P.LT
    dsimp only at this
    rw [HEA.out] at this
    exact this
  have HLD0 : Hid (LcB W A1 bD #[.int .i64 (dk : Nat), .int .i64 (da : Nat), .int .i64 (db : Nat), .int .i64 (dc : Nat), .int .i64 (dnx : Nat), .int .u64 (dn : Nat), sv dss, .int .i64 (dp : Nat)] 134) := P.LD
  have HT0 : Hid (m.th.tasks.length ≤ 900000 + 0) := hl
  have HV0 : Hid (m.th.vals.length ≤ 900000 + 0) := hvl
  have HXX := hid P.x
  have HBC := hid P.B.c
  have HFU := hid hf
  clear hf
  clear P H hl hvl
  obtain ⟨c, hc⟩ : ∃ c, c = cTz (stC 19 (cI (stB Tryz.f77.body))) := ⟨_, rfl⟩
  rw [← hc]
  simp only [cTz, cE, cI, cR, stC, stB, Tryz.f77, Option.getD_some] at hc
  subst hc
  have t0 := HLT0.out.h.cell 0
  have t1 := HLT0.out.h.cell 1
  have t2 := HLT0.out.h.cell 2
  have t3 := HLT0.out.h.cell 3
  simp only [List.getElem?_toArray, List.getElem?_cons_succ, List.getElem?_cons_zero] at t0 t1 t2 t3
  have lT := HLT0.out.h.lt
  have d0 := HLD0.out.h.cell 0
  have d1 := HLD0.out.h.cell 1
  have d2 := HLD0.out.h.cell 2
  have d3 := HLD0.out.h.cell 3
  have d4 := HLD0.out.h.cell 4
  have d5 := HLD0.out.h.cell 5
  have d6 := HLD0.out.h.cell 6
  have d7 := HLD0.out.h.cell 7
  simp only [List.getElem?_toArray, List.getElem?_cons_succ, List.getElem?_cons_zero] at d0 d1 d2 d3 d4 d5 d6 d7
  have lD := HLD0.out.h.lt
  obtain ⟨cc0, cc1, lcc⟩ := HB0.out.c0
  have CC := mburn_no HB0.out.r HFU.out
  rw [HB0.out.s.br] at CC
  have HCC := hid CC
  clear CC
  go_wp2_with fail
  refine HCC.out.mono ?_
  rintro e9 w1 ⟨rfl, A11, q1, q2⟩
  clear t0 t1 t2 t3 lT d0 d1 d2 d3 d4 d5 d6 d7 lD cc0 cc1 lcc
  have FIN : Hid (Q (.returned (.tuple #[])) w1) := by
    show Q _ _
    rw [← HQ.out]
    exact ⟨rfl, A11, q1, HB0.out.s.trans q2⟩
  clear q1 q2 HCC
  go_wp2
  go_end0
  exact FIN.out
theorem st21 (P : StZ w A N root W A1 m bT bD xb k d) (hk : k.k = 21) (H : FrZs (.pointer (some ⟨A.br, 0, none⟩)) (.pointer (some ⟨xb, 0, none⟩)) (.pointer (some ⟨bT, 0, none⟩)) (.pointer (some ⟨bD, 0, none⟩)) (.int .i64 k.k) a) (hl : m.th.tasks.length ≤ 900000) (hvl : m.th.vals.length ≤ 900000) (hv : 2 ≤ m.th.vals.length) (hrt : RetOk (m.pops 2)) (ha : wellV ((m.pops 1).topM 0) = true ∧ (((m.pops 1).topM 0).t = 2 → ((m.pops 1).topM 0).n < 18446744073709551616)) :
    (cTz (stC 20 (cI (stB Tryz.f77.body)))).wp Tryz.prog (Exit.inBlock 0 (bodyPost Tryz.prog Tryz.f77 (PQm w A N root ((m.pops 2).ret ((m.pops 1).topM 0) (m.topM 0))))) a W := by
  obtain ⟨u, rfl⟩ := H.form
  obtain ⟨kk, kn, kx, ke⟩ := k
  obtain ⟨dk, da, db, dc, dnx, dn, dss, dp⟩ := d
  dsimp only at hk
  subst hk
  obtain ⟨Q, HQ⟩ : ∃ Q : Ending → World → Prop, Hid (PQm w A N root ((m.pops 2).ret ((m.pops 1).topM 0) (m.topM 0)) = Q) := ⟨_, rfl⟩
  dsimp only at HQ ⊢
  rw [HQ.out]
  obtain ⟨ea, HEA⟩ : ∃ ea, Hid (eAd A.E ke = ea) := ⟨_, rfl⟩
  have HE : Hid (∀ i, ke = some i → i < A.E.length) := P.he
  have HB0 := hid P.B
  have HLT0 : Hid (LcB W A1 bT #[.int .i64 (21 : Nat), .int .i64 kn, .int .i64 kx, .pointer ea] 224) := by
    have := P.LT
    dsimp only at this
    rw [HEA.out] at this
    exact this
  have HLD0 : Hid (LcB W A1 bD #[.int .i64 (dk : Nat), .int .i64 (da : Nat), .int .i64 (db : Nat), .int .i64 (dc : Nat), .int .i64 (dnx : Nat), .int .u64 (dn : Nat), sv dss, .int .i64 (dp : Nat)] 134) := P.LD
  have HT0 : Hid (m.th.tasks.length ≤ 900000 + 0) := hl
  have HV0 : Hid (m.th.vals.length ≤ 900000 + 0) := hvl
  have HXX := hid P.x
  have HBC := hid P.B.c
  have HZ : Hid ((m.pops 2).ret ((m.pops 1).topM 0) (m.topM 0) = ((m.pops 1).pops 1).ret ((m.pops 1).topM 0) (m.topM 0)) := by
    show _ = _
    rw [pops_pops HBC.out]
  have HVP : Hid (0 < m.th.vals.length) := by show _ < _; omega
  have HVP1 : Hid (0 < (m.pops 1).th.vals.length) := by show _ < _; rw [th_pops HBC.out]; simp; omega
  clear hv
  have HRT : Hid (RetOk ((m.pops 1).pops 1)) := by show RetOk _; rw [pops_pops HBC.out]; exact hrt
  have HWA0 := hid ha
  have HWA : Hid (∀ v, (m.pops 1).topM 0 = v → wellV v = true ∧ (v.t = 2 → v.n < 18446744073709551616)) := fun v hv => by
    rw [← hv]
    exact ha
  clear hrt ha
  clear P H hl hvl
  obtain ⟨c, hc⟩ : ∃ c, c = cTz (stC 20 (cI (stB Tryz.f77.body))) := ⟨_, rfl⟩
  rw [← hc]
  simp only [cTz, cE, cI, cR, stC, stB, Tryz.f77, Option.getD_some] at hc
  subst hc
  have t0 := HLT0.out.h.cell 0
  have t1 := HLT0.out.h.cell 1
  have t2 := HLT0.out.h.cell 2
  have t3 := HLT0.out.h.cell 3
  simp only [List.getElem?_toArray, List.getElem?_cons_succ, List.getElem?_cons_zero] at t0 t1 t2 t3
  have lT := HLT0.out.h.lt
  have d0 := HLD0.out.h.cell 0
  have d1 := HLD0.out.h.cell 1
  have d2 := HLD0.out.h.cell 2
  have d3 := HLD0.out.h.cell 3
  have d4 := HLD0.out.h.cell 4
  have d5 := HLD0.out.h.cell 5
  have d6 := HLD0.out.h.cell 6
  have d7 := HLD0.out.h.cell 7
  simp only [List.getElem?_toArray, List.getElem?_cons_succ, List.getElem?_cons_zero] at d0 d1 d2 d3 d4 d5 d6 d7
  have lD := HLD0.out.h.lt
  obtain ⟨cc0, cc1, lcc⟩ := HB0.out.c0
  obtain ⟨⟨vt, vn, vs⟩, HXv⟩ : ∃ v, Hid (m.topM 0 = v) := ⟨_, rfl⟩
  have CC := HB0.out.pop (HVP.out) (by have := HV0.out; omega)
  rw [HXv.out] at CC
  have HCC : Hid (Calls Tryz.prog 116 #[.pointer (some ⟨A.br, 0, none⟩)] W (fun e w' => e = .returned (.agg #[.int .i64 vt, .int .u64 vn, sv vs]) ∧ ∃ A', RB w A N root w' A' (m.pops 1) ∧ MSt W A1 w' A')) := CC
  clear CC
  go_wp2_with fail
  refine HCC.out.mono ?_
  rintro e9 w1 ⟨rfl, A11, BB, SS⟩
  clear t0 t1 t2 t3 lT d0 d1 d2 d3 d4 d5 d6 d7 lD cc0 cc1 lcc
  clear HCC
  have FA : Fr (fun _ => False) w1 (w1.alloc (.cells #[.int .i64 vt, .int .u64 vn, sv vs] 68)) := (Fr.refl _ _).alloc _
  have HB1 := hid (BB.fresh FA)
  have HLT1 := hid ((HLT0.out.st SS).fr FA)
  have HLD1 := hid ((HLD0.out.st SS).fr FA)
  have HLV1 : Hid (LcB (w1.alloc (.cells #[.int .i64 vt, .int .u64 vn, sv vs] 68)) A11 w1.heap.size #[.int .i64 vt, .int .u64 vn, sv vs] 68) := LcB.new BB.r.own _ _
  have HS1 := hid (SS.trans (MSt.fresh _ FA))
  clear FA BB SS
  have HT1 : Hid ((m.pops 1).th.tasks.length ≤ 900000 + 1) := by
    show _ ≤ _
    rw [th_pops HB0.out.c]
    have := HT0.out
    simp
    omega
  have HV1 : Hid ((m.pops 1).th.vals.length ≤ 900000 + 1) := by
    show _ ≤ _
    rw [th_pops HB0.out.c]
    have := HV0.out
    simp
    omega
  have t0 := HLT1.out.h.cell 0
  have t1 := HLT1.out.h.cell 1
  have t2 := HLT1.out.h.cell 2
  have t3 := HLT1.out.h.cell 3
  simp only [List.getElem?_toArray, List.getElem?_cons_succ, List.getElem?_cons_zero] at t0 t1 t2 t3
  have lT := HLT1.out.h.lt
  have d0 := HLD1.out.h.cell 0
  have d1 := HLD1.out.h.cell 1
  have d2 := HLD1.out.h.cell 2
  have d3 := HLD1.out.h.cell 3
  have d4 := HLD1.out.h.cell 4
  have d5 := HLD1.out.h.cell 5
  have d6 := HLD1.out.h.cell 6
  have d7 := HLD1.out.h.cell 7
  simp only [List.getElem?_toArray, List.getElem?_cons_succ, List.getElem?_cons_zero] at d0 d1 d2 d3 d4 d5 d6 d7
  have lD := HLD1.out.h.lt
  have v0 := HLV1.out.h.cell 0
  have v1 := HLV1.out.h.cell 1
  have v2 := HLV1.out.h.cell 2
  simp only [List.getElem?_toArray, List.getElem?_cons_succ, List.getElem?_cons_zero] at v0 v1 v2
  have lV := HLV1.out.h.lt
  obtain ⟨cc0, cc1, lcc⟩ := HB1.out.c0
  obtain ⟨⟨ut, un, us⟩, HXu⟩ : ∃ v, Hid ((m.pops 1).topM 0 = v) := ⟨_, rfl⟩
  have CC := HB1.out.pop (HVP1.out) (by have := HV1.out; omega)
  rw [HXu.out] at CC
  have HCC : Hid (Calls Tryz.prog 116 #[.pointer (some ⟨A.br, 0, none⟩)] (w1.alloc (.cells #[.int .i64 vt, .int .u64 vn, sv vs] 68)) (fun e w' => e = .returned (.agg #[.int .i64 ut, .int .u64 un, sv us]) ∧ ∃ A', RB w A N root w' A' ((m.pops 1).pops 1) ∧ MSt (w1.alloc (.cells #[.int .i64 vt, .int .u64 vn, sv vs] 68)) A11 w' A')) := CC
  clear CC
  go_wp2_with fail
  refine HCC.out.mono ?_
  rintro e10 w2 ⟨rfl, A12, BB, SS⟩
  clear t0 t1 t2 t3 lT d0 d1 d2 d3 d4 d5 d6 d7 lD v0 v1 v2 lV cc0 cc1 lcc
  clear HCC
  have FA : Fr (fun _ => False) w2 (w2.alloc (.cells #[.int .i64 ut, .int .u64 un, sv us] 68)) := (Fr.refl _ _).alloc _
  have HB2 := hid (BB.fresh FA)
  have HLT2 := hid ((HLT1.out.st SS).fr FA)
  have HLD2 := hid ((HLD1.out.st SS).fr FA)
  have HLV2 := hid ((HLV1.out.st SS).fr FA)
  have HLU2 : Hid (LcB (w2.alloc (.cells #[.int .i64 ut, .int .u64 un, sv us] 68)) A12 w2.heap.size #[.int .i64 ut, .int .u64 un, sv us] 68) := LcB.new BB.r.own _ _
  have HS2 := hid (SS.trans (MSt.fresh _ FA))
  clear FA BB SS
  have HT2 : Hid (((m.pops 1).pops 1).th.tasks.length ≤ 900000 + 2) := by
    show _ ≤ _
    rw [th_pops HB1.out.c]
    have := HT1.out
    simp
    omega
  have HV2 : Hid (((m.pops 1).pops 1).th.vals.length ≤ 900000 + 2) := by
    show _ ≤ _
    rw [th_pops HB1.out.c]
    have := HV1.out
    simp
    omega
  have t0 := HLT2.out.h.cell 0
  have t1 := HLT2.out.h.cell 1
  have t2 := HLT2.out.h.cell 2
  have t3 := HLT2.out.h.cell 3
  simp only [List.getElem?_toArray, List.getElem?_cons_succ, List.getElem?_cons_zero] at t0 t1 t2 t3
  have lT := HLT2.out.h.lt
  have d0 := HLD2.out.h.cell 0
  have d1 := HLD2.out.h.cell 1
  have d2 := HLD2.out.h.cell 2
  have d3 := HLD2.out.h.cell 3
  have d4 := HLD2.out.h.cell 4
  have d5 := HLD2.out.h.cell 5
  have d6 := HLD2.out.h.cell 6
  have d7 := HLD2.out.h.cell 7
  simp only [List.getElem?_toArray, List.getElem?_cons_succ, List.getElem?_cons_zero] at d0 d1 d2 d3 d4 d5 d6 d7
  have lD := HLD2.out.h.lt
  have v0 := HLV2.out.h.cell 0
  have v1 := HLV2.out.h.cell 1
  have v2 := HLV2.out.h.cell 2
  simp only [List.getElem?_toArray, List.getElem?_cons_succ, List.getElem?_cons_zero] at v0 v1 v2
  have lV := HLV2.out.h.lt
  have u0 := HLU2.out.h.cell 0
  have u1 := HLU2.out.h.cell 1
  have u2 := HLU2.out.h.cell 2
  simp only [List.getElem?_toArray, List.getElem?_cons_succ, List.getElem?_cons_zero] at u0 u1 u2
  have lU := HLU2.out.h.lt
  obtain ⟨cc0, cc1, lcc⟩ := HB2.out.c0
  have CC := ret_m HB2.out.r HRT.out ⟨ut, un, us⟩ ⟨vt, vn, vs⟩ (HWA.out _ HXu.out).1 (HWA.out _ HXu.out).2
  rw [HB2.out.s.br] at CC
  have HCC : Hid (Calls Tryz.prog 115 #[.pointer (some ⟨A.br, 0, none⟩), .agg #[.int .i64 ut, .int .u64 un, sv us], .agg #[.int .i64 vt, .int .u64 vn, sv vs]] (w2.alloc (.cells #[.int .i64 ut, .int .u64 un, sv us] 68)) (PQm (w2.alloc (.cells #[.int .i64 ut, .int .u64 un, sv us] 68)) A12 N root (((m.pops 1).pops 1).ret ⟨ut, un, us⟩ ⟨vt, vn, vs⟩))) := CC
  clear CC
  go_wp2_with fail
  refine HCC.out.mono ?_
  rintro e11 w3 ⟨rfl, A13, q1, q2⟩
  clear t0 t1 t2 t3 lT d0 d1 d2 d3 d4 d5 d6 d7 lD v0 v1 v2 lV u0 u1 u2 lU cc0 cc1 lcc
  have FIN : Hid (Q (.returned (.tuple #[])) w3) := by
    show Q _ _
    rw [← HQ.out, HZ.out, HXv.out, HXu.out]
    exact ⟨rfl, A13, q1, HB2.out.s.trans q2⟩
  clear q1 q2 HCC
  go_wp2
  go_end0
  exact FIN.out
end
end Go.Proofs.Qxb6500574aGreatDoor
