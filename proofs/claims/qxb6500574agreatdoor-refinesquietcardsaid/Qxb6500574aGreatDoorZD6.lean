/-
  THE WALKS of compm: step: variables.
-/
import Derived.Test.Qxb6500574aGreatDoorZD5
namespace Go.Proofs.Qxb6500574aGreatDoor
open Go Go.RowKit
set_option linter.unusedVariables false
set_option linter.unusedSimpArgs false
section
variable {w W W1 : World} {A A1 A2 : RnP} {N : List Nd} {root : Nat} {M m : MD} {k : TkD} {r : List TkD} {d : Nd} {bT bD xb : Nat} {a : Act}
set_option maxRecDepth 100000
set_option maxHeartbeats 2000000
theorem RB.todoC (B : RB w A N root W A1 m) (hl : m.th.tasks.length ≤ 1000000) (k n x : Nat) (e : Option Nat) {ea : Option Addr} (he : eAd A1.E e = ea) {k' n' x' : Int} (hk : k' = k) (hn : n' = n) (hx : x' = x) :
    Calls Tryz.prog 112 #[.pointer (some ⟨A.br, 0, none⟩), .int .i64 k', .int .i64 n', .int .i64 x', .pointer ea] W (RBQ w A N root W A1 (m.todo [⟨k, n, x, e⟩])) := by
  have := do_m B.r B.c hl k n x e hk hn hx (ev := .pointer ea) (by unfold ePtr; rw [he])
  rw [B.s.br] at this
  exact this.mono fun _ _ h => B.of (c_todo B.c _) h
theorem RB.eN (B : RB w A N root W A1 m) {e : Option Nat} (he : ∀ i, e = some i → i < A.E.length) : eAd A1.E e = eAd A.E e := by have := B.s.ep he; unfold ePtr at this; injection this
theorem st6 (P : StZ w A N root W A1 m bT bD xb k d) (hk : k.k = 6) (H : FrZs (.pointer (some ⟨A.br, 0, none⟩)) (.pointer (some ⟨xb, 0, none⟩)) (.pointer (some ⟨bT, 0, none⟩)) (.pointer (some ⟨bD, 0, none⟩)) (.int .i64 k.k) a) (hl : m.th.tasks.length ≤ 900000) (hvl : m.th.vals.length ≤ 900000) (hv : 1 ≤ m.th.vals.length) (RO : RefOk (m.pops 1)) :
    (cTz (stC 5 (cI (stB Tryz.f77.body)))).wp Tryz.prog (Exit.inBlock 0 (bodyPost Tryz.prog Tryz.f77 (PQm w A N root ({ (m.pops 1).todo [⟨1, d.next, 0, some m.envs.length⟩] with envs := m.envs ++ [⟨d.s, m.topM 0, k.e⟩] })))) a W := by
  obtain ⟨u, rfl⟩ := H.form
  obtain ⟨kk, kn, kx, ke⟩ := k
  obtain ⟨dk, da, db, dc, dnx, dn, dss, dp⟩ := d
  dsimp only at hk
  subst hk
  obtain ⟨Q, HQ⟩ : ∃ Q : Ending → World → Prop, Hid (PQm w A N root ({ (m.pops 1).todo [⟨1, dnx, 0, some m.envs.length⟩] with envs := m.envs ++ [⟨dss, m.topM 0, ke⟩] }) = Q) := ⟨_, rfl⟩
  dsimp only at HQ ⊢
  rw [HQ.out]
  obtain ⟨ea, HEA⟩ : ∃ ea, Hid (eAd A.E ke = ea) := ⟨_, rfl⟩
  have HE : Hid (∀ i, ke = some i → i < A.E.length) := P.he
  have HB0 := hid P.B
  have HLT0 : Hid (LcB W A1 bT #[.int .i64 (6 : Nat), .int .i64 kn, .int .i64 kx, .pointer ea] 224) := by
    have := P.LT
    dsimp only at this
    rw [HEA.out] at this
    exact this
  have HLD0 : Hid (LcB W A1 bD #[.int .i64 (dk : Nat), .int .i64 (da : Nat), .int .i64 (db : Nat), .int .i64 (dc : Nat), .int .i64 (dnx : Nat), .int .u64 (dn : Nat), sv dss, .int .i64 (dp : Nat)] 134) := P.LD
  have HT0 : Hid (m.th.tasks.length ≤ 900000 + 0) := hl
  have HV0 : Hid (m.th.vals.length ≤ 900000 + 0) := hvl
  have HXX := hid P.x
  have HBC := hid P.B.c
  have HZ : Hid ({ (m.pops 1).todo [⟨1, dnx, 0, some m.envs.length⟩] with envs := m.envs ++ [⟨dss, m.topM 0, ke⟩] } = (({ m.pops 1 with envs := (m.pops 1).envs ++ [⟨dss, m.topM 0, ke⟩] } : MD).todo [⟨1, dnx, 0, some (m.pops 1).envs.length⟩])) := by
    show _ = _
    rfl
  have HVP : Hid (0 < m.th.vals.length) := by show _ < _; omega
  clear hv
  have RO1 := hid RO
  clear RO
  clear P H hl hvl
  obtain ⟨c, hc⟩ : ∃ c, c = cTz (stC 5 (cI (stB Tryz.f77.body))) := ⟨_, rfl⟩
  rw [← hc]
  simp only [cTz, cE, cI, cR, stC, stB, Tryz.f77, Option.getD_some] at hc
  subst hc
  have t0 := HLT0.out.h.cell 0
  have t1 := HLT0.out.h.cell 1
  have t2 := HLT0.out.h.cell 2
  have t3 := HLT0.out.h.cell 3
  simp only [List.getElem?_toArray, List.getElem?_cons_succ, List.getElem?_cons_zero] at t0 t1 t2 t3
  have lT := HLT0.out.h.lt
  have d0 := HLD0.out.h.cell 0
  have d1 := HLD0.out.h.cell 1
  have d2 := HLD0.out.h.cell 2
  have d3 := HLD0.out.h.cell 3
  have d4 := HLD0.out.h.cell 4
  have d5 := HLD0.out.h.cell 5
  have d6 := HLD0.out.h.cell 6
  have d7 := HLD0.out.h.cell 7
  simp only [List.getElem?_toArray, List.getElem?_cons_succ, List.getElem?_cons_zero] at d0 d1 d2 d3 d4 d5 d6 d7
  have lD := HLD0.out.h.lt
  obtain ⟨cc0, cc1, lcc⟩ := HB0.out.c0
  obtain ⟨⟨vt, vn, vs⟩, HXv⟩ : ∃ v, Hid (m.topM 0 = v) := ⟨_, rfl⟩
  have CC := HB0.out.pop (HVP.out) (by have := HV0.out; omega)
  rw [HXv.out] at CC
  have HCC : Hid (Calls Tryz.prog 116 #[.pointer (some ⟨A.br, 0, none⟩)] W (fun e w' => e = .returned (.agg #[.int .i64 vt, .int .u64 vn, sv vs]) ∧ ∃ A', RB w A N root w' A' (m.pops 1) ∧ MSt W A1 w' A')) := CC
  clear CC
  go_wp2_with fail
  refine HCC.out.mono ?_
  rintro e9 w1 ⟨rfl, A11, BB, SS⟩
  clear t0 t1 t2 t3 lT d0 d1 d2 d3 d4 d5 d6 d7 lD cc0 cc1 lcc
  clear HCC
  have FA : Fr (fun _ => False) w1 (w1.alloc (.cells #[.int .i64 vt, .int .u64 vn, sv vs] 68)) := (Fr.refl _ _).alloc _
  have HB1 := hid (BB.fresh FA)
  have HLT1 := hid ((HLT0.out.st SS).fr FA)
  have HLD1 := hid ((HLD0.out.st SS).fr FA)
  have HLV1 : Hid (LcB (w1.alloc (.cells #[.int .i64 vt, .int .u64 vn, sv vs] 68)) A11 w1.heap.size #[.int .i64 vt, .int .u64 vn, sv vs] 68) := LcB.new BB.r.own _ _
  have HS1 := hid (SS.trans (MSt.fresh _ FA))
  clear FA BB SS
  have HT1 : Hid ((m.pops 1).th.tasks.length ≤ 900000 + 1) := by
    show _ ≤ _
    rw [th_pops HB0.out.c]
    have := HT0.out
    simp
    omega
  have HV1 : Hid ((m.pops 1).th.vals.length ≤ 900000 + 1) := by
    show _ ≤ _
    rw [th_pops HB0.out.c]
    have := HV0.out
    simp
    omega
  have t0 := HLT1.out.h.cell 0
  have t1 := HLT1.out.h.cell 1
  have t2 := HLT1.out.h.cell 2
  have t3 := HLT1.out.h.cell 3
  simp only [List.getElem?_toArray, List.getElem?_cons_succ, List.getElem?_cons_zero] at t0 t1 t2 t3
  have lT := HLT1.out.h.lt
  have d0 := HLD1.out.h.cell 0
  have d1 := HLD1.out.h.cell 1
  have d2 := HLD1.out.h.cell 2
  have d3 := HLD1.out.h.cell 3
  have d4 := HLD1.out.h.cell 4
  have d5 := HLD1.out.h.cell 5
  have d6 := HLD1.out.h.cell 6
  have d7 := HLD1.out.h.cell 7
  simp only [List.getElem?_toArray, List.getElem?_cons_succ, List.getElem?_cons_zero] at d0 d1 d2 d3 d4 d5 d6 d7
  have lD := HLD1.out.h.lt
  have v0 := HLV1.out.h.cell 0
  have v1 := HLV1.out.h.cell 1
  have v2 := HLV1.out.h.cell 2
  simp only [List.getElem?_toArray, List.getElem?_cons_succ, List.getElem?_cons_zero] at v0 v1 v2
  have lV := HLV1.out.h.lt
  obtain ⟨cc0, cc1, lcc⟩ := HB1.out.c0
  obtain ⟨AE1, BE1, SE1, hE1⟩ := HB1.out.newEnv RO1.out ⟨dss, ⟨vt, vn, vs⟩, ke⟩ (HB1.out.eIn HE.out)
  have e9 : enV A11.E ⟨dss, ⟨vt, vn, vs⟩, ke⟩ = #[sv dss, .int .i64 vt, .int .u64 vn, sv vs, .pointer ea] := by
    unfold enV ePtr
    dsimp only
    rw [HB1.out.eN HE.out, HEA.out]
  rw [e9] at BE1 SE1
  have HP2 : Hid (eAd AE1.E (some (m.pops 1).envs.length) = some ⟨w1.heap.size + 1, 0, none⟩) := by
    show _ = _
    rw [hE1]
    simp
  have HB2 := hid BE1
  have HLT2 := hid (HLT1.out.st SE1)
  have HLD2 := hid (HLD1.out.st SE1)
  have HLV2 := hid (HLV1.out.st SE1)
  have HT2 : Hid (({ (m.pops 1) with envs := (m.pops 1).envs ++ [⟨dss, ⟨vt, vn, vs⟩, ke⟩] } : MD).th.tasks.length ≤ 900000 + 2) := by show (m.pops 1).th.tasks.length ≤ _; have := HT1.out; omega
  have HV2 : Hid (({ (m.pops 1) with envs := (m.pops 1).envs ++ [⟨dss, ⟨vt, vn, vs⟩, ke⟩] } : MD).th.vals.length ≤ 900000 + 2) := by show (m.pops 1).th.vals.length ≤ _; have := HV1.out; omega
  clear BE1 SE1 hE1 e9
  have CC := HB2.out.todoC (Nat.le_trans HT2.out (by decide)) 1 dnx 0 (some (m.pops 1).envs.length) HP2.out (k' := 1) (n' := (dnx : Nat)) (x' := 0) rfl rfl rfl
  have HCC := hid CC
  clear CC
  go_wp2_with fail
  refine HCC.out.mono ?_
  rintro e11 w3 ⟨rfl, A13, BB, SS⟩
  clear t0 t1 t2 t3 lT d0 d1 d2 d3 d4 d5 d6 d7 lD v0 v1 v2 lV cc0 cc1 lcc
  clear HCC
  have HB3 := hid BB
  have HLT3 := hid (HLT2.out.st SS)
  have HLD3 := hid (HLD2.out.st SS)
  have HLV3 := hid (HLV2.out.st SS)
  have HS3 := hid SS
  clear BB SS
  have HT3 : Hid ((({ (m.pops 1) with envs := (m.pops 1).envs ++ [⟨dss, ⟨vt, vn, vs⟩, ke⟩] } : MD).todo [⟨1, dnx, 0, (some (m.pops 1).envs.length)⟩]).th.tasks.length ≤ 900000 + 3) := by
    show _ ≤ _
    rw [th_todo HB2.out.c]
    have := HT2.out
    simp
    omega
  have HV3 : Hid ((({ (m.pops 1) with envs := (m.pops 1).envs ++ [⟨dss, ⟨vt, vn, vs⟩, ke⟩] } : MD).todo [⟨1, dnx, 0, (some (m.pops 1).envs.length)⟩]).th.vals.length ≤ 900000 + 3) := by
    show _ ≤ _
    rw [th_todo HB2.out.c]
    have := HV2.out
    simp
    omega
  have t0 := HLT3.out.h.cell 0
  have t1 := HLT3.out.h.cell 1
  have t2 := HLT3.out.h.cell 2
  have t3 := HLT3.out.h.cell 3
  simp only [List.getElem?_toArray, List.getElem?_cons_succ, List.getElem?_cons_zero] at t0 t1 t2 t3
  have lT := HLT3.out.h.lt
  have d0 := HLD3.out.h.cell 0
  have d1 := HLD3.out.h.cell 1
  have d2 := HLD3.out.h.cell 2
  have d3 := HLD3.out.h.cell 3
  have d4 := HLD3.out.h.cell 4
  have d5 := HLD3.out.h.cell 5
  have d6 := HLD3.out.h.cell 6
  have d7 := HLD3.out.h.cell 7
  simp only [List.getElem?_toArray, List.getElem?_cons_succ, List.getElem?_cons_zero] at d0 d1 d2 d3 d4 d5 d6 d7
  have lD := HLD3.out.h.lt
  have v0 := HLV3.out.h.cell 0
  have v1 := HLV3.out.h.cell 1
  have v2 := HLV3.out.h.cell 2
  simp only [List.getElem?_toArray, List.getElem?_cons_succ, List.getElem?_cons_zero] at v0 v1 v2
  have lV := HLV3.out.h.lt
  obtain ⟨cc0, cc1, lcc⟩ := HB3.out.c0
  have FIN : Hid (Q (.returned (.tuple #[])) w3) := by
    show Q _ _
    rw [← HQ.out, HZ.out, HXv.out]
    exact HB3.out.end
  go_wp2
  go_end0
  exact FIN.out
theorem st9a (P : StZ w A N root W A1 m bT bD xb k d) (hk : k.k = 9) (H : FrZs (.pointer (some ⟨A.br, 0, none⟩)) (.pointer (some ⟨xb, 0, none⟩)) (.pointer (some ⟨bT, 0, none⟩)) (.pointer (some ⟨bD, 0, none⟩)) (.int .i64 k.k) a) (hl : m.th.tasks.length ≤ 900000) (hvl : m.th.vals.length ≤ 900000) (hv : 1 ≤ m.th.vals.length) (RO : RefOk (m.pops 1)) {i : Nat} (hf : m.find k.e d.s = some i) (hi : i < m.envs.length) :
    (cTz (stC 8 (cI (stB Tryz.f77.body)))).wp Tryz.prog (Exit.inBlock 0 (bodyPost Tryz.prog Tryz.f77 (PQm w A N root ({ m.pops 1 with envs := m.envs.set i { m.envs.getD i en0 with v := m.topM 0 } })))) a W := by
  obtain ⟨u, rfl⟩ := H.form
  obtain ⟨kk, kn, kx, ke⟩ := k
  obtain ⟨dk, da, db, dc, dnx, dn, dss, dp⟩ := d
  dsimp only at hk hf
  subst hk
  obtain ⟨Q, HQ⟩ : ∃ Q : Ending → World → Prop, Hid (PQm w A N root ({ m.pops 1 with envs := m.envs.set i { m.envs.getD i en0 with v := m.topM 0 } }) = Q) := ⟨_, rfl⟩
  dsimp only at HQ ⊢
  rw [HQ.out]
  obtain ⟨ea, HEA⟩ : ∃ ea, Hid (eAd A.E ke = ea) := ⟨_, rfl⟩
  have HE : Hid (∀ i, ke = some i → i < A.E.length) := P.he
  have HB0 := hid P.B
  have HLT0 : Hid (LcB W A1 bT #[.int .i64 (9 : Nat), .int .i64 kn, .int .i64 kx, .pointer ea] 224) := by
    have := P.LT
    dsimp only at this
    rw [HEA.out] at this
    exact this
  have HLD0 : Hid (LcB W A1 bD #[.int .i64 (dk : Nat), .int .i64 (da : Nat), .int .i64 (db : Nat), .int .i64 (dc : Nat), .int .i64 (dnx : Nat), .int .u64 (dn : Nat), sv dss, .int .i64 (dp : Nat)] 134) := P.LD
  have HT0 : Hid (m.th.tasks.length ≤ 900000 + 0) := hl
  have HV0 : Hid (m.th.vals.length ≤ 900000 + 0) := hvl
  have HXX := hid P.x
  have HBC := hid P.B.c
  have HVP : Hid (0 < m.th.vals.length) := by show _ < _; omega
  clear hv
  have RO1 := hid RO
  have HFD : Hid ((m.pops 1).find ke dss = some i) := hf
  have HI : Hid (i < (m.pops 1).envs.length) := hi
  clear RO hf hi
  clear P H hl hvl
  obtain ⟨c, hc⟩ : ∃ c, c = cTz (stC 8 (cI (stB Tryz.f77.body))) := ⟨_, rfl⟩
  rw [← hc]
  simp only [cTz, cE, cI, cR, stC, stB, Tryz.f77, Option.getD_some] at hc
  subst hc
  have t0 := HLT0.out.h.cell 0
  have t1 := HLT0.out.h.cell 1
  have t2 := HLT0.out.h.cell 2
  have t3 := HLT0.out.h.cell 3
  simp only [List.getElem?_toArray, List.getElem?_cons_succ, List.getElem?_cons_zero] at t0 t1 t2 t3
  have lT := HLT0.out.h.lt
  have d0 := HLD0.out.h.cell 0
  have d1 := HLD0.out.h.cell 1
  have d2 := HLD0.out.h.cell 2
  have d3 := HLD0.out.h.cell 3
  have d4 := HLD0.out.h.cell 4
  have d5 := HLD0.out.h.cell 5
  have d6 := HLD0.out.h.cell 6
  have d7 := HLD0.out.h.cell 7
  simp only [List.getElem?_toArray, List.getElem?_cons_succ, List.getElem?_cons_zero] at d0 d1 d2 d3 d4 d5 d6 d7
  have lD := HLD0.out.h.lt
  obtain ⟨cc0, cc1, lcc⟩ := HB0.out.c0
  obtain ⟨⟨vt, vn, vs⟩, HXv⟩ : ∃ v, Hid (m.topM 0 = v) := ⟨_, rfl⟩
  have CC := HB0.out.pop (HVP.out) (by have := HV0.out; omega)
  rw [HXv.out] at CC
  have HCC : Hid (Calls Tryz.prog 116 #[.pointer (some ⟨A.br, 0, none⟩)] W (fun e w' => e = .returned (.agg #[.int .i64 vt, .int .u64 vn, sv vs]) ∧ ∃ A', RB w A N root w' A' (m.pops 1) ∧ MSt W A1 w' A')) := CC
  clear CC
  go_wp2_with fail
  refine HCC.out.mono ?_
  rintro e9 w1 ⟨rfl, A11, BB, SS⟩
  clear t0 t1 t2 t3 lT d0 d1 d2 d3 d4 d5 d6 d7 lD cc0 cc1 lcc
  clear HCC
  have FA : Fr (fun _ => False) w1 (w1.alloc (.cells #[.int .i64 vt, .int .u64 vn, sv vs] 68)) := (Fr.refl _ _).alloc _
  have HB1 := hid (BB.fresh FA)
  have HLT1 := hid ((HLT0.out.st SS).fr FA)
  have HLD1 := hid ((HLD0.out.st SS).fr FA)
  have HLV1 : Hid (LcB (w1.alloc (.cells #[.int .i64 vt, .int .u64 vn, sv vs] 68)) A11 w1.heap.size #[.int .i64 vt, .int .u64 vn, sv vs] 68) := LcB.new BB.r.own _ _
  have HS1 := hid (SS.trans (MSt.fresh _ FA))
  clear FA BB SS
  have HT1 : Hid ((m.pops 1).th.tasks.length ≤ 900000 + 1) := by
    show _ ≤ _
    rw [th_pops HB0.out.c]
    have := HT0.out
    simp
    omega
  have HV1 : Hid ((m.pops 1).th.vals.length ≤ 900000 + 1) := by
    show _ ≤ _
    rw [th_pops HB0.out.c]
    have := HV0.out
    simp
    omega
  have t0 := HLT1.out.h.cell 0
  have t1 := HLT1.out.h.cell 1
  have t2 := HLT1.out.h.cell 2
  have t3 := HLT1.out.h.cell 3
  simp only [List.getElem?_toArray, List.getElem?_cons_succ, List.getElem?_cons_zero] at t0 t1 t2 t3
  have lT := HLT1.out.h.lt
  have d0 := HLD1.out.h.cell 0
  have d1 := HLD1.out.h.cell 1
  have d2 := HLD1.out.h.cell 2
  have d3 := HLD1.out.h.cell 3
  have d4 := HLD1.out.h.cell 4
  have d5 := HLD1.out.h.cell 5
  have d6 := HLD1.out.h.cell 6
  have d7 := HLD1.out.h.cell 7
  simp only [List.getElem?_toArray, List.getElem?_cons_succ, List.getElem?_cons_zero] at d0 d1 d2 d3 d4 d5 d6 d7
  have lD := HLD1.out.h.lt
  have v0 := HLV1.out.h.cell 0
  have v1 := HLV1.out.h.cell 1
  have v2 := HLV1.out.h.cell 2
  simp only [List.getElem?_toArray, List.getElem?_cons_succ, List.getElem?_cons_zero] at v0 v1 v2
  have lV := HLV1.out.h.lt
  obtain ⟨cc0, cc1, lcc⟩ := HB1.out.c0
  have FC : Hid (Calls Tryz.prog 117 #[.pointer ea, sv dss] (w1.alloc (.cells #[.int .i64 vt, .int .u64 vn, sv vs] 68)) fun e' w' => e' = .returned (.pointer (eAd A11.E ((m.pops 1).find ke dss))) ∧ w' = (w1.alloc (.cells #[.int .i64 vt, .int .u64 vn, sv vs] 68))) := by
    have C := find_m HB1.out.r RO1.out.u ke (HB1.out.eIn HE.out) dss
    rw [HB1.out.eN HE.out, HEA.out] at C
    exact C
  rw [HFD.out] at FC

  have hg : (m.pops 1).envs[i]? = some ((m.pops 1).envs.getD i en0) := by rw [List.getD_eq_getElem?_getD, List.getElem?_eq_getElem HI.out]; rfl
  have BE := HB1.out.r.env i _ hg
  obtain ⟨s1, s2⟩ := HB1.out.r.setEnv hg ⟨vt, vn, vs⟩
  have x1 := BE.has.cell 1
  have x2 := BE.has.cell 2
  have x3 := BE.has.cell 3
  have y1 := BE.has.frozen 1
  have y2 := BE.has.frozen 2
  have y3 := BE.has.frozen 3
  have lx := BE.has.lt
  simp only [enV, List.getElem?_toArray, List.getElem?_cons_succ, List.getElem?_cons_zero] at x1 x2 x3
  have ep : eAd A11.E (some i) = some ⟨A11.E.getD i 0, 0, none⟩ := rfl
  rw [ep] at FC
  obtain ⟨bi, HBI⟩ : ∃ bi, Hid (A11.E.getD i 0 = bi) := ⟨_, rfl⟩
  rw [HBI.out] at FC s1 s2 x1 x2 x3 y1 y2 y3 lx
  have HS1 := hid s1
  have HS2 := hid s2
  clear BE hg s1 s2 ep
  go_wp2_with fail
  refine FC.out.mono ?_
  rintro e2 w2 ⟨rfl, hw2⟩
  rw [hw2]
  have FIN : Hid (Q (.returned (.tuple #[])) ((((w1.alloc (.cells #[.int .i64 vt, .int .u64 vn, sv vs] 68)).setCell ⟨bi, 1, none⟩ (.int .i64 vt)).setCell ⟨bi, 2, none⟩ (.int .u64 vn)).setCell ⟨bi, 3, none⟩ (sv vs))) := by
    show Q _ _
    rw [← HQ.out, HXv.out]
    exact ⟨rfl, _, HS1.out, HB1.out.s.trans HS2.out⟩
  go_wp2
  refine bodyPost_ret (results_none rfl _ _ _) rfl ?_
  exact FIN.out
theorem st9b (P : StZ w A N root W A1 m bT bD xb k d) (hk : k.k = 9) (H : FrZs (.pointer (some ⟨A.br, 0, none⟩)) (.pointer (some ⟨xb, 0, none⟩)) (.pointer (some ⟨bT, 0, none⟩)) (.pointer (some ⟨bD, 0, none⟩)) (.int .i64 k.k) a) (hl : m.th.tasks.length ≤ 900000) (hvl : m.th.vals.length ≤ 900000) (hv : 1 ≤ m.th.vals.length) (hw0 : WvB (m.topM 0)) (RO : RefOk (m.pops 1)) (hf : m.find k.e d.s = none) (K : ThrOk (m.pops 1)) (TI : ∀ t ∈ m.tabs, TTi t) (h12 : m.tabs.length ≤ 12) (h0 : 0 < m.tabs.length) (hs : wellV (strV d.s) = true) :
    (cTz (stC 8 (cI (stB Tryz.f77.body)))).wp Tryz.prog (Exit.inBlock 0 (bodyPost Tryz.prog Tryz.f77 (PQm w A N root ((m.pops 1).setT ⟨4, 0, []⟩ (strV d.s) (m.topM 0))))) a W := by
  obtain ⟨u, rfl⟩ := H.form
  obtain ⟨kk, kn, kx, ke⟩ := k
  obtain ⟨dk, da, db, dc, dnx, dn, dss, dp⟩ := d
  dsimp only at hk hf hs
  subst hk
  obtain ⟨Q, HQ⟩ : ∃ Q : Ending → World → Prop, Hid (PQm w A N root ((m.pops 1).setT ⟨4, 0, []⟩ (strV dss) (m.topM 0)) = Q) := ⟨_, rfl⟩
  dsimp only at HQ ⊢
  rw [HQ.out]
  obtain ⟨ea, HEA⟩ : ∃ ea, Hid (eAd A.E ke = ea) := ⟨_, rfl⟩
  have HE : Hid (∀ i, ke = some i → i < A.E.length) := P.he
  have HB0 := hid P.B
  have HLT0 : Hid (LcB W A1 bT #[.int .i64 (9 : Nat), .int .i64 kn, .int .i64 kx, .pointer ea] 224) := by
    have := P.LT
    dsimp only at this
    rw [HEA.out] at this
    exact this
  have HLD0 : Hid (LcB W A1 bD #[.int .i64 (dk : Nat), .int .i64 (da : Nat), .int .i64 (db : Nat), .int .i64 (dc : Nat), .int .i64 (dnx : Nat), .int .u64 (dn : Nat), sv dss, .int .i64 (dp : Nat)] 134) := P.LD
  have HT0 : Hid (m.th.tasks.length ≤ 900000 + 0) := hl
  have HV0 : Hid (m.th.vals.length ≤ 900000 + 0) := hvl
  have HXX := hid P.x
  have HBC := hid P.B.c
  have HVP : Hid (0 < m.th.vals.length) := by show _ < _; omega
  clear hv
  have HW0 : Hid (∀ v, m.topM 0 = v → WvB v) := fun v hv => by rw [← hv]; exact hw0
  clear hw0
  have RO1 := hid RO
  have HFD : Hid ((m.pops 1).find ke dss = none) := hf
  have HK : Hid (ThrOk (m.pops 1)) := K
  have HTI : Hid (∀ t ∈ (m.pops 1).tabs, TTi t) := TI
  have H12 : Hid ((m.pops 1).tabs.length ≤ 12) := h12
  have H0 : Hid (0 < (m.pops 1).tabs.length) := h0
  have HSS := hid hs
  clear RO hf K TI h12 h0 hs
  clear P H hl hvl
  obtain ⟨c, hc⟩ : ∃ c, c = cTz (stC 8 (cI (stB Tryz.f77.body))) := ⟨_, rfl⟩
  rw [← hc]
  simp only [cTz, cE, cI, cR, stC, stB, Tryz.f77, Option.getD_some] at hc
  subst hc
  have t0 := HLT0.out.h.cell 0
  have t1 := HLT0.out.h.cell 1
  have t2 := HLT0.out.h.cell 2
  have t3 := HLT0.out.h.cell 3
  simp only [List.getElem?_toArray, List.getElem?_cons_succ, List.getElem?_cons_zero] at t0 t1 t2 t3
  have lT := HLT0.out.h.lt
  have d0 := HLD0.out.h.cell 0
  have d1 := HLD0.out.h.cell 1
  have d2 := HLD0.out.h.cell 2
  have d3 := HLD0.out.h.cell 3
  have d4 := HLD0.out.h.cell 4
  have d5 := HLD0.out.h.cell 5
  have d6 := HLD0.out.h.cell 6
  have d7 := HLD0.out.h.cell 7
  simp only [List.getElem?_toArray, List.getElem?_cons_succ, List.getElem?_cons_zero] at d0 d1 d2 d3 d4 d5 d6 d7
  have lD := HLD0.out.h.lt
  obtain ⟨cc0, cc1, lcc⟩ := HB0.out.c0
  obtain ⟨⟨vt, vn, vs⟩, HXv⟩ : ∃ v, Hid (m.topM 0 = v) := ⟨_, rfl⟩
  have CC := HB0.out.pop (HVP.out) (by have := HV0.out; omega)
  rw [HXv.out] at CC
  have HCC : Hid (Calls Tryz.prog 116 #[.pointer (some ⟨A.br, 0, none⟩)] W (fun e w' => e = .returned (.agg #[.int .i64 vt, .int .u64 vn, sv vs]) ∧ ∃ A', RB w A N root w' A' (m.pops 1) ∧ MSt W A1 w' A')) := CC
  clear CC
  go_wp2_with fail
  refine HCC.out.mono ?_
  rintro e9 w1 ⟨rfl, A11, BB, SS⟩
  clear t0 t1 t2 t3 lT d0 d1 d2 d3 d4 d5 d6 d7 lD cc0 cc1 lcc
  clear HCC
  have FA : Fr (fun _ => False) w1 (w1.alloc (.cells #[.int .i64 vt, .int .u64 vn, sv vs] 68)) := (Fr.refl _ _).alloc _
  have HB1 := hid (BB.fresh FA)
  have HLT1 := hid ((HLT0.out.st SS).fr FA)
  have HLD1 := hid ((HLD0.out.st SS).fr FA)
  have HLV1 : Hid (LcB (w1.alloc (.cells #[.int .i64 vt, .int .u64 vn, sv vs] 68)) A11 w1.heap.size #[.int .i64 vt, .int .u64 vn, sv vs] 68) := LcB.new BB.r.own _ _
  have HS1 := hid (SS.trans (MSt.fresh _ FA))
  clear FA BB SS
  have HT1 : Hid ((m.pops 1).th.tasks.length ≤ 900000 + 1) := by
    show _ ≤ _
    rw [th_pops HB0.out.c]
    have := HT0.out
    simp
    omega
  have HV1 : Hid ((m.pops 1).th.vals.length ≤ 900000 + 1) := by
    show _ ≤ _
    rw [th_pops HB0.out.c]
    have := HV0.out
    simp
    omega
  have t0 := HLT1.out.h.cell 0
  have t1 := HLT1.out.h.cell 1
  have t2 := HLT1.out.h.cell 2
  have t3 := HLT1.out.h.cell 3
  simp only [List.getElem?_toArray, List.getElem?_cons_succ, List.getElem?_cons_zero] at t0 t1 t2 t3
  have lT := HLT1.out.h.lt
  have d0 := HLD1.out.h.cell 0
  have d1 := HLD1.out.h.cell 1
  have d2 := HLD1.out.h.cell 2
  have d3 := HLD1.out.h.cell 3
  have d4 := HLD1.out.h.cell 4
  have d5 := HLD1.out.h.cell 5
  have d6 := HLD1.out.h.cell 6
  have d7 := HLD1.out.h.cell 7
  simp only [List.getElem?_toArray, List.getElem?_cons_succ, List.getElem?_cons_zero] at d0 d1 d2 d3 d4 d5 d6 d7
  have lD := HLD1.out.h.lt
  have v0 := HLV1.out.h.cell 0
  have v1 := HLV1.out.h.cell 1
  have v2 := HLV1.out.h.cell 2
  simp only [List.getElem?_toArray, List.getElem?_cons_succ, List.getElem?_cons_zero] at v0 v1 v2
  have lV := HLV1.out.h.lt
  obtain ⟨cc0, cc1, lcc⟩ := HB1.out.c0
  have FC : Hid (Calls Tryz.prog 117 #[.pointer ea, sv dss] (w1.alloc (.cells #[.int .i64 vt, .int .u64 vn, sv vs] 68)) fun e' w' => e' = .returned (.pointer (eAd A11.E ((m.pops 1).find ke dss))) ∧ w' = (w1.alloc (.cells #[.int .i64 vt, .int .u64 vn, sv vs] 68))) := by
    have C := find_m HB1.out.r RO1.out.u ke (HB1.out.eIn HE.out) dss
    rw [HB1.out.eN HE.out, HEA.out] at C
    exact C
  rw [HFD.out] at FC

  have ep : eAd A11.E none = none := rfl
  rw [ep] at FC
  clear ep
  go_wp2_with fail
  refine FC.out.mono ?_
  rintro e2 w2 ⟨rfl, hw2⟩
  rw [hw2]
  clear hw2 FC
  have CC := set_m (t := ⟨4, 0, []⟩) (k := strV dss) (v := ⟨vt, vn, vs⟩) HB1.out HK.out HTI.out H12.out (fun _ => H0.out) HSS.out (HW0.out _ HXv.out).1 (fun z => by cases z)
  have HCC := hid CC
  clear CC
  go_wp2_with fail
  refine HCC.out.mono ?_
  intro e10 w2 hq
  obtain rfl := hq.1
  clear t0 t1 t2 t3 lT d0 d1 d2 d3 d4 d5 d6 d7 lD v0 v1 v2 lV cc0 cc1 lcc
  have FIN : Hid (Q (.returned (.tuple #[])) w2) := by
    show Q _ _
    rw [← HQ.out, HXv.out]
    exact hq
  clear hq HCC
  go_wp2
  go_end0
  exact FIN.out
end
end Go.Proofs.Qxb6500574aGreatDoor
