/-
  THE WALKS of compm: step: a local function.
-/
import Derived.Test.Qxb6500574aGreatDoorZD11
namespace Go.Proofs.Qxb6500574aGreatDoor
open Go Go.RowKit
set_option linter.unusedVariables false
set_option linter.unusedSimpArgs false
structure CSz (b : Nat) (v : Value) where
  y : World
  c : y.cell? ⟨b, 3, none⟩ = some v
section
variable {w W W1 : World} {A A1 A2 : RnP} {N : List Nd} {root : Nat} {M m : MD} {k : TkD} {r : List TkD} {d : Nd} {bT bD xb : Nat} {a : Act}
set_option maxRecDepth 100000
set_option maxHeartbeats 2000000
theorem st8 (P : StZ w A N root W A1 m bT bD xb k d) (hk : k.k = 8) (H : FrZs (.pointer (some ⟨A.br, 0, none⟩)) (.pointer (some ⟨xb, 0, none⟩)) (.pointer (some ⟨bT, 0, none⟩)) (.pointer (some ⟨bD, 0, none⟩)) (.int .i64 k.k) a) (hl : m.th.tasks.length ≤ 900000) (hvl : m.th.vals.length ≤ 900000) (hv : 1 ≤ m.th.vals.length) {i : Nat} (hke : k.e = some i) (hi : i < m.envs.length) :
    (cTz (stC 7 (cI (stB Tryz.f77.body)))).wp Tryz.prog (Exit.inBlock 0 (bodyPost Tryz.prog Tryz.f77 (PQm w A N root ({ (m.pops 1).todo [⟨1, d.next, 0, some i⟩] with envs := m.envs.set i { m.envs.getD i en0 with v := m.topM 0 } })))) a W := by
  obtain ⟨u, rfl⟩ := H.form
  obtain ⟨kk, kn, kx, ke⟩ := k
  obtain ⟨dk, da, db, dc, dnx, dn, dss, dp⟩ := d
  dsimp only at hk hke
  subst hk
  obtain ⟨Q, HQ⟩ : ∃ Q : Ending → World → Prop, Hid (PQm w A N root ({ (m.pops 1).todo [⟨1, dnx, 0, some i⟩] with envs := m.envs.set i { m.envs.getD i en0 with v := m.topM 0 } }) = Q) := ⟨_, rfl⟩
  dsimp only at HQ ⊢
  rw [HQ.out]
  obtain ⟨ea, HEA⟩ : ∃ ea, Hid (eAd A.E ke = ea) := ⟨_, rfl⟩
  have HE : Hid (∀ i, ke = some i → i < A.E.length) := P.he
  have HB0 := hid P.B
  have HLT0 : Hid (LcB W A1 bT #[.int .i64 (8 : Nat), .int .i64 kn, .int .i64 kx, .pointer ea] 224) := by
    have := P.LT
    dsimp only at this
    rw [HEA.out] at this
    exact this
  have HLD0 : Hid (LcB W A1 bD #[.int .i64 (dk : Nat), .int .i64 (da : Nat), .int .i64 (db : Nat), .int .i64 (dc : Nat), .int .i64 (dnx : Nat), .int .u64 (dn : Nat), sv dss, .int .i64 (dp : Nat)] 134) := P.LD
  have HT0 : Hid (m.th.tasks.length ≤ 900000 + 0) := hl
  have HV0 : Hid (m.th.vals.length ≤ 900000 + 0) := hvl
  have HXX := hid P.x
  have HBC := hid P.B.c
  have HZ : Hid ({ (m.pops 1).todo [⟨1, dnx, 0, some i⟩] with envs := m.envs.set i { m.envs.getD i en0 with v := m.topM 0 } } = (({ m.pops 1 with envs := (m.pops 1).envs.set i { (m.pops 1).envs.getD i en0 with v := m.topM 0 } } : MD).todo [⟨1, dnx, 0, some i⟩])) := by
    show _ = _
    rfl
  have HVP : Hid (0 < m.th.vals.length) := by show _ < _; omega
  clear hv
  have HI : Hid (i < (m.pops 1).envs.length) := hi
  have eb : eAd A.E (some i) = some ⟨A.E.getD i 0, 0, none⟩ := rfl
  obtain ⟨bi, HBI⟩ : ∃ bi, Hid (A.E.getD i 0 = bi) := ⟨_, rfl⟩
  rw [hke] at HEA HE
  rw [eb, HBI.out] at HEA
  have heaq := HEA.out
  subst heaq
  replace HEA : Hid (eAd A.E (some i) = some ⟨bi, 0, none⟩) := by show _ = _; rw [← HBI.out]; rfl
  clear hke hi eb
  clear P H hl hvl
  obtain ⟨c, hc⟩ : ∃ c, c = cTz (stC 7 (cI (stB Tryz.f77.body))) := ⟨_, rfl⟩
  rw [← hc]
  simp only [cTz, cE, cI, cR, stC, stB, Tryz.f77, Option.getD_some] at hc
  subst hc
  have t0 := HLT0.out.h.cell 0
  have t1 := HLT0.out.h.cell 1
  have t2 := HLT0.out.h.cell 2
  have t3 := HLT0.out.h.cell 3
  simp only [List.getElem?_toArray, List.getElem?_cons_succ, List.getElem?_cons_zero] at t0 t1 t2 t3
  have lT := HLT0.out.h.lt
  have d0 := HLD0.out.h.cell 0
  have d1 := HLD0.out.h.cell 1
  have d2 := HLD0.out.h.cell 2
  have d3 := HLD0.out.h.cell 3
  have d4 := HLD0.out.h.cell 4
  have d5 := HLD0.out.h.cell 5
  have d6 := HLD0.out.h.cell 6
  have d7 := HLD0.out.h.cell 7
  simp only [List.getElem?_toArray, List.getElem?_cons_succ, List.getElem?_cons_zero] at d0 d1 d2 d3 d4 d5 d6 d7
  have lD := HLD0.out.h.lt
  obtain ⟨cc0, cc1, lcc⟩ := HB0.out.c0
  have HB1 := hid HB0.out.drew
  have HLT1 := hid (HLT0.out.fr ((Fr.refl _ _).drew))
  have HLD1 := hid (HLD0.out.fr ((Fr.refl _ _).drew))
  obtain ⟨⟨vt, vn, vs⟩, HXv⟩ : ∃ v, Hid (m.topM 0 = v) := ⟨_, rfl⟩
  have CC := HB1.out.pop HVP.out (by have := HV0.out; omega)
  rw [HXv.out] at CC
  have HCC : Hid (Calls Tryz.prog 116 #[.pointer (some ⟨A.br, 0, none⟩)] W.drew (fun e w' => e = .returned (.agg #[.int .i64 vt, .int .u64 vn, sv vs]) ∧ ∃ A', RB w A N root w' A' (m.pops 1) ∧ MSt W.drew A1 w' A')) := CC
  clear CC
  go_wp2_with fail
  have kc := fun z : CSz bT (.pointer (some ⟨bi, 0, none⟩)) => z.c
  have NE : Nonempty (CSz bT (.pointer (some ⟨bi, 0, none⟩))) := ⟨⟨W.drew, HLT1.out.h.cell 3⟩⟩
  refine wp_region_head 3 1 (fun y => ∃ s : CSz bT (.pointer (some ⟨bi, 0, none⟩)), y = s.y) (by kernel_rfl) (by kernel_rfl) (fun _ _ _ _ _ h => h) ⟨⟨W.drew, HLT1.out.h.cell 3⟩, rfl⟩ ?_
  simp only [List.take_succ_cons, List.take_zero, List.drop_succ_cons, List.drop_zero]
  repeat go_big_quiet_step (fail)
  refine wpQuiet_nil ?_
  unfold wpChain
  go_wp2_with fail
  refine HCC.out.mono ?_
  rintro e9 w1 ⟨rfl, A11, BB, SS⟩
  go_wp2_with fail
  refine ⟨⟨⟨_, (HLT1.out.st SS).h.cell 3⟩, rfl⟩, ?_⟩
  rw [wpChain_zero]
  clear kc NE
  clear t0 t1 t2 t3 lT d0 d1 d2 d3 d4 d5 d6 d7 lD cc0 cc1 lcc
  clear HCC
  have hg : (m.pops 1).envs[i]? = some ((m.pops 1).envs.getD i en0) := by rw [List.getD_eq_getElem?_getD, List.getElem?_eq_getElem HI.out]; rfl
  have BE := BB.r.env i _ hg
  obtain ⟨s1, s2⟩ := BB.r.setEnv hg ⟨vt, vn, vs⟩
  have ebi : A11.E.getD i 0 = bi := by
    have h := (BB.eN HE.out).trans HEA.out
    unfold eAd at h
    injection h with h
    injection h with h
  rw [ebi] at s1 s2 BE
  have x1 := BE.has.cell 1
  have x2 := BE.has.cell 2
  have x3 := BE.has.cell 3
  have y1 := BE.has.frozen 1
  have y2 := BE.has.frozen 2
  have y3 := BE.has.frozen 3
  have lx := BE.has.lt
  simp only [enV, List.getElem?_toArray, List.getElem?_cons_succ, List.getElem?_cons_zero] at x1 x2 x3
  have HLTa := hid (HLT1.out.st SS)
  have HLDa := hid (HLD1.out.st SS)
  have nT : bT ≠ bi := fun e => by
    have h1 := HLTa.out.z
    have h2 := BE.lb
    rw [e] at h1
    omega
  have nT2 : bi ≠ bT := fun e => nT e.symm
  have nD : bD ≠ bi := fun e => by
    have h1 := HLDa.out.z
    have h2 := BE.lb
    rw [e] at h1
    omega
  have nD2 : bi ≠ bD := fun e => nD e.symm
  have HB2 : Hid (RB w A N root (((w1.setCell ⟨bi, 1, none⟩ (.int .i64 vt)).setCell ⟨bi, 2, none⟩ (.int .u64 vn)).setCell ⟨bi, 3, none⟩ (sv vs)) A11 { m.pops 1 with envs := (m.pops 1).envs.set i { (m.pops 1).envs.getD i en0 with v := ⟨vt, vn, vs⟩ } }) := ⟨s1, BB.s.trans s2, BB.c⟩
  have HLT2 := hid (HLTa.out.st s2)
  have HLD2 := hid (HLDa.out.st s2)
  have HT2 : Hid (({ m.pops 1 with envs := (m.pops 1).envs.set i { (m.pops 1).envs.getD i en0 with v := ⟨vt, vn, vs⟩ } } : MD).th.tasks.length ≤ 900000 + 2) := by
    show (m.pops 1).th.tasks.length ≤ _
    rw [th_pops HBC.out]
    have := HT0.out
    simp
    omega
  have HV2 : Hid (({ m.pops 1 with envs := (m.pops 1).envs.set i { (m.pops 1).envs.getD i en0 with v := ⟨vt, vn, vs⟩ } } : MD).th.vals.length ≤ 900000 + 2) := by
    show (m.pops 1).th.vals.length ≤ _
    rw [th_pops HBC.out]
    have := HV0.out
    simp
    omega
  clear BE hg s1 s2 BB SS ebi
  have t0 := HLTa.out.h.cell 0
  have t1 := HLTa.out.h.cell 1
  have t2 := HLTa.out.h.cell 2
  have t3 := HLTa.out.h.cell 3
  simp only [List.getElem?_toArray, List.getElem?_cons_succ, List.getElem?_cons_zero] at t0 t1 t2 t3
  have lT := HLTa.out.h.lt
  have d0 := HLDa.out.h.cell 0
  have d1 := HLDa.out.h.cell 1
  have d2 := HLDa.out.h.cell 2
  have d3 := HLDa.out.h.cell 3
  have d4 := HLDa.out.h.cell 4
  have d5 := HLDa.out.h.cell 5
  have d6 := HLDa.out.h.cell 6
  have d7 := HLDa.out.h.cell 7
  simp only [List.getElem?_toArray, List.getElem?_cons_succ, List.getElem?_cons_zero] at d0 d1 d2 d3 d4 d5 d6 d7
  have lD := HLDa.out.h.lt
  have CC := HB2.out.todo (Nat.le_trans HT2.out (by decide)) 1 dnx 0 (some i) HE.out (k' := 1) (n' := (dnx : Nat)) (x' := 0) rfl rfl rfl
  rw [HEA.out] at CC
  have HCC := hid CC
  clear CC
  go_wp2_with fail
  refine HCC.out.mono ?_
  rintro e22 w5 ⟨rfl, A15, B5, S5⟩
  clear t0 t1 t2 t3 lT d0 d1 d2 d3 d4 d5 d6 d7 lD x1 x2 x3 y1 y2 y3 lx nT nT2 nD nD2
  have FIN : Hid (Q (.returned (.tuple #[])) w5) := by
    show Q _ _
    rw [← HQ.out, HZ.out, HXv.out]
    exact B5.end
  clear B5 S5 HCC
  go_wp2
  go_end0
  exact FIN.out
end
end Go.Proofs.Qxb6500574aGreatDoor
