/-
  THE WALKS of compm: step, whole.
-/
import Derived.Test.Qxb6500574aGreatDoorZD17
import Derived.Test.Qxb6500574aGreatDoorZF0
namespace Go.Proofs.Qxb6500574aGreatDoor
open Go Go.RowKit
set_option linter.unusedVariables false
set_option linter.unusedSimpArgs false
section
variable {w W W1 : World} {A A1 A2 : RnP} {N : List Nd} {root : Nat} {M : MD} {k : TkD} {r : List TkD}
theorem ExSZ.nm {n : Nat} (h : ExSZ N n) (hk : (N.getD n nd0).k = 17) : (N.getD n nd0).s.length ≤ 40 := by
  obtain ⟨lo, a, b, w, h⟩ := h
  obtain ⟨_, _, h⟩ := h.out
  rcases h with ⟨_, h⟩ | ⟨h, _⟩
  · rcases h with ⟨q, _⟩ | ⟨q, _⟩ | ⟨q, _⟩ | ⟨_, _, _, _, q⟩ | ⟨q, _⟩ | ⟨q, _⟩ | ⟨q, _⟩ | ⟨q, _⟩ | ⟨q, _⟩ | ⟨q, _⟩ | ⟨q, _⟩
    all_goals first | exact q.2 | (exfalso; omega)
  · cases h
theorem StS.kd {n : Nat} {lp : Bool} (h : StS N n lp) : 1 ≤ (N.getD n nd0).k ∧ (N.getD n nd0).k ≤ 11 := by
  obtain ⟨lo, a, b, al, al', h⟩ := h
  obtain ⟨_, _, h⟩ := h.out
  rcases h with ⟨h, _⟩ | ⟨_, h⟩
  · cases h
  · rcases h with ⟨q, _⟩ | ⟨q, _⟩ | ⟨q, _⟩ | ⟨q, _⟩ | ⟨q, _⟩ | ⟨q, _⟩ | ⟨q, _⟩ | ⟨q, _⟩ | ⟨q, _⟩ | ⟨q, _⟩ | ⟨q, _⟩ <;> omega
theorem VKn.wb {a b c : Nat} {v : Vl} (h : VKn a b c v) : WvB v := ⟨h.w, h.n⟩
theorem MA.top (h : MA N root M) (r : List TkD) (j : Nat) : VM M ((M.cut r).topM j) := by
  unfold MD.topM
  rw [cut_th h.i.cl r]
  exact vk_getD h.u.me.v _
theorem MA.top1 (h : MA N root M) (r : List TkD) {j : Nat} (hj : j < M.th.vals.length) : ((M.cut r).pops j).topM 0 = (M.cut r).topM j := by
  rw [top_pops (cut_c h.i.cl r) j (by rw [cut_th h.i.cl r]; exact hj)]
  rfl
theorem cutT_self (hc : M.cur < M.ths.length) (hk : M.th.tasks = k :: r) : (M.cut r).todo [k] = M := by
  unfold MD.cut MD.todo
  rw [upT_upT hc]
  have e : (fun t : MTh => { t with tasks := [k] ++ r }) M.th = M.th := by
    show ({ M.th with tasks := [k] ++ r } : MTh) = M.th
    have : [k] ++ r = M.th.tasks := by rw [hk]; rfl
    rw [this]
  unfold MD.upT
  have e2 : M.ths.set M.cur M.th = M.ths := by
    unfold MD.th
    rw [List.getD_eq_getElem?_getD, List.getElem?_eq_getElem hc]
    exact List.set_getElem_self hc
  have e3 : ({ M.th with tasks := [k] ++ r } : MTh) = M.th := e
  show ({ M with ths := M.ths.set M.cur ({ M.th with tasks := [k] ++ r } : MTh) } : MD) = M
  rw [e3, e2]
theorem setT_keep {x : Int} {t v : Vl} (ht : t.t = 4) (hv : wellV v = true) (hc : M.cur < M.ths.length) (hl : M.th.tasks.length ≤ 999990) : (M.setT t (numV (fromIntN x)) v).cur < (M.setT t (numV (fromIntN x)) v).ths.length ∧ (M.setT t (numV (fromIntN x)) v).th.tasks.length ≤ 999990 := by
  have nz := put_num (M.tabs.getD t.n tab0) x hv
  unfold MD.setT
  dsimp only
  rw [if_neg (fun z => z ht)]
  by_cases r8 : ((M.tabs.getD t.n tab0).put (numV (fromIntN x)) v).1 = 8
  · rw [if_pos r8]
    exact ⟨hc, hl⟩
  · rw [if_neg r8, if_neg (fun w => w (nz.resolve_right r8))]
    exact ⟨hc, hl⟩
set_option maxHeartbeats 1000000
theorem step_m (R : MRep w A N root M) (h : MA N root M) (Z : NZ N) : Calls Tryz.prog 77 #[.pointer (some ⟨A.br, 0, none⟩)] w (PQm w A N root (M.step N root)) := by
  have B := RB.start R h.i.cl
  obtain ⟨k, r, hk⟩ : ∃ k r, M.th.tasks = k :: r := by
    cases hq : M.th.tasks with
    | nil => exact absurd hq h.t
    | cons k r => exact ⟨k, r, rfl⟩
  obtain ⟨tx, tw, te⟩ := h.tk hk
  have he : ∀ i, k.e = some i → i < A.E.length := fun i hi => by rw [R.le]; exact te i hi
  have tl := h.tl Z
  have vl := h.vl Z
  have nl := Z.l
  refine step_head B hk (by omega) he tx.n (by omega) ?_
  intro W1 A1 bT bD xb a P H
  have P : StZ w A N root W1 A1 (M.cut r) bT bD xb k (if k.k = 3 then nd0 else N.getD k.n nd0) := P
  have thc := cut_th h.i.cl r
  have hcc := cut_c h.i.cl r
  have hcv : (M.cut r).th.vals = M.th.vals := by rw [thc]
  have hl : (M.cut r).th.tasks.length ≤ 900000 := by rw [thc]; show r.length ≤ _; rw [hk] at tl; simp only [List.length_cons] at tl; omega
  have hvl : (M.cut r).th.vals.length ≤ 900000 := by rw [hcv]; omega
  have top : ∀ j, VM M ((M.cut r).topM j) := fun j => h.top r j
  have TI := h.ti
  have h12 := h.u.t12
  have fu := h.u.fu
  clear tl
  by_cases k3 : k.k = 3
  · have hst : M.step N root = M.ret nilV nilV := by
      unfold MD.step
      rw [hk]
      simp (config := { decide := true }) only [k3, if_true, if_false]
      try rfl
    rw [hst]
    clear hst
    rw [if_pos k3] at P
    have es : (M.cut r).todo [⟨3, k.n, k.x, k.e⟩] = M := by
      have := cutT_self h.i.cl hk
      obtain ⟨kk, kn, kx, ke⟩ := k
      dsimp only at k3
      subst k3
      exact this
    have g := fun a' H' => st3 (a := a') P k3 H' hl hvl (by rw [es]; exact h.ret0 Z)
    rw [es] at g
    exact st_go3 H (by rw [k3]) g
  rw [if_neg k3] at P
  have hn := tx.n k3
  by_cases k4 : k.k = 4
  · have hst : M.step N root = (M.cut r) := by
      unfold MD.step
      rw [hk]
      simp (config := { decide := true }) only [k4, if_true, if_false]
      try rfl
    rw [hst]
    clear hst
    exact st_go4 H (by rw [k4]) (fun a' H' => st4 P k4 H' hl hvl)
  obtain ⟨g1, g2, g3⟩ := h.hk hk k3 k4
  have hv : ∀ j, j ≤ (ar k).1 → j ≤ (M.cut r).th.vals.length := fun j hj => by rw [hcv]; omega
  have K := fun (j : Nat) (hj : j ≤ (ar k).1) => h.thr Z hk k3 k4 hj
  have RT := fun (j : Nat) (hj : j ≤ (ar k).1) => h.retOk Z hk k3 k4 hj
  have RP := fun j : Nat => h.refP hk j
  have RO := h.refC hk
  have t1 := fun (j : Nat) (hj : j < (ar k).1) => h.top1 r (show j < M.th.vals.length by omega)
  by_cases k1 : k.k = 1
  · by_cases n0 : k.n = 0
    · have hst : M.step N root = (M.cut r) := by
        unfold MD.step
        rw [hk]
        simp (config := { decide := true }) only [k1, n0, if_true, if_false, ne_eq, not_true_eq_false]
        try rfl
      rw [hst]
      exact st_go1 H (by rw [k1]) (fun a' H' => st1z P k1 H' hl hvl n0)
    · have hst : M.step N root = (M.cut r).stmt N k.n k.e := by
        unfold MD.step
        rw [hk]
        simp (config := { decide := true }) only [k1, if_true, if_false, ne_eq]
        rw [if_pos n0]
      rw [hst]
      obtain ⟨lp, S⟩ := tw.t1 k1
      obtain ⟨S1, _⟩ := S.open n0
      refine st_go1 H (by rw [k1]) (fun a' H' => st1 P k1 H' hl hvl n0 RO Z.nds hn S1.kd (fun x r' hb => ?_))
      have e0 : ar k = (0, 0) := by unfold ar; rw [k1]; rfl
      rw [thc] at hb
      rw [e0] at g3
      have := (g3.brk hb).1
      rw [hcv]
      simpa using this
  by_cases k2 : k.k = 2
  · have hst : M.step N root = (M.cut r).eval N k.n k.x k.e := by
      unfold MD.step
      rw [hk]
      simp (config := { decide := true }) only [k2, if_true, if_false]
      try rfl
    rw [hst]
    clear hst
    have E := tw.t2 k2
    refine st_go2 H (by rw [k2]) (fun a' H' => st2 P k2 H' hl hvl RO TI h.u.t0 h12 h.u.c24 Z.nds hn (fun z => (E.resolve_left z).kd) (fun z => ?_))
    rcases E with e0 | E
    · rw [e0, Z.z] at z
      cases z
    · exact E.nm z
  by_cases k5 : k.k = 5
  · have hst : M.step N root = (M.cut r).pops 1 := by
      unfold MD.step
      rw [hk]
      simp (config := { decide := true }) only [k5, if_true, if_false]
      try rfl
    rw [hst]
    clear hst
    have ea : (ar k).1 = 1 := by unfold ar; rw [k5]; rfl
    exact st_go5 H (by rw [k5]) (fun a' H' => st5 P k5 H' hl hvl (hv 1 (by omega)))
  by_cases k6 : k.k = 6
  · have hst : M.step N root = { ((M.cut r).pops 1).todo [⟨1, (N.getD k.n nd0).next, 0, some (M.cut r).envs.length⟩] with envs := (M.cut r).envs ++ [⟨(N.getD k.n nd0).s, (M.cut r).topM 0, k.e⟩] } := by
      unfold MD.step
      rw [hk]
      simp (config := { decide := true }) only [k6, if_true, if_false]
      try rfl
    rw [hst]
    clear hst
    have ea : (ar k).1 = 1 := by unfold ar; rw [k6]; rfl
    exact st_go6 H (by rw [k6]) (fun a' H' => st6 P k6 H' hl hvl (hv 1 (by omega)) (RP 1))
  by_cases k7 : k.k = 7
  · have hst : M.step N root = { ((M.cut r).pops 2).todo [⟨1, (N.getD k.n nd0).next, 0, some ((M.cut r).envs.length + 1)⟩] with envs := (M.cut r).envs ++ [⟨(N.getD (N.getD k.n nd0).a nd0).s, (M.cut r).topM 1, k.e⟩, ⟨(N.getD (N.getD (N.getD k.n nd0).a nd0).next nd0).s, (M.cut r).topM 0, some (M.cut r).envs.length⟩] } := by
      unfold MD.step
      rw [hk]
      simp (config := { decide := true }) only [k7, if_true, if_false]
      try rfl
    rw [hst]
    clear hst
    have ea : (ar k).1 = 2 := by unfold ar; rw [k7]; rfl
    rw [← t1 1 (by omega)]
    exact st_go7 H (by rw [k7]) (fun a' H' => st7 P k7 H' hl hvl (hv 2 (by omega)) (by omega) (Z.nds.a _ hn) (Z.nds.x _ (Z.nds.a _ hn)) (RP 2))
  by_cases k8 : k.k = 8
  · obtain ⟨i, ki⟩ : ∃ i, k.e = some i := by
      cases hq : k.e with
      | none => exact absurd hq (tw.t8 k8)
      | some i => exact ⟨i, rfl⟩
    have hst : M.step N root = { ((M.cut r).pops 1).todo [⟨1, (N.getD k.n nd0).next, 0, some i⟩] with envs := (M.cut r).envs.set i { (M.cut r).envs.getD i en0 with v := (M.cut r).topM 0 } } := by
      unfold MD.step
      rw [hk]
      simp (config := { decide := true }) only [k8, ki, if_true, if_false, Option.getD_some]
      try rfl
    rw [hst]
    have ea : (ar k).1 = 1 := by unfold ar; rw [k8]; rfl
    exact st_go8 H (by rw [k8]) (fun a' H' => st8 P k8 H' hl hvl (hv 1 (by omega)) ki (te i ki))
  by_cases k9 : k.k = 9
  · have ea : (ar k).1 = 1 := by unfold ar; rw [k9]; rfl
    cases hf : (M.cut r).find k.e (N.getD k.n nd0).s with
    | some i =>
      have hst : M.step N root = { (M.cut r).pops 1 with envs := (M.cut r).envs.set i { (M.cut r).envs.getD i en0 with v := (M.cut r).topM 0 } } := by
        unfold MD.step
        rw [hk]
        simp (config := { decide := true }) only [k9, if_true, if_false]
        rw [hf]
      rw [hst]
      exact st_go9 H (by rw [k9]) (fun a' H' => st9a P k9 H' hl hvl (hv 1 (by omega)) (RP 1) hf (findE_lt h.refOk.u _ _ te _ hf))
    | none =>
      have hst : M.step N root = ((M.cut r).pops 1).setT ⟨4, 0, []⟩ (strV (N.getD k.n nd0).s) ((M.cut r).topM 0) := by
        unfold MD.step
        rw [hk]
        simp (config := { decide := true }) only [k9, if_true, if_false]
        rw [hf]
      rw [hst]
      obtain ⟨E1, E2⟩ := tw.t9 k9
      exact st_go9 H (by rw [k9]) (fun a' H' => st9b P k9 H' hl hvl (hv 1 (by omega)) (top 0).wb (RP 1) hf (K 1 (by omega)) TI h12 h.u.t0 (VKn.str 0 0 0 (E1.nm E2)).w)
  by_cases k10 : k.k = 10
  · have hst : M.step N root = ((M.cut r).pops 3).setT ((M.cut r).topM 2) ((M.cut r).topM 1) ((M.cut r).topM 0) := by
      unfold MD.step
      rw [hk]
      simp (config := { decide := true }) only [k10, if_true, if_false]
      try rfl
    rw [hst]
    clear hst
    have ea : (ar k).1 = 3 := by unfold ar; rw [k10]; rfl
    have e2 := t1 2 (by omega)
    have e1 := t1 1 (by omega)
    have v1 := (top 1).wb
    have v2 := (top 2).t
    rw [← e2, ← e1]
    rw [← e2] at v2
    rw [← e1] at v1
    exact st_go10 H (by rw [k10]) (fun a' H' => st10 P k10 H' hl hvl (hv 3 (by omega)) (top 0).wb v1 (K 3 (by omega)) TI h12 v2)
  by_cases k11 : k.k = 11
  · have ea : (ar k).1 = 1 := by unfold ar; rw [k11]; rfl
    have hst : M.step N root = ((M.cut r).pops 1).todo [⟨1, if truthy ((M.cut r).topM 0) then (N.getD k.n nd0).b else (N.getD k.n nd0).c, 0, k.e⟩] := by
      unfold MD.step
      rw [hk]
      simp (config := { decide := true }) only [k11, if_true, if_false]
      try rfl
    rw [hst]
    cases ht : truthy ((M.cut r).topM 0) with
    | true => exact st_go11 H (by rw [k11]) (fun a' H' => st11a P k11 H' hl hvl (hv 1 (by omega)) ht)
    | false => exact st_go11 H (by rw [k11]) (fun a' H' => st11b P k11 H' hl hvl (hv 1 (by omega)) ht)
  by_cases k12 : k.k = 12
  · have hst : M.step N root = (M.cut r).todo [⟨2, (N.getD k.n nd0).a, 0, k.e⟩, ⟨13, k.n, 0, k.e⟩] := by
      unfold MD.step
      rw [hk]
      simp (config := { decide := true }) only [k12, if_true, if_false]
      try rfl
    rw [hst]
    clear hst
    exact st_go12 H (by rw [k12]) (fun a' H' => st12 P k12 H' hl hvl)
  by_cases k13 : k.k = 13
  · have ea : (ar k).1 = 1 := by unfold ar; rw [k13]; rfl
    have hst : M.step N root = if truthy ((M.cut r).topM 0) then ((M.cut r).pops 1).todo [⟨1, (N.getD k.n nd0).b, 0, k.e⟩, ⟨14, k.n, 0, k.e⟩] else (M.cut r).pops 1 := by
      unfold MD.step
      rw [hk]
      simp (config := { decide := true }) only [k13, if_true, if_false]
      try rfl
    rw [hst]
    clear hst
    cases ht : truthy ((M.cut r).topM 0) with
    | true => exact st_go13 H (by rw [k13]) (fun a' H' => st13a P k13 H' hl hvl (hv 1 (by omega)) ht)
    | false => exact st_go13 H (by rw [k13]) (fun a' H' => st13b P k13 H' hl hvl (hv 1 (by omega)) ht)
  by_cases k14 : k.k = 14
  · have hst : M.step N root = (M.cut r).burn fun m => m.todo [⟨12, k.n, 0, k.e⟩] := by
      unfold MD.step
      rw [hk]
      simp (config := { decide := true }) only [k14, if_true, if_false]
      try rfl
    rw [hst]
    clear hst
    cases hf : (M.cut r).fuel with
    | zero =>
      have e : (M.cut r).burn (fun m => m.todo [⟨12, k.n, 0, k.e⟩]) = (M.cut r).finish 9 [45] := by
        unfold MD.burn
        exact if_pos hf
      rw [e]
      exact st_go14 H (by rw [k14]) (fun a' H' => st14b P k14 H' hl hvl hf)
    | succ f =>
      have e : (M.cut r).burn (fun m => m.todo [⟨12, k.n, 0, k.e⟩]) = ({ (M.cut r) with fuel := f } : MD).todo [⟨12, k.n, 0, k.e⟩] := by
        unfold MD.burn
        have hf2 : (M.cut r).fuel = f + 1 := hf
        rw [if_neg (by omega), hf2]
        rfl
      rw [e]
      have hff : M.fuel = f + 1 := hf
      exact st_go14 H (by rw [k14]) (fun a' H' => st14a P k14 H' hl hvl hf (by omega))
  by_cases k15 : k.k = 15
  · have ea : (ar k).1 = 3 := by unfold ar; rw [k15]; rfl
    have hst : M.step N root = (if ((M.cut r).topM 2).t ≠ 2 ∨ ((M.cut r).topM 1).t ≠ 2 ∨ ((M.cut r).topM 0).t ≠ 2 then (M.cut r).raise mFor else if !(cmpN 5 ((M.cut r).topM 0).n 0) && !(cmpN 3 ((M.cut r).topM 0).n 0) then (M.cut r).raise mFor else (M.cut r).todo [⟨16, k.n, 0, k.e⟩]) := by
      unfold MD.step
      rw [hk]
      simp (config := { decide := true }) only [k15, if_true, if_false]
      try rfl
    rw [hst]
    clear hst
    have K0 : ThrOk (M.cut r) := by
      have := K 0 (by omega)
      have e : (M.cut r).pops 0 = M.cut r := pops_zero hcc
      rw [e] at this
      exact this
    have v3 := hv 3 (by omega)
    by_cases a2 : ((M.cut r).topM 2).t = 2
    · by_cases a1 : ((M.cut r).topM 1).t = 2
      · by_cases a0 : ((M.cut r).topM 0).t = 2
        · rw [if_neg (by rintro (z | z | z) <;> contradiction)]
          cases c5 : cmpN 5 ((M.cut r).topM 0).n 0 with
          | true =>
            cases c3 : cmpN 3 ((M.cut r).topM 0).n 0 with
            | true => exact st_go15 H (by rw [k15]) (fun a' H' => st15g P k15 H' hl hvl v3 a2 a1 a0 c5 c3 (top 0).wb)
            | false => exact st_go15 H (by rw [k15]) (fun a' H' => st15e P k15 H' hl hvl v3 a2 a1 a0 c5 c3 (top 0).wb)
          | false =>
            cases c3 : cmpN 3 ((M.cut r).topM 0).n 0 with
            | true => exact st_go15 H (by rw [k15]) (fun a' H' => st15f P k15 H' hl hvl v3 a2 a1 a0 c5 c3 (top 0).wb)
            | false => exact st_go15 H (by rw [k15]) (fun a' H' => st15d P k15 H' hl hvl v3 K0 a2 a1 a0 c5 c3 (top 0).wb)
        · rw [if_pos (.inr (.inr a0))]
          exact st_go15 H (by rw [k15]) (fun a' H' => st15c P k15 H' hl hvl v3 K0 a2 a1 a0)
      · rw [if_pos (.inr (.inl a1))]
        exact st_go15 H (by rw [k15]) (fun a' H' => st15b P k15 H' hl hvl v3 K0 a2 a1)
    · rw [if_pos (.inl a2)]
      exact st_go15 H (by rw [k15]) (fun a' H' => st15a P k15 H' hl hvl v3 K0 a2)
  by_cases k16 : k.k = 16
  · have ea : (ar k).1 = 3 := by unfold ar; rw [k16]; rfl
    have hst : M.step N root = (if cmpN (if cmpN 5 ((M.cut r).topM 0).n 0 then 4 else 6) ((M.cut r).topM 2).n ((M.cut r).topM 1).n then { (M.cut r).todo [⟨1, (N.getD k.n nd0).b, 0, some (M.cut r).envs.length⟩, ⟨17, k.n, 0, k.e⟩] with envs := (M.cut r).envs ++ [⟨(N.getD k.n nd0).s, (M.cut r).topM 2, k.e⟩] } else (M.cut r).pops 3) := by
      unfold MD.step
      rw [hk]
      simp (config := { decide := true }) only [k16, if_true, if_false]
      try rfl
    rw [hst]
    clear hst
    have v3 := hv 3 (by omega)
    have b0 := (top 0).big h12 h.u.c24 h.u.h5
    have b1 := (top 1).big h12 h.u.c24 h.u.h5
    have b2 := (top 2).big h12 h.u.c24 h.u.h5
    have RO17 : RefOk ((M.cut r).todo [⟨17, k.n, 0, k.e⟩]) := RO.todo hcc (fun q hq => by
      have : q = ⟨17, k.n, 0, k.e⟩ := by simpa using hq
      rw [this]
      exact te)
    cases c5 : cmpN 5 ((M.cut r).topM 0).n 0 with
    | true =>
      simp only [if_true]
      cases cr : cmpN 4 ((M.cut r).topM 2).n ((M.cut r).topM 1).n with
      | true => exact st_go16 H (by rw [k16]) (fun a' H' => st16a P k16 H' hl hvl v3 b0 b1 b2 c5 cr RO17)
      | false => exact st_go16 H (by rw [k16]) (fun a' H' => st16c P k16 H' hl hvl v3 b0 b1 b2 c5 cr)
    | false =>
      simp only [Bool.false_eq_true, if_false]
      cases cr : cmpN 6 ((M.cut r).topM 2).n ((M.cut r).topM 1).n with
      | true => exact st_go16 H (by rw [k16]) (fun a' H' => st16b P k16 H' hl hvl v3 b0 b1 b2 c5 cr RO17)
      | false => exact st_go16 H (by rw [k16]) (fun a' H' => st16d P k16 H' hl hvl v3 b0 b1 b2 c5 cr)
  by_cases k17 : k.k = 17
  · have hst : M.step N root = ((M.cut r).upT fun t => { t with vals := t.vals.set ((M.cut r).th.vals.length - 3) { (M.cut r).topM 2 with n := arithN 1 ((M.cut r).topM 2).n ((M.cut r).topM 0).n } }).burn fun m => m.todo [⟨16, k.n, 0, k.e⟩] := by
      unfold MD.step
      rw [hk]
      simp (config := { decide := true }) only [k17, if_true, if_false]
      try rfl
    rw [hst]
    clear hst
    have ea : (ar k).1 = 3 := by unfold ar; rw [k17]; rfl
    have v3 := hv 3 (by omega)
    have b0 := (top 0).big h12 h.u.c24 h.u.h5
    have b2 := (top 2).big h12 h.u.c24 h.u.h5
    cases hf : (M.cut r).fuel with
    | zero =>
      have e : ((M.cut r).upT fun t => { t with vals := t.vals.set ((M.cut r).th.vals.length - 3) { (M.cut r).topM 2 with n := arithN 1 ((M.cut r).topM 2).n ((M.cut r).topM 0).n } }).burn (fun m => m.todo [⟨16, k.n, 0, k.e⟩]) = ((M.cut r).upT fun t => { t with vals := t.vals.set ((M.cut r).th.vals.length - 3) { (M.cut r).topM 2 with n := arithN 1 ((M.cut r).topM 2).n ((M.cut r).topM 0).n } }).finish 9 [45] := by
        unfold MD.burn
        exact if_pos hf
      rw [e]
      exact st_go17 H (by rw [k17]) (fun a' H' => st17b P k17 H' hl hvl v3 b0 b2 hf)
    | succ f =>
      have e : ((M.cut r).upT fun t => { t with vals := t.vals.set ((M.cut r).th.vals.length - 3) { (M.cut r).topM 2 with n := arithN 1 ((M.cut r).topM 2).n ((M.cut r).topM 0).n } }).burn (fun m => m.todo [⟨16, k.n, 0, k.e⟩]) = ({ ((M.cut r).upT fun t => { t with vals := t.vals.set ((M.cut r).th.vals.length - 3) { (M.cut r).topM 2 with n := arithN 1 ((M.cut r).topM 2).n ((M.cut r).topM 0).n } }) with fuel := f } : MD).todo [⟨16, k.n, 0, k.e⟩] := by
        unfold MD.burn
        have hf2 : ((M.cut r).upT fun t => { t with vals := t.vals.set ((M.cut r).th.vals.length - 3) { (M.cut r).topM 2 with n := arithN 1 ((M.cut r).topM 2).n ((M.cut r).topM 0).n } }).fuel = f + 1 := hf
        rw [if_neg (by omega), hf2]
        rfl
      rw [e]
      have hff : M.fuel = f + 1 := hf
      exact st_go17 H (by rw [k17]) (fun a' H' => st17a P k17 H' hl hvl v3 b0 b2 hf (by omega))
  by_cases k18 : k.k = 18
  · have ea : (ar k).1 = 1 := by unfold ar; rw [k18]; rfl
    have hst : M.step N root = (if ((M.cut r).topM 0).t ≠ 4 then (M.cut r).raise mFor else ((M.cut r).push [nilV]).todo [⟨19, k.n, 0, k.e⟩]) := by
      unfold MD.step
      rw [hk]
      simp (config := { decide := true }) only [k18, if_true, if_false]
      try rfl
    rw [hst]
    clear hst
    have K0 : ThrOk (M.cut r) := by
      have := K 0 (by omega)
      have e : (M.cut r).pops 0 = M.cut r := pops_zero hcc
      rw [e] at this
      exact this
    by_cases a0 : ((M.cut r).topM 0).t = 4
    · rw [if_neg (fun z => z a0)]
      exact st_go18 H (by rw [k18]) (fun a' H' => st18b P k18 H' hl hvl (hv 1 (by omega)) a0)
    · rw [if_pos a0]
      exact st_go18 H (by rw [k18]) (fun a' H' => st18a P k18 H' hl hvl (hv 1 (by omega)) K0 a0)
  by_cases k19 : k.k = 19
  · have ea : (ar k).1 = 2 := by unfold ar; rw [k19]; rfl
    have v2 := hv 2 (by omega)
    obtain ⟨_, x1, x2⟩ := g2.2.1 (.inl k19)
    have e1 : (M.cut r).topM 1 = M.th.vals.getD (M.th.vals.length - 2) nilV := by
      unfold MD.topM
      rw [hcv]
      rw [show M.th.vals.length - 1 - 1 = M.th.vals.length - 2 by omega]
    have u4 : ((M.cut r).topM 1).n < M.tabs.length := (top 1).t (by rw [e1]; exact x1)
    have hst : M.step N root = (if ((((M.cut r).tabs.getD ((M.cut r).topM 1).n tab0).next ((M.cut r).topM 0)).getD (nilV, nilV)).1.t = 0 then (M.cut r).pops 2 else { ((M.cut r).upT fun t => { t with vals := t.vals.set ((M.cut r).th.vals.length - 1) ((((M.cut r).tabs.getD ((M.cut r).topM 1).n tab0).next ((M.cut r).topM 0)).getD (nilV, nilV)).1 }).todo [⟨1, (N.getD k.n nd0).c, 0, some ((M.cut r).envs.length + 1)⟩, ⟨20, k.n, 0, k.e⟩] with envs := (M.cut r).envs ++ [⟨(N.getD (N.getD k.n nd0).a nd0).s, ((((M.cut r).tabs.getD ((M.cut r).topM 1).n tab0).next ((M.cut r).topM 0)).getD (nilV, nilV)).1, k.e⟩, ⟨(N.getD (N.getD (N.getD k.n nd0).a nd0).next nd0).s, ((((M.cut r).tabs.getD ((M.cut r).topM 1).n tab0).next ((M.cut r).topM 0)).getD (nilV, nilV)).2, some (M.cut r).envs.length⟩] }) := by
      unfold MD.step
      rw [hk]
      simp (config := { decide := true }) only [k19, if_true, if_false]
      try rfl
    rw [hst]
    clear hst
    by_cases z : ((((M.cut r).tabs.getD ((M.cut r).topM 1).n tab0).next ((M.cut r).topM 0)).getD (nilV, nilV)).1.t = 0
    · rw [if_pos z]
      exact st_go19 H (by rw [k19]) (fun a' H' => st19a P k19 H' hl hvl v2 (top 0).wb TI h12 u4 z)
    · rw [if_neg z]
      exact st_go19 H (by rw [k19]) (fun a' H' => st19b P k19 H' hl hvl v2 (top 0).wb TI h12 u4 z (by omega) (Z.nds.a _ hn) (Z.nds.x _ (Z.nds.a _ hn)) RO)
  by_cases k20 : k.k = 20
  · have hst : M.step N root = (M.cut r).burn fun m => m.todo [⟨19, k.n, 0, k.e⟩] := by
      unfold MD.step
      rw [hk]
      simp (config := { decide := true }) only [k20, if_true, if_false]
      try rfl
    rw [hst]
    clear hst
    cases hf : (M.cut r).fuel with
    | zero =>
      have e : (M.cut r).burn (fun m => m.todo [⟨19, k.n, 0, k.e⟩]) = (M.cut r).finish 9 [45] := by
        unfold MD.burn
        exact if_pos hf
      rw [e]
      exact st_go20 H (by rw [k20]) (fun a' H' => st20b P k20 H' hl hvl hf)
    | succ f =>
      have e : (M.cut r).burn (fun m => m.todo [⟨19, k.n, 0, k.e⟩]) = ({ (M.cut r) with fuel := f } : MD).todo [⟨19, k.n, 0, k.e⟩] := by
        unfold MD.burn
        have hf2 : (M.cut r).fuel = f + 1 := hf
        rw [if_neg (by omega), hf2]
        rfl
      rw [e]
      have hff : M.fuel = f + 1 := hf
      exact st_go20 H (by rw [k20]) (fun a' H' => st20a P k20 H' hl hvl hf (by omega))
  by_cases k21 : k.k = 21
  · have hst : M.step N root = ((M.cut r).pops 2).ret ((M.cut r).topM 1) ((M.cut r).topM 0) := by
      unfold MD.step
      rw [hk]
      simp (config := { decide := true }) only [k21, if_true, if_false]
      try rfl
    rw [hst]
    clear hst
    have ea : (ar k).1 = 2 := by unfold ar; rw [k21]; rfl
    have e1 := t1 1 (by omega)
    have v1 := (top 1).wb
    rw [← e1] at v1 ⊢
    exact st_go21 H (by rw [k21]) (fun a' H' => st21 P k21 H' hl hvl (hv 2 (by omega)) (RT 2 (by omega)) v1)
  by_cases k22 : k.k = 22
  · have hst : M.step N root = (M.cut r).apply N root k.x := by
      unfold MD.step
      rw [hk]
      simp (config := { decide := true }) only [k22, if_true, if_false]
      try rfl
    rw [hst]
    clear hst
    exact st_go22 H (by rw [k22]) (fun a' H' => st22 P k22 H' hl hvl (fun W2 A2 B2 => apply_m h Z hk k22 B2))
  by_cases k23 : k.k = 23
  · have ea : (ar k).1 = 1 := by unfold ar; rw [k23]; rfl
    obtain ⟨_, x1, x2⟩ := g2.2.2 k23
    have v2 : 2 ≤ (M.cut r).th.vals.length := by rw [hcv]; exact x1
    have e1 := h.top1 r (show 1 < M.th.vals.length by omega)
    have et : (M.cut r).topM 1 = M.th.vals.getD (M.th.vals.length - 2) nilV := by
      unfold MD.topM
      rw [hcv]
      rw [show M.th.vals.length - 1 - 1 = M.th.vals.length - 2 by omega]
    have t4 : ((M.cut r).topM 1).t = 4 := by rw [et]; exact x2
    have hx := tx.x3 k23
    have hx2 : k.x ≤ 1000000 := by omega
    have hfx : fromIntN k.x < 18446744073709551616 := nearest_lt _
    have hwk : wellV (numV (fromIntN k.x)) = true := num_well _
    have u4 : (((M.cut r).pops 1).topM 0).t = 4 → (((M.cut r).pops 1).topM 0).n < M.tabs.length := by rw [e1]; exact (top 1).t
    have hst : M.step N root = (if (((M.cut r).pops 1).setT ((M.cut r).topM 1) (numV (fromIntN k.x)) ((M.cut r).topM 0)).done.isSome then (((M.cut r).pops 1).setT ((M.cut r).topM 1) (numV (fromIntN k.x)) ((M.cut r).topM 0)) else (((M.cut r).pops 1).setT ((M.cut r).topM 1) (numV (fromIntN k.x)) ((M.cut r).topM 0)).items (N.getD k.n nd0).next (k.x + 1) k.e) := by
      unfold MD.step
      rw [hk]
      simp (config := { decide := true }) only [k23, if_true, if_false]
      try rfl
    rw [hst, ← e1]
    clear hst
    have K1 := K 1 (by omega)
    cases hd : (((M.cut r).pops 1).setT (((M.cut r).pops 1).topM 0) (numV (fromIntN k.x)) ((M.cut r).topM 0)).done.isSome with
    | true => exact st_go23 H (by rw [k23]) (fun a' H' => st23a P k23 H' hl hvl v2 (top 0).wb K1 TI h12 u4 hx2 hfx hwk hd)
    | false =>
      have q := setT_keep (M := (M.cut r).pops 1) (x := (k.x : Int)) (t := ((M.cut r).pops 1).topM 0) (by rw [e1]; exact t4) (top 0).w (c_pops hcc 1) (by rw [cutp_th h.i.cl]; show r.length ≤ 999990; rw [thc] at hl; have hl : r.length ≤ 900000 := hl; omega)
      exact st_go23 H (by rw [k23]) (fun a' H' => st23b P k23 H' hl hvl v2 (top 0).wb K1 TI h12 u4 hx2 hfx hwk hd q.1 q.2)
  by_cases k24 : k.k = 24
  · have hst : M.step N root = ((M.cut r).pops 2).bin (N.getD k.n nd0).n ((M.cut r).topM 1) ((M.cut r).topM 0) := by
      unfold MD.step
      rw [hk]
      simp (config := { decide := true }) only [k24, if_true, if_false]
      try rfl
    rw [hst]
    clear hst
    have ea : (ar k).1 = 2 := by unfold ar; rw [k24]; rfl
    have e1 := t1 1 (by omega)
    have v1 := (top 1).wb
    rw [← e1] at v1 ⊢
    exact st_go24 H (by rw [k24]) (fun a' H' => st24 P k24 H' hl hvl (hv 2 (by omega)) (top 0).wb v1 (K 2 (by omega)) (tw.t24 k24))
  by_cases k25 : k.k = 25
  · have hst : M.step N root = ((M.cut r).pops 1).un (N.getD k.n nd0).n ((M.cut r).topM 0) := by
      unfold MD.step
      rw [hk]
      simp (config := { decide := true }) only [k25, if_true, if_false]
      try rfl
    rw [hst]
    clear hst
    have ea : (ar k).1 = 1 := by unfold ar; rw [k25]; rfl
    exact st_go25 H (by rw [k25]) (fun a' H' => st25 P k25 H' hl hvl (hv 1 (by omega)) (top 0).wb (K 1 (by omega)) TI h12 (top 0).t (tw.t25 k25))
  by_cases k26 : k.k = 26
  · have ea : (ar k).1 = 1 := by unfold ar; rw [k26]; rfl
    have hst : M.step N root = if truthy ((M.cut r).topM 0) then ((M.cut r).pops 1).todo [⟨2, (N.getD k.n nd0).b, 0, k.e⟩] else (M.cut r) := by
      unfold MD.step
      rw [hk]
      simp (config := { decide := true }) only [k26, if_true, if_false]
      try rfl
    rw [hst]
    clear hst
    cases ht : truthy ((M.cut r).topM 0) with
    | true => exact st_go26 H (by rw [k26]) (fun a' H' => st26a P k26 H' hl hvl (hv 1 (by omega)) ht)
    | false => exact st_go26 H (by rw [k26]) (fun a' H' => st26b P k26 H' hl hvl (hv 1 (by omega)) ht)
  by_cases k27 : k.k = 27
  · have ea : (ar k).1 = 1 := by unfold ar; rw [k27]; rfl
    have hst : M.step N root = if truthy ((M.cut r).topM 0) then (M.cut r) else ((M.cut r).pops 1).todo [⟨2, (N.getD k.n nd0).b, 0, k.e⟩] := by
      unfold MD.step
      rw [hk]
      simp (config := { decide := true }) only [k27, if_true, if_false]
      try rfl
    rw [hst]
    clear hst
    cases ht : truthy ((M.cut r).topM 0) with
    | true => exact st_go27 H (by rw [k27]) (fun a' H' => st27a P k27 H' hl hvl (hv 1 (by omega)) ht)
    | false => exact st_go27 H (by rw [k27]) (fun a' H' => st27b P k27 H' hl hvl (hv 1 (by omega)) ht)
  by_cases k28 : k.k = 28
  · have ea : (ar k).1 = 2 := by unfold ar; rw [k28]; rfl
    have v2 := hv 2 (by omega)
    have e1 := t1 1 (by omega)
    have u4 := (top 1).t
    have hst : M.step N root = (if ((M.cut r).topM 1).t ≠ 4 then ((M.cut r).pops 2).raise mIndex else ((M.cut r).pops 2).push [((M.cut r).tabs.getD ((M.cut r).topM 1).n tab0).get ((M.cut r).topM 0)]) := by
      unfold MD.step
      rw [hk]
      simp (config := { decide := true }) only [k28, if_true, if_false]
      try rfl
    rw [hst]
    clear hst
    rw [← e1] at u4 ⊢
    by_cases a0 : (((M.cut r).pops 1).topM 0).t = 4
    · rw [if_neg (fun z => z a0)]
      exact st_go28 H (by rw [k28]) (fun a' H' => st28b P k28 H' hl hvl v2 (top 0).wb TI h12 a0 (u4 a0))
    · rw [if_pos a0]
      exact st_go28 H (by rw [k28]) (fun a' H' => st28a P k28 H' hl hvl v2 (K 2 (by omega)) a0)
  exfalso
  have := tx.r
  omega
end
end Go.Proofs.Qxb6500574aGreatDoor
