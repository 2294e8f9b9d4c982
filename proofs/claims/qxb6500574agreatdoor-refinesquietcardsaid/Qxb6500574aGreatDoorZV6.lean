/-
  moon: THE INTERPRETER's OWN STATE: how many tasks there are: at every step. Plain; no memory, no walk.
-/
import Derived.Test.Qxb6500574aGreatDoorZV5
namespace Go.Proofs.Qxb6500574aGreatDoor
set_option linter.unusedVariables false
set_option linter.unusedSimpArgs false
section
variable {N : List Nd} {root : Nat} {M m m' : MD} {T : MTh} {k : TkD} {r l q : List TkD} {L L' n x y t : Nat} {e : Option Nat}
theorem put_num (t : TabD) (x : Int) {v : Vl} (hv : wellV v = true) : (t.put (numV (fromIntN x)) v).1 = 0 ∨ (t.put (numV (fromIntN x)) v).1 = 8 := by
  unfold TabD.put
  rw [hv, num_well]
  have n2 : ¬ ((numV (fromIntN x)).t = 2 ∧ isNan (numV (fromIntN x)).n = true) := fun z => by
    have := fromInt_ok x
    have z2 : isNan (fromIntN x) = true := z.2
    rw [this] at z2
    cases z2
  have n1 : ¬ ((numV (fromIntN x)).t = 0) := by show ¬ ((2 : Int) = 0); decide
  rw [if_neg (by decide), if_neg n1, if_neg n2]
  dsimp only
  repeat' split
  all_goals simp
theorem MI.h23 (h : MI M) : ∀ k r, M.th.tasks = k :: r → k.k = 23 → (M.topM 1).t = 4 := fun k tl ht z => by
  have cu := h.cu
  rw [ht] at cu
  unfold HK at cu
  rw [if_neg (by omega), if_neg (by omega)] at cu
  obtain ⟨c1, ⟨_, _, c2⟩, _⟩ := cu
  obtain ⟨_, t1, t2⟩ := c2 z
  show (M.th.vals.getD (M.th.vals.length - 1 - 1) nilV).t = 4
  rw [show M.th.vals.length - 1 - 1 = M.th.vals.length - 2 by omega]
  exact t2
theorem CBz.mono (h : CBz N n t) (ht : t ≤ y) : CBz N n y := by
  obtain ⟨l, h1, h2⟩ := h
  exact ⟨l, h1, fun x hx => Nat.le_trans (h2 x hx) ht⟩
theorem chain_head {l : List Nat} (h : Chain N n l) : n = 0 ∨ n ∈ l := by
  cases l with
  | nil => exact .inl h
  | cons z l =>
    obtain ⟨rfl, _, _⟩ := h
    exact .inr (by simp)
theorem StCZ.cb {lp : Bool} (h : StCZ N n lp) (K : NK N) : CBz N n (N.length - 1) ∧ n < N.length := by
  obtain ⟨l, hc, hs⟩ := h
  have hl : ∀ x ∈ l, x < N.length := fun x hx => (hs x hx).tp.lt
  have := K.n1
  refine ⟨⟨l, hc, fun x hx => by have := hl x hx; omega⟩, ?_⟩
  rcases chain_head hc with z | z
  · omega
  · exact hl n z
theorem MW.bd (h : MW N root M) (K : NK N) : BdZ N root M := by
  refine ⟨?_, fun q hq hz => ?_⟩
  · obtain ⟨lp, hr⟩ := h.r
    exact hr.cb K
  · rcases h.c q hq with z | ⟨z1, z2⟩
    · exact absurd z hz
    · have P := z1.tp
      have := P.lt
      obtain ⟨_, kb, _, _⟩ := K.all q.1 P.lt
      exact ⟨(P.k20 z2).mono (by omega), by omega⟩
theorem BdZ.to (h : BdZ N root m) (e : m'.clos = m.clos) : BdZ N root m' := ⟨h.r, by rw [e]; exact h.c⟩
theorem RM.burn (R : RM N m L) {f : MD → MD} (hf : ∀ q : MD, RM N q L → q.clos = m.clos → q.tabs = m.tabs → q.ths = m.ths → q.envs = m.envs → q.cur = m.cur → (m.fuel ≠ 0 → MV N (f q))) (h : m.fuel = 0 → MV N (m.burn f)) : MV N (m.burn f) := by
  by_cases z : m.fuel = 0
  · exact h z
  · unfold MD.burn
    rw [if_neg z]
    exact hf _ (R.to rfl rfl) rfl rfl rfl rfl rfl z
theorem RM.burn1 (R : RM N m L) {f : MD → MD} (hf : MV N (f { m with fuel := m.fuel - 1 })) : MV N (m.burn f) := by
  unfold MD.burn
  split
  · exact R.v.to rfl
  · exact hf
/-- at every step -/
theorem MV.step (h : MV N M) (I : MI M) (w : MW N root M) (u : MU M) (K : NK N) (h0 : N.getD 0 nd0 = nd0) (htk : (M.step N root).th.tasks ≠ []) : MV N (M.step N root) := by
  unfold MD.step at htk ⊢
  cases ht : M.th.tasks with
  | nil => exact h
  | cons k r =>
    rw [ht] at htk
    have wt := w.t.th
    rw [ht] at wt
    have tw := wt k (by simp)
    have hc := tt_in (M := M) (by rw [ht]; simp)
    by_cases k3 : k.k = 3
    · simp (config := { decide := true, maxSteps := 2000000 }) only [k3, if_true, if_false] at htk ⊢
      exact h.ret _ _ htk
    obtain ⟨L, lk, R, tx⟩ := h.take ht k3
    have um : MU (M.upT fun t => { t with tasks := r }) := u.tasks fun q hq => by rw [ht]; simp [hq]
    have t23 : k.k = 23 → ((M.upT fun t => { t with tasks := r }).topM 1).t = 4 := fun z => by
      have e : (M.upT fun t => { t with tasks := r }).topM 1 = M.topM 1 := by
        unfold MD.topM MD.upT MD.th
        simp [List.getD_eq_getElem?_getD, hc]
      rw [e]
      exact I.h23 k r ht z
    have B : BdZ N root (M.upT fun t => { t with tasks := r }) := (w.bd K).to rfl
    dsimp only at htk ⊢
    generalize (M.upT fun t => { t with tasks := r }) = m at R um t23 B htk ⊢
    have up : ∀ {n : Nat} {v : Vl}, VM m v → VM (m.pops n) v := fun {n v} hv => VM.up _ hv
    have hn := tx.n k3
    obtain ⟨ka, kb, kc, kx⟩ := K.all k.n hn
    have K1 := K.n1
    have hnx : (N.getD k.n nd0).next < N.length := by omega
    by_cases k1 : k.k = 1
    · simp (config := { decide := true, maxSteps := 2000000 }) only [k1, if_true, if_false] at htk ⊢
      split at htk
      · rename_i hz
        rw [if_pos hz]
        obtain ⟨lp, q⟩ := tw.t1 k1
        obtain ⟨t, c1, c2⟩ := lk.k1 k1
        exact R.stmt c1 c2 (q.open hz).1 K h0 k.e htk
      · rename_i hz
        rw [if_neg hz]
        exact R.v
    by_cases k2 : k.k = 2
    · simp (config := { decide := true, maxSteps := 2000000 }) only [k2, if_true, if_false] at htk ⊢
      exact R.eval (lk.k2 k2) (tw.t2 k2) K k.e htk
    by_cases k4 : k.k = 4
    · simp (config := { decide := true, maxSteps := 2000000 }) only [k4, if_true, if_false]
      exact R.v
    by_cases k5 : k.k = 5
    · simp (config := { decide := true, maxSteps := 2000000 }) only [k5, if_true, if_false]
      exact (R.pops _).v
    by_cases k6 : k.k = 6
    · simp (config := { decide := true, maxSteps := 2000000 }) only [k6, if_true, if_false]
      obtain ⟨t, c1, c2⟩ := lk.k6 (.inl k6)
      exact ((R.pops 1).todo (l := [⟨1, (N.getD k.n nd0).next, 0, some m.envs.length⟩]) (fb c1 (by simpa using c2) trivial) (txn (by decide) hnx tx0)).to rfl
    by_cases k7 : k.k = 7
    · simp (config := { decide := true, maxSteps := 2000000 }) only [k7, if_true, if_false]
      obtain ⟨t, c1, c2⟩ := lk.k6 (.inr (.inl k7))
      exact ((R.pops 2).todo (l := [⟨1, (N.getD k.n nd0).next, 0, some (m.envs.length + 1)⟩]) (fb c1 (by simpa using c2) trivial) (txn (by decide) hnx tx0)).to rfl
    by_cases k8 : k.k = 8
    · simp (config := { decide := true, maxSteps := 2000000 }) only [k8, if_true, if_false]
      obtain ⟨t, c1, c2⟩ := lk.k6 (.inr (.inr k8))
      exact ((R.pops 1).todo (l := [⟨1, (N.getD k.n nd0).next, 0, k.e⟩]) (fb c1 (by simpa using c2) trivial) (txn (by decide) hnx tx0)).to rfl
    by_cases k9 : k.k = 9
    · simp (config := { decide := true, maxSteps := 2000000 }) only [k9, if_true, if_false] at htk ⊢
      cases hq : m.find k.e (N.getD k.n nd0).s with
      | some i => exact (R.pops 1).v.to rfl
      | none =>
        rw [hq] at htk
        exact (R.pops 1).v.setT _ _ _ htk
    by_cases k10 : k.k = 10
    · simp (config := { decide := true, maxSteps := 2000000 }) only [k10, if_true, if_false] at htk ⊢
      exact (R.pops 3).v.setT _ _ _ htk
    by_cases k11 : k.k = 11
    · simp (config := { decide := true, maxSteps := 2000000 }) only [k11, if_true, if_false]
      obtain ⟨t, c1, c2, c3⟩ := lk.k11 k11
      split
      · exact (R.pops 1).todo (fb c1 (by simpa using c3) trivial) (txn (by decide) (by omega) tx0)
      · exact (R.pops 1).todo (fb c2 (by simpa using c3) trivial) (txn (by decide) (by omega) tx0)
    by_cases k12 : k.k = 12
    · simp (config := { decide := true, maxSteps := 2000000 }) only [k12, if_true, if_false]
      obtain ⟨t, c1, c2, c3⟩ := lk.k12 (.inl k12)
      exact R.todo (fe (by simp [-List.getD_eq_getElem?_getD]; omega) (f12 (by simp) c1 c2 (by simpa using c3) trivial)) (txe (by omega) (txn (by decide) hn tx0))
    by_cases k13 : k.k = 13
    · simp (config := { decide := true, maxSteps := 2000000 }) only [k13, if_true, if_false]
      obtain ⟨t, c1, c2, c3⟩ := lk.k12 (.inr (.inl k13))
      split
      · exact (R.pops 1).todo (fb c2 (by simp [-List.getD_eq_getElem?_getD]; omega) (f12 (by simp) c1 c2 (by simpa using c3) trivial)) (txn (by decide) (by omega) (txn (by decide) hn tx0))
      · exact (R.pops 1).v
    by_cases k14 : k.k = 14
    · simp (config := { decide := true, maxSteps := 2000000 }) only [k14, if_true, if_false]
      obtain ⟨t, c1, c2, c3⟩ := lk.k12 (.inr (.inr k14))
      have R2 : RM N ({ m with fuel := m.fuel - 1 } : MD) L := R.to rfl rfl
      exact R.burn1 (R2.todo (f12 (by simp) c1 c2 (by simpa using c3) trivial) (txn (by decide) hn tx0))
    by_cases k15 : k.k = 15
    · simp (config := { decide := true, maxSteps := 2000000 }) only [k15, if_true, if_false] at htk ⊢
      obtain ⟨t, c2, c3⟩ := lk.k15 (.inl k15)
      split at htk
      · rename_i z
        rw [if_pos z]
        exact R.v.throw _ htk
      · rename_i z
        rw [if_neg z]
        split at htk
        · rename_i y
          rw [if_pos y]
          exact R.v.throw _ htk
        · rename_i y
          rw [if_neg y]
          exact R.todo (f15 (by simp) c2 (by simpa using c3) trivial) (txn (by decide) hn tx0)
    by_cases k16 : k.k = 16
    · simp (config := { decide := true, maxSteps := 2000000 }) only [k16, if_true, if_false]
      obtain ⟨t, c2, c3⟩ := lk.k15 (.inr (.inl k16))
      by_cases z : (cmpN (if cmpN 5 (m.topM 0).n 0 = true then 4 else 6) (m.topM 2).n (m.topM 1).n) = true
      · rw [if_pos z]
        exact (R.todo (l := [⟨1, (N.getD k.n nd0).b, 0, some m.envs.length⟩, ⟨17, k.n, 0, k.e⟩]) (fb c2 (by simp [-List.getD_eq_getElem?_getD]; omega) (f15 (by simp) c2 (by simpa using c3) trivial)) (txn (by decide) (by omega) (txn (by decide) hn tx0))).to rfl
      · rw [if_neg z]
        exact (R.pops 3).v
    by_cases k17 : k.k = 17
    · simp (config := { decide := true, maxSteps := 2000000 }) only [k17, if_true, if_false]
      obtain ⟨t, c2, c3⟩ := lk.k15 (.inr (.inr k17))
      have R1 : RM N (m.upT fun t => { t with vals := t.vals.set (m.th.vals.length - 3) { m.topM 2 with n := arithN 1 (m.topM 2).n (m.topM 0).n } }) L := R.up rfl rfl id
      have R2 : RM N ({ (m.upT fun t => { t with vals := t.vals.set (m.th.vals.length - 3) { m.topM 2 with n := arithN 1 (m.topM 2).n (m.topM 0).n } }) with fuel := m.fuel - 1 } : MD) L := R1.to rfl rfl
      exact R1.burn1 (R2.todo (f15 (by simp) c2 (by simpa using c3) trivial) (txn (by decide) hn tx0))
    by_cases k18 : k.k = 18
    · simp (config := { decide := true, maxSteps := 2000000 }) only [k18, if_true, if_false] at htk ⊢
      obtain ⟨t, c2, c3⟩ := lk.k18 (.inl k18)
      split at htk
      · rename_i z
        rw [if_pos z]
        exact R.v.throw _ htk
      · rename_i z
        rw [if_neg z]
        exact (R.push [nilV]).todo (f18 (by simp) c2 (by simpa using c3) trivial) (txn (by decide) hn tx0)
    by_cases k19 : k.k = 19
    · simp (config := { decide := true, maxSteps := 2000000 }) only [k19, if_true, if_false]
      obtain ⟨t, c2, c3⟩ := lk.k18 (.inr (.inl k19))
      split
      · exact (R.pops 2).v
      · have R1 : RM N (m.upT fun t => { t with vals := t.vals.set (m.th.vals.length - 1) (((m.tabs.getD (m.topM 1).n tab0).next (m.topM 0)).getD (nilV, nilV)).1 }) L := R.up rfl rfl id
        exact (R1.todo (l := [⟨1, (N.getD k.n nd0).c, 0, some (m.envs.length + 1)⟩, ⟨20, k.n, 0, k.e⟩]) (fb c2 (by simp [-List.getD_eq_getElem?_getD]; omega) (f18 (by simp) c2 (by simpa using c3) trivial)) (txn (by decide) (by omega) (txn (by decide) hn tx0))).to rfl
    by_cases k20 : k.k = 20
    · simp (config := { decide := true, maxSteps := 2000000 }) only [k20, if_true, if_false]
      obtain ⟨t, c2, c3⟩ := lk.k18 (.inr (.inr k20))
      have R2 : RM N ({ m with fuel := m.fuel - 1 } : MD) L := R.to rfl rfl
      exact R.burn1 (R2.todo (f18 (by simp) c2 (by simpa using c3) trivial) (txn (by decide) hn tx0))
    by_cases k21 : k.k = 21
    · simp (config := { decide := true, maxSteps := 2000000 }) only [k21, if_true, if_false] at htk ⊢
      exact (R.pops 2).v.ret _ _ htk
    by_cases k22 : k.k = 22
    · simp (config := { decide := true, maxSteps := 2000000 }) only [k22, if_true, if_false] at htk ⊢
      have ea : m.apply N root k.x = if m.fuel = 0 then m.finish 9 [45] else aplC N root (({ m with fuel := m.fuel - 1 } : MD).pops (k.x + 1)) (m.th.vals.getD (m.th.vals.length - k.x - 1) nilV) (m.th.vals.drop (m.th.vals.length - k.x)) := rfl
      rw [ea] at htk ⊢
      by_cases z : m.fuel = 0
      · rw [if_pos z]
        exact R.v.to rfl
      · rw [if_neg z] at htk ⊢
        have R2 : RM N (({ m with fuel := m.fuel - 1 } : MD).pops (k.x + 1)) L := (R.to (m' := { m with fuel := m.fuel - 1 }) rfl rfl).pops _
        have um2 : MU ({ m with fuel := m.fuel - 1 } : MD) := um.to rfl rfl rfl rfl rfl (Nat.sub_le _ _) rfl
        exact R2.apl (B.to rfl) (um2.pops _) (VM.up _ (vk_getD um2.me.v _)) (fun v hv => VM.up _ (um2.me.v v (List.mem_of_mem_drop hv))) htk
    by_cases k23 : k.k = 23
    · simp (config := { decide := true, maxSteps := 2000000 }) only [k23, if_true, if_false] at htk ⊢
      obtain ⟨t, c2, c3⟩ := lk.k23 k23
      have x3 := tx.x3 k23
      have q4 := t23 k23
      have nz := put_num ((m.pops 1).tabs.getD (m.topM 1).n tab0) (k.x : Int) (um.top 0).w
      have es : (m.pops 1).setT (m.topM 1) (numV (fromIntN k.x)) (m.topM 0) = if (((m.pops 1).tabs.getD (m.topM 1).n tab0).put (numV (fromIntN k.x)) (m.topM 0)).1 = 8 then (m.pops 1).finish 8 [45] else { m.pops 1 with tabs := (m.pops 1).tabs.set (m.topM 1).n (((m.pops 1).tabs.getD (m.topM 1).n tab0).put (numV (fromIntN k.x)) (m.topM 0)).2 } := by
        unfold MD.setT
        dsimp only
        rw [if_neg (fun z => z q4)]
        by_cases r8 : (((m.pops 1).tabs.getD (m.topM 1).n tab0).put (numV (fromIntN k.x)) (m.topM 0)).1 = 8
        · rw [if_pos r8, if_pos r8]
        · rw [if_neg r8, if_neg r8, if_neg (fun w => w (nz.resolve_right r8))]
      rw [es]
      by_cases r8 : (((m.pops 1).tabs.getD (m.topM 1).n tab0).put (numV (fromIntN k.x)) (m.topM 0)).1 = 8
      · rw [if_pos r8, if_pos (show ((m.pops 1).finish 8 [45]).done.isSome = true from rfl)]
        exact (R.pops 1).v.to rfl
      · rw [if_neg r8]
        have R2 : RM N ({ m.pops 1 with tabs := (m.pops 1).tabs.set (m.topM 1).n (((m.pops 1).tabs.getD (m.topM 1).n tab0).put (numV (fromIntN k.x)) (m.topM 0)).2 } : MD) L := (R.pops 1).to rfl rfl
        split
        · exact R2.v
        · exact R2.items c2 c3 K hnx (by omega) k.e
    by_cases k24 : k.k = 24
    · simp (config := { decide := true, maxSteps := 2000000 }) only [k24, if_true, if_false] at htk ⊢
      exact (R.pops 2).bin _ _ _ htk
    by_cases k25 : k.k = 25
    · simp (config := { decide := true, maxSteps := 2000000 }) only [k25, if_true, if_false] at htk ⊢
      exact (R.pops 1).un _ _ htk
    by_cases k26 : k.k = 26
    · simp (config := { decide := true, maxSteps := 2000000 }) only [k26, if_true, if_false]
      have c := lk.k26 (.inl k26)
      split
      · exact (R.pops 1).todo (fe (by simpa using c) trivial) (txe (by omega) tx0)
      · exact R.v
    by_cases k27 : k.k = 27
    · simp (config := { decide := true, maxSteps := 2000000 }) only [k27, if_true, if_false]
      have c := lk.k26 (.inr k27)
      split
      · exact R.v
      · exact (R.pops 1).todo (fe (by simpa using c) trivial) (txe (by omega) tx0)
    by_cases k28 : k.k = 28
    · simp (config := { decide := true, maxSteps := 2000000 }) only [k28, if_true, if_false] at htk ⊢
      split at htk
      · rename_i z
        rw [if_pos z]
        exact (R.pops 2).v.throw _ htk
      · rename_i z
        rw [if_neg z]
        exact ((R.pops 2).push _).v
    have := tx.r
    omega
end
end Go.Proofs.Qxb6500574aGreatDoor
