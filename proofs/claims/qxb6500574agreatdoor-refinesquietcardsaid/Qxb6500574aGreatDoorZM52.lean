/-
  moon: THE INTERPRETER's OWN VALUES, at every step; THE INTERPRETER ANSWERS AS THE MACHINE DOES. Plain; no memory, no walk.
-/
import Derived.Test.Qxb6500574aGreatDoorZV2
import Derived.Test.Qxb6500574aGreatDoorZM45
namespace Go.Proofs.Qxb6500574aGreatDoor
set_option linter.unusedVariables false
set_option linter.unusedSimpArgs false
section
variable {N : List Nd} {root : Nat} {M : MD} {T : MTh} {k : TkD} {tl : List TkD}
theorem next_nilZ (t : TabD) : t.next nilV ≠ none := by
  unfold TabD.next
  rw [show wellV nilV = true from rfl]
  simp [nilV]
/-- values go, the tasks go on -/
theorem MI.cut (h : MI M) (hst : T.st = 4) {j b : Nat} {new : List TkD} (hj : j ≤ T.vals.length) {us : List Vl} (g : HK M.tabs (T.vals.take (T.vals.length - j) ++ us) (new ++ tl) (T.vals.length - j + us.length) (T.vals.length - j + us.length)) : MI (M.st { T with tasks := new ++ tl, vals := T.vals.take (T.vals.length - j) ++ us }) := by
  refine h.st_ hst ?_
  show HK M.tabs (T.vals.take (T.vals.length - j) ++ us) (new ++ tl) (T.vals.take (T.vals.length - j) ++ us).length (T.vals.take (T.vals.length - j) ++ us).length
  have : (T.vals.take (T.vals.length - j) ++ us).length = T.vals.length - j + us.length := by rw [List.length_append, List.length_take]; omega
  rw [this]
  exact g
theorem MI.step (h : MI M) (w : MW N root M) (u : MU M) (hd : (M.step N root).done = none) : MI (M.step N root) := by
  have cu := h.cu
  have hst := h.st
  have hme := st_me h.cl
  have hat := th_at h.cl
  have wt := w.t.th
  generalize hTT : M.th = T at cu hst hme hat wt
  cases ht : T.tasks with
  | nil =>
    have : M.step N root = M := by
      unfold MD.step
      rw [hTT, ht]
    rw [this]
    exact h
  | cons k tl =>
    have hM := step_is (N := N) (root := root) hat ht
    rw [hM] at hd ⊢
    have tw := wt k (by rw [ht]; simp)
    rw [ht] at cu
    unfold HK at cu
    unfold stK at hd ⊢
    -- the values
    have lt : ∀ j, (T.vals.take (T.vals.length - j)).length = T.vals.length - j := fun j => by rw [List.length_take]; omega
    by_cases k3 : k.k = 3
    · simp (config := { decide := true }) only [k3, if_true, if_false] at hd ⊢
      have cu := h.cu
      rw [hTT] at cu
      rw [← hme] at hd ⊢
      exact h.ret hst cu (Nat.le_refl _) _ _ hd
    rw [if_neg k3] at cu
    by_cases k4 : k.k = 4
    · simp (config := { decide := true }) only [k4, if_true, if_false] at hd ⊢
      rw [if_pos k4] at cu
      refine h.st_ hst ?_
      show HK M.tabs T.vals tl T.vals.length T.vals.length
      exact cu.2.2.at cu.1 (by omega)
    rw [if_neg k4] at cu
    obtain ⟨c1, ⟨c2, c2', c23⟩, c3⟩ := cu
    -- k takes j values and leaves b
    have gj : ∀ {j b : Nat}, ar k = (j, b) → j ≤ T.vals.length ∧ ∀ us : List Vl, HK M.tabs (T.vals.take (T.vals.length - j) ++ us) tl (T.vals.length - j + b) (T.vals.length - j) := fun {j b} e => by
      rw [e] at c1 c3
      refine ⟨c1, fun us => c3.to (TabM.refl _) rfl (by omega) (fun q hq => gd_tk (by omega) (by omega))⟩
    have g0 : ∀ {j b : Nat}, ar k = (j, b) → HK M.tabs (T.vals.take (T.vals.length - j)) tl (T.vals.length - j + b) (T.vals.length - j) := fun {j b} e => by
      have := (gj e).2 []
      rw [List.append_nil] at this
      exact this
    -- a state behind pops
    have pp : ∀ {j : Nat}, (M.st { T with tasks := tl }).pops j = M.st { T with tasks := tl, vals := T.vals.take (T.vals.length - j) } := fun {j} => st_pops h.cl j
    have top : ∀ j, (M.st { T with tasks := tl }).topM j = T.vals.getD (T.vals.length - 1 - j) nilV := fun j => st_top h.cl j
    by_cases k1 : k.k = 1
    · simp (config := { decide := true }) only [k1, if_true, if_false] at hd ⊢
      have e : ar k = (0, 0) := by unfold ar; simp [k1]
      have g : HK M.tabs T.vals tl T.vals.length T.vals.length := by
        rw [e] at c3
        exact c3.at (by omega) (by omega)
      split
      · exact h.stmt (T := { T with tasks := tl }) hst g k.n k.e
      · exact h.st_ hst g
    by_cases k2 : k.k = 2
    · simp (config := { decide := true }) only [k2, if_true, if_false] at hd ⊢
      have e : ar k = (0, 1) := by unfold ar; simp [k2]
      have g : HK M.tabs T.vals tl (T.vals.length + 1) T.vals.length := by
        rw [e] at c3
        exact c3.at (by omega) (by omega)
      exact h.eval (T := { T with tasks := tl }) hst g (tw.t2 k2) k.e hd
    by_cases k5 : k.k = 5
    · simp (config := { decide := true }) only [k5, if_true, if_false] at hd ⊢
      have e : ar k = (1, 0) := by unfold ar; simp [k5]
      rw [pp]
      refine h.st_ hst ?_
      show HK M.tabs (T.vals.take (T.vals.length - 1)) tl (T.vals.take (T.vals.length - 1)).length (T.vals.take (T.vals.length - 1)).length
      rw [lt]
      exact (g0 e).at (by omega) (Nat.le_refl _)
    by_cases k6 : k.k = 6
    · simp (config := { decide := true }) only [k6, if_true, if_false] at hd ⊢
      have e : ar k = (1, 0) := by unfold ar; simp [k6]
      rw [pp, st_todo h.cl]
      refine MI.envs (h.st_ (T := { T with tasks := _, vals := T.vals.take (T.vals.length - 1) }) hst ?_) _
      show HK M.tabs (T.vals.take (T.vals.length - 1)) (_ :: tl) (T.vals.take (T.vals.length - 1)).length (T.vals.take (T.vals.length - 1)).length
      rw [lt]
      exact HK.blk (Nat.le_refl _) ((g0 e).at (by omega) (Nat.le_refl _))
    by_cases k7 : k.k = 7
    · simp (config := { decide := true }) only [k7, if_true, if_false] at hd ⊢
      have e : ar k = (2, 0) := by unfold ar; simp [k7]
      rw [pp, st_todo h.cl]
      refine MI.envs (h.st_ (T := { T with tasks := _, vals := T.vals.take (T.vals.length - 2) }) hst ?_) _
      show HK M.tabs (T.vals.take (T.vals.length - 2)) (_ :: tl) (T.vals.take (T.vals.length - 2)).length (T.vals.take (T.vals.length - 2)).length
      rw [lt]
      exact HK.blk (Nat.le_refl _) ((g0 e).at (by omega) (Nat.le_refl _))
    by_cases k8 : k.k = 8
    · simp (config := { decide := true }) only [k8, if_true, if_false] at hd ⊢
      have e : ar k = (1, 0) := by unfold ar; simp [k8]
      rw [pp, st_todo h.cl]
      refine MI.envs (h.st_ (T := { T with tasks := _, vals := T.vals.take (T.vals.length - 1) }) hst ?_) _
      show HK M.tabs (T.vals.take (T.vals.length - 1)) (_ :: tl) (T.vals.take (T.vals.length - 1)).length (T.vals.take (T.vals.length - 1)).length
      rw [lt]
      exact HK.blk (Nat.le_refl _) ((g0 e).at (by omega) (Nat.le_refl _))
    by_cases k9 : k.k = 9
    · simp (config := { decide := true }) only [k9, if_true, if_false] at hd ⊢
      have e : ar k = (1, 0) := by unfold ar; simp [k9]
      have g : HK M.tabs (T.vals.take (T.vals.length - 1)) tl (T.vals.take (T.vals.length - 1)).length (T.vals.take (T.vals.length - 1)).length := by
        rw [lt]
        exact (g0 e).at (by omega) (Nat.le_refl _)
      cases hf : (M.st { T with tasks := tl }).find k.e (N.getD k.n nd0).s with
      | some i =>
        dsimp only
        rw [pp]
        exact MI.envs (h.st_ (T := { T with tasks := tl, vals := T.vals.take (T.vals.length - 1) }) hst g) _
      | none =>
        rw [hf] at hd
        dsimp only at hd ⊢
        rw [pp] at hd ⊢
        exact h.setT (T := { T with tasks := tl, vals := T.vals.take (T.vals.length - 1) }) hst g _ _ _ hd
    by_cases k10 : k.k = 10
    · simp (config := { decide := true }) only [k10, if_true, if_false] at hd ⊢
      have e : ar k = (3, 0) := by unfold ar; simp [k10]
      rw [pp] at hd ⊢
      refine h.setT (T := { T with tasks := tl, vals := T.vals.take (T.vals.length - 3) }) hst ?_ _ _ _ hd
      show HK M.tabs (T.vals.take (T.vals.length - 3)) tl (T.vals.take (T.vals.length - 3)).length (T.vals.take (T.vals.length - 3)).length
      rw [lt]
      exact (g0 e).at (by omega) (Nat.le_refl _)
    by_cases k11 : k.k = 11
    · simp (config := { decide := true }) only [k11, if_true, if_false] at hd ⊢
      have e : ar k = (1, 0) := by unfold ar; simp [k11]
      rw [pp, st_todo h.cl]
      refine h.st_ hst ?_
      show HK M.tabs (T.vals.take (T.vals.length - 1)) (_ :: tl) (T.vals.take (T.vals.length - 1)).length (T.vals.take (T.vals.length - 1)).length
      rw [lt]
      exact HK.blk (Nat.le_refl _) ((g0 e).at (by omega) (Nat.le_refl _))
    by_cases k12 : k.k = 12
    · simp (config := { decide := true }) only [k12, if_true, if_false] at hd ⊢
      have e : ar k = (0, 0) := by unfold ar; simp [k12]
      rw [e] at c3
      rw [st_todo h.cl]
      refine h.st_ hst ?_
      show HK M.tabs T.vals (_ :: _ :: tl) T.vals.length T.vals.length
      exact HK.ev (Nat.le_refl _) (HK.cons (by decide) (a := 1) (b := 0) rfl (by omega) (c3.at (by omega) (by omega)))
    by_cases k13 : k.k = 13
    · simp (config := { decide := true }) only [k13, if_true, if_false] at hd ⊢
      have e : ar k = (1, 0) := by unfold ar; simp [k13]
      rw [pp, st_todo h.cl]
      split
      · refine h.st_ hst ?_
        show HK M.tabs (T.vals.take (T.vals.length - 1)) (_ :: _ :: tl) (T.vals.take (T.vals.length - 1)).length (T.vals.take (T.vals.length - 1)).length
        rw [lt]
        exact HK.blk (Nat.le_refl _) (HK.cons (by decide) (a := 0) (b := 0) rfl (by omega) ((g0 e).at (by omega) (by omega)))
      · refine h.st_ hst ?_
        show HK M.tabs (T.vals.take (T.vals.length - 1)) tl (T.vals.take (T.vals.length - 1)).length (T.vals.take (T.vals.length - 1)).length
        rw [lt]
        exact (g0 e).at (by omega) (Nat.le_refl _)
    by_cases k14 : k.k = 14
    · simp (config := { decide := true }) only [k14, if_true, if_false] at hd ⊢
      have e : ar k = (0, 0) := by unfold ar; simp [k14]
      rw [e] at c3
      unfold MD.burn at hd ⊢
      split at hd
      · cases hd
      · rename_i z
        rw [if_neg z]
        have q := st_todo (M := { M with fuel := M.fuel - 1 }) (T := { T with tasks := tl }) h.cl [⟨12, k.n, 0, k.e⟩]
        refine Eq.mp (congrArg MI q.symm) ?_
        refine (h.fuel (M.fuel - 1)).st_ hst ?_
        show HK M.tabs T.vals (_ :: tl) T.vals.length T.vals.length
        exact HK.cons (by decide) (a := 0) (b := 0) rfl (by omega) (c3.at (by omega) (by omega))
    -- a loop's values stay
    have k16c : ∀ {q : Nat} {us : List Vl}, (q = 16 ∨ q = 17) → us.length = T.vals.length → 3 ≤ T.vals.length → (us.getD (T.vals.length - 3) nilV).t = 2 → (us.getD (T.vals.length - 1) nilV).t = 2 → HK M.tabs us tl (T.vals.length - 3) (T.vals.length - 3) → HK M.tabs us (⟨q, k.n, 0, k.e⟩ :: tl) T.vals.length T.vals.length := fun {q us} hq hl h3 t1 t2 g => by
      have e : ar ⟨q, k.n, 0, k.e⟩ = (3, 0) := by rcases hq with rfl | rfl <;> rfl
      unfold HK
      rw [if_neg (by show ¬ q = 3; omega), if_neg (by show ¬ q = 4; omega), e]
      refine ⟨h3, ⟨fun _ => ⟨Nat.le_refl _, t1, t2⟩, fun z => ?_, fun z => ?_⟩, g.at (by omega) (by omega)⟩
      · exfalso
        have z : q = 19 ∨ q = 20 := z
        omega
      · exfalso
        have z : q = 23 := z
        omega
    have k19c : ∀ {q L : Nat} {us : List Vl}, (q = 19 ∨ q = 20) → 2 ≤ L → (us.getD (L - 2) nilV).t = 4 → (M.tabs.getD (us.getD (L - 2) nilV).n tab0).next (us.getD (L - 1) nilV) ≠ none → HK M.tabs us tl (L - 2) (L - 2) → HK M.tabs us (⟨q, k.n, 0, k.e⟩ :: tl) L L := fun {q L us} hq h2 t1 t2 g => by
      have e : ar ⟨q, k.n, 0, k.e⟩ = (2, 0) := by rcases hq with rfl | rfl <;> rfl
      unfold HK
      rw [if_neg (by show ¬ q = 3; omega), if_neg (by show ¬ q = 4; omega), e]
      refine ⟨h2, ⟨fun z => ?_, fun _ => ⟨Nat.le_refl _, t1, t2⟩, fun z => ?_⟩, g.at (by omega) (by omega)⟩
      · exfalso
        have z : q = 16 ∨ q = 17 := z
        omega
      · exfalso
        have z : q = 23 := z
        omega
    by_cases k15 : k.k = 15
    · simp (config := { decide := true }) only [k15, if_true, if_false] at hd ⊢
      have e : ar k = (3, 0) := by unfold ar; simp [k15]
      have g := (gj e).1
      rw [e] at c3
      have c3 : HK M.tabs T.vals tl (T.vals.length - 3) (T.vals.length - 3) := c3.at (by omega) (by omega)
      have th : ∀ v, ((M.st { T with tasks := tl }).throw v).done = none → MI ((M.st { T with tasks := tl }).throw v) := fun v z => h.throw (T1 := { T with tasks := tl }) hst c3 (by show T.vals.length - 3 ≤ T.vals.length; omega) v z
      split at hd
      · rename_i z; rw [if_pos z]; exact th _ hd
      · rename_i z
        rw [if_neg z]
        split at hd
        · rename_i z2; rw [if_pos z2]; exact th _ hd
        · rename_i z2
          rw [if_neg z2, st_todo h.cl]
          rw [top, top, top] at z
          refine h.st_ hst ?_
          show HK M.tabs T.vals (_ :: tl) T.vals.length T.vals.length
          refine k16c (.inl rfl) rfl g ?_ ?_ c3
          · rw [show T.vals.length - 3 = T.vals.length - 1 - 2 by omega]
            exact Classical.byContradiction fun q => z (.inl q)
          · exact Classical.byContradiction fun q => z (.inr (.inr (by simpa using q)))
    by_cases k16 : k.k = 16
    · simp (config := { decide := true }) only [k16, if_true, if_false] at hd ⊢
      have e : ar k = (3, 0) := by unfold ar; simp [k16]
      have g := (gj e).1
      obtain ⟨_, t1, t2⟩ := c2 (.inl k16)
      by_cases z : (cmpN (if cmpN 5 ((M.st { T with tasks := tl }).topM 0).n 0 = true then 4 else 6) ((M.st { T with tasks := tl }).topM 2).n ((M.st { T with tasks := tl }).topM 1).n) = true
      · rw [if_pos z, st_todo h.cl]
        rw [e] at c3
        refine MI.envs (h.st_ (T := { T with tasks := ⟨1, (N.getD k.n nd0).b, 0, some M.envs.length⟩ :: ⟨17, k.n, 0, k.e⟩ :: tl }) hst ?_) _
        show HK M.tabs T.vals (_ :: _ :: tl) T.vals.length T.vals.length
        exact HK.blk (Nat.le_refl _) (k16c (.inr rfl) rfl g t1 t2 (c3.at (by omega) (by omega)))
      · rw [if_neg z, pp]
        refine h.st_ hst ?_
        show HK M.tabs (T.vals.take (T.vals.length - 3)) tl (T.vals.take (T.vals.length - 3)).length (T.vals.take (T.vals.length - 3)).length
        rw [lt]
        exact (g0 e).at (by omega) (Nat.le_refl _)
    by_cases k17 : k.k = 17
    · simp (config := { decide := true }) only [k17, if_true, if_false] at hd ⊢
      have e : ar k = (3, 0) := by unfold ar; simp [k17]
      have g := (gj e).1
      obtain ⟨_, t1, t2⟩ := c2 (.inr k17)
      rw [st_up h.cl, st_th h.cl] at hd ⊢
      simp only at hd ⊢
      unfold MD.burn at hd ⊢
      split at hd
      · cases hd
      · rename_i z
        rw [if_neg z]
        rw [top, top]
        generalize hu : ({ T.vals.getD (T.vals.length - 1 - 2) nilV with n := arithN 1 (T.vals.getD (T.vals.length - 1 - 2) nilV).n (T.vals.getD (T.vals.length - 1 - 0) nilV).n } : Vl) = u
        have hut : u.t = 2 := by
          rw [← hu]
          show (T.vals.getD (T.vals.length - 1 - 2) nilV).t = 2
          rw [show T.vals.length - 1 - 2 = T.vals.length - 3 by omega]
          exact t1
        have q := st_todo (M := { M with fuel := M.fuel - 1 }) (T := { T with tasks := tl, vals := T.vals.set (T.vals.length - 3) u }) h.cl [⟨16, k.n, 0, k.e⟩]
        refine Eq.mp (congrArg MI q.symm) ?_
        refine (h.fuel (M.fuel - 1)).st_ hst ?_
        show HK M.tabs (T.vals.set (T.vals.length - 3) u) (_ :: tl) (T.vals.set (T.vals.length - 3) u).length (T.vals.set (T.vals.length - 3) u).length
        rw [List.length_set]
        rw [e] at c3
        refine k16c (.inl rfl) (List.length_set ..) g ?_ ?_ (c3.to (TabM.refl _) (by omega) (by omega) (fun q hq => gd_set_ne (by omega)))
        · rw [gset (by omega)]; exact hut
        · rw [gd_set_ne (by omega)]; exact t2
    by_cases k18 : k.k = 18
    · simp (config := { decide := true }) only [k18, if_true, if_false] at hd ⊢
      have e : ar k = (1, 0) := by unfold ar; simp [k18]
      have g := (gj e).1
      rw [e] at c3
      have c3 : HK M.tabs T.vals tl (T.vals.length - 1) (T.vals.length - 1) := c3.at (by omega) (by omega)
      split at hd
      · rename_i z
        rw [if_pos z]
        exact h.throw (T1 := { T with tasks := tl }) hst c3 (by show T.vals.length - 1 ≤ T.vals.length; omega) _ hd
      · rename_i z
        rw [if_neg z, st_push h.cl, st_todo h.cl]
        rw [top] at z
        refine h.st_ hst ?_
        show HK M.tabs (T.vals ++ [nilV]) (_ :: tl) (T.vals ++ [nilV]).length (T.vals ++ [nilV]).length
        rw [List.length_append]
        refine k19c (.inl rfl) (by simp; omega) ?_ ?_ (c3.to (TabM.refl _) (by simp) (by simp) (fun q hq => gd_app (by omega)))
        · rw [show T.vals.length + [nilV].length - 2 = T.vals.length - 1 by simp, gd_app (by omega)]
          exact Classical.byContradiction fun q => z (by simpa using q)
        · rw [show T.vals.length + [nilV].length - 1 = T.vals.length by simp, List.getD_eq_getElem?_getD (l := T.vals ++ [nilV]) (i := T.vals.length), List.getElem?_append_right (Nat.le_refl _)]
          simpa using next_nilZ _
    by_cases k19 : k.k = 19
    · simp (config := { decide := true }) only [k19, if_true, if_false] at hd ⊢
      have e : ar k = (2, 0) := by unfold ar; simp [k19]
      have g := (gj e).1
      obtain ⟨_, t1, t2⟩ := c2' (.inl k19)
      have etb : (M.st { T with tasks := tl }).tabs = M.tabs := rfl
      rw [top, top, etb, show T.vals.length - 1 - 1 = T.vals.length - 2 by omega, show T.vals.length - 1 - 0 = T.vals.length - 1 by omega]
      cases hkv : (M.tabs.getD (T.vals.getD (T.vals.length - 2) nilV).n tab0).next (T.vals.getD (T.vals.length - 1) nilV) with
      | none => exact absurd hkv t2
      | some kv =>
        simp only [Option.getD_some]
        split
        · rw [pp]
          refine h.st_ hst ?_
          show HK M.tabs (T.vals.take (T.vals.length - 2)) tl (T.vals.take (T.vals.length - 2)).length (T.vals.take (T.vals.length - 2)).length
          rw [lt]
          exact (g0 e).at (by omega) (Nat.le_refl _)
        · rename_i h0
          rw [st_up h.cl, st_th h.cl, st_todo h.cl]
          refine MI.envs (h.st_ (T := { T with tasks := _, vals := T.vals.set (T.vals.length - 1) kv.1 }) hst ?_) _
          show HK M.tabs (T.vals.set (T.vals.length - 1) kv.1) (_ :: _ :: tl) (T.vals.set (T.vals.length - 1) kv.1).length (T.vals.set (T.vals.length - 1) kv.1).length
          rw [List.length_set]
          rw [e] at c3
          have tnn : TN (M.tabs.getD (T.vals.getD (T.vals.length - 2) nilV).n tab0) := by
            rw [List.getD_eq_getElem?_getD (l := M.tabs)]
            cases hq : M.tabs[(T.vals.getD (T.vals.length - 2) nilV).n]? with
            | none => exact TN.nil
            | some t => exact h.tn t (List.mem_of_getElem? hq)
          refine HK.blk (Nat.le_refl _) (k19c (.inr rfl) g ?_ ?_ (c3.to (TabM.refl _) (by omega) (by omega) (fun q hq => gd_set_ne (by omega))))
          · rw [gd_set_ne (by omega)]; exact t1
          · rw [gd_set_ne (by omega), gset (by omega)]
            exact next_next tnn hkv h0
    by_cases k20 : k.k = 20
    · simp (config := { decide := true }) only [k20, if_true, if_false] at hd ⊢
      have e : ar k = (2, 0) := by unfold ar; simp [k20]
      have g := (gj e).1
      obtain ⟨_, t1, t2⟩ := c2' (.inr k20)
      unfold MD.burn at hd ⊢
      split at hd
      · cases hd
      · rename_i z
        rw [if_neg z]
        have q := st_todo (M := { M with fuel := M.fuel - 1 }) (T := { T with tasks := tl }) h.cl [⟨19, k.n, 0, k.e⟩]
        refine Eq.mp (congrArg MI q.symm) ?_
        refine (h.fuel (M.fuel - 1)).st_ hst ?_
        show HK M.tabs T.vals (_ :: tl) T.vals.length T.vals.length
        rw [e] at c3
        exact k19c (.inl rfl) g t1 t2 (c3.at (by omega) (by omega))
    by_cases k21 : k.k = 21
    · simp (config := { decide := true }) only [k21, if_true, if_false] at hd ⊢
      have e : ar k = (2, 0) := by unfold ar; simp [k21]
      rw [pp] at hd ⊢
      exact h.ret (T1 := { T with tasks := tl, vals := T.vals.take (T.vals.length - 2) }) hst (g0 e) (by show T.vals.length - 2 ≤ (T.vals.take (T.vals.length - 2)).length; rw [lt]; exact Nat.le_refl _) _ _ hd
    by_cases k22 : k.k = 22
    · simp (config := { decide := true }) only [k22, if_true, if_false] at hd ⊢
      have e : ar k = (k.x + 1, 2) := by unfold ar; simp [k22]
      rw [apply_is h.cl] at hd ⊢
      split at hd
      · cases hd
      · rename_i z
        rw [if_neg z]
        refine (h.fuel (M.fuel - 1)).apl (T := { T with tasks := tl, vals := T.vals.take (T.vals.length - (k.x + 1)) }) hst ?_ _ _ hd
        show HK M.tabs (T.vals.take (T.vals.length - (k.x + 1))) tl ((T.vals.take (T.vals.length - (k.x + 1))).length + 2) (T.vals.take (T.vals.length - (k.x + 1))).length
        rw [lt]
        exact g0 e
    by_cases k23 : k.k = 23
    · simp (config := { decide := true }) only [k23, if_true, if_false] at hd ⊢
      have e : ar k = (1, 0) := by unfold ar; simp [k23]
      obtain ⟨_, h2, h4⟩ := c23 k23
      have t1 := top 1
      rw [show T.vals.length - 1 - 1 = T.vals.length - 2 by omega] at t1
      have hv : wellV ((M.st { T with tasks := tl }).topM 0) = true := by
        rw [top 0]
        have := (u.top 0).w
        unfold MD.topM at this
        rw [hTT] at this
        exact this
      have q4 : ((M.st { T with tasks := tl }).topM 1).t = 4 := by rw [t1]; exact h4
      have nz : ∀ t : TabD, (t.put (numV (fromIntN k.x)) ((M.st { T with tasks := tl }).topM 0)).1 = 0 ∨ (t.put (numV (fromIntN k.x)) ((M.st { T with tasks := tl }).topM 0)).1 = 8 := fun t => by
        unfold TabD.put
        rw [hv, num_well]
        have n2 : ¬ ((numV (fromIntN k.x)).t = 2 ∧ isNan (numV (fromIntN k.x)).n = true) := fun z => by
          have := fromInt_ok (k.x : Int)
          have z2 : isNan (fromIntN k.x) = true := z.2
          rw [this] at z2
          cases z2
        have n1 : ¬ ((numV (fromIntN k.x)).t = 0) := by show ¬ ((2 : Int) = 0); decide
        rw [if_neg (by decide), if_neg n1, if_neg n2]
        dsimp only
        repeat' split
        all_goals simp
      rw [pp] at hd ⊢
      split at hd
      · rename_i z
        exfalso
        rw [hd] at z
        cases z
      · rename_i z
        rw [if_neg z]
        have q := h.setT (T := { T with tasks := tl, vals := T.vals.take (T.vals.length - 1) }) hst (by
          show HK M.tabs (T.vals.take (T.vals.length - 1)) tl (T.vals.take (T.vals.length - 1)).length (T.vals.take (T.vals.length - 1)).length
          rw [lt]
          exact (g0 e).at (by omega) (Nat.le_refl _)) _ _ _ (by simpa using z)
        refine q.items _ _ _ ?_
        have zz : ((M.st { T with tasks := tl, vals := T.vals.take (T.vals.length - 1) }).setT ((M.st { T with tasks := tl }).topM 1) (numV (fromIntN k.x)) ((M.st { T with tasks := tl }).topM 0)).th = { T with tasks := tl, vals := T.vals.take (T.vals.length - 1) } := by
          unfold MD.setT at z ⊢
          dsimp only at z ⊢
          rw [if_neg (fun z => z q4)] at z ⊢
          have nn := nz ((M.st { T with tasks := tl, vals := T.vals.take (T.vals.length - 1) }).tabs.getD ((M.st { T with tasks := tl }).topM 1).n tab0)
          by_cases r8 : (((M.st { T with tasks := tl, vals := T.vals.take (T.vals.length - 1) }).tabs.getD ((M.st { T with tasks := tl }).topM 1).n tab0).put (numV (fromIntN k.x)) ((M.st { T with tasks := tl }).topM 0)).1 = 8
          · rw [if_pos r8] at z
            exact absurd rfl z
          · rw [if_neg r8, if_neg (fun w => w (nn.resolve_right r8))]
            exact st_th h.cl
        have key : ∀ (X : MD) (T' : MTh), X.th = T' → X.topM 0 = T'.vals.getD (T'.vals.length - 1 - 0) nilV := fun X T' e => by unfold MD.topM; rw [e]
        rw [key _ _ zz]
        show ((T.vals.take (T.vals.length - 1)).getD ((T.vals.take (T.vals.length - 1)).length - 1 - 0) nilV).t = 4
        rw [lt]
        have := gd_tk (l := T.vals) (us := []) (x := T.vals.length - 1) (q := T.vals.length - 1 - 1 - 0) (by omega) (by omega)
        rw [List.append_nil] at this
        rw [this, show T.vals.length - 1 - 1 - 0 = T.vals.length - 2 by omega]
        exact h4
    by_cases k24 : k.k = 24
    · simp (config := { decide := true }) only [k24, if_true, if_false] at hd ⊢
      have e : ar k = (2, 1) := by unfold ar; simp [k24]
      rw [pp] at hd ⊢
      refine h.bin (T := { T with tasks := tl, vals := T.vals.take (T.vals.length - 2) }) hst ?_ _ _ _ hd
      show HK M.tabs (T.vals.take (T.vals.length - 2)) tl ((T.vals.take (T.vals.length - 2)).length + 1) (T.vals.take (T.vals.length - 2)).length
      rw [lt]
      exact g0 e
    by_cases k25 : k.k = 25
    · simp (config := { decide := true }) only [k25, if_true, if_false] at hd ⊢
      have e : ar k = (1, 1) := by unfold ar; simp [k25]
      rw [pp] at hd ⊢
      refine h.un (T := { T with tasks := tl, vals := T.vals.take (T.vals.length - 1) }) hst ?_ (tw.t25 k25) _ hd
      show HK M.tabs (T.vals.take (T.vals.length - 1)) tl ((T.vals.take (T.vals.length - 1)).length + 1) (T.vals.take (T.vals.length - 1)).length
      rw [lt]
      exact g0 e
    have k267 : ∀ {q : MD}, ar k = (1, 1) → MI ((M.st { T with tasks := tl, vals := T.vals.take (T.vals.length - 1) }).todo [⟨2, (N.getD k.n nd0).b, 0, k.e⟩]) ∧ MI (M.st { T with tasks := tl }) := fun {q} e => by
      have g := (gj e).1
      refine ⟨?_, ?_⟩
      · rw [st_todo h.cl]
        refine h.st_ hst ?_
        show HK M.tabs (T.vals.take (T.vals.length - 1)) (_ :: tl) (T.vals.take (T.vals.length - 1)).length (T.vals.take (T.vals.length - 1)).length
        rw [lt]
        exact HK.ev (Nat.le_refl _) (g0 e)
      · refine h.st_ hst ?_
        show HK M.tabs T.vals tl T.vals.length T.vals.length
        rw [e] at c3
        exact c3.at (by omega) (by omega)
    by_cases k26 : k.k = 26
    · simp (config := { decide := true }) only [k26, if_true, if_false] at hd ⊢
      have e : ar k = (1, 1) := by unfold ar; simp [k26]
      rw [pp]
      split
      · exact (k267 (q := M) e).1
      · exact (k267 (q := M) e).2
    by_cases k27 : k.k = 27
    · simp (config := { decide := true }) only [k27, if_true, if_false] at hd ⊢
      have e : ar k = (1, 1) := by unfold ar; simp [k27]
      rw [pp]
      split
      · exact (k267 (q := M) e).2
      · exact (k267 (q := M) e).1
    by_cases k28 : k.k = 28
    · simp (config := { decide := true }) only [k28, if_true, if_false] at hd ⊢
      have e : ar k = (2, 1) := by unfold ar; simp [k28]
      rw [pp] at hd ⊢
      have g : HK M.tabs (T.vals.take (T.vals.length - 2)) tl ((T.vals.take (T.vals.length - 2)).length + 1) (T.vals.take (T.vals.length - 2)).length := by
        rw [lt]
        exact g0 e
      split at hd
      · rename_i z
        rw [if_pos z]
        exact h.throw (T1 := { T with tasks := tl, vals := T.vals.take (T.vals.length - 2) }) hst g (Nat.le_refl _) _ hd
      · rename_i z
        rw [if_neg z]
        exact h.push (T := { T with tasks := tl, vals := T.vals.take (T.vals.length - 2) }) hst _ g
    dsimp only at hd ⊢
    rw [if_neg k1, if_neg k2, if_neg k3, if_neg k4, if_neg k5, if_neg k6, if_neg k7, if_neg k8, if_neg k9, if_neg k10, if_neg k11, if_neg k12, if_neg k13, if_neg k14, if_neg k15, if_neg k16, if_neg k17, if_neg k18, if_neg k19, if_neg k20, if_neg k21, if_neg k22, if_neg k23, if_neg k24, if_neg k25, if_neg k26, if_neg k27, if_neg k28]
    refine h.st_ hst ?_
    show HK M.tabs T.vals tl T.vals.length T.vals.length
    have e : ar k = (0, 0) := by
      unfold ar
      rw [if_neg k2, if_neg (by omega), if_neg (by omega), if_neg (by omega), if_neg k22, if_neg (by omega), if_neg (by omega)]
    rw [e] at c3
    exact c3.at (by omega) (by omega)
end
end Go.Proofs.Qxb6500574aGreatDoor
