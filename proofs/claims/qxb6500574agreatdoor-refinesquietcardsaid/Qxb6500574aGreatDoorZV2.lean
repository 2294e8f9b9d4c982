/-
  moon: THE INTERPRETER's OWN STATE: values whose references are there: calls, a step. Plain; no memory, no walk.
-/
import Derived.Test.Qxb6500574aGreatDoorZV1
namespace Go.Proofs.Qxb6500574aGreatDoor
set_option linter.unusedVariables false
set_option linter.unusedSimpArgs false
section
variable {N : List Nd} {root : Nat} {M M' : MD}
theorem frs_turn {l : List MTh} {i : Nat} {T x : MTh} (hi : l[i]? = some T) (h1 : T.st = 1) (h : x.st ≠ 1) : frs (l.set i x) + 1 = frs l := by
  induction l generalizing i with
  | nil => cases hi
  | cons y l ih =>
    cases i with
    | zero =>
      have e : y = T := by simpa using hi
      subst e
      unfold frs
      rw [List.set_cons_zero, List.countP_cons, List.countP_cons]
      simp [h, h1]
    | succ i =>
      have := ih (i := i) (by simpa using hi)
      unfold frs at this ⊢
      rw [List.set_cons_succ, List.countP_cons, List.countP_cons]
      omega
theorem VM.up (f : MTh → MTh) {v : Vl} (h : VM M v) : VM (M.upT f) v := by
  unfold VM
  rw [th_len]
  exact h
theorem MU.apl (h : MU M) {fn : Vl} (hf : VM M fn) {args : List Vl} (ha : ∀ v ∈ args, VM M v) : MU (aplC N root M fn args) := by
  have ga : ∀ i, VM M (args.getD i nilV) := fun i => vk_getD ha i
  have tx : ∀ v, VM M v → (textV v).length ≤ 40 := fun v hv => hv.text h.t12 h.c24 h.h5
  have one : ∀ {v : Vl}, VM M v → ∀ u ∈ [v], VM M u := fun {v} hv u hu => by
    have : u = v := by simpa using hu
    rw [this]; exact hv
  unfold aplC
  dsimp only
  have a0 := ga 0
  have a1 := ga 1
  generalize args.getD 0 nilV = a at a0 ⊢
  generalize args.getD 1 nilV = b at a1 ⊢
  by_cases f5 : fn.t = 5
  · rw [if_pos f5]
    split
    · exact h.raise (by decide)
    · exact h.enter _ ha _
  rw [if_neg f5]
  by_cases f6 : fn.t ≠ 6
  · rw [if_pos f6]; exact h.raise (by decide)
  rw [if_neg f6]
  by_cases n1 : fn.n = 1
  · rw [if_pos n1]
    split
    · exact h.finish _ _
    · rename_i z
      have h1 : MU ({ M with out := M.out ++ textV a ++ [10] } : MD) := ⟨h.th, h.en, h.cl, h.tb, h.t0, h.t12, h.c0, h.c24, h.h5, by show (M.out ++ textV a ++ [10]).length ≤ 200; simp only [List.length_append, List.length_cons, List.length_nil]; omega, h.fu, h.fi⟩
      exact h1.push2 (VKn.nil _ _ _) (VKn.nil _ _ _)
  rw [if_neg n1]
  by_cases n2 : fn.n = 2
  · rw [if_pos n2]; exact h.push2 (VKn.str _ _ _ (tx a a0)) (VKn.nil _ _ _)
  rw [if_neg n2]
  by_cases n3 : fn.n = 3
  · rw [if_pos n3]
    refine h.push2 ?_ (VKn.nil _ _ _)
    split
    · exact a0
    · split
      · split
        · rename_i hq
          exact VKn.num _ _ _ (parse_ok hq).1
        · exact VKn.nil _ _ _
      · exact VKn.nil _ _ _
  rw [if_neg n3]
  by_cases n4 : fn.n = 4
  · rw [if_pos n4]; exact h.push2 (VKn.str _ _ _ (by have := type_len a; omega)) (VKn.nil _ _ _)
  rw [if_neg n4]
  by_cases n5 : fn.n = 5
  · rw [if_pos n5]; exact h.throw a0
  rw [if_neg n5]
  by_cases n6 : fn.n = 6
  · rw [if_pos n6]
    split
    · exact h.push2 (VKn.bool _ _ _ _) (VKn.str _ _ _ (by decide))
    · split
      · exact h.push2 (VKn.bool _ _ _ _) (VKn.str _ _ _ (by decide))
      · exact h.enter _ (one a1) _
  rw [if_neg n6]
  by_cases n7 : fn.n = 7
  · rw [if_pos n7]
    split
    · exact h.raise (by decide)
    · split
      · exact h.raise (by decide)
      · rename_i r hq
        have := (h.tab a.n).next hq
        exact h.push2 this.1 this.2
  rw [if_neg n7]
  by_cases n8 : fn.n = 8
  · rw [if_pos n8]
    split
    · exact h.raise (by decide)
    · rename_i z5
      split
      · exact h.finish _ _
      · rename_i z
        have el : (M.ths ++ [(⟨1, a.n, 0, [], []⟩ : MTh)]).length = M.ths.length + 1 := by simp
        have hn : a.n < M.clos.length := a0.f (by simpa using z5)
        have h1 : MU ({ M with ths := M.ths ++ [⟨1, a.n, 0, [], []⟩] } : MD) := by
          refine ⟨fun T hT => ?_, fun i d hd => ?_, h.cl, fun t ht => ?_, h.t0, h.t12, h.c0, h.c24, ?_, h.ou, h.fu, ?_⟩
          · have hT : T ∈ M.ths ++ [(⟨1, a.n, 0, [], []⟩ : MTh)] := hT
            rcases List.mem_append.1 hT with w | w
            · exact (h.th T w).mono (Nat.le_refl _) (Nat.le_refl _) (by show _ ≤ (M.ths ++ [(⟨1, a.n, 0, [], []⟩ : MTh)]).length; omega) (Nat.le_refl _)
            · have : T = ⟨1, a.n, 0, [], []⟩ := by simpa using w
              rw [this]
              exact ⟨(fun v hv => by cases hv), (fun k hk => by cases hk), hn⟩
          · exact ⟨(h.en i d hd).1.mono (Nat.le_refl _) (Nat.le_refl _) (by show _ ≤ (M.ths ++ [(⟨1, a.n, 0, [], []⟩ : MTh)]).length; omega), (h.en i d hd).2⟩
          · exact (h.tb t ht).mono (Nat.le_refl _) (Nat.le_refl _) (by show _ ≤ (M.ths ++ [(⟨1, a.n, 0, [], []⟩ : MTh)]).length; omega)
          · show (M.ths ++ [(⟨1, a.n, 0, [], []⟩ : MTh)]).length ≤ 5
            omega
          · show M.first + frs (M.ths ++ [(⟨1, a.n, 0, [], []⟩ : MTh)]) + 1 ≤ (M.ths ++ [(⟨1, a.n, 0, [], []⟩ : MTh)]).length
            have fi := h.fi
            have : frs (M.ths ++ [(⟨1, a.n, 0, [], []⟩ : MTh)]) = frs M.ths + 1 := by
              unfold frs
              rw [List.countP_append]
              rfl
            omega
        refine h1.push2 ?_ (VKn.nil _ _ _)
        refine ⟨?_, (fun z => by cases z), (fun z => by cases z), (fun z => by cases z), fun _ => ?_⟩
        · have h5 := h.h5
          unfold wellV
          have : M.ths.length < 2 ^ 32 := by omega
          simp [this]
        · show M.ths.length < (M.ths ++ [(⟨1, a.n, 0, [], []⟩ : MTh)]).length
          omega
  rw [if_neg n8]
  by_cases n9 : fn.n = 9
  · rw [if_pos n9]
    split
    · exact h.raise (by decide)
    · rename_i z7
      split
      · exact h.push2 (VKn.bool _ _ _ _) (VKn.str _ _ _ (by have := status_len (M.ths.getD a.n mt0).st; omega))
      · rename_i zs
        have zs : (M.ths.getD a.n mt0).st = 1 ∨ (M.ths.getD a.n mt0).st = 2 := by omega
        have hj : a.n < M.ths.length := a0.c (by simpa using z7)
        have h1 : MU (M.upT fun t => { t with st := 3 }) := h.up (f := fun t => { t with st := 3 }) ⟨h.me.v, h.me.k, h.me.f⟩ (fun z => by cases z)
        have h2 : MU ({ (M.upT fun t => { t with st := 3 }) with stack := M.cur :: M.stack, cur := a.n } : MD) := h1.to rfl rfl rfl rfl rfl (Nat.le_refl _) rfl
        have h3 : MU (({ (M.upT fun t => { t with st := 3 }) with stack := M.cur :: M.stack, cur := a.n } : MD).upT fun t => { t with st := 4 }) := h2.up (f := fun t => { t with st := 4 }) ⟨h2.me.v, h2.me.k, h2.me.f⟩ (fun z => by cases z)
        have el : (({ (M.upT fun t => { t with st := 3 }) with stack := M.cur :: M.stack, cur := a.n } : MD).upT fun t => { t with st := 4 }).ths.length = M.ths.length := by
          show ((M.ths.set M.cur _).set _ _).length = _
          rw [List.length_set, List.length_set]
        have cv : ∀ {v : Vl}, VM M v → VM (({ (M.upT fun t => { t with st := 3 }) with stack := M.cur :: M.stack, cur := a.n } : MD).upT fun t => { t with st := 4 }) v := fun {v} hv => by
          unfold VM
          rw [el]
          exact hv
        split
        · rename_i z1
          have h4 : MU ({ (({ (M.upT fun t => { t with st := 3 }) with stack := M.cur :: M.stack, cur := a.n } : MD).upT fun t => { t with st := 4 }) with first := M.first + 1 } : MD) := by
            refine ⟨h3.th, h3.en, h3.cl, h3.tb, h3.t0, h3.t12, h3.c0, h3.c24, h3.h5, h3.ou, h3.fu, ?_⟩
            have fi := h.fi
            show M.first + 1 + frs (((M.ths.set M.cur { M.th with st := 3 })).set a.n { ((M.ths.set M.cur { M.th with st := 3 })).getD a.n mt0 with st := 4 }) + 1 ≤ (((M.ths.set M.cur { M.th with st := 3 })).set a.n { ((M.ths.set M.cur { M.th with st := 3 })).getD a.n mt0 with st := 4 }).length
            rw [List.length_set, List.length_set]
            have hg : M.ths[a.n]? = some (M.ths.getD a.n mt0) := by rw [List.getD_eq_getElem?_getD, List.getElem?_eq_getElem hj]; rfl
            have t1 : frs ((M.ths.set M.cur { M.th with st := 3 }).set a.n { ((M.ths.set M.cur { M.th with st := 3 })).getD a.n mt0 with st := 4 }) + 1 ≤ frs M.ths := by
              by_cases e : M.cur = a.n
              · rw [e, List.set_set]
                have := frs_turn (l := M.ths) (x := { (M.ths.set a.n { M.th with st := 3 }).getD a.n mt0 with st := 4 }) hg z1 (by show (4 : Nat) ≠ 1; decide)
                omega
              · have hg2 : (M.ths.set M.cur { M.th with st := 3 })[a.n]? = some (M.ths.getD a.n mt0) := by rw [List.getElem?_set_ne e]; exact hg
                have q1 := frs_turn (l := M.ths.set M.cur { M.th with st := 3 }) (x := { (M.ths.set M.cur { M.th with st := 3 }).getD a.n mt0 with st := 4 }) hg2 z1 (by show (4 : Nat) ≠ 1; decide)
                have q2 : frs (M.ths.set M.cur { M.th with st := 3 }) ≤ frs M.ths := by
                  by_cases hc : M.cur < M.ths.length
                  · exact frs_set (show M.ths[M.cur]? = some M.th by unfold MD.th; rw [List.getD_eq_getElem?_getD, List.getElem?_eq_getElem hc]; rfl) (fun z => by cases z)
                  · rw [List.set_eq_of_length_le (by omega)]
                    exact Nat.le_refl _
                omega
            omega
          refine h4.enter _ (fun u hu => ?_) _
          have e : u = b := by simpa using hu
          rw [e]
          exact cv a1
        · exact h3.push2 (cv a1) (VKn.nil _ _ _)
  rw [if_neg n9]
  by_cases n10 : fn.n = 10
  · rw [if_pos n10]
    split
    · exact h.raise (by decide)
    · split
      · exact h
      · rename_i c r _
        have h1 : MU (M.upT fun t => { t with st := 2 }) := h.up (f := fun t => { t with st := 2 }) ⟨h.me.v, h.me.k, h.me.f⟩ (fun z => by cases z)
        have h2 : MU ({ (M.upT fun t => { t with st := 2 }) with stack := r, cur := c } : MD) := h1.to rfl rfl rfl rfl rfl (Nat.le_refl _) rfl
        have h3 : MU (({ (M.upT fun t => { t with st := 2 }) with stack := r, cur := c } : MD).upT fun t => { t with st := 4 }) := h2.up (f := fun t => { t with st := 4 }) ⟨h2.me.v, h2.me.k, h2.me.f⟩ (fun z => by cases z)
        have el : (({ (M.upT fun t => { t with st := 2 }) with stack := r, cur := c } : MD).upT fun t => { t with st := 4 }).ths.length = M.ths.length := by
          show ((M.ths.set M.cur _).set _ _).length = _
          rw [List.length_set, List.length_set]
        refine h3.push2 (VKn.bool _ _ _ _) ?_
        unfold VM
        rw [el]
        exact a0
  rw [if_neg n10]
  by_cases n11 : fn.n = 11
  · rw [if_pos n11]
    split
    · exact h.raise (by decide)
    · exact h.push2 (VKn.str _ _ _ (by have := status_len (M.ths.getD a.n mt0).st; omega)) (VKn.nil _ _ _)
  rw [if_neg n11]
  exact h.push2 (VKn.nil _ _ _) (VKn.nil _ _ _)
/-- at every step -/
theorem MU.step (h : MU M) (w : MW N root M) (h17 : ∀ k r, M.th.tasks = k :: r → k.k = 17 → (M.topM 2).t = 2) : MU (M.step N root) := by
  unfold MD.step
  cases ht : M.th.tasks with
  | nil => exact h
  | cons k r =>
    have wt := w.t.th
    rw [ht] at wt
    have tw := wt k (by simp)
    have ke : ∀ i, k.e = some i → i < M.envs.length := h.me.k k (by rw [ht]; simp)
    have hm : MU (M.upT fun t => { t with tasks := r }) := h.tasks fun q hq => by rw [ht]; simp [hq]
    have ke : ∀ i, k.e = some i → i < (M.upT fun t => { t with tasks := r }).envs.length := ke
    have hc : M.cur < M.ths.length := Decidable.byContradiction fun z => by
      have : M.th = mt0 := by unfold MD.th; rw [List.getD_eq_getElem?_getD, List.getElem?_eq_none (by omega)]; rfl
      rw [this] at ht
      cases ht
    have t17 : k.k = 17 → ((M.upT fun t => { t with tasks := r }).topM 2).t = 2 := fun z => by
      have e : (M.upT fun t => { t with tasks := r }).topM 2 = M.topM 2 := by
        unfold MD.topM MD.upT MD.th
        simp [List.getD_eq_getElem?_getD, hc]
      rw [e]
      exact h17 k r ht z
    dsimp only
    generalize (M.upT fun t => { t with tasks := r }) = m at hm ke t17
    have td : ∀ {q : MD} {l : List TkD}, MU q → (∀ i, k.e = some i → i < q.envs.length) → (∀ x ∈ l, x.e = k.e ∨ x.e = none) → MU (q.todo l) := fun {q l} h he hl => h.todo (tk_e he hl)
    have up : ∀ {n : Nat} {v : Vl}, VM m v → VM (m.pops n) v := fun {n v} hv => VM.up _ hv
    by_cases k1 : k.k = 1
    · simp (config := { decide := true }) only [k1, if_true, if_false]
      split
      · exact hm.stmt _ ke
      · exact hm
    by_cases k2 : k.k = 2
    · simp (config := { decide := true }) only [k2, if_true, if_false]
      exact hm.eval (tw.t2 k2) ke
    by_cases k3 : k.k = 3
    · simp (config := { decide := true }) only [k3, if_true, if_false]
      exact h.ret (VKn.nil _ _ _) (VKn.nil _ _ _)
    by_cases k4 : k.k = 4
    · simp (config := { decide := true }) only [k4, if_true, if_false]
      exact hm
    by_cases k5 : k.k = 5
    · simp (config := { decide := true }) only [k5, if_true, if_false]
      exact hm.pops _
    by_cases k6 : k.k = 6
    · simp (config := { decide := true }) only [k6, if_true, if_false]
      have h1 := (hm.pops 1).env (e := ⟨(N.getD k.n nd0).s, m.topM 0, k.e⟩) (up (hm.top 0)) ke
      exact h1.todo (l := [⟨1, (N.getD k.n nd0).next, 0, some m.envs.length⟩]) fun q hq i hi => by
        have e : q = ⟨1, (N.getD k.n nd0).next, 0, some m.envs.length⟩ := by simpa using hq
        rw [e] at hi
        have : i = m.envs.length := (Option.some.inj hi).symm
        show i < (m.envs ++ [_]).length
        simp [this]
    by_cases k7 : k.k = 7
    · simp (config := { decide := true }) only [k7, if_true, if_false]
      have h1 := (hm.pops 2).env2 (e := ⟨(N.getD (N.getD k.n nd0).a nd0).s, m.topM 1, k.e⟩) (e' := ⟨(N.getD (N.getD (N.getD k.n nd0).a nd0).next nd0).s, m.topM 0, some m.envs.length⟩) (up (hm.top 1)) ke (up (hm.top 0)) rfl
      exact h1.todo (l := [⟨1, (N.getD k.n nd0).next, 0, some (m.envs.length + 1)⟩]) fun q hq i hi => by
        have e : q = ⟨1, (N.getD k.n nd0).next, 0, some (m.envs.length + 1)⟩ := by simpa using hq
        rw [e] at hi
        have : i = m.envs.length + 1 := (Option.some.inj hi).symm
        show i < (m.envs ++ [_, _]).length
        simp [this]
    by_cases k8 : k.k = 8
    · simp (config := { decide := true }) only [k8, if_true, if_false]
      have h1 := (hm.pops 1).setE (k.e.getD 0) (v := m.topM 0) (up (hm.top 0))
      exact td (q := { m.pops 1 with envs := m.envs.set (k.e.getD 0) { m.envs.getD (k.e.getD 0) en0 with v := m.topM 0 } }) h1 (fun i hi => by show i < (m.envs.set _ _).length; rw [List.length_set]; exact ke i hi) (l := [⟨1, (N.getD k.n nd0).next, 0, k.e⟩]) (by simp)
    by_cases k9 : k.k = 9
    · simp (config := { decide := true }) only [k9, if_true, if_false]
      have S : (strV (N.getD k.n nd0).s).t = 3 := rfl
      cases m.find k.e (N.getD k.n nd0).s with
      | some i => exact (hm.pops 1).setE i (v := m.topM 0) (up (hm.top 0))
      | none =>
        dsimp only
        by_cases hs : (N.getD k.n nd0).s.length ≤ 40
        · exact (hm.pops 1).setT (VKn.str _ _ _ hs) (up (hm.top 0))
        · have hw : wellV (strV (N.getD k.n nd0).s) = false := by
            generalize (N.getD k.n nd0).s = s9 at hs
            unfold wellV strV
            simp
            omega
          have he : ((m.pops 1).tabs.getD 0 tab0).put (strV (N.getD k.n nd0).s) (m.topM 0) = (4, (m.pops 1).tabs.getD 0 tab0) := by unfold TabD.put; rw [hw]; rfl
          unfold MD.setT
          dsimp only
          rw [if_neg (by decide), he]
          exact (hm.pops 1).raise (by decide)
    by_cases k10 : k.k = 10
    · simp (config := { decide := true }) only [k10, if_true, if_false]
      exact (hm.pops 3).setT (up (hm.top 1)) (up (hm.top 0))
    by_cases k11 : k.k = 11
    · simp (config := { decide := true }) only [k11, if_true, if_false]
      exact td (hm.pops 1) ke (by simp)
    by_cases k12 : k.k = 12
    · simp (config := { decide := true }) only [k12, if_true, if_false]
      exact td hm ke (by simp)
    by_cases k13 : k.k = 13
    · simp (config := { decide := true }) only [k13, if_true, if_false]
      split
      · exact td (hm.pops 1) ke (by simp)
      · exact hm.pops 1
    by_cases k14 : k.k = 14
    · simp (config := { decide := true }) only [k14, if_true, if_false]
      exact hm.burn fun q hq _ _ he _ _ => td hq (by rw [he]; exact ke) (by simp)
    by_cases k15 : k.k = 15
    · simp (config := { decide := true }) only [k15, if_true, if_false]
      split
      · exact hm.raise (by decide)
      · split
        · exact hm.raise (by decide)
        · exact td hm ke (by simp)
    by_cases k16 : k.k = 16
    · simp (config := { decide := true }) only [k16, if_true, if_false]
      by_cases z : (cmpN (if cmpN 5 (m.topM 0).n 0 = true then 4 else 6) (m.topM 2).n (m.topM 1).n) = true
      · rw [if_pos z]
        have h1 := hm.env (e := ⟨(N.getD k.n nd0).s, m.topM 2, k.e⟩) (hm.top 2) ke
        exact h1.todo (l := [⟨1, (N.getD k.n nd0).b, 0, some m.envs.length⟩, ⟨17, k.n, 0, k.e⟩]) fun q hq i hi => by
          simp only [List.mem_cons, List.not_mem_nil, or_false] at hq
          show i < (m.envs ++ [_]).length
          rcases hq with e | e
          · rw [e] at hi
            have : i = m.envs.length := (Option.some.inj hi).symm
            simp [this]
          · rw [e] at hi
            have := ke i hi
            simp
            omega
      · rw [if_neg z]
        exact hm.pops 3
    by_cases k17 : k.k = 17
    · simp (config := { decide := true }) only [k17, if_true, if_false]
      have t2 := hm.top 2
      have tt := t17 k17
      have hv : VM m { m.topM 2 with n := arithN 1 (m.topM 2).n (m.topM 0).n } := by
        have w2 := t2.w
        refine ⟨?_, fun _ => (arith_ok 1 (m.topM 2).n (m.topM 0).n).1, fun z => ?_, fun z => ?_, fun z => ?_⟩
        · unfold wellV at w2 ⊢
          dsimp only
          rw [tt] at w2 ⊢
          exact w2
        · have z : (m.topM 2).t = 4 := z
          omega
        · have z : (m.topM 2).t = 5 := z
          omega
        · have z : (m.topM 2).t = 7 := z
          omega
      have h1 : MU (m.upT fun t => { t with vals := t.vals.set (m.th.vals.length - 3) { m.topM 2 with n := arithN 1 (m.topM 2).n (m.topM 0).n } }) := hm.up (f := fun t => { t with vals := t.vals.set (m.th.vals.length - 3) { m.topM 2 with n := arithN 1 (m.topM 2).n (m.topM 0).n } }) ⟨fun v hv' => by
          rcases List.mem_or_eq_of_mem_set hv' with z | z
          · exact hm.me.v v z
          · rw [z]; exact hv, hm.me.k, hm.me.f⟩ id
      exact h1.burn fun q hq _ _ he _ _ => td hq (by rw [he]; exact ke) (by simp)
    by_cases k18 : k.k = 18
    · simp (config := { decide := true }) only [k18, if_true, if_false]
      split
      · exact hm.raise (by decide)
      · exact td (hm.push1 (VKn.nil _ _ _)) ke (by simp)
    by_cases k19 : k.k = 19
    · simp (config := { decide := true }) only [k19, if_true, if_false]
      have kv : VM m (((m.tabs.getD (m.topM 1).n tab0).next (m.topM 0)).getD (nilV, nilV)).1 ∧ VM m (((m.tabs.getD (m.topM 1).n tab0).next (m.topM 0)).getD (nilV, nilV)).2 := by
        cases hq : (m.tabs.getD (m.topM 1).n tab0).next (m.topM 0) with
        | none => exact ⟨VKn.nil _ _ _, VKn.nil _ _ _⟩
        | some p => exact (hm.tab _).next hq
      generalize ((m.tabs.getD (m.topM 1).n tab0).next (m.topM 0)).getD (nilV, nilV) = kv0 at kv
      split
      · exact hm.pops 2
      · have h0 : MU (m.upT fun t => { t with vals := t.vals.set (m.th.vals.length - 1) kv0.1 }) := hm.up (f := fun t => { t with vals := t.vals.set (m.th.vals.length - 1) kv0.1 }) ⟨fun v hv => by
          rcases List.mem_or_eq_of_mem_set hv with z | z
          · exact hm.me.v v z
          · rw [z]; exact kv.1, hm.me.k, hm.me.f⟩ id
        have h1 := h0.env2 (e := ⟨(N.getD (N.getD k.n nd0).a nd0).s, kv0.1, k.e⟩) (e' := ⟨(N.getD (N.getD (N.getD k.n nd0).a nd0).next nd0).s, kv0.2, some m.envs.length⟩) (VM.up _ kv.1) ke (VM.up _ kv.2) rfl
        exact h1.todo (l := [⟨1, (N.getD k.n nd0).c, 0, some (m.envs.length + 1)⟩, ⟨20, k.n, 0, k.e⟩]) fun q hq i hi => by
          simp only [List.mem_cons, List.not_mem_nil, or_false] at hq
          show i < (m.envs ++ [_, _]).length
          rcases hq with e | e
          · rw [e] at hi
            have : i = m.envs.length + 1 := (Option.some.inj hi).symm
            simp [this]
          · rw [e] at hi
            have := ke i hi
            simp
            omega
    by_cases k20 : k.k = 20
    · simp (config := { decide := true }) only [k20, if_true, if_false]
      exact hm.burn fun q hq _ _ he _ _ => td hq (by rw [he]; exact ke) (by simp)
    by_cases k21 : k.k = 21
    · simp (config := { decide := true }) only [k21, if_true, if_false]
      exact (hm.pops 2).ret (up (hm.top 1)) (up (hm.top 0))
    by_cases k22 : k.k = 22
    · simp (config := { decide := true }) only [k22, if_true, if_false]
      unfold MD.apply
      refine hm.burn fun q hq e1 e2 e3 e4 e5 => ?_
      refine (hq.pops (k.x + 1)).apl (VM.up _ (vk_getD hq.me.v _)) (fun v hv => VM.up _ (hq.me.v v (List.mem_of_mem_drop hv)))
    by_cases k23 : k.k = 23
    · simp (config := { decide := true }) only [k23, if_true, if_false]
      have q := (hm.pops 1).setT (t := m.topM 1) (k := numV (fromIntN k.x)) (v := m.topM 0) (VKn.num _ _ _ (fromInt_num _).1) (up (hm.top 0))
      split
      · exact q
      · have ee : ((m.pops 1).setT (m.topM 1) (numV (fromIntN k.x)) (m.topM 0)).envs = m.envs := by
          have e1 : ∀ (m : MD) (v : Vl) (ok : Bool), (m.back ok v).envs = m.envs := fun m v ok => by unfold MD.back; split <;> rfl
          have e2 : ∀ (m : MD) (v : Vl), (m.throw v).envs = m.envs := fun m v => by
            unfold MD.throw
            split
            · rfl
            · rw [e1]; rfl
          unfold MD.setT
          dsimp only
          repeat' split
          all_goals first | rfl | (unfold MD.raise; rw [e2]; rfl)
        exact q.items _ _ (by rw [ee]; exact ke)
    by_cases k24 : k.k = 24
    · simp (config := { decide := true }) only [k24, if_true, if_false]
      exact (hm.pops 2).bin _ (up (hm.top 1)) (up (hm.top 0))
    by_cases k25 : k.k = 25
    · simp (config := { decide := true }) only [k25, if_true, if_false]
      exact (hm.pops 1).un _ (up (hm.top 0))
    by_cases k26 : k.k = 26
    · simp (config := { decide := true }) only [k26, if_true, if_false]
      split
      · exact td (hm.pops 1) ke (by simp)
      · exact hm
    by_cases k27 : k.k = 27
    · simp (config := { decide := true }) only [k27, if_true, if_false]
      split
      · exact hm
      · exact td (hm.pops 1) ke (by simp)
    by_cases k28 : k.k = 28
    · simp (config := { decide := true }) only [k28, if_true, if_false]
      split
      · exact (hm.pops 2).raise (by decide)
      · exact (hm.pops 2).push1 ((hm.pops 2).tab _ |>.get _)
    rw [if_neg k1, if_neg k2, if_neg k3, if_neg k4, if_neg k5, if_neg k6, if_neg k7, if_neg k8, if_neg k9, if_neg k10, if_neg k11, if_neg k12, if_neg k13, if_neg k14, if_neg k15, if_neg k16, if_neg k17, if_neg k18, if_neg k19, if_neg k20, if_neg k21, if_neg k22, if_neg k23, if_neg k24, if_neg k25, if_neg k26, if_neg k27, if_neg k28]
    exact hm
end
end Go.Proofs.Qxb6500574aGreatDoor
