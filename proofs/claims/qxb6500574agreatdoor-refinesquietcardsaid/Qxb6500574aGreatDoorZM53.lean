/-
  moon: THE INTERPRETER ANSWERS AS THE MACHINE DOES. Plain; no memory, no walk.
-/
import Derived.Test.Qxb6500574aGreatDoorZM52
namespace Go.Proofs.Qxb6500574aGreatDoor
set_option linter.unusedVariables false
set_option linter.unusedSimpArgs false
section
variable {N : List Nd} {root : Nat} {M : MD}
theorem MW.pops (h : MW N root M) (n : Nat) : MW N root (M.pops n) := h.mk' (h.t.pops n) rfl
theorem MW.push (h : MW N root M) (l : List Vl) : MW N root (M.push l) := h.mk' (h.t.push l) rfl
theorem MW.todo (h : MW N root M) {l : List TkD} (hl : ∀ k ∈ l, Tw N k) : MW N root (M.todo l) := h.mk' (h.t.todo hl) rfl
theorem MW.same {M' : MD} (h : MW N root M) (h1 : M'.ths = M.ths) (h2 : M'.clos = M.clos) : MW N root M' := h.mk' (by unfold AllT; rw [h1]; exact h.t) h2
theorem tw1 {k : TkD} (h : Tw N k) : ∀ q ∈ [k], Tw N q := fun q hq => by
  have : q = k := by simpa using hq
  rw [this]
  exact h
theorem tw2 {k k' : TkD} (h : Tw N k) (h' : Tw N k') : ∀ q ∈ [k, k'], Tw N q := fun q hq => by
  simp only [List.mem_cons, List.not_mem_nil, or_false] at hq
  rcases hq with rfl | rfl
  · exact h
  · exact h'
theorem MW.un (h : MW N root M) (op : Nat) (a : Vl) : MW N root (M.un op a) := by
  refine h.mk' (h.t.un op a) ?_
  unfold MD.un
  split
  · rfl
  · split
    · split
      · exact clos_throw _ _
      · rfl
    · split
      · split
        · rfl
        · split
          · exact clos_throw _ _
          · rfl
      · rfl
theorem MW.bin (h : MW N root M) (op : Nat) (a b : Vl) : MW N root (M.bin op a b) := by
  refine h.mk' (h.t.bin op a b) ?_
  unfold MD.bin
  split
  · split
    · exact clos_throw _ _
    · split
      · exact clos_throw _ _
      · rfl
  · split
    · split
      · exact clos_throw _ _
      · rfl
    · split
      · exact clos_throw _ _
      · rfl
theorem MW.burn (h : MW N root M) {f : MD → MD} (hf : ∀ q : MD, MW N root q → MW N root (f q)) : MW N root (M.burn f) := by
  unfold MD.burn
  split
  · exact h.same rfl rfl
  · exact hf _ (h.same rfl rfl)
theorem MW.items (h : MW N root M) {n i : Nat} {e : Option Nat} {l : List Nat} (hc : Chain N n l) (hl : ∀ y ∈ l, ExSZ N y) : MW N root (M.items n i e) := by
  refine h.mk' (h.t.items hc hl) ?_
  unfold MD.items
  split <;> rfl
/-- at every step -/
theorem MW.step (h : MW N root M) : MW N root (M.step N root) := by
  unfold MD.step
  cases ht : M.th.tasks with
  | nil => exact h
  | cons k r =>
    have wt := h.t.th
    rw [ht] at wt
    have tw := wt k (by simp)
    have hm : MW N root (M.upT fun t => { t with tasks := r }) := h.mk' (h.t.up fun q hq => wt q (by simp [show q ∈ r from hq])) rfl
    dsimp only
    generalize (M.upT fun t => { t with tasks := r }) = m at hm
    by_cases k1 : k.k = 1
    · simp (config := { decide := true }) only [k1, if_true, if_false]
      split
      · rename_i hn
        obtain ⟨lp, q⟩ := tw.t1 k1
        exact hm.stmt q hn k.e
      · exact hm
    by_cases k2 : k.k = 2
    · simp (config := { decide := true }) only [k2, if_true, if_false]
      exact hm.eval (tw.t2 k2) k.e
    by_cases k3 : k.k = 3
    · simp (config := { decide := true }) only [k3, if_true, if_false]
      exact h.ret _ _
    by_cases k4 : k.k = 4
    · simp (config := { decide := true }) only [k4, if_true, if_false]
      exact hm
    by_cases k5 : k.k = 5
    · simp (config := { decide := true }) only [k5, if_true, if_false]
      exact hm.pops _
    by_cases k6 : k.k = 6
    · simp (config := { decide := true }) only [k6, if_true, if_false]
      obtain ⟨lp, q⟩ := tw.t6 (.inl k6)
      exact ((hm.pops 1).todo (tw1 (Tw.b q))).same rfl rfl
    by_cases k7 : k.k = 7
    · simp (config := { decide := true }) only [k7, if_true, if_false]
      obtain ⟨lp, q⟩ := tw.t6 (.inr (.inl k7))
      exact ((hm.pops 2).todo (tw1 (Tw.b q))).same rfl rfl
    by_cases k8 : k.k = 8
    · simp (config := { decide := true }) only [k8, if_true, if_false]
      obtain ⟨lp, q⟩ := tw.t6 (.inr (.inr k8))
      exact ((hm.pops 1).todo (tw1 (Tw.b q))).same rfl rfl
    by_cases k9 : k.k = 9
    · simp (config := { decide := true }) only [k9, if_true, if_false]
      cases m.find k.e (N.getD k.n nd0).s with
      | some i => exact (hm.pops 1).same rfl rfl
      | none => exact (hm.pops 1).setT _ _ _
    by_cases k10 : k.k = 10
    · simp (config := { decide := true }) only [k10, if_true, if_false]
      exact (hm.pops 3).setT _ _ _
    by_cases k11 : k.k = 11
    · simp (config := { decide := true }) only [k11, if_true, if_false]
      obtain ⟨lp, q1, q2⟩ := tw.t11 k11
      refine (hm.pops 1).todo (tw1 ?_)
      split
      · exact Tw.b q1
      · exact Tw.b q2
    by_cases k12 : k.k = 12
    · simp (config := { decide := true }) only [k12, if_true, if_false]
      obtain ⟨q1, q2⟩ := tw.t12 (.inl k12)
      refine hm.todo (tw2 (Tw.e (.inr q1)) ?_)
      constructor <;> intro z <;> first | exact ⟨q1, q2⟩ | (exfalso; have z := z; simp only at z; omega)
    by_cases k13 : k.k = 13
    · simp (config := { decide := true }) only [k13, if_true, if_false]
      obtain ⟨q1, q2⟩ := tw.t12 (.inr (.inl k13))
      split
      · refine (hm.pops 1).todo (tw2 (Tw.b q2) ?_)
        constructor <;> intro z <;> first | exact ⟨q1, q2⟩ | (exfalso; have z := z; simp only at z; omega)
      · exact hm.pops 1
    by_cases k14 : k.k = 14
    · simp (config := { decide := true }) only [k14, if_true, if_false]
      obtain ⟨q1, q2⟩ := tw.t12 (.inr (.inr k14))
      refine hm.burn fun q hq => hq.todo (tw1 ?_)
      constructor <;> intro z <;> first | exact ⟨q1, q2⟩ | (exfalso; have z := z; simp only at z; omega)
    have t15 : ∀ {q : Nat}, q = 15 ∨ q = 16 ∨ q = 17 → StCZ N (N.getD k.n nd0).b true → Tw N ⟨q, k.n, 0, k.e⟩ := fun {q} hq g => by
      constructor <;> intro z <;> first | exact g | (exfalso; have z := z; simp only at z; omega)
    have t18 : ∀ {q : Nat}, q = 18 ∨ q = 19 ∨ q = 20 → StCZ N (N.getD k.n nd0).c true → Tw N ⟨q, k.n, 0, k.e⟩ := fun {q} hq g => by
      constructor <;> intro z <;> first | exact g | (exfalso; have z := z; simp only at z; omega)
    by_cases k15 : k.k = 15
    · simp (config := { decide := true }) only [k15, if_true, if_false]
      have q := tw.t15 (.inl k15)
      split
      · exact hm.throw _
      · split
        · exact hm.throw _
        · exact hm.todo (tw1 (t15 (by simp) q))
    by_cases k16 : k.k = 16
    · simp (config := { decide := true }) only [k16, if_true, if_false]
      have q := tw.t15 (.inr (.inl k16))
      by_cases z : (cmpN (if cmpN 5 (m.topM 0).n 0 = true then 4 else 6) (m.topM 2).n (m.topM 1).n) = true
      · rw [if_pos z]
        exact (hm.todo (tw2 (Tw.b q) (t15 (by simp) q))).same rfl rfl
      · rw [if_neg z]
        exact hm.pops 3
    by_cases k17 : k.k = 17
    · simp (config := { decide := true }) only [k17, if_true, if_false]
      have q := tw.t15 (.inr (.inr k17))
      refine MW.burn ?_ fun z hz => hz.todo (tw1 (t15 (by simp) q))
      exact hm.mk' (hm.t.up hm.t.th) rfl
    by_cases k18 : k.k = 18
    · simp (config := { decide := true }) only [k18, if_true, if_false]
      have q := tw.t18 (.inl k18)
      split
      · exact hm.throw _
      · exact (hm.push _).todo (tw1 (t18 (by simp) q))
    by_cases k19 : k.k = 19
    · simp (config := { decide := true }) only [k19, if_true, if_false]
      have q := tw.t18 (.inr (.inl k19))
      split
      · exact hm.pops 2
      · have q2 : MW N root (m.upT fun t => { t with vals := t.vals.set (m.th.vals.length - 1) (((m.tabs.getD (m.topM 1).n tab0).next (m.topM 0)).getD (nilV, nilV)).1 }) := hm.mk' (hm.t.up hm.t.th) rfl
        exact (q2.todo (tw2 (Tw.b q) (t18 (by simp) q))).same rfl rfl
    by_cases k20 : k.k = 20
    · simp (config := { decide := true }) only [k20, if_true, if_false]
      have q := tw.t18 (.inr (.inr k20))
      exact hm.burn fun z hz => hz.todo (tw1 (t18 (by simp) q))
    by_cases k21 : k.k = 21
    · simp (config := { decide := true }) only [k21, if_true, if_false]
      exact (hm.pops 2).ret _ _
    by_cases k22 : k.k = 22
    · simp (config := { decide := true }) only [k22, if_true, if_false]
      unfold MD.apply
      exact hm.burn fun z hz => (hz.pops (k.x + 1)).apl _ _
    by_cases k23 : k.k = 23
    · simp (config := { decide := true }) only [k23, if_true, if_false]
      have q := (hm.pops 1).setT (m.topM 1) (numV (fromIntN k.x)) (m.topM 0)
      obtain ⟨l, q1, q2⟩ := tw.t23 k23
      split
      · exact q
      · exact q.items q1 q2
    by_cases k24 : k.k = 24
    · simp (config := { decide := true }) only [k24, if_true, if_false]
      exact (hm.pops 2).bin _ _ _
    by_cases k25 : k.k = 25
    · simp (config := { decide := true }) only [k25, if_true, if_false]
      exact (hm.pops 1).un _ _
    by_cases k26 : k.k = 26
    · simp (config := { decide := true }) only [k26, if_true, if_false]
      split
      · exact (hm.pops 1).todo (tw1 (Tw.e (.inr (tw.t26 (.inl k26)))))
      · exact hm
    by_cases k27 : k.k = 27
    · simp (config := { decide := true }) only [k27, if_true, if_false]
      split
      · exact hm
      · exact (hm.pops 1).todo (tw1 (Tw.e (.inr (tw.t26 (.inr k27)))))
    by_cases k28 : k.k = 28
    · simp (config := { decide := true }) only [k28, if_true, if_false]
      split
      · exact (hm.pops 2).throw _
      · exact (hm.pops 2).push _
    rw [if_neg k1, if_neg k2, if_neg k3, if_neg k4, if_neg k5, if_neg k6, if_neg k7, if_neg k8, if_neg k9, if_neg k10, if_neg k11, if_neg k12, if_neg k13, if_neg k14, if_neg k15, if_neg k16, if_neg k17, if_neg k18, if_neg k19, if_neg k20, if_neg k21, if_neg k22, if_neg k23, if_neg k24, if_neg k25, if_neg k26, if_neg k27, if_neg k28]
    exact hm
theorem MI.inh (h : M.done = none → MI M) : InH M := fun hd k tl ht => by
  have h := h hd
  have cu := h.cu
  rw [ht] at cu
  unfold HK at cu
  refine ⟨fun z => ?_, fun z => ?_⟩
  · rw [if_neg (by omega), if_neg (by omega)] at cu
    obtain ⟨c1, ⟨c2, _⟩, _⟩ := cu
    have e : ar k = (3, 0) := by unfold ar; simp [z]
    rw [e] at c1
    have c1 : 3 ≤ M.th.vals.length := c1
    obtain ⟨_, t1, t2⟩ := c2 (.inr z)
    refine ⟨?_, t2⟩
    show (M.th.vals.getD (M.th.vals.length - 1 - 2) nilV).t = 2
    rw [show M.th.vals.length - 1 - 2 = M.th.vals.length - 3 by omega]
    exact t1
  · rw [if_neg (by omega), if_neg (by omega)] at cu
    obtain ⟨c1, ⟨_, c2, _⟩, _⟩ := cu
    have e : ar k = (2, 0) := by unfold ar; simp [z]
    rw [e] at c1
    have c1 : 2 ≤ M.th.vals.length := c1
    obtain ⟨_, t1, t2⟩ := c2 (.inl z)
    have e1 : M.topM 1 = M.th.vals.getD (M.th.vals.length - 2) nilV := by
      show M.th.vals.getD (M.th.vals.length - 1 - 1) nilV = _
      rw [show M.th.vals.length - 1 - 1 = M.th.vals.length - 2 by omega]
    rw [e1]
    exact ⟨t1, t2⟩
/-- what the loop's task finds -/
theorem MI.h17 (h : MI M) : ∀ k r, M.th.tasks = k :: r → k.k = 17 → (M.topM 2).t = 2 := fun k tl ht z => by
  have cu := h.cu
  rw [ht] at cu
  unfold HK at cu
  rw [if_neg (by omega), if_neg (by omega)] at cu
  obtain ⟨c1, ⟨c2, _⟩, _⟩ := cu
  have e : ar k = (3, 0) := by unfold ar; simp [z]
  rw [e] at c1
  have c1 : 3 ≤ M.th.vals.length := c1
  obtain ⟨_, t1, t2⟩ := c2 (.inr z)
  show (M.th.vals.getD (M.th.vals.length - 1 - 2) nilV).t = 2
  rw [show M.th.vals.length - 1 - 2 = M.th.vals.length - 3 by omega]
  exact t1
/-- all that holds at every step -/
structure MJ (N : List Nd) (root : Nat) (M : MD) : Prop where
  i : M.done = none → MI M
  w : MW N root M
  u : M.done = none → MU M
theorem MJ.step (h : MJ N root M) (hd : M.done = none) : MJ N root (M.step N root) :=
  ⟨fun z => (h.i hd).step h.w (h.u hd) z, h.w.step, fun _ => (h.u hd).step h.w (h.i hd).h17⟩
theorem steps_inv : ∀ (j : Nat) {M : MD}, MJ N root M → MJ N root (stepsM N root j M)
  | 0, M, h => h
  | j + 1, M, h => by
    unfold stepsM
    by_cases hd : M.done.isSome
    · rw [if_pos hd]
      exact h
    · rw [if_neg hd]
      have hd0 : M.done = none := by cases hq : M.done with
        | none => rfl
        | some a => rw [hq] at hd; simp at hd
      exact steps_inv j (h.step hd0)
theorem glob_tb {a b c : Nat} : TbU a b c globals := by
  have key : ∀ (l : List Nat) (t : TabD), (∀ x ∈ l, 1 ≤ x ∧ x ≤ 11) → TbU a b c t → TbU a b c (globL l t) := by
    intro l
    induction l with
    | nil => intro t _ h; exact h
    | cons x l ih =>
      intro t hl h
      have hx := hl x (by simp)
      refine ih _ (fun y hy => hl y (by simp [hy])) (h.put (VKn.str _ _ _ (by have := builtin_len x; omega)) (VKn.of ?_ (show (6 : Int) ≠ 2 by decide) (show (6 : Int) ≠ 4 by decide) (show (6 : Int) ≠ 5 by decide) (show (6 : Int) ≠ 7 by decide)))
      unfold wellV
      simp
      omega
  exact key _ _ (by decide) TbU.nil
theorem glob_tn : TN globals := by
  have key : ∀ (l : List Nat) (t : TabD), TN t → TN (globL l t) := by
    intro l
    induction l with
    | nil => intro t h; exact h
    | cons b l ih => intro t h; exact ih _ (h.put _ _)
  exact key _ _ TN.nil
end
/-- the start of a run -/
theorem start_inv {src : Bs} {N : List Nd} {root : Nat} (hx : treeP src = .inr (N, root)) {A : Int} (hA : A < 9223372036854775808) : MJ N root (startM N root A) := by
  have T := tree_shape hx
  obtain ⟨h0, hl⟩ := tree_zero hx
  obtain ⟨b, l, al', C, hc, hs⟩ := com_ok T h0
  have hroot : StCZ N root false := ⟨l, hc, fun x hx => by obtain ⟨_, _, _, _, _, q⟩ := hs.all x hx; exact ⟨_, _, _, _, _, q⟩⟩
  have B : MI (⟨[globals], [(0, none)], [], [⟨4, 0, 0, [], []⟩], [], 0, A.toNat, 0, [], none⟩ : MD) := by
    refine ⟨fun t ht => ?_, by show 0 < 1; decide, rfl, by simp, rfl, (fun c hc => by cases hc), trivial, fun j T hj hT => ?_⟩
    · have : t = globals := by simpa using ht
      rw [this]
      exact glob_tn
    · exfalso
      have hT : ([⟨4, 0, 0, [], []⟩] : List MTh)[j]? = some T := hT
      have := (List.getElem?_eq_some_iff.1 hT).1
      simp at this
      exact hj this
  have w0 : MW N root (⟨[globals], [(0, none)], [], [⟨4, 0, 0, [], []⟩], [], 0, A.toNat, 0, [], none⟩ : MD) := by
    refine ⟨fun T hT k hk => ?_, fun q hq => ?_, false, hroot⟩
    · have : T = ⟨4, 0, 0, [], []⟩ := by simpa using hT
      rw [this] at hk
      cases hk
    · have : q = (0, none) := by simpa using hq
      rw [this]
      exact .inl rfl
  have u0 : MU (⟨[globals], [(0, none)], [], [⟨4, 0, 0, [], []⟩], [], 0, A.toNat, 0, [], none⟩ : MD) := by
    refine ⟨fun T hT => ?_, fun i e hi => ?_, fun q hq i hi => ?_, fun t ht => ?_, by show 0 < 1; decide, by show 1 ≤ 12; decide, by show 0 < 1; decide, by show 1 ≤ 24; decide, by show 1 ≤ 5; decide, by show 0 ≤ 200; decide, ?_, by show 0 + 0 + 1 ≤ 1; decide⟩
    · have : T = ⟨4, 0, 0, [], []⟩ := by simpa using hT
      rw [this]
      exact ⟨(fun v hv => by cases hv), (fun k hk => by cases hk), by show 0 < 1; decide⟩
    · exfalso
      have hi : ([] : List EnD)[i]? = some e := hi
      cases hi
    · have : q = (0, none) := by simpa using hq
      rw [this] at hi
      cases hi
    · have : t = globals := by simpa using ht
      rw [this]
      exact glob_tb
    · show A.toNat < 9223372036854775808
      omega
  have B1 := B.enter (N := N) (root := root) (T1 := ⟨4, 0, 0, [], []⟩) rfl trivial 0 [] 0
  exact ⟨fun _ => B1, w0.enter 0 [] 0, fun _ => u0.enter 0 (fun v hv => by cases hv) 0⟩
/-- A4: THE INTERPRETER ANSWERS AS THE MACHINE DOES -/
theorem tree_sim {src : Bs} {N : List Nd} {root : Nat} (hx : treeP src = .inr (N, root)) {n : Nat} {A : Int} (hA : A < 9223372036854775808) {an : AnD} (hr : runN n (layP (comP N root)) A = some an) : ∃ n', runM n' N root A = some an :=
  tree_sim0 hx hr fun j => MI.inh (steps_inv j (start_inv hx hA)).i
end Go.Proofs.Qxb6500574aGreatDoor
