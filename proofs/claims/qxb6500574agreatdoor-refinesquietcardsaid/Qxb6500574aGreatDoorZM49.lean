/-
  moon: WHAT IS TO BE DONE IS PART OF THE TREE, continued. Plain; no memory, no walk.
-/
import Derived.Test.Qxb6500574aGreatDoorZM48
namespace Go.Proofs.Qxb6500574aGreatDoor
set_option linter.unusedVariables false
set_option linter.unusedSimpArgs false
section
variable {M : MD} {N : List Nd} {root : Nat}
theorem StCZ.open {n : Nat} {lp : Bool} (h : StCZ N n lp) (hn : n ≠ 0) : StS N n lp ∧ StCZ N (N.getD n nd0).next lp := by
  obtain ⟨l, c, hs⟩ := h
  cases l with
  | nil => exact absurd c hn
  | cons y l =>
    obtain ⟨rfl, c2, c3⟩ := c
    exact ⟨hs n (by simp), l, c3, fun x hx => hs x (by simp [hx])⟩
theorem MW.stmt (h : MW N root M) {n : Nat} {lp : Bool} (hS : StCZ N n lp) (hn : n ≠ 0) (e : Option Nat) : MW N root (M.stmt N n e) := by
  obtain ⟨S1, S2⟩ := hS.open hn
  have O := S1.out
  unfold MD.stmt
  dsimp only
  have nx : ∀ k ∈ [(⟨1, (N.getD n nd0).next, 0, e⟩ : TkD)], Tw N k := fun k hk => by
    have : k = ⟨1, (N.getD n nd0).next, 0, e⟩ := by simpa using hk
    rw [this]
    exact Tw.b S2
  have t6 : ∀ {q x : Nat} {u : Option Nat}, q = 6 ∨ q = 7 ∨ q = 8 → (q = 8 → u ≠ none) → Tw N ⟨q, n, x, u⟩ := fun {q x u} hq h8 => by
    constructor <;> intro z <;> first | exact ⟨lp, S2⟩ | exact h8 z | (exfalso; have z := z; simp only at z; omega)
  by_cases d1 : (N.getD n nd0).k = 1
  · rw [if_pos d1]
    obtain ⟨_, E1⟩ := O.k1 d1
    by_cases a0 : (N.getD n nd0).a ≠ 0
    · rw [if_pos a0]
      refine h.mk' (h.t.todo fun k hk => ?_) rfl
      simp only [List.mem_cons, List.not_mem_nil, or_false] at hk
      rcases hk with rfl | rfl
      · exact Tw.e E1
      · exact t6 (by simp) (by simp)
    · rw [if_neg a0]
      refine h.mk' (AllT.push (h.t.todo fun k hk => ?_) _) rfl
      simp only [List.mem_cons, List.not_mem_nil, or_false] at hk
      rw [hk]
      exact t6 (by simp) (by simp)
  rw [if_neg d1]
  by_cases d2 : (N.getD n nd0).k = 2
  · rw [if_pos d2]
    obtain ⟨_, E1, E2⟩ := O.k2 d2
    refine h.mk' (AllT.call (h.t.todo fun k hk => ?_) E2 E1 e) rfl
    simp only [List.mem_cons, List.not_mem_nil, or_false] at hk
    rw [hk]
    exact t6 (by simp) (by simp)
  rw [if_neg d2]
  by_cases d3 : (N.getD n nd0).k = 3
  · rw [if_pos d3]
    obtain ⟨_, _, E2⟩ := O.k3 d3
    have q : AllT (Tw N) (M.todo [⟨2, (N.getD n nd0).a, 0, some M.envs.length⟩, ⟨8, n, 0, some M.envs.length⟩]) := h.t.todo fun k hk => by
      simp only [List.mem_cons, List.not_mem_nil, or_false] at hk
      rcases hk with rfl | rfl
      · exact Tw.e (.inr E2)
      · exact t6 (by simp) (by simp)
    exact h.mk' q rfl
  rw [if_neg d3]
  have hN : AllT (Tw N) (M.todo [⟨1, (N.getD n nd0).next, 0, e⟩]) := h.t.todo nx
  by_cases d4 : (N.getD n nd0).k = 4
  · rw [if_pos d4]
    obtain ⟨K1, E1, E2⟩ := O.k4 d4
    by_cases a17 : (N.getD (N.getD n nd0).a nd0).k = 17
    · rw [if_pos a17]
      refine h.mk' (hN.todo fun k hk => ?_) rfl
      simp only [List.mem_cons, List.not_mem_nil, or_false] at hk
      rcases hk with rfl | rfl
      · exact Tw.e (.inr E2)
      · constructor <;> intro z <;> first | exact ⟨E1, a17⟩ | (exfalso; have z := z; simp only at z; omega)
    · rw [if_neg a17]
      obtain ⟨F1, F2⟩ := E1.out.k18 (K1.resolve_left a17)
      refine h.mk' (hN.todo fun k hk => ?_) rfl
      simp only [List.mem_cons, List.not_mem_nil, or_false] at hk
      rcases hk with rfl | rfl | rfl | rfl
      · exact Tw.e (.inr F1)
      · exact Tw.e (.inr F2)
      · exact Tw.e (.inr E2)
      · exact Tw.no (by decide)
  rw [if_neg d4]
  by_cases d5 : (N.getD n nd0).k = 5
  · rw [if_pos d5]
    obtain ⟨_, E1⟩ := O.k5 d5
    refine h.mk' (hN.todo fun k hk => ?_) rfl
    simp only [List.mem_cons, List.not_mem_nil, or_false] at hk
    rcases hk with rfl | rfl
    · exact Tw.e (.inr E1)
    · exact Tw.no (by decide)
  rw [if_neg d5]
  by_cases d6 : (N.getD n nd0).k = 6
  · rw [if_pos d6]
    obtain ⟨E1, F1, F2⟩ := O.k6 d6
    refine h.mk' (hN.todo fun k hk => ?_) rfl
    simp only [List.mem_cons, List.not_mem_nil, or_false] at hk
    rcases hk with rfl | rfl
    · exact Tw.e (.inr E1)
    · constructor <;> intro z <;> first | exact ⟨lp, F1, F2⟩ | (exfalso; have z := z; simp only at z; omega)
  rw [if_neg d6]
  by_cases d7 : (N.getD n nd0).k = 7
  · rw [if_pos d7]
    obtain ⟨E1, F1⟩ := O.k7 d7
    refine h.mk' (hN.todo fun k hk => ?_) rfl
    simp only [List.mem_cons, List.not_mem_nil, or_false] at hk
    rcases hk with rfl | rfl
    · constructor <;> intro z <;> first | exact ⟨E1, F1⟩ | (exfalso; have z := z; simp only at z; omega)
    · exact Tw.no (by decide)
  rw [if_neg d7]
  by_cases d8 : (N.getD n nd0).k = 8
  · rw [if_pos d8]
    obtain ⟨_, ⟨l0, O2, O2l, O2e⟩, F1⟩ := O.k8 d8
    obtain ⟨E1, E2, E3⟩ : ExSZ N (N.getD n nd0).a ∧ ExSZ N (N.getD (N.getD n nd0).a nd0).next ∧ ((N.getD (N.getD (N.getD n nd0).a nd0).next nd0).next ≠ 0 → ExSZ N (N.getD (N.getD (N.getD n nd0).a nd0).next nd0).next) := by
      cases l0 with
      | nil => simp at O2l
      | cons y1 l0 =>
        cases l0 with
        | nil => simp at O2l
        | cons y2 l0 =>
          obtain ⟨c1, _, c2, _, c3⟩ := O2
          refine ⟨by rw [c1]; exact O2e y1 (by simp), by rw [c1, c2]; exact O2e y2 (by simp), fun z => ?_⟩
          rw [c1, c2] at z ⊢
          cases l0 with
          | nil => exact absurd c3 z
          | cons y3 l0 =>
            rw [c3.1]
            exact O2e y3 (by simp)
    refine h.mk' (hN.todo fun k hk => ?_) rfl
    simp only [List.mem_cons, List.not_mem_nil, or_false] at hk
    rcases hk with rfl | rfl | rfl | rfl | rfl
    · exact Tw.e (.inr E1)
    · exact Tw.e (.inr E2)
    · split
      · rename_i z
        exact Tw.e (.inr (E3 z))
      · exact Tw.e (.inl rfl)
    · constructor <;> intro z <;> first | exact F1 | (exfalso; have z := z; simp only at z; omega)
    · exact Tw.no (by decide)
  rw [if_neg d8]
  by_cases d9 : (N.getD n nd0).k = 9
  · rw [if_pos d9]
    obtain ⟨_, E1, F1⟩ := O.k9 d9
    refine h.mk' (hN.todo fun k hk => ?_) rfl
    simp only [List.mem_cons, List.not_mem_nil, or_false] at hk
    rcases hk with rfl | rfl | rfl
    · exact Tw.e (.inr E1)
    · constructor <;> intro z <;> first | exact F1 | (exfalso; have z := z; simp only at z; omega)
    · exact Tw.no (by decide)
  rw [if_neg d9]
  by_cases d10 : (N.getD n nd0).k = 10
  · rw [if_pos d10]
    obtain ⟨E1, E2⟩ := O.k10 d10
    refine h.mk' (hN.todo fun k hk => ?_) rfl
    simp only [List.mem_cons, List.not_mem_nil, or_false] at hk
    rcases hk with rfl | rfl | rfl
    · exact Tw.e E1
    · exact Tw.e E2
    · exact Tw.no (by decide)
  rw [if_neg d10]
  by_cases d11 : (N.getD n nd0).k = 11
  · rw [if_pos d11]
    cases hb : brkT (M.todo [⟨1, (N.getD n nd0).next, 0, e⟩]).th.tasks with
    | none =>
      dsimp only
      exact h.mk' (hN.up (f := fun t => { t with tasks := [] }) (fun k hk => by cases hk)) rfl
    | some p =>
      obtain ⟨x, r⟩ := p
      dsimp only
      exact h.mk' (hN.up (f := fun t => { t with tasks := r, vals := t.vals.take x }) (fun k hk => hN.th k (brkT_sub hb k hk))) rfl
  · rw [if_neg d11]
    exact h.mk' hN rfl
theorem clos_throw (M : MD) (v : Vl) : (M.throw v).clos = M.clos := by
  unfold MD.throw
  split
  · rfl
  · unfold MD.back
    split <;> rfl
theorem MW.throw (h : MW N root M) (v : Vl) : MW N root (M.throw v) := h.mk' (h.t.throw v) (clos_throw M v)
theorem MW.setT (h : MW N root M) (t k v : Vl) : MW N root (M.setT t k v) := by
  refine h.mk' (h.t.setT t k v) ?_
  unfold MD.setT
  dsimp only
  split
  · exact clos_throw _ _
  · split
    · rfl
    · split
      · exact clos_throw _ _
      · rfl
theorem MW.ret (h : MW N root M) (a b : Vl) : MW N root (M.ret a b) := by
  refine h.mk' (h.t.ret a b) ?_
  unfold MD.ret
  split
  · rfl
  · dsimp only
    split
    · unfold MD.back
      split <;> rfl
    · rfl
theorem MW.apl (h : MW N root M) (fn : Vl) (args : List Vl) : MW N root (aplC N root M fn args) := by
  have two : ∀ l, MW N root (M.push l) := fun l => h.mk' (h.t.push l) rfl
  unfold aplC
  dsimp only
  by_cases f5 : fn.t = 5
  · rw [if_pos f5]
    split
    · exact h.throw _
    · exact h.enter _ _ _
  rw [if_neg f5]
  by_cases f6 : fn.t ≠ 6
  · rw [if_pos f6]; exact h.throw _
  rw [if_neg f6]
  by_cases n1 : fn.n = 1
  · rw [if_pos n1]
    split
    · exact h.mk' h.t rfl
    · exact h.mk' (AllT.push (M := { M with out := _ }) h.t _) rfl
  rw [if_neg n1]
  by_cases n2 : fn.n = 2
  · rw [if_pos n2]; exact two _
  rw [if_neg n2]
  by_cases n3 : fn.n = 3
  · rw [if_pos n3]; exact two _
  rw [if_neg n3]
  by_cases n4 : fn.n = 4
  · rw [if_pos n4]; exact two _
  rw [if_neg n4]
  by_cases n5 : fn.n = 5
  · rw [if_pos n5]; exact h.throw _
  rw [if_neg n5]
  by_cases n6 : fn.n = 6
  · rw [if_pos n6]
    split
    · exact two _
    · split
      · exact two _
      · exact h.enter _ _ _
  rw [if_neg n6]
  by_cases n7 : fn.n = 7
  · rw [if_pos n7]
    split
    · exact h.throw _
    · cases (M.tabs.getD (args.getD 0 nilV).n tab0).next (args.getD 1 nilV) with
      | none => exact h.throw _
      | some r => exact two _
  rw [if_neg n7]
  by_cases n8 : fn.n = 8
  · rw [if_pos n8]
    split
    · exact h.throw _
    · split
      · exact h.mk' h.t rfl
      · have q : AllT (Tw N) ({ M with ths := M.ths ++ [⟨1, (args.getD 0 nilV).n, 0, [], []⟩] } : MD) := fun T hT k hk => by
          rcases List.mem_append.1 hT with z | z
          · exact h.t T z k hk
          · have : T = ⟨1, (args.getD 0 nilV).n, 0, [], []⟩ := by simpa using z
            rw [this] at hk
            cases hk
        exact h.mk' (q.push _) rfl
  rw [if_neg n8]
  by_cases n9 : fn.n = 9
  · rw [if_pos n9]
    split
    · exact h.throw _
    · split
      · exact two _
      · have q1 : AllT (Tw N) (M.upT fun t => { t with st := 3 }) := h.t.up h.t.th
        have q2 : AllT (Tw N) ({ (M.upT fun t => { t with st := 3 }) with stack := M.cur :: M.stack, cur := (args.getD 0 nilV).n } : MD) := q1
        have q3 := q2.up (f := fun t => { t with st := 4 }) q2.th
        split
        · have q4 : MW N root ({ (({ (M.upT fun t => { t with st := 3 }) with stack := M.cur :: M.stack, cur := (args.getD 0 nilV).n } : MD).upT fun t => { t with st := 4 }) with first := M.first + 1 } : MD) := h.mk' q3 rfl
          exact q4.enter _ _ _
        · exact h.mk' (q3.push _) rfl
  rw [if_neg n9]
  by_cases n10 : fn.n = 10
  · rw [if_pos n10]
    split
    · exact h.throw _
    · cases M.stack with
      | nil => exact h
      | cons c r =>
        dsimp only
        have q1 : AllT (Tw N) (M.upT fun t => { t with st := 2 }) := h.t.up h.t.th
        have q2 : AllT (Tw N) ({ (M.upT fun t => { t with st := 2 }) with stack := r, cur := c } : MD) := q1
        have q3 := q2.up (f := fun t => { t with st := 4 }) q2.th
        exact h.mk' (q3.push _) rfl
  rw [if_neg n10]
  by_cases n11 : fn.n = 11
  · rw [if_pos n11]
    split
    · exact h.throw _
    · exact two _
  rw [if_neg n11]
  exact two _
end
end Go.Proofs.Qxb6500574aGreatDoor
