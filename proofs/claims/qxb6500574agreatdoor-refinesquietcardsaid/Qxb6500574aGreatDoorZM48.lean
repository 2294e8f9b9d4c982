/-
  moon: WHAT IS TO BE DONE IS PART OF THE TREE. Plain; no memory, no walk.
-/
import Derived.Test.Qxb6500574aGreatDoorZM47
namespace Go.Proofs.Qxb6500574aGreatDoor
set_option linter.unusedVariables false
set_option linter.unusedSimpArgs false
def ExZ (N : List Nd) (n : Nat) : Prop := n = 0 ∨ ExSZ N n
/-- a task's nodes -/
structure Tw (N : List Nd) (k : TkD) : Prop where
  t1 : k.k = 1 → ∃ lp, StCZ N k.n lp
  t2 : k.k = 2 → ExZ N k.n
  t6 : k.k = 6 ∨ k.k = 7 ∨ k.k = 8 → ∃ lp, StCZ N (N.getD k.n nd0).next lp
  t11 : k.k = 11 → ∃ lp, StCZ N (N.getD k.n nd0).b lp ∧ StCZ N (N.getD k.n nd0).c lp
  t12 : k.k = 12 ∨ k.k = 13 ∨ k.k = 14 → ExSZ N (N.getD k.n nd0).a ∧ StCZ N (N.getD k.n nd0).b true
  t15 : k.k = 15 ∨ k.k = 16 ∨ k.k = 17 → StCZ N (N.getD k.n nd0).b true
  t18 : k.k = 18 ∨ k.k = 19 ∨ k.k = 20 → StCZ N (N.getD k.n nd0).c true
  t23 : k.k = 23 → ∃ l, Chain N (N.getD k.n nd0).next l ∧ ∀ x ∈ l, ExSZ N x
  t26 : k.k = 26 ∨ k.k = 27 → ExSZ N (N.getD k.n nd0).b
  t25 : k.k = 25 → 1 ≤ (N.getD k.n nd0).n ∧ (N.getD k.n nd0).n ≤ 3
  t9 : k.k = 9 → ExSZ N k.n ∧ (N.getD k.n nd0).k = 17
  t24 : k.k = 24 → opB (N.getD k.n nd0).n
  t8 : k.k = 8 → k.e ≠ none
/-- a task that asks for nothing -/
theorem Tw.no {N : List Nd} {q n x : Nat} {e : Option Nat} (h : q ≠ 9 ∧ q ≠ 24 ∧ q ≠ 1 ∧ q ≠ 2 ∧ q ≠ 6 ∧ q ≠ 7 ∧ q ≠ 8 ∧ q ≠ 11 ∧ q ≠ 12 ∧ q ≠ 13 ∧ q ≠ 14 ∧ q ≠ 15 ∧ q ≠ 16 ∧ q ≠ 17 ∧ q ≠ 18 ∧ q ≠ 19 ∧ q ≠ 20 ∧ q ≠ 23 ∧ q ≠ 26 ∧ q ≠ 27 ∧ q ≠ 25) : Tw N ⟨q, n, x, e⟩ := by
  constructor <;> intro z <;> (exfalso; have z := z; simp only at z; omega)
theorem Tw.e {N : List Nd} {n x : Nat} {e : Option Nat} (h : ExZ N n) : Tw N ⟨2, n, x, e⟩ := by
  constructor <;> intro z <;> first | exact h | (exfalso; have z := z; simp only at z; omega)
theorem Tw.b {N : List Nd} {n x : Nat} {e : Option Nat} {lp : Bool} (h : StCZ N n lp) : Tw N ⟨1, n, x, e⟩ := by
  constructor <;> intro z <;> first | exact ⟨lp, h⟩ | (exfalso; have z := z; simp only at z; omega)
/-- every task of every thread -/
def AllT (P : TkD → Prop) (M : MD) : Prop := ∀ T ∈ M.ths, ∀ k ∈ T.tasks, P k
section
variable {P : TkD → Prop} {M : MD} {N : List Nd} {root : Nat}
theorem AllT.th (h : AllT P M) : ∀ k ∈ M.th.tasks, P k := by
  unfold MD.th
  rw [List.getD_eq_getElem?_getD]
  cases hq : M.ths[M.cur]? with
  | none => intro k hk; cases hk
  | some T => exact h T (List.mem_of_getElem? hq)
theorem AllT.up (h : AllT P M) {f : MTh → MTh} (hf : ∀ k ∈ (f M.th).tasks, P k) : AllT P (M.upT f) := by
  intro T hT
  rcases List.mem_or_eq_of_mem_set hT with z | z
  · exact h T z
  · rw [z]; exact hf
theorem AllT.push (h : AllT P M) (l : List Vl) : AllT P (M.push l) := h.up (f := fun t => { t with vals := t.vals ++ l }) h.th
theorem AllT.pops (h : AllT P M) (n : Nat) : AllT P (M.pops n) := h.up (f := fun t => { t with vals := t.vals.take (t.vals.length - n) }) h.th
theorem AllT.todo (h : AllT P M) {l : List TkD} (hl : ∀ k ∈ l, P k) : AllT P (M.todo l) := h.up (f := fun t => { t with tasks := l ++ t.tasks }) (fun k hk => by
  rcases List.mem_append.1 hk with z | z
  · exact hl k z
  · exact h.th k z)
theorem AllT.back (h : AllT P M) (ok : Bool) (v : Vl) : AllT P (M.back ok v) := by
  unfold MD.back
  split
  · exact h
  · rename_i c r hs
    have h1 : AllT P ({ M with stack := r, cur := c } : MD) := h
    exact AllT.push (h1.up (f := fun t => { t with st := 4 }) h1.th) _
theorem thrT_sub : ∀ {ts : List TkD} {d : Nat} {r : List TkD} {x e d' : Nat}, thrT ts d = (some (r, x, e), d') → ∀ k ∈ r, k ∈ ts
  | [], _, _, _, _, _, z => by cases z
  | a :: ts, d, r, x, e, d', z => by
    unfold thrT at z
    intro k hk
    split at z
    · split at z
      · cases z; simp [hk]
      · have := thrT_sub z k hk; simp [this]
    · have := thrT_sub z k hk; simp [this]
theorem retT_sub : ∀ {ts : List TkD} {q : TkD} {r : List TkD}, retT ts = some (q, r) → ∀ k ∈ r, k ∈ ts
  | [], _, _, z => by cases z
  | a :: ts, q, r, z => by
    unfold retT at z
    intro k hk
    split at z
    · cases z; simp [hk]
    · have := retT_sub z k hk; simp [this]
theorem brkT_sub : ∀ {ts : List TkD} {q : Nat} {r : List TkD}, brkT ts = some (q, r) → ∀ k ∈ r, k ∈ ts
  | [], _, _, z => by cases z
  | a :: ts, q, r, z => by
    unfold brkT at z
    intro k hk
    split at z
    · cases z; simp [hk]
    · have := brkT_sub z k hk; simp [this]
theorem AllT.throw (h : AllT P M) (v : Vl) : AllT P (M.throw v) := by
  unfold MD.throw
  split
  · rename_i r x d d' hq
    exact h.up (f := fun t => { t with tasks := r, depth := d, vals := t.vals.take x ++ [boolV false, v] }) (fun k hk => h.th k (thrT_sub hq k hk))
  · rename_i d hq
    exact AllT.back (h.up (f := fun t => { t with tasks := [], depth := d, st := 5, vals := [] }) (fun k hk => by cases hk)) _ _
theorem AllT.ret (h : AllT P M) (a b : Vl) : AllT P (M.ret a b) := by
  unfold MD.ret
  split
  · exact h.up (f := fun t => { t with tasks := [] }) (fun k hk => by cases hk)
  · rename_i q r hq
    have h1 : AllT P (M.upT fun t => { t with tasks := r, depth := t.depth - 1, vals := t.vals.take q.x }) := h.up (fun k hk => h.th k (retT_sub hq k hk))
    dsimp only
    split
    · exact AllT.back (h1.up (f := fun t => { t with st := 5 }) h1.th) _ _
    · exact h1.push _
theorem AllT.setT (h : AllT P M) (t k v : Vl) : AllT P (M.setT t k v) := by
  unfold MD.setT
  dsimp only
  split
  · exact h.throw _
  · split
    · exact h
    · split
      · exact h.throw _
      · exact h
theorem AllT.bin (h : AllT P M) (op : Nat) (a b : Vl) : AllT P (M.bin op a b) := by
  unfold MD.bin
  split
  · split
    · exact h.throw _
    · split
      · exact h.throw _
      · exact h.push _
  · split
    · split
      · exact h.throw _
      · exact h.push _
    · split
      · exact h.throw _
      · exact h.push _
theorem AllT.un (h : AllT P M) (op : Nat) (a : Vl) : AllT P (M.un op a) := by
  unfold MD.un
  split
  · exact h.push _
  · split
    · split
      · exact h.throw _
      · exact h.push _
    · split
      · split
        · exact h.push _
        · split
          · exact h.throw _
          · exact h.push _
      · exact h
/-- closures are functions of the tree -/
def ClW (N : List Nd) (M : MD) : Prop := ∀ q ∈ M.clos, q.1 = 0 ∨ (ExSZ N q.1 ∧ (N.getD q.1 nd0).k = 20)
/-- the law -/
structure MW (N : List Nd) (root : Nat) (M : MD) : Prop where
  t : AllT (Tw N) M
  c : ClW N M
  r : ∃ lp, StCZ N root lp
theorem MW.enter (h : MW N root M) (c : Nat) (args : List Vl) (p : Nat) : MW N root (M.enter N root c args p) := by
  refine ⟨?_, h.c, h.r⟩
  unfold MD.enter
  dsimp only
  have hc : (M.clos.getD c (0, none)).1 = 0 ∨ (ExSZ N (M.clos.getD c (0, none)).1 ∧ (N.getD (M.clos.getD c (0, none)).1 nd0).k = 20) := by
    rw [List.getD_eq_getElem?_getD]
    cases hq : M.clos[c]? with
    | none => exact .inl rfl
    | some q => exact h.c q (List.mem_of_getElem? hq)
  have key : AllT (Tw N) (M.upT fun t => { t with depth := t.depth + 1, tasks := ⟨1, if (M.clos.getD c (0, none)).1 = 0 then root else (N.getD (M.clos.getD c (0, none)).1 nd0).b, 0, (bindA N 4 (N.getD (M.clos.getD c (0, none)).1 nd0).a args M.envs (M.clos.getD c (0, none)).2).2⟩ :: ⟨3, p, t.vals.length, none⟩ :: t.tasks }) := by
    refine h.t.up fun k hk => ?_
    rcases List.mem_cons.1 hk with rfl | hk
    · obtain ⟨lp, hr⟩ := h.r
      by_cases z : (M.clos.getD c (0, none)).1 = 0
      · rw [if_pos z]; exact Tw.b hr
      · rw [if_neg z]
        rcases hc with q | ⟨q1, q2⟩
        · exact absurd q z
        · obtain ⟨l, l2, _, _, _, b4, b5⟩ := q1.out.k20 q2
          exact Tw.b (lp := false) ⟨l2, b4, b5⟩
    · rcases List.mem_cons.1 hk with rfl | hk
      · exact Tw.no (by decide)
      · exact h.t.th k hk
  exact key
theorem MW.mk' {M' : MD} (h : MW N root M) (ht : AllT (Tw N) M') (hc : M'.clos = M.clos) : MW N root M' := ⟨ht, by unfold ClW; rw [hc]; exact h.c, h.r⟩
theorem args_ex {l : List Nat} (hl : ∀ y ∈ l, ExSZ N y) (e : Option Nat) : ∀ k ∈ l.map (fun x => (⟨2, x, 0, e⟩ : TkD)), Tw N k := fun k hk => by
  obtain ⟨x, hx, rfl⟩ := List.mem_map.1 hk
  exact Tw.e (.inr (hl x hx))
theorem AllT.call (h : AllT (Tw N) M) {n : Nat} (hE : ExSZ N n) (hk : (N.getD n nd0).k = 19) (e : Option Nat) : AllT (Tw N) (M.call N n e) := by
  unfold MD.call
  dsimp only
  obtain ⟨E1, l, E2, E3, E4⟩ := hE.out.k19 hk
  rw [argsL_eq E2 E3]
  refine h.todo fun k hk => ?_
  rcases List.mem_append.1 hk with z | z
  · rcases List.mem_cons.1 z with rfl | z
    · exact Tw.e (.inr E1)
    · exact args_ex E4 e k z
  · have : k = ⟨22, n, l.length, e⟩ := by simpa using z
    rw [this]
    exact Tw.no (by decide)
theorem AllT.items (h : AllT (Tw N) M) {n i : Nat} {e : Option Nat} {l : List Nat} (hc : Chain N n l) (hl : ∀ y ∈ l, ExSZ N y) : AllT (Tw N) (M.items n i e) := by
  unfold MD.items
  split
  · exact h
  · rename_i hn
    cases l with
    | nil => exact absurd hc hn
    | cons y l =>
      obtain ⟨rfl, c2, c3⟩ := hc
      refine h.todo fun k hk => ?_
      simp only [List.mem_cons, List.not_mem_nil, or_false] at hk
      rcases hk with rfl | rfl
      · exact Tw.e (.inr (hl n (by simp)))
      · constructor <;> intro z <;> first | exact ⟨l, c3, fun x hx => hl x (by simp [hx])⟩ | (exfalso; have z := z; simp only at z; omega)
/-- an expression -/
theorem MW.eval (h : MW N root M) {n x : Nat} (hE : ExZ N n) (e : Option Nat) : MW N root (M.eval N n x e) := by
  unfold MD.eval
  dsimp only
  by_cases n0 : n = 0
  · rw [if_pos n0]; exact h.mk' (h.t.push _) rfl
  rw [if_neg n0]
  have hE : ExSZ N n := hE.resolve_left n0
  have O := hE.out
  by_cases d12 : (N.getD n nd0).k = 12
  · rw [if_pos d12]; exact h.mk' (h.t.push _) rfl
  rw [if_neg d12]
  by_cases d13 : (N.getD n nd0).k = 13
  · rw [if_pos d13]; exact h.mk' (h.t.push _) rfl
  rw [if_neg d13]
  by_cases d14 : (N.getD n nd0).k = 14
  · rw [if_pos d14]; exact h.mk' (h.t.push _) rfl
  rw [if_neg d14]
  by_cases d15 : (N.getD n nd0).k = 15
  · rw [if_pos d15]; exact h.mk' (h.t.push _) rfl
  rw [if_neg d15]
  by_cases d16 : (N.getD n nd0).k = 16
  · rw [if_pos d16]; exact h.mk' (h.t.push _) rfl
  rw [if_neg d16]
  by_cases d17 : (N.getD n nd0).k = 17
  · rw [if_pos d17]
    cases M.find e (N.getD n nd0).s with
    | some i => exact h.mk' (h.t.push _) rfl
    | none => exact h.mk' (h.t.push _) rfl
  rw [if_neg d17]
  by_cases d18 : (N.getD n nd0).k = 18
  · rw [if_pos d18]
    obtain ⟨E1, E2⟩ := O.k18 d18
    refine h.mk' (h.t.todo fun k hk => ?_) rfl
    simp only [List.mem_cons, List.not_mem_nil, or_false] at hk
    rcases hk with rfl | rfl | rfl
    · exact Tw.e (.inr E1)
    · exact Tw.e (.inr E2)
    · exact Tw.no (by decide)
  rw [if_neg d18]
  by_cases d19 : (N.getD n nd0).k = 19
  · rw [if_pos d19]
    refine h.mk' (AllT.call (h.t.todo fun k hk => ?_) hE d19 e) rfl
    simp only [List.mem_cons, List.not_mem_nil, or_false] at hk
    rw [hk]
    exact Tw.no (by decide)
  rw [if_neg d19]
  by_cases d20 : (N.getD n nd0).k = 20
  · rw [if_pos d20]
    split
    · exact h.mk' h.t rfl
    · refine ⟨(h.t.push _ : AllT (Tw N) _), fun q hq => ?_, h.r⟩
      rcases List.mem_append.1 hq with z | z
      · exact h.c q z
      · have : q = (n, e) := by simpa using z
        rw [this]
        exact .inr ⟨hE, d20⟩
  rw [if_neg d20]
  by_cases d21 : (N.getD n nd0).k = 21
  · rw [if_pos d21]
    obtain ⟨l, E1, E2⟩ := O.k21 d21
    split
    · exact h.mk' h.t rfl
    · have q : AllT (Tw N) ({ M.push [⟨4, M.tabs.length, []⟩] with tabs := M.tabs ++ [tab0] } : MD) := (h.t.push _ : AllT (Tw N) _)
      refine h.mk' (q.items E1 E2) ?_
      unfold MD.items
      split <;> rfl
  rw [if_neg d21]
  by_cases d22 : (N.getD n nd0).k = 22
  · rw [if_pos d22]
    obtain ⟨E0, E1, E2⟩ := O.k22 d22
    refine h.mk' (h.t.todo fun k hk => ?_) rfl
    simp only [List.mem_cons, List.not_mem_nil, or_false] at hk
    rcases hk with rfl | rfl | rfl
    · exact Tw.e (.inr E1)
    · exact Tw.e (.inr E2)
    · constructor <;> intro z <;> first | exact E0 | (exfalso; have z := z; simp only at z; omega)
  rw [if_neg d22]
  by_cases d23 : (N.getD n nd0).k = 23
  · rw [if_pos d23]
    obtain ⟨E0, E1⟩ := O.k23 d23
    refine h.mk' (h.t.todo fun k hk => ?_) rfl
    simp only [List.mem_cons, List.not_mem_nil, or_false] at hk
    rcases hk with rfl | rfl
    · exact Tw.e (.inr E1)
    · constructor <;> intro z <;> first | exact E0 | (exfalso; have z := z; simp only at z; omega)
  rw [if_neg d23]
  by_cases d24 : (N.getD n nd0).k = 24
  · rw [if_pos d24]
    obtain ⟨E1, E2⟩ := O.k24 (.inl d24)
    refine h.mk' (h.t.todo fun k hk => ?_) rfl
    simp only [List.mem_cons, List.not_mem_nil, or_false] at hk
    rcases hk with rfl | rfl
    · exact Tw.e (.inr E1)
    · constructor <;> intro z <;> first | exact E2 | (exfalso; have z := z; simp only at z; omega)
  rw [if_neg d24]
  by_cases d25 : (N.getD n nd0).k = 25
  · rw [if_pos d25]
    obtain ⟨E1, E2⟩ := O.k24 (.inr d25)
    refine h.mk' (h.t.todo fun k hk => ?_) rfl
    simp only [List.mem_cons, List.not_mem_nil, or_false] at hk
    rcases hk with rfl | rfl
    · exact Tw.e (.inr E1)
    · constructor <;> intro z <;> first | exact E2 | (exfalso; have z := z; simp only at z; omega)
  rw [if_neg d25]
  exact h
end
end Go.Proofs.Qxb6500574aGreatDoor
