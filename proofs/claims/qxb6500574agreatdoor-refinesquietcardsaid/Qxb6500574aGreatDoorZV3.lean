/-
  moon: THE INTERPRETER's OWN STATE: how many tasks there are, at every step. Plain; no memory, no walk.
-/
import Derived.Test.Qxb6500574aGreatDoorZM53
namespace Go.Proofs.Qxb6500574aGreatDoor
set_option linter.unusedVariables false
set_option linter.unusedSimpArgs false
/-- a task's numbers -/
structure TkX (N : List Nd) (k : TkD) : Prop where
  r : 1 ≤ k.k ∧ k.k ≤ 28
  n : k.k ≠ 3 → k.n < N.length
  x2 : k.k = 22 → k.x ≤ 3
  x3 : k.k = 23 → k.x ≤ k.n
theorem TkX.no {N : List Nd} {q n x : Nat} {e : Option Nat} (h1 : 1 ≤ q ∧ q ≤ 28) (h2 : q ≠ 22 ∧ q ≠ 23) (hn : n < N.length) : TkX N ⟨q, n, x, e⟩ := ⟨h1, fun _ => hn, fun z => absurd z h2.1, fun z => absurd z h2.2⟩
theorem ft_app (a b : List TkD) : ft (a ++ b) = ft a + ft b := List.countP_append ..
theorem last_app2 {p r : List TkD} (hr : r ≠ []) : (p ++ r).getLast? = r.getLast? := by
  rw [List.getLast?_append]
  cases r with
  | nil => exact absurd rfl hr
  | cons a r => rw [List.getLast?_cons]; rfl
theorem HT.suf {N : List Nd} : ∀ {a b : List TkD}, HT N (a ++ b) → HT N b
  | [], _, h => h
  | _ :: a, b, h => HT.suf (a := a) h.2
/-- a thread's tasks -/
structure TV (N : List Nd) (T : MTh) : Prop where
  h : HT N T.tasks
  d : ft T.tasks ≤ T.depth
  d8 : T.depth ≤ 8
  l : ∀ k, T.tasks.getLast? = some k → k.k = 3 ∧ k.n = 0 ∧ k.x = 0
  z : T.tasks = [] → T.vals = []
  k : ∀ k ∈ T.tasks, TkX N k
  s : T.st = 1 → T.tasks = [] ∧ T.depth = 0
def MV (N : List Nd) (M : MD) : Prop := ∀ T ∈ M.ths, TV N T
section
variable {N : List Nd} {root : Nat} {M m m' : MD} {T : MTh} {k : TkD} {r l : List TkD} {L : Nat}
theorem TV.vals (h : TV N T) (hr : T.tasks ≠ []) (vs : List Vl) : TV N { T with vals := vs } := ⟨h.h, h.d, h.d8, h.l, fun z => absurd z hr, h.k, h.s⟩
theorem TV.st (h : TV N T) {s : Nat} (hs : s ≠ 1) : TV N { T with st := s } := ⟨h.h, h.d, h.d8, h.l, h.z, h.k, fun z => absurd z hs⟩
theorem TV.nil (s f : Nat) : TV N ⟨s, f, 0, [], []⟩ := ⟨trivial, Nat.le_refl _, Nat.zero_le _, (fun k hk => by cases hk), fun _ => rfl, (fun k hk => by cases hk), fun _ => ⟨rfl, rfl⟩⟩
/-- a part of the tasks -/
theorem TV.suf (h : TV N T) {p r : List TkD} (e : T.tasks = p ++ r) (hr : r ≠ []) (vs : List Vl) {d : Nat} (h1 : ft r ≤ d) (h2 : d ≤ 8) : TV N { T with tasks := r, depth := d, vals := vs } := by
  have hh := h.h
  have hl := h.l
  have hk := h.k
  rw [e] at hh hl hk
  refine ⟨hh.suf, h1, h2, fun k hk => hl k ?_, fun z => absurd z hr, fun k hq => hk k (by simp [hq]), fun z => ?_⟩
  · rw [last_app2 hr]
    exact hk
  · have := (h.s z).1
    rw [e] at this
    exact absurd (List.append_eq_nil_iff.1 this).2 hr
theorem TV.todo (h : TV N T) (hr : T.tasks ≠ []) (hf : FitsZ N l L) (hL : L + T.tasks.length ≤ capC N * ft T.tasks) (hx : ∀ k ∈ l, TkX N k) : TV N { T with tasks := l ++ T.tasks } := by
  refine ⟨HT.app hf h.h hL, ?_, h.d8, fun k hk => h.l k ?_, fun z => ?_, fun k hk => ?_, fun z => absurd (h.s z).1 hr⟩
  · show ft (l ++ T.tasks) ≤ T.depth
    rw [hf.ft]
    exact h.d
  · have hk : (l ++ T.tasks).getLast? = some k := hk
    rw [last_app2 hr] at hk
    exact hk
  · have z : l ++ T.tasks = [] := z
    exact absurd (List.append_eq_nil_iff.1 z).2 hr
  · rcases List.mem_append.1 hk with z | z
    · exact hx k z
    · exact h.k k z
theorem MV.me (h : MV N M) : TV N M.th := by
  unfold MD.th
  rw [List.getD_eq_getElem?_getD]
  cases hq : M.ths[M.cur]? with
  | none => exact TV.nil _ _
  | some T => exact h T (List.mem_of_getElem? hq)
theorem MV.to (h : MV N M) (e : m'.ths = M.ths) : MV N m' := by unfold MV; rw [e]; exact h
theorem MV.up (h : MV N M) {f : MTh → MTh} (hT : TV N (f M.th)) : MV N (M.upT f) := fun T z => by
  have z : T ∈ M.ths.set M.cur (f M.th) := z
  rcases List.mem_or_eq_of_mem_set z with z | z
  · exact h T z
  · rw [z]; exact hT
theorem tt_in (h : M.th.tasks ≠ []) : M.cur < M.ths.length := Decidable.byContradiction fun z => by
  have : M.th = mt0 := by unfold MD.th; rw [List.getD_eq_getElem?_getD, List.getElem?_eq_none (by omega)]; rfl
  rw [this] at h
  exact h rfl
theorem up_th (hc : M.cur < M.ths.length) (f : MTh → MTh) : (M.upT f).th = f M.th := by
  unfold MD.upT MD.th
  simp [List.getD_eq_getElem?_getD, hc]
theorem up_in (f : MTh → MTh) (h : (M.upT f).th.tasks ≠ []) : M.cur < M.ths.length := by
  have := tt_in h
  have e : (M.upT f).ths.length = M.ths.length := List.length_set ..
  rw [e] at this
  exact this
theorem MV.push (h : MV N M) (vs : List Vl) (ht : (M.push vs).th.tasks ≠ []) : MV N (M.push vs) := by
  have hc := up_in _ ht
  unfold MD.push at ht
  rw [up_th hc] at ht
  exact h.up (f := fun t => { t with vals := t.vals ++ vs }) (h.me.vals ht _)
theorem MV.back (h : MV N M) (ok : Bool) (v : Vl) (ht : (M.back ok v).th.tasks ≠ []) : MV N (M.back ok v) := by
  unfold MD.back at ht ⊢
  split at ht
  · exact h.to rfl
  · rename_i c r e
    have h1 : MV N ({ M with stack := r, cur := c } : MD) := h.to rfl
    have h2 := h1.up (f := fun t => { t with st := 4 }) (h1.me.st (by decide))
    exact h2.push _ ht
theorem thr_suf : ∀ {ts : List TkD} {d : Nat} {r : List TkD} {x e d' : Nat}, thrT ts d = (some (r, x, e), d') → ft ts ≤ d → ∃ p k, ts = (p ++ [k]) ++ r ∧ k.k = 3 ∧ k.n = 1 ∧ e + ft ts = d + ft r
  | [], _, _, _, _, _, z, _ => by cases z
  | a :: ts, d, r, x, e, d', z, hd => by
    unfold thrT at z
    rw [ft_cons] at hd ⊢
    by_cases h3 : a.k = 3
    · rw [if_pos h3] at z hd ⊢
      by_cases h1 : a.n = 1
      · rw [if_pos h1] at z
        cases z
        exact ⟨[], a, rfl, h3, h1, by omega⟩
      · rw [if_neg h1] at z
        obtain ⟨p, k, q1, q2, q3, q4⟩ := thr_suf z (by omega)
        exact ⟨a :: p, k, by rw [q1]; rfl, q2, q3, by omega⟩
    · rw [if_neg h3] at z hd ⊢
      obtain ⟨p, k, q1, q2, q3, q4⟩ := thr_suf z (by omega)
      exact ⟨a :: p, k, by rw [q1]; rfl, q2, q3, by omega⟩
theorem thr_none : ∀ {ts : List TkD} {d d' : Nat}, thrT ts d = (none, d') → d' = d - ft ts
  | [], d, d', z => by cases z; rfl
  | a :: ts, d, d', z => by
    unfold thrT at z
    rw [ft_cons]
    by_cases h3 : a.k = 3
    · rw [if_pos h3] at z ⊢
      by_cases h1 : a.n = 1
      · rw [if_pos h1] at z; cases z
      · rw [if_neg h1] at z
        rw [thr_none z]
        omega
    · rw [if_neg h3] at z ⊢
      exact thr_none z
theorem ret_suf : ∀ {ts : List TkD} {k : TkD} {r : List TkD}, retT ts = some (k, r) → ∃ p, ts = (p ++ [k]) ++ r ∧ ft ts = 1 + ft r
  | [], _, _, z => by cases z
  | a :: ts, k, r, z => by
    unfold retT at z
    rw [ft_cons]
    by_cases h3 : a.k = 3
    · rw [if_pos h3] at z ⊢
      cases z
      exact ⟨[], rfl, by omega⟩
    · rw [if_neg h3] at z ⊢
      obtain ⟨p, q1, q2⟩ := ret_suf z
      exact ⟨a :: p, by rw [q1]; rfl, by omega⟩
theorem brk_suf : ∀ {ts : List TkD} {x : Nat} {r : List TkD}, brkT ts = some (x, r) → ∃ p k, ts = (p ++ [k]) ++ r ∧ k.k = 4
  | [], _, _, z => by cases z
  | a :: ts, x, r, z => by
    unfold brkT at z
    by_cases h4 : a.k = 4
    · rw [if_pos h4] at z
      cases z
      exact ⟨[], a, rfl, h4⟩
    · rw [if_neg h4] at z
      obtain ⟨p, k, q1, q2⟩ := brk_suf z
      exact ⟨a :: p, k, by rw [q1]; rfl, q2⟩
theorem last_app {p : List TkD} {k : TkD} : ((p ++ [k]) ++ []).getLast? = some k := by simp
theorem MV.throw (h : MV N M) (v : Vl) (ht : (M.throw v).th.tasks ≠ []) : MV N (M.throw v) := by
  have hm := h.me
  unfold MD.throw at ht ⊢
  cases hq : thrT M.th.tasks M.th.depth with
  | mk o d =>
    rw [hq] at ht
    cases o with
    | none =>
      dsimp only at ht ⊢
      have hd := thr_none hq
      have d8 := hm.d8
      have h1 : MV N (M.upT fun t => { t with tasks := [], depth := d, st := 5, vals := [] }) := h.up (f := fun t => { t with tasks := [], depth := d, st := 5, vals := [] }) ⟨trivial, Nat.zero_le _, by show d ≤ 8; omega, (fun k hk => by cases hk), fun _ => rfl, (fun k hk => by cases hk), (fun z => by cases z)⟩
      exact h1.back _ _ ht
    | some y =>
      obtain ⟨r, x, e⟩ := y
      dsimp only at ht ⊢
      obtain ⟨p, k, q1, q2, q3, q4⟩ := thr_suf hq hm.d
      have hr : r ≠ [] := fun z => by
        rw [z] at q1
        have := hm.l k (by rw [q1]; exact last_app)
        omega
      have hd := hm.d
      have d8 := hm.d8
      have fr : ft M.th.tasks = ft (p ++ [k]) + ft r := by rw [q1, ft_app]
      exact h.up (f := fun t => { t with tasks := r, depth := e, vals := t.vals.take x ++ [boolV false, v] }) (hm.suf q1 hr _ (by omega) (by omega))
theorem MV.ret (h : MV N M) (a b : Vl) (ht : (M.ret a b).th.tasks ≠ []) : MV N (M.ret a b) := by
  have hm := h.me
  unfold MD.ret at ht ⊢
  cases hq : retT M.th.tasks with
  | none =>
    rw [hq] at ht
    dsimp only at ht
    exfalso
    have hc := up_in _ ht
    rw [up_th hc] at ht
    exact ht rfl
  | some y =>
    obtain ⟨k, r⟩ := y
    rw [hq] at ht
    dsimp only at ht ⊢
    obtain ⟨p, q1, q2⟩ := ret_suf hq
    have hd := hm.d
    have d8 := hm.d8
    by_cases hr : r = []
    · rw [if_pos hr] at ht ⊢
      have hk := hm.l k (by rw [q1, hr]; exact last_app)
      have h1 : MV N (M.upT fun t => { t with tasks := r, depth := t.depth - 1, vals := t.vals.take k.x }) := h.up (f := fun t => { t with tasks := r, depth := t.depth - 1, vals := t.vals.take k.x }) (by
        rw [hr, hk.2.2, List.take_zero]
        refine ⟨trivial, Nat.zero_le _, by show M.th.depth - 1 ≤ 8; omega, (fun k hk => by cases hk), fun _ => rfl, (fun k hk => by cases hk), fun z => ⟨rfl, ?_⟩⟩
        have := (hm.s z).2
        show M.th.depth - 1 = 0
        omega)
      exact (h1.up (f := fun t => { t with st := 5 }) (h1.me.st (by decide))).back _ _ ht
    · rw [if_neg hr] at ht ⊢
      have h1 : MV N (M.upT fun t => { t with tasks := r, depth := t.depth - 1, vals := t.vals.take k.x }) := h.up (f := fun t => { t with tasks := r, depth := t.depth - 1, vals := t.vals.take k.x }) (hm.suf q1 hr _ (by show ft r ≤ M.th.depth - 1; omega) (by show M.th.depth - 1 ≤ 8; omega))
      exact h1.push _ ht
/-- a function's body is of the tree -/
structure BdZ (N : List Nd) (root : Nat) (M : MD) : Prop where
  r : CBz N root (N.length - 1) ∧ root < N.length
  c : ∀ q ∈ M.clos, q.1 ≠ 0 → CBz N (N.getD q.1 nd0).b (N.length - 1) ∧ (N.getD q.1 nd0).b < N.length
theorem MV.enter (h : MV N M) (B : BdZ N root M) (c : Nat) (args : List Vl) (p : Nat) (hd : M.th.depth < 8) (hp : M.th.tasks = [] → p = 0) (hs : M.th.st ≠ 1) : MV N (M.enter N root c args p) := by
  have hm := h.me
  unfold MD.enter
  dsimp only
  generalize (bindA N 4 (N.getD (M.clos.getD c (0, none)).1 nd0).a args M.envs (M.clos.getD c (0, none)).2) = R
  obtain ⟨body, hb⟩ : ∃ body, (if (M.clos.getD c (0, none)).1 = 0 then root else (N.getD (M.clos.getD c (0, none)).1 nd0).b) = body := ⟨_, rfl⟩
  rw [hb]
  have bz : CBz N body (N.length - 1) ∧ body < N.length := by
    rw [← hb]
    by_cases z : (M.clos.getD c (0, none)).1 = 0
    · rw [if_pos z]; exact B.r
    · rw [if_neg z]
      have hg : ∀ q, M.clos.getD c (0, none) = q → q.1 ≠ 0 → CBz N (N.getD q.1 nd0).b (N.length - 1) ∧ (N.getD q.1 nd0).b < N.length := fun q e hz => by
        rw [List.getD_eq_getElem?_getD] at e
        cases hq : M.clos[c]? with
        | none => rw [hq] at e; rw [← e] at hz; exact absurd rfl hz
        | some q' =>
          rw [hq] at e
          have e : q' = q := e
          rw [← e] at hz ⊢
          exact B.c q' (List.mem_of_getElem? hq) hz
      exact hg _ rfl z
  have len : M.th.tasks.length ≤ capC N * ft M.th.tasks := by
    by_cases z : M.th.tasks = []
    · rw [z]; simp
    · exact hm.h.len z
  have f3 : ft (⟨3, p, M.th.vals.length, none⟩ :: M.th.tasks) = ft M.th.tasks + 1 := by rw [ft_cons]; rfl
  have f1 : ft (⟨1, body, 0, R.2⟩ :: ⟨3, p, M.th.vals.length, none⟩ :: M.th.tasks) = ft M.th.tasks + 1 := by rw [ft_cons, f3]; rfl
  have key : TV N { M.th with depth := M.th.depth + 1, tasks := ⟨1, body, 0, R.2⟩ :: ⟨3, p, M.th.vals.length, none⟩ :: M.th.tasks } := by
    refine ⟨⟨⟨8 * (N.length - 1) + 8, Lk.b bz.1 (Nat.le_refl _), ?_⟩, ⟨⟨1, Lk.no (Nat.le_refl _) (by decide), ?_⟩, hm.h⟩⟩, ?_, hd, fun k hk => ?_, (fun z => by cases z), fun k hk => ?_, fun z => absurd z hs⟩
    · rw [f1, Nat.mul_add]
      simp only [List.length_cons]
      unfold capC at len ⊢
      omega
    · rw [f3, Nat.mul_add]
      unfold capC at len ⊢
      omega
    · show ft (⟨1, body, 0, R.2⟩ :: ⟨3, p, M.th.vals.length, none⟩ :: M.th.tasks) ≤ M.th.depth + 1
      have := hm.d
      rw [f1]
      omega
    · by_cases z : M.th.tasks = []
      · have hk : (⟨1, body, 0, R.2⟩ :: ⟨3, p, M.th.vals.length, none⟩ :: M.th.tasks : List TkD).getLast? = some k := hk
        rw [z] at hk
        have hk : k = ⟨3, p, M.th.vals.length, none⟩ := by simpa using hk.symm
        rw [hk, hm.z z]
        exact ⟨rfl, hp z, rfl⟩
      · refine hm.l k ?_
        have hk : ([⟨1, body, 0, R.2⟩, ⟨3, p, M.th.vals.length, none⟩] ++ M.th.tasks : List TkD).getLast? = some k := hk
        rw [last_app2 z] at hk
        exact hk
    · rcases List.mem_cons.1 hk with e | hk
      · rw [e]; exact TkX.no (by decide) (by decide) bz.2
      · rcases List.mem_cons.1 hk with e | hk
        · rw [e]
          exact ⟨(show 1 ≤ 3 ∧ 3 ≤ 28 by decide), fun z => absurd rfl z, (fun z => by cases z), (fun z => by cases z)⟩
        · exact hm.k k hk
  have h2 := h.up (f := fun t => { t with depth := t.depth + 1, tasks := ⟨1, body, 0, R.2⟩ :: ⟨3, p, t.vals.length, none⟩ :: t.tasks }) key
  exact h2.to rfl
/-- a task has been taken: room for what it brings -/
structure RM (N : List Nd) (m : MD) (L : Nat) : Prop where
  v : MV N m
  c : m.cur < m.ths.length
  t : m.th.tasks ≠ []
  l : L + m.th.tasks.length ≤ capC N * ft m.th.tasks
theorem RM.to (h : RM N m L) (e : m'.ths = m.ths) (e2 : m'.cur = m.cur) : RM N m' L := by
  have et : m'.th = m.th := by unfold MD.th; rw [e, e2]
  exact ⟨h.v.to e, by rw [e, e2]; exact h.c, by rw [et]; exact h.t, by rw [et]; exact h.l⟩
theorem RM.up (h : RM N m L) {f : MTh → MTh} (e : (f m.th).tasks = m.th.tasks) (hd : (f m.th).depth = m.th.depth) (hs : (f m.th).st = 1 → m.th.st = 1) : RM N (m.upT f) L := by
  refine ⟨h.v.up ?_, by rw [show (m.upT f).ths.length = m.ths.length from List.length_set ..]; exact h.c, by rw [up_th h.c, e]; exact h.t, by rw [up_th h.c, e]; exact h.l⟩
  have hm := h.v.me
  exact ⟨by rw [e]; exact hm.h, by rw [e, hd]; exact hm.d, by rw [hd]; exact hm.d8, by rw [e]; exact hm.l, fun z => absurd (e.symm.trans z) h.t, by rw [e]; exact hm.k, fun z => absurd (hm.s (hs z)).1 h.t⟩
theorem RM.pops (h : RM N m L) (n : Nat) : RM N (m.pops n) L := h.up rfl rfl id
theorem RM.push (h : RM N m L) (l : List Vl) : RM N (m.push l) L := h.up rfl rfl id
theorem RM.todo (h : RM N m L) (hf : FitsZ N l L) (hx : ∀ k ∈ l, TkX N k) : MV N (m.todo l) := h.v.up (f := fun t => { t with tasks := l ++ t.tasks }) (h.v.me.todo h.t hf h.l hx)
theorem todo2Z (hc : m.cur < m.ths.length) (a b : List TkD) : (m.todo a).todo b = m.todo (b ++ a) := by
  unfold MD.todo MD.upT MD.th
  simp [List.getD_eq_getElem?_getD, hc, List.append_assoc]
/-- the top task goes -/
theorem MV.take (h : MV N M) (ht : M.th.tasks = k :: r) (h3 : k.k ≠ 3) : ∃ L, Lk N k L ∧ RM N (M.upT fun t => { t with tasks := r }) L ∧ TkX N k := by
  have hm := h.me
  have hh := hm.h
  rw [ht] at hh
  obtain ⟨L, l1, l2⟩ := hh.1
  have hr : r ≠ [] := fun z => by
    have := hm.l k (by rw [ht, z]; rfl)
    exact h3 this.1
  have hc := tt_in (M := M) (by rw [ht]; simp)
  have fe : ft (k :: r) = ft r := by rw [ft_cons, if_neg h3]; rfl
  have hd := hm.d
  rw [ht, fe] at hd
  refine ⟨L, l1, ⟨h.up (f := fun t => { t with tasks := r }) ?_, by rw [show (M.upT fun t => { t with tasks := r }).ths.length = M.ths.length from List.length_set ..]; exact hc, by rw [up_th hc]; exact hr, ?_⟩, hm.k k (by rw [ht]; simp)⟩
  · exact hm.suf (p := [k]) (r := r) ht hr M.th.vals hd hm.d8
  · rw [up_th hc]
    show L + r.length ≤ capC N * ft r
    rw [← fe]
    exact l2
end
end Go.Proofs.Qxb6500574aGreatDoor
