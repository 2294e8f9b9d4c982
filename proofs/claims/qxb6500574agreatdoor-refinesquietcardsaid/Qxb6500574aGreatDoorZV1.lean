/-
  moon: THE INTERPRETER's OWN STATE: values whose references are there, at every step. Plain; no memory, no walk.
-/
import Derived.Test.Qxb6500574aGreatDoorZI1
namespace Go.Proofs.Qxb6500574aGreatDoor
set_option linter.unusedVariables false
set_option linter.unusedSimpArgs false
section
variable {a b c ne : Nat} {v k : Vl}
theorem VKn.of {v : Vl} (w : wellV v = true) (h2 : v.t ≠ 2) (h4 : v.t ≠ 4) (h5 : v.t ≠ 5) (h7 : v.t ≠ 7) : VKn a b c v := ⟨w, fun z => absurd z h2, fun z => absurd z h4, fun z => absurd z h5, fun z => absurd z h7⟩
theorem vk_getD {l : List Vl} (h : ∀ v ∈ l, VKn a b c v) (i : Nat) : VKn a b c (l.getD i nilV) := by
  rw [List.getD_eq_getElem?_getD]
  cases hq : l[i]? with
  | none => exact VKn.nil _ _ _
  | some v => exact h v (List.mem_of_getElem? hq)
theorem VKn.one (h : VKn a b c k) : VKn a b c (oneV k).1 := by
  by_cases z : k.t = 2
  · rw [one_norm h.w h.n]
    have e := norm_t k
    exact ⟨norm_well h.w, norm_b h.n, fun q => by omega, fun q => by omega, fun q => by omega⟩
  · have e : (oneV k).1 = k := by unfold oneV; rw [if_pos z]
    rw [e]
    exact h
theorem VKn.big (h : VKn a b c v) (ha : a ≤ 12) (hb : b ≤ 24) (hc : c ≤ 5) : v.n < 18446744073709551616 := by
  have w := h.w
  by_cases h2 : v.t = 2
  · exact h.n h2
  by_cases h4 : v.t = 4
  · have := h.t h4; omega
  by_cases h5 : v.t = 5
  · have := h.f h5; omega
  by_cases h7 : v.t = 7
  · have := h.c h7; omega
  unfold wellV at w
  by_cases h3 : v.t = 3
  · simp [h3] at w; omega
  · rw [if_neg h3] at w
    by_cases hs : v.s ≠ [] ∨ v.t < 0 ∨ v.t > 7
    · rw [if_pos hs] at w; cases w
    · rw [if_neg hs] at w
      by_cases h0 : v.t = 0
      · rw [if_pos h0] at w; simp at w; omega
      · rw [if_neg h0] at w
        by_cases h1 : v.t = 1
        · rw [if_pos h1] at w; simp at w; omega
        · rw [if_neg h1] at w
          have h6 : v.t = 6 := by omega
          rw [if_pos h6] at w
          simp at w
          omega
theorem VKn.text (h : VKn a b c v) (ha : a ≤ 12) (hb : b ≤ 24) (hc : c ≤ 5) : (textV v).length ≤ 40 := by
  have h2 := fmt_len v.n (h.big ha hb hc)
  have h3 := builtin_len v.n
  have h4 := type_len v
  have h5 := utoa_len v.n
  have h6 : v.t = 3 → v.s.length ≤ 40 := fun z => by
    have w := h.w
    unfold wellV at w
    rw [if_pos z] at w
    simp at w
    exact w.2
  unfold textV
  repeat' split
  all_goals first
    | omega
    | (simp only [List.length_append, List.length_cons, List.length_nil]; omega)
    | (rename_i z; have := h6 z; omega)
/-- a table: its index is sound, its values are there -/
structure TbU (a b c : Nat) (t : TabD) : Prop where
  ti : TTi t
  v : ∀ p ∈ t.order, VKn a b c p.1 ∧ VKn a b c p.2
theorem TbU.mono {a' b' c' : Nat} {t : TabD} (h : TbU a b c t) (ha : a ≤ a') (hb : b ≤ b') (hc : c ≤ c') : TbU a' b' c' t := ⟨h.ti, fun p hp => ⟨(h.v p hp).1.mono ha hb hc, (h.v p hp).2.mono ha hb hc⟩⟩
theorem TbU.nil : TbU a b c tab0 := ⟨TTi.nil, fun p hp => by simp [tab0] at hp⟩
theorem TbU.at {t : TabD} (h : TbU a b c t) (p : Nat) : VKn a b c (t.order.getD p (nilV, nilV)).1 ∧ VKn a b c (t.order.getD p (nilV, nilV)).2 := by
  rw [List.getD_eq_getElem?_getD]
  cases hq : t.order[p]? with
  | none => exact ⟨VKn.nil _ _ _, VKn.nil _ _ _⟩
  | some e => exact h.v e (List.mem_of_getElem? hq)
theorem TbU.get {t : TabD} (h : TbU a b c t) (k : Vl) : VKn a b c (t.get k) := by
  unfold TabD.get
  dsimp only
  split
  · exact VKn.nil _ _ _
  · exact (h.at _).2
theorem TbU.nextP {t : TabD} (h : TbU a b c t) (p : Nat) : VKn a b c (t.nextP p).1 ∧ VKn a b c (t.nextP p).2 := by
  unfold TabD.nextP
  cases hq : (t.order.drop p).find? (fun e => !isNilV e.2) with
  | none => exact ⟨VKn.nil _ _ _, VKn.nil _ _ _⟩
  | some e => exact h.v e (List.mem_of_mem_drop (List.mem_of_find?_eq_some hq))
theorem TbU.next {t : TabD} (h : TbU a b c t) {k : Vl} {r : Vl × Vl} (e : t.next k = some r) : VKn a b c r.1 ∧ VKn a b c r.2 := by
  unfold TabD.next at e
  split at e
  · cases e
  · split at e
    · cases e
      exact h.nextP _
    · dsimp only at e
      split at e
      · cases e
      · cases e
        exact h.nextP _
theorem TbU.put {t : TabD} (h : TbU a b c t) {k v : Vl} (hk : VKn a b c k) (hv : VKn a b c v) : TbU a b c (t.put k v).2 := by
  refine ⟨h.ti.put k v hk.n, fun p hp => ?_⟩
  rcases (h.ti.f.put k v hk.n).2 p hp with z | ⟨_, _, z, q⟩
  · exact h.v p z
  · refine ⟨?_, by rw [z]; exact hv⟩
    rcases q with ⟨y, hy⟩ | q
    · exact (h.v _ hy).1
    · rw [q]
      exact hk.one
/-- a thread: its values are there, its tasks' variables too -/
structure TU (a b c ne : Nat) (T : MTh) : Prop where
  v : ∀ v ∈ T.vals, VKn a b c v
  k : ∀ k ∈ T.tasks, ∀ i, k.e = some i → i < ne
  f : T.fn < b
theorem TU.mono {a' b' c' ne' : Nat} {T : MTh} (h : TU a b c ne T) (ha : a ≤ a') (hb : b ≤ b') (hc : c ≤ c') (hn : ne ≤ ne') : TU a' b' c' ne' T := ⟨fun v hv => (h.v v hv).mono ha hb hc, fun k hk i hi => Nat.lt_of_lt_of_le (h.k k hk i hi) hn, Nat.lt_of_lt_of_le h.f hb⟩
end
abbrev VM (M : MD) (v : Vl) : Prop := VKn M.tabs.length M.clos.length M.ths.length v
/-- so many threads have not begun -/
def frs (l : List MTh) : Nat := l.countP (fun T => decide (T.st = 1))
/-- the interpreter: values and references -/
structure MU (M : MD) : Prop where
  th : ∀ T ∈ M.ths, TU M.tabs.length M.clos.length M.ths.length M.envs.length T
  en : ∀ (i : Nat) (e : EnD), M.envs[i]? = some e → VM M e.v ∧ ∀ j, e.up = some j → j < i
  cl : ∀ q ∈ M.clos, ∀ i, q.2 = some i → i < M.envs.length
  tb : ∀ t ∈ M.tabs, TbU M.tabs.length M.clos.length M.ths.length t
  t0 : 0 < M.tabs.length
  t12 : M.tabs.length ≤ 12
  c0 : 0 < M.clos.length
  c24 : M.clos.length ≤ 24
  h5 : M.ths.length ≤ 5
  ou : M.out.length ≤ 200
  fu : M.fuel < 9223372036854775808
  fi : M.first + frs M.ths + 1 ≤ M.ths.length
section
variable {N : List Nd} {root : Nat} {M M' : MD}
theorem MU.me (h : MU M) : TU M.tabs.length M.clos.length M.ths.length M.envs.length M.th := by
  unfold MD.th
  rw [List.getD_eq_getElem?_getD]
  cases hq : M.ths[M.cur]? with
  | none => exact ⟨(fun v hv => by cases hv), (fun k hk => by cases hk), h.c0⟩
  | some T => exact h.th T (List.mem_of_getElem? hq)
theorem MU.any (h : MU M) (j : Nat) : TU M.tabs.length M.clos.length M.ths.length M.envs.length (M.ths.getD j mt0) := by
  rw [List.getD_eq_getElem?_getD]
  cases hq : M.ths[j]? with
  | none => exact ⟨(fun v hv => by cases hv), (fun k hk => by cases hk), h.c0⟩
  | some T => exact h.th T (List.mem_of_getElem? hq)
theorem MU.top (h : MU M) (i : Nat) : VM M (M.topM i) := vk_getD h.me.v _
theorem MU.tab (h : MU M) (n : Nat) : TbU M.tabs.length M.clos.length M.ths.length (M.tabs.getD n tab0) := by
  rw [List.getD_eq_getElem?_getD]
  cases hq : M.tabs[n]? with
  | none => exact TbU.nil
  | some t => exact h.tb t (List.mem_of_getElem? hq)
/-- nothing of it has turned but stack, cur, done, fuel -/
theorem MU.to (h : MU M) (h1 : M'.tabs = M.tabs) (h2 : M'.clos = M.clos) (h3 : M'.envs = M.envs) (h4 : M'.ths = M.ths) (h5 : M'.out = M.out) (h6 : M'.fuel ≤ M.fuel) (h7 : M'.first = M.first) : MU M' := by
  refine ⟨?_, ?_, ?_, ?_, ?_, ?_, ?_, ?_, ?_, ?_, ?_, ?_⟩
  · rw [h1, h2, h3, h4]; exact h.th
  · unfold VM; rw [h1, h2, h3, h4]; exact h.en
  · rw [h2, h3]; exact h.cl
  · rw [h1, h2, h4]; exact h.tb
  · rw [h1]; exact h.t0
  · rw [h1]; exact h.t12
  · rw [h2]; exact h.c0
  · rw [h2]; exact h.c24
  · rw [h4]; exact h.h5
  · rw [h5]; exact h.ou
  · have := h.fu; omega
  · rw [h4, h7]; exact h.fi
theorem frs_set {l : List MTh} {i : Nat} {T x : MTh} (hi : l[i]? = some T) (h : x.st = 1 → T.st = 1) : frs (l.set i x) ≤ frs l := by
  induction l generalizing i with
  | nil => cases hi
  | cons y l ih =>
    cases i with
    | zero =>
      have e : y = T := by simpa using hi
      subst e
      unfold frs
      rw [List.set_cons_zero, List.countP_cons, List.countP_cons]
      by_cases z : x.st = 1
      · simp [z, h z]
      · simp [z]
    | succ i =>
      have := ih (i := i) (by simpa using hi)
      unfold frs at this ⊢
      rw [List.set_cons_succ, List.countP_cons, List.countP_cons]
      omega
/-- the thread at hand has turned -/
theorem MU.up (h : MU M) {f : MTh → MTh} (hT : TU M.tabs.length M.clos.length M.ths.length M.envs.length (f M.th)) (hs : (f M.th).st = 1 → M.th.st = 1) : MU (M.upT f) := by
  have el : (M.upT f).ths.length = M.ths.length := List.length_set ..
  refine ⟨fun T z => ?_, fun i e hi => ?_, h.cl, fun t ht => ?_, h.t0, h.t12, h.c0, h.c24, ?_, h.ou, h.fu, ?_⟩
  · rw [el]
    have z : T ∈ M.ths.set M.cur (f M.th) := z
    rcases List.mem_or_eq_of_mem_set z with z | z
    · exact h.th T z
    · rw [z]; exact hT
  · unfold VM; rw [el]; exact h.en i e hi
  · rw [el]; exact h.tb t ht
  · rw [el]; exact h.h5
  · rw [el]
    have fi := h.fi
    show M.first + frs (M.ths.set M.cur (f M.th)) + 1 ≤ _
    by_cases hc : M.cur < M.ths.length
    · have := frs_set (l := M.ths) (x := f M.th) (show M.ths[M.cur]? = some M.th by unfold MD.th; rw [List.getD_eq_getElem?_getD, List.getElem?_eq_getElem hc]; rfl) hs
      omega
    · rw [List.set_eq_of_length_le (by omega)]
      exact fi
theorem MU.push (h : MU M) {l : List Vl} (hl : ∀ v ∈ l, VM M v) : MU (M.push l) := h.up (f := fun t => { t with vals := t.vals ++ l }) ⟨fun v hv => by
  rcases List.mem_append.1 hv with z | z
  · exact h.me.v v z
  · exact hl v z, h.me.k, h.me.f⟩ id
theorem MU.push1 (h : MU M) {v : Vl} (hv : VM M v) : MU (M.push [v]) := h.push fun u hu => by
  have : u = v := by simpa using hu
  rw [this]; exact hv
theorem MU.push2 (h : MU M) {v v' : Vl} (hv : VM M v) (hv' : VM M v') : MU (M.push [v, v']) := h.push fun u hu => by
  simp only [List.mem_cons, List.not_mem_nil, or_false] at hu
  rcases hu with z | z
  · rw [z]; exact hv
  · rw [z]; exact hv'
theorem MU.pops (h : MU M) (n : Nat) : MU (M.pops n) := h.up (f := fun t => { t with vals := t.vals.take (t.vals.length - n) }) ⟨fun v hv => h.me.v v (List.mem_of_mem_take hv), h.me.k, h.me.f⟩ id
theorem MU.todo (h : MU M) {l : List TkD} (hl : ∀ k ∈ l, ∀ i, k.e = some i → i < M.envs.length) : MU (M.todo l) := h.up (f := fun t => { t with tasks := l ++ t.tasks }) ⟨h.me.v, fun k hk => by
  rcases List.mem_append.1 hk with z | z
  · exact hl k z
  · exact h.me.k k z, h.me.f⟩ id
theorem MU.tasks (h : MU M) {l : List TkD} (hl : ∀ k ∈ l, k ∈ M.th.tasks) : MU (M.upT fun t => { t with tasks := l }) := h.up (f := fun t => { t with tasks := l }) ⟨h.me.v, fun k hk => h.me.k k (hl k hk), h.me.f⟩ id
theorem MU.finish (h : MU M) (e : Nat) (t : Bs) : MU (M.finish e t) := h.to rfl rfl rfl rfl rfl (Nat.le_refl _) rfl
theorem MU.burn (h : MU M) {f : MD → MD} (hf : ∀ q : MD, MU q → q.tabs = M.tabs → q.clos = M.clos → q.envs = M.envs → q.ths = M.ths → q.cur = M.cur → MU (f q)) : MU (M.burn f) := by
  unfold MD.burn
  split
  · exact h.finish _ _
  · exact hf _ (h.to rfl rfl rfl rfl rfl (Nat.sub_le _ _) rfl) rfl rfl rfl rfl rfl
theorem MU.back (h : MU M) (ok : Bool) {v : Vl} (hv : VM M v) : MU (M.back ok v) := by
  unfold MD.back
  split
  · exact h.finish _ _
  · rename_i c r _
    have h1 : MU ({ M with stack := r, cur := c } : MD) := h.to rfl rfl rfl rfl rfl (Nat.le_refl _) rfl
    have h2 : MU (({ M with stack := r, cur := c } : MD).upT fun t => { t with st := 4 }) := h1.up (f := fun t => { t with st := 4 }) ⟨h1.me.v, h1.me.k, h1.me.f⟩ (fun z => by cases z)
    have el : (({ M with stack := r, cur := c } : MD).upT fun t => { t with st := 4 }).ths.length = M.ths.length := List.length_set ..
    refine h2.push2 (VKn.bool _ _ _ _) ?_
    unfold VM
    rw [el]
    exact hv
theorem MU.throw (h : MU M) {v : Vl} (hv : VM M v) : MU (M.throw v) := by
  unfold MD.throw
  split
  · rename_i r x d _ hq
    refine h.up (f := fun t => { t with tasks := r, depth := d, vals := t.vals.take x ++ [boolV false, v] }) ⟨fun u hu => ?_, fun k hk => h.me.k k (thrT_sub hq k hk), h.me.f⟩ id
    rcases List.mem_append.1 hu with z | z
    · exact h.me.v u (List.mem_of_mem_take z)
    · simp only [List.mem_cons, List.not_mem_nil, or_false] at z
      rcases z with z | z
      · rw [z]; exact VKn.bool _ _ _ _
      · rw [z]; exact hv
  · rename_i d hq
    have h1 : MU (M.upT fun t => { t with tasks := [], depth := d, st := 5, vals := [] }) := h.up (f := fun t => { t with tasks := [], depth := d, st := 5, vals := [] }) ⟨(fun u hu => by cases hu), (fun k hk => by cases hk), h.me.f⟩ (fun z => by cases z)
    have el : (M.upT fun t => { t with tasks := [], depth := d, st := 5, vals := [] }).ths.length = M.ths.length := List.length_set ..
    refine h1.back false ?_
    unfold VM
    rw [el]
    exact hv
theorem MU.raise (h : MU M) {s : Bs} (hs : s.length ≤ 40) : MU (M.raise s) := h.throw (VKn.str _ _ _ hs)
theorem MU.ret (h : MU M) {a b : Vl} (ha : VM M a) (hb : VM M b) : MU (M.ret a b) := by
  unfold MD.ret
  split
  · exact h.tasks fun k hk => by cases hk
  · rename_i k r hq
    have h1 : MU (M.upT fun t => { t with tasks := r, depth := t.depth - 1, vals := t.vals.take k.x }) := h.up (f := fun t => { t with tasks := r, depth := t.depth - 1, vals := t.vals.take k.x }) ⟨fun u hu => h.me.v u (List.mem_of_mem_take hu), fun q hk => h.me.k q (retT_sub hq q hk), h.me.f⟩ id
    have el : (M.upT fun t => { t with tasks := r, depth := t.depth - 1, vals := t.vals.take k.x }).ths.length = M.ths.length := List.length_set ..
    dsimp only
    split
    · have h2 : MU ((M.upT fun t => { t with tasks := r, depth := t.depth - 1, vals := t.vals.take k.x }).upT fun t => { t with st := 5 }) := h1.up (f := fun t => { t with st := 5 }) ⟨h1.me.v, h1.me.k, h1.me.f⟩ (fun z => by cases z)
      have e2 : ((M.upT fun t => { t with tasks := r, depth := t.depth - 1, vals := t.vals.take k.x }).upT fun t => { t with st := 5 }).ths.length = M.ths.length := (List.length_set ..).trans el
      refine h2.back true ?_
      unfold VM
      rw [e2]
      exact ha
    · split
      · refine h1.push2 (VKn.bool _ _ _ _) ?_
        unfold VM; rw [el]; exact ha
      · refine h1.push2 ?_ ?_
        · unfold VM; rw [el]; exact ha
        · unfold VM; rw [el]; exact hb
/-- one more variable -/
theorem MU.env (h : MU M) {e : EnD} (hv : VM M e.v) (hu : ∀ j, e.up = some j → j < M.envs.length) : MU { M with envs := M.envs ++ [e] } := by
  have el : (M.envs ++ [e]).length = M.envs.length + 1 := by simp
  refine ⟨fun T hT => (h.th T hT).mono (Nat.le_refl _) (Nat.le_refl _) (Nat.le_refl _) (by show _ ≤ (M.envs ++ [e]).length; omega), fun i d hd => ?_, fun q hq i hi => ?_, h.tb, h.t0, h.t12, h.c0, h.c24, h.h5, h.ou, h.fu, h.fi⟩
  · have hd : (M.envs ++ [e])[i]? = some d := hd
    by_cases hi : i < M.envs.length
    · rw [List.getElem?_append_left hi] at hd
      exact h.en i d hd
    · have hi2 : i = M.envs.length := by
        have := (List.getElem?_eq_some_iff.1 hd).1
        omega
      subst hi2
      have : d = e := by simpa using hd.symm
      rw [this]
      exact ⟨hv, hu⟩
  · have := h.cl q hq i hi
    show i < (M.envs ++ [e]).length
    omega
theorem MU.env2 (h : MU M) {e e' : EnD} (hv : VM M e.v) (hu : ∀ j, e.up = some j → j < M.envs.length) (hv' : VM M e'.v) (hu' : e'.up = some M.envs.length) : MU { M with envs := M.envs ++ [e, e'] } := by
  have h2 := (h.env hv hu).env (e := e') hv' (fun j hj => by
    rw [hu'] at hj
    have : j = M.envs.length := (Option.some.inj hj).symm
    show j < (M.envs ++ [e]).length
    simp [this])
  have e0 : ({ ({ M with envs := M.envs ++ [e] } : MD) with envs := (M.envs ++ [e]) ++ [e'] } : MD) = { M with envs := M.envs ++ [e, e'] } := by simp
  rw [← e0]
  exact h2
theorem MU.setE (h : MU M) (i : Nat) {v : Vl} (hv : VM M v) : MU { M with envs := M.envs.set i { M.envs.getD i en0 with v := v } } := by
  have el : (M.envs.set i { M.envs.getD i en0 with v := v }).length = M.envs.length := List.length_set ..
  refine ⟨fun T hT => (h.th T hT).mono (Nat.le_refl _) (Nat.le_refl _) (Nat.le_refl _) (by show _ ≤ (M.envs.set i _).length; omega), fun j d hd => ?_, fun q hq j hj => ?_, h.tb, h.t0, h.t12, h.c0, h.c24, h.h5, h.ou, h.fu, h.fi⟩
  · have hd : (M.envs.set i { M.envs.getD i en0 with v := v })[j]? = some d := hd
    by_cases e : i = j
    · subst e
      have hl : i < M.envs.length := by have := (List.getElem?_eq_some_iff.1 hd).1; omega
      rw [List.getElem?_set_self hl] at hd
      cases hd
      have hg : M.envs[i]? = some (M.envs.getD i en0) := by rw [List.getD_eq_getElem?_getD, List.getElem?_eq_getElem hl]; rfl
      exact ⟨hv, (h.en i _ hg).2⟩
    · rw [List.getElem?_set_ne e] at hd
      exact h.en j d hd
  · have := h.cl q hq j hj
    show j < (M.envs.set i _).length
    omega
theorem MU.envAt (h : MU M) (i : Nat) : VM M (M.envs.getD i en0).v := by
  rw [List.getD_eq_getElem?_getD]
  cases hq : M.envs[i]? with
  | none => exact VKn.nil _ _ _
  | some e => exact (h.en i e hq).1
/-- parameters -/
theorem MU.bind : ∀ (k p : Nat) (args : List Vl) {M : MD} (e : Option Nat), MU M → (∀ v ∈ args, VM M v) → (∀ j, e = some j → j < M.envs.length) →
    MU { M with envs := (bindA N k p args M.envs e).1 } ∧ (∀ j, (bindA N k p args M.envs e).2 = some j → j < (bindA N k p args M.envs e).1.length)
  | 0, p, args, M, e, h, ha, he => ⟨h.to rfl rfl rfl rfl rfl (Nat.le_refl _) rfl, he⟩
  | k + 1, p, args, M, e, h, ha, he => by
    unfold bindA
    by_cases hp : p = 0
    · rw [if_pos hp]
      exact ⟨h.to rfl rfl rfl rfl rfl (Nat.le_refl _) rfl, he⟩
    · rw [if_neg hp]
      have hv : VM M (args.headD nilV) := by
        cases args with
        | nil => exact VKn.nil _ _ _
        | cons v l => exact ha v (by simp)
      have h1 := h.env (e := ⟨(N.getD p nd0).s, args.headD nilV, e⟩) hv he
      exact MU.bind k _ args.tail (some M.envs.length) h1 (fun v hv => ha v (List.mem_of_mem_tail hv)) (fun j hj => by
        have : j = M.envs.length := (Option.some.inj hj).symm
        show j < (M.envs ++ [_]).length
        simp [this])
theorem MU.enter (h : MU M) (cl : Nat) {args : List Vl} (ha : ∀ v ∈ args, VM M v) (p : Nat) : MU (M.enter N root cl args p) := by
  unfold MD.enter
  dsimp only
  have hq : ∀ i, (M.clos.getD cl (0, none)).2 = some i → i < M.envs.length := by
    rw [List.getD_eq_getElem?_getD]
    cases hq : M.clos[cl]? with
    | none => intro i hi; cases hi
    | some q => exact h.cl q (List.mem_of_getElem? hq)
  obtain ⟨b1, b2⟩ := MU.bind (N := N) 4 (N.getD (M.clos.getD cl (0, none)).1 nd0).a args (M.clos.getD cl (0, none)).2 h ha hq
  generalize bindA N 4 (N.getD (M.clos.getD cl (0, none)).1 nd0).a args M.envs (M.clos.getD cl (0, none)).2 = R at b1 b2 ⊢
  have b3 := b1.up (f := fun t => { t with depth := t.depth + 1, tasks := ⟨1, if (M.clos.getD cl (0, none)).1 = 0 then root else (N.getD (M.clos.getD cl (0, none)).1 nd0).b, 0, R.2⟩ :: ⟨3, p, t.vals.length, none⟩ :: t.tasks }) ⟨b1.me.v, fun k hk i hi => by
    rcases List.mem_cons.1 hk with z | hk
    · rw [z] at hi
      exact b2 i hi
    · rcases List.mem_cons.1 hk with z | hk
      · rw [z] at hi; cases hi
      · exact b1.me.k k hk i hi, b1.me.f⟩ id
  exact b3
theorem MU.call (h : MU M) (n : Nat) {e : Option Nat} (he : ∀ i, e = some i → i < M.envs.length) : MU (M.call N n e) := by
  unfold MD.call
  dsimp only
  refine h.todo fun k hk i hi => ?_
  rcases List.mem_append.1 hk with z | z
  · rcases List.mem_cons.1 z with z | z
    · rw [z] at hi; exact he i hi
    · obtain ⟨x, _, rfl⟩ := List.mem_map.1 z
      exact he i hi
  · have : k = ⟨22, n, (argsL N 3 (N.getD n nd0).b).length, e⟩ := by simpa using z
    rw [this] at hi; exact he i hi
theorem MU.items (h : MU M) (n i : Nat) {e : Option Nat} (he : ∀ i, e = some i → i < M.envs.length) : MU (M.items n i e) := by
  unfold MD.items
  split
  · exact h
  · refine h.todo fun k hk i hi => ?_
    simp only [List.mem_cons, List.not_mem_nil, or_false] at hk
    rcases hk with z | z <;> rw [z] at hi <;> exact he i hi
/-- tasks that name e or nothing -/
theorem tk_e {l : List TkD} {e : Option Nat} {n : Nat} (he : ∀ i, e = some i → i < n) (h : ∀ k ∈ l, k.e = e ∨ k.e = none) : ∀ k ∈ l, ∀ i, k.e = some i → i < n := fun k hk i hi => by
  rcases h k hk with z | z
  · rw [z] at hi; exact he i hi
  · rw [z] at hi; cases hi
theorem th_len (M : MD) (f : MTh → MTh) : (M.upT f).ths.length = M.ths.length := List.length_set ..
theorem MU.stmt (h : MU M) (n : Nat) {e : Option Nat} (he : ∀ i, e = some i → i < M.envs.length) : MU (M.stmt N n e) := by
  have td : ∀ {M : MD} {l : List TkD}, MU M → (∀ i, e = some i → i < M.envs.length) → (∀ k ∈ l, k.e = e ∨ k.e = none) → MU (M.todo l) := fun {M l} h he hl => h.todo (tk_e he hl)
  unfold MD.stmt
  dsimp only
  by_cases d1 : (N.getD n nd0).k = 1
  · rw [if_pos d1]
    split
    · exact td h he (by simp)
    · exact (td h he (by simp)).push1 (VKn.nil _ _ _)
  rw [if_neg d1]
  by_cases d2 : (N.getD n nd0).k = 2
  · rw [if_pos d2]
    exact (td h he (l := [⟨7, n, 0, e⟩]) (by simp)).call _ he
  rw [if_neg d2]
  by_cases d3 : (N.getD n nd0).k = 3
  · rw [if_pos d3]
    have h1 := h.env (e := ⟨(N.getD n nd0).s, nilV, e⟩) (VKn.nil _ _ _) he
    refine h1.todo (l := [⟨2, (N.getD n nd0).a, 0, some M.envs.length⟩, ⟨8, n, 0, some M.envs.length⟩]) fun k hk i hi => ?_
    simp only [List.mem_cons, List.not_mem_nil, or_false] at hk
    have : i = M.envs.length := by rcases hk with z | z <;> rw [z] at hi <;> exact (Option.some.inj hi).symm
    show i < (M.envs ++ [_]).length
    simp [this]
  rw [if_neg d3]
  have hm := td h he (l := [⟨1, (N.getD n nd0).next, 0, e⟩]) (by simp)
  have he2 : ∀ i, e = some i → i < (M.todo [⟨1, (N.getD n nd0).next, 0, e⟩]).envs.length := he
  generalize M.todo [⟨1, (N.getD n nd0).next, 0, e⟩] = m at hm he2 ⊢
  by_cases d4 : (N.getD n nd0).k = 4
  · rw [if_pos d4]
    split <;> exact td hm he2 (by simp)
  rw [if_neg d4]
  by_cases d5 : (N.getD n nd0).k = 5
  · rw [if_pos d5]; exact td hm he2 (by simp)
  rw [if_neg d5]
  by_cases d6 : (N.getD n nd0).k = 6
  · rw [if_pos d6]; exact td hm he2 (by simp)
  rw [if_neg d6]
  by_cases d7 : (N.getD n nd0).k = 7
  · rw [if_pos d7]; exact td hm he2 (by simp)
  rw [if_neg d7]
  by_cases d8 : (N.getD n nd0).k = 8
  · rw [if_pos d8]
    refine td hm he2 ?_
    split <;> simp
  rw [if_neg d8]
  by_cases d9 : (N.getD n nd0).k = 9
  · rw [if_pos d9]; exact td hm he2 (by simp)
  rw [if_neg d9]
  by_cases d10 : (N.getD n nd0).k = 10
  · rw [if_pos d10]; exact td hm he2 (by simp)
  rw [if_neg d10]
  by_cases d11 : (N.getD n nd0).k = 11
  · rw [if_pos d11]
    split
    · exact hm.tasks fun k hk => by cases hk
    · rename_i x r hq
      exact hm.up (f := fun t => { t with tasks := r, vals := t.vals.take x }) ⟨fun u hu => hm.me.v u (List.mem_of_mem_take hu), fun q hk => hm.me.k q (brkT_sub hq q hk), hm.me.f⟩ id
  rw [if_neg d11]
  exact hm
theorem MU.setT (h : MU M) {t k v : Vl} (hk : VM M k) (hv : VM M v) : MU (M.setT t k v) := by
  unfold MD.setT
  dsimp only
  split
  · exact h.raise (by decide)
  · split
    · exact h.finish _ _
    · split
      · exact h.raise (by decide)
      · have el : (M.tabs.set t.n ((M.tabs.getD t.n tab0).put k v).2).length = M.tabs.length := List.length_set ..
        refine ⟨?_, ?_, h.cl, fun x hx => ?_, ?_, ?_, h.c0, h.c24, h.h5, h.ou, h.fu, h.fi⟩
        · show ∀ T ∈ M.ths, TU (M.tabs.set _ _).length _ _ _ T
          rw [el]; exact h.th
        · unfold VM
          show ∀ (i : Nat) (e : EnD), M.envs[i]? = some e → VKn (M.tabs.set _ _).length _ _ e.v ∧ _
          rw [el]; exact h.en
        · show TbU (M.tabs.set _ _).length _ _ x
          rw [el]
          have hx : x ∈ M.tabs.set t.n ((M.tabs.getD t.n tab0).put k v).2 := hx
          rcases List.mem_or_eq_of_mem_set hx with z | z
          · exact h.tb x z
          · rw [z]; exact (h.tab t.n).put hk hv
        · show 0 < (M.tabs.set _ _).length
          rw [el]; exact h.t0
        · show (M.tabs.set _ _).length ≤ 12
          rw [el]; exact h.t12
theorem MU.bin (h : MU M) (op : Nat) {a b : Vl} (ha : VM M a) (hb : VM M b) : MU (M.bin op a b) := by
  unfold MD.bin
  split
  · split
    · exact h.raise (by decide)
    · split
      · exact h.raise (by decide)
      · rename_i z
        exact h.push1 (VKn.str _ _ _ (by rw [List.length_append]; omega))
  · split
    · split
      · exact h.raise (by decide)
      · exact h.push1 (VKn.bool _ _ _ _)
    · split
      · exact h.raise (by decide)
      · exact h.push1 (VKn.num _ _ _ (arith_ok _ _ _).1)
theorem MU.un (h : MU M) (op : Nat) {a : Vl} (ha : VM M a) : MU (M.un op a) := by
  unfold MD.un
  split
  · exact h.push1 (VKn.bool _ _ _ _)
  · split
    · split
      · exact h.raise (by decide)
      · rename_i z
        exact h.push1 (VKn.num _ _ _ (neg_ok (ha.n (by simpa using z))).1)
    · split
      · split
        · exact h.push1 (VKn.num _ _ _ (fromInt_num _).1)
        · split
          · exact h.raise (by decide)
          · exact h.push1 (VKn.num _ _ _ (fromInt_num _).1)
      · exact h
/-- an expression of the tree -/
theorem MU.eval (h : MU M) {n x : Nat} (hE : ExZ N n) {e : Option Nat} (he : ∀ i, e = some i → i < M.envs.length) : MU (M.eval N n x e) := by
  have td : ∀ {l : List TkD}, (∀ k ∈ l, k.e = e ∨ k.e = none) → MU (M.todo l) := fun hl => h.todo (tk_e he hl)
  unfold MD.eval
  dsimp only
  by_cases n0 : n = 0
  · rw [if_pos n0]
    refine h.push1 ?_
    split
    · exact VKn.num _ _ _ (fromInt_num _).1
    · exact VKn.nil _ _ _
  rw [if_neg n0]
  have O := (hE.resolve_left n0).tp
  by_cases d12 : (N.getD n nd0).k = 12
  · rw [if_pos d12]; exact h.push1 (VKn.nil _ _ _)
  rw [if_neg d12]
  by_cases d13 : (N.getD n nd0).k = 13
  · rw [if_pos d13]; exact h.push1 (VKn.bool _ _ _ _)
  rw [if_neg d13]
  by_cases d14 : (N.getD n nd0).k = 14
  · rw [if_pos d14]; exact h.push1 (VKn.bool _ _ _ _)
  rw [if_neg d14]
  by_cases d15 : (N.getD n nd0).k = 15
  · rw [if_pos d15]; exact h.push1 (VKn.num _ _ _ (O.k15 d15))
  rw [if_neg d15]
  by_cases d16 : (N.getD n nd0).k = 16
  · rw [if_pos d16]; exact h.push1 (VKn.str _ _ _ (O.k16 (.inl d16)))
  rw [if_neg d16]
  by_cases d17 : (N.getD n nd0).k = 17
  · rw [if_pos d17]
    split
    · exact h.push1 (h.envAt _)
    · exact h.push1 ((h.tab 0).get _)
  rw [if_neg d17]
  by_cases d18 : (N.getD n nd0).k = 18
  · rw [if_pos d18]; exact td (by simp)
  rw [if_neg d18]
  by_cases d19 : (N.getD n nd0).k = 19
  · rw [if_pos d19]; exact (td (l := [⟨5, 0, 0, none⟩]) (by simp)).call _ he
  rw [if_neg d19]
  by_cases d20 : (N.getD n nd0).k = 20
  · rw [if_pos d20]
    split
    · exact h.finish _ _
    · rename_i z
      have el : (M.clos ++ [(n, e)]).length = M.clos.length + 1 := by simp
      have h1 : MU { M with clos := M.clos ++ [(n, e)] } := by
        refine ⟨fun T hT => ?_, fun i d hd => ?_, fun q hq i hi => ?_, fun t ht => ?_, h.t0, h.t12, ?_, ?_, h.h5, h.ou, h.fu, h.fi⟩
        · exact (h.th T hT).mono (Nat.le_refl _) (by show _ ≤ (M.clos ++ [(n, e)]).length; omega) (Nat.le_refl _) (Nat.le_refl _)
        · exact ⟨(h.en i d hd).1.mono (Nat.le_refl _) (by show _ ≤ (M.clos ++ [(n, e)]).length; omega) (Nat.le_refl _), (h.en i d hd).2⟩
        · have hq : q ∈ M.clos ++ [(n, e)] := hq
          rcases List.mem_append.1 hq with w | w
          · exact h.cl q w i hi
          · have : q = (n, e) := by simpa using w
            rw [this] at hi
            exact he i hi
        · exact (h.tb t ht).mono (Nat.le_refl _) (by show _ ≤ (M.clos ++ [(n, e)]).length; omega) (Nat.le_refl _)
        · show 0 < (M.clos ++ [(n, e)]).length
          omega
        · show (M.clos ++ [(n, e)]).length ≤ 24
          omega
      have h2 := h1.push1 (v := ⟨5, M.clos.length, []⟩) (by
        have c24 := h.c24
        refine ⟨?_, (fun z => by cases z), (fun z => by cases z), fun _ => ?_, (fun z => by cases z)⟩
        · unfold wellV
          have : M.clos.length < 2 ^ 32 := by omega
          simp [this]
        · show M.clos.length < (M.clos ++ [(n, e)]).length
          omega)
      exact h2
  rw [if_neg d20]
  by_cases d21 : (N.getD n nd0).k = 21
  · rw [if_pos d21]
    split
    · exact h.finish _ _
    · rename_i z
      have el : (M.tabs ++ [tab0]).length = M.tabs.length + 1 := by simp
      have h1 : MU { M with tabs := M.tabs ++ [tab0] } := by
        refine ⟨fun T hT => ?_, fun i d hd => ?_, h.cl, fun t ht => ?_, ?_, ?_, h.c0, h.c24, h.h5, h.ou, h.fu, h.fi⟩
        · exact (h.th T hT).mono (by show _ ≤ (M.tabs ++ [tab0]).length; omega) (Nat.le_refl _) (Nat.le_refl _) (Nat.le_refl _)
        · exact ⟨(h.en i d hd).1.mono (by show _ ≤ (M.tabs ++ [tab0]).length; omega) (Nat.le_refl _) (Nat.le_refl _), (h.en i d hd).2⟩
        · have ht : t ∈ M.tabs ++ [tab0] := ht
          rcases List.mem_append.1 ht with w | w
          · exact (h.tb t w).mono (by show _ ≤ (M.tabs ++ [tab0]).length; omega) (Nat.le_refl _) (Nat.le_refl _)
          · have : t = tab0 := by simpa using w
            rw [this]
            exact TbU.nil
        · show 0 < (M.tabs ++ [tab0]).length
          omega
        · show (M.tabs ++ [tab0]).length ≤ 12
          omega
      have h2 := h1.push1 (v := ⟨4, M.tabs.length, []⟩) (by
        have t12 := h.t12
        refine ⟨?_, (fun z => by cases z), fun _ => ?_, (fun z => by cases z), (fun z => by cases z)⟩
        · unfold wellV
          have : M.tabs.length < 2 ^ 32 := by omega
          simp [this]
        · show M.tabs.length < (M.tabs ++ [tab0]).length
          omega)
      exact MU.items (M := { M.push [⟨4, M.tabs.length, []⟩] with tabs := M.tabs ++ [tab0] }) h2 _ _ he
  rw [if_neg d21]
  by_cases d22 : (N.getD n nd0).k = 22
  · rw [if_pos d22]; exact td (by simp)
  rw [if_neg d22]
  by_cases d23 : (N.getD n nd0).k = 23
  · rw [if_pos d23]; exact td (by simp)
  rw [if_neg d23]
  by_cases d24 : (N.getD n nd0).k = 24
  · rw [if_pos d24]; exact td (by simp)
  rw [if_neg d24]
  by_cases d25 : (N.getD n nd0).k = 25
  · rw [if_pos d25]; exact td (by simp)
  rw [if_neg d25]
  exact h
end
end Go.Proofs.Qxb6500574aGreatDoor
