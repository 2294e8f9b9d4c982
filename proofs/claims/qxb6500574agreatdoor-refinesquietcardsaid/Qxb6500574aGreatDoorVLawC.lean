/-
  moon: A TABLE'S INDEX POINTS BACK: what table.Check asks of a table, kept by put. Plain laws; no memory, no walk.
-/
import Derived.Test.Qxb6500574aGreatDoorVLawT
import Derived.Test.Qxb6500574aGreatDoorVFloat2
namespace Go.Proofs.Qxb6500574aGreatDoor
set_option linter.unusedVariables false
set_option linter.unusedSimpArgs false

def unpackV (u : Nat) : Vl := ⟨((u / 4294967296 : Nat) : Int), u % 4294967296, []⟩
/-- what holds at rest and in the midst of a move -/
structure TMid (t : TabD) : Prop where
  ol : t.order.length ≤ 32
  sz : t.arr.length + t.nums.length + t.strs.length + t.refs.length = t.order.length
  pa : ∀ (i p : Nat), t.arr[i]? = some p → ∃ x, t.order[p]? = some x ∧ x.1 = numV (fromIntN ((i : Int) + 1))
  pn : ∀ e ∈ t.nums, ∃ x, t.order[e.2]? = some x ∧ x.1 = numV e.1
  ps : ∀ e ∈ t.strs, ∃ x, t.order[e.2]? = some x ∧ x.1 = strV e.1
  pr : ∀ e ∈ t.refs, (∃ x, t.order[e.2]? = some x ∧ x.1 = unpackV e.1) ∧ e.1 < 18446744073709551616 ∧ (unpackV e.1).t ≠ 0 ∧ (unpackV e.1).t ≠ 2 ∧ (unpackV e.1).t ≠ 3
  nd : (t.arr ++ t.nums.map (fun e => e.2) ++ t.strs.map (fun e => e.2) ++ t.refs.map (fun e => e.2)).Nodup
  nz : ∀ e ∈ t.nums, e.1 < 18446744073709551616 ∧ e.1 ≠ 9223372036854775808 ∧ isNan e.1 = false ∧ ∀ i : Int, toIntN e.1 = some i → ¬ (1 ≤ i ∧ i ≤ t.arr.length)
  wk : ∀ e ∈ t.order, wellV e.1 = true ∧ wellV e.2 = true ∧ e.1.t ≠ 0
  dd : t.dead = t.order.countP (fun e => isNilV e.2)
  uk : ∀ a ∈ t.nums, ∀ b ∈ t.nums, a.1 = b.1 → a = b
structure TCk (t : TabD) : Prop where
  mid : TMid t
  cl : ∀ e ∈ t.nums, toIntN e.1 ≠ some ((t.arr.length : Int) + 1)
theorem TCk.nil : TCk tab0 := ⟨⟨by decide, by decide, by simp [tab0], by simp [tab0], by simp [tab0], by simp [tab0], by simp [tab0], by simp [tab0], by simp [tab0], by simp [tab0], by simp [tab0]⟩, by simp [tab0]⟩
theorem fromInt_back {i : Nat} (h1 : 1 ≤ i) (h2 : i ≤ 33) : toIntN (fromIntN (i : Int)) = some (i : Int) := by
  have : ∀ j : Fin 34, 1 ≤ j.val → toIntN (fromIntN (j.val : Int)) = some (j.val : Int) := by decide +kernel
  exact this ⟨i, by omega⟩ h1
theorem int_key {x i : Nat} (hx : x < 18446744073709551616) (h1 : 1 ≤ i) (h2 : i ≤ 33) (h : toIntN x = some (i : Int)) : x = fromIntN (i : Int) :=
  toInt_inj hx (nearest_lt _) h (fromInt_back h1 h2) (by omega)
/-- a value is turned -/
theorem TMid.turn {t : TabD} (h : TMid t) (hf : TFit t) {p : Nat} (hp : p < t.order.length) {v : Vl} (hv : wellV v = true) : TMid (t.turn p v) := by
  have hk : ∀ (q : Nat) (x : Vl × Vl), t.order[q]? = some x → ∃ y, (t.turn p v).order[q]? = some y ∧ y.1 = x.1 := by
    intro q x hq
    unfold TabD.turn
    dsimp only
    by_cases e : p = q
    · subst e
      refine ⟨_, List.getElem?_set_self hp, ?_⟩
      rw [List.getD_eq_getElem?_getD, hq]; rfl
    · exact ⟨x, by rw [List.getElem?_set_ne e]; exact hq, rfl⟩
  have via : ∀ (q : Nat) (k : Vl), (∃ x, t.order[q]? = some x ∧ x.1 = k) → ∃ y, (t.turn p v).order[q]? = some y ∧ y.1 = k := by
    rintro q k ⟨x, h1, h2⟩
    obtain ⟨y, h3, h4⟩ := hk q x h1
    exact ⟨y, h3, h4.trans h2⟩
  have ol : (t.turn p v).order.length = t.order.length := by simp [TabD.turn]
  refine ⟨by rw [ol]; exact h.ol, by rw [ol]; exact h.sz, fun i q hi => via q _ (h.pa i q hi), fun e he => via _ _ (h.pn e he), fun e he => via _ _ (h.ps e he), fun e he => ⟨via _ _ (h.pr e he).1, (h.pr e he).2⟩, h.nd, h.nz, fun e he => ?_, (hf.turn hp v).dd, h.uk⟩
  unfold TabD.turn at he
  dsimp only at he
  rcases List.mem_or_eq_of_mem_set he with he | he
  · exact h.wk e he
  · have h1 := h.wk t.order[p] (List.getElem_mem hp)
    rw [he, show t.order.getD p (nilV, nilV) = t.order[p] by simp [hp]]
    exact ⟨h1.1, hv, h1.2.2⟩
theorem TCk.turn {t : TabD} (h : TCk t) (hf : TFit t) {p : Nat} (hp : p < t.order.length) {v : Vl} (hv : wellV v = true) : TCk (t.turn p v) := ⟨h.mid.turn hf hp hv, h.cl⟩
theorem old_at {α : Type} {l : List α} {q : Nat} {x y : α} (h : l[q]? = some x) : (l ++ [y])[q]? = some x := by
  rw [List.getElem?_append_left (List.getElem?_eq_some_iff.1 h).1]; exact h
theorem TMid.lt {t : TabD} (h : TMid t) : ∀ q ∈ t.arr ++ t.nums.map (fun e => e.2) ++ t.strs.map (fun e => e.2) ++ t.refs.map (fun e => e.2), q < t.order.length := by
  intro q hq
  simp only [List.mem_append, List.mem_map] at hq
  have lt : ∀ k : Vl, (∃ x, t.order[q]? = some x ∧ x.1 = k) → q < t.order.length := fun k ⟨x, h1, _⟩ => (List.getElem?_eq_some_iff.1 h1).1
  rcases hq with ((hq | ⟨e, h1, h2⟩) | ⟨e, h1, h2⟩) | ⟨e, h1, h2⟩
  · obtain ⟨i, hi⟩ := List.getElem?_of_mem hq
    exact lt _ (h.pa i q hi)
  · subst h2; exact lt _ (h.pn e h1)
  · subst h2; exact lt _ (h.ps e h1)
  · subst h2; exact lt _ (h.pr e h1).1
theorem nodup_perm_snoc {l l' : List Nat} {p : Nat} (h : l.Nodup) (hp : ∀ q ∈ l, q < p) (e : List.Perm l' (p :: l)) : l'.Nodup :=
  e.nodup_iff.2 (List.nodup_cons.2 ⟨fun hm => Nat.lt_irrefl _ (hp p hm), h⟩)
theorem pack_back {k : Vl} (hw : wellV k = true) (h2 : k.t ≠ 2) (h3 : k.t ≠ 3) (h0 : k.t ≠ 0) : unpackV (packV k) = k ∧ packV k < 18446744073709551616 := by
  have hs : k.s = [] ∧ 0 ≤ k.t ∧ k.t ≤ 7 ∧ k.n < 4294967296 := by
    have hw' := hw
    unfold wellV at hw'
    rw [if_neg h3] at hw'
    split at hw'
    · cases hw'
    · rename_i h
      have hs : k.s = [] := Decidable.byContradiction fun e => h (.inl e)
      have h4 : ¬ k.t < 0 := fun e => h (.inr (.inl e))
      have h5 : ¬ k.t > 7 := fun e => h (.inr (.inr e))
      refine ⟨hs, by omega, by omega, ?_⟩
      revert hw'
      repeat' split
      all_goals first | (intro hw'; simp at hw'; omega) | (intro _; omega)
  obtain ⟨hs, h4, h5, h6⟩ := hs
  have hp : packV k = k.t.toNat * 4294967296 + k.n := by
    unfold packV
    have := Nat.shiftLeft_add_eq_or_of_lt (show k.n < 2 ^ 32 by simpa using h6) k.t.toNat
    rw [← Nat.shiftLeft_eq, ← this, Nat.shiftLeft_eq]
  obtain ⟨kt, kn, ks⟩ := k
  simp only at *
  subst hs
  unfold unpackV
  rw [hp]
  refine ⟨?_, by omega⟩
  simp only [Vl.mk.injEq]
  exact ⟨by omega, by omega, trivial⟩
/-- a new pair at the end of the list: what the elder entries say stays -/
theorem TMid.via {t : TabD} (e : Vl × Vl) {q : Nat} {k : Vl} (h : ∃ x, t.order[q]? = some x ∧ x.1 = k) : ∃ x, (t.order ++ [e])[q]? = some x ∧ x.1 = k := by
  obtain ⟨x, h1, h2⟩ := h
  exact ⟨x, old_at h1, h2⟩
theorem new_at {α : Type} (l : List α) (y : α) : (l ++ [y])[l.length]? = some y := by simp
/-- what a new key must be -/
structure NewK (t : TabD) (k : Vl) (i : Int) : Prop where
  w : wellV k = true
  z : k.t ≠ 0
  b : k.t = 2 → k.n < 18446744073709551616 ∧ k.n ≠ 9223372036854775808 ∧ isNan k.n = false ∧ ∀ j : Int, toIntN k.n = some j → j = i ∨ j = 0
  v : i ≠ 0 → k.t = 2 ∧ toIntN k.n = some i
  n : ¬ (1 ≤ i ∧ i ≤ t.arr.length)
  u : k.t = 2 → ∀ e ∈ t.nums, e.1 ≠ k.n
theorem TMid.wk1 {t : TabD} (h : TMid t) {k v : Vl} (hk : wellV k = true) (hz : k.t ≠ 0) (hv : wellV v = true) : ∀ e ∈ t.order ++ [(k, v)], wellV e.1 = true ∧ wellV e.2 = true ∧ e.1.t ≠ 0 := by
  intro e he
  rcases List.mem_append.1 he with he | he
  · exact h.wk e he
  · simp at he; rw [he]; exact ⟨hk, hv, hz⟩
theorem num_is {k : Vl} (hw : wellV k = true) (h : k.t = 2) : k = numV k.n := by
  obtain ⟨kt, kn, ks⟩ := k
  simp only at h
  subst h
  unfold wellV at hw
  simp only [show ¬ ((2 : Int) = 3) by decide, if_false] at hw
  split at hw
  · cases hw
  · rename_i h
    have hs : ks = [] := Decidable.byContradiction fun e => h (.inl e)
    rw [hs]; rfl
theorem str_is {k : Vl} (hw : wellV k = true) (h : k.t = 3) : k = strV k.s := by
  obtain ⟨kt, kn, ks⟩ := k
  simp only at h
  subst h
  unfold wellV at hw
  simp only [if_true, Bool.and_eq_true, beq_iff_eq] at hw
  rw [hw.1]; rfl
theorem TCk.index {t : TabD} (h : TCk t) (h32 : t.order.length < 32) {k v : Vl} {i : Int} (hk : NewK t k i) (hi : i ≠ t.arr.length + 1) (hv : wellV v = true) (he : isNilV v = false) :
    TCk (({ t with order := t.order ++ [(k, v)] } : TabD).index k t.order.length) := by
  have M := h.mid
  have lt := M.lt
  have dd : t.dead = (t.order ++ [(k, v)]).countP (fun e => isNilV e.2) := by
    rw [List.countP_append, ← M.dd]; simp [he]
  have ol : (t.order ++ [(k, v)]).length ≤ 32 := by simp; omega
  have sz := M.sz
  unfold TabD.index
  split
  · rename_i h2
    obtain ⟨b1, b2, b3, b4⟩ := hk.b h2
    refine ⟨⟨ol, by simp; omega, fun i p hi => TMid.via _ (M.pa i p hi), fun e he => ?_, fun e he => TMid.via _ (M.ps e he), fun e he => ⟨TMid.via _ (M.pr e he).1, (M.pr e he).2⟩, ?_, fun e he => ?_, M.wk1 hk.w hk.z hv, dd, fun a ha b hb hab => ?_⟩, fun e he => ?_⟩
    · rcases List.mem_append.1 he with he | he
      · exact TMid.via _ (M.pn e he)
      · simp at he; rw [he]; exact ⟨_, new_at _ _, num_is hk.w h2⟩
    · refine nodup_perm_snoc (p := t.order.length) M.nd lt ?_
      simp only [List.map_append, List.map_cons, List.map_nil, List.append_assoc, List.singleton_append]
      exact ((List.perm_middle.append_left t.arr).trans List.perm_middle)
    · rcases List.mem_append.1 he with he | he
      · exact M.nz e he
      · simp at he; rw [he]
        refine ⟨b1, b2, b3, fun j hj hj2 => ?_⟩
        rcases b4 j hj with e1 | e1
        · subst e1; exact hk.n hj2
        · omega
    · have hn := hk.u h2
      rcases List.mem_append.1 ha with ha | ha
      · rcases List.mem_append.1 hb with hb | hb
        · exact M.uk a ha b hb hab
        · simp at hb; rw [hb] at hab; exact absurd hab (hn a ha)
      · simp at ha
        rcases List.mem_append.1 hb with hb | hb
        · rw [ha] at hab; exact absurd hab.symm (hn b hb)
        · simp at hb; rw [ha, hb]
    · rcases List.mem_append.1 he with he | he
      · exact h.cl e he
      · simp at he; rw [he]
        intro hj
        rcases b4 _ hj with e1 | e1
        · exact hi e1.symm
        · omega
  · rename_i h2
    split
    · rename_i h3
      refine ⟨⟨ol, by simp; omega, fun i p hi => TMid.via _ (M.pa i p hi), fun e he => TMid.via _ (M.pn e he), fun e he => ?_, fun e he => ⟨TMid.via _ (M.pr e he).1, (M.pr e he).2⟩, ?_, M.nz, M.wk1 hk.w hk.z hv, dd, M.uk⟩, h.cl⟩
      · rcases List.mem_append.1 he with he | he
        · exact TMid.via _ (M.ps e he)
        · simp at he; rw [he]; exact ⟨_, new_at _ _, str_is hk.w h3⟩
      · refine nodup_perm_snoc (p := t.order.length) M.nd lt ?_
        simp only [List.map_append, List.map_cons, List.map_nil, List.append_assoc, List.singleton_append]
        exact (((List.perm_middle.append_left _).append_left t.arr).trans ((List.perm_middle.append_left t.arr).trans List.perm_middle))
    · rename_i h3
      obtain ⟨p1, p2⟩ := pack_back hk.w h2 h3 hk.z
      refine ⟨⟨ol, by simp; omega, fun i p hi => TMid.via _ (M.pa i p hi), fun e he => TMid.via _ (M.pn e he), fun e he => TMid.via _ (M.ps e he), fun e he => ?_, ?_, M.nz, M.wk1 hk.w hk.z hv, dd, M.uk⟩, h.cl⟩
      · rcases List.mem_append.1 he with he | he
        · exact ⟨TMid.via _ (M.pr e he).1, (M.pr e he).2⟩
        · simp at he; rw [he]
          refine ⟨⟨_, new_at _ _, p1.symm⟩, p2, ?_⟩
          rw [p1]
          exact ⟨hk.z, h2, h3⟩
      · refine nodup_perm_snoc (p := t.order.length) M.nd lt ?_
        simp only [List.map_append, List.map_cons, List.map_nil, ← List.append_assoc]
        exact List.perm_append_singleton _ _
theorem TCk.app2 {t : TabD} (h : TCk t) (h32 : t.order.length < 32) {k v : Vl} {i : Int} (hk : NewK t k i) (hi : i = t.arr.length + 1) (hv : wellV v = true) (he : isNilV v = false) :
    TMid { t with order := t.order ++ [(k, v)], arr := t.arr ++ [t.order.length] } := by
  have M := h.mid
  have sz := M.sz
  obtain ⟨k2, ki⟩ := hk.v (by omega)
  obtain ⟨b1, b2, b3, b4⟩ := hk.b k2
  refine ⟨by simp; omega, by simp; omega, fun j p hj => ?_, fun e he => TMid.via _ (M.pn e he), fun e he => TMid.via _ (M.ps e he), fun e he => ⟨TMid.via _ (M.pr e he).1, (M.pr e he).2⟩, ?_, fun e he2 => ?_, M.wk1 hk.w hk.z hv, ?_, M.uk⟩
  · simp only at hj
    by_cases hlt : j < t.arr.length
    · rw [List.getElem?_append_left hlt] at hj
      exact TMid.via _ (M.pa j p hj)
    · have hj2 := (List.getElem?_eq_some_iff.1 hj).1
      simp at hj2
      have : j = t.arr.length := by omega
      subst this
      simp at hj
      subst hj
      refine ⟨_, new_at _ _, ?_⟩
      have h1 : toIntN k.n = some ((t.arr.length + 1 : Nat) : Int) := by rw [ki, hi]; rfl
      have h2 := int_key b1 (by omega) (by omega) h1
      rw [num_is hk.w k2, h2]
      rfl
  · refine nodup_perm_snoc (p := t.order.length) M.nd M.lt ?_
    simp only [List.append_assoc, List.singleton_append]
    exact List.perm_middle
  · obtain ⟨n1, n2, n3, n4⟩ := M.nz e he2
    refine ⟨n1, n2, n3, fun j hj hj2 => ?_⟩
    simp only [List.length_append, List.length_singleton] at hj2
    by_cases e1 : j = (t.arr.length : Int) + 1
    · subst e1; exact h.cl e he2 hj
    · exact n4 j hj ⟨hj2.1, by omega⟩
  · show t.dead = (t.order ++ [(k, v)]).countP (fun e => isNilV e.2)
    rw [List.countP_append, ← M.dd]; simp [he]
theorem perm_eraseP {α : Type} {q : α → Bool} : ∀ {l : List α} {e : α}, e ∈ l → q e = true → (∀ y ∈ l, q y = true → y = e) → List.Perm l (e :: l.eraseP q) := by
  intro l
  induction l with
  | nil => intro e he; simp at he
  | cons a l ih =>
    intro e he hq hu
    by_cases ha : q a = true
    · have : a = e := hu a (by simp) ha
      subst this
      rw [List.eraseP_cons_of_pos ha]
    · rw [List.eraseP_cons_of_neg (by simpa using ha)]
      have hne : e ∈ l := by
        rcases List.mem_cons.1 he with h | h
        · subst h; exact absurd hq ha
        · exact h
      exact (List.Perm.cons a (ih hne hq (fun y hy => hu y (by simp [hy])))).trans (List.Perm.swap _ _ _)
theorem TMid.migL (l : List (Nat × Nat)) : ∀ (k i : Nat) (t : TabD), TMid t → i = t.arr.length + 1 → k + t.arr.length = 32 → (∀ e ∈ t.nums, e ∈ l) → (∀ a ∈ l, ∀ b ∈ l, a.1 = b.1 → a = b) → (∀ e ∈ l, ∀ j : Int, toIntN e.1 = some j → (i : Int) ≤ j → e ∈ t.nums) → TCk (migL l k i t) := by
  intro k
  induction k with
  | zero =>
    intro i t M hi hk _ _ _
    have h1 := M.sz
    have h2 := M.ol
    have h3 : t.nums = [] := List.length_eq_zero_iff.1 (by omega)
    exact ⟨M, fun e he => by unfold Go.Proofs.Qxb6500574aGreatDoor.migL at he; rw [h3] at he; simp at he⟩
  | succ k ih =>
    intro i t M hi hk hs hu hl
    unfold Go.Proofs.Qxb6500574aGreatDoor.migL
    cases ha : atN l i with
    | none =>
      refine ⟨M, fun e he hj => ?_⟩
      unfold atN at ha
      simp only [Option.map_eq_none_iff, List.find?_eq_none] at ha
      have := ha e (hs e he)
      rw [hj, hi] at this
      simp at this
    | some p =>
      dsimp only
      obtain ⟨e, he, rfl, hie⟩ := atN_mem ha
      have hen := hl e he i hie (Int.le_refl _)
      obtain ⟨x, hx1, hx2⟩ := M.pn e hen
      have hkey : (t.order.getD e.2 (nilV, nilV)).1.n = e.1 := by
        rw [List.getD_eq_getElem?_getD, hx1]; simp [hx2, numV]
      rw [hkey]
      have huq : ∀ y ∈ t.nums, (fun y : Nat × Nat => y.1 == e.1) y = true → y = e := fun y hy hq => hu y (hs y hy) e he (by simpa using hq)
      have hperm := perm_eraseP (q := fun y : Nat × Nat => y.1 == e.1) hen (by simp) huq
      have hlen : t.nums.length = (t.nums.eraseP (fun y => y.1 == e.1)).length + 1 := by
        have := hperm.length_eq; simpa using this
      have hsub : ∀ y ∈ t.nums.eraseP (fun y => y.1 == e.1), y ∈ t.nums := fun y hy => List.mem_of_mem_eraseP hy
      have sz := M.sz
      have ol := M.ol
      have b1 := (M.nz e hen).1
      have M2 : TMid { t with nums := t.nums.eraseP (fun y => y.1 == e.1), arr := t.arr ++ [e.2] } := by
        refine ⟨M.ol, by simp; omega, fun j p hj => ?_, fun y hy => M.pn y (hsub y hy), M.ps, M.pr, ?_, fun y hy => ?_, M.wk, M.dd, fun a ha b hb => M.uk a (hsub a ha) b (hsub b hb)⟩
        · simp only at hj
          by_cases hlt : j < t.arr.length
          · rw [List.getElem?_append_left hlt] at hj
            exact M.pa j p hj
          · have hj2 := (List.getElem?_eq_some_iff.1 hj).1
            simp at hj2
            have : j = t.arr.length := by omega
            subst this
            simp at hj
            subst hj
            refine ⟨x, hx1, ?_⟩
            rw [hx2, int_key b1 (by omega) (by omega) hie, hi]
            rfl
        · refine (List.Perm.nodup_iff ?_).1 M.nd
          simp only [List.append_assoc, List.singleton_append]
          refine List.Perm.append_left t.arr ?_
          exact ((hperm.map (fun e => e.2)).append_right _)
        · obtain ⟨n1, n2, n3, n4⟩ := M.nz y (hsub y hy)
          refine ⟨n1, n2, n3, fun j hj hj2 => ?_⟩
          simp only [List.length_append, List.length_singleton] at hj2
          by_cases e1 : j = (i : Int)
          · subst e1
            have h3 : y.1 = e.1 := toInt_inj n1 b1 hj hie (by omega)
            have h4 := huq y (hsub y hy) (by simpa using h3)
            subst h4
            have h5 : (t.nums.map (fun e => e.2)).Nodup := by
              have := M.nd
              rw [List.nodup_append, List.nodup_append, List.nodup_append] at this
              exact this.1.1.2.1
            have h6 : (y.2 :: (t.nums.eraseP (fun z => z.1 == y.1)).map (fun e => e.2)).Nodup := by
              have h7 := (List.Perm.nodup_iff (hperm.map (fun e : Nat × Nat => e.2))).1 h5
              exact h7
            exact (List.nodup_cons.1 h6).1 (List.mem_map.2 ⟨y, hy, rfl⟩)
          · exact n4 j hj ⟨hj2.1, by omega⟩
      refine ih (i + 1) _ M2 (by simp; omega) (by simp; omega) (fun y hy => hs y (hsub y hy)) hu (fun y hy j hj hij => ?_)
      have h1 := hl y hy j hj (by omega)
      have hne : ¬ (fun y : Nat × Nat => y.1 == e.1) y = true := by
        intro h
        have h2 : y.1 = e.1 := by simpa using h
        rw [h2, hie] at hj
        cases hj
        omega
      exact (List.mem_eraseP_of_neg (by simpa using hne)).2 h1
/-- keys of the number map are unlike -/
theorem TMid.migrate {t : TabD} (M : TMid t) : TCk t.migrate := by
  have h1 := M.sz
  have h2 := M.ol
  unfold TabD.migrate
  split
  · rename_i h
    exact ⟨M, fun e he => by rw [h] at he; simp at he⟩
  · exact TMid.migL _ _ _ _ M rfl (by omega) (fun _ h => h) M.uk (fun e he _ _ _ => he)
theorem look_noC {α : Type} [BEq α] [LawfulBEq α] {l : List (α × Nat)} {k : α} (h : look l k = none) : ∀ e ∈ l, e.1 ≠ k := by
  intro e he h2
  unfold look at h
  simp only [Option.map_eq_none_iff, List.find?_eq_none] at h
  exact h e he (by simp [h2])
theorem one_well {k : Vl} (hw : wellV k = true) : wellV (oneV k).1 = true := by
  unfold oneV
  split
  · exact hw
  · rename_i h2
    have h2' : k.t = 2 := Decidable.not_not.1 h2
    split
    · exact hw
    · split
      · have hk := num_is hw h2'
        rw [hk]; rfl
      · exact hw
theorem one_key {t : TabD} {k : Vl} (hw : wellV k = true) (h0 : k.t ≠ 0) (hb : k.t = 2 → k.n < 18446744073709551616) (hn : ¬ (k.t = 2 ∧ isNan k.n = true)) (hf : t.find (oneV k).1 (oneV k).2 = none) : NewK t (oneV k).1 (oneV k).2 := by
  have ht := one_t k
  have hin : ¬ (1 ≤ (oneV k).2 ∧ (oneV k).2 ≤ t.arr.length) := by
    intro h
    unfold TabD.find at hf
    rw [if_pos h] at hf
    have := List.getElem?_eq_none_iff.1 hf
    omega
  refine ⟨one_well hw, by rw [ht]; exact h0, fun h2 => ?_, fun hi => ?_, hin, fun h2 => ?_⟩
  · rw [ht] at h2
    have hnn : isNan k.n = false := by
      cases e : isNan k.n
      · rfl
      · exact absurd ⟨h2, e⟩ hn
    unfold oneV
    rw [if_neg (by simp [h2])]
    cases hti : toIntN k.n with
    | none =>
      dsimp only
      refine ⟨hb h2, ?_, hnn, fun j hj => by rw [hti] at hj; cases hj⟩
      intro e
      rw [e] at hti
      revert hti
      decide +kernel
    | some i =>
      dsimp only
      split
      · exact ⟨show 0 < 18446744073709551616 by decide, show (0 : Nat) ≠ 9223372036854775808 by decide, show isNan 0 = false by decide +kernel, fun j hj => .inr (Option.some.inj ((show some j = some 0 from hj.symm.trans (show toIntN 0 = some 0 by decide +kernel))))⟩
      · rename_i hne
        refine ⟨hb h2, ?_, hnn, fun j hj => by rw [hti] at hj; cases hj; exact .inl rfl⟩
        intro e
        rw [e] at hti
        have h3 : toIntN 9223372036854775808 = some 0 := by decide +kernel
        rw [h3] at hti
        cases hti
        exact hne rfl
  · revert hi
    unfold oneV
    split
    · intro h; exact absurd rfl h
    · rename_i h2
      split
      · intro h; exact absurd rfl h
      · rename_i i hti
        split
        · intro h; exact absurd rfl h
        · intro _; exact ⟨Decidable.not_not.1 h2, hti⟩
  · unfold TabD.find at hf
    rw [if_neg hin, if_pos h2] at hf
    exact look_noC hf
/-- put keeps to it -/
theorem TCk.put {t : TabD} (h : TCk t) (hf : TFit t) (k v : Vl) (hk : k.t = 2 → k.n < 18446744073709551616) : TCk (t.put k v).2 := by
  unfold TabD.put
  split
  · exact h
  · rename_i hw
    have hw1 : wellV k = true ∧ wellV v = true := by simpa using hw
    split
    · exact h
    · rename_i h0
      split
      · exact h
      · rename_i hnan
        dsimp only
        split
        · rename_i p hp
          exact h.turn hf (hf.find hp) hw1.2
        · rename_i hno
          split
          · exact h
          · rename_i hnil
            have hnil' : isNilV v = false := by simpa using hnil
            split
            · exact h
            · rename_i h32
              have h32' : t.order.length < 32 := by omega
              have hkk := one_key hw1.1 h0 hk hnan hno
              split
              · rename_i hi
                exact h.index h32' hkk hi hw1.2 hnil'
              · rename_i hi
                exact (h.app2 h32' hkk (Decidable.not_not.1 hi) hw1.2 hnil').migrate
end Go.Proofs.Qxb6500574aGreatDoor
