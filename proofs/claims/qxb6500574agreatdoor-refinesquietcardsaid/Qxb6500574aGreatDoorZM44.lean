/-
  moon: KEYS STAY: what a table has found once it finds again. Plain; no memory, no walk.
-/
import Derived.Test.Qxb6500574aGreatDoorZM42
namespace Go.Proofs.Qxb6500574aGreatDoor
set_option linter.unusedVariables false
set_option linter.unusedSimpArgs false
/-- a number's entry bears its key -/
def TNk (t : TabD) : Prop := ∀ e ∈ t.nums, ∃ x, t.order[e.2]? = some x ∧ x.1.n = e.1
theorem look_some {α : Type} [BEq α] {l : List (α × Nat)} {k : α} : look l k ≠ none ↔ ∃ e ∈ l, (e.1 == k) = true := by
  unfold look
  cases h : l.find? (fun e => e.1 == k) with
  | none =>
    rw [List.find?_eq_none] at h
    constructor
    · intro z; exact absurd rfl z
    · rintro ⟨e, e1, e2⟩; exact absurd e2 (h e e1)
  | some e =>
    constructor
    · intro _; exact ⟨e, List.mem_of_find?_eq_some h, by simpa using List.find?_some h⟩
    · intro _ z; cases z
theorem look_app {α : Type} [BEq α] {l r : List (α × Nat)} {k : α} (h : look l k ≠ none) : look (l ++ r) k ≠ none := by
  rw [look_some] at h ⊢
  obtain ⟨e, e1, e2⟩ := h
  exact ⟨e, by simp [e1], e2⟩
/-- the number of a key, where it has one -/
def OneI (k : Vl) (i : Int) : Prop := k.t = 2 → ∀ j : Int, toIntN k.n = some j → 1 ≤ j → i = j
theorem oneV_i (k : Vl) : OneI (oneV k).1 (oneV k).2 := by
  unfold OneI oneV
  split
  · rename_i h; intro z; exact absurd z h
  · split
    · rename_i h; intro _ j hj; simp only at hj; rw [h] at hj; cases hj
    · rename_i j0 h
      split
      · rename_i h0
        intro _ j hj h1
        simp only at hj
        have : toIntN 0 = some 0 := by decide
        rw [this] at hj
        cases hj
        omega
      · intro _ j hj h1
        simp only at hj ⊢
        rw [h] at hj
        cases hj
        rfl
theorem find_arrZ {t t' : TabD} {k : Vl} {i : Int} {a : List Nat} (ha : t'.arr = t.arr ++ a) (hn : t'.nums = t.nums) (hs : t'.strs = t.strs) (hr : t'.refs = t.refs) (h : t.find k i ≠ none) : t'.find k i ≠ none := by
  unfold TabD.find at h ⊢
  by_cases h1 : 1 ≤ i ∧ i ≤ t'.arr.length
  · rw [if_pos h1, List.getElem?_eq_getElem (by omega)]
    simp
  · rw [if_neg h1]
    rw [ha, List.length_append] at h1
    rw [if_neg (by omega)] at h
    rw [hn, hs, hr]
    exact h
theorem mig_keep {l : List (Nat × Nat)} {k : Vl} {i : Int} (hi : OneI k i) : ∀ (n i0 : Nat) (t : TabD), (∀ e ∈ l, ∃ x, t.order[e.2]? = some x ∧ x.1.n = e.1) → i0 = t.arr.length + 1 → t.find k i ≠ none → (migL l n i0 t).find k i ≠ none := by
  intro n
  induction n with
  | zero => intro i0 t _ _ h; exact h
  | succ n ih =>
    intro i0 t hl h0 h
    unfold migL
    cases ha : atN l (i0 : Int) with
    | none => exact h
    | some p =>
      dsimp only
      refine ih (i0 + 1) _ hl (by simp [h0]) ?_
      obtain ⟨e, e1, e2, e3⟩ : ∃ e ∈ l, toIntN e.1 = some (i0 : Int) ∧ e.2 = p := by
        unfold atN at ha
        cases hf : l.find? (fun e => toIntN e.1 == some (i0 : Int)) with
        | none => rw [hf] at ha; cases ha
        | some e =>
          rw [hf] at ha
          exact ⟨e, List.mem_of_find?_eq_some hf, by simpa using List.find?_some hf, by simpa using ha⟩
      obtain ⟨x, x1, x2⟩ := hl e e1
      have hk : (t.order.getD p (nilV, nilV)).1.n = e.1 := by
        rw [← e3, List.getD_eq_getElem?_getD, x1]
        exact x2
      unfold TabD.find at h ⊢
      simp only [List.length_append, List.length_singleton]
      by_cases h1 : 1 ≤ i ∧ i ≤ ((t.arr.length + 1 : Nat) : Int)
      · rw [if_pos h1, List.getElem?_eq_getElem (by simp; omega)]
        simp
      · rw [if_neg h1]
        rw [if_neg (by omega)] at h
        by_cases h2 : k.t = 2
        · rw [if_pos h2] at h ⊢
          rw [look_some] at h ⊢
          obtain ⟨y, y1, y2⟩ := h
          have hne : ¬ ((y.1 == (t.order.getD p (nilV, nilV)).1.n) = true) := fun z => by
            have z1 : y.1 = e.1 := by rw [hk] at z; simpa using z
            have z2 : y.1 = k.n := by simpa using y2
            have z3 : toIntN k.n = some (i0 : Int) := by rw [← z2, z1]; exact e2
            have := hi h2 _ z3 (by omega)
            omega
          exact ⟨y, (List.mem_eraseP_of_neg (by simpa using hne)).2 y1, y2⟩
        · rw [if_neg h2] at h ⊢
          exact h
theorem mig_order (l : List (Nat × Nat)) : ∀ (n i0 : Nat) (t : TabD), (migL l n i0 t).order = t.order ∧ (∀ e ∈ (migL l n i0 t).nums, e ∈ t.nums) := by
  intro n
  induction n with
  | zero => intro i0 t; exact ⟨rfl, fun _ h => h⟩
  | succ n ih =>
    intro i0 t
    unfold migL
    cases atN l (i0 : Int) with
    | none => exact ⟨rfl, fun _ h => h⟩
    | some p =>
      dsimp only
      obtain ⟨a, b⟩ := ih (i0 + 1) { t with nums := t.nums.eraseP (fun e => e.1 == (t.order.getD p (nilV, nilV)).1.n), arr := t.arr ++ [p] }
      exact ⟨a, fun e he => List.mem_of_mem_eraseP (b e he)⟩
theorem put_keep {t : TabD} (h : TNk t) (k v : Vl) : TNk (t.put k v).2 ∧ ∀ (k' : Vl) (i : Int), OneI k' i → t.find k' i ≠ none → (t.put k v).2.find k' i ≠ none := by
  unfold TabD.put
  split
  · exact ⟨h, fun _ _ _ z => z⟩
  split
  · exact ⟨h, fun _ _ _ z => z⟩
  split
  · exact ⟨h, fun _ _ _ z => z⟩
  dsimp only
  have grow : ∀ x : Vl × Vl, ∀ e ∈ t.nums, ∃ y, (t.order ++ [x])[e.2]? = some y ∧ y.1.n = e.1 := fun x e he => by
    obtain ⟨y, y1, y2⟩ := h e he
    exact ⟨y, by rw [List.getElem?_append_left (List.getElem?_eq_some_iff.1 y1).1]; exact y1, y2⟩
  generalize oneV k = o
  cases hf : t.find o.1 o.2 with
  | some p =>
    dsimp only
    refine ⟨fun e he => ?_, fun k' i _ z => z⟩
    obtain ⟨y, y1, y2⟩ := h e he
    show ∃ x, (t.order.set p _)[e.2]? = some x ∧ x.1.n = e.1
    by_cases hp : p = e.2
    · subst hp
      refine ⟨_, List.getElem?_set_self (List.getElem?_eq_some_iff.1 y1).1, ?_⟩
      show (t.order.getD e.2 (nilV, nilV)).1.n = e.1
      rw [List.getD_eq_getElem?_getD, y1]
      exact y2
    · exact ⟨y, by rw [List.getElem?_set_ne hp]; exact y1, y2⟩
  | none =>
    dsimp only
    split
    · exact ⟨h, fun _ _ _ z => z⟩
    split
    · exact ⟨h, fun _ _ _ z => z⟩
    split
    · -- an entry of a map
      unfold TabD.index
      split
      · refine ⟨fun e he => ?_, fun k' i _ z => ?_⟩
        · rcases List.mem_append.1 he with he | he
          · exact grow _ e he
          · have : e = (o.1.n, t.order.length) := by simpa using he
            subst this
            exact ⟨(o.1, v), by simp, rfl⟩
        · unfold TabD.find at z ⊢
          dsimp only
          split
          · rename_i h1; rw [if_pos h1] at z; exact z
          · rename_i h1
            rw [if_neg h1] at z
            split
            · rename_i h2; rw [if_pos h2] at z; exact look_app z
            · rename_i h2; rw [if_neg h2] at z; exact z
      split
      · refine ⟨fun e he => grow _ e he, fun k' i _ z => ?_⟩
        unfold TabD.find at z ⊢
        dsimp only
        split
        · rename_i h1; rw [if_pos h1] at z; exact z
        · rename_i h1
          rw [if_neg h1] at z
          split
          · rename_i h2; rw [if_pos h2] at z; exact z
          · rename_i h2
            rw [if_neg h2] at z
            split
            · rename_i h3; rw [if_pos h3] at z; exact look_app z
            · rename_i h3; rw [if_neg h3] at z; exact z
      · refine ⟨fun e he => grow _ e he, fun k' i _ z => ?_⟩
        unfold TabD.find at z ⊢
        dsimp only
        split
        · rename_i h1; rw [if_pos h1] at z; exact z
        · rename_i h1
          rw [if_neg h1] at z
          split
          · rename_i h2; rw [if_pos h2] at z; exact z
          · rename_i h2
            rw [if_neg h2] at z
            split
            · rename_i h3; rw [if_pos h3] at z; exact z
            · rename_i h3; rw [if_neg h3] at z; exact look_app z
    · unfold TabD.migrate
      split
      · exact ⟨fun e he => grow _ e he, fun k' i _ z => find_arrZ (t := t) (a := [t.order.length]) rfl rfl rfl rfl z⟩
      · obtain ⟨a, b⟩ := mig_order t.nums (32 - (t.arr ++ [t.order.length]).length) ((t.arr ++ [t.order.length]).length + 1) { t with order := t.order ++ [(o.1, v)], arr := t.arr ++ [t.order.length] }
        refine ⟨fun e he => ?_, fun k' i hi z => ?_⟩
        · obtain ⟨y, y1, y2⟩ := grow (o.1, v) e (b e he)
          exact ⟨y, by rw [a]; exact y1, y2⟩
        · exact mig_keep hi _ _ _ (fun e he => grow (o.1, v) e he) rfl (find_arrZ (t := t) (a := [t.order.length]) rfl rfl rfl rfl z)
theorem next_keep {t : TabD} (h : TNk t) (k v k' : Vl) (hn : t.next k' ≠ none) : (t.put k v).2.next k' ≠ none := by
  unfold TabD.next at hn ⊢
  split at hn
  · exact absurd rfl hn
  · rename_i hw
    rw [if_neg hw]
    split at hn
    · rename_i h0
      rw [if_pos h0]
      simp
    · rename_i h0
      rw [if_neg h0]
      dsimp only at hn ⊢
      have key := (put_keep h k v).2 (oneV k').1 (oneV k').2 (oneV_i k') (fun z => by rw [z] at hn; exact hn rfl)
      cases hf : (t.put k v).2.find (oneV k').1 (oneV k').2 with
      | none => exact absurd hf key
      | some p => simp
/-- a table is whole: numbers' entries bear their keys, every key is found -/
structure TN (t : TabD) : Prop where
  nk : TNk t
  kx : ∀ e ∈ t.order, wellV e.1 = true ∧ t.find (oneV e.1).1 (oneV e.1).2 ≠ none
theorem TN.nil : TN tab0 := ⟨fun e he => by simp [tab0] at he, fun e he => by simp [tab0] at he⟩
theorem oneV_one (k : Vl) : oneV (oneV k).1 = oneV k := by
  by_cases h : k.t ≠ 2
  · have e : oneV k = (k, 0) := by unfold oneV; rw [if_pos h]
    rw [e]; exact e
  · cases hq : toIntN k.n with
    | none =>
      have e : oneV k = (k, 0) := by unfold oneV; rw [if_neg h, hq]
      rw [e]; exact e
    | some i =>
      by_cases h0 : i = 0
      · have e : oneV k = (⟨2, 0, k.s⟩, 0) := by unfold oneV; rw [if_neg h, hq]; dsimp only; rw [if_pos h0]
        rw [e]
        show oneV ⟨2, 0, k.s⟩ = _
        have h2 : toIntN (⟨2, 0, k.s⟩ : Vl).n = some 0 := (by decide : toIntN 0 = some 0)
        unfold oneV
        rw [if_neg (by simp), h2]
        rfl
      · have e : oneV k = (k, i) := by unfold oneV; rw [if_neg h, hq]; dsimp only; rw [if_neg h0]
        rw [e]; exact e
theorem oneV_well {k : Vl} (h : wellV k = true) : wellV (oneV k).1 = true := by
  unfold oneV
  split
  · exact h
  · rename_i h2
    have h2 : k.t = 2 := Classical.byContradiction h2
    split
    · exact h
    · split
      · unfold wellV at h ⊢
        rw [if_neg (by omega)] at h
        have hs : k.s = [] := by
          refine Classical.byContradiction fun z => ?_
          rw [if_pos (.inl z)] at h
          cases h
        simp [hs]
      · exact h
theorem mig_arr (l : List (Nat × Nat)) : ∀ (n i0 : Nat) (t : TabD), t.arr <+: (migL l n i0 t).arr := by
  intro n
  induction n with
  | zero => intro i0 t; exact List.prefix_refl _
  | succ n ih =>
    intro i0 t
    unfold migL
    cases atN l (i0 : Int) with
    | none => exact List.prefix_refl _
    | some p =>
      dsimp only
      exact (List.prefix_append t.arr [p]).trans (ih (i0 + 1) { t with nums := t.nums.eraseP (fun e => e.1 == (t.order.getD p (nilV, nilV)).1.n), arr := t.arr ++ [p] })
theorem find_in {t : TabD} {k : Vl} {i : Int} (h : 1 ≤ i ∧ i ≤ t.arr.length) : t.find k i ≠ none := by
  unfold TabD.find
  rw [if_pos h, List.getElem?_eq_getElem (by omega)]
  simp
/-- the new key is found, the others are -/
theorem put_all {t : TabD} (h : TN t) (k v : Vl) : ∀ e ∈ (t.put k v).2.order, wellV e.1 = true ∧ ((∃ e0 ∈ t.order, e0.1 = e.1) ∨ (t.put k v).2.find (oneV e.1).1 (oneV e.1).2 ≠ none) := by
  intro e he
  have old : ∀ e ∈ t.order, wellV e.1 = true ∧ ((∃ e0 ∈ t.order, e0.1 = e.1) ∨ (t.put k v).2.find (oneV e.1).1 (oneV e.1).2 ≠ none) := fun e he => ⟨(h.kx e he).1, .inl ⟨e, he, rfl⟩⟩
  unfold TabD.put at he
  split at he
  · exact old e he
  · rename_i hw
    split at he
    · exact old e he
    · rename_i h0
      split at he
      · exact old e he
      · rename_i hnan
        have hwk : wellV k = true := by
          cases hq : wellV k with
          | true => rfl
          | false => rw [hq] at hw; simp at hw
        dsimp only at he
        cases hf : t.find (oneV k).1 (oneV k).2 with
        | some p =>
          rw [hf] at he
          dsimp only at he
          have he : e ∈ t.order.set p ((t.order.getD p (nilV, nilV)).1, v) := he
          by_cases hpl : p < t.order.length
          case neg =>
            rw [List.set_eq_of_length_le (by omega)] at he
            exact old e he
          rcases List.mem_or_eq_of_mem_set he with z | z
          · exact old e z
          · have hk : t.order.getD p (nilV, nilV) ∈ t.order := by
              rw [List.getD_eq_getElem?_getD, List.getElem?_eq_getElem hpl]
              exact List.getElem_mem hpl
            rw [z]
            exact ⟨(h.kx _ hk).1, .inl ⟨_, hk, rfl⟩⟩
        | none =>
          rw [hf] at he
          dsimp only at he
          split at he
          · exact old e he
          · rename_i hv
            split at he
            · exact old e he
            · rename_i h32
              have hput : (t.put k v).2 = if (oneV k).2 ≠ t.arr.length + 1 then ({ t with order := t.order ++ [((oneV k).1, v)] } : TabD).index (oneV k).1 t.order.length else ({ t with order := t.order ++ [((oneV k).1, v)], arr := t.arr ++ [t.order.length] } : TabD).migrate := by
                unfold TabD.put
                rw [if_neg hw, if_neg h0, if_neg hnan]
                dsimp only
                rw [hf]
                dsimp only
                rw [if_neg hv, if_neg h32]
                split <;> rfl
              have hord : (t.put k v).2.order = t.order ++ [((oneV k).1, v)] := by
                rw [hput]
                split
                · unfold TabD.index
                  split
                  · rfl
                  · split <;> rfl
                · unfold TabD.migrate
                  split
                  · rfl
                  · exact (mig_order _ _ _ _).1
              have he2 : e ∈ t.order ++ [((oneV k).1, v)] := by
                rw [← hord]
                unfold TabD.put
                rw [if_neg hw, if_neg h0, if_neg hnan]
                dsimp only
                rw [hf]
                dsimp only
                rw [if_neg hv, if_neg h32]
                exact he
              rcases List.mem_append.1 he2 with z | z
              · exact old e z
              · have ee : e = ((oneV k).1, v) := by simpa using z
                rw [ee]
                refine ⟨oneV_well hwk, .inr ?_⟩
                show (t.put k v).2.find (oneV (oneV k).1).1 (oneV (oneV k).1).2 ≠ none
                rw [oneV_one, hput]
                by_cases ha : (oneV k).2 ≠ t.arr.length + 1
                · rw [if_pos ha]
                  by_cases hin : 1 ≤ (oneV k).2 ∧ (oneV k).2 ≤ t.arr.length
                  · exact absurd hf (find_in hin)
                  · unfold TabD.find
                    by_cases t2 : (oneV k).1.t = 2
                    · have e : ({ t with order := t.order ++ [((oneV k).1, v)] } : TabD).index (oneV k).1 t.order.length = { t with order := t.order ++ [((oneV k).1, v)], nums := t.nums ++ [((oneV k).1.n, t.order.length)] } := by unfold TabD.index; rw [if_pos t2]
                      rw [e]
                      dsimp only
                      rw [if_neg hin, if_pos t2]
                      exact look_some.2 ⟨_, List.mem_append_right _ (List.mem_singleton_self _), by simp⟩
                    by_cases t3 : (oneV k).1.t = 3
                    · have e : ({ t with order := t.order ++ [((oneV k).1, v)] } : TabD).index (oneV k).1 t.order.length = { t with order := t.order ++ [((oneV k).1, v)], strs := t.strs ++ [((oneV k).1.s, t.order.length)] } := by unfold TabD.index; rw [if_neg t2, if_pos t3]
                      rw [e]
                      dsimp only
                      rw [if_neg hin, if_neg t2, if_pos t3]
                      exact look_some.2 ⟨_, List.mem_append_right _ (List.mem_singleton_self _), by simp⟩
                    · have e : ({ t with order := t.order ++ [((oneV k).1, v)] } : TabD).index (oneV k).1 t.order.length = { t with order := t.order ++ [((oneV k).1, v)], refs := t.refs ++ [(packV (oneV k).1, t.order.length)] } := by unfold TabD.index; rw [if_neg t2, if_neg t3]
                      rw [e]
                      dsimp only
                      rw [if_neg hin, if_neg t2, if_neg t3]
                      exact look_some.2 ⟨_, List.mem_append_right _ (List.mem_singleton_self _), by simp⟩
                · rw [if_neg ha]
                  have ha : (oneV k).2 = t.arr.length + 1 := Classical.byContradiction ha
                  refine find_in ?_
                  have hpre : (t.arr ++ [t.order.length]).length ≤ ({ t with order := t.order ++ [((oneV k).1, v)], arr := t.arr ++ [t.order.length] } : TabD).migrate.arr.length := by
                    unfold TabD.migrate
                    split
                    · exact Nat.le_refl _
                    · exact (mig_arr _ _ _ { t with order := t.order ++ [((oneV k).1, v)], arr := t.arr ++ [t.order.length] }).length_le
                  rw [List.length_append, List.length_singleton] at hpre
                  rw [ha]
                  omega
theorem TN.put {t : TabD} (h : TN t) (k v : Vl) : TN (t.put k v).2 := by
  refine ⟨(put_keep h.nk k v).1, fun e he => ?_⟩
  obtain ⟨p1, p2⟩ := put_all h k v e he
  refine ⟨p1, ?_⟩
  rcases p2 with ⟨e0, q1, q2⟩ | q
  · have := (h.kx e0 q1).2
    rw [q2] at this
    exact (put_keep h.nk k v).2 _ _ (oneV_i _) this
  · exact q
/-- the key that comes next is found in its turn -/
theorem next_next {t : TabD} (h : TN t) {k : Vl} {kv : Vl × Vl} (hn : t.next k = some kv) (h0 : kv.1.t ≠ 0) : t.next kv.1 ≠ none := by
  have mem : kv ∈ t.order := by
    have key : ∀ p, t.nextP p = kv → kv ∈ t.order := fun p hp => by
      unfold TabD.nextP at hp
      cases hq : (t.order.drop p).find? (fun e => !isNilV e.2) with
      | none =>
        rw [hq] at hp
        rw [← hp] at h0
        exact absurd rfl h0
      | some e =>
        rw [hq] at hp
        have hp : e = kv := hp
        rw [← hp]
        exact List.mem_of_mem_drop (List.mem_of_find?_eq_some hq)
    unfold TabD.next at hn
    split at hn
    · cases hn
    · split at hn
      · exact key 0 (Option.some.inj hn)
      · dsimp only at hn
        cases hf : t.find (oneV k).1 (oneV k).2 with
        | none => rw [hf] at hn; cases hn
        | some p => rw [hf] at hn; exact key _ (Option.some.inj hn)
  obtain ⟨w1, w2⟩ := h.kx kv mem
  unfold TabD.next
  rw [w1, if_neg (by simp), if_neg h0]
  dsimp only
  cases hf : t.find (oneV kv.1).1 (oneV kv.1).2 with
  | none => exact absurd hf w2
  | some p => simp
/-- tables keep their keys -/
def TabM (a b : List TabD) : Prop := ∀ n k, (a.getD n tab0).next k ≠ none → (b.getD n tab0).next k ≠ none
theorem TabM.refl (a : List TabD) : TabM a a := fun _ _ h => h
theorem TabM.put {a : List TabD} (h : ∀ t ∈ a, TN t) (n : Nat) (k v : Vl) : TabM a (a.set n ((a.getD n tab0).put k v).2) ∧ ∀ t ∈ a.set n ((a.getD n tab0).put k v).2, TN t := by
  have hn : TN (a.getD n tab0) := by
    rw [List.getD_eq_getElem?_getD]
    cases hq : a[n]? with
    | none => exact TN.nil
    | some t => exact h t (List.mem_of_getElem? hq)
  refine ⟨fun j k' hj => ?_, fun t ht => ?_⟩
  · rw [getD_set]
    split
    · rename_i z
      rw [← z.1] at hj
      exact next_keep hn.nk k v k' hj
    · exact hj
  · rcases List.mem_or_eq_of_mem_set ht with z | z
    · exact h t z
    · rw [z]
      exact hn.put k v
theorem TabM.new {a : List TabD} (h : ∀ t ∈ a, TN t) : TabM a (a ++ [tab0]) ∧ ∀ t ∈ a ++ [tab0], TN t := by
  refine ⟨fun j k' hj => ?_, fun t ht => ?_⟩
  · by_cases hl : j < a.length
    · rw [List.getD_eq_getElem?_getD, List.getElem?_append_left hl, ← List.getD_eq_getElem?_getD]
      exact hj
    · rw [List.getD_eq_getElem?_getD, List.getElem?_eq_none (by omega)] at hj
      rw [List.getD_eq_getElem?_getD]
      by_cases hl2 : j = a.length
      · subst hl2
        simpa using hj
      · rw [List.getElem?_eq_none (by simp; omega)]
        exact hj
  · rcases List.mem_append.1 ht with z | z
    · exact h t z
    · have : t = tab0 := by simpa using z
      subst this
      exact TN.nil
end Go.Proofs.Qxb6500574aGreatDoor
