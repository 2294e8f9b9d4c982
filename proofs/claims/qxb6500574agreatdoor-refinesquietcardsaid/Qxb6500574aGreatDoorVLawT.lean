/-
  moon: A TABLE KEEPS TO ITS WORD. Plain laws; no memory, no walk.
-/
import Derived.Test.Qxb6500574aGreatDoorVInv0
namespace Go.Proofs.Qxb6500574aGreatDoor
set_option linter.unusedVariables false
set_option linter.unusedSimpArgs false

theorem TFit.turn {t : TabD} (hf : TFit t) {p : Nat} (hp : p < t.order.length) (v : Vl) : TFit (t.turn p v) := by
  have he : t.order[p]? = some t.order[p] := List.getElem?_eq_getElem hp
  have hd : t.order.getD p (nilV, nilV) = t.order[p] := by simp [hp]
  refine ⟨by simpa [TabD.turn] using hf.ol, hf.al, fun q hq => by simpa [TabD.turn] using hf.ap q hq, fun x hx => by simpa [TabD.turn] using hf.np x hx, hf.nb, by simpa [TabD.turn] using hf.sm, fun x hx => ?_, fun x hx => by simpa [TabD.turn] using hf.sp x hx, fun x hx => by simpa [TabD.turn] using hf.rp x hx, ?_⟩
  · obtain ⟨y, h1, h2⟩ := hf.nk x hx
    unfold TabD.turn
    dsimp only
    by_cases e : p = x.2
    · refine ⟨(t.order[p].1, v), ?_, ?_⟩
      · rw [hd, ← e, List.getElem?_set_self hp]
      · rw [← e, he] at h1
        cases h1
        exact h2
    · exact ⟨y, by rw [List.getElem?_set_ne e]; exact h1, h2⟩
  · unfold TabD.turn
    dsimp only
    rw [hd, hf.dd, List.countP_set hp]
    have hle : (if isNilV t.order[p].2 = true then 1 else 0) ≤ t.order.countP (fun e => isNilV e.2) := by
      split
      · rename_i h
        exact List.countP_pos_iff.2 ⟨_, List.getElem_mem hp, h⟩
      · omega
    cases h1 : isNilV t.order[p].2 <;> cases h2 : isNilV v <;> simp only [h1, h2, Bool.not_true, Bool.not_false, Bool.and_true, Bool.and_false, Bool.true_and, Bool.false_and, Bool.false_eq_true, if_true, if_false] at hle ⊢ <;> omega
theorem TFit.app1 {t : TabD} (hf : TFit t) (h32 : t.order.length < 32) (e : Vl × Vl) (he : isNilV e.2 = false) : TFit { t with order := t.order ++ [e] } :=
  ⟨by simp; omega, hf.al, fun p hp => by have := hf.ap p hp; simp; omega, fun x hx => by have := hf.np x hx; simp; omega, hf.nb, by have := hf.sm; simp; omega, fun x hx => by
    obtain ⟨y, h1, h2⟩ := hf.nk x hx
    exact ⟨y, by rw [List.getElem?_append_left (List.getElem?_eq_some_iff.1 h1).1]; exact h1, h2⟩, fun x hx => by have := hf.sp x hx; simp; omega, fun x hx => by have := hf.rp x hx; simp; omega, by rw [List.countP_append]; simp [he]; exact hf.dd⟩
theorem TFit.app2 {t : TabD} (hf : TFit t) (h32 : t.order.length < 32) (e : Vl × Vl) (he : isNilV e.2 = false) : TFit { t with order := t.order ++ [e], arr := t.arr ++ [t.order.length] } := by
  have h1 := hf.app1 h32 e he
  have hs := hf.sm
  refine ⟨h1.ol, by simp; omega, fun p hp => ?_, h1.np, h1.nb, by simp; omega, h1.nk, h1.sp, h1.rp, h1.dd⟩
  simp at hp ⊢
  rcases hp with hp | hp
  · have := hf.ap p hp; omega
  · omega
theorem TFit.index {t : TabD} (hf : TFit t) (h32 : t.order.length < 32) (k v : Vl) (he : isNilV v = false) (hk : k.t = 2 → k.n < 18446744073709551616) : TFit (({ t with order := t.order ++ [(k, v)] } : TabD).index k t.order.length) := by
  have h1 := hf.app1 h32 (k, v) he
  have hs := hf.sm
  unfold TabD.index
  split
  · rename_i h2
    refine ⟨h1.ol, h1.al, h1.ap, fun x hx => ?_, fun x hx => ?_, by simp; omega, fun x hx => ?_, h1.sp, h1.rp, h1.dd⟩
    · rcases List.mem_append.1 hx with hx | hx
      · exact h1.np x hx
      · simp at hx; rw [hx]; simp
    · rcases List.mem_append.1 hx with hx | hx
      · exact h1.nb x hx
      · simp at hx; rw [hx]; exact hk h2
    · rcases List.mem_append.1 hx with hx | hx
      · exact h1.nk x hx
      · simp at hx; rw [hx]; exact ⟨(k, v), by simp, rfl⟩
  · split
    · refine ⟨h1.ol, h1.al, h1.ap, h1.np, h1.nb, h1.sm, h1.nk, fun x hx => ?_, h1.rp, h1.dd⟩
      rcases List.mem_append.1 hx with hx | hx
      · exact h1.sp x hx
      · simp at hx; rw [hx]; simp
    · refine ⟨h1.ol, h1.al, h1.ap, h1.np, h1.nb, h1.sm, h1.nk, h1.sp, fun x hx => ?_, h1.dd⟩
      rcases List.mem_append.1 hx with hx | hx
      · exact h1.rp x hx
      · simp at hx; rw [hx]; simp
theorem atN_mem {l : List (Nat × Nat)} {i : Int} {p : Nat} (h : atN l i = some p) : ∃ e ∈ l, e.2 = p ∧ toIntN e.1 = some i := by
  unfold atN at h
  cases hf : l.find? (fun e => toIntN e.1 == some i) with
  | none => rw [hf] at h; cases h
  | some e =>
    rw [hf] at h
    simp at h
    exact ⟨e, List.mem_of_find?_eq_some hf, h, by have := List.find?_some hf; simpa using this⟩
theorem TFit.migL (l : List (Nat × Nat)) : ∀ (k i : Nat) (t : TabD), TFit t → (∀ e ∈ l, ∀ j : Int, toIntN e.1 = some j → (i : Int) ≤ j → e ∈ t.nums) → TFit (migL l k i t) ∧ (migL l k i t).order = t.order := by
  intro k
  induction k with
  | zero => intro i t hf _; exact ⟨hf, rfl⟩
  | succ k ih =>
    intro i t hf hl
    unfold Go.Proofs.Qxb6500574aGreatDoor.migL
    cases ha : atN l i with
    | none => exact ⟨hf, rfl⟩
    | some p =>
      dsimp only
      obtain ⟨e, he, rfl, hi⟩ := atN_mem ha
      have hen := hl e he i hi (Int.le_refl _)
      obtain ⟨x, hx1, hx2⟩ := hf.nk e hen
      have hkey : (t.order.getD e.2 (nilV, nilV)).1.n = e.1 := by
        rw [List.getD_eq_getElem?_getD, hx1]; exact hx2
      rw [hkey]
      have hlen : (t.nums.eraseP (fun y => y.1 == e.1)).length + 1 = t.nums.length := by
        have h1 := List.length_eraseP_of_mem (p := fun y : Nat × Nat => y.1 == e.1) hen (by simp)
        have h2 : 0 < t.nums.length := List.length_pos_of_mem hen
        omega
      have hsub : ∀ y ∈ t.nums.eraseP (fun y => y.1 == e.1), y ∈ t.nums := fun y hy => List.mem_of_mem_eraseP hy
      have hs := hf.sm
      have ho := hf.ol
      have hf2 : TFit { t with nums := t.nums.eraseP (fun y => y.1 == e.1), arr := t.arr ++ [e.2] } := by
        refine ⟨hf.ol, by simp; omega, fun q hq => ?_, fun y hy => hf.np y (hsub y hy), fun y hy => hf.nb y (hsub y hy), by simp only [List.length_append, List.length_singleton]; omega, fun y hy => hf.nk y (hsub y hy), hf.sp, hf.rp, hf.dd⟩
        rcases List.mem_append.1 hq with hq | hq
        · exact hf.ap q hq
        · simp at hq; rw [hq]; exact hf.np e hen
      obtain ⟨r1, r2⟩ := ih (i + 1) _ hf2 (fun y hy j hj hij => by
        have h1 := hl y hy j hj (by omega)
        have hne : ¬ (fun y : Nat × Nat => y.1 == e.1) y = true := by
          intro h
          have h2 : y.1 = e.1 := by simpa using h
          rw [h2, hi] at hj
          cases hj
          omega
        exact (List.mem_eraseP_of_neg (by simpa using hne)).2 h1)
      exact ⟨r1, r2⟩
theorem TFit.migrate {t : TabD} (hf : TFit t) : TFit t.migrate ∧ t.migrate.order = t.order := by
  unfold TabD.migrate
  split
  · exact ⟨hf, rfl⟩
  · exact TFit.migL _ _ _ _ hf (fun e he _ _ _ => he)
theorem one_t (k : Vl) : (oneV k).1.t = k.t := by
  unfold oneV
  split
  · rfl
  · split
    · rfl
    · split
      · rename_i h _ _ _ _; simpa using (Decidable.not_not.1 h).symm
      · rfl
theorem one_n (k : Vl) : (oneV k).1.n = k.n ∨ ((oneV k).1.n = 0) := by
  unfold oneV
  split
  · exact .inl rfl
  · split
    · exact .inl rfl
    · split
      · exact .inr rfl
      · exact .inl rfl
theorem one_s (k : Vl) : (oneV k).1.s = k.s := by
  unfold oneV
  split
  · rfl
  · split
    · rfl
    · split <;> rfl
/-- put: the table fits as before; its pairs are the elder ones, the new one, or an elder key with the new value -/
theorem TFit.put {t : TabD} (hf : TFit t) (k v : Vl) (hk : k.t = 2 → k.n < 18446744073709551616) : TFit (t.put k v).2 ∧ ∀ e ∈ (t.put k v).2.order, e ∈ t.order ∨ (wellV k = true ∧ wellV v = true ∧ e.2 = v ∧ ((∃ y, (e.1, y) ∈ t.order) ∨ e.1 = (oneV k).1)) := by
  have same : TFit t ∧ ∀ e ∈ t.order, e ∈ t.order ∨ (wellV k = true ∧ wellV v = true ∧ e.2 = v ∧ ((∃ y, (e.1, y) ∈ t.order) ∨ e.1 = (oneV k).1)) := ⟨hf, fun e he => .inl he⟩
  unfold TabD.put
  split
  · exact same
  · rename_i hw
    have hw1 : wellV k = true ∧ wellV v = true := by simpa using hw
    split
    · exact same
    · split
      · exact same
      · dsimp only
        split
        · rename_i p hp
          have hlt := hf.find hp
          refine ⟨hf.turn hlt v, fun e he => ?_⟩
          unfold TabD.turn at he
          dsimp only at he
          rcases List.mem_or_eq_of_mem_set he with he | he
          · exact .inl he
          · right
            rw [he]
            refine ⟨hw1.1, hw1.2, rfl, .inl ⟨t.order[p].2, ?_⟩⟩
            rw [show t.order.getD p (nilV, nilV) = t.order[p] by simp [hlt]]
            exact List.getElem_mem hlt
        · split
          · exact same
          · rename_i hnil
            have hnil' : isNilV v = false := by simpa using hnil
            split
            · exact same
            · rename_i h32
              have h32' : t.order.length < 32 := by omega
              have hn2 : (oneV k).1.t = 2 → (oneV k).1.n < 18446744073709551616 := by
                intro h
                rw [one_t] at h
                rcases one_n k with h3 | h3 <;> rw [h3]
                · exact hk h
                · omega
              have ord : ∀ e ∈ t.order ++ [((oneV k).1, v)], e ∈ t.order ∨ (wellV k = true ∧ wellV v = true ∧ e.2 = v ∧ ((∃ y, (e.1, y) ∈ t.order) ∨ e.1 = (oneV k).1)) := by
                intro e he
                rcases List.mem_append.1 he with he | he
                · exact .inl he
                · simp at he
                  rw [he]
                  exact .inr ⟨hw1.1, hw1.2, rfl, .inr rfl⟩
              split
              · refine ⟨hf.index h32' _ v hnil' hn2, fun e he => ord e ?_⟩
                unfold TabD.index at he
                dsimp only at he
                split at he
                · exact he
                · split at he <;> exact he
              · have h2 := hf.app2 h32' ((oneV k).1, v) hnil'
                obtain ⟨r1, r2⟩ := h2.migrate
                refine ⟨r1, fun e he => ord e ?_⟩
                dsimp only at r2
                rw [r2] at he
                exact he
end Go.Proofs.Qxb6500574aGreatDoor
