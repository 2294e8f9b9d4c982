/-
  moon: THE INTERPRETER's OWN VALUES, at every step. Plain; no memory, no walk.
-/
import Derived.Test.Qxb6500574aGreatDoorZM50
namespace Go.Proofs.Qxb6500574aGreatDoor
set_option linter.unusedVariables false
set_option linter.unusedSimpArgs false
section
variable {N : List Nd} {root : Nat} {M : MD} {T : MTh} {k : TkD} {tl : List TkD}
/-- a call behind its pops -/
theorem MI.apl (h : MI M) (hst : T.st = 4) (hs : HK M.tabs T.vals T.tasks (T.vals.length + 2) T.vals.length) (fn : Vl) (args : List Vl) (hd : (aplC N root (M.st T) fn args).done = none) : MI (aplC N root (M.st T) fn args) := by
  have th : ∀ v, ((M.st T).throw v).done = none → MI ((M.st T).throw v) := fun v z => h.throw hst hs (Nat.le_refl _) v z
  have two : ∀ a b, MI ((M.st T).push [a, b]) := fun a b => h.push hst [a, b] hs
  have en : ∀ c as p, MI ((M.st T).enter N root c as p) := fun c as p => h.enter hst hs c as p
  unfold aplC at hd ⊢
  dsimp only at hd ⊢
  by_cases f5 : fn.t = 5
  · rw [if_pos f5] at hd ⊢
    split at hd
    · rename_i z; rw [if_pos z]; exact th _ hd
    · rename_i z; rw [if_neg z]; exact en _ _ _
  rw [if_neg f5] at hd ⊢
  by_cases f6 : fn.t ≠ 6
  · rw [if_pos f6] at hd ⊢; exact th _ hd
  rw [if_neg f6] at hd ⊢
  by_cases n1 : fn.n = 1
  · rw [if_pos n1] at hd ⊢
    split at hd
    · cases hd
    · rename_i z
      rw [if_neg z]
      exact (two nilV nilV).out _
  rw [if_neg n1] at hd ⊢
  by_cases n2 : fn.n = 2
  · rw [if_pos n2]; exact two _ _
  rw [if_neg n2] at hd ⊢
  by_cases n3 : fn.n = 3
  · rw [if_pos n3]; exact two _ _
  rw [if_neg n3] at hd ⊢
  by_cases n4 : fn.n = 4
  · rw [if_pos n4]; exact two _ _
  rw [if_neg n4] at hd ⊢
  by_cases n5 : fn.n = 5
  · rw [if_pos n5] at hd ⊢; exact th _ hd
  rw [if_neg n5] at hd ⊢
  by_cases n6 : fn.n = 6
  · rw [if_pos n6] at hd ⊢
    split at hd
    · rename_i z; rw [if_pos z]; exact two _ _
    · rename_i z
      rw [if_neg z]
      split at hd
      · rename_i z2; rw [if_pos z2]; exact two _ _
      · rename_i z2; rw [if_neg z2]; exact en _ _ _
  rw [if_neg n6] at hd ⊢
  by_cases n7 : fn.n = 7
  · rw [if_pos n7] at hd ⊢
    split at hd
    · rename_i z; rw [if_pos z]; exact th _ hd
    · rename_i z
      rw [if_neg z]
      cases hn : ((M.st T).tabs.getD (args.getD 0 nilV).n tab0).next (args.getD 1 nilV) with
      | none => rw [hn] at hd; exact th _ hd
      | some r => exact two _ _
  rw [if_neg n7] at hd ⊢
  by_cases n8 : fn.n = 8
  · rw [if_pos n8] at hd ⊢
    split at hd
    · rename_i z; rw [if_pos z]; exact th _ hd
    · rename_i z
      rw [if_neg z]
      split at hd
      · cases hd
      · rename_i z2
        rw [if_neg z2]
        have q := (two ⟨7, (M.st T).ths.length, []⟩ nilV).spawn (args.getD 0 nilV).n
        have e : (({ M.st T with ths := (M.st T).ths ++ [⟨1, (args.getD 0 nilV).n, 0, [], []⟩] } : MD).push [⟨7, (M.st T).ths.length, []⟩, nilV]) = { (M.st T).push [⟨7, (M.st T).ths.length, []⟩, nilV] with ths := ((M.st T).push [⟨7, (M.st T).ths.length, []⟩, nilV]).ths ++ [⟨1, (args.getD 0 nilV).n, 0, [], []⟩] } := by
          rw [st_push h.cl]
          unfold MD.push MD.upT MD.th
          have hc := h.cl
          have e1 : (M.ths.set M.cur T ++ [(⟨1, (args.getD 0 nilV).n, 0, [], []⟩ : MTh)]).getD M.cur mt0 = T := by
            rw [List.getD_eq_getElem?_getD, List.getElem?_append_left (by rw [List.length_set]; exact hc), List.getElem?_set_self hc]
            rfl
          have e2 : ∀ Y : MTh, (M.ths.set M.cur T ++ [(⟨1, (args.getD 0 nilV).n, 0, [], []⟩ : MTh)]).set M.cur Y = M.ths.set M.cur Y ++ [⟨1, (args.getD 0 nilV).n, 0, [], []⟩] := fun Y => by
            rw [List.set_append_left _ _ (by rw [List.length_set]; exact hc), List.set_set]
          show MD.mk _ _ _ ((M.ths.set M.cur T ++ [(⟨1, (args.getD 0 nilV).n, 0, [], []⟩ : MTh)]).set M.cur { (M.ths.set M.cur T ++ [(⟨1, (args.getD 0 nilV).n, 0, [], []⟩ : MTh)]).getD M.cur mt0 with vals := ((M.ths.set M.cur T ++ [(⟨1, (args.getD 0 nilV).n, 0, [], []⟩ : MTh)]).getD M.cur mt0).vals ++ _ }) _ _ _ _ _ _ = _
          rw [e1, e2]
          rfl
        rw [e]
        exact q
  rw [if_neg n8] at hd ⊢
  by_cases n9 : fn.n = 9
  · rw [if_pos n9] at hd ⊢
    split at hd
    · rename_i z; rw [if_pos z]; exact th _ hd
    · rename_i z
      rw [if_neg z]
      split at hd
      · rename_i z2; rw [if_pos z2]; exact two _ _
      · rename_i z2
        rw [if_neg z2]
        obtain ⟨c, e1, e2, e3, B⟩ := h.res hs hst (j := (args.getD 0 nilV).n) (by omega)
        rw [e1, e3]
        split
        · have q := (B.first (M.first + 1)).enter (N := N) (root := root) (T1 := { c with st := 4 }) rfl e2 c.fn [args.getD 1 nilV] 0
          have e4 : (({ (({ M.st { T with st := 3 } with stack := M.cur :: M.stack, cur := (args.getD 0 nilV).n } : MD).st { c with st := 4, tasks := [] }) with first := M.first + 1 } : MD).st { c with st := 4 }) = ({ (({ M.st { T with st := 3 } with stack := M.cur :: M.stack, cur := (args.getD 0 nilV).n } : MD).st { c with st := 4 }) with first := (M.st T).first + 1 } : MD) := by
            simp [MD.st]
          rw [e4] at q
          exact q
        · have q := B.push (T := { c with st := 4 }) rfl [args.getD 1 nilV, nilV] e2
          rw [st_st] at q
          exact q
  rw [if_neg n9] at hd ⊢
  by_cases n10 : fn.n = 10
  · rw [if_pos n10] at hd ⊢
    split at hd
    · rename_i z; rw [if_pos z]; exact th _ hd
    · rename_i z
      rw [if_neg z]
      have es : (M.st T).stack = M.stack := rfl
      rw [es]
      cases hk : M.stack with
      | nil =>
        exfalso
        have la := h.la
        rw [hk] at la
        simp at la
        exact z la
      | cons c r =>
        dsimp only
        rw [st_up h.cl]
        exact h.wake (T2 := { T with st := 2 }) hs hk _ _
  rw [if_neg n10] at hd ⊢
  by_cases n11 : fn.n = 11
  · rw [if_pos n11] at hd ⊢
    split at hd
    · rename_i z; rw [if_pos z]; exact th _ hd
    · rename_i z; rw [if_neg z]; exact two _ _
  rw [if_neg n11]
  exact two _ _
end
end Go.Proofs.Qxb6500574aGreatDoor
