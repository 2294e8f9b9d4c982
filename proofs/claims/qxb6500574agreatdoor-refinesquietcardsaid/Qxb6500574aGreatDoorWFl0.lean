/-
  moon: THE TREE LAID FLAT: pieces of the arena. Plain; no memory, no walk.
-/
import Derived.Test.Qxb6500574aGreatDoorWAs0
namespace Go.Proofs.Qxb6500574aGreatDoor
open Go Go.RowKit
set_option linter.unusedVariables false
set_option linter.unusedSimpArgs false
/-- the nodes (lo, n] -/
def fulN (N : List Nd) (lo n : Nat) : List Nd := (List.range' (lo + 1) (n - lo)).map fun i => N.getD i nd0
/-- the same, the last one not linked yet -/
def segN (N : List Nd) (lo n : Nat) : List Nd := (List.range' (lo + 1) (n - lo)).map fun i => if i = n then (N.getD i nd0).cut else N.getD i nd0
theorem fulN_len (N : List Nd) (lo n : Nat) : (fulN N lo n).length = n - lo := by simp [fulN]
theorem segN_len (N : List Nd) (lo n : Nat) : (segN N lo n).length = n - lo := by simp [segN]
theorem fulN_self (N : List Nd) (lo : Nat) : fulN N lo lo = [] := by simp [fulN]
theorem cut_self {d : Nd} (h : d.next = 0) : d.cut = d := by
  cases d
  cases h
  rfl
theorem seg_ful {N : List Nd} {lo n : Nat} (h : (N.getD n nd0).next = 0) : segN N lo n = fulN N lo n := by
  unfold segN fulN
  refine List.map_congr_left fun i _ => ?_
  split
  · rename_i e
    subst e
    exact cut_self h
  · rfl
theorem ful_app {N : List Nd} {lo a n : Nat} (h1 : lo ≤ a) (h2 : a ≤ n) : fulN N lo a ++ fulN N a n = fulN N lo n := by
  unfold fulN
  rw [← List.map_append, show n - lo = (a - lo) + (n - a) by omega, ← List.range'_append, show lo + 1 + 1 * (a - lo) = a + 1 by omega]
theorem ful_seg {N : List Nd} {lo a n : Nat} (h1 : lo ≤ a) (h2 : a < n) : fulN N lo a ++ segN N a n = segN N lo n := by
  unfold fulN segN
  rw [show n - lo = (a - lo) + (n - a) by omega, ← List.range'_append, show lo + 1 + 1 * (a - lo) = a + 1 by omega, List.map_append]
  congr 1
  refine List.map_congr_left fun i hi => ?_
  have := List.mem_range'_1.1 hi
  rw [if_neg (by omega)]
/-- the root comes last -/
theorem ful_root {N : List Nd} {lo n : Nat} {d : Nd} (hd : (N.getD (n + 1) nd0).cut = d) (h : lo ≤ n) : fulN N lo n ++ [d] = segN N lo (n + 1) := by
  rw [← ful_seg h (Nat.lt_succ_self n)]
  unfold segN
  rw [show n + 1 - n = 1 by omega]
  rw [← hd]
  simp [List.range']
/-- a member is linked -/
theorem seg_link {N : List Nd} {A : List Nd} {lo a n : Nat} (hA : A.length = lo + 1) (h1 : lo < a) (h2 : a < n) : (A ++ segN N lo a ++ segN N a n).set a { (A ++ segN N lo a ++ segN N a n).getD a nd0 with next := (N.getD a nd0).next } = A ++ segN N lo n := by
  obtain ⟨a, rfl⟩ : ∃ b, a = b + 1 := ⟨a - 1, by omega⟩
  have e1 : segN N lo (a + 1) = fulN N lo a ++ [(N.getD (a + 1) nd0).cut] := (ful_root rfl (by omega)).symm
  have e2 : fulN N lo (a + 1) = fulN N lo a ++ [N.getD (a + 1) nd0] := by
    rw [← ful_app (N := N) (lo := lo) (a := a) (n := a + 1) (by omega) (by omega)]
    congr 1
    unfold fulN
    rw [show a + 1 - a = 1 by omega]
    rfl
  rw [← ful_seg (N := N) (lo := lo) (a := a + 1) (n := n) (by omega) h2, e1, e2]
  have hl : (A ++ fulN N lo a).length = a + 1 := by rw [List.length_append, fulN_len, hA]; omega
  have f : ∀ d : Nd, A ++ (fulN N lo a ++ [d]) ++ segN N (a + 1) n = (A ++ fulN N lo a) ++ d :: segN N (a + 1) n := fun d => by simp
  have f2 : A ++ (fulN N lo a ++ [N.getD (a + 1) nd0] ++ segN N (a + 1) n) = (A ++ fulN N lo a) ++ N.getD (a + 1) nd0 :: segN N (a + 1) n := by simp
  have g : ((A ++ fulN N lo a) ++ (N.getD (a + 1) nd0).cut :: segN N (a + 1) n).getD (a + 1) nd0 = (N.getD (a + 1) nd0).cut := by
    rw [List.getD_eq_getElem?_getD, List.getElem?_append_right (by omega), hl, Nat.sub_self]
    rfl
  rw [f, f2, g, List.set_append_right _ _ (by omega), hl, Nat.sub_self]
  rfl
/-- a list that was laid: its last member has no next -/
theorem Lst.last {N : List Nd} : ∀ {l : List Mb} {lo hi f : Nat}, Lst N lo hi f l → l ≠ [] → (N.getD hi nd0).next = 0
  | [], _, _, _, _, h => absurd rfl h
  | [x], lo, hi, f, h, _ => by
    obtain ⟨_, _, _, h1, h2⟩ := h
    rw [h1]; exact h2
  | x :: y :: r, lo, hi, f, h, _ => Lst.last (l := y :: r) h.2.2.2 (by simp)
/-- where the first j members end -/
def endJ : Nat → List Mb → Nat → Nat
  | lo, [], _ => lo
  | lo, _ :: _, 0 => lo
  | _, x :: r, j + 1 => endJ x.2.1 r j
theorem Lst.at {N : List Nd} : ∀ {l : List Mb} {lo hi f j : Nat} {x : Mb}, Lst N lo hi f l → l[j]? = some x → x.1 = endJ lo l j ∧ x.1 < x.2.1 ∧ endJ lo l (j + 1) = x.2.1 ∧ lo ≤ x.1 ∧ (j = 0 → f = x.2.1 ∧ x.1 = lo) ∧ (0 < j → lo < x.1 ∧ (N.getD x.1 nd0).next = x.2.1)
  | [], _, _, _, _, _, _, h => by simp at h
  | y :: r, lo, hi, f, 0, x, h, hx => by
    simp only [List.getElem?_cons_zero, Option.some.injEq] at hx
    subst hx
    obtain ⟨h1, h2, h3, _⟩ := h
    refine ⟨h1, by omega, ?_, by omega, fun _ => ⟨h3, h1⟩, fun h => absurd h (Nat.lt_irrefl _)⟩
    cases r <;> rfl
  | y :: r, lo, hi, f, j + 1, x, h, hx => by
    simp only [List.getElem?_cons_succ] at hx
    obtain ⟨h1, h2, h3, h4⟩ := h
    obtain ⟨a1, a2, a3, a4, a5, a6⟩ := Lst.at h4 hx
    refine ⟨a1, a2, a3, by omega, fun h => by omega, fun _ => ⟨by omega, ?_⟩⟩
    by_cases hj : j = 0
    · obtain ⟨b1, b2⟩ := a5 hj
      rw [b2]
      exact b1
    · exact (a6 (by omega)).2
theorem Lst.end {N : List Nd} : ∀ {l : List Mb} {lo hi f : Nat}, Lst N lo hi f l → endJ lo l l.length = hi
  | [], _, _, _, h => h.1.symm
  | x :: r, lo, hi, f, h => by
    show endJ x.2.1 r r.length = hi
    exact Lst.end h.2.2.2
end Go.Proofs.Qxb6500574aGreatDoor
