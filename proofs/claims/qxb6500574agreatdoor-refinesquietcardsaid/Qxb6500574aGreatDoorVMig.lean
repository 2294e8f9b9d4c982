/-
  THE WALK of table: migrate.
-/
import Derived.Test.Qxb6500574aGreatDoorVIndex
import Derived.Test.Qxb6500574aGreatDoorVApp
import Derived.Test.Qxb6500574aGreatDoorVFloat2
import Derived.Laws.IdiomRangeMap
namespace Go.Proofs.Qxb6500574aGreatDoor
open Go Go.RowKit
set_option linter.unusedVariables false
set_option linter.unusedSimpArgs false

def atCells (f : Nat → Int) : List Value := (List.range 33).map fun i => .int .i32 (f i)
theorem atCells_at (f : Nat → Int) {i : Nat} (h : i < 33) : (atCells f)[i]? = some (.int .i32 (f i)) := by
  unfold atCells
  rw [List.getElem?_map, List.getElem?_range h]
  rfl
theorem atCells_set (f : Nat → Int) (i : Nat) (v : Int) : (atCells f).set i (.int .i32 v) = atCells (fun k => if k = i then v else f k) := by
  apply List.ext_getElem?
  intro k
  by_cases hk : k < 33
  · rw [atCells_at _ hk, List.getElem?_set]
    by_cases e : i = k
    · subst e
      rw [if_pos rfl, if_pos (by simp [atCells]; exact hk)]
      simp
    · rw [if_neg e, atCells_at _ hk, if_neg (fun x => e x.symm)]
  · rw [List.getElem?_eq_none (by simp [atCells]; omega), List.getElem?_eq_none (by simp [atCells]; omega)]
/-- what the sweep over the map has noted -/
structure AtInv (K : Nat) (es : Array MapEntry) (seen : Array Nat) (f : Nat → Int) : Prop where
  a : ∀ i, f i = 0 ∨ ∃ e ∈ es.toList, ∃ b p : Nat, e.key = .int .u64 b ∧ e.val = .int .i32 p ∧ toIntN b = some (i : Int) ∧ f i = p + 1
  b : ∀ e ∈ es.toList, seen.contains e.born = true → ∀ (b p i : Nat), e.key = .int .u64 b → e.val = .int .i32 p → toIntN b = some (i : Int) → K < i → i ≤ 32 → f i ≠ 0
theorem AtInv.skip {K : Nat} {es : Array MapEntry} {seen : Array Nat} {f : Nat → Int} (h : AtInv K es seen f) (hn : (es.toList.map (·.born)).Nodup) {e : MapEntry} (he : e ∈ es.toList) {b p : Nat} (hk : e.key = .int .u64 b) (hv : e.val = .int .i32 p) (hno : ∀ i : Nat, toIntN b = some (i : Int) → K < i → i ≤ 32 → False) : AtInv K es (seen.push e.born) f := by
  refine ⟨h.a, fun e' he' hs b' p' i hk' hv' ht hK h32 => ?_⟩
  rw [contains_push] at hs
  rcases Bool.or_eq_true _ _ ▸ hs with hs | hs
  · exact h.b e' he' hs b' p' i hk' hv' ht hK h32
  · have hb : e'.born = e.born := by simpa using hs
    have e1 := find_born e es.toList hn he
    have e2 := find_born e' es.toList hn he'
    rw [hb, e1] at e2
    cases e2
    rw [hk] at hk'
    injection hk' with _ hk'
    have : b' = b := by omega
    subst this
    exact (hno i ht hK h32).elim
theorem AtInv.note {K : Nat} {es : Array MapEntry} {seen : Array Nat} {f : Nat → Int} (h : AtInv K es seen f) (hn : (es.toList.map (·.born)).Nodup) {e : MapEntry} (he : e ∈ es.toList) {b p : Nat} (hk : e.key = .int .u64 b) (hv : e.val = .int .i32 p) {i : Nat} (ht : toIntN b = some (i : Int)) : AtInv K es (seen.push e.born) (fun k => if k = i then (p : Int) + 1 else f k) := by
  refine ⟨fun j => ?_, fun e' he' hs b' p' j hk' hv' ht' hK h32 => ?_⟩
  · by_cases hj : j = i
    · subst hj
      right
      exact ⟨e, he, b, p, hk, hv, ht, by simp⟩
    · simp only [if_neg hj]
      exact h.a j
  · by_cases hj : j = i
    · simp only [if_pos hj]
      omega
    · simp only [if_neg hj]
      rw [contains_push] at hs
      rcases Bool.or_eq_true _ _ ▸ hs with hs | hs
      · exact h.b e' he' hs b' p' j hk' hv' ht' hK h32
      · have hb : e'.born = e.born := by simpa using hs
        have e1 := find_born e es.toList hn he
        have e2 := find_born e' es.toList hn he'
        rw [hb, e1] at e2
        cases e2
        rw [hk] at hk'
        injection hk' with _ hk'
        have : b' = b := by omega
        subst this
        rw [ht] at ht'
        cases ht'
        exact (hj rfl).elim
/-- all of them seen: the table of the law -/
theorem AtInv.all {K c : Nat} {es : Array MapEntry} {seen : Array Nat} {f : Nat → Int} (h : AtInv K es seen f) (h0 : (leftOf es seen).size = 0) {l : List (Nat × Nat)} (hl : es.toList.map (fun e => (e.key, e.val)) = ents nk l) (hs : MapKept.Stamped es c) (h64 : ∀ e ∈ l, e.1 < 18446744073709551616) {i : Nat} (hK : K < i) (h32 : i ≤ 32) :
    f i = match atN l i with | none => 0 | some p => (p : Int) + 1 := by
  have hseen : ∀ e ∈ es.toList, seen.contains e.born = true := fun e he => by
    have hl0 : leftOf es seen = #[] := Array.eq_empty_of_size_eq_zero h0
    cases hc : seen.contains e.born with
    | true => rfl
    | false =>
      have : e ∈ leftOf es seen := Array.mem_filter.2 ⟨by simpa using he, by rw [hc]; rfl⟩
      rw [hl0] at this
      simp at this
  have hmem : ∀ e ∈ es.toList, ∃ y ∈ l, e.key = .int .u64 y.1 ∧ e.val = .int .i32 y.2 := fun e he => by
    have : (e.key, e.val) ∈ ents nk l := hl ▸ List.mem_map.2 ⟨e, he, rfl⟩
    obtain ⟨y, h1, h2⟩ := List.mem_map.1 this
    injection h2 with h2 h3
    exact ⟨y, h1, h2.symm, h3.symm⟩
  have hnd := ents_nodup hl hs
  have uniq : ∀ y ∈ l, ∀ z ∈ l, y.1 = z.1 → y = z := by
    intro y hy z hz e
    have h1 := look_at hnd (k := y.1) (p := y.2) (j := l.findIdx (fun x => x.1 == y.1)) 
    obtain ⟨a, ha⟩ := List.getElem?_of_mem hy
    obtain ⟨b, hb⟩ := List.getElem?_of_mem hz
    have l1 := look_at hnd (k := y.1) (p := y.2) ha
    have l2 := look_at hnd (k := z.1) (p := z.2) hb
    rw [e, l2] at l1
    injection l1 with l1
    exact Prod.ext e l1.symm
  unfold atN
  cases hf : l.find? (fun e => toIntN e.1 == some (i : Int)) with
  | none =>
    rcases h.a i with h1 | ⟨e, he, b, p, hk, hv, ht, _⟩
    · exact h1
    · obtain ⟨y, hy, hy1, hy2⟩ := hmem e he
      rw [hk] at hy1
      injection hy1 with _ hy1
      have : b = y.1 := by omega
      have := List.find?_eq_none.1 hf y hy
      simp [← ‹b = y.1›, ht] at this
  | some y =>
    have hy := List.mem_of_find?_eq_some hf
    have hty := List.find?_some hf
    simp at hty
    have hx : ∃ e ∈ es.toList, e.key = .int .u64 y.1 ∧ e.val = .int .i32 y.2 := by
      have : (Value.int .u64 y.1, Value.int .i32 y.2) ∈ es.toList.map (fun e => (e.key, e.val)) := hl ▸ List.mem_map.2 ⟨y, hy, rfl⟩
      obtain ⟨e, he, h2⟩ := List.mem_map.1 this
      injection h2 with h2 h3
      exact ⟨e, he, h2, h3⟩
    obtain ⟨e, he, ek, ev⟩ := hx
    rcases h.a i with h1 | ⟨e2, he2, b, p, hk, hv, ht, hp⟩
    · exact (h.b e he (hseen e he) y.1 y.2 i ek ev hty hK h32 h1).elim
    · obtain ⟨z, hz, hz1, hz2⟩ := hmem e2 he2
      rw [hk] at hz1
      rw [hv] at hz2
      injection hz1 with _ hz1
      injection hz2 with _ hz2
      have e1 : b = z.1 := by omega
      have e2 : p = z.2 := by omega
      have hyz : y.1 = z.1 := toInt_inj (h64 y hy) (h64 z hz) hty (by rw [← e1]; exact ht) (by omega)
      have := uniq y hy z hz hyz
      subst this
      simp only [Option.map_some]
      rw [hp, e2]
end Go.Proofs.Qxb6500574aGreatDoor
