/-
  SMALL PLAIN LAWS for load's walk. No program.
-/
import Derived.Test.Qxb6500575aGreatDoorProgRep
import Derived.Laws.OwnMore
namespace Go.Proofs.Qxb6500575aGreatDoor
open Go Go.RowKit
set_option linter.unusedVariables false
set_option linter.unusedSimpArgs false

theorem made_ints (n : Nat) : (madeCells #[Value.int .i64 0] n).toList = intCells (List.replicate n 0) := by
  apply List.ext_getElem?
  intro i
  simp only [madeCells, intCells, Value.cells]
  by_cases hi : i < n
  · simp [hi, Nat.mod_one]
  · simp [hi]
theorem sizes_zero (n : Nat) (s : Nat → Int) : List.replicate n 0 = (List.range n).map (fun f => if f < 0 then s f else 0) := by
  apply List.ext_getElem?
  intro i
  by_cases hi : i < n
  · simp [hi]
  · simp [hi]
theorem sizes_set (n i : Nat) (s : Nat → Int) : ((List.range n).map (fun f => if f < i then s f else 0)).set i (s i) = (List.range n).map (fun f => if f < i + 1 then s f else 0) := by
  apply List.ext_getElem?
  intro j
  by_cases hj : j < n
  · by_cases hij : i = j
    · subst hij
      rw [List.getElem?_set_self (by simpa using hj)]
      simp [hj]
    · rw [List.getElem?_set_ne hij]
      have : (j < i) ↔ (j < i + 1) := by omega
      simp [hj, this]
  · simp [hj, List.getElem?_set]
theorem sizes_same (n i : Nat) (s : Nat → Int) (h : s i = 0) : (List.range n).map (fun f => if f < i then s f else 0) = (List.range n).map (fun f => if f < i + 1 then s f else 0) := by
  apply List.map_congr_left
  intro f _
  by_cases hf : f = i
  · subst hf; simp [h]
  · have : (f < i) ↔ (f < i + 1) := by omega
    simp [this]
theorem sizes_full (n : Nat) (s : Nat → Int) : (List.range n).map (fun f => if f < n then s f else 0) = (List.range n).map s := by
  apply List.map_congr_left
  intro f hf
  rw [if_pos (List.mem_range.1 hf)]
theorem codes_set {α : Type} (n i : Nat) (s : Nat → List α) (hi : i < n) : ((List.range n).map (fun f => if f < i then s f else [])).set i (s i) = (List.range n).map (fun f => if f < i + 1 then s f else []) := by
  apply List.ext_getElem?
  intro j
  by_cases hj : j < n
  · by_cases hij : i = j
    · subst hij
      rw [List.getElem?_set_self (by simpa using hj)]
      simp [hj]
    · rw [List.getElem?_set_ne hij]
      have : (j < i) ↔ (j < i + 1) := by omega
      simp [hj, this]
  · simp [hj, List.getElem?_set]
theorem codes_full {α : Type} (n : Nat) (s : Nat → List α) : (List.range n).map (fun f => if f < n then s f else []) = (List.range n).map s := by
  apply List.map_congr_left
  intro f hf
  rw [if_pos (List.mem_range.1 hf)]
theorem codes_start {m : ModD} (n : Nat) (h : n = m.nall) : List.replicate n [] = (List.range n).map (fun f => if f < m.imports.length then m.code f else []) := by
  apply List.ext_getElem?
  intro j
  by_cases hj : j < n
  · simp [hj, ModD.code]
    intro h1 h2
    omega
  · simp [hj]
theorem badSig_at {m : ModD} : ∀ (k f i : Nat), f ≤ i → i < f + k → (∀ j, f ≤ j → j < i → m.typOf j < (m.params.length : Int)) → (m.params.length : Int) ≤ m.typOf i → m.badSig f k = some i
  | 0, f, i, h1, h2, _, _ => by omega
  | k + 1, f, i, h1, h2, h3, h4 => by
    unfold ModD.badSig
    by_cases hfi : f = i
    · subst hfi; rw [if_pos h4]
    · rw [if_neg (by have := h3 f (Nat.le_refl _) (by omega); omega)]
      exact badSig_at k (f + 1) i (by omega) (by omega) (fun j hj hji => h3 j (by omega) hji) h4
theorem badSig_none {m : ModD} : ∀ (k f : Nat), (∀ j, f ≤ j → j < f + k → m.typOf j < (m.params.length : Int)) → m.badSig f k = none
  | 0, _, _ => rfl
  | k + 1, f, h => by
    unfold ModD.badSig
    rw [if_neg (by have := h f (Nat.le_refl _) (by omega); omega)]
    exact badSig_none k (f + 1) (fun j hj hjk => h j (by omega) (by omega))
theorem badBody_at {m : ModD} : ∀ (k f i : Nat) (at_ : Nat) (e : Int), f ≤ i → i < f + k → (∀ j, f ≤ j → j < i → (m.chk j).1 = none) → (m.chk i).1 = some (at_, e) → m.badBody f k = some (i, at_, e)
  | 0, f, i, _, _, h1, h2, _, _ => by omega
  | k + 1, f, i, at_, e, h1, h2, h3, h4 => by
    unfold ModD.badBody
    by_cases hfi : f = i
    · subst hfi; rw [h4]
    · rw [h3 f (Nat.le_refl _) (by omega)]
      exact badBody_at k (f + 1) i at_ e (by omega) (by omega) (fun j hj hji => h3 j (by omega) hji) h4
theorem badBody_none {m : ModD} : ∀ (k f : Nat), (∀ j, f ≤ j → j < f + k → (m.chk j).1 = none) → m.badBody f k = none
  | 0, _, _ => rfl
  | k + 1, f, h => by
    unfold ModD.badBody
    rw [h f (Nat.le_refl _) (by omega)]
    exact badBody_none k (f + 1) (fun j hj hjk => h j (by omega) (by omega))
theorem ModD.funcAt_in {m : ModD} {j : Nat} {fn : FnD} (h : m.funcs[j]? = some fn) : m.funcAt j = (fn.typ, fn.locals, (fn.code.length : Int)) := by
  unfold ModD.funcAt
  rw [if_neg (by omega)]
  simp [h]
theorem ModD.body_in {m : ModD} {f : Nat} {fn : FnD} (hf : m.imports.length ≤ f) (h : m.funcs[f - m.imports.length]? = some fn) : m.body f = fn.code := by
  unfold ModD.body
  rw [if_neg (by omega), h]
  rfl
theorem ModD.insAt_in {m : ModD} {j k : Nat} {fn : FnD} {c : Ins} (h : m.funcs[j]? = some fn) (hc : fn.code[k]? = some c) : m.insAt j k = c := by
  unfold ModD.insAt
  rw [if_neg (by omega)]
  simp [h, hc]
end Go.Proofs.Qxb6500575aGreatDoor
