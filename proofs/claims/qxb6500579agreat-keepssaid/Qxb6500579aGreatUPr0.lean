/-
  moon: THE CATECHISMS, run by the kernel. Plain; no walk.
-/
import Derived.Test.Qxb6500579aGreatU2
import Derived.Test.Qxb6500579aGreatVFloat
import Derived.KernelRfl
namespace Go.Proofs.Qxb6500579aGreat
open Go
set_option linter.unusedVariables false
def cat1 : Bs := [3, 0, 5, 0, 3, 0, 2, 6, 99, 114, 101, 97, 116, 101, 2, 6, 114, 101, 115, 117, 109, 101, 1, 0, 0, 0, 0, 0, 0, 240, 63, 19, 0, 9, 0, 0, 28, 1, 0, 26, 1, 0, 25, 0, 0, 6, 0, 0, 9, 1, 0, 5, 0, 0, 26, 1, 0, 6, 0, 0, 23, 11, 0, 5, 0, 0, 1, 2, 0, 6, 1, 0, 1, 2, 0, 6, 2, 0, 1, 2, 0, 6, 3, 0, 31, 1, 0, 27, 0, 0, 1, 1, 0, 2, 0, 2, 5, 121, 105, 101, 108, 100, 2, 5, 112, 99, 97, 108, 108, 10, 0, 9, 0, 0, 5, 0, 0, 26, 1, 0, 25, 0, 0, 6, 0, 0, 9, 1, 0, 28, 2, 0, 5, 0, 0, 26, 2, 0, 27, 0, 0, 1, 1, 0, 1, 0, 2, 5, 101, 114, 114, 111, 114, 8, 0, 5, 0, 0, 22, 5, 0, 9, 0, 0, 5, 0, 0, 26, 1, 0, 5, 0, 0, 3, 0, 0, 27, 0, 0]
def cat2 : Bs := [4, 0, 4, 0, 10, 0, 1, 0, 0, 0, 0, 0, 0, 36, 64, 1, 0, 0, 0, 0, 0, 0, 0, 64, 1, 0, 0, 0, 0, 0, 0, 240, 63, 2, 1, 44, 2, 5, 112, 114, 105, 110, 116, 2, 1, 107, 2, 1, 118, 2, 1, 112, 2, 1, 113, 2, 1, 114, 60, 0, 1, 0, 0, 6, 0, 0, 28, 1, 0, 6, 1, 0, 28, 2, 0, 6, 2, 0, 5, 1, 0, 26, 0, 0, 25, 0, 0, 25, 0, 0, 5, 0, 0, 1, 1, 0, 15, 3, 0, 6, 0, 0, 29, 0, 0, 1, 2, 0, 6, 0, 0, 5, 2, 0, 26, 0, 0, 25, 0, 0, 1, 3, 0, 17, 0, 0, 5, 1, 0, 26, 0, 0, 25, 0, 0, 25, 0, 0, 5, 2, 0, 26, 0, 0, 25, 0, 0, 17, 0, 0, 1, 3, 0, 17, 0, 0, 5, 0, 0, 17, 0, 0, 9, 4, 0, 5, 0, 0, 18, 0, 0, 26, 1, 0, 25, 0, 0, 25, 0, 0, 14, 0, 0, 6, 3, 0, 5, 3, 0, 1, 5, 0, 1, 6, 0, 12, 0, 0, 9, 4, 0, 5, 3, 0, 1, 5, 0, 11, 0, 0, 26, 1, 0, 25, 0, 0, 25, 0, 0, 28, 3, 0, 1, 7, 0, 1, 8, 0, 1, 9, 0, 26, 3, 0, 25, 0, 0, 27, 0, 0, 0, 0, 1, 1, 0, 1, 0, 1, 0, 0, 0, 0, 0, 0, 8, 64, 7, 0, 7, 0, 0, 1, 0, 0, 15, 2, 0, 8, 0, 0, 2, 0, 0, 2, 0, 0, 27, 0, 0, 0, 0, 1, 1, 0, 0, 0, 3, 0, 7, 0, 0, 2, 0, 0, 27, 0, 0, 3, 3, 0, 0, 0, 7, 0, 5, 0, 0, 5, 1, 0, 17, 0, 0, 5, 2, 0, 17, 0, 0, 2, 0, 0, 27, 0, 0]
def catS : Bs := [2, 0, 0, 0, 1, 0, 2, 5, 112, 99, 97, 108, 108, 4, 0, 9, 0, 0, 28, 1, 0, 26, 1, 0, 27, 0, 0, 0, 0, 0, 0, 0, 1, 0, 21, 0, 0]
def cmG (r : Option (EvD × Nat × VMD)) : VMD := match r with | some x => x.2.2 | none => vmZ
def cmL (r : Sum Nat VMD) : VMD := match r with | .inr m => m | .inl _ => vmZ
def ecA : VMD := cmL (loadP cat1)
def ecB : VMD := cmG (roundsP 40 9 (startP ecA 0 nilV nilV) 0)
def ecC (a b : Vl) : VMD := cmG (roundsP 40 7 (startP ecB 1 a b) 1)
def ecD (a b : Vl) : VMD := cmG (roundsP 40 6 (startP (ecC a b) 1 b a) 1)
def ecE (a b : Vl) (f : Nat) : VMD := cmG (roundsP 40 f (startP (ecD a b) 0 a b) 0)
section
set_option maxRecDepth 100000
theorem load1 : loadP cat1 = .inr ecA := by kernel_rfl
theorem run1 : roundsP 40 9 (startP ecA 0 nilV nilV) 0 = some (⟨4, 1, 0, nilV, nilV⟩, 7, ecB) := by kernel_rfl
theorem run2 (a b : Vl) : roundsP 40 7 (startP ecB 1 a b) 1 = some (⟨3, 0, 0, a, nilV⟩, 6, ecC a b) := by kernel_rfl
/-- the shapes of a value that is well formed -/
theorem well_shape {P : Vl → Prop} (h0 : P ⟨0, 0, []⟩) (h1 : P ⟨1, 0, []⟩) (h2 : P ⟨1, 1, []⟩) (h3 : ∀ n, P ⟨2, n, []⟩) (h4 : ∀ s, P ⟨3, 0, s⟩) (h5 : ∀ n, P ⟨4, n, []⟩) (h6 : ∀ n, P ⟨5, n, []⟩) (h7 : ∀ n, P ⟨6, n, []⟩) (h8 : ∀ n, P ⟨7, n, []⟩) : ∀ v : Vl, wellV v = true → P v := by
  rintro ⟨t, n, s⟩ hw
  unfold wellV at hw
  dsimp only at hw
  by_cases e3 : t = 3
  · rw [if_pos e3] at hw
    simp at hw
    rw [e3, hw.1]
    exact h4 s
  · rw [if_neg e3] at hw
    by_cases hx : s ≠ [] ∨ t < 0 ∨ t > 7
    · rw [if_pos hx] at hw; cases hw
    · rw [if_neg hx] at hw
      have hs : s = [] := Decidable.byContradiction fun x => hx (.inl x)
      have ht0 : 0 ≤ t := Int.not_lt.1 fun x => hx (.inr (.inl x))
      have ht7 : t ≤ 7 := Int.not_lt.1 fun x => hx (.inr (.inr x))
      subst hs
      have hc : t = 0 ∨ t = 1 ∨ t = 2 ∨ t = 4 ∨ t = 5 ∨ t = 6 ∨ t = 7 := by omega
      rcases hc with e | e | e | e | e | e | e
      · subst e; simp at hw; rw [hw]; exact h0
      · subst e
        simp at hw
        have : n = 0 ∨ n = 1 := by omega
        rcases this with e | e
        · rw [e]; exact h1
        · rw [e]; exact h2
      · subst e; exact h3 n
      · subst e; exact h5 n
      · subst e; exact h6 n
      · subst e; exact h7 n
      · subst e; exact h8 n
/-- the fuel behind the second turn -/
def fu3 (b : Vl) : Nat := if truthy b then 4 else 5
theorem run3 (a : Vl) : ∀ b, wellV b = true → roundsP 40 6 (startP (ecC a b) 1 b a) 1 = some (⟨1, 0, 0, boolV (!truthy b), b⟩, fu3 b, ecD a b) := by
  refine well_shape ?_ ?_ ?_ ?_ ?_ ?_ ?_ ?_ ?_
  · kernel_rfl
  · kernel_rfl
  · kernel_rfl
  · intro n; kernel_rfl
  · intro n; kernel_rfl
  · intro n; kernel_rfl
  · intro n; kernel_rfl
  · intro n; kernel_rfl
  · intro n; kernel_rfl
theorem run4 : ∀ a, wellV a = true → ∀ b, wellV b = true → roundsP 40 (fu3 b) (startP (ecD a b) 0 a b) 0 = some (⟨1, 0, 0, if truthy a then b else a, boolV true⟩, fu3 b, ecE a b (fu3 b)) := by
  refine well_shape ?_ ?_ ?_ ?_ ?_ ?_ ?_ ?_ ?_
  · refine well_shape ?_ ?_ ?_ ?_ ?_ ?_ ?_ ?_ ?_
    · kernel_rfl
    · kernel_rfl
    · kernel_rfl
    · intro n; kernel_rfl
    · intro n; kernel_rfl
    · intro n; kernel_rfl
    · intro n; kernel_rfl
    · intro n; kernel_rfl
    · intro n; kernel_rfl
  · refine well_shape ?_ ?_ ?_ ?_ ?_ ?_ ?_ ?_ ?_
    · kernel_rfl
    · kernel_rfl
    · kernel_rfl
    · intro n; kernel_rfl
    · intro n; kernel_rfl
    · intro n; kernel_rfl
    · intro n; kernel_rfl
    · intro n; kernel_rfl
    · intro n; kernel_rfl
  · refine well_shape ?_ ?_ ?_ ?_ ?_ ?_ ?_ ?_ ?_
    · kernel_rfl
    · kernel_rfl
    · kernel_rfl
    · intro n; kernel_rfl
    · intro n; kernel_rfl
    · intro n; kernel_rfl
    · intro n; kernel_rfl
    · intro n; kernel_rfl
    · intro n; kernel_rfl
  · intro x; refine well_shape ?_ ?_ ?_ ?_ ?_ ?_ ?_ ?_ ?_
    · kernel_rfl
    · kernel_rfl
    · kernel_rfl
    · intro n; kernel_rfl
    · intro n; kernel_rfl
    · intro n; kernel_rfl
    · intro n; kernel_rfl
    · intro n; kernel_rfl
    · intro n; kernel_rfl
  · intro x; refine well_shape ?_ ?_ ?_ ?_ ?_ ?_ ?_ ?_ ?_
    · kernel_rfl
    · kernel_rfl
    · kernel_rfl
    · intro n; kernel_rfl
    · intro n; kernel_rfl
    · intro n; kernel_rfl
    · intro n; kernel_rfl
    · intro n; kernel_rfl
    · intro n; kernel_rfl
  · intro x; refine well_shape ?_ ?_ ?_ ?_ ?_ ?_ ?_ ?_ ?_
    · kernel_rfl
    · kernel_rfl
    · kernel_rfl
    · intro n; kernel_rfl
    · intro n; kernel_rfl
    · intro n; kernel_rfl
    · intro n; kernel_rfl
    · intro n; kernel_rfl
    · intro n; kernel_rfl
  · intro x; refine well_shape ?_ ?_ ?_ ?_ ?_ ?_ ?_ ?_ ?_
    · kernel_rfl
    · kernel_rfl
    · kernel_rfl
    · intro n; kernel_rfl
    · intro n; kernel_rfl
    · intro n; kernel_rfl
    · intro n; kernel_rfl
    · intro n; kernel_rfl
    · intro n; kernel_rfl
  · intro x; refine well_shape ?_ ?_ ?_ ?_ ?_ ?_ ?_ ?_ ?_
    · kernel_rfl
    · kernel_rfl
    · kernel_rfl
    · intro n; kernel_rfl
    · intro n; kernel_rfl
    · intro n; kernel_rfl
    · intro n; kernel_rfl
    · intro n; kernel_rfl
    · intro n; kernel_rfl
  · intro x; refine well_shape ?_ ?_ ?_ ?_ ?_ ?_ ?_ ?_ ?_
    · kernel_rfl
    · kernel_rfl
    · kernel_rfl
    · intro n; kernel_rfl
    · intro n; kernel_rfl
    · intro n; kernel_rfl
    · intro n; kernel_rfl
    · intro n; kernel_rfl
    · intro n; kernel_rfl
/-- what the machine counts at each turn -/
theorem ecA_ok : validV ecA nilV = true ∧ ecA.ths.length = 1 ∧ (ecA.th 0).st = 1 := ⟨by kernel_rfl, by kernel_rfl, by kernel_rfl⟩
theorem ecB_ok : ecB.tabs.length = 1 ∧ ecB.clos.length = 2 ∧ ecB.ths.length = 2 ∧ (ecB.th 1).st = 1 := ⟨by kernel_rfl, by kernel_rfl, by kernel_rfl, by kernel_rfl⟩
theorem ecC_ok (a b : Vl) : (ecC a b).tabs.length = 1 ∧ (ecC a b).clos.length = 2 ∧ (ecC a b).ths.length = 2 ∧ ((ecC a b).th 1).st = 2 := ⟨by kernel_rfl, by kernel_rfl, by kernel_rfl, by kernel_rfl⟩
theorem ecD_ok (a : Vl) : ∀ b, wellV b = true → (ecD a b).tabs.length = 1 ∧ (ecD a b).clos.length = 3 ∧ (ecD a b).ths.length = 2 ∧ ((ecD a b).th 0).st = 3 := by
  refine well_shape ?_ ?_ ?_ ?_ ?_ ?_ ?_ ?_ ?_
  · exact ⟨by kernel_rfl, by kernel_rfl, by kernel_rfl, by kernel_rfl⟩
  · exact ⟨by kernel_rfl, by kernel_rfl, by kernel_rfl, by kernel_rfl⟩
  · exact ⟨by kernel_rfl, by kernel_rfl, by kernel_rfl, by kernel_rfl⟩
  · intro n; exact ⟨by kernel_rfl, by kernel_rfl, by kernel_rfl, by kernel_rfl⟩
  · intro n; exact ⟨by kernel_rfl, by kernel_rfl, by kernel_rfl, by kernel_rfl⟩
  · intro n; exact ⟨by kernel_rfl, by kernel_rfl, by kernel_rfl, by kernel_rfl⟩
  · intro n; exact ⟨by kernel_rfl, by kernel_rfl, by kernel_rfl, by kernel_rfl⟩
  · intro n; exact ⟨by kernel_rfl, by kernel_rfl, by kernel_rfl, by kernel_rfl⟩
  · intro n; exact ⟨by kernel_rfl, by kernel_rfl, by kernel_rfl, by kernel_rfl⟩
/-- the second catechism -/
def edA : VMD := cmL (loadP cat2)
def edB : VMD := cmG (roundsP 90 9 (startP edA 0 nilV nilV) 0)
def edC : VMD := cmG (roundsP 90 6 (startP edA 0 nilV nilV) 0)
def esA : VMD := cmL (loadP catS)
def esB : VMD := cmG (roundsP 40 3 (startP esA 0 nilV nilV) 0)
theorem load2 : loadP cat2 = .inr edA := by kernel_rfl
theorem load3 : loadP catS = .inr esA := by kernel_rfl
theorem runD1 : roundsP 90 9 (startP edA 0 nilV nilV) 0 = some (⟨1, 0, 0, strV [49, 52, 44, 49, 49, 44, 49], strV [112, 113, 114]⟩, 2, edB) := by kernel_rfl
theorem runD2 : roundsP 90 6 (startP edA 0 nilV nilV) 0 = some (⟨5, 0, 9, nilV, nilV⟩, 0, edC) := by kernel_rfl
theorem runS : roundsP 40 3 (startP esA 0 nilV nilV) 0 = some (⟨5, 0, 9, nilV, nilV⟩, 0, esB) := by kernel_rfl
theorem edA_ok : validV edA nilV = true ∧ edA.ths.length = 1 ∧ (edA.th 0).st = 1 := ⟨by kernel_rfl, by kernel_rfl, by kernel_rfl⟩
theorem esA_ok : validV esA nilV = true ∧ esA.ths.length = 1 ∧ (esA.th 0).st = 1 := ⟨by kernel_rfl, by kernel_rfl, by kernel_rfl⟩
theorem edB_out : edB.out = [102, 97, 108, 115, 101, 10, 118, 10] := by kernel_rfl
theorem edC_out : edC.out = [102, 97, 108, 115, 101, 10, 118, 10] := by kernel_rfl
end
end Go.Proofs.Qxb6500579aGreat
