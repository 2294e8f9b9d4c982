/-
  moon: THE COMPILER: code that grows, holes and their landing. Plain; no memory, no walk.
-/
import Derived.Test.Qxb6500574aGreatDoorWPar10
namespace Go.Proofs.Qxb6500574aGreatDoor
set_option linter.unusedVariables false
set_option linter.unusedSimpArgs false
abbrev In := Nat × Nat
def holeI : In := (21, 65535)
def holes : Nat → List In → List Nat
  | _, [] => []
  | p, i :: l => if i = holeI then p :: holes (p + 1) l else holes (p + 1) l
def patch (ex : Nat) (l : List In) : List In := l.map fun i => if i = holeI then (21, ex) else i
def NoH (l : List In) : Prop := ∀ i ∈ l, i ≠ holeI
theorem holes_append : ∀ (s t : List In) (p : Nat), holes p (s ++ t) = holes p s ++ holes (p + s.length) t := by
  intro s
  induction s with
  | nil => intro t p; simp [holes]
  | cons i s ih =>
    intro t p
    simp only [List.cons_append, holes]
    rw [ih, List.length_cons, show p + 1 + s.length = p + (s.length + 1) by omega]
    split <;> simp
theorem NoH.nil : NoH [] := fun i h => by cases h
theorem NoH.holes : ∀ {s : List In} {p : Nat}, NoH s → holes p s = [] := by
  intro s
  induction s with
  | nil => intro p _; rfl
  | cons i s ih =>
    intro p h
    simp only [Go.Proofs.Qxb6500574aGreatDoor.holes]
    rw [if_neg (h i (by simp))]
    exact ih fun j hj => h j (by simp [hj])
theorem NoH.patch {s : List In} {ex : Nat} (h : NoH s) : patch ex s = s := by
  unfold Go.Proofs.Qxb6500574aGreatDoor.patch
  conv => rhs; rw [← List.map_id s]
  exact List.map_congr_left fun i hi => by simp [h i hi]
theorem NoH.append {s t : List In} (h : NoH s) (g : NoH t) : NoH (s ++ t) := fun i hi => by
  rcases List.mem_append.1 hi with x | x
  · exact h i x
  · exact g i x
theorem NoH.one {op x : Nat} (h : op ≠ 21 ∨ x ≠ 65535) : NoH [(op, x)] := fun i hi => by
  rw [List.mem_singleton.1 hi]
  intro e
  have e1 : op = 21 := congrArg Prod.fst e
  have e2 : x = 65535 := congrArg Prod.snd e
  omega
theorem NoH.cons {op x : Nat} {s : List In} (h : op ≠ 21 ∨ x ≠ 65535) (g : NoH s) : NoH ((op, x) :: s) := NoH.append (NoH.one h) g
theorem patch_append (ex : Nat) (s t : List In) : patch ex (s ++ t) = patch ex s ++ patch ex t := List.map_append
theorem patch_len (ex : Nat) (s : List In) : (patch ex s).length = s.length := List.length_map ..
theorem holes_in : ∀ {s : List In} {p q : Nat}, q ∈ holes p s → p ≤ q ∧ q < p + s.length := by
  intro s
  induction s with
  | nil => intro p q h; cases h
  | cons i s ih =>
    intro p q h
    simp only [holes] at h
    simp only [List.length_cons]
    split at h
    · rcases List.mem_cons.1 h with rfl | h
      · omega
      · have := ih h; omega
    · have := ih h; omega
/-- holes land -/
def landL (code : List In) (p x : Nat) : List In := code.set p ((code.getD p (0, 0)).1, x)
theorem landL_len (code : List In) (p x : Nat) : (landL code p x).length = code.length := by simp [landL]
theorem landL_mid (pre post : List In) (i : In) (x : Nat) : landL (pre ++ i :: post) pre.length x = pre ++ (i.1, x) :: post := by
  unfold landL
  rw [List.getD_eq_getElem?_getD, List.getElem?_append_right (Nat.le_refl _), Nat.sub_self]
  simp
theorem fold_land (x : Nat) : ∀ (seg pre post : List In), (holes pre.length seg).foldl (fun c p => landL c p x) (pre ++ seg ++ post) = pre ++ patch x seg ++ post := by
  intro seg
  induction seg with
  | nil => intro pre post; simp [holes, patch]
  | cons i seg ih =>
    intro pre post
    simp only [holes]
    have e : ∀ j : In, pre ++ j :: seg ++ post = (pre ++ [j]) ++ seg ++ post := fun j => by simp
    have l : ∀ j : In, pre.length + 1 = (pre ++ [j]).length := fun j => by simp
    split
    · rename_i h
      rw [List.foldl_cons]
      have : landL (pre ++ i :: seg ++ post) pre.length x = pre ++ (21, x) :: seg ++ post := by
        rw [List.append_assoc, List.cons_append, landL_mid, h]
        simp [holeI]
      rw [this, e, l (21, x), ih]
      simp [patch, h]
    · rename_i h
      rw [e i, l i, ih]
      simp [patch, h]
/-! ### the states of the functions -/
section
variable {c : CmD} {f g : Nat}
theorem fn_upd (c : CmD) {f : Nat} (h : f < c.fns.length) (u : FnD → FnD) (g : Nat) : (c.upd f u).fn g = if g = f then u (c.fn f) else c.fn g := by
  unfold CmD.upd CmD.fn
  simp only
  by_cases e : g = f
  · subst e
    rw [if_pos rfl, List.getD_eq_getElem?_getD, List.getElem?_set_self h]
    rfl
  · rw [if_neg e, List.getD_eq_getElem?_getD, List.getElem?_set_ne (fun x => e x.symm), ← List.getD_eq_getElem?_getD]
theorem upd_len (c : CmD) (f : Nat) (u : FnD → FnD) : (c.upd f u).fns.length = c.fns.length := by simp [CmD.upd]
theorem upd_np (c : CmD) (f : Nat) (u : FnD → FnD) : (c.upd f u).np = c.np := rfl
end
end Go.Proofs.Qxb6500574aGreatDoor
