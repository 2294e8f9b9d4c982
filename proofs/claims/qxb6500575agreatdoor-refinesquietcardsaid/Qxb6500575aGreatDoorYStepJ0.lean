/-
  THE WALK of runm.step: loads: lemmas. Written by tools/gen_ystep.py.
-/
import Derived.Test.Qxb6500575aGreatDoorYStep1
namespace Go.Proofs.Qxb6500575aGreatDoor
open Go Go.RowKit
set_option linter.unusedVariables false
set_option linter.unusedSimpArgs false

section
variable {R : MP} {H : HF HS} {m : MS} {w : World} {L : NL} {K : ML} {la : Option Addr} {ln lc : Nat} {loc : List V}
set_option maxRecDepth 100000
set_option maxHeartbeats 3000000
theorem sigM_loadw {cop : Int} (h1 : 19 ≤ cop) (h2 : cop ≤ 24) (h : cop ≠ 20) : sigM cop = ([105], [105]) := by
  obtain h | h | h | h | h : cop = 19 ∨ cop = 21 ∨ cop = 22 ∨ cop = 23 ∨ cop = 24 := by omega
  all_goals subst h; rfl
theorem sigM_load20 {cop : Int} (h : cop = 20) : sigM cop = ([105], [108]) := by subst h; rfl
theorem loadP_w32 (mem : List UInt8) {op : Int} (a off : Int) (h1 : 19 ≤ op) (h2 : op ≤ 24) (h20 : op ≠ 20) : wrap32 (loadP mem op a off).1 = (loadP mem op a off).1 := by
  unfold loadP
  split
  · exact w32 ⟨by simp, by simp⟩
  · rename_i ea h
    have h3 := leN_lt ((mem.drop ea).take (width op))
    have h4 : ((mem.drop ea).take (width op)).length ≤ width op := List.length_take_le _ _
    have h5 : 256 ^ ((mem.drop ea).take (width op)).length ≤ 256 ^ width op := Nat.pow_le_pow_right (by omega) h4
    have h6 : leN ((mem.drop ea).take (width op)) < 256 ^ width op := by omega
    generalize leN ((mem.drop ea).take (width op)) = x at h6
    show wrap32 (loadV op x) = loadV op x
    obtain h | h | h | h | h : op = 19 ∨ op = 21 ∨ op = 22 ∨ op = 23 ∨ op = 24 := by omega
    all_goals (subst h; simp only [width, loadV] at h6 ⊢; simp at h6 ⊢; unfold wrap32; omega)
end
end Go.Proofs.Qxb6500575aGreatDoor
