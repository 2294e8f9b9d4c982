/-
  moon: ALL SAYINGS HOLD. Plain; no memory, no walk.
-/
import Derived.Test.Qxb6500574aGreatDoorWSyA
import Derived.Test.Qxb6500574aGreatDoorWSyB
import Derived.Test.Qxb6500574aGreatDoorWSyC
import Derived.Test.Qxb6500574aGreatDoorWSyD
import Derived.Test.Qxb6500574aGreatDoorWSyE
import Derived.Test.Qxb6500574aGreatDoorWSyF
import Derived.Test.Qxb6500574aGreatDoorWSyG
namespace Go.Proofs.Qxb6500574aGreatDoor
theorem say_all {k x : Nat} (hx : x < 9218868437227405312) (hk : 1 ≤ k ∧ k ≤ 39) : SayOk (sayP k (fmtN x)) := by
  have h : k = 1 ∨ k = 2 ∨ k = 3 ∨ k = 4 ∨ k = 5 ∨ k = 6 ∨ k = 7 ∨ k = 8 ∨ k = 9 ∨ k = 10 ∨ k = 11 ∨ k = 12 ∨ k = 13 ∨ k = 14 ∨ k = 15 ∨ k = 16 ∨ k = 17 ∨ k = 18 ∨ k = 19 ∨ k = 20 ∨ k = 21 ∨ k = 22 ∨ k = 23 ∨ k = 24 ∨ k = 25 ∨ k = 26 ∨ k = 27 ∨ k = 28 ∨ k = 29 ∨ k = 30 ∨ k = 31 ∨ k = 32 ∨ k = 33 ∨ k = 34 ∨ k = 35 ∨ k = 36 ∨ k = 37 ∨ k = 38 ∨ k = 39 := by omega
  rcases h with rfl | rfl | rfl | rfl | rfl | rfl | rfl | rfl | rfl | rfl | rfl | rfl | rfl | rfl | rfl | rfl | rfl | rfl | rfl | rfl | rfl | rfl | rfl | rfl | rfl | rfl | rfl | rfl | rfl | rfl | rfl | rfl | rfl | rfl | rfl | rfl | rfl | rfl | rfl
  · exact say_1 hx
  · exact say_2 hx
  · exact say_3 hx
  · exact say_4 hx
  · exact say_5 hx
  · exact say_6
  · exact say_7
  · exact say_8 hx
  · exact say_9 hx
  · exact say_10
  · exact say_11
  · exact say_12
  · exact say_13 hx
  · exact say_14 hx
  · exact say_15 hx
  · exact say_16 hx
  · exact say_17 hx
  · exact say_18 hx
  · exact say_19
  · exact say_20 hx
  · exact say_21
  · exact say_22
  · exact say_23 hx
  · exact say_24
  · exact say_25 hx
  · exact say_26
  · exact say_27 hx
  · exact say_28
  · exact say_29 hx
  · exact say_30 hx
  · exact say_31 hx
  · exact say_32 hx
  · exact say_33 hx
  · exact say_34
  · exact say_35
  · exact say_36 hx
  · exact say_37
  · exact say_38
  · exact say_39
end Go.Proofs.Qxb6500574aGreatDoor
