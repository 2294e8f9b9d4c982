/-
  THE WALK of complaw: Saying (written by tools/gen_saying.py).
-/
import Derived.Test.Qxb6500574aGreatDoorWSg1
import Derived.Test.Qxb6500574aGreatDoorWSg2
import Derived.Test.Qxb6500574aGreatDoorWSg3
import Derived.Test.Qxb6500574aGreatDoorWSg4
namespace Go.Proofs.Qxb6500574aGreatDoor
open Go Go.RowKit
set_option linter.unusedVariables false
set_option linter.unusedSimpArgs false
section
set_option maxRecDepth 100000
set_option maxHeartbeats 1000000
variable {w : World}
theorem saying_any {k : Nat} (hk : 1 ≤ k ∧ k ≤ 39) (t : Bs) (ht : t.length ≤ 1000) : Calls Tryz.prog 26 #[.int .i64 k, sv t] w (SgQ (sayP k t) w) := by
  have h : k = 1 ∨ k = 2 ∨ k = 3 ∨ k = 4 ∨ k = 5 ∨ k = 6 ∨ k = 7 ∨ k = 8 ∨ k = 9 ∨ k = 10 ∨ k = 11 ∨ k = 12 ∨ k = 13 ∨ k = 14 ∨ k = 15 ∨ k = 16 ∨ k = 17 ∨ k = 18 ∨ k = 19 ∨ k = 20 ∨ k = 21 ∨ k = 22 ∨ k = 23 ∨ k = 24 ∨ k = 25 ∨ k = 26 ∨ k = 27 ∨ k = 28 ∨ k = 29 ∨ k = 30 ∨ k = 31 ∨ k = 32 ∨ k = 33 ∨ k = 34 ∨ k = 35 ∨ k = 36 ∨ k = 37 ∨ k = 38 ∨ k = 39 := by omega
  rcases h with rfl | rfl | rfl | rfl | rfl | rfl | rfl | rfl | rfl | rfl | rfl | rfl | rfl | rfl | rfl | rfl | rfl | rfl | rfl | rfl | rfl | rfl | rfl | rfl | rfl | rfl | rfl | rfl | rfl | rfl | rfl | rfl | rfl | rfl | rfl | rfl | rfl | rfl | rfl
  · exact saying_1 t ht
  · exact saying_2 t ht
  · exact saying_3 t ht
  · exact saying_4 t ht
  · exact saying_5 t ht
  · exact saying_6 t ht
  · exact saying_7 t ht
  · exact saying_8 t ht
  · exact saying_9 t ht
  · exact saying_10 t ht
  · exact saying_11 t ht
  · exact saying_12 t ht
  · exact saying_13 t ht
  · exact saying_14 t ht
  · exact saying_15 t ht
  · exact saying_16 t ht
  · exact saying_17 t ht
  · exact saying_18 t ht
  · exact saying_19 t ht
  · exact saying_20 t ht
  · exact saying_21 t ht
  · exact saying_22 t ht
  · exact saying_23 t ht
  · exact saying_24 t ht
  · exact saying_25 t ht
  · exact saying_26 t ht
  · exact saying_27 t ht
  · exact saying_28 t ht
  · exact saying_29 t ht
  · exact saying_30 t ht
  · exact saying_31 t ht
  · exact saying_32 t ht
  · exact saying_33 t ht
  · exact saying_34 t ht
  · exact saying_35 t ht
  · exact saying_36 t ht
  · exact saying_37 t ht
  · exact saying_38 t ht
  · exact saying_39 t ht
end
end Go.Proofs.Qxb6500574aGreatDoor
