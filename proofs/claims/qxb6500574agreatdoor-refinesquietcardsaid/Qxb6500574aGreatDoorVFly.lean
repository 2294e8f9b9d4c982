/-
  THE WALKS of vm: stop, raise, throw, numOf, tabOf: what flies.
-/
import Derived.Test.Qxb6500574aGreatDoorVRes
import Derived.Test.Qxb6500574aGreatDoorVApi
import Derived.Recover
namespace Go.Proofs.Qxb6500574aGreatDoor
open Go Go.RowKit
set_option linter.unusedVariables false
set_option linter.unusedSimpArgs false

abbrev trapE (n : Nat) : List PanicEntry := [{ v := .iface 341 (.int .i64 n), recovered := false }]
abbrev thrE (b : Nat) : List PanicEntry := [{ v := .iface 337 (.pointer (some ⟨b, 0, none⟩)), recovered := false }]
/-- an error value flies -/
def Thrown (v : Vl) (w : World) (e : Ending) (w' : World) : Prop := ∃ b, e = .panicked (thrE b) ∧ Has w' b #[.int .i64 v.t, .int .u64 v.n, sv v.s] 340 ∧ w.heap.size ≤ b
section
variable {w : World}
set_option maxRecDepth 100000
set_option maxHeartbeats 400000
theorem stop_any (n : Nat) : Calls Tryz.prog 262 #[.int .i64 n] w fun e w' => e = .panicked (trapE n) ∧ w' = w := by
  go_enter Tryz.func262, Tryz.ntmps262
  go_wp2
  exact ⟨rfl, rfl, rfl⟩
theorem raise_any (m : Bs) : Calls Tryz.prog 285 #[sv m] w fun e w' => Thrown (strV m) w e w' ∧ Fr (fun _ => False) w w' := by
  go_enter Tryz.func285, Tryz.ntmps285
  go_wp2
  exact ⟨rfl, ⟨_, rfl, Has.new _ _ _, Nat.le_refl _⟩, (Fr.refl _ _).alloc _⟩
theorem throw_any (v : Vl) : Calls Tryz.prog 306 #[v.val] w fun e w' => Thrown v w e w' ∧ Fr (fun _ => False) w w' := by
  obtain ⟨vt, vn, vs⟩ := v
  go_enter Tryz.func306, Tryz.ntmps306
  go_wp2
  exact ⟨rfl, ⟨_, rfl, Has.newC _ _ _ (by simp), by omega⟩, ((Fr.refl _ _).alloc _).alloc _⟩
theorem Thrown.fr {v : Vl} {w0 w w' : World} {e : Ending} (h : Thrown v w e w') (hs : w0.heap.size ≤ w.heap.size) : Thrown v w0 e w' := by
  obtain ⟨b, h1, h2, h3⟩ := h
  exact ⟨b, h1, h2, Nat.le_trans hs h3⟩
theorem numOf_ok (n : Nat) (s m : Bs) : Calls Tryz.prog 309 #[.agg #[.int .i64 2, .int .u64 n, sv s], sv m] w fun e w' => e = .returned (.int .u64 n) ∧ Fr (fun _ => False) w w' := by
  go_enter Tryz.func309, Tryz.ntmps309
  go_wp2_with fail
  go_ret
  exact ⟨rfl, (Fr.refl _ _).alloc _⟩
theorem numOf_no (v : Vl) (h : v.t ≠ 2) (m : Bs) : Calls Tryz.prog 309 #[v.val, sv m] w fun e w' => Thrown (strV m) w e w' ∧ Fr (fun _ => False) w w' := by
  obtain ⟨vt, vn, vs⟩ := v
  have h2 : (vt != 2) = true := by simpa using h
  clear h
  go_enter Tryz.func309, Tryz.ntmps309
  go_wp2_with fail
  refine (raise_any m).mono ?_
  rintro e w1 ⟨⟨b, rfl, h3, h4⟩, hf⟩
  refine ⟨rfl, ⟨b, rfl, h3, ?_⟩, ((Fr.refl _ _).alloc _).trans hf (fun _ _ x => x)⟩
  simp at h4
  omega
theorem tabOf_ok (n : Nat) (hn : n < 4294967296) (s m : Bs) : Calls Tryz.prog 298 #[.agg #[.int .i64 4, .int .u64 n, sv s], sv m] w fun e w' => e = .returned (.int .i64 n) ∧ Fr (fun _ => False) w w' := by
  go_enter Tryz.func298, Tryz.ntmps298
  go_wp2_with fail
  go_ret
  refine ⟨?_, (Fr.refl _ _).alloc _⟩
  simp
theorem tabOf_no (v : Vl) (h : v.t ≠ 4) (m : Bs) : Calls Tryz.prog 298 #[v.val, sv m] w fun e w' => Thrown (strV m) w e w' ∧ Fr (fun _ => False) w w' := by
  obtain ⟨vt, vn, vs⟩ := v
  have h2 : (vt != 4) = true := by simpa using h
  clear h
  go_enter Tryz.func298, Tryz.ntmps298
  go_wp2_with fail
  refine (raise_any m).mono ?_
  rintro e w1 ⟨⟨b, rfl, h3, h4⟩, hf⟩
  refine ⟨rfl, ⟨b, rfl, h3, ?_⟩, ((Fr.refl _ _).alloc _).trans hf (fun _ _ x => x)⟩
  simp at h4
  omega
end
end Go.Proofs.Qxb6500574aGreatDoor
