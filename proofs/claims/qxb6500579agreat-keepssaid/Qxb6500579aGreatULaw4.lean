/-
  THE WALK of vm: Status, of any number.
-/
import Derived.Test.Qxb6500579aGreatULaw3
import Derived.Test.Qxb6500579aGreatVCore
namespace Go.Proofs.Qxb6500579aGreat
open Go Go.RowKit
set_option linter.unusedVariables false
set_option linter.unusedSimpArgs false
/-- the state of thread i, or 0 -/
def statD (m : VMD) (i : Int) : Nat := if 0 ≤ i ∧ i < m.ths.length then (m.th i.toNat).st else 0
section
variable {w : World} {A : VL} {m : VMD} {f e : Nat}
set_option maxRecDepth 100000
set_option maxHeartbeats 1000000
theorem status_all (R : VRep w A m f e) (i : Int) : Calls Tryz.prog 42 #[.pointer (some ⟨A.b, 0, none⟩), .int .i64 i] w fun e' w' => e' = .returned (.int .i64 (statD m i)) ∧ w' = w := by
  by_cases h : 0 ≤ i ∧ i < m.ths.length
  · obtain ⟨n, rfl⟩ : ∃ n : Nat, i = (n : Int) := ⟨i.toNat, by omega⟩
    have hi : m.ths[n]? = some m.ths[n] := List.getElem?_eq_getElem (by omega)
    have hs : statD m (n : Int) = (m.ths[n]).st := by unfold statD; rw [if_pos h, Int.toNat_natCast, th_get hi]
    rw [hs]
    exact status_any R hi
  · have hs : statD m i = 0 := if_neg h
    rw [hs]
    have c9 : w.cell? ⟨A.b, 9, none⟩ = some (.slice (some ⟨A.bT, 0, none⟩) m.ths.length 5) := R.cell0 9
    have bl := R.core.here.has.lt
    obtain ⟨NT, HNT⟩ : ∃ x, Hid (m.ths.length = x) := ⟨_, rfl⟩
    rw [HNT.out] at c9 h
    clear R hs
    by_cases h1 : i < 0
    · go_enter Tryz.func42, Tryz.ntmps42
      go_wp2_with fail
      go_ret
      exact ⟨rfl, rfl⟩
    · have h2 : (NT : Int) ≤ i := by omega
      go_enter Tryz.func42, Tryz.ntmps42
      go_wp2_with fail
      go_ret
      exact ⟨rfl, rfl⟩
end
end Go.Proofs.Qxb6500579aGreat
