/-
  THE WALKS of vmlaw: Grown.
-/
import Derived.Test.Qxb6500579aGreatULaw1
namespace Go.Proofs.Qxb6500579aGreat
open Go Go.RowKit
set_option linter.unusedVariables false
set_option linter.unusedSimpArgs false
section
variable {w : World}
set_option maxRecDepth 100000
set_option maxHeartbeats 1000000
theorem grown_any (was now : Bs) (hp : was <+: now) (hl : now.length ≤ 200) (he : now = [] ∨ now.getLast? = some 10) : Calls Tryz.prog 27 #[sv was, sv now] w fun e' w' => e' = .returned (.bool true) ∧ w' = w := by
  have hle := hp.length_le
  have g1 : decide (now.length < was.length) = false := by rw [decide_eq_false_iff_not]; omega
  have g2 : decide (200 < now.length) = false := by rw [decide_eq_false_iff_not]; omega
  rcases he with he | he
  · subst he
    have hw : was = [] := List.prefix_nil.1 hp
    subst hw
    clear hp hl hle
    go_enter Tryz.func27, Tryz.ntmps27
    go_wp2_with fail
    go_ret
    exact ⟨rfl, rfl⟩
  · have ht : now.take was.length = was := by
      obtain ⟨c, rfl⟩ := hp
      simp
    have hx : ((⟨now.toArray⟩ : ByteArray).extract 0 was.length).toList = was := by
      rw [ByteArray.extract_mk, List.drop_zero, Nat.sub_zero, ht]
      simp [ByteArray.toList_eq]
    have g3 : decide ((200 : Int) < (now.length : Int)) = false := by rw [decide_eq_false_iff_not]; omega
    have hne : now ≠ [] := fun e => by rw [e] at he; simp at he
    have hpos : 0 < now.length := List.length_pos_iff.2 hne
    have hie : now.isEmpty = false := by cases now with
      | nil => exact absurd rfl hne
      | cons a r => rfl
    have hlast : now[now.length - 1]'(by omega) = 10 := by
      rw [List.getLast?_eq_getElem?, List.getElem?_eq_getElem (by omega)] at he
      exact Option.some.inj he
    have hg : decide ((now.length : Int) < 1) = false := by rw [decide_eq_false_iff_not]; omega
    have hq1 : (1 : Int) ≤ (now.length : Int) := by omega
    go_enter Tryz.func27, Tryz.ntmps27
    go_wp2_with fail
    refine bodyPost_ret (results_tmp rfl _ _ _) rfl ⟨?_, rfl⟩
    have hb : ∀ h : now.length - 1 < (⟨now.toArray⟩ : ByteArray).size, ((⟨now.toArray⟩ : ByteArray)[now.length - 1]'h) = 10 := fun h => hlast
    show Ending.returned (Value.bool _) = _
    rw [hb]
    rfl
end
end Go.Proofs.Qxb6500579aGreat
