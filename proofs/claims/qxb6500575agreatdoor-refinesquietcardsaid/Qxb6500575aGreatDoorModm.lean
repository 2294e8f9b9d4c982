/-
  THE WALKS of modm (the ground).
-/
import Derived.Test.Qxb6500575aGreatDoorProg
import Derived.Test.Qxb6500575aGreatDoorData
namespace Go.Proofs.Qxb6500575aGreatDoor
open Go Go.RowKit
set_option linter.unusedVariables false
set_option linter.unusedSimpArgs false

theorem rowInt : IsRow Tryz.prog 110 3 (.int .i64 0) 1 8 := ⟨by kernel_rfl, by kernel_rfl, rfl, by decide⟩
theorem rowStr : IsRow Tryz.prog 109 9 (.string ⟨#[]⟩) 1 16 := ⟨by kernel_rfl, by kernel_rfl, rfl, by decide⟩

def ModD.addImport (m : ModD) (typ : Int) : ModD × Int :=
  if 2 ≤ m.imports.length then (m, 2) else if typ < 0 ∨ 4294967295 < typ then (m, 3) else ({ m with imports := m.imports ++ [typ] }, 0)

set_option maxHeartbeats 400000 in
theorem addImport_any (S : Nat → Prop) (bm : Nat) (L : ModL) (m : ModD) (typ : Int) (w : World) (h : ModRep S w bm L m) :
    Calls Tryz.prog 28 #[.pointer (some ⟨bm, 0, none⟩), .int .i64 typ] w fun e w' => e = .returned (.int .i64 (m.addImport typ).2) ∧ (∃ L', ModRep (Own S w w') w' bm L' (m.addImport typ).1) ∧ Fr S w w' := by
  have c2 := h.here.cell 2
  simp at c2
  have f2 := h.here.frozen 2
  by_cases h1 : 2 ≤ m.imports.length
  · have e0 : m.addImport typ = (m, 2) := by simp [ModD.addImport, h1]
    rw [e0]
    go_enter Tryz.func28, Tryz.ntmps28
    go_wp2
    go_ret
    exact ⟨rfl, h.still⟩
  · by_cases h2 : typ < 0
    · have e0 : m.addImport typ = (m, 3) := by simp [ModD.addImport, h1, h2]
      rw [e0]
      go_enter Tryz.func28, Tryz.ntmps28
      go_wp2
      go_ret
      exact ⟨rfl, h.still⟩
    · by_cases h3 : 4294967295 < typ
      · have e0 : m.addImport typ = (m, 3) := by simp [ModD.addImport, h1, h3]
        rw [e0]
        go_enter Tryz.func28, Tryz.ntmps28
        go_wp2
        go_ret
        exact ⟨rfl, h.still⟩
      · have e0 : m.addImport typ = ({ m with imports := m.imports ++ [typ] }, 0) := by simp [ModD.addImport, h1, h2, h3]
        rw [e0]
        go_enter Tryz.func28, Tryz.ntmps28
        go_wp2_with (at_builtin; refine wpList_app rowInt _ rfl (.tmp 21) (.tmp 23) rfl _ _ _ rfl (owns_alloc h.imports _) _ [.int .i64 typ] rfl (Has.new _ _ _) rfl ?one ?bd ?go)
        case one => simp [Value.oneCell']
        case bd => omega
        case go =>
          intro g cap w1 hown hfr hat hlt
          have hne := owns_ne h.imports h.here (by decide)
          have hH1 : Has w1 bm _ _ := (h.here.alloc _).fr hfr hne
          have c2' := hH1.cell 2
          simp at c2'
          have f2' := hH1.frozen 2
          obtain ⟨n1, n2, n3, n4, n5⟩ := app_net h.here hne hfr hown (by decide) hat hlt 2
          have fin := h.putImports typ n1 n2 n3 n4 n5
          clear n1 n2 n3 n4 n5 hH1 hfr hown hat
          go_wp2
          go_ret
          exact ⟨rfl, fin⟩
end Go.Proofs.Qxb6500575aGreatDoor
