/-
  An answer in memory.
-/
import Derived.Test.Qxb6500575aGreatDoorAt
namespace Go.Proofs.Qxb6500575aGreatDoor
open Go Go.RowKit
set_option linter.unusedVariables false
set_option linter.unusedSimpArgs false

theorem results_tmp_cell {fn : Func} {p u : Tmp} {ty : TypeId} (h : fn.results = #[.tmp u, .cell p ty]) (tmps : Array Value) (P : Program) (w : World) :
    (results fn tmps).run P w =
      ((asAddr (tmps.getD p undef)).run P w).andThen fun a w₁ => ((loadVar ty a).run P w₁).andThen fun v w₂ => .ok (.tuple #[tmps.getD u undef, v]) w₂ := by
  simp only [results, h]
  simp [Sem.run_bind, Result.andThen]
theorem Has.put4 {w : World} {b : Nat} {T : TypeId} {a0 a1 a2 a3 : Value} (h : Has w b #[a0, a1, a2, a3] T) (v0 v1 v2 v3 : Value) :
    Has ((((w.setCell ⟨b, 0, none⟩ v0).setCell ⟨b, 1, none⟩ v1).setCell ⟨b, 2, none⟩ v2).setCell ⟨b, 3, none⟩ v3) b #[v0, v1, v2, v3] T ∧
    Fr (fun k => k = b) w ((((w.setCell ⟨b, 0, none⟩ v0).setCell ⟨b, 1, none⟩ v1).setCell ⟨b, 2, none⟩ v2).setCell ⟨b, 3, none⟩ v3) := by
  refine ⟨by simpa using (((h.put 0 v0).put 1 v1).put 2 v2).put 3 v3, ?_⟩
  exact Fr.setCell (p := ⟨b, 3, none⟩) (Fr.setCell (p := ⟨b, 2, none⟩) (Fr.setCell (p := ⟨b, 1, none⟩) (Fr.setCell (S := fun k => k = b) (p := ⟨b, 0, none⟩) (Fr.refl _ w) (.inl rfl) v0) (.inl rfl) v1) (.inl rfl) v2) (.inl rfl) v3
structure AnsD where
  e : Int
  n : Int
  m : Int
  s : List UInt8
def AnsD.val (a : AnsD) : Value := .agg #[.int .i64 a.e, .int .i64 a.n, .int .i64 a.m, sv a.s]
def AnsD.zero : AnsD := ⟨0, 0, 0, []⟩

end Go.Proofs.Qxb6500575aGreatDoor
