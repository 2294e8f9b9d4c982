/-
  Two equal answers (api.Ans) compare as equal. No walk.
-/
import Derived.Test.Qxb6500575aGreatDoorSSaid
namespace Go.Proofs.Qxb6500575aGreatDoor
open Go Go.RowKit
set_option linter.unusedVariables false
set_option linter.unusedSimpArgs false
theorem fieldsAns : (Tryz.prog.fieldsOf 46).toList.length = 4 := by kernel_rfl
theorem eqAll (d : Nat) (w : World) (xs : Array Value) : ∀ fs : List Field, (∀ f ∈ fs, ∃ v, (part f.type xs f.offset).run Tryz.prog w = .ok v w ∧ (Op.equalIn d f.type v v).run Tryz.prog w = .ok true w) → (Op.eqFields d xs xs fs).run Tryz.prog w = .ok true w
  | [], _ => rfl
  | f :: fs, h => by
    have ih := eqAll d w xs fs (fun g hg => h g (by simp [hg]))
    obtain ⟨v, h1, h2⟩ := h f (by simp)
    unfold Op.eqFields
    split
    · simp only [Sem.run_bind, h1, h2, Result.andThen_ok, Bool.not_true, Bool.false_eq_true, if_false]
      exact ih
    · exact ih
theorem ans_same (ae an am : Int) (aS : List UInt8) (w : World) : (binOp .neq 46 (.agg #[.int .i64 ae, .int .i64 an, .int .i64 am, .string ⟨aS.toArray⟩]) (.agg #[.int .i64 ae, .int .i64 an, .int .i64 am, .string ⟨aS.toArray⟩])).run Tryz.prog w = .ok (.bool false) w := by
  rw [run_neq_struct, run_equalIn_struct w 9999 46 _ _ (by kernel_rfl) (by kernel_rfl)]
  rw [eqAll 9999 w #[.int .i64 ae, .int .i64 an, .int .i64 am, .string ⟨aS.toArray⟩]]
  · rfl
  · have hl : (Tryz.prog.fieldsOf 46).toList.map (fun f => (f.type, f.offset)) = [(40, 0), (3, 1), (3, 2), (9, 3)] := by kernel_rfl
    intro f hf
    have hm : (f.type, f.offset) ∈ (Tryz.prog.fieldsOf 46).toList.map (fun f => (f.type, f.offset)) := List.mem_map.2 ⟨f, hf, rfl⟩
    rw [hl] at hm
    simp only [List.mem_cons, Prod.mk.injEq, List.not_mem_nil, or_false] at hm
    rcases hm with ⟨h1, h2⟩ | ⟨h1, h2⟩ | ⟨h1, h2⟩ | ⟨h1, h2⟩ <;> rw [h1, h2]
    · exact ⟨.int .i64 ae, by kernel_rfl, by rw [run_equalIn_int w 9998 40 .i64 .i64 ae ae (by kernel_rfl)]; simp⟩
    · exact ⟨.int .i64 an, by kernel_rfl, by rw [run_equalIn_int w 9998 3 .i64 .i64 an an (by kernel_rfl)]; simp⟩
    · exact ⟨.int .i64 am, by kernel_rfl, by rw [run_equalIn_int w 9998 3 .i64 .i64 am am (by kernel_rfl)]; simp⟩
    · exact ⟨.string ⟨aS.toArray⟩, by kernel_rfl, by rw [run_equalIn_string w 9998 9 ⟨aS.toArray⟩ ⟨aS.toArray⟩ (by kernel_rfl)]; simp⟩
end Go.Proofs.Qxb6500575aGreatDoor
