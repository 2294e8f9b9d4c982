/-
  THE PLAIN LAWS of the Prog of an accepted module. No program.
-/
import Derived.Test.Qxb6500575aGreatDoorLaw4
namespace Go.Proofs.Qxb6500575aGreatDoor
open Go Go.RowKit
set_option linter.unusedVariables false
set_option linter.unusedSimpArgs false

theorem prog_code (m : ModD) (f : Nat) : m.prog.codes[f]? = if f < m.nall then some (m.code f) else none := by
  unfold ModD.prog
  simp only [List.getElem?_map]
  by_cases h : f < m.nall
  · simp [h]
  · simp [h]
theorem prog_funs (m : ModD) : m.prog.funs.length = m.nall := by simp [ModD.prog, ModD.sigs]
theorem code_len {m : ModD} (h : ModGood m) (hl : m.load.2.2 = 0) (f : Nat) (h1 : m.imports.length ≤ f) (h2 : f < m.nall) : FinalOk (m.code f) (emitsTo (m.body f) (m.body f).length) ∧ nestR (m.body f) [] = 0 ∧ (m.body f).length ≤ 24 := by
  obtain ⟨fn, _, e, hm⟩ := ModD.body_at f h1 h2
  refine ⟨h.final f h1 h2 ((load_good hl h).2 f h1 h2), by rw [e]; exact h.nest fn hm, by rw [e]; exact h.ok.fc fn hm⟩
theorem code_le {m : ModD} (h : ModGood m) (hl : m.load.2.2 = 0) (f : Nat) (h2 : f < m.nall) : (m.code f).length ≤ 144 := by
  by_cases h1 : m.imports.length ≤ f
  · obtain ⟨a, b, c⟩ := code_len h hl f h1 h2
    rw [← a.klen]
    have := emitsTo_len_le (m.body f) (nest_well _ _ b) (m.body f).length
    omega
  · unfold ModD.code
    rw [if_pos (by omega)]; simp
def ModD.src (m : ModD) (f : Nat) : List Ins := ((m.funcs[f]?).map (·.code)).getD []
end Go.Proofs.Qxb6500575aGreatDoor
