/-
  THE WALK of prepm.Prog.one, any known instruction.
-/
import Derived.Test.Qxb6500575aGreatDoorMOneA
import Derived.Test.Qxb6500575aGreatDoorMOneB
import Derived.Test.Qxb6500575aGreatDoorMOneC
import Derived.Test.Qxb6500575aGreatDoorMOneD
import Derived.Test.Qxb6500575aGreatDoorMOneE
import Derived.Test.Qxb6500575aGreatDoorMOneF
import Derived.Test.Qxb6500575aGreatDoorMOneG
import Derived.Test.Qxb6500575aGreatDoorMOneH
namespace Go.Proofs.Qxb6500575aGreatDoor
open Go Go.RowKit
set_option linter.unusedVariables false
set_option linter.unusedSimpArgs false

theorem well_imm {c : Ins} (h : well c = true) (ho : c.op = 6 ∨ c.op = 7 ∨ c.op = 10 ∨ c.op = 13 ∨ c.op = 14) : 0 ≤ c.imm := by
  unfold well at h
  rw [if_neg (show ¬ c.op = 8 by omega)] at h
  by_cases ht : ¬ c.tab.isEmpty = true
  · rw [if_pos ht] at h; cases h
  rw [if_neg ht, if_neg (show ¬ (c.op = 1 ∨ c.op = 2 ∨ c.op = 3) by omega), if_pos ho] at h
  simp at h
  exact h.1
theorem well_tab2 {c : Ins} (h : well c = true) (h8 : c.op = 8) : 0 < c.tab.length ∧ c.tab.length ≤ 50 := by
  unfold well at h
  rw [if_pos h8] at h
  simp at h
  omega
theorem mone_any (X : OneP) (L : MkL) (cv : Value) (s : Mk) (E : Env) (i : Nat) (c0 : Ctl) (r0 : List Ctl) (h : OneCtx X L cv s E i c0 r0) (hw : well X.c = true) (hat : X.c.op = 4 → 0 ≤ c0.at_) :
    Calls Tryz.prog 58 #[.pointer (some ⟨X.bp, 0, none⟩), .pointer (some ⟨X.bk, 0, none⟩), .pointer (some ⟨X.g, X.f * 5, none⟩), .int .i64 i] X.w0 fun e w' => OnePost X (s.one E X.src i X.c) e w' := by
  by_cases h0 : X.c.op = 0
  · exact mone_0 X L cv s E i c0 r0 h h0
  by_cases h1 : X.c.op = 1
  · exact mone_1 X L cv s E i c0 r0 h h1
  by_cases h2 : X.c.op = 2
  · exact mone_2 X L cv s E i c0 r0 h h2
  by_cases h3 : X.c.op = 3
  · exact mone_3 X L cv s E i c0 r0 h h3
  by_cases h4 : X.c.op = 4
  · exact mone_4 X L cv s E i c0 r0 h h4 (hat h4)
  by_cases h5 : X.c.op = 5
  · exact mone_5 X L cv s E i c0 r0 h h5
  by_cases h6 : X.c.op = 6
  · exact mone_6 X L cv s E i c0 r0 h h6 (well_imm hw (by omega))
  by_cases h7 : X.c.op = 7
  · exact mone_7 X L cv s E i c0 r0 h h7 (well_imm hw (by omega))
  by_cases h8 : X.c.op = 8
  · exact mone_8 X L cv s E i c0 r0 h h8 (well_tab2 hw h8).1 (well_tab2 hw h8).2
  by_cases h9 : X.c.op = 9
  · exact mone_9 X L cv s E i c0 r0 h h9
  by_cases h10 : X.c.op = 10
  · exact mone_10 X L cv s E i c0 r0 h h10 (well_imm hw (by omega))
  by_cases h11 : X.c.op = 11
  · exact mone_11 X L cv s E i c0 r0 h h11
  by_cases h12 : X.c.op = 12
  · exact mone_12 X L cv s E i c0 r0 h h12
  by_cases h13 : X.c.op = 13
  · exact mone_13 X L cv s E i c0 r0 h h13 (well_imm hw (by omega))
  by_cases h14 : X.c.op = 14
  · exact mone_14 X L cv s E i c0 r0 h h14 (well_imm hw (by omega))
  exact mone_p X L cv s E i c0 r0 h (fun k h1 h2 e => by omega)
end Go.Proofs.Qxb6500575aGreatDoor
