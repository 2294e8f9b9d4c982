/-
  THE ROUND of run.loop: the fuel.
-/
import Derived.Test.Qxb6500575aGreatDoorSHead
namespace Go.Proofs.Qxb6500575aGreatDoor
open Go Go.RowKit
set_option linter.unusedVariables false
set_option linter.unusedSimpArgs false

section
variable {σ : Type} {R : RP σ} {T : Nat → Typing} {w : World} {L : InL} {K : KL} {x : InD} {n : Int} {d : KD} {s : σ} {r : Frm} {rs : List Frm} {fuel : Int} {h : Value} {Q : Exit → Act → World → Prop} {N : Act → World → Prop}
set_option maxRecDepth 100000
set_option maxHeartbeats 400000
theorem round3 (hr : RunW R w L K x n d s) {gf bf : Nat} {i : Flat} (hb : Has w bf #[.int .i64 i.op, .int .i64 i.imm, .int .i64 i.keep, .int .i64 i.cut] 176) (hu : 0 ≤ x.used ∧ (x.used < fuel → x.used < 9223372036854775807))
    (hP : ∀ a' w', a'.defers = [] → RunW R w' L K x n d s → x.used ≥ fuel → i.op ≠ 4 → i.op ≠ 5 → Q (.panic (trapV 17)) a' w') {v6 : Value}
    (hN : ∀ a' w' x', Fr65 R fuel h a' → a'.tmps[6]? = some v6 → a'.tmps[7]? = some (.pointer (some ⟨bf, 0, none⟩)) → RunW R w' L K x' n d s → Has w' bf #[.int .i64 i.op, .int .i64 i.imm, .int .i64 i.keep, .int .i64 i.cut] 176 → (((i.op = 4 ∨ i.op = 5) ∧ x' = x) ∨ (i.op ≠ 4 ∧ i.op ≠ 5 ∧ x.used < fuel ∧ x' = { x with used := x.used + 1 })) → N a' w') {a : Act} (ha : Fr65 R fuel h a) (h6 : a.tmps[6]? = some v6) (h7 : a.tmps[7]? = some (.pointer (some ⟨bf, 0, none⟩))) :
    (codeL (codeR (codeR (codeR (roundOf Tryz.f65.body))))).wp Tryz.prog (Exit.then N Q) a w := by
  obtain ⟨u, rfl⟩ := ha.form67 h6 h7
  have b0 := hb.cell 0
  simp at b0
  have c4 := hr.inst.here.cell 4
  simp at c4
  have f4 := hr.inst.here.frozen 4
  have k1 := hr.inst.here.lt
  have hu0 := hu.1
  have HU : Hid (x.used < fuel → x.used < 9223372036854775807) := hu.2
  clear hu
  have hset := hr.inst.setUsed (x.used + 1)
  have SET : Hid (RunW _ _ _ _ _ _ _ _) := hr.step hset.1 hset.2
  have BOX : Hid (Has _ _ _ _) := hr.box hset.2 hb
  have HR : Hid (RunW _ _ _ _ _ _ _ _) := hr
  have HB : Hid (Has w bf _ _) := hb
  simp only [roundOf, codeL, codeR, codeIn, Tryz.f65, Option.getD_some]
  clear ha h6 h7 hset hr hb
  by_cases h4 : i.op = 4
  · rw [h4] at b0
    go_wp2
    exact hN _ _ x ⟨by kernel_rfl, by kernel_rfl, by kernel_rfl, by kernel_rfl, rfl⟩ (by kernel_rfl) (by kernel_rfl) HR.out HB.out (.inl ⟨.inl h4, rfl⟩)
  by_cases h5 : i.op = 5
  · rw [h5] at b0
    go_wp2
    exact hN _ _ x ⟨by kernel_rfl, by kernel_rfl, by kernel_rfl, by kernel_rfl, rfl⟩ (by kernel_rfl) (by kernel_rfl) HR.out HB.out (.inl ⟨.inr h5, rfl⟩)
  have g4 : (i.op == 4) = false := beq_eq_false_iff_ne.2 h4
  have g5 : (i.op == 5) = false := beq_eq_false_iff_ne.2 h5
  have n4 : (i.op != 4) = true := by simp [bne, g4]
  have n5 : (i.op != 5) = true := by simp [bne, g5]
  by_cases hf : x.used < fuel
  · have hu1 := HU.out hf
    go_wp2_with fail
    all_goals
      refine (need_ok _ _).mono ?_
      rintro e w1 ⟨rfl, rfl⟩
      go_wp2
      exact hN _ _ { x with used := x.used + 1 } ⟨by kernel_rfl, by kernel_rfl, by kernel_rfl, by kernel_rfl, rfl⟩ (by kernel_rfl) (by kernel_rfl) SET.out BOX.out (.inr ⟨h4, h5, hf, rfl⟩)
  · go_wp2_with fail
    all_goals
      refine (need_no 17 _).mono ?_
      rintro e w1 ⟨rfl, rfl⟩
      go_wp2
      exact hP _ _ rfl HR.out (by omega) h4 h5
end
end Go.Proofs.Qxb6500575aGreatDoor
