/-
  THE PLAIN LAWS of the run: what the builder keeps; the flat code's numbers fit. No program.
-/
import Derived.Test.Qxb6500575aGreatDoorLawT8
import Derived.Test.Qxb6500575aGreatDoorLawM6a
import Derived.Test.Qxb6500575aGreatDoorRMem
namespace Go.Proofs.Qxb6500575aGreatDoor
open Go Go.RowKit
set_option linter.unusedVariables false
set_option linter.unusedSimpArgs false

abbrev Fit64 (n : Int) : Prop := -9223372036854775808 ≤ n ∧ n < 9223372036854775808
theorem emitK_imm (c : Ins) (last : Bool) (hc : Fit64 c.imm) (ht : c.tab.length ≤ 100) : ∀ kd ∈ emitK c last, kd.t ≤ 2 ∧ Fit64 kd.imm := by
  intro kd hk
  unfold emitK at hk
  have h0 : Fit64 0 := ⟨by omega, by omega⟩
  split at hk
  · cases hk
  split at hk
  · simp at hk; subst hk; exact ⟨by simp, h0⟩
  split at hk
  · split at hk
    · simp at hk; subst hk; exact ⟨by simp, h0⟩
    · cases hk
  split at hk
  · simp at hk; subst hk; exact ⟨by simp, h0⟩
  split at hk
  · simp only [List.mem_cons, List.mem_replicate] at hk
    rcases hk with rfl | ⟨_, rfl⟩
    · exact ⟨by simp, ⟨by simp only; omega, by simp only; omega⟩⟩
    · exact ⟨by simp, h0⟩
  · simp at hk; subst hk; exact ⟨by simp, hc⟩
theorem emitsTo_imm (code : List Ins) (h : ∀ c ∈ code, Fit64 c.imm ∧ c.tab.length ≤ 100) : ∀ k, ∀ kd ∈ emitsTo code k, kd.t ≤ 2 ∧ Fit64 kd.imm
  | 0, kd, hk => by cases hk
  | k + 1, kd, hk => by
    unfold emitsTo at hk
    rcases List.mem_append.1 hk with hk | hk
    · exact emitsTo_imm code h k kd hk
    · cases hq : code[k]? with
      | none => rw [hq] at hk; cases hk
      | some c =>
        rw [hq] at hk
        have := h c (List.mem_of_getElem? hq)
        exact emitK_imm c _ this.1 this.2 kd hk
theorem code_fits {m : ModD} (h : ModGood m) (ht : ModTyped m) (hl : m.load.2.2 = 0) (hi : ∀ fn ∈ m.funcs, ∀ c ∈ fn.code, Fit64 c.imm) (s : Int) : ∀ (f : Nat) c, ({ m.prog with steps := s } : ProgD).codes[f]? = some c → ∀ i ∈ c, (V.d i.imm).Fits := by
  intro f c hc i hmem
  simp only at hc
  rw [prog_code] at hc
  split at hc
  · rename_i hf
    simp at hc
    subst hc
    by_cases hn : m.imports.length ≤ f
    · obtain ⟨a1, _, _⟩ := code_len h hl f hn hf
      obtain ⟨fn, _, e, hfn⟩ := ModD.body_at f hn hf
      obtain ⟨a, ha⟩ := List.getElem?_of_mem hmem
      have hlt : a < (m.code f).length := (List.getElem?_eq_some_iff.1 ha).1
      have hk : (emitsTo (m.body f) (m.body f).length)[a]? = some ((emitsTo (m.body f) (m.body f).length)[a]'(by rw [a1.klen]; exact hlt)) := List.getElem?_eq_getElem _
      have hfin := a1.cells a i _ ha hk
      have hcl := code_le h hl f hf
      have hks := emitsTo_imm (m.body f) (fun c hc => by
        rw [e] at hc
        exact ⟨hi fn hfn c hc, (modM_of h ht).tab fn hfn c hc⟩) _ _ (List.mem_of_getElem? hk)
      generalize (emitsTo (m.body f) (m.body f).length)[a]'(by rw [a1.klen]; exact hlt) = kd at *
      have h3 : kd.t = 0 ∨ kd.t = 1 ∨ kd.t = 2 := by omega
      show Fit64 i.imm
      rcases h3 with h3 | h3 | h3
      · rw [hfin.p0 h3]; exact hks.2
      · have := hfin.p1 h3
        exact ⟨by omega, by omega⟩
      · have := hfin.p2 h3
        exact ⟨by omega, by omega⟩
    · unfold ModD.code at hmem
      rw [if_pos (by omega)] at hmem
      cases hmem
  · cases hc
/-- what the builder keeps -/
structure BelFit (x : BelD) : Prop where
  good : BelGood x
  ty : ModTy x.m
  mem : 0 ≤ x.m.min ∧ x.m.min ≤ x.m.max ∧ x.m.max ≤ 4
  imm : ∀ fn ∈ x.m.funcs, ∀ c ∈ fn.code, Fit64 c.imm
  cimm : ∀ c ∈ x.code, Fit64 c.imm
theorem BelFit.ground : BelFit BelD.ground := ⟨BelGood.ground, ModTy.empty, by decide, fun fn hfn => (by cases hfn), fun c hc => (by cases hc)⟩
theorem BelFit.build {x : BelD} (h : BelFit x) (o : OpD) (ho : Fit64 o.b) : BelFit (x.build o).1 := by
  have hg := h.good.build o
  refine ⟨hg, ?_, ?_, ?_, ?_⟩
  · unfold BelD.build
    split
    · exact h.ty.addType _ _
    split
    · exact h.ty.addImport _
    split
    · exact h.ty.setMem _ _
    split
    · split <;> exact h.ty
    split
    · exact h.ty.addFunc _ _ _
    split
    · exact ModTy.empty
    · exact h.ty
  · unfold BelD.build
    have hm := h.mem
    split
    · show 0 ≤ (x.m.addType o.s o.t).1.min ∧ _
      unfold ModD.addType
      repeat' split
      all_goals exact hm
    split
    · show 0 ≤ (x.m.addImport o.a).1.min ∧ _
      unfold ModD.addImport
      repeat' split
      all_goals exact hm
    split
    · show 0 ≤ (x.m.setMem o.a o.b).1.min ∧ _
      unfold ModD.setMem
      split
      · exact hm
      · simp only; omega
    split
    · split <;> exact hm
    split
    · show 0 ≤ (x.m.addFunc o.a o.s x.code).1.min ∧ _
      unfold ModD.addFunc
      repeat' split
      all_goals exact hm
    split
    · show (0 : Int) ≤ ModD.empty.min ∧ ModD.empty.min ≤ ModD.empty.max ∧ ModD.empty.max ≤ 4
      decide
    · exact hm
  · unfold BelD.build
    have hm := h.imm
    split
    · show ∀ fn ∈ (x.m.addType o.s o.t).1.funcs, _
      unfold ModD.addType
      repeat' split
      all_goals exact hm
    split
    · show ∀ fn ∈ (x.m.addImport o.a).1.funcs, _
      unfold ModD.addImport
      repeat' split
      all_goals exact hm
    split
    · show ∀ fn ∈ (x.m.setMem o.a o.b).1.funcs, _
      unfold ModD.setMem
      split <;> exact hm
    split
    · split <;> exact hm
    split
    · show ∀ fn ∈ (x.m.addFunc o.a o.s x.code).1.funcs, _
      unfold ModD.addFunc
      repeat' split
      all_goals (try exact hm)
      intro fn hfn
      simp only [List.mem_append, List.mem_singleton] at hfn
      rcases hfn with hfn | rfl
      · exact hm fn hfn
      · exact h.cimm
    split
    · intro fn hfn; cases hfn
    · exact hm
  · unfold BelD.build
    have hm := h.cimm
    split
    · exact hm
    split
    · exact hm
    split
    · exact hm
    split
    · split
      · intro c hc
        simp only [List.mem_append, List.mem_singleton] at hc
        rcases hc with hc | rfl
        · exact hm c hc
        · exact ho
      · exact hm
    split
    · intro c hc; cases hc
    split
    · exact hm
    · exact hm
end Go.Proofs.Qxb6500575aGreatDoor
