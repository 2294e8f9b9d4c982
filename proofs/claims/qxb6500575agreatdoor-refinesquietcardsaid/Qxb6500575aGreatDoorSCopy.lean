/-
  'append([]Val(nil), args...)': a copy of the arguments. What the walk of KeepsUpTo leans on.
-/
import Derived.Test.Qxb6500575aGreatDoorReg6
import Derived.Test.Qxb6500575aGreatDoorSSt
namespace Go.Proofs.Qxb6500575aGreatDoor
open Go Go.RowKit
set_option linter.unusedVariables false
set_option linter.unusedSimpArgs false

theorem wpL_run {P : Program} {ops : Array Oper} {Q : Exit → Act → World → Prop} {K : Act → World → Prop} {o : Oper} {a : Act} {w w' : World} {v : Value} (hg : o.guard = none) (hr : (execOp a.eval o).run P w = .ok (.value v) w') (h : K (a.put o.dst v) w') : wpList P ops (Exit.then K Q) [o] a w := by
  refine wpList_plain hg fun K' hK' => ?_
  unfold Oper.wp
  rw [hr]
  exact hK' _ _ (by simpa [wpList, Exit.then] using h)
theorem wpL_app2 {P : Program} {ops : Array Oper} {Q : Exit → Act → World → Prop} {K : Act → World → Prop} {o : Oper} {a : Act} {w wa : World} {t u : TypeId} (g1 : o.guard = none) (s x : Operand) (ho : o.op = .call { callee := .builtin .append, args := #[s, x], argTypes := #[t, u] }) (v y r : Value) (hs : a.eval s = v) (hx : a.eval x = y)
    (hr : (Builtin.append_ #[t, u] o.type #[v, y]).run P w = .ok r wa) (h : K (a.put o.dst r) wa) : wpList P ops (Exit.then K Q) [o] a w := by
  refine wpL_run (v := r) (w' := wa) g1 ?_ h
  simp only [execOp, ho, resolve, invoke, builtin, Sem.run_bind, Sem.run_pure, Result.andThen_ok, List.map_toArray, List.map_cons, List.map_nil, hs, hx, hr]
set_option maxRecDepth 100000 in
theorem copy_args {w : World} {aa : Option Addr} {k ac : Nat} {args : List BV} (hrow : w.ownsRow 0 70 2 (.slice aa k ac) k (bvCells args)) (hk : k ≤ 6) (ty : TypeId) :
    ∃ va vc w', (Builtin.append_ #[37, 37] ty #[.slice none 0 0, .slice aa k ac]).run Tryz.prog w = .ok (.slice va k vc) w' ∧ w'.ownsRow 0 70 2 (.slice va k vc) k (bvCells args) ∧ Fr (fun _ => False) w w' ∧ ∀ g, (Value.slice va k vc).ownBlock = some g → w.heap.size ≤ g := by
  obtain ⟨i, hi, hz, hsize, hby⟩ := info_parts rowVals.hi
  rcases owns_form hrow with ⟨rfl, rfl, rfl⟩ | ⟨g, rfl, hc⟩
  · refine ⟨none, 0, w, run_append_owned_none (P := Tryz.prog) w 0 37 ty 70 i 2 rowVals.ht hi (.slice none 0 0) 0 [] (World.ownsRow_nil _ _ _ _), ?_, Fr.refl _ _, fun g hg => by cases hg⟩
    exact hrow
  · obtain ⟨v', w', hr, h2, h3, _, h5⟩ := run_append_own_at (P := Tryz.prog) w 0 _ ty _ i _ 2 16 rowVals.ht hi hz hsize hby rowVals.hzs rowVals.hsz (.slice none 0 0) 0 [] (World.ownsRow_nil _ _ _ _) ⟨g, 0, none⟩ k ac (bvCells args) hrow.1
      (fun j u hj => by
        have hadd : (⟨g, 0, none⟩ : Addr).add j = ⟨g, j, none⟩ := by unfold Addr.add; split <;> simp_all
        rw [hadd]
        rcases Nat.eq_zero_or_pos k with rfl | hpos
        · have := hrow.1
          simp at this
          rw [this] at hj
          simp at hj
        · obtain ⟨g', e, hcell⟩ := owns_some hrow hpos
          simp at e
          subst e
          have hjl : j < k * 2 := by
            have := (List.getElem?_eq_some_iff.1 hj).1
            rw [hrow.1] at this
            exact this
          rw [hcell j hjl]
          exact hj) (by
        intro u hu
        simp only [bvCells, List.mem_flatMap] at hu
        obtain ⟨b, _, hb⟩ := hu
        simp at hb
        rcases hb with rfl | rfl <;> rfl) (by unfold maxLen; omega) (by omega) (Nat.zero_le _)
    have hf : Fr (fun _ => False) w w' := (Fr.of_grown h3).weaken (fun k _ h => by cases h)
    simp only [Nat.zero_add, List.nil_append] at h2
    obtain ⟨va, vc, rfl⟩ : ∃ va vc, v' = .slice va k vc := by
      rcases h2.2 with ⟨h, h0⟩ | ⟨g, c, cur, h, _⟩
      · exact ⟨none, 0, by rw [h, h0]⟩
      · exact ⟨_, _, h⟩
    refine ⟨va, vc, w', hr, h2, hf, fun g hg => ?_⟩
    rcases h5 with h5 | h5
    · rw [h5] at hg; cases hg
    · rw [h5] at hg; cases hg; exact Nat.le_refl _
theorem wpQ_loadOp {ops : Array Oper} {C : World → Prop} {T : Act → Prop} {a : Act} {o : Oper} {rest : List Oper} (hg : o.guard = none) (x : Operand) (b : Nat) (v0 v1 v2 v3 v4 v5 : Value) (ho : o.op = .load 39 x) (hx : a.eval x = .pointer (some ⟨b, 0, none⟩)) (hC : ∀ w, C w → Has w b #[v0, v1, v2, v3, v4, v5] 39)
    (h : wpQuiet Tryz.prog ops C T rest (a.put o.dst (.agg #[v0, v1, v2, v3, v4, v5]))) : wpQuiet Tryz.prog ops C T (o :: rest) a := by
  refine wpQuiet_step (fun K hK => ?_)
  rw [if_pos (by simp [Region.wanted, hg])]
  refine ⟨.agg #[v0, v1, v2, v3, v4, v5], fun w hw => ?_, hK _ h⟩
  obtain ⟨fs, hu⟩ : ∃ fs, Tryz.prog.underlying 39 = some (.struct fs) := by
    have hk : (match Tryz.prog.underlying 39 with | some (.struct _) => true | _ => false) = true := by kernel_rfl
    split at hk
    · rename_i fs he
      exact ⟨fs, he⟩
    · cases hk
  have hld := run_loadVar_row w b 39 39 #[v0, v1, v2, v3, v4, v5] _ _ (hC w hw) hu rfl (by kernel_rfl)
  unfold Oper.quietAt
  have : (execOp a.eval o).run Tryz.prog w = .ok (.value (.agg #[v0, v1, v2, v3, v4, v5])) w := by
    simp [execOp, ho, hx, Instr.loadAt, Instr.sureAddr, Sem.run_bind, hld]
  rw [this]
  exact ⟨rfl, rfl⟩
end Go.Proofs.Qxb6500575aGreatDoor
