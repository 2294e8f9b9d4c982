/-
  append of a few elements, laid in a block of their own. No program.
-/
import Derived.Test.Qxb6500574aGreatDoorVBase
namespace Go.Proofs.Qxb6500574aGreatDoor
open Go Go.RowKit
set_option linter.unusedVariables false
set_option linter.unusedSimpArgs false

theorem wpList_appN {P : Program} {t e : TypeId} {z : Value} {size bytes : Nat} (R : IsRow P t e z size bytes) (w : World) {ops : Array Oper} {rest : List Oper} {o : Oper} {a : Act} {Q : Exit → Act → World → Prop} (hgd : o.guard = none) (s x : Operand)
    (ho : o.op = .call { callee := .builtin .append, args := #[s, x], argTypes := #[t, t] })
    (v : Value) (n : Nat) (xs : List Value) (hs : a.eval s = v) (hown : w.ownsRow 0 e size v n xs)
    (B k c : Nat) (news : List Value) (hx : a.eval x = .slice (some ⟨B, 0, none⟩) k c) (hB : Has w B news.toArray e) (hl : news.length = k * size) (hk : 0 < k) (h1 : ∀ u ∈ news, u.oneCell' = true)
    (hbound : (n + k) * (bytes + 1) ≤ 140737488355328)
    (h : ∀ g cap w', w'.ownsRow 0 e size (.slice (some ⟨g, 0, none⟩) (n + k) cap) (n + k) (xs ++ news) → Fr (fun k => v.ownBlock = some k) w w' → (v.ownBlock = some g ∨ g = w.heap.size) → g < w'.heap.size → wpList P ops Q rest (a.put o.dst (.slice (some ⟨g, 0, none⟩) (n + k) cap)) w') : wpList P ops Q (o :: rest) a w := by
  obtain ⟨ht, hi, hzs, hsz⟩ := R
  obtain ⟨i, hi, hz, hsize, hby⟩ := info_parts hi
  have hb2 : (n + k) * bytes ≤ (n + k) * (bytes + 1) := Nat.mul_le_mul_left _ (by omega)
  have hb3 : (n + k) * 1 ≤ (n + k) * (bytes + 1) := Nat.mul_le_mul_left _ (by omega)
  refine wpList_plain hgd fun K hK => ?_
  obtain ⟨v', w', hr, h2, h3, _, h5⟩ := run_append_own_at (P := P) w 0 t o.type e i z size bytes ht hi hz hsize hby hzs hsz v n xs hown ⟨B, 0, none⟩ k c news (by omega)
    (fun j u hj => by
      have hadd : (⟨B, 0, none⟩ : Addr).add j = ⟨B, j, none⟩ := by unfold Addr.add; split <;> simp_all
      rw [hadd, hB.cell]; simpa using hj) h1 (by unfold maxLen; omega) (by omega) (Nat.zero_le _)
  have hform : ∃ g cap, v' = .slice (some ⟨g, 0, none⟩) (n + k) cap := by
    rcases h2.2 with ⟨_, h0⟩ | ⟨g, cap, cur, hv, _⟩
    · omega
    · exact ⟨g, cap, hv⟩
  obtain ⟨g, cap, rfl⟩ := hform
  unfold Oper.wp execOp
  simp only [ho, resolve, invoke, builtin, Sem.run_bind, Sem.run_pure, Result.andThen_ok, List.map_toArray, List.map_cons, List.map_nil, hs, hx, hr]
  refine hK _ _ (h g cap w' h2 (Fr.of_grown h3) ?_ (h2.lt g rfl).2)
  rcases h5 with h5 | h5
  · exact .inl (by rw [← h5]; rfl)
  · right
    simpa [Value.ownBlock] using h5
end Go.Proofs.Qxb6500574aGreatDoor
