/-
  append(b, s...): a string's bytes onto a row of bytes, and where the new slice lies. No program.
-/
import Derived.Test.Qxb6500574aGreatDoorVRes
import Derived.Test.Qxb6500574aGreatDoorVUtoa
import Derived.Lib.AppendStr
namespace Go.Proofs.Qxb6500574aGreatDoor
open Go Go.RowKit
set_option linter.unusedVariables false
set_option linter.unusedSimpArgs false

def byteCells (l : List UInt8) : List Value := l.map fun b => .int .u8 b.toNat

theorem strCells_byteCells (l : List UInt8) : Lib.strCells ⟨l.toArray⟩ = byteCells l := by simp [Lib.strCells, byteCells]

theorem run_appStr {P : Program} {t u e : TypeId} (R : IsRow P t e (.int .u8 0) 1 1) (hu : P.underlying u = some .string) (w : World) (ty : TypeId) (v : Value) (n : Nat) (xs : List Value) (hown : w.ownsRow 0 e 1 v n xs) (out : List UInt8) (hb : n + out.length ≤ 1000000) :
    ∃ a cap w', (Builtin.append_ #[t, u] ty #[v, sv out]).run P w = .ok (.slice a (n + out.length) cap) w' ∧ w'.ownsRow 0 e 1 (.slice a (n + out.length) cap) (n + out.length) (xs ++ byteCells out) ∧
      Fr (fun k => v.ownBlock = some k) w w' ∧ ∀ g, (Value.slice a (n + out.length) cap).ownBlock = some g → v.ownBlock = some g ∨ w.heap.size ≤ g := by
  obtain ⟨ht, hi, hzs, hsz⟩ := R
  obtain ⟨i, hi, hz, hsize, hby⟩ := info_parts hi
  have hs : ByteArray.size ⟨out.toArray⟩ = out.length := by simp [ByteArray.size]
  obtain ⟨v', w', hr, h2, h3, h4⟩ := Lib.run_append_own_string (P := P) w 0 t u ty e i ht hu hi hz hsize hby v n xs hown ⟨out.toArray⟩ (by rw [hs]; unfold maxLen; omega) (by rw [hs]; omega) (Nat.zero_le _)
  rw [hs, strCells_byteCells] at h2
  have hform : ∃ a cap, v' = .slice a (n + out.length) cap := by
    rcases h2.2 with ⟨hv, h0⟩ | ⟨g, cap, cur, hv, _⟩
    · exact ⟨none, 0, by rw [hv, h0]⟩
    · exact ⟨_, cap, hv⟩
  obtain ⟨a, cap, rfl⟩ := hform
  refine ⟨a, cap, w', hr, h2, Fr.of_grown h3, fun g hg => ?_⟩
  have hxl : xs.length = n := by simpa using hown.1
  rcases hown.2 with ⟨rfl, rfl⟩ | ⟨g0, cap0, cur, rfl, hbg, hg0, hnc, hcm, hcs, htake⟩
  · by_cases hm : out.length = 0
    · have := h4.2 ⟨rfl, by rw [hs]; exact hm⟩
      simp at this
      rw [this.1] at hg
      simp [Value.ownBlock] at hg
    · have hr2 := run_append_nil_string (P := P) w t u ty e i (.int .u8 0) ht hu hi hz ⟨out.toArray⟩ (by rw [hs]; omega) (by rw [hs]; omega) (by rw [hby, hs]; omega)
      rw [hr2] at hr
      simp at hr
      rw [← hr.1.1] at hg
      simp [Value.ownBlock] at hg
      exact .inr (by omega)
  · by_cases hroom : n + out.length ≤ cap0
    · have hr2 := Lib.run_append_room_string (P := P) w t u ty e i ht hu hi hsize g0 n cap0 cur hg0 ⟨out.toArray⟩ (by rw [hs]; exact hroom) (by rw [hs]; omega)
      rw [hr2] at hr
      simp at hr
      rw [← hr.1.1] at hg
      exact .inl hg
    · have holds : ∀ j u, xs[j]? = some u → w.cell? ((⟨g0, 0, none⟩ : Addr).add j) = some u := hown.cells (g := g0) rfl
      have hr2 := Lib.run_append_grow_string (P := P) w t u ty e i (.int .u8 0) ht hu hi hz ⟨g0, 0, none⟩ n cap0 xs (by rw [hsize]; simpa using hxl) holds ⟨out.toArray⟩ (by rw [hs]; omega) (by rw [hs]; omega) (by rw [hby, hs]; exact growslice_fits (by omega) (by omega))
      rw [hr2] at hr
      simp at hr
      rw [← hr.1.1] at hg
      simp [Value.ownBlock] at hg
      exact .inr (by omega)

theorem wpList_appStr {P : Program} {t u e : TypeId} (R : IsRow P t e (.int .u8 0) 1 1) (hu : P.underlying u = some .string) (w : World) {ops : Array Oper} {rest : List Oper} {o : Oper} {a : Act} {Q : Exit → Act → World → Prop} (hgd : o.guard = none) (s x : Operand)
    (ho : o.op = .call { callee := .builtin .append, args := #[s, x], argTypes := #[t, u] })
    (v : Value) (n : Nat) (xs : List Value) (hs : a.eval s = v) (hown : w.ownsRow 0 e 1 v n xs) (out : List UInt8) (hx : a.eval x = sv out) (hb : n + out.length ≤ 1000000)
    (h : ∀ b cap w', w'.ownsRow 0 e 1 (.slice b (n + out.length) cap) (n + out.length) (xs ++ byteCells out) → Fr (fun k => v.ownBlock = some k) w w' → (∀ g, (Value.slice b (n + out.length) cap).ownBlock = some g → v.ownBlock = some g ∨ w.heap.size ≤ g) →
      wpList P ops Q rest (a.put o.dst (.slice b (n + out.length) cap)) w') : wpList P ops Q (o :: rest) a w := by
  refine wpList_plain hgd fun K hK => ?_
  obtain ⟨b, cap, w', hr, h2, h3, h4⟩ := run_appStr (P := P) R hu w o.type v n xs hown out hb
  unfold Oper.wp execOp
  simp only [ho, resolve, invoke, builtin, Sem.run_bind, Sem.run_pure, Result.andThen_ok, List.map_toArray, List.map_cons, List.map_nil, hs, hx, hr]
  exact hK _ _ (h b cap w' h2 h3 h4)
end Go.Proofs.Qxb6500574aGreatDoor
