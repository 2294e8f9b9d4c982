/-
  append(x, make([]T, m)...): its run, at an element of one cell. No walk.
-/
import Derived.Test.Qxb6500575aGreatDoorMem
import Derived.Laws.OwnMore
namespace Go.Proofs.Qxb6500575aGreatDoor
open Go Go.RowKit
set_option linter.unusedVariables false
set_option linter.unusedSimpArgs false

section
variable {P : Program} (w : World)
theorem zeroCells_one (c : Value) (m : Nat) : Builtin.zeroCells #[c] m = (List.replicate m c).toArray := by
  unfold Builtin.zeroCells
  apply Array.ext
  · simp
  · intro i h1 h2
    simp [Nat.mod_one]
theorem run_append_zeros (t ti ty e : TypeId) (k : IntKind) (i : TypeInfo) (z c : Value) (bytes : Nat) (ht : P.underlying t = some (.slice e)) (hti : P.underlying ti = some (.int k)) (hi : P.info? e = some i) (hz : i.zero = some z)
    (hsize : i.size = 1) (hby : i.bytes = bytes) (hzs : z.cells = #[c]) (hc : c.oneCell' = true)
    (v : Value) (n : Nat) (xs : List Value) (hown : w.ownsRow 0 e 1 v n xs) (m : Nat) (hb : (n + m) * (bytes + 1) ≤ 140737488355328) :
    ∃ v' w', (Builtin.append_ #[t, ti] ty #[v, .int .i64 m]).run P w = .ok v' w' ∧ w'.ownsRow 0 e 1 v' (n + m) (xs ++ List.replicate m c) ∧ w.grownBy w' v.ownBlock ∧
      (v'.ownBlock = v.ownBlock ∨ v'.ownBlock = some w.heap.size) := by
  subst hby
  have hw0 : IntKind.i64.wrap 0 = 0 := by decide
  have hb2 : (n + m) * i.bytes ≤ (n + m) * (i.bytes + 1) := Nat.mul_le_mul_left _ (by omega)
  have hb3 : (n + m) * 1 ≤ (n + m) * (i.bytes + 1) := Nat.mul_le_mul_left _ (by omega)
  have hb4 : m * i.bytes ≤ (n + m) * i.bytes := Nat.mul_le_mul_right _ (by omega)
  have hw : IntKind.i64.wrap (m : Int) = m := by rw [IntKind.wrap_i64]; omega
  have hneg : ¬ ((m : Int) < 0) := by omega
  have hbig : ¬ (281474976710656 < (m : Int) * i.bytes) := by
    have : ((m * i.bytes : Nat) : Int) ≤ 140737488355328 := by omega
    simp only [Int.natCast_mul] at this
    omega
  have hlen : xs.length = n := by have := hown.1; omega
  have h63 : n + m ≤ maxLen := by unfold maxLen; omega
  have hcells : (List.replicate m c).length = m := List.length_replicate
  have hlen2 : (xs ++ List.replicate m c).length = (n + m) * 1 := by simp [hlen]
  have grown : ∀ (old : Nat), old < n + m → ∀ (row : Option Nat),
      (w.drew.alloc (.cells (xs.toArray ++ (List.replicate m c).toArray ++ Builtin.zeroCells z.cells (grownCap w (n + m) old e - (n + m))) e)).ownsRow 0 e 1
        (.slice (some ⟨w.heap.size, 0, none⟩) (n + m) (grownCap w (n + m) old e)) (n + m) (xs ++ List.replicate m c) ∧
      w.grownBy (w.drew.alloc (.cells (xs.toArray ++ (List.replicate m c).toArray ++ Builtin.zeroCells z.cells (grownCap w (n + m) old e - (n + m))) e)) row := by
    intro old ho row
    have hge := grownCap_ge w (n + m) old e
    have hcm : grownCap w (n + m) old e ≤ maxLen := grownCap_le_maxLen w (n + m) old e h63
    refine ⟨⟨hlen2, .inr ⟨w.heap.size, _, _, rfl, Nat.zero_le _, Go.heap_alloc_new w.drew _, hge, hcm, ?_, ?_⟩⟩, ⟨rfl, rfl, rfl, by simp, fun k hk _ => Below.heap_alloc w.drew _ k hk⟩⟩
    · simp only [Array.size_append, List.size_toArray, size_zeroCells, hzs, hlen, hcells]
      simp
      omega
    · simp only [Array.toList_append, List.append_assoc]
      rw [← List.append_assoc, ← hlen2]
      exact List.take_left
  rcases hown.2 with ⟨rfl, rfl⟩ | ⟨g, cap, cur, rfl, hbg, hg, hnc, hcm, hcs, htake⟩
  · have hx : xs = [] := List.eq_nil_of_length_eq_zero hlen
    subst hx
    by_cases hm : m = 0
    · subst hm
      refine ⟨.slice none 0 0, w, ?_, by simpa using World.ownsRow_nil w 0 e 1, ⟨rfl, rfl, rfl, Nat.le_refl _, fun _ _ _ => rfl⟩, .inl rfl⟩
      simp [Builtin.append_, run_underlying ht, run_underlying hti, sizeOf, typeInfo, hi, asInt, asIntOf, hw0]
    · have hgr := grown 0 (by omega) (Value.ownBlock (.slice none 0 0))
      simp only [Nat.zero_add] at hgr
      refine ⟨_, _, ?_, by simpa using hgr.1, by simpa using hgr.2, .inr rfl⟩
      have h63' : ¬ (9223372036854775807 < (m : Int)) := by unfold maxLen at h63; omega
      have h48' : ¬ (281474976710656 < Builtin.nextslicecap m 0 * i.bytes) := by rw [nextslicecap_zero (by omega)]; omega
      simp [Builtin.append_, run_underlying ht, run_underlying hti, sizeOf, typeInfo, hi, asInt, asIntOf, hw, hneg, hbig, hm, hsize, h63', h48', Question.forced, run_firstCells_none, zeroValue, hz, hzs, zeroCells_one, newRow, grownCap]
  · by_cases hroom : n + m ≤ cap
    · have hfit : n * i.size + (List.replicate m c).length ≤ cur.size := by rw [hcells, hcs, hsize]; omega
      have hst := run_storeCells_at P g (n * i.size) e (List.replicate m c) 0 cur w hg (by simpa using hfit) (by intro u hu; rw [(List.mem_replicate.1 hu).2]; exact hc)
      simp only [Nat.add_zero] at hst
      refine ⟨.slice (some ⟨g, 0, none⟩) (n + m) cap, w.setRow g (cur.toList.take (n * i.size) ++ List.replicate m c ++ cur.toList.drop (n * i.size + (List.replicate m c).length)).toArray, ?_, ⟨hlen2, .inr ⟨g, cap, _, rfl, hbg, setRow_heap w g cur _ e _ hg, hroom, hcm, ?_, ?_⟩⟩, ⟨rfl, rfl, rfl, by simp, fun k _ hk => setRow_other w g k _ (fun e => hk (by simp [Value.ownBlock, e]))⟩, .inl rfl⟩
      · by_cases hm : m = 0
        · subst hm
          simp only [List.replicate_zero] at hst ⊢
          simp [Builtin.append_, run_underlying ht, run_underlying hti, sizeOf, typeInfo, hi, asInt, asIntOf, hw0, hnc, hst, Addr.add_lit]
        · simp [Builtin.append_, run_underlying ht, run_underlying hti, sizeOf, typeInfo, hi, asInt, asIntOf, hw, hneg, hbig, hm, hsize, hroom, zeroValue, hz, hzs, zeroCells_one, Addr.add_lit]
          rw [hsize] at hst
          simp at hst
          rw [hst]
          simp
      · simp only [List.size_toArray, List.length_append, List.length_take, List.length_drop, Array.length_toList, hsize, hcells]
        omega
      · rw [hsize, htake, ← hlen2]
        exact List.take_left
    · have holds : ∀ j u, xs[j]? = some u → w.drew.cell? ((⟨g, 0, none⟩ : Addr).add j) = some u := hown.cells (g := g) rfl
      have hfo := run_firstCells_some (P := P) w.drew 1 n ⟨g, 0, none⟩ n cap xs (by omega) holds
      have hgr := grown cap (by omega) (Value.ownBlock (.slice (some ⟨g, 0, none⟩) n cap))
      refine ⟨_, _, ?_, hgr.1, hgr.2, .inr rfl⟩
      have h63' : ¬ (9223372036854775807 < ((n : Int) + m)) := by unfold maxLen at h63; omega
      have h48' : ¬ (281474976710656 < Builtin.nextslicecap (n + m) cap * i.bytes) := by have := growslice_fits (bytes := i.bytes) (show cap < n + m by omega) (by omega); omega
      have hm : m ≠ 0 := by omega
      simp [Builtin.append_, run_underlying ht, run_underlying hti, sizeOf, typeInfo, hi, asInt, asIntOf, hw, hneg, hbig, hm, hsize, h63', h48', hroom, Question.forced, hfo, zeroValue, hz, hzs, zeroCells_one, newRow, grownCap]
end
theorem wpList_appz {P : Program} {t ti e : TypeId} {k : IntKind} {z c : Value} {bytes : Nat} (ht : P.underlying t = some (.slice e)) (hti : P.underlying ti = some (.int k)) (hi : (P.info? e).map (fun i => (i.zero, i.size, i.bytes)) = some (some z, 1, bytes)) (hzs : z.cells = #[c]) (hc : c.oneCell' = true)
    (w : World) {ops : Array Oper} {rest : List Oper} {o : Oper} {a : Act} {Q : Exit → Act → World → Prop} (hgd : o.guard = none) (s x : Operand)
    (ho : o.op = .call { callee := .builtin .append, args := #[s, x], argTypes := #[t, ti] })
    (v : Value) (n : Nat) (xs : List Value) (hs : a.eval s = v) (hown : w.ownsRow 0 e 1 v n xs) (m : Nat) (hx : a.eval x = .int .i64 m) (hb : (n + m) * (bytes + 1) ≤ 140737488355328)
    (h : ∀ a' cap w', w'.ownsRow 0 e 1 (.slice a' (n + m) cap) (n + m) (xs ++ List.replicate m c) → Fr (fun k => v.ownBlock = some k) w w' → ((Value.slice a' (n + m) cap).ownBlock = v.ownBlock ∨ (Value.slice a' (n + m) cap).ownBlock = some w.heap.size) → wpList P ops Q rest (a.put o.dst (.slice a' (n + m) cap)) w') : wpList P ops Q (o :: rest) a w := by
  obtain ⟨i, hi, hz, hsize, hby⟩ := info_parts hi
  refine wpList_plain hgd fun K hK => ?_
  obtain ⟨v', w', hr, h2, h3, h4⟩ := run_append_zeros (P := P) w t ti o.type e k i z c bytes ht hti hi hz hsize hby hzs hc v n xs hown m hb
  have hform : ∃ a' cap, v' = .slice a' (n + m) cap := by
    rcases h2.2 with ⟨h0, h1⟩ | ⟨g, cap, cur, hv, _⟩
    · exact ⟨none, 0, by rw [h1]; exact h0⟩
    · exact ⟨_, cap, hv⟩
  obtain ⟨a', cap, rfl⟩ := hform
  unfold Oper.wp execOp
  simp only [ho, resolve, invoke, builtin, Sem.run_bind, Sem.run_pure, Result.andThen_ok, List.map_toArray, List.map_cons, List.map_nil, hs, hx, hr]
  exact hK _ _ (h a' cap w' h2 (Fr.of_grown h3) h4)
end Go.Proofs.Qxb6500575aGreatDoor
