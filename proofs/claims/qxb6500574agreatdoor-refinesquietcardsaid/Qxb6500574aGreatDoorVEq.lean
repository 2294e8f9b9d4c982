/-
  Two structs compared (api.Val, api.Ans). No walk.
-/
import Derived.Test.Qxb6500574aGreatDoorVRes
namespace Go.Proofs.Qxb6500574aGreatDoor
open Go Go.RowKit
set_option linter.unusedVariables false
set_option linter.unusedSimpArgs false

theorem eqList (d : Nat) (w : World) (xs ys : Array Value) : ∀ (fs : List Field) (bs : List Bool), fs.length = bs.length →
    (∀ (k : Nat) (f : Field) (b : Bool), fs[k]? = some f → bs[k]? = some b → f.name ≠ "_" ∧ ∃ va vb, (part f.type xs f.offset).run Tryz.prog w = .ok va w ∧ (part f.type ys f.offset).run Tryz.prog w = .ok vb w ∧ (Op.equalIn d f.type va vb).run Tryz.prog w = .ok b w) →
    (Op.eqFields d xs ys fs).run Tryz.prog w = .ok (bs.all id) w
  | [], [], _, _ => rfl
  | [], _ :: _, h, _ => by simp at h
  | _ :: _, [], h, _ => by simp at h
  | f :: fs, b :: bs, hl, h => by
    have ih := eqList d w xs ys fs bs (by simpa using hl) (fun k f b h1 h2 => h (k + 1) f b h1 h2)
    obtain ⟨hn, va, vb, h1, h2, h3⟩ := h 0 f b rfl rfl
    unfold Op.eqFields
    rw [if_pos hn]
    simp only [Sem.run_bind, h1, h2, h3, Result.andThen_ok]
    cases b
    · rfl
    · simp only [Bool.not_true, Bool.false_eq_true, if_false]
      rw [ih]
      rfl
theorem eqFs {T : TypeId} (l : List (String × TypeId × Nat)) (hl : (Tryz.prog.fieldsOf T).toList.map (fun f => (f.name, f.type, f.offset)) = l) (hn : l.all (fun x => x.1 != "_") = true) (d : Nat) (w : World) (xs ys : Array Value) (bs : List Bool) (hb : l.length = bs.length)
    (h : ∀ (k : Nat) (x : String × TypeId × Nat) (b : Bool), l[k]? = some x → bs[k]? = some b → ∃ va vb, (part x.2.1 xs x.2.2).run Tryz.prog w = .ok va w ∧ (part x.2.1 ys x.2.2).run Tryz.prog w = .ok vb w ∧ (Op.equalIn d x.2.1 va vb).run Tryz.prog w = .ok b w) :
    (Op.eqFields d xs ys (Tryz.prog.fieldsOf T).toList).run Tryz.prog w = .ok (bs.all id) w := by
  refine eqList d w xs ys _ bs (by rw [← hb, ← hl]; simp) (fun k f b h1 h2 => ?_)
  have hk : l[k]? = some (f.name, f.type, f.offset) := by rw [← hl, List.getElem?_map, h1]; rfl
  have h5 := h k (f.name, f.type, f.offset) b hk h2
  dsimp only at h5
  refine ⟨?_, h5⟩
  exact bne_iff_ne.1 (List.all_eq_true.1 hn _ (List.mem_of_getElem? hk))
set_option maxRecDepth 20000
theorem valFs (a b : Vl) (d : Nat) (w : World) : (Op.eqFields (d + 1) #[.int .i64 a.t, .int .u64 a.n, sv a.s] #[.int .i64 b.t, .int .u64 b.n, sv b.s] (Tryz.prog.fieldsOf 68).toList).run Tryz.prog w = .ok (a.same b) w := by
  rw [eqFs (T := 68) [("T", 3, 0), ("N", 36, 1), ("S", 9, 2)] (by kernel_rfl) (by decide) (d + 1) w _ _ [a.t == b.t, a.n == b.n, a.s == b.s] rfl]
  · simp only [List.all_cons, List.all_nil, id, Bool.and_true, Vl.same, Bool.and_assoc]
  · intro k x c h1 h2
    rcases k with _ | _ | _ | k
    · cases h1; cases h2
      exact ⟨.int .i64 a.t, .int .i64 b.t, by kernel_rfl, by kernel_rfl, run_equalIn_int w d 3 .i64 .i64 a.t b.t (by kernel_rfl)⟩
    · cases h1; cases h2
      refine ⟨.int .u64 a.n, .int .u64 b.n, by kernel_rfl, by kernel_rfl, ?_⟩
      rw [run_equalIn_int w d 36 .u64 .u64 a.n b.n (by kernel_rfl)]
      congr 1
      rw [Bool.eq_iff_iff]
      simp
      omega
    · cases h1; cases h2
      refine ⟨sv a.s, sv b.s, by kernel_rfl, by kernel_rfl, ?_⟩
      rw [run_equalIn_string w d 9 _ _ (by kernel_rfl)]
      simp [ByteArray.toList_eq]
    · simp at h1
theorem val_eql (a b : Vl) (w : World) : (binOp .eql 68 (.agg #[.int .i64 a.t, .int .u64 a.n, sv a.s]) (.agg #[.int .i64 b.t, .int .u64 b.n, sv b.s])).run Tryz.prog w = .ok (.bool (a.same b)) w := by
  rw [run_eql_struct, run_equalIn_struct w 9999 68 _ _ (by kernel_rfl) (by kernel_rfl), valFs a b 9998 w]
  rfl
theorem val_neq (a b : Vl) (w : World) : (binOp .neq 68 (.agg #[.int .i64 a.t, .int .u64 a.n, sv a.s]) (.agg #[.int .i64 b.t, .int .u64 b.n, sv b.s])).run Tryz.prog w = .ok (.bool (!a.same b)) w := by
  rw [run_neq_struct, run_equalIn_struct w 9999 68 _ _ (by kernel_rfl) (by kernel_rfl), valFs a b 9998 w]
  rfl
end Go.Proofs.Qxb6500574aGreatDoor
