/-
  THE WALK of vmlaw: Loaded.
-/
import Derived.Test.Qxb6500579aGreatULaw7
import Derived.Test.Qxb6500579aGreatVEq
namespace Go.Proofs.Qxb6500579aGreat
open Go Go.RowKit
set_option linter.unusedVariables false
set_option linter.unusedSimpArgs false
set_option maxRecDepth 100000
def AnsD.same (x y : AnsD) : Bool := [x.e == y.e, x.n == y.n, x.m == y.m, x.s == y.s, x.t == y.t].all id
theorem AnsD.same_iff (x y : AnsD) : x.same y = true ↔ x = y := by
  obtain ⟨a, b, c, d, e⟩ := x
  obtain ⟨a', b', c', d', e'⟩ := y
  simp [AnsD.same]
theorem ansFs (x y : AnsD) (d : Nat) (w : World) : (Op.eqFields (d + 1) (ansCells x) (ansCells y) (Tryz.prog.fieldsOf 41).toList).run Tryz.prog w = .ok (x.same y) w := by
  rw [eqFs (T := 41) [("E", 39, 0), ("N", 3, 1), ("M", 3, 2), ("S", 9, 3), ("T", 9, 4)] (by kernel_rfl) (by decide) (d + 1) w _ _ [x.e == y.e, x.n == y.n, x.m == y.m, x.s == y.s, x.t == y.t] rfl]
  · rfl
  · intro k z c h1 h2
    rcases k with _ | _ | _ | _ | _ | k
    · cases h1; cases h2
      exact ⟨.int .i64 x.e, .int .i64 y.e, by kernel_rfl, by kernel_rfl, run_equalIn_int w d 39 .i64 .i64 x.e y.e (by kernel_rfl)⟩
    · cases h1; cases h2
      exact ⟨.int .i64 x.n, .int .i64 y.n, by kernel_rfl, by kernel_rfl, run_equalIn_int w d 3 .i64 .i64 x.n y.n (by kernel_rfl)⟩
    · cases h1; cases h2
      exact ⟨.int .i64 x.m, .int .i64 y.m, by kernel_rfl, by kernel_rfl, run_equalIn_int w d 3 .i64 .i64 x.m y.m (by kernel_rfl)⟩
    · cases h1; cases h2
      refine ⟨sv x.s, sv y.s, by kernel_rfl, by kernel_rfl, ?_⟩
      rw [run_equalIn_string w d 9 _ _ (by kernel_rfl)]
      simp [ByteArray.toList_eq]
    · cases h1; cases h2
      refine ⟨sv x.t, sv y.t, by kernel_rfl, by kernel_rfl, ?_⟩
      rw [run_equalIn_string w d 9 _ _ (by kernel_rfl)]
      simp [ByteArray.toList_eq]
    · simp at h1
theorem ans_eql (x y : AnsD) (w : World) : (binOp .eql 41 (.agg (ansCells x)) (.agg (ansCells y))).run Tryz.prog w = .ok (.bool (x.same y)) w := by
  rw [run_eql_struct, run_equalIn_struct w 9999 41 _ _ (by kernel_rfl) (by kernel_rfl), ansFs x y 9998 w]
  rfl
theorem ans_neq (x y : AnsD) (w : World) : (binOp .neq 41 (.agg (ansCells x)) (.agg (ansCells y))).run Tryz.prog w = .ok (.bool (!x.same y)) w := by
  rw [run_neq_struct, run_equalIn_struct w 9999 41 _ _ (by kernel_rfl) (by kernel_rfl), ansFs x y 9998 w]
  rfl
theorem ans_neq0 (x : AnsD) (w : World) : (binOp .neq 41 (.agg (ansCells x)) (.agg (ansCells x))).run Tryz.prog w = .ok (.bool false) w := by
  rw [ans_neq, (AnsD.same_iff x x).2 rfl]
  rfl
/-- two events that are the same -/
theorem evFs (v : EvD) (d : Nat) (w : World) : (Op.eqFields (d + 3) (evCells v) (evCells v) (Tryz.prog.fieldsOf 85).toList).run Tryz.prog w = .ok true w := by
  rw [eqFs (T := 85) [("K", 3, 0), ("Th", 3, 1), ("E", 39, 2), ("V", 33, 3), ("W", 33, 6)] (by kernel_rfl) (by decide) (d + 3) w _ _ [true, true, true, true, true] rfl]
  · rfl
  · intro k z c h1 h2
    rcases k with _ | _ | _ | _ | _ | k
    · cases h1; cases h2
      refine ⟨.int .i64 v.k, .int .i64 v.k, by kernel_rfl, by kernel_rfl, ?_⟩
      rw [run_equalIn_int w (d + 2) 3 .i64 .i64 v.k v.k (by kernel_rfl)]
      simp
    · cases h1; cases h2
      refine ⟨.int .i64 v.th, .int .i64 v.th, by kernel_rfl, by kernel_rfl, ?_⟩
      rw [run_equalIn_int w (d + 2) 3 .i64 .i64 v.th v.th (by kernel_rfl)]
      simp
    · cases h1; cases h2
      refine ⟨.int .i64 v.e, .int .i64 v.e, by kernel_rfl, by kernel_rfl, ?_⟩
      rw [run_equalIn_int w (d + 2) 39 .i64 .i64 v.e v.e (by kernel_rfl)]
      simp
    · cases h1; cases h2
      refine ⟨v.v.val, v.v.val, by kernel_rfl, by kernel_rfl, ?_⟩
      rw [run_equalIn_struct w (d + 2) 33 _ _ (by kernel_rfl) (by kernel_rfl), valFs v.v v.v (d + 1) w]
      simp [Vl.same]
    · cases h1; cases h2
      refine ⟨v.w.val, v.w.val, by kernel_rfl, by kernel_rfl, ?_⟩
      rw [run_equalIn_struct w (d + 2) 33 _ _ (by kernel_rfl) (by kernel_rfl), valFs v.w v.w (d + 1) w]
      simp [Vl.same]
    · simp at h1
theorem ev_neq (v : EvD) (w : World) : (binOp .neq 85 (.agg (evCells v)) (.agg (evCells v))).run Tryz.prog w = .ok (.bool false) w := by
  rw [run_neq_struct, run_equalIn_struct w 9999 85 _ _ (by kernel_rfl) (by kernel_rfl), evFs v 9996 w]
  rfl
theorem ev_eql (v : EvD) (w : World) : (binOp .eql 85 (.agg (evCells v)) (.agg (evCells v))).run Tryz.prog w = .ok (.bool true) w := by
  rw [run_eql_struct, run_equalIn_struct w 9999 85 _ _ (by kernel_rfl) (by kernel_rfl), evFs v 9996 w]
  rfl
theorem showT_ne {ts : List TabD} (h : 1 ≤ ts.length) : showT ts ≠ [] := by
  cases ts with
  | nil => simp at h
  | cons t r => simp [showT, showTb]
/-- what Load leaves -/
structure LdF (σ : St) (er : Nat) (a : Int) : Prop where
  z : er = 0 → σ.e = 0 ∧ σ.f = a.toNat ∧ statD σ.m 0 = 1 ∧ σ.m.out = [] ∧ statD σ.m 1 = 0 ∧ showT σ.m.tabs ≠ []
  n : er ≠ 0 → σ.e = 21 ∧ σ.f = 0 ∧ statD σ.m 0 = 0 ∧ σ.m.out = [] ∧ statD σ.m 1 = 0 ∧ showT σ.m.tabs = []
theorem loadS_f (s : Bs) (a : Int) : LdF (loadS s a).2 (loadS s a).1 a := by
  cases h : loadP s with
  | inl er =>
    have he := loadS_no (fuel := a) h
    have hne : er ≠ 0 := by
      unfold loadP at h
      split at h
      · cases h; decide
      · split at h
        · cases h; decide
        · cases h
    rw [he]
    exact ⟨fun e => absurd e hne, fun _ => ⟨rfl, rfl, rfl, rfl, rfl, rfl⟩⟩
  | inr m =>
    rw [loadS_ok h]
    unfold loadP at h
    split at h
    · cases h
    · split at h
      · cases h
      · rename_i im hd
        cases h
        refine ⟨fun _ => ⟨rfl, rfl, ?_, rfl, ?_, showT_ne (by simp [loadM])⟩, fun e => absurd rfl e⟩
        · simp [statD, loadM, VMD.th]
        · simp [statD, loadM]
end Go.Proofs.Qxb6500579aGreat
