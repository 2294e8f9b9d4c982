/-
  THE WALKS of table: isNil, pack, one, find.
-/
import Derived.Test.Qxb6500574aGreatDoorVTabs
import Derived.Test.Qxb6500574aGreatDoorVEq
import Derived.Test.Qxb6500574aGreatDoorVNum
import Derived.Test.Qxb6500574aGreatDoorVApi
import Derived.Test.Qxb6500574aGreatDoorRegC
import Derived.Test.Qxb6500574aGreatDoorReg7
import Derived.Laws.Bits64b
namespace Go.Proofs.Qxb6500574aGreatDoor
open Go Go.RowKit
set_option linter.unusedVariables false
set_option linter.unusedSimpArgs false

theorem mapU : IsMap Tryz.prog 244 36 21 (.int .u64) := ⟨by kernel_rfl, by kernel_rfl, fun w => by kernel_rfl⟩
theorem mapS : IsMap Tryz.prog 245 9 21 .string := ⟨by kernel_rfl, by kernel_rfl, fun w => by kernel_rfl⟩
section
variable {w : World}
set_option maxRecDepth 100000
set_option maxHeartbeats 400000
theorem wrapU (x : Int) : IntKind.u64.wrap x = x % 18446744073709551616 := rfl
theorem isNil_any (v : Vl) : Calls Tryz.prog 138 #[v.val] w fun e w' => e = .returned (.bool (isNilV v)) ∧ Fr (fun _ => False) w w' := by
  obtain ⟨vt, vn, vs⟩ := v
  go_enter Tryz.func138, Tryz.ntmps138
  go_wp2
  all_goals go_ret
  all_goals refine ⟨ret_bool ?_, Fr.box _⟩
  all_goals simp_all [isNilV, Vl.same, nilV]
theorem pack_any (v : Vl) (h0 : 0 ≤ v.t) (h7 : v.t ≤ 7) (hn : v.n < 18446744073709551616) : Calls Tryz.prog 211 #[v.val] w fun e w' => e = .returned (.int .u64 (packV v)) ∧ Fr (fun _ => False) w w' := by
  obtain ⟨vt, vn, vs⟩ := v
  dsimp only at h0 h7 hn
  have h1 : IntKind.u64.wrap vt = vt := by rw [wrapU]; omega
  have h2 : IntKind.u64.wrap (vt * 4294967296) = ((vt.toNat * 4294967296 : Nat) : Int) := by rw [wrapU]; omega
  go_enter Tryz.func211, Tryz.ntmps211
  go_wp2
  go_ret
  refine ⟨ret_int ?_, Fr.box _⟩
  have e : max vt 0 * 4294967296 = ((vt.toNat * 4294967296 : Nat) : Int) := by omega
  rw [e, bits_or_u64_nat _ _ (by omega) hn]
  simp [packV]
def oneRes (k : Vl) : Value := .tuple #[(oneV k).1.val, .int .i64 (oneV k).2]
theorem one_any {bt : Nat} {nv : Value} (c0 : w.cell? ⟨bt, 0, none⟩ = some nv) (hb : bt < w.heap.size) (k : Vl) : Calls Tryz.prog 135 #[.pointer (some ⟨bt, 0, none⟩), k.val] w fun e w' => e = .returned (oneRes k) ∧ Fr (fun _ => False) w w' := by
  obtain ⟨kt, kn, ks⟩ := k
  by_cases hk : kt = 2
  · subst hk
    have ht : ∀ W, Calls Tryz.prog 210 #[nv, .int .u64 kn] W fun e w' => e = .returned (toIntV (toIntN kn)) ∧ w' = W := fun W => toInt_any nv kn
    cases hi : toIntN kn with
    | none =>
      have ho : oneRes ⟨2, kn, ks⟩ = .tuple #[.agg #[.int .i64 2, .int .u64 kn, sv ks], .int .i64 0] := by simp [oneRes, oneV, hi]
      rw [ho]
      rw [hi] at ht
      unfold toIntV at ht
      clear ho hi
      go_enter Tryz.func135, Tryz.ntmps135
      go_wp2
      refine wp_region_Y 6 1 12 (by kernel_rfl) (by kernel_rfl) (fun _ _ _ _ _ h => h) ?_
      simp only [List.take_succ_cons, List.take_zero, List.drop_succ_cons, List.drop_zero]
      repeat go_big_quiet_step (fail)
      refine wpQuiet_nil ?_
      go_wp2_with (go_at_call 210; refine (ht _).mono ?_; rintro e w' ⟨rfl, rfl⟩)
      repeat go_big_quiet_step (fail)
      refine wpQuiet_nil ?_
      go_wp2
      refine bodyPost_ret (res_cell_tmp isVal rfl rfl (Has.newC _ _ _ (by simp)).drew rfl) rfl ?_
      exact ⟨rfl, (((Fr.refl _ _).alloc _).alloc _).drew⟩
    | some i =>
      rw [hi] at ht
      unfold toIntV at ht
      simp only [Option.getD_some, Option.isSome_some] at ht
      by_cases hz : i = 0
      · have ho : oneRes ⟨2, kn, ks⟩ = .tuple #[.agg #[.int .i64 2, .int .u64 0, sv ks], .int .i64 0] := by simp [oneRes, oneV, hi, hz]
        rw [ho]
        subst hz
        clear ho hi
        go_enter Tryz.func135, Tryz.ntmps135
        go_wp2
        refine wp_region_Y 6 1 12 (by kernel_rfl) (by kernel_rfl) (fun _ _ _ _ _ h => h) ?_
        simp only [List.take_succ_cons, List.take_zero, List.drop_succ_cons, List.drop_zero]
        repeat go_big_quiet_step (fail)
        refine wpQuiet_nil ?_
        go_wp2_with (go_at_call 210; refine (ht _).mono ?_; rintro e w' ⟨rfl, rfl⟩)
        repeat go_big_quiet_step (fail)
        refine wpQuiet_nil ?_
        go_wp2
        refine bodyPost_ret (res_cell_tmp isVal rfl rfl (Has.newC _ _ _ (by simp)).drew rfl) rfl ?_
        exact ⟨rfl, (((Fr.refl _ _).alloc _).alloc _).drew⟩
      · have ho : oneRes ⟨2, kn, ks⟩ = .tuple #[.agg #[.int .i64 2, .int .u64 kn, sv ks], .int .i64 i] := by simp [oneRes, oneV, hi, hz]
        rw [ho]
        have hz2 : (i == 0) = false := by simpa using hz
        clear ho hi
        go_enter Tryz.func135, Tryz.ntmps135
        go_wp2
        refine wp_region_Y 6 1 12 (by kernel_rfl) (by kernel_rfl) (fun _ _ _ _ _ h => h) ?_
        simp only [List.take_succ_cons, List.take_zero, List.drop_succ_cons, List.drop_zero]
        repeat go_big_quiet_step (fail)
        refine wpQuiet_nil ?_
        go_wp2_with (go_at_call 210; refine (ht _).mono ?_; rintro e w' ⟨rfl, rfl⟩)
        repeat go_big_quiet_step (fail)
        refine wpQuiet_nil ?_
        go_wp2
        refine bodyPost_ret (res_cell_tmp isVal rfl rfl (Has.newC _ _ _ (by simp)).drew rfl) rfl ?_
        exact ⟨rfl, (((Fr.refl _ _).alloc _).alloc _).drew⟩
  · have ho : oneRes ⟨kt, kn, ks⟩ = .tuple #[.agg #[.int .i64 kt, .int .u64 kn, sv ks], .int .i64 0] := by simp [oneRes, oneV, hk]
    rw [ho]
    have hk2 : (kt != 2) = true := by simpa using hk
    clear ho
    go_enter Tryz.func135, Tryz.ntmps135
    go_wp2
    refine bodyPost_ret (res_cell_tmp isVal rfl rfl (Has.newC _ _ _ (by simp)) rfl) rfl ?_
    exact ⟨rfl, (((Fr.refl _ _).alloc _).alloc _)⟩
end
end Go.Proofs.Qxb6500574aGreatDoor
