/-
  THE WALKS of vmlaw: Turn, Grown.
-/
import Derived.Test.Qxb6500579aGreatULaw0
namespace Go.Proofs.Qxb6500579aGreat
open Go Go.RowKit
set_option linter.unusedVariables false
set_option linter.unusedSimpArgs false
/-- a step of the script -/
structure OpD where
  k : Int
  a : Int
  b : Int
  c : Int
  s : Bs
  t : Bs
abbrev OpD.val (o : OpD) : Value := .agg #[.int .i64 o.k, .int .i64 o.a, .int .i64 o.b, .int .i64 o.c, sv o.s, sv o.t]
/-- the two registers -/
structure RegD where
  a : Vl
  b : Vl
abbrev regCells (r : RegD) : Array Value := #[.int .i64 r.a.t, .int .u64 r.a.n, sv r.a.s, .int .i64 r.b.t, .int .u64 r.b.n, sv r.b.s]
abbrev RegD.val (r : RegD) : Value := .agg (regCells r)
def u64N (i : Int) : Nat := (i % 18446744073709551616).toNat
def OpD.reg (o : OpD) : Vl := ⟨o.a, u64N o.b, o.s⟩
def turnD (r : RegD) (o : OpD) : RegD := if o.k = 1 then { r with a := o.reg } else if o.k = 2 then { r with b := o.reg } else r
theorem u64N_lt (i : Int) : u64N i < 18446744073709551616 := by unfold u64N; omega
theorem u64N_wrap (i : Int) : IntKind.u64.wrap i = ((u64N i : Nat) : Int) := by
  have e : IntKind.u64.wrap i = i % 18446744073709551616 := by simp [IntKind.wrap, IntKind.bits, IntKind.signed]
  rw [e]
  unfold u64N
  omega
theorem isRegs : IsStr 35 6 := ⟨by kernel_rfl, by kernel_rfl⟩
section
variable {w : World}
set_option maxRecDepth 100000
set_option maxHeartbeats 1000000
theorem turnR_any (r : RegD) (o : OpD) (hb : -9223372036854775808 ≤ o.b ∧ o.b ≤ 9223372036854775807) : Calls Tryz.prog 5 #[r.val, o.val] w fun e' w' => e' = .returned (turnD r o).val ∧ Fr (fun _ => False) w w' := by
  obtain ⟨⟨at', an, as'⟩, ⟨bt, bn, bs⟩⟩ := r
  obtain ⟨k, a, b, c, s, t⟩ := o
  dsimp only at hb
  by_cases h1 : k = 1
  · subst h1
    go_enter Tryz.func5, Tryz.ntmps5
    go_wp2_with fail
    exact bodyPost_ret (res_cell isRegs rfl rfl (Has.newC _ _ _ (by simp)) rfl) rfl ⟨by simp [turnD, OpD.reg, ← u64N_wrap, *], (((Fr.refl _ _).alloc _).alloc _).alloc _⟩
  · by_cases h2 : k = 2
    · subst h2
      go_enter Tryz.func5, Tryz.ntmps5
      go_wp2_with fail
      exact bodyPost_ret (res_cell isRegs rfl rfl (Has.newC _ _ _ (by simp)) rfl) rfl ⟨by simp [turnD, OpD.reg, ← u64N_wrap, *], (((Fr.refl _ _).alloc _).alloc _).alloc _⟩
    · have g1 : (k == 1) = false := by rw [beq_eq_false_iff_ne]; exact h1
      have g2 : (k == 2) = false := by rw [beq_eq_false_iff_ne]; exact h2
      go_enter Tryz.func5, Tryz.ntmps5
      go_wp2_with fail
      exact bodyPost_ret (res_cell isRegs rfl rfl (Has.newC _ _ _ (by simp)) rfl) rfl ⟨by simp [turnD, OpD.reg, ← u64N_wrap, *], (((Fr.refl _ _).alloc _).alloc _).alloc _⟩
end
end Go.Proofs.Qxb6500579aGreat
