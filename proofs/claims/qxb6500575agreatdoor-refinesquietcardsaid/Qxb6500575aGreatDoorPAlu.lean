/-
  THE INTEGER UNIT, plain. No walk. Written by tools/gen_xunit.py.
-/
import Derived.Test.Qxb6500575aGreatDoorKUnit
import Derived.Laws.BitsAllLaws
namespace Go.Proofs.Qxb6500575aGreatDoor
open Go Go.RowKit
set_option linter.unusedVariables false
set_option linter.unusedSimpArgs false

abbrev I32 (n : Int) : Prop := -2147483648 ≤ n ∧ n < 2147483648
def u32R (k a b : Int) : Int :=
  if k = 0 then wrap32 (a + b) else if k = 1 then wrap32 (a - b) else if k = 2 then wrap32 (a * b) else if k = 3 then wrap32 (a.tdiv b)
  else if k = 4 then wrap32 (a % 4294967296 / (b % 4294967296)) else if k = 5 then a.tmod b else if k = 6 then wrap32 (a % 4294967296 % (b % 4294967296))
  else if k = 7 then bits .and .i32 a b else if k = 8 then bits .or .i32 a b else if k = 9 then bits .xor .i32 a b
  else if k = 10 then wrap32 (a * 2 ^ (b % 32).toNat) else if k = 11 then a.fdiv (2 ^ (b % 32).toNat) else if k = 12 then wrap32 ((a % 4294967296).fdiv (2 ^ (b % 32).toNat))
  else if k = 13 then (if a = b then 1 else 0) else if k = 14 then (if a < b then 1 else 0) else (if a % 4294967296 < b % 4294967296 then 1 else 0)
def u32P (k a b : Int) : Int × Int := if (3 ≤ k ∧ k ≤ 6) ∧ b = 0 then (0, 11) else (u32R k a b, 0)
def u64R (k a b : Int) : Int :=
  if k = 0 then wrap64 (a + b) else if k = 1 then wrap64 (a - b) else if k = 2 then wrap64 (a * b) else if k = 3 then wrap64 (a.tdiv b)
  else if k = 4 then wrap64 (a % 18446744073709551616 / (b % 18446744073709551616)) else if k = 5 then a.tmod b else if k = 6 then wrap64 (a % 18446744073709551616 % (b % 18446744073709551616))
  else if k = 7 then bits .and .i64 a b else if k = 8 then bits .or .i64 a b else if k = 9 then bits .xor .i64 a b
  else if k = 10 then wrap64 (a * 2 ^ (b % 64).toNat) else if k = 11 then a.fdiv (2 ^ (b % 64).toNat) else if k = 12 then wrap64 ((a % 18446744073709551616).fdiv (2 ^ (b % 64).toNat))
  else if k = 13 then (if a = b then 1 else 0) else if k = 14 then (if a < b then 1 else 0) else (if a % 18446744073709551616 < b % 18446744073709551616 then 1 else 0)
def u64P (k a b : Int) : Int × Int := if (3 ≤ k ∧ k ≤ 6) ∧ b = 0 then (0, 11) else (u64R k a b, 0)
def aluP (op a b : Int) : Int × Int :=
  if op = 29 then (if wrap32 a = 0 then 1 else 0, 0) else if op = 30 then (if a = 0 then 1 else 0, 0) else if op = 31 ∨ op = 32 then (wrap32 a, 0) else if op = 33 then (a % 4294967296, 0)
  else if op < 60 then u32P (op - 40) (wrap32 a) (wrap32 b) else u64P (op - 60) a b
theorem w64 {x : Int} (h : I64 x) : wrap64 x = x := by unfold I64 at h; unfold wrap64; omega
theorem w64_32 (x : Int) : wrap64 (wrap32 x) = wrap32 x := w64 (by unfold wrap32 I64; omega)
theorem w32 {x : Int} (h : I32 x) : wrap32 x = x := by unfold I32 at h; unfold wrap32; omega
theorem w32_64 (x : Int) : wrap32 (wrap64 x) = wrap32 x := by unfold wrap32 wrap64; omega
theorem i32_wrap (x : Int) : I32 (wrap32 x) := by unfold wrap32 I32; omega
theorem i32_bits (op : BinOp) (A B : Int) : I32 (bits op .i32 A B) := by
  unfold bits
  split <;> (rw [IntKind.wrap_i32]; unfold I32; omega)
theorem w64_bits32 (op : BinOp) (A B : Int) : wrap64 (bits op .i32 A B) = bits op .i32 A B := w64 (by have := i32_bits op A B; unfold I32 at this; unfold I64; omega)
theorem w64_bits64 (op : BinOp) (A B : Int) : wrap64 (bits op .i64 A B) = bits op .i64 A B := w64 (i64_bits op A B)
theorem w64_tmod {a : Int} (b : Int) (h : I64 a) : wrap64 (a.tmod b) = a.tmod b := w64 (i64_tmod a b h)
theorem w64_fdiv {a : Int} (n : Nat) (h : I64 a) : wrap64 (a.fdiv (2 ^ n)) = a.fdiv (2 ^ n) := w64 (i64_fdiv a n h)
theorem and31 (b : Int) : (bits .and .u32 (b % 4294967296) 31).toNat = (b % 32).toNat := by
  rw [u32_and _ _ (by omega) (by omega) (by omega) (by omega)]
  show ((b % 4294967296).toNat &&& 31 : Nat) = _
  rw [nat_mask5]
  omega
theorem and63 (b : Int) : (bits .and .u64 (b % 18446744073709551616) 63).toNat = (b % 64).toNat := by
  rw [u64_and _ _ (by omega) (by omega) (by omega) (by omega)]
  show ((b % 18446744073709551616).toNat &&& 63 : Nat) = _
  rw [nat_mask6]
  omega
theorem top32 : bits BinOp.and IntKind.u32 (bits BinOp.xor IntKind.u32 IntKind.u32.max 0 / 134217728) 63 = 31 := by decide +kernel
theorem top64 : bits BinOp.and IntKind.u64 (bits BinOp.xor IntKind.u64 IntKind.u64.max 0 / 134217728) 63 = 63 := by decide +kernel
theorem and31z : (bits .and .u32 0 31).toNat = 0 := by decide +kernel
theorem and63z : (bits .and .u64 0 63).toNat = 0 := by decide +kernel
theorem tdivM (a b : Int) : (a % 18446744073709551616).tdiv (b % 18446744073709551616) = a % 18446744073709551616 / (b % 18446744073709551616) := Int.tdiv_eq_ediv_of_nonneg (by omega)
theorem tmodM (a b : Int) : (a % 18446744073709551616).tmod (b % 18446744073709551616) = a % 18446744073709551616 % (b % 18446744073709551616) := Int.tmod_eq_emod_of_nonneg (by omega)
theorem w64M (x : Int) : wrap64 (x % 18446744073709551616) = wrap64 x := by unfold wrap64; omega
theorem min32 (b : Int) : min (b % 32).toNat 32 = (b % 32).toNat := by omega
theorem min64 (b : Int) : min (b % 64).toNat 64 = (b % 64).toNat := by omega
theorem ite_i64 {c : Prop} [Decidable c] {x y : Int} (hx : I64 x) (hy : I64 y) : I64 (if c then x else y) := by split; exact hx; exact hy
theorem i64_w32 (z : Int) : I64 (wrap32 z) := by unfold wrap32 I64; omega
theorem i64_bits32 (o : BinOp) (x y : Int) : I64 (bits o .i32 x y) := by have := i32_bits o x y; unfold I32 at this; unfold I64; omega
theorem i64_0 : I64 0 := by unfold I64; omega
theorem i64_1 : I64 1 := by unfold I64; omega
theorem u32R_i64 (k x y : Int) (hx : I64 x) : I64 (u32R k x y) :=
  ite_i64 (i64_w32 _) (ite_i64 (i64_w32 _) (ite_i64 (i64_w32 _) (ite_i64 (i64_w32 _) (ite_i64 (i64_w32 _) (ite_i64 (i64_tmod _ _ hx) (ite_i64 (i64_w32 _) (ite_i64 (i64_bits32 _ _ _) (ite_i64 (i64_bits32 _ _ _) (ite_i64 (i64_bits32 _ _ _) (ite_i64 (i64_w32 _) (ite_i64 (i64_fdiv _ _ hx) (ite_i64 (i64_w32 _) (ite_i64 (ite_i64 i64_1 i64_0) (ite_i64 (ite_i64 i64_1 i64_0) (ite_i64 i64_1 i64_0)))))))))))))))
theorem u64R_i64 (k x y : Int) (hx : I64 x) : I64 (u64R k x y) :=
  ite_i64 (i64_wrap _) (ite_i64 (i64_wrap _) (ite_i64 (i64_wrap _) (ite_i64 (i64_wrap _) (ite_i64 (i64_wrap _) (ite_i64 (i64_tmod _ _ hx) (ite_i64 (i64_wrap _) (ite_i64 (i64_bits _ _ _) (ite_i64 (i64_bits _ _ _) (ite_i64 (i64_bits _ _ _) (ite_i64 (i64_wrap _) (ite_i64 (i64_fdiv _ _ hx) (ite_i64 (i64_wrap _) (ite_i64 (ite_i64 i64_1 i64_0) (ite_i64 (ite_i64 i64_1 i64_0) (ite_i64 i64_1 i64_0)))))))))))))))
theorem u32P_ok (k x y : Int) (hx : I64 x) : I64 (u32P k x y).1 ∧ ((u32P k x y).2 = 0 ∨ (u32P k x y).2 = 11) := by
  unfold u32P
  split
  · exact ⟨i64_0, .inr rfl⟩
  · exact ⟨u32R_i64 k x y hx, .inl rfl⟩
theorem u64P_ok (k x y : Int) (hx : I64 x) : I64 (u64P k x y).1 ∧ ((u64P k x y).2 = 0 ∨ (u64P k x y).2 = 11) := by
  unfold u64P
  split
  · exact ⟨i64_0, .inr rfl⟩
  · exact ⟨u64R_i64 k x y hx, .inl rfl⟩
theorem aluP_ok {op a b : Int} (ha : I64 a) : I64 (aluP op a b).1 ∧ ((aluP op a b).2 = 0 ∨ (aluP op a b).2 = 11) := by
  unfold aluP
  split
  · exact ⟨ite_i64 i64_1 i64_0, .inl rfl⟩
  split
  · exact ⟨ite_i64 i64_1 i64_0, .inl rfl⟩
  split
  · exact ⟨i64_w32 a, .inl rfl⟩
  split
  · exact ⟨by unfold I64; simp only; omega, .inl rfl⟩
  split
  · exact u32P_ok _ _ _ (i64_w32 a)
  · exact u64P_ok _ _ _ ha
end Go.Proofs.Qxb6500575aGreatDoor
