/-
  THE WALKS of mach.unit at its two widths, mach.Alu. Written by tools/gen_unit.py.
-/
import Derived.Test.Qxb6500575aGreatDoorKC
namespace Go.Proofs.Qxb6500575aGreatDoor
open Go Go.RowKit
set_option linter.unusedVariables false
set_option linter.unusedSimpArgs false

def UPost (w : World) (e : Ending) (w' : World) : Prop := ∃ n er, e = .returned (.tuple #[.int .i64 n, .int .i64 er]) ∧ (er = 0 ∨ er = 11) ∧ I64 n ∧ w' = w
theorem i64_wrap (x : Int) : I64 (wrap64 x) := by unfold I64 wrap64; omega
theorem and_u32_nonneg (A B : Int) : 0 ≤ bits BinOp.and IntKind.u32 A B := by
  unfold bits
  simp only
  rw [IntKind.wrap_u32]
  omega
theorem and_u64_nonneg (A B : Int) : 0 ≤ bits BinOp.and IntKind.u64 A B := by
  unfold bits
  simp only
  rw [IntKind.wrap_u64]
  omega
theorem run_shl (P : Program) (k yk : IntKind) (x y : Int) (hy : 0 ≤ y) (w : World) : (Op.shift .shl k x yk y).run P w = .ok (.int k (k.wrap (x * 2 ^ min y.toNat k.bits))) w := by
  have h : ¬ y < 0 := by omega
  simp [Op.shift, h]
theorem run_shr (P : Program) (k yk : IntKind) (x y : Int) (hy : 0 ≤ y) (w : World) : (Op.shift .shr k x yk y).run P w = .ok (.int k (x.fdiv (2 ^ min y.toNat k.bits))) w := by
  have h : ¬ y < 0 := by omega
  simp [Op.shift, h]
theorem i64_bits (op : BinOp) (A B : Int) : I64 (bits op .i64 A B) := by
  unfold bits
  split <;> (rw [IntKind.wrap_i64]; unfold I64; omega)
theorem i64_wrapk (x : Int) : I64 (IntKind.i64.wrap x) := by rw [IntKind.wrap_i64]; unfold I64; omega
theorem i64_fdiv (x : Int) (n : Nat) (h : I64 x) : I64 (x.fdiv (2 ^ n)) := by
  have hp : (0 : Int) < 2 ^ n := Int.pow_pos (by omega)
  have h1 : (1 : Int) ≤ 2 ^ n := by omega
  rw [Int.fdiv_eq_ediv_of_nonneg _ (by omega)]
  unfold I64 at *
  constructor
  · have := Int.le_ediv_of_mul_le (a := -9223372036854775808) (b := x) (c := 2 ^ n) hp (by
      have : (-9223372036854775808 : Int) * 2 ^ n ≤ -9223372036854775808 * 1 := by omega
      omega)
    exact this
  · rcases Int.lt_or_le x 0 with hx | hx
    · have := Int.ediv_lt_of_lt_mul (a := x) (b := 0) (c := 2 ^ n) hp (by omega)
      omega
    · have := Int.ediv_le_self (a := x) (2 ^ n) hx
      omega
theorem i64_tmod (a b : Int) (h : I64 a) : I64 (a.tmod b) := by
  have h1 : (a.tmod b).natAbs ≤ a.natAbs := by rw [Int.natAbs_tmod]; exact Nat.mod_le _ _
  unfold I64 at *
  rcases Int.lt_or_le a 0 with ha | ha
  · have h2 := Int.tmod_nonneg b (show 0 ≤ -a by omega)
    rw [Int.neg_tmod] at h2
    omega
  · have h2 := Int.tmod_nonneg b ha
    omega
set_option maxRecDepth 100000
set_option maxHeartbeats 400000
theorem unit32_0 (a b : Int) (ha : I64 a) (hb0 : -2147483648 ≤ b ∧ b < 2147483648) (w : World) : Calls Tryz.prog 140 #[.int .i64 0, .int .i32 a, .int .i32 b] w (UPost w) := by
  go_enter Tryz.func140, Tryz.ntmps140
  go_wp2
  all_goals
    go_ret2
    refine ⟨_, _, rfl, by first | exact .inl rfl | exact .inr rfl, ?_, rfl⟩
    first | exact i64_wrap _ | exact i64_bits _ _ _ | exact i64_wrapk _ | exact i64_fdiv _ _ ha | exact i64_tmod _ _ ha | (unfold I64; omega)
theorem unit32_1 (a b : Int) (ha : I64 a) (hb0 : -2147483648 ≤ b ∧ b < 2147483648) (w : World) : Calls Tryz.prog 140 #[.int .i64 1, .int .i32 a, .int .i32 b] w (UPost w) := by
  go_enter Tryz.func140, Tryz.ntmps140
  go_wp2
  all_goals
    go_ret2
    refine ⟨_, _, rfl, by first | exact .inl rfl | exact .inr rfl, ?_, rfl⟩
    first | exact i64_wrap _ | exact i64_bits _ _ _ | exact i64_wrapk _ | exact i64_fdiv _ _ ha | exact i64_tmod _ _ ha | (unfold I64; omega)
theorem unit32_2 (a b : Int) (ha : I64 a) (hb0 : -2147483648 ≤ b ∧ b < 2147483648) (w : World) : Calls Tryz.prog 140 #[.int .i64 2, .int .i32 a, .int .i32 b] w (UPost w) := by
  go_enter Tryz.func140, Tryz.ntmps140
  go_wp2
  all_goals
    go_ret2
    refine ⟨_, _, rfl, by first | exact .inl rfl | exact .inr rfl, ?_, rfl⟩
    first | exact i64_wrap _ | exact i64_bits _ _ _ | exact i64_wrapk _ | exact i64_fdiv _ _ ha | exact i64_tmod _ _ ha | (unfold I64; omega)
theorem unit32_3z (a b : Int) (ha : I64 a) (hb0 : -2147483648 ≤ b ∧ b < 2147483648) (w : World) (hb : b = 0) : Calls Tryz.prog 140 #[.int .i64 3, .int .i32 a, .int .i32 b] w (UPost w) := by
  go_enter Tryz.func140, Tryz.ntmps140
  go_wp2
  all_goals
    go_ret2
    refine ⟨_, _, rfl, by first | exact .inl rfl | exact .inr rfl, ?_, rfl⟩
    first | exact i64_wrap _ | exact i64_bits _ _ _ | exact i64_wrapk _ | exact i64_fdiv _ _ ha | exact i64_tmod _ _ ha | (unfold I64; omega)
theorem unit32_3n (a b : Int) (ha : I64 a) (hb0 : -2147483648 ≤ b ∧ b < 2147483648) (w : World) (hb : ¬ b = 0) : Calls Tryz.prog 140 #[.int .i64 3, .int .i32 a, .int .i32 b] w (UPost w) := by
  go_enter Tryz.func140, Tryz.ntmps140
  go_wp2
  all_goals
    go_ret2
    refine ⟨_, _, rfl, by first | exact .inl rfl | exact .inr rfl, ?_, rfl⟩
    first | exact i64_wrap _ | exact i64_bits _ _ _ | exact i64_wrapk _ | exact i64_fdiv _ _ ha | exact i64_tmod _ _ ha | (unfold I64; omega)
theorem unit32_4z (a b : Int) (ha : I64 a) (hb0 : -2147483648 ≤ b ∧ b < 2147483648) (w : World) (hb : b = 0) : Calls Tryz.prog 140 #[.int .i64 4, .int .i32 a, .int .i32 b] w (UPost w) := by
  go_enter Tryz.func140, Tryz.ntmps140
  go_wp2
  all_goals
    go_ret2
    refine ⟨_, _, rfl, by first | exact .inl rfl | exact .inr rfl, ?_, rfl⟩
    first | exact i64_wrap _ | exact i64_bits _ _ _ | exact i64_wrapk _ | exact i64_fdiv _ _ ha | exact i64_tmod _ _ ha | (unfold I64; omega)
theorem unit32_4n (a b : Int) (ha : I64 a) (hb0 : -2147483648 ≤ b ∧ b < 2147483648) (w : World) (hb : ¬ b = 0) : Calls Tryz.prog 140 #[.int .i64 4, .int .i32 a, .int .i32 b] w (UPost w) := by
  have hb4 : ¬ b % 4294967296 = 0 := by omega
  go_enter Tryz.func140, Tryz.ntmps140
  go_wp2
  all_goals
    go_ret2
    refine ⟨_, _, rfl, by first | exact .inl rfl | exact .inr rfl, ?_, rfl⟩
    first | exact i64_wrap _ | exact i64_bits _ _ _ | exact i64_wrapk _ | exact i64_fdiv _ _ ha | exact i64_tmod _ _ ha | (unfold I64; omega)
theorem unit32_5z (a b : Int) (ha : I64 a) (hb0 : -2147483648 ≤ b ∧ b < 2147483648) (w : World) (hb : b = 0) : Calls Tryz.prog 140 #[.int .i64 5, .int .i32 a, .int .i32 b] w (UPost w) := by
  go_enter Tryz.func140, Tryz.ntmps140
  go_wp2
  all_goals
    go_ret2
    refine ⟨_, _, rfl, by first | exact .inl rfl | exact .inr rfl, ?_, rfl⟩
    first | exact i64_wrap _ | exact i64_bits _ _ _ | exact i64_wrapk _ | exact i64_fdiv _ _ ha | exact i64_tmod _ _ ha | (unfold I64; omega)
theorem unit32_5n (a b : Int) (ha : I64 a) (hb0 : -2147483648 ≤ b ∧ b < 2147483648) (w : World) (hb : ¬ b = 0) : Calls Tryz.prog 140 #[.int .i64 5, .int .i32 a, .int .i32 b] w (UPost w) := by
  go_enter Tryz.func140, Tryz.ntmps140
  go_wp2
  all_goals
    go_ret2
    refine ⟨_, _, rfl, by first | exact .inl rfl | exact .inr rfl, ?_, rfl⟩
    first | exact i64_wrap _ | exact i64_bits _ _ _ | exact i64_wrapk _ | exact i64_fdiv _ _ ha | exact i64_tmod _ _ ha | (unfold I64; omega)
theorem unit32_6z (a b : Int) (ha : I64 a) (hb0 : -2147483648 ≤ b ∧ b < 2147483648) (w : World) (hb : b = 0) : Calls Tryz.prog 140 #[.int .i64 6, .int .i32 a, .int .i32 b] w (UPost w) := by
  go_enter Tryz.func140, Tryz.ntmps140
  go_wp2
  all_goals
    go_ret2
    refine ⟨_, _, rfl, by first | exact .inl rfl | exact .inr rfl, ?_, rfl⟩
    first | exact i64_wrap _ | exact i64_bits _ _ _ | exact i64_wrapk _ | exact i64_fdiv _ _ ha | exact i64_tmod _ _ ha | (unfold I64; omega)
theorem unit32_6n (a b : Int) (ha : I64 a) (hb0 : -2147483648 ≤ b ∧ b < 2147483648) (w : World) (hb : ¬ b = 0) : Calls Tryz.prog 140 #[.int .i64 6, .int .i32 a, .int .i32 b] w (UPost w) := by
  have hb6 : ¬ b % 4294967296 = 0 := by omega
  go_enter Tryz.func140, Tryz.ntmps140
  go_wp2
  all_goals
    go_ret2
    refine ⟨_, _, rfl, by first | exact .inl rfl | exact .inr rfl, ?_, rfl⟩
    first | exact i64_wrap _ | exact i64_bits _ _ _ | exact i64_wrapk _ | exact i64_fdiv _ _ ha | exact i64_tmod _ _ ha | (unfold I64; omega)
theorem unit32_7 (a b : Int) (ha : I64 a) (hb0 : -2147483648 ≤ b ∧ b < 2147483648) (w : World) : Calls Tryz.prog 140 #[.int .i64 7, .int .i32 a, .int .i32 b] w (UPost w) := by
  go_enter Tryz.func140, Tryz.ntmps140
  go_wp2
  all_goals
    go_ret2
    refine ⟨_, _, rfl, by first | exact .inl rfl | exact .inr rfl, ?_, rfl⟩
    first | exact i64_wrap _ | exact i64_bits _ _ _ | exact i64_wrapk _ | exact i64_fdiv _ _ ha | exact i64_tmod _ _ ha | (unfold I64; omega)
theorem unit32_8 (a b : Int) (ha : I64 a) (hb0 : -2147483648 ≤ b ∧ b < 2147483648) (w : World) : Calls Tryz.prog 140 #[.int .i64 8, .int .i32 a, .int .i32 b] w (UPost w) := by
  go_enter Tryz.func140, Tryz.ntmps140
  go_wp2
  all_goals
    go_ret2
    refine ⟨_, _, rfl, by first | exact .inl rfl | exact .inr rfl, ?_, rfl⟩
    first | exact i64_wrap _ | exact i64_bits _ _ _ | exact i64_wrapk _ | exact i64_fdiv _ _ ha | exact i64_tmod _ _ ha | (unfold I64; omega)
theorem unit32_9 (a b : Int) (ha : I64 a) (hb0 : -2147483648 ≤ b ∧ b < 2147483648) (w : World) : Calls Tryz.prog 140 #[.int .i64 9, .int .i32 a, .int .i32 b] w (UPost w) := by
  go_enter Tryz.func140, Tryz.ntmps140
  go_wp2
  all_goals
    go_ret2
    refine ⟨_, _, rfl, by first | exact .inl rfl | exact .inr rfl, ?_, rfl⟩
    first | exact i64_wrap _ | exact i64_bits _ _ _ | exact i64_wrapk _ | exact i64_fdiv _ _ ha | exact i64_tmod _ _ ha | (unfold I64; omega)
theorem unit32_10 (a b : Int) (ha : I64 a) (hb0 : -2147483648 ≤ b ∧ b < 2147483648) (w : World) : Calls Tryz.prog 140 #[.int .i64 10, .int .i32 a, .int .i32 b] w (UPost w) := by
  have hsl := fun (kk yk : IntKind) (x A B : Int) (w : World) => run_shl Tryz.prog kk yk x _ (and_u32_nonneg A B) w
  have hsr := fun (kk yk : IntKind) (x A B : Int) (w : World) => run_shr Tryz.prog kk yk x _ (and_u32_nonneg A B) w
  go_enter Tryz.func140, Tryz.ntmps140
  go_wp2
  all_goals
    go_ret2
    refine ⟨_, _, rfl, by first | exact .inl rfl | exact .inr rfl, ?_, rfl⟩
    first | exact i64_wrap _ | exact i64_bits _ _ _ | exact i64_wrapk _ | exact i64_fdiv _ _ ha | exact i64_tmod _ _ ha | (unfold I64; omega)
theorem unit32_11 (a b : Int) (ha : I64 a) (hb0 : -2147483648 ≤ b ∧ b < 2147483648) (w : World) : Calls Tryz.prog 140 #[.int .i64 11, .int .i32 a, .int .i32 b] w (UPost w) := by
  have hsl := fun (kk yk : IntKind) (x A B : Int) (w : World) => run_shl Tryz.prog kk yk x _ (and_u32_nonneg A B) w
  have hsr := fun (kk yk : IntKind) (x A B : Int) (w : World) => run_shr Tryz.prog kk yk x _ (and_u32_nonneg A B) w
  go_enter Tryz.func140, Tryz.ntmps140
  go_wp2
  all_goals
    go_ret2
    refine ⟨_, _, rfl, by first | exact .inl rfl | exact .inr rfl, ?_, rfl⟩
    first | exact i64_wrap _ | exact i64_bits _ _ _ | exact i64_wrapk _ | exact i64_fdiv _ _ ha | exact i64_tmod _ _ ha | (unfold I64; omega)
theorem unit32_12 (a b : Int) (ha : I64 a) (hb0 : -2147483648 ≤ b ∧ b < 2147483648) (w : World) : Calls Tryz.prog 140 #[.int .i64 12, .int .i32 a, .int .i32 b] w (UPost w) := by
  have hsl := fun (kk yk : IntKind) (x A B : Int) (w : World) => run_shl Tryz.prog kk yk x _ (and_u32_nonneg A B) w
  have hsr := fun (kk yk : IntKind) (x A B : Int) (w : World) => run_shr Tryz.prog kk yk x _ (and_u32_nonneg A B) w
  go_enter Tryz.func140, Tryz.ntmps140
  go_wp2
  all_goals
    go_ret2
    refine ⟨_, _, rfl, by first | exact .inl rfl | exact .inr rfl, ?_, rfl⟩
    first | exact i64_wrap _ | exact i64_bits _ _ _ | exact i64_wrapk _ | exact i64_fdiv _ _ ha | exact i64_tmod _ _ ha | (unfold I64; omega)
theorem unit32_13 (a b : Int) (ha : I64 a) (hb0 : -2147483648 ≤ b ∧ b < 2147483648) (w : World) : Calls Tryz.prog 140 #[.int .i64 13, .int .i32 a, .int .i32 b] w (UPost w) := by
  go_enter Tryz.func140, Tryz.ntmps140
  go_wp2
  all_goals
    go_ret2
    refine ⟨_, _, rfl, by first | exact .inl rfl | exact .inr rfl, ?_, rfl⟩
    first | exact i64_wrap _ | exact i64_bits _ _ _ | exact i64_wrapk _ | exact i64_fdiv _ _ ha | exact i64_tmod _ _ ha | (unfold I64; omega)
theorem unit32_14 (a b : Int) (ha : I64 a) (hb0 : -2147483648 ≤ b ∧ b < 2147483648) (w : World) : Calls Tryz.prog 140 #[.int .i64 14, .int .i32 a, .int .i32 b] w (UPost w) := by
  go_enter Tryz.func140, Tryz.ntmps140
  go_wp2
  all_goals
    go_ret2
    refine ⟨_, _, rfl, by first | exact .inl rfl | exact .inr rfl, ?_, rfl⟩
    first | exact i64_wrap _ | exact i64_bits _ _ _ | exact i64_wrapk _ | exact i64_fdiv _ _ ha | exact i64_tmod _ _ ha | (unfold I64; omega)
theorem unit32_15 (a b : Int) (ha : I64 a) (hb0 : -2147483648 ≤ b ∧ b < 2147483648) (w : World) : Calls Tryz.prog 140 #[.int .i64 15, .int .i32 a, .int .i32 b] w (UPost w) := by
  go_enter Tryz.func140, Tryz.ntmps140
  go_wp2
  all_goals
    go_ret2
    refine ⟨_, _, rfl, by first | exact .inl rfl | exact .inr rfl, ?_, rfl⟩
    first | exact i64_wrap _ | exact i64_bits _ _ _ | exact i64_wrapk _ | exact i64_fdiv _ _ ha | exact i64_tmod _ _ ha | (unfold I64; omega)
theorem unit64_0 (a b : Int) (ha : I64 a) (hb0 : I64 b) (w : World) : Calls Tryz.prog 141 #[.int .i64 0, .int .i64 a, .int .i64 b] w (UPost w) := by
  go_enter Tryz.func141, Tryz.ntmps141
  go_wp2
  all_goals
    go_ret2
    refine ⟨_, _, rfl, by first | exact .inl rfl | exact .inr rfl, ?_, rfl⟩
    first | exact i64_wrap _ | exact i64_bits _ _ _ | exact i64_wrapk _ | exact i64_fdiv _ _ ha | exact i64_tmod _ _ ha | (unfold I64; omega)
theorem unit64_1 (a b : Int) (ha : I64 a) (hb0 : I64 b) (w : World) : Calls Tryz.prog 141 #[.int .i64 1, .int .i64 a, .int .i64 b] w (UPost w) := by
  go_enter Tryz.func141, Tryz.ntmps141
  go_wp2
  all_goals
    go_ret2
    refine ⟨_, _, rfl, by first | exact .inl rfl | exact .inr rfl, ?_, rfl⟩
    first | exact i64_wrap _ | exact i64_bits _ _ _ | exact i64_wrapk _ | exact i64_fdiv _ _ ha | exact i64_tmod _ _ ha | (unfold I64; omega)
theorem unit64_2 (a b : Int) (ha : I64 a) (hb0 : I64 b) (w : World) : Calls Tryz.prog 141 #[.int .i64 2, .int .i64 a, .int .i64 b] w (UPost w) := by
  go_enter Tryz.func141, Tryz.ntmps141
  go_wp2
  all_goals
    go_ret2
    refine ⟨_, _, rfl, by first | exact .inl rfl | exact .inr rfl, ?_, rfl⟩
    first | exact i64_wrap _ | exact i64_bits _ _ _ | exact i64_wrapk _ | exact i64_fdiv _ _ ha | exact i64_tmod _ _ ha | (unfold I64; omega)
theorem unit64_3z (a b : Int) (ha : I64 a) (hb0 : I64 b) (w : World) (hb : b = 0) : Calls Tryz.prog 141 #[.int .i64 3, .int .i64 a, .int .i64 b] w (UPost w) := by
  go_enter Tryz.func141, Tryz.ntmps141
  go_wp2
  all_goals
    go_ret2
    refine ⟨_, _, rfl, by first | exact .inl rfl | exact .inr rfl, ?_, rfl⟩
    first | exact i64_wrap _ | exact i64_bits _ _ _ | exact i64_wrapk _ | exact i64_fdiv _ _ ha | exact i64_tmod _ _ ha | (unfold I64; omega)
theorem unit64_3n (a b : Int) (ha : I64 a) (hb0 : I64 b) (w : World) (hb : ¬ b = 0) : Calls Tryz.prog 141 #[.int .i64 3, .int .i64 a, .int .i64 b] w (UPost w) := by
  go_enter Tryz.func141, Tryz.ntmps141
  go_wp2
  all_goals
    go_ret2
    refine ⟨_, _, rfl, by first | exact .inl rfl | exact .inr rfl, ?_, rfl⟩
    first | exact i64_wrap _ | exact i64_bits _ _ _ | exact i64_wrapk _ | exact i64_fdiv _ _ ha | exact i64_tmod _ _ ha | (unfold I64; omega)
theorem unit64_4z (a b : Int) (ha : I64 a) (hb0 : I64 b) (w : World) (hb : b = 0) : Calls Tryz.prog 141 #[.int .i64 4, .int .i64 a, .int .i64 b] w (UPost w) := by
  go_enter Tryz.func141, Tryz.ntmps141
  go_wp2
  all_goals
    go_ret2
    refine ⟨_, _, rfl, by first | exact .inl rfl | exact .inr rfl, ?_, rfl⟩
    first | exact i64_wrap _ | exact i64_bits _ _ _ | exact i64_wrapk _ | exact i64_fdiv _ _ ha | exact i64_tmod _ _ ha | (unfold I64; omega)
theorem unit64_4n (a b : Int) (ha : I64 a) (hb0 : I64 b) (w : World) (hb : ¬ b = 0) : Calls Tryz.prog 141 #[.int .i64 4, .int .i64 a, .int .i64 b] w (UPost w) := by
  have hb4 : ¬ b % 18446744073709551616 = 0 := by unfold I64 at hb0; omega
  go_enter Tryz.func141, Tryz.ntmps141
  go_wp2
  all_goals
    go_ret2
    refine ⟨_, _, rfl, by first | exact .inl rfl | exact .inr rfl, ?_, rfl⟩
    first | exact i64_wrap _ | exact i64_bits _ _ _ | exact i64_wrapk _ | exact i64_fdiv _ _ ha | exact i64_tmod _ _ ha | (unfold I64; omega)
theorem unit64_5z (a b : Int) (ha : I64 a) (hb0 : I64 b) (w : World) (hb : b = 0) : Calls Tryz.prog 141 #[.int .i64 5, .int .i64 a, .int .i64 b] w (UPost w) := by
  go_enter Tryz.func141, Tryz.ntmps141
  go_wp2
  all_goals
    go_ret2
    refine ⟨_, _, rfl, by first | exact .inl rfl | exact .inr rfl, ?_, rfl⟩
    first | exact i64_wrap _ | exact i64_bits _ _ _ | exact i64_wrapk _ | exact i64_fdiv _ _ ha | exact i64_tmod _ _ ha | (unfold I64; omega)
theorem unit64_5n (a b : Int) (ha : I64 a) (hb0 : I64 b) (w : World) (hb : ¬ b = 0) : Calls Tryz.prog 141 #[.int .i64 5, .int .i64 a, .int .i64 b] w (UPost w) := by
  go_enter Tryz.func141, Tryz.ntmps141
  go_wp2
  all_goals
    go_ret2
    refine ⟨_, _, rfl, by first | exact .inl rfl | exact .inr rfl, ?_, rfl⟩
    first | exact i64_wrap _ | exact i64_bits _ _ _ | exact i64_wrapk _ | exact i64_fdiv _ _ ha | exact i64_tmod _ _ ha | (unfold I64; omega)
theorem unit64_6z (a b : Int) (ha : I64 a) (hb0 : I64 b) (w : World) (hb : b = 0) : Calls Tryz.prog 141 #[.int .i64 6, .int .i64 a, .int .i64 b] w (UPost w) := by
  go_enter Tryz.func141, Tryz.ntmps141
  go_wp2
  all_goals
    go_ret2
    refine ⟨_, _, rfl, by first | exact .inl rfl | exact .inr rfl, ?_, rfl⟩
    first | exact i64_wrap _ | exact i64_bits _ _ _ | exact i64_wrapk _ | exact i64_fdiv _ _ ha | exact i64_tmod _ _ ha | (unfold I64; omega)
theorem unit64_6n (a b : Int) (ha : I64 a) (hb0 : I64 b) (w : World) (hb : ¬ b = 0) : Calls Tryz.prog 141 #[.int .i64 6, .int .i64 a, .int .i64 b] w (UPost w) := by
  have hb6 : ¬ b % 18446744073709551616 = 0 := by unfold I64 at hb0; omega
  go_enter Tryz.func141, Tryz.ntmps141
  go_wp2
  all_goals
    go_ret2
    refine ⟨_, _, rfl, by first | exact .inl rfl | exact .inr rfl, ?_, rfl⟩
    first | exact i64_wrap _ | exact i64_bits _ _ _ | exact i64_wrapk _ | exact i64_fdiv _ _ ha | exact i64_tmod _ _ ha | (unfold I64; omega)
theorem unit64_7 (a b : Int) (ha : I64 a) (hb0 : I64 b) (w : World) : Calls Tryz.prog 141 #[.int .i64 7, .int .i64 a, .int .i64 b] w (UPost w) := by
  go_enter Tryz.func141, Tryz.ntmps141
  go_wp2
  all_goals
    go_ret2
    refine ⟨_, _, rfl, by first | exact .inl rfl | exact .inr rfl, ?_, rfl⟩
    first | exact i64_wrap _ | exact i64_bits _ _ _ | exact i64_wrapk _ | exact i64_fdiv _ _ ha | exact i64_tmod _ _ ha | (unfold I64; omega)
theorem unit64_8 (a b : Int) (ha : I64 a) (hb0 : I64 b) (w : World) : Calls Tryz.prog 141 #[.int .i64 8, .int .i64 a, .int .i64 b] w (UPost w) := by
  go_enter Tryz.func141, Tryz.ntmps141
  go_wp2
  all_goals
    go_ret2
    refine ⟨_, _, rfl, by first | exact .inl rfl | exact .inr rfl, ?_, rfl⟩
    first | exact i64_wrap _ | exact i64_bits _ _ _ | exact i64_wrapk _ | exact i64_fdiv _ _ ha | exact i64_tmod _ _ ha | (unfold I64; omega)
theorem unit64_9 (a b : Int) (ha : I64 a) (hb0 : I64 b) (w : World) : Calls Tryz.prog 141 #[.int .i64 9, .int .i64 a, .int .i64 b] w (UPost w) := by
  go_enter Tryz.func141, Tryz.ntmps141
  go_wp2
  all_goals
    go_ret2
    refine ⟨_, _, rfl, by first | exact .inl rfl | exact .inr rfl, ?_, rfl⟩
    first | exact i64_wrap _ | exact i64_bits _ _ _ | exact i64_wrapk _ | exact i64_fdiv _ _ ha | exact i64_tmod _ _ ha | (unfold I64; omega)
theorem unit64_10 (a b : Int) (ha : I64 a) (hb0 : I64 b) (w : World) : Calls Tryz.prog 141 #[.int .i64 10, .int .i64 a, .int .i64 b] w (UPost w) := by
  have hsl := fun (kk yk : IntKind) (x A B : Int) (w : World) => run_shl Tryz.prog kk yk x _ (and_u64_nonneg A B) w
  have hsr := fun (kk yk : IntKind) (x A B : Int) (w : World) => run_shr Tryz.prog kk yk x _ (and_u64_nonneg A B) w
  go_enter Tryz.func141, Tryz.ntmps141
  go_wp2
  all_goals
    go_ret2
    refine ⟨_, _, rfl, by first | exact .inl rfl | exact .inr rfl, ?_, rfl⟩
    first | exact i64_wrap _ | exact i64_bits _ _ _ | exact i64_wrapk _ | exact i64_fdiv _ _ ha | exact i64_tmod _ _ ha | (unfold I64; omega)
theorem unit64_11 (a b : Int) (ha : I64 a) (hb0 : I64 b) (w : World) : Calls Tryz.prog 141 #[.int .i64 11, .int .i64 a, .int .i64 b] w (UPost w) := by
  have hsl := fun (kk yk : IntKind) (x A B : Int) (w : World) => run_shl Tryz.prog kk yk x _ (and_u64_nonneg A B) w
  have hsr := fun (kk yk : IntKind) (x A B : Int) (w : World) => run_shr Tryz.prog kk yk x _ (and_u64_nonneg A B) w
  go_enter Tryz.func141, Tryz.ntmps141
  go_wp2
  all_goals
    go_ret2
    refine ⟨_, _, rfl, by first | exact .inl rfl | exact .inr rfl, ?_, rfl⟩
    first | exact i64_wrap _ | exact i64_bits _ _ _ | exact i64_wrapk _ | exact i64_fdiv _ _ ha | exact i64_tmod _ _ ha | (unfold I64; omega)
theorem unit64_12 (a b : Int) (ha : I64 a) (hb0 : I64 b) (w : World) : Calls Tryz.prog 141 #[.int .i64 12, .int .i64 a, .int .i64 b] w (UPost w) := by
  have hsl := fun (kk yk : IntKind) (x A B : Int) (w : World) => run_shl Tryz.prog kk yk x _ (and_u64_nonneg A B) w
  have hsr := fun (kk yk : IntKind) (x A B : Int) (w : World) => run_shr Tryz.prog kk yk x _ (and_u64_nonneg A B) w
  go_enter Tryz.func141, Tryz.ntmps141
  go_wp2
  all_goals
    go_ret2
    refine ⟨_, _, rfl, by first | exact .inl rfl | exact .inr rfl, ?_, rfl⟩
    first | exact i64_wrap _ | exact i64_bits _ _ _ | exact i64_wrapk _ | exact i64_fdiv _ _ ha | exact i64_tmod _ _ ha | (unfold I64; omega)
theorem unit64_13 (a b : Int) (ha : I64 a) (hb0 : I64 b) (w : World) : Calls Tryz.prog 141 #[.int .i64 13, .int .i64 a, .int .i64 b] w (UPost w) := by
  go_enter Tryz.func141, Tryz.ntmps141
  go_wp2
  all_goals
    go_ret2
    refine ⟨_, _, rfl, by first | exact .inl rfl | exact .inr rfl, ?_, rfl⟩
    first | exact i64_wrap _ | exact i64_bits _ _ _ | exact i64_wrapk _ | exact i64_fdiv _ _ ha | exact i64_tmod _ _ ha | (unfold I64; omega)
theorem unit64_14 (a b : Int) (ha : I64 a) (hb0 : I64 b) (w : World) : Calls Tryz.prog 141 #[.int .i64 14, .int .i64 a, .int .i64 b] w (UPost w) := by
  go_enter Tryz.func141, Tryz.ntmps141
  go_wp2
  all_goals
    go_ret2
    refine ⟨_, _, rfl, by first | exact .inl rfl | exact .inr rfl, ?_, rfl⟩
    first | exact i64_wrap _ | exact i64_bits _ _ _ | exact i64_wrapk _ | exact i64_fdiv _ _ ha | exact i64_tmod _ _ ha | (unfold I64; omega)
theorem unit64_15 (a b : Int) (ha : I64 a) (hb0 : I64 b) (w : World) : Calls Tryz.prog 141 #[.int .i64 15, .int .i64 a, .int .i64 b] w (UPost w) := by
  go_enter Tryz.func141, Tryz.ntmps141
  go_wp2
  all_goals
    go_ret2
    refine ⟨_, _, rfl, by first | exact .inl rfl | exact .inr rfl, ?_, rfl⟩
    first | exact i64_wrap _ | exact i64_bits _ _ _ | exact i64_wrapk _ | exact i64_fdiv _ _ ha | exact i64_tmod _ _ ha | (unfold I64; omega)

theorem unit32_any (k a b : Int) (hk : 0 ≤ k ∧ k < 16) (ha : I64 a) (hb0 : -2147483648 ≤ b ∧ b < 2147483648) (w : World) : Calls Tryz.prog 140 #[.int .i64 k, .int .i32 a, .int .i32 b] w (UPost w) := by
  have h : k = 0 ∨ k = 1 ∨ k = 2 ∨ k = 3 ∨ k = 4 ∨ k = 5 ∨ k = 6 ∨ k = 7 ∨ k = 8 ∨ k = 9 ∨ k = 10 ∨ k = 11 ∨ k = 12 ∨ k = 13 ∨ k = 14 ∨ k = 15 := by omega
  rcases h with rfl | rfl | rfl | rfl | rfl | rfl | rfl | rfl | rfl | rfl | rfl | rfl | rfl | rfl | rfl | rfl
  · exact unit32_0 a b ha hb0 w
  · exact unit32_1 a b ha hb0 w
  · exact unit32_2 a b ha hb0 w
  · by_cases hb : b = 0
    · exact unit32_3z a b ha hb0 w hb
    · exact unit32_3n a b ha hb0 w hb
  · by_cases hb : b = 0
    · exact unit32_4z a b ha hb0 w hb
    · exact unit32_4n a b ha hb0 w hb
  · by_cases hb : b = 0
    · exact unit32_5z a b ha hb0 w hb
    · exact unit32_5n a b ha hb0 w hb
  · by_cases hb : b = 0
    · exact unit32_6z a b ha hb0 w hb
    · exact unit32_6n a b ha hb0 w hb
  · exact unit32_7 a b ha hb0 w
  · exact unit32_8 a b ha hb0 w
  · exact unit32_9 a b ha hb0 w
  · exact unit32_10 a b ha hb0 w
  · exact unit32_11 a b ha hb0 w
  · exact unit32_12 a b ha hb0 w
  · exact unit32_13 a b ha hb0 w
  · exact unit32_14 a b ha hb0 w
  · exact unit32_15 a b ha hb0 w
theorem unit64_any (k a b : Int) (hk : 0 ≤ k ∧ k < 16) (ha : I64 a) (hb0 : I64 b) (w : World) : Calls Tryz.prog 141 #[.int .i64 k, .int .i64 a, .int .i64 b] w (UPost w) := by
  have h : k = 0 ∨ k = 1 ∨ k = 2 ∨ k = 3 ∨ k = 4 ∨ k = 5 ∨ k = 6 ∨ k = 7 ∨ k = 8 ∨ k = 9 ∨ k = 10 ∨ k = 11 ∨ k = 12 ∨ k = 13 ∨ k = 14 ∨ k = 15 := by omega
  rcases h with rfl | rfl | rfl | rfl | rfl | rfl | rfl | rfl | rfl | rfl | rfl | rfl | rfl | rfl | rfl | rfl
  · exact unit64_0 a b ha hb0 w
  · exact unit64_1 a b ha hb0 w
  · exact unit64_2 a b ha hb0 w
  · by_cases hb : b = 0
    · exact unit64_3z a b ha hb0 w hb
    · exact unit64_3n a b ha hb0 w hb
  · by_cases hb : b = 0
    · exact unit64_4z a b ha hb0 w hb
    · exact unit64_4n a b ha hb0 w hb
  · by_cases hb : b = 0
    · exact unit64_5z a b ha hb0 w hb
    · exact unit64_5n a b ha hb0 w hb
  · by_cases hb : b = 0
    · exact unit64_6z a b ha hb0 w hb
    · exact unit64_6n a b ha hb0 w hb
  · exact unit64_7 a b ha hb0 w
  · exact unit64_8 a b ha hb0 w
  · exact unit64_9 a b ha hb0 w
  · exact unit64_10 a b ha hb0 w
  · exact unit64_11 a b ha hb0 w
  · exact unit64_12 a b ha hb0 w
  · exact unit64_13 a b ha hb0 w
  · exact unit64_14 a b ha hb0 w
  · exact unit64_15 a b ha hb0 w
theorem alu_any (bk : Nat) (op a b : Int) (ha : I64 a) (hb : I64 b) (hop : (29 ≤ op ∧ op ≤ 33) ∨ (40 ≤ op ∧ op < 56) ∨ (60 ≤ op ∧ op < 76)) (w : World) : Calls Tryz.prog 131 #[.pointer (some ⟨bk, 0, none⟩), .int .i64 op, .int .i64 a, .int .i64 b] w (UPost w) := by
  have w32 : ∀ x : Int, -2147483648 ≤ wrap32 x ∧ wrap32 x < 2147483648 := fun x => by unfold wrap32; omega
  rcases hop with hop | hop | hop
  · have h : op = 29 ∨ op = 30 ∨ op = 31 ∨ op = 32 ∨ op = 33 := by omega
    rcases h with rfl | rfl | rfl | rfl | rfl
    all_goals
      go_enter Tryz.func131, Tryz.ntmps131
      go_wp2
      all_goals
        go_ret2
        refine ⟨_, _, rfl, by first | exact .inl rfl | exact .inr rfl, ?_, rfl⟩
        first | exact i64_wrap _ | (unfold I64; omega)
  · obtain ⟨h1, h2⟩ := hop
    have g1 : (op == 29) = false := beq_eq_false_iff_ne.2 (by omega)
    have g2 : (op == 30) = false := beq_eq_false_iff_ne.2 (by omega)
    have g3 : (op == 31) = false := beq_eq_false_iff_ne.2 (by omega)
    have g4 : (op == 32) = false := beq_eq_false_iff_ne.2 (by omega)
    have g5 : (op == 33) = false := beq_eq_false_iff_ne.2 (by omega)
    go_enter Tryz.func131, Tryz.ntmps131
    go_wp2_with fail
    refine (unit32_any _ _ _ (by omega) (by have := w32 a; unfold I64; omega) (w32 b) _).mono ?_
    rintro e w1 ⟨n, er, rfl, he, hn, rfl⟩
    go_wp2
    go_ret2
    exact ⟨n, er, rfl, he, hn, rfl⟩
  · obtain ⟨h1, h2⟩ := hop
    have g1 : (op == 29) = false := beq_eq_false_iff_ne.2 (by omega)
    have g2 : (op == 30) = false := beq_eq_false_iff_ne.2 (by omega)
    have g3 : (op == 31) = false := beq_eq_false_iff_ne.2 (by omega)
    have g4 : (op == 32) = false := beq_eq_false_iff_ne.2 (by omega)
    have g5 : (op == 33) = false := beq_eq_false_iff_ne.2 (by omega)
    go_enter Tryz.func131, Tryz.ntmps131
    go_wp2_with fail
    refine (unit64_any _ _ _ (by omega) ha hb _).mono ?_
    rintro e w1 ⟨n, er, rfl, he, hn, rfl⟩
    go_wp2
    go_ret2
    exact ⟨n, er, rfl, he, hn, rfl⟩
end Go.Proofs.Qxb6500575aGreatDoor
