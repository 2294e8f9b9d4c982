/-
  THE WALKS of machm.truth, machm.bin and machm.Alu, exact. Written by tools/gen_xbin.py.
-/
import Derived.Test.Qxb6500575aGreatDoorXUnit
namespace Go.Proofs.Qxb6500575aGreatDoor
open Go Go.RowKit
set_option linter.unusedVariables false
set_option linter.unusedSimpArgs false

theorem ofInt64 (x : Int) : (BitVec.ofInt 64 x).toNat = (x % 18446744073709551616).toNat := by simp [BitVec.toNat_ofInt]
theorem ofInt32 (x : Int) : (BitVec.ofInt 32 x).toNat = (x % 4294967296).toNat := by simp [BitVec.toNat_ofInt]
theorem mask32 (x : Int) : bits BinOp.and IntKind.u64 (IntKind.u64.wrap x) 4294967295 = x % 4294967296 := by
  rw [IntKind.wrap_u64, u64_and _ _ (by omega) (by omega) (by omega) (by omega)]
  show (((x % 18446744073709551616).toNat &&& (2 ^ 32 - 1) : Nat) : Int) = _
  rw [Nat.and_two_pow_sub_one_eq_mod]
  omega
theorem mask64 (x : Int) : bits BinOp.and IntKind.u64 (IntKind.u64.wrap x) 18446744073709551615 = x % 18446744073709551616 := by
  rw [IntKind.wrap_u64, u64_and _ _ (by omega) (by omega) (by omega) (by omega)]
  show (((x % 18446744073709551616).toNat &&& (2 ^ 64 - 1) : Nat) : Int) = _
  rw [Nat.and_two_pow_sub_one_eq_mod]
  omega
theorem andi_mask (x : Int) (m : Nat) (hm : m ≤ 32) : bits BinOp.and IntKind.i64 x (2 ^ m - 1 : Nat) = x % (2 ^ m : Nat) := by
  show IntKind.i64.wrap ((BitVec.ofInt 64 x &&& BitVec.ofInt 64 (2 ^ m - 1 : Nat)).toNat : Int) = _
  have hp : 2 ^ m ≤ 2 ^ 32 := Nat.pow_le_pow_right (by omega) hm
  have hq : 0 < 2 ^ m := Nat.two_pow_pos m
  have hd : (2 : Nat) ^ m ∣ 2 ^ 64 := Nat.pow_dvd_pow 2 (by omega)
  have e1 : (BitVec.ofInt 64 ((2 ^ m - 1 : Nat) : Int)).toNat = 2 ^ m - 1 := by
    rw [ofInt64]
    omega
  rw [BitVec.toNat_and, e1, ofInt64, Nat.and_two_pow_sub_one_eq_mod, IntKind.wrap_i64]
  have e2 : (((x % 18446744073709551616).toNat % 2 ^ m : Nat) : Int) = x % (2 ^ m : Nat) := by
    rw [Int.natCast_emod, Int.toNat_of_nonneg (by omega)]
    exact Int.emod_emod_of_dvd x (show ((2 ^ m : Nat) : Int) ∣ ((2 ^ 64 : Nat) : Int) from Int.natCast_dvd_natCast.2 hd)
  rw [e2]
  have h1 := Int.emod_nonneg x (show ((2 ^ m : Nat) : Int) ≠ 0 by omega)
  have h2 := Int.emod_lt_of_pos x (show (0 : Int) < ((2 ^ m : Nat) : Int) by omega)
  omega
theorem andi31 (x : Int) : bits BinOp.and IntKind.i64 x 31 = x % 32 := andi_mask x 5 (by omega)
theorem andi63 (x : Int) : bits BinOp.and IntKind.i64 x 63 = x % 64 := andi_mask x 6 (by omega)
theorem andiU (x : Int) : bits BinOp.and IntKind.i64 x 4294967295 = x % 4294967296 := andi_mask x 32 (by omega)
theorem low32 (n m : Nat) (h : n % 4294967296 = m % 4294967296) : wrap32 (IntKind.i64.wrap (n : Int)) = IntKind.i32.wrap (m : Int) := by
  rw [IntKind.wrap_i64, IntKind.wrap_i32]
  unfold wrap32
  omega
theorem cut32 (x : Int) : (x % 18446744073709551616).toNat % 4294967296 = (x % 4294967296).toNat % 4294967296 := by omega
theorem and_cut (a b : Int) : wrap32 (bits .and .i64 a b) = bits .and .i32 a b := by
  show wrap32 (IntKind.i64.wrap ((BitVec.ofInt 64 a &&& BitVec.ofInt 64 b).toNat : Int)) = IntKind.i32.wrap ((BitVec.ofInt 32 a &&& BitVec.ofInt 32 b).toNat : Int)
  refine low32 _ _ ?_
  rw [BitVec.toNat_and, BitVec.toNat_and, ofInt64, ofInt64, ofInt32, ofInt32]
  have := @Nat.and_mod_two_pow (a % 18446744073709551616).toNat (b % 18446744073709551616).toNat 32
  have h2 := @Nat.and_mod_two_pow (a % 4294967296).toNat (b % 4294967296).toNat 32
  simp only [show (2 : Nat) ^ 32 = 4294967296 from rfl] at this h2
  rw [this, h2, cut32 a, cut32 b]
theorem or_cut (a b : Int) : wrap32 (bits .or .i64 a b) = bits .or .i32 a b := by
  show wrap32 (IntKind.i64.wrap ((BitVec.ofInt 64 a ||| BitVec.ofInt 64 b).toNat : Int)) = IntKind.i32.wrap ((BitVec.ofInt 32 a ||| BitVec.ofInt 32 b).toNat : Int)
  refine low32 _ _ ?_
  rw [BitVec.toNat_or, BitVec.toNat_or, ofInt64, ofInt64, ofInt32, ofInt32]
  have := @Nat.or_mod_two_pow (a % 18446744073709551616).toNat (b % 18446744073709551616).toNat 32
  have h2 := @Nat.or_mod_two_pow (a % 4294967296).toNat (b % 4294967296).toNat 32
  simp only [show (2 : Nat) ^ 32 = 4294967296 from rfl] at this h2
  rw [this, h2, cut32 a, cut32 b]
theorem xor_cut (a b : Int) : wrap32 (bits .xor .i64 a b) = bits .xor .i32 a b := by
  show wrap32 (IntKind.i64.wrap ((BitVec.ofInt 64 a ^^^ BitVec.ofInt 64 b).toNat : Int)) = IntKind.i32.wrap ((BitVec.ofInt 32 a ^^^ BitVec.ofInt 32 b).toNat : Int)
  refine low32 _ _ ?_
  rw [BitVec.toNat_xor, BitVec.toNat_xor, ofInt64, ofInt64, ofInt32, ofInt32]
  have := @Nat.xor_mod_two_pow (a % 18446744073709551616).toNat (b % 18446744073709551616).toNat 32
  have h2 := @Nat.xor_mod_two_pow (a % 4294967296).toNat (b % 4294967296).toNat 32
  simp only [show (2 : Nat) ^ 32 = 4294967296 from rfl] at this h2
  rw [this, h2, cut32 a, cut32 b]
theorem min32b (b : Int) : min (b % 32).toNat 64 = (b % 32).toNat := by omega
theorem tdivU (a b : Int) : (a % 4294967296).tdiv (b % 4294967296) = a % 4294967296 / (b % 4294967296) := Int.tdiv_eq_ediv_of_nonneg (by omega)
theorem tmodU (a b : Int) : (a % 4294967296).tmod (b % 4294967296) = a % 4294967296 % (b % 4294967296) := Int.tmod_eq_emod_of_nonneg (by omega)
theorem w32_u (x : Int) : wrap32 (x % 18446744073709551616) = wrap32 x := by unfold wrap32; omega
theorem tmod_i32 {a b : Int} (ha : I32 a) : I32 (a.tmod b) := by
  have h1 : (a.tmod b).natAbs ≤ a.natAbs := by rw [Int.natAbs_tmod]; exact Nat.mod_le _ _
  unfold I32 at *
  rcases Int.lt_or_le a 0 with h | h
  · have h2 := Int.tmod_nonneg b (show 0 ≤ -a by omega)
    rw [Int.neg_tmod] at h2
    omega
  · have h2 := Int.tmod_nonneg b h
    omega
theorem fdiv_i32 {a : Int} (n : Nat) (ha : I32 a) : I32 (a.fdiv (2 ^ n)) := by
  have hp : (0 : Int) < 2 ^ n := Int.pow_pos (by omega)
  rw [Int.fdiv_eq_ediv_of_nonneg _ (by omega)]
  unfold I32 at *
  constructor
  · exact Int.le_ediv_of_mul_le hp (by
      have : (-2147483648 : Int) * 2 ^ n ≤ -2147483648 * 1 := by omega
      omega)
  · rcases Int.lt_or_le a 0 with h | h
    · have := Int.ediv_lt_of_lt_mul (a := a) (b := 0) (c := 2 ^ n) hp (by omega)
      omega
    · have := Int.ediv_le_self (a := a) (2 ^ n) h
      omega
theorem w32_tmod {a : Int} (b : Int) (ha : I32 a) : wrap32 (a.tmod b) = a.tmod b := w32 (tmod_i32 ha)
theorem w32_fdiv {a : Int} (n : Nat) (ha : I32 a) : wrap32 (a.fdiv (2 ^ n)) = a.fdiv (2 ^ n) := w32 (fdiv_i32 n ha)
theorem tdiv_m1 (a : Int) : a.tdiv (-1) = -a := by rw [Int.tdiv_neg, Int.tdiv_one]
theorem tmod_m1 (a : Int) : a.tmod (-1) = 0 := by rw [Int.tmod_neg, Int.tmod_one]
def BX (r : Int × Int) (w : World) (e : Ending) (w' : World) : Prop := ∃ v : Int, e = .returned (.tuple #[.int .i64 v, .int .i64 r.2]) ∧ wrap32 v = r.1 ∧ w' = w
theorem BX.of {r : Int × Int} {w w' : World} {n er : Int} (h1 : wrap32 n = r.1) (h2 : er = r.2) (hw : w' = w) : BX r w (.returned (.tuple #[.int .i64 n, .int .i64 er])) w' := ⟨n, by rw [h2], h1, hw⟩
theorem and31_nonneg (A : Int) : 0 ≤ bits BinOp.and IntKind.i64 A 31 := by rw [andi31]; omega
theorem and63_nonneg (A : Int) : 0 ≤ bits BinOp.and IntKind.i64 A 63 := by rw [andi63]; omega
set_option maxRecDepth 100000
set_option maxHeartbeats 400000
theorem xbin32_0 (a b : Int) (ha : I32 a) (hb0 : I32 b) (w : World) : Calls Tryz.prog 158 #[.int .i64 0, .int .i64 a, .int .i64 b, .int .u64 4294967295, .int .i64 31] w (BX (u32P 0 a b) w) := by
  go_enter Tryz.func158, Tryz.ntmps158
  go_wp2
  all_goals
    go_ret2
    refine BX.of ?_ ?_ rfl
    all_goals (try simp only [w32_64])
    all_goals first | (simp_all [u32P, u32R, w32_64, tdiv_m1, tmod_m1]; done) | (unfold u32P u32R; simp_all [wrap32, wrap64, tdiv_m1, tmod_m1]; done) | (simp only [u32P, u32R]; simp_all [wrap32, wrap64]; omega)
theorem xbin32_1 (a b : Int) (ha : I32 a) (hb0 : I32 b) (w : World) : Calls Tryz.prog 158 #[.int .i64 1, .int .i64 a, .int .i64 b, .int .u64 4294967295, .int .i64 31] w (BX (u32P 1 a b) w) := by
  go_enter Tryz.func158, Tryz.ntmps158
  go_wp2
  all_goals
    go_ret2
    refine BX.of ?_ ?_ rfl
    all_goals (try simp only [w32_64])
    all_goals first | (simp_all [u32P, u32R, w32_64, tdiv_m1, tmod_m1]; done) | (unfold u32P u32R; simp_all [wrap32, wrap64, tdiv_m1, tmod_m1]; done) | (simp only [u32P, u32R]; simp_all [wrap32, wrap64]; omega)
theorem xbin32_2 (a b : Int) (ha : I32 a) (hb0 : I32 b) (w : World) : Calls Tryz.prog 158 #[.int .i64 2, .int .i64 a, .int .i64 b, .int .u64 4294967295, .int .i64 31] w (BX (u32P 2 a b) w) := by
  go_enter Tryz.func158, Tryz.ntmps158
  go_wp2
  all_goals
    go_ret2
    refine BX.of ?_ ?_ rfl
    all_goals (try simp only [w32_64])
    all_goals first | (simp_all [u32P, u32R, w32_64, tdiv_m1, tmod_m1]; done) | (unfold u32P u32R; simp_all [wrap32, wrap64, tdiv_m1, tmod_m1]; done) | (simp only [u32P, u32R]; simp_all [wrap32, wrap64]; omega)
theorem xbin32_3z (a b : Int) (ha : I32 a) (hb0 : I32 b) (w : World) (hb : b = 0) : Calls Tryz.prog 158 #[.int .i64 3, .int .i64 a, .int .i64 b, .int .u64 4294967295, .int .i64 31] w (BX (u32P 3 a b) w) := by
  go_enter Tryz.func158, Tryz.ntmps158
  go_wp2
  all_goals
    go_ret2
    refine BX.of ?_ ?_ rfl
    all_goals first | (simp_all [u32P, u32R, w32_64, tdiv_m1, tmod_m1]; done) | (unfold u32P u32R; simp_all [wrap32, wrap64, tdiv_m1, tmod_m1]; done) | (simp only [u32P, u32R]; simp_all [wrap32, wrap64]; omega)
theorem xbin32_3n (a b : Int) (ha : I32 a) (hb0 : I32 b) (w : World) (hb : ¬ b = 0) : Calls Tryz.prog 158 #[.int .i64 3, .int .i64 a, .int .i64 b, .int .u64 4294967295, .int .i64 31] w (BX (u32P 3 a b) w) := by
  go_enter Tryz.func158, Tryz.ntmps158
  go_wp2
  all_goals
    go_ret2
    refine BX.of ?_ ?_ rfl
    all_goals first | (simp_all [u32P, u32R, w32_64, tdiv_m1, tmod_m1]; done) | (unfold u32P u32R; simp_all [wrap32, wrap64, tdiv_m1, tmod_m1]; done) | (simp only [u32P, u32R]; simp_all [wrap32, wrap64]; omega)
theorem xbin32_4z (a b : Int) (ha : I32 a) (hb0 : I32 b) (w : World) (hb : b = 0) : Calls Tryz.prog 158 #[.int .i64 4, .int .i64 a, .int .i64 b, .int .u64 4294967295, .int .i64 31] w (BX (u32P 4 a b) w) := by
  go_enter Tryz.func158, Tryz.ntmps158
  go_wp2
  all_goals
    go_ret2
    refine BX.of ?_ ?_ rfl
    all_goals (try simp only [mask32, mask64] at *)
    all_goals (try simp only [IntKind.wrap_u64, tdivM, tmodM, tdivU, tmodU, w64M, w32_64, w32_u])
    all_goals first | (simp_all [u32P, u32R, w32_64, tdiv_m1, tmod_m1]; done) | (unfold u32P u32R; simp_all [wrap32, wrap64, tdiv_m1, tmod_m1]; done) | (simp only [u32P, u32R]; simp_all [wrap32, wrap64]; omega)
theorem xbin32_4n (a b : Int) (ha : I32 a) (hb0 : I32 b) (w : World) (hb : ¬ b = 0) : Calls Tryz.prog 158 #[.int .i64 4, .int .i64 a, .int .i64 b, .int .u64 4294967295, .int .i64 31] w (BX (u32P 4 a b) w) := by
  have hb4 : ¬ bits BinOp.and IntKind.u64 (IntKind.u64.wrap b) 4294967295 = 0 := by rw [mask32]; unfold I32 at hb0; omega
  go_enter Tryz.func158, Tryz.ntmps158
  go_wp2
  all_goals
    go_ret2
    refine BX.of ?_ ?_ rfl
    all_goals (try simp only [mask32, mask64] at *)
    all_goals (try simp only [IntKind.wrap_u64, tdivM, tmodM, tdivU, tmodU, w64M, w32_64, w32_u])
    all_goals first | (simp_all [u32P, u32R, w32_64, tdiv_m1, tmod_m1]; done) | (unfold u32P u32R; simp_all [wrap32, wrap64, tdiv_m1, tmod_m1]; done) | (simp only [u32P, u32R]; simp_all [wrap32, wrap64]; omega)
theorem xbin32_5z (a b : Int) (ha : I32 a) (hb0 : I32 b) (w : World) (hb : b = 0) : Calls Tryz.prog 158 #[.int .i64 5, .int .i64 a, .int .i64 b, .int .u64 4294967295, .int .i64 31] w (BX (u32P 5 a b) w) := by
  go_enter Tryz.func158, Tryz.ntmps158
  go_wp2
  all_goals
    go_ret2
    refine BX.of ?_ ?_ rfl
    all_goals (try simp only [w32_tmod _ ha])
    all_goals first | (simp_all [u32P, u32R, w32_64, tdiv_m1, tmod_m1]; done) | (unfold u32P u32R; simp_all [wrap32, wrap64, tdiv_m1, tmod_m1]; done) | (simp only [u32P, u32R]; simp_all [wrap32, wrap64]; omega)
theorem xbin32_5n (a b : Int) (ha : I32 a) (hb0 : I32 b) (w : World) (hb : ¬ b = 0) : Calls Tryz.prog 158 #[.int .i64 5, .int .i64 a, .int .i64 b, .int .u64 4294967295, .int .i64 31] w (BX (u32P 5 a b) w) := by
  go_enter Tryz.func158, Tryz.ntmps158
  go_wp2
  all_goals
    go_ret2
    refine BX.of ?_ ?_ rfl
    all_goals (try simp only [w32_tmod _ ha])
    all_goals first | (simp_all [u32P, u32R, w32_64, tdiv_m1, tmod_m1]; done) | (unfold u32P u32R; simp_all [wrap32, wrap64, tdiv_m1, tmod_m1]; done) | (simp only [u32P, u32R]; simp_all [wrap32, wrap64]; omega)
theorem xbin32_6z (a b : Int) (ha : I32 a) (hb0 : I32 b) (w : World) (hb : b = 0) : Calls Tryz.prog 158 #[.int .i64 6, .int .i64 a, .int .i64 b, .int .u64 4294967295, .int .i64 31] w (BX (u32P 6 a b) w) := by
  go_enter Tryz.func158, Tryz.ntmps158
  go_wp2
  all_goals
    go_ret2
    refine BX.of ?_ ?_ rfl
    all_goals (try simp only [mask32, mask64] at *)
    all_goals (try simp only [IntKind.wrap_u64, tdivM, tmodM, tdivU, tmodU, w64M, w32_64, w32_u])
    all_goals first | (simp_all [u32P, u32R, w32_64, tdiv_m1, tmod_m1]; done) | (unfold u32P u32R; simp_all [wrap32, wrap64, tdiv_m1, tmod_m1]; done) | (simp only [u32P, u32R]; simp_all [wrap32, wrap64]; omega)
theorem xbin32_6n (a b : Int) (ha : I32 a) (hb0 : I32 b) (w : World) (hb : ¬ b = 0) : Calls Tryz.prog 158 #[.int .i64 6, .int .i64 a, .int .i64 b, .int .u64 4294967295, .int .i64 31] w (BX (u32P 6 a b) w) := by
  have hb6 : ¬ bits BinOp.and IntKind.u64 (IntKind.u64.wrap b) 4294967295 = 0 := by rw [mask32]; unfold I32 at hb0; omega
  go_enter Tryz.func158, Tryz.ntmps158
  go_wp2
  all_goals
    go_ret2
    refine BX.of ?_ ?_ rfl
    all_goals (try simp only [mask32, mask64] at *)
    all_goals (try simp only [IntKind.wrap_u64, tdivM, tmodM, tdivU, tmodU, w64M, w32_64, w32_u])
    all_goals first | (simp_all [u32P, u32R, w32_64, tdiv_m1, tmod_m1]; done) | (unfold u32P u32R; simp_all [wrap32, wrap64, tdiv_m1, tmod_m1]; done) | (simp only [u32P, u32R]; simp_all [wrap32, wrap64]; omega)
theorem xbin32_7 (a b : Int) (ha : I32 a) (hb0 : I32 b) (w : World) : Calls Tryz.prog 158 #[.int .i64 7, .int .i64 a, .int .i64 b, .int .u64 4294967295, .int .i64 31] w (BX (u32P 7 a b) w) := by
  go_enter Tryz.func158, Tryz.ntmps158
  go_wp2
  all_goals
    go_ret2
    refine BX.of ?_ ?_ rfl
    all_goals (try simp only [and_cut, or_cut, xor_cut])
    all_goals first | (simp_all [u32P, u32R, w32_64, tdiv_m1, tmod_m1]; done) | (unfold u32P u32R; simp_all [wrap32, wrap64, tdiv_m1, tmod_m1]; done) | (simp only [u32P, u32R]; simp_all [wrap32, wrap64]; omega)
theorem xbin32_8 (a b : Int) (ha : I32 a) (hb0 : I32 b) (w : World) : Calls Tryz.prog 158 #[.int .i64 8, .int .i64 a, .int .i64 b, .int .u64 4294967295, .int .i64 31] w (BX (u32P 8 a b) w) := by
  go_enter Tryz.func158, Tryz.ntmps158
  go_wp2
  all_goals
    go_ret2
    refine BX.of ?_ ?_ rfl
    all_goals (try simp only [and_cut, or_cut, xor_cut])
    all_goals first | (simp_all [u32P, u32R, w32_64, tdiv_m1, tmod_m1]; done) | (unfold u32P u32R; simp_all [wrap32, wrap64, tdiv_m1, tmod_m1]; done) | (simp only [u32P, u32R]; simp_all [wrap32, wrap64]; omega)
theorem xbin32_9 (a b : Int) (ha : I32 a) (hb0 : I32 b) (w : World) : Calls Tryz.prog 158 #[.int .i64 9, .int .i64 a, .int .i64 b, .int .u64 4294967295, .int .i64 31] w (BX (u32P 9 a b) w) := by
  go_enter Tryz.func158, Tryz.ntmps158
  go_wp2
  all_goals
    go_ret2
    refine BX.of ?_ ?_ rfl
    all_goals (try simp only [and_cut, or_cut, xor_cut])
    all_goals first | (simp_all [u32P, u32R, w32_64, tdiv_m1, tmod_m1]; done) | (unfold u32P u32R; simp_all [wrap32, wrap64, tdiv_m1, tmod_m1]; done) | (simp only [u32P, u32R]; simp_all [wrap32, wrap64]; omega)
theorem xbin32_10 (a b : Int) (ha : I32 a) (hb0 : I32 b) (w : World) : Calls Tryz.prog 158 #[.int .i64 10, .int .i64 a, .int .i64 b, .int .u64 4294967295, .int .i64 31] w (BX (u32P 10 a b) w) := by
  have hsl := fun (kk yk : IntKind) (x A : Int) (w : World) => run_shl Tryz.prog kk yk x _ (and31_nonneg A) w
  have hsr := fun (kk yk : IntKind) (x A : Int) (w : World) => run_shr Tryz.prog kk yk x _ (and31_nonneg A) w
  go_enter Tryz.func158, Tryz.ntmps158
  go_wp2
  all_goals
    go_ret2
    refine BX.of ?_ ?_ rfl
    all_goals (try simp only [andi31, andi63, min32b, min64, w32_64, w32_u, w32_fdiv _ ha])
    all_goals first | (simp_all [u32P, u32R, w32_64, tdiv_m1, tmod_m1]; done) | (unfold u32P u32R; simp_all [wrap32, wrap64, tdiv_m1, tmod_m1]; done) | (simp only [u32P, u32R]; simp_all [wrap32, wrap64]; omega)
theorem xbin32_11 (a b : Int) (ha : I32 a) (hb0 : I32 b) (w : World) : Calls Tryz.prog 158 #[.int .i64 11, .int .i64 a, .int .i64 b, .int .u64 4294967295, .int .i64 31] w (BX (u32P 11 a b) w) := by
  have hsl := fun (kk yk : IntKind) (x A : Int) (w : World) => run_shl Tryz.prog kk yk x _ (and31_nonneg A) w
  have hsr := fun (kk yk : IntKind) (x A : Int) (w : World) => run_shr Tryz.prog kk yk x _ (and31_nonneg A) w
  go_enter Tryz.func158, Tryz.ntmps158
  go_wp2
  all_goals
    go_ret2
    refine BX.of ?_ ?_ rfl
    all_goals (try simp only [andi31, andi63, min32b, min64, w32_64, w32_u, w32_fdiv _ ha])
    all_goals first | (simp_all [u32P, u32R, w32_64, tdiv_m1, tmod_m1]; done) | (unfold u32P u32R; simp_all [wrap32, wrap64, tdiv_m1, tmod_m1]; done) | (simp only [u32P, u32R]; simp_all [wrap32, wrap64]; omega)
theorem xbin32_12 (a b : Int) (ha : I32 a) (hb0 : I32 b) (w : World) : Calls Tryz.prog 158 #[.int .i64 12, .int .i64 a, .int .i64 b, .int .u64 4294967295, .int .i64 31] w (BX (u32P 12 a b) w) := by
  have hsl := fun (kk yk : IntKind) (x A : Int) (w : World) => run_shl Tryz.prog kk yk x _ (and31_nonneg A) w
  have hsr := fun (kk yk : IntKind) (x A : Int) (w : World) => run_shr Tryz.prog kk yk x _ (and31_nonneg A) w
  go_enter Tryz.func158, Tryz.ntmps158
  go_wp2
  all_goals
    go_ret2
    refine BX.of ?_ ?_ rfl
    all_goals (try simp only [mask32, mask64] at *)
    all_goals (try simp only [andi31, andi63, min32b, min64, w32_64, w32_u, w32_fdiv _ ha])
    all_goals first | (simp_all [u32P, u32R, w32_64, tdiv_m1, tmod_m1]; done) | (unfold u32P u32R; simp_all [wrap32, wrap64, tdiv_m1, tmod_m1]; done) | (simp only [u32P, u32R]; simp_all [wrap32, wrap64]; omega)
theorem xbin32_13 (a b : Int) (ha : I32 a) (hb0 : I32 b) (w : World) : Calls Tryz.prog 158 #[.int .i64 13, .int .i64 a, .int .i64 b, .int .u64 4294967295, .int .i64 31] w (BX (u32P 13 a b) w) := by
  go_enter Tryz.func158, Tryz.ntmps158
  go_wp2
  all_goals
    go_ret2
    refine BX.of ?_ ?_ rfl
    all_goals first | (simp_all [u32P, u32R, w32_64, tdiv_m1, tmod_m1]; done) | (unfold u32P u32R; simp_all [wrap32, wrap64, tdiv_m1, tmod_m1]; done) | (simp only [u32P, u32R]; simp_all [wrap32, wrap64]; omega)
theorem xbin32_14 (a b : Int) (ha : I32 a) (hb0 : I32 b) (w : World) : Calls Tryz.prog 158 #[.int .i64 14, .int .i64 a, .int .i64 b, .int .u64 4294967295, .int .i64 31] w (BX (u32P 14 a b) w) := by
  go_enter Tryz.func158, Tryz.ntmps158
  go_wp2
  all_goals
    go_ret2
    refine BX.of ?_ ?_ rfl
    all_goals first | (simp_all [u32P, u32R, w32_64, tdiv_m1, tmod_m1]; done) | (unfold u32P u32R; simp_all [wrap32, wrap64, tdiv_m1, tmod_m1]; done) | (simp only [u32P, u32R]; simp_all [wrap32, wrap64]; omega)
theorem xbin32_15 (a b : Int) (ha : I32 a) (hb0 : I32 b) (w : World) : Calls Tryz.prog 158 #[.int .i64 15, .int .i64 a, .int .i64 b, .int .u64 4294967295, .int .i64 31] w (BX (u32P 15 a b) w) := by
  go_enter Tryz.func158, Tryz.ntmps158
  go_wp2
  all_goals
    go_ret2
    refine BX.of ?_ ?_ rfl
    all_goals (try simp only [mask32, mask64] at *)
    all_goals first | (simp_all [u32P, u32R, w32_64, tdiv_m1, tmod_m1]; done) | (unfold u32P u32R; simp_all [wrap32, wrap64, tdiv_m1, tmod_m1]; done) | (simp only [u32P, u32R]; simp_all [wrap32, wrap64]; omega)
theorem xbin64_0 (a b : Int) (ha : I64 a) (hb0 : I64 b) (w : World) : Calls Tryz.prog 158 #[.int .i64 0, .int .i64 a, .int .i64 b, .int .u64 18446744073709551615, .int .i64 63] w (UX (u64P 0 a b) w) := by
  go_enter Tryz.func158, Tryz.ntmps158
  go_wp2
  all_goals
    go_ret2
    refine UX.of ?_ ?_ rfl
    all_goals (try simp only [w32_64])
    all_goals first | (simp_all [u64P, u64R, w32_64, tdiv_m1, tmod_m1]; done) | (unfold u64P u64R; simp_all [wrap32, wrap64, tdiv_m1, tmod_m1]; done) | (simp only [u64P, u64R]; simp_all [wrap32, wrap64]; omega)
theorem xbin64_1 (a b : Int) (ha : I64 a) (hb0 : I64 b) (w : World) : Calls Tryz.prog 158 #[.int .i64 1, .int .i64 a, .int .i64 b, .int .u64 18446744073709551615, .int .i64 63] w (UX (u64P 1 a b) w) := by
  go_enter Tryz.func158, Tryz.ntmps158
  go_wp2
  all_goals
    go_ret2
    refine UX.of ?_ ?_ rfl
    all_goals (try simp only [w32_64])
    all_goals first | (simp_all [u64P, u64R, w32_64, tdiv_m1, tmod_m1]; done) | (unfold u64P u64R; simp_all [wrap32, wrap64, tdiv_m1, tmod_m1]; done) | (simp only [u64P, u64R]; simp_all [wrap32, wrap64]; omega)
theorem xbin64_2 (a b : Int) (ha : I64 a) (hb0 : I64 b) (w : World) : Calls Tryz.prog 158 #[.int .i64 2, .int .i64 a, .int .i64 b, .int .u64 18446744073709551615, .int .i64 63] w (UX (u64P 2 a b) w) := by
  go_enter Tryz.func158, Tryz.ntmps158
  go_wp2
  all_goals
    go_ret2
    refine UX.of ?_ ?_ rfl
    all_goals (try simp only [w32_64])
    all_goals first | (simp_all [u64P, u64R, w32_64, tdiv_m1, tmod_m1]; done) | (unfold u64P u64R; simp_all [wrap32, wrap64, tdiv_m1, tmod_m1]; done) | (simp only [u64P, u64R]; simp_all [wrap32, wrap64]; omega)
theorem xbin64_3z (a b : Int) (ha : I64 a) (hb0 : I64 b) (w : World) (hb : b = 0) : Calls Tryz.prog 158 #[.int .i64 3, .int .i64 a, .int .i64 b, .int .u64 18446744073709551615, .int .i64 63] w (UX (u64P 3 a b) w) := by
  go_enter Tryz.func158, Tryz.ntmps158
  go_wp2
  all_goals
    go_ret2
    refine UX.of ?_ ?_ rfl
    all_goals first | (simp_all [u64P, u64R, w32_64, tdiv_m1, tmod_m1]; done) | (unfold u64P u64R; simp_all [wrap32, wrap64, tdiv_m1, tmod_m1]; done) | (simp only [u64P, u64R]; simp_all [wrap32, wrap64]; omega)
theorem xbin64_3n (a b : Int) (ha : I64 a) (hb0 : I64 b) (w : World) (hb : ¬ b = 0) : Calls Tryz.prog 158 #[.int .i64 3, .int .i64 a, .int .i64 b, .int .u64 18446744073709551615, .int .i64 63] w (UX (u64P 3 a b) w) := by
  go_enter Tryz.func158, Tryz.ntmps158
  go_wp2
  all_goals
    go_ret2
    refine UX.of ?_ ?_ rfl
    all_goals first | (simp_all [u64P, u64R, w32_64, tdiv_m1, tmod_m1]; done) | (unfold u64P u64R; simp_all [wrap32, wrap64, tdiv_m1, tmod_m1]; done) | (simp only [u64P, u64R]; simp_all [wrap32, wrap64]; omega)
theorem xbin64_4z (a b : Int) (ha : I64 a) (hb0 : I64 b) (w : World) (hb : b = 0) : Calls Tryz.prog 158 #[.int .i64 4, .int .i64 a, .int .i64 b, .int .u64 18446744073709551615, .int .i64 63] w (UX (u64P 4 a b) w) := by
  go_enter Tryz.func158, Tryz.ntmps158
  go_wp2
  all_goals
    go_ret2
    refine UX.of ?_ ?_ rfl
    all_goals (try simp only [mask32, mask64] at *)
    all_goals (try simp only [IntKind.wrap_u64, tdivM, tmodM, tdivU, tmodU, w64M, w32_64, w32_u])
    all_goals first | (simp_all [u64P, u64R, w32_64, tdiv_m1, tmod_m1]; done) | (unfold u64P u64R; simp_all [wrap32, wrap64, tdiv_m1, tmod_m1]; done) | (simp only [u64P, u64R]; simp_all [wrap32, wrap64]; omega)
theorem xbin64_4n (a b : Int) (ha : I64 a) (hb0 : I64 b) (w : World) (hb : ¬ b = 0) : Calls Tryz.prog 158 #[.int .i64 4, .int .i64 a, .int .i64 b, .int .u64 18446744073709551615, .int .i64 63] w (UX (u64P 4 a b) w) := by
  have hb4 : ¬ bits BinOp.and IntKind.u64 (IntKind.u64.wrap b) 18446744073709551615 = 0 := by rw [mask64]; unfold I64 at hb0; omega
  go_enter Tryz.func158, Tryz.ntmps158
  go_wp2
  all_goals
    go_ret2
    refine UX.of ?_ ?_ rfl
    all_goals (try simp only [mask32, mask64] at *)
    all_goals (try simp only [IntKind.wrap_u64, tdivM, tmodM, tdivU, tmodU, w64M, w32_64, w32_u])
    all_goals first | (simp_all [u64P, u64R, w32_64, tdiv_m1, tmod_m1]; done) | (unfold u64P u64R; simp_all [wrap32, wrap64, tdiv_m1, tmod_m1]; done) | (simp only [u64P, u64R]; simp_all [wrap32, wrap64]; omega)
theorem xbin64_5z (a b : Int) (ha : I64 a) (hb0 : I64 b) (w : World) (hb : b = 0) : Calls Tryz.prog 158 #[.int .i64 5, .int .i64 a, .int .i64 b, .int .u64 18446744073709551615, .int .i64 63] w (UX (u64P 5 a b) w) := by
  go_enter Tryz.func158, Tryz.ntmps158
  go_wp2
  all_goals
    go_ret2
    refine UX.of ?_ ?_ rfl
    all_goals (try simp only [w64_tmod _ ha])
    all_goals first | (simp_all [u64P, u64R, w32_64, tdiv_m1, tmod_m1]; done) | (unfold u64P u64R; simp_all [wrap32, wrap64, tdiv_m1, tmod_m1]; done) | (simp only [u64P, u64R]; simp_all [wrap32, wrap64]; omega)
theorem xbin64_5n (a b : Int) (ha : I64 a) (hb0 : I64 b) (w : World) (hb : ¬ b = 0) : Calls Tryz.prog 158 #[.int .i64 5, .int .i64 a, .int .i64 b, .int .u64 18446744073709551615, .int .i64 63] w (UX (u64P 5 a b) w) := by
  go_enter Tryz.func158, Tryz.ntmps158
  go_wp2
  all_goals
    go_ret2
    refine UX.of ?_ ?_ rfl
    all_goals (try simp only [w64_tmod _ ha])
    all_goals first | (simp_all [u64P, u64R, w32_64, tdiv_m1, tmod_m1]; done) | (unfold u64P u64R; simp_all [wrap32, wrap64, tdiv_m1, tmod_m1]; done) | (simp only [u64P, u64R]; simp_all [wrap32, wrap64]; omega)
theorem xbin64_6z (a b : Int) (ha : I64 a) (hb0 : I64 b) (w : World) (hb : b = 0) : Calls Tryz.prog 158 #[.int .i64 6, .int .i64 a, .int .i64 b, .int .u64 18446744073709551615, .int .i64 63] w (UX (u64P 6 a b) w) := by
  go_enter Tryz.func158, Tryz.ntmps158
  go_wp2
  all_goals
    go_ret2
    refine UX.of ?_ ?_ rfl
    all_goals (try simp only [mask32, mask64] at *)
    all_goals (try simp only [IntKind.wrap_u64, tdivM, tmodM, tdivU, tmodU, w64M, w32_64, w32_u])
    all_goals first | (simp_all [u64P, u64R, w32_64, tdiv_m1, tmod_m1]; done) | (unfold u64P u64R; simp_all [wrap32, wrap64, tdiv_m1, tmod_m1]; done) | (simp only [u64P, u64R]; simp_all [wrap32, wrap64]; omega)
theorem xbin64_6n (a b : Int) (ha : I64 a) (hb0 : I64 b) (w : World) (hb : ¬ b = 0) : Calls Tryz.prog 158 #[.int .i64 6, .int .i64 a, .int .i64 b, .int .u64 18446744073709551615, .int .i64 63] w (UX (u64P 6 a b) w) := by
  have hb6 : ¬ bits BinOp.and IntKind.u64 (IntKind.u64.wrap b) 18446744073709551615 = 0 := by rw [mask64]; unfold I64 at hb0; omega
  go_enter Tryz.func158, Tryz.ntmps158
  go_wp2
  all_goals
    go_ret2
    refine UX.of ?_ ?_ rfl
    all_goals (try simp only [mask32, mask64] at *)
    all_goals (try simp only [IntKind.wrap_u64, tdivM, tmodM, tdivU, tmodU, w64M, w32_64, w32_u])
    all_goals first | (simp_all [u64P, u64R, w32_64, tdiv_m1, tmod_m1]; done) | (unfold u64P u64R; simp_all [wrap32, wrap64, tdiv_m1, tmod_m1]; done) | (simp only [u64P, u64R]; simp_all [wrap32, wrap64]; omega)
theorem xbin64_7 (a b : Int) (ha : I64 a) (hb0 : I64 b) (w : World) : Calls Tryz.prog 158 #[.int .i64 7, .int .i64 a, .int .i64 b, .int .u64 18446744073709551615, .int .i64 63] w (UX (u64P 7 a b) w) := by
  go_enter Tryz.func158, Tryz.ntmps158
  go_wp2
  all_goals
    go_ret2
    refine UX.of ?_ ?_ rfl
    all_goals (try simp only [and_cut, or_cut, xor_cut])
    all_goals first | (simp_all [u64P, u64R, w32_64, tdiv_m1, tmod_m1]; done) | (unfold u64P u64R; simp_all [wrap32, wrap64, tdiv_m1, tmod_m1]; done) | (simp only [u64P, u64R]; simp_all [wrap32, wrap64]; omega)
theorem xbin64_8 (a b : Int) (ha : I64 a) (hb0 : I64 b) (w : World) : Calls Tryz.prog 158 #[.int .i64 8, .int .i64 a, .int .i64 b, .int .u64 18446744073709551615, .int .i64 63] w (UX (u64P 8 a b) w) := by
  go_enter Tryz.func158, Tryz.ntmps158
  go_wp2
  all_goals
    go_ret2
    refine UX.of ?_ ?_ rfl
    all_goals (try simp only [and_cut, or_cut, xor_cut])
    all_goals first | (simp_all [u64P, u64R, w32_64, tdiv_m1, tmod_m1]; done) | (unfold u64P u64R; simp_all [wrap32, wrap64, tdiv_m1, tmod_m1]; done) | (simp only [u64P, u64R]; simp_all [wrap32, wrap64]; omega)
theorem xbin64_9 (a b : Int) (ha : I64 a) (hb0 : I64 b) (w : World) : Calls Tryz.prog 158 #[.int .i64 9, .int .i64 a, .int .i64 b, .int .u64 18446744073709551615, .int .i64 63] w (UX (u64P 9 a b) w) := by
  go_enter Tryz.func158, Tryz.ntmps158
  go_wp2
  all_goals
    go_ret2
    refine UX.of ?_ ?_ rfl
    all_goals (try simp only [and_cut, or_cut, xor_cut])
    all_goals first | (simp_all [u64P, u64R, w32_64, tdiv_m1, tmod_m1]; done) | (unfold u64P u64R; simp_all [wrap32, wrap64, tdiv_m1, tmod_m1]; done) | (simp only [u64P, u64R]; simp_all [wrap32, wrap64]; omega)
theorem xbin64_10 (a b : Int) (ha : I64 a) (hb0 : I64 b) (w : World) : Calls Tryz.prog 158 #[.int .i64 10, .int .i64 a, .int .i64 b, .int .u64 18446744073709551615, .int .i64 63] w (UX (u64P 10 a b) w) := by
  have hsl := fun (kk yk : IntKind) (x A : Int) (w : World) => run_shl Tryz.prog kk yk x _ (and63_nonneg A) w
  have hsr := fun (kk yk : IntKind) (x A : Int) (w : World) => run_shr Tryz.prog kk yk x _ (and63_nonneg A) w
  go_enter Tryz.func158, Tryz.ntmps158
  go_wp2
  all_goals
    go_ret2
    refine UX.of ?_ ?_ rfl
    all_goals (try simp only [andi31, andi63, min32b, min64, w32_64, w32_u, w64_fdiv _ ha])
    all_goals first | (simp_all [u64P, u64R, w32_64, tdiv_m1, tmod_m1]; done) | (unfold u64P u64R; simp_all [wrap32, wrap64, tdiv_m1, tmod_m1]; done) | (simp only [u64P, u64R]; simp_all [wrap32, wrap64]; omega)
theorem xbin64_11 (a b : Int) (ha : I64 a) (hb0 : I64 b) (w : World) : Calls Tryz.prog 158 #[.int .i64 11, .int .i64 a, .int .i64 b, .int .u64 18446744073709551615, .int .i64 63] w (UX (u64P 11 a b) w) := by
  have hsl := fun (kk yk : IntKind) (x A : Int) (w : World) => run_shl Tryz.prog kk yk x _ (and63_nonneg A) w
  have hsr := fun (kk yk : IntKind) (x A : Int) (w : World) => run_shr Tryz.prog kk yk x _ (and63_nonneg A) w
  go_enter Tryz.func158, Tryz.ntmps158
  go_wp2
  all_goals
    go_ret2
    refine UX.of ?_ ?_ rfl
    all_goals (try simp only [andi31, andi63, min32b, min64, w32_64, w32_u, w64_fdiv _ ha])
    all_goals first | (simp_all [u64P, u64R, w32_64, tdiv_m1, tmod_m1]; done) | (unfold u64P u64R; simp_all [wrap32, wrap64, tdiv_m1, tmod_m1]; done) | (simp only [u64P, u64R]; simp_all [wrap32, wrap64]; omega)
theorem xbin64_12 (a b : Int) (ha : I64 a) (hb0 : I64 b) (w : World) : Calls Tryz.prog 158 #[.int .i64 12, .int .i64 a, .int .i64 b, .int .u64 18446744073709551615, .int .i64 63] w (UX (u64P 12 a b) w) := by
  have hsl := fun (kk yk : IntKind) (x A : Int) (w : World) => run_shl Tryz.prog kk yk x _ (and63_nonneg A) w
  have hsr := fun (kk yk : IntKind) (x A : Int) (w : World) => run_shr Tryz.prog kk yk x _ (and63_nonneg A) w
  go_enter Tryz.func158, Tryz.ntmps158
  go_wp2
  all_goals
    go_ret2
    refine UX.of ?_ ?_ rfl
    all_goals (try simp only [mask32, mask64] at *)
    all_goals (try simp only [andi31, andi63, min32b, min64, w32_64, w32_u, w64_fdiv _ ha])
    all_goals first | (simp_all [u64P, u64R, w32_64, tdiv_m1, tmod_m1]; done) | (unfold u64P u64R; simp_all [wrap32, wrap64, tdiv_m1, tmod_m1]; done) | (simp only [u64P, u64R]; simp_all [wrap32, wrap64]; omega)
theorem xbin64_13 (a b : Int) (ha : I64 a) (hb0 : I64 b) (w : World) : Calls Tryz.prog 158 #[.int .i64 13, .int .i64 a, .int .i64 b, .int .u64 18446744073709551615, .int .i64 63] w (UX (u64P 13 a b) w) := by
  go_enter Tryz.func158, Tryz.ntmps158
  go_wp2
  all_goals
    go_ret2
    refine UX.of ?_ ?_ rfl
    all_goals first | (simp_all [u64P, u64R, w32_64, tdiv_m1, tmod_m1]; done) | (unfold u64P u64R; simp_all [wrap32, wrap64, tdiv_m1, tmod_m1]; done) | (simp only [u64P, u64R]; simp_all [wrap32, wrap64]; omega)
theorem xbin64_14 (a b : Int) (ha : I64 a) (hb0 : I64 b) (w : World) : Calls Tryz.prog 158 #[.int .i64 14, .int .i64 a, .int .i64 b, .int .u64 18446744073709551615, .int .i64 63] w (UX (u64P 14 a b) w) := by
  go_enter Tryz.func158, Tryz.ntmps158
  go_wp2
  all_goals
    go_ret2
    refine UX.of ?_ ?_ rfl
    all_goals first | (simp_all [u64P, u64R, w32_64, tdiv_m1, tmod_m1]; done) | (unfold u64P u64R; simp_all [wrap32, wrap64, tdiv_m1, tmod_m1]; done) | (simp only [u64P, u64R]; simp_all [wrap32, wrap64]; omega)
theorem xbin64_15 (a b : Int) (ha : I64 a) (hb0 : I64 b) (w : World) : Calls Tryz.prog 158 #[.int .i64 15, .int .i64 a, .int .i64 b, .int .u64 18446744073709551615, .int .i64 63] w (UX (u64P 15 a b) w) := by
  go_enter Tryz.func158, Tryz.ntmps158
  go_wp2
  all_goals
    go_ret2
    refine UX.of ?_ ?_ rfl
    all_goals (try simp only [mask32, mask64] at *)
    all_goals first | (simp_all [u64P, u64R, w32_64, tdiv_m1, tmod_m1]; done) | (unfold u64P u64R; simp_all [wrap32, wrap64, tdiv_m1, tmod_m1]; done) | (simp only [u64P, u64R]; simp_all [wrap32, wrap64]; omega)
end Go.Proofs.Qxb6500575aGreatDoor
