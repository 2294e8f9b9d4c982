/-
  THE WALKS of mach.unit at its two widths and of mach.Alu, exact. Written by tools/gen_xunit.py.
-/
import Derived.Test.Qxb6500575aGreatDoorPAlu
namespace Go.Proofs.Qxb6500575aGreatDoor
open Go Go.RowKit
set_option linter.unusedVariables false
set_option linter.unusedSimpArgs false

def UX (r : Int × Int) (w : World) (e : Ending) (w' : World) : Prop := e = .returned (.tuple #[.int .i64 r.1, .int .i64 r.2]) ∧ w' = w
theorem UX.of {r : Int × Int} {w w' : World} {n er : Int} (h1 : n = r.1) (h2 : er = r.2) (hw : w' = w) : UX r w (.returned (.tuple #[.int .i64 n, .int .i64 er])) w' := ⟨by rw [h1, h2], hw⟩
set_option maxRecDepth 100000
set_option maxHeartbeats 400000
theorem xunit32_0 (a b : Int) (ha : I64 a) (hb0 : I32 b) (w : World) : Calls Tryz.prog 140 #[.int .i64 0, .int .i32 a, .int .i32 b] w (UX (u32P 0 a b) w) := by
  go_enter Tryz.func140, Tryz.ntmps140
  go_wp2
  all_goals
    go_ret2
    refine UX.of ?_ ?_ rfl
    all_goals first | (simp_all [u32P, u32R, w64_32, w64_bits32, w64_bits64]; done) | (unfold u32P u32R; simp_all [w64_32, w64_bits32, w64_bits64, wrap32, wrap64]; done) | (simp only [u32P, u32R]; simp_all; omega)
theorem xunit32_1 (a b : Int) (ha : I64 a) (hb0 : I32 b) (w : World) : Calls Tryz.prog 140 #[.int .i64 1, .int .i32 a, .int .i32 b] w (UX (u32P 1 a b) w) := by
  go_enter Tryz.func140, Tryz.ntmps140
  go_wp2
  all_goals
    go_ret2
    refine UX.of ?_ ?_ rfl
    all_goals first | (simp_all [u32P, u32R, w64_32, w64_bits32, w64_bits64]; done) | (unfold u32P u32R; simp_all [w64_32, w64_bits32, w64_bits64, wrap32, wrap64]; done) | (simp only [u32P, u32R]; simp_all; omega)
theorem xunit32_2 (a b : Int) (ha : I64 a) (hb0 : I32 b) (w : World) : Calls Tryz.prog 140 #[.int .i64 2, .int .i32 a, .int .i32 b] w (UX (u32P 2 a b) w) := by
  go_enter Tryz.func140, Tryz.ntmps140
  go_wp2
  all_goals
    go_ret2
    refine UX.of ?_ ?_ rfl
    all_goals first | (simp_all [u32P, u32R, w64_32, w64_bits32, w64_bits64]; done) | (unfold u32P u32R; simp_all [w64_32, w64_bits32, w64_bits64, wrap32, wrap64]; done) | (simp only [u32P, u32R]; simp_all; omega)
theorem xunit32_3z (a b : Int) (ha : I64 a) (hb0 : I32 b) (w : World) (hb : b = 0) : Calls Tryz.prog 140 #[.int .i64 3, .int .i32 a, .int .i32 b] w (UX (u32P 3 a b) w) := by
  go_enter Tryz.func140, Tryz.ntmps140
  go_wp2
  all_goals
    go_ret2
    refine UX.of ?_ ?_ rfl
    all_goals first | (simp_all [u32P, u32R, w64_32, w64_bits32, w64_bits64]; done) | (unfold u32P u32R; simp_all [w64_32, w64_bits32, w64_bits64, wrap32, wrap64]; done) | (simp only [u32P, u32R]; simp_all; omega)
theorem xunit32_3n (a b : Int) (ha : I64 a) (hb0 : I32 b) (w : World) (hb : ¬ b = 0) : Calls Tryz.prog 140 #[.int .i64 3, .int .i32 a, .int .i32 b] w (UX (u32P 3 a b) w) := by
  go_enter Tryz.func140, Tryz.ntmps140
  go_wp2
  all_goals
    go_ret2
    refine UX.of ?_ ?_ rfl
    all_goals first | (simp_all [u32P, u32R, w64_32, w64_bits32, w64_bits64]; done) | (unfold u32P u32R; simp_all [w64_32, w64_bits32, w64_bits64, wrap32, wrap64]; done) | (simp only [u32P, u32R]; simp_all; omega)
theorem xunit32_4z (a b : Int) (ha : I64 a) (hb0 : I32 b) (w : World) (hb : b = 0) : Calls Tryz.prog 140 #[.int .i64 4, .int .i32 a, .int .i32 b] w (UX (u32P 4 a b) w) := by
  go_enter Tryz.func140, Tryz.ntmps140
  go_wp2
  all_goals
    go_ret2
    refine UX.of ?_ ?_ rfl
    all_goals first | (simp_all [u32P, u32R, w64_32, w64_bits32, w64_bits64]; done) | (unfold u32P u32R; simp_all [w64_32, w64_bits32, w64_bits64, wrap32, wrap64]; done) | (simp only [u32P, u32R]; simp_all; omega)
theorem xunit32_4n (a b : Int) (ha : I64 a) (hb0 : I32 b) (w : World) (hb : ¬ b = 0) : Calls Tryz.prog 140 #[.int .i64 4, .int .i32 a, .int .i32 b] w (UX (u32P 4 a b) w) := by
  have hb4 : ¬ b % 4294967296 = 0 := by unfold I32 at hb0; omega
  go_enter Tryz.func140, Tryz.ntmps140
  go_wp2
  all_goals
    go_ret2
    refine UX.of ?_ ?_ rfl
    all_goals first | (simp_all [u32P, u32R, w64_32, w64_bits32, w64_bits64]; done) | (unfold u32P u32R; simp_all [w64_32, w64_bits32, w64_bits64, wrap32, wrap64]; done) | (simp only [u32P, u32R]; simp_all; omega)
theorem xunit32_5z (a b : Int) (ha : I64 a) (hb0 : I32 b) (w : World) (hb : b = 0) : Calls Tryz.prog 140 #[.int .i64 5, .int .i32 a, .int .i32 b] w (UX (u32P 5 a b) w) := by
  go_enter Tryz.func140, Tryz.ntmps140
  go_wp2
  all_goals
    go_ret2
    refine UX.of ?_ ?_ rfl
    all_goals (try simp only [top32, top64, and31z, and63z, and31, and63, min32, min64, w64_32, w64_fdiv _ ha, w64_tmod _ ha])
    all_goals first | (simp_all [u32P, u32R, w64_32, w64_bits32, w64_bits64]; done) | (unfold u32P u32R; simp_all [w64_32, w64_bits32, w64_bits64, wrap32, wrap64]; done) | (simp only [u32P, u32R]; simp_all; omega)
theorem xunit32_5n (a b : Int) (ha : I64 a) (hb0 : I32 b) (w : World) (hb : ¬ b = 0) : Calls Tryz.prog 140 #[.int .i64 5, .int .i32 a, .int .i32 b] w (UX (u32P 5 a b) w) := by
  go_enter Tryz.func140, Tryz.ntmps140
  go_wp2
  all_goals
    go_ret2
    refine UX.of ?_ ?_ rfl
    all_goals (try simp only [top32, top64, and31z, and63z, and31, and63, min32, min64, w64_32, w64_fdiv _ ha, w64_tmod _ ha])
    all_goals first | (simp_all [u32P, u32R, w64_32, w64_bits32, w64_bits64]; done) | (unfold u32P u32R; simp_all [w64_32, w64_bits32, w64_bits64, wrap32, wrap64]; done) | (simp only [u32P, u32R]; simp_all; omega)
theorem xunit32_6z (a b : Int) (ha : I64 a) (hb0 : I32 b) (w : World) (hb : b = 0) : Calls Tryz.prog 140 #[.int .i64 6, .int .i32 a, .int .i32 b] w (UX (u32P 6 a b) w) := by
  go_enter Tryz.func140, Tryz.ntmps140
  go_wp2
  all_goals
    go_ret2
    refine UX.of ?_ ?_ rfl
    all_goals first | (simp_all [u32P, u32R, w64_32, w64_bits32, w64_bits64]; done) | (unfold u32P u32R; simp_all [w64_32, w64_bits32, w64_bits64, wrap32, wrap64]; done) | (simp only [u32P, u32R]; simp_all; omega)
theorem xunit32_6n (a b : Int) (ha : I64 a) (hb0 : I32 b) (w : World) (hb : ¬ b = 0) : Calls Tryz.prog 140 #[.int .i64 6, .int .i32 a, .int .i32 b] w (UX (u32P 6 a b) w) := by
  have hb6 : ¬ b % 4294967296 = 0 := by unfold I32 at hb0; omega
  go_enter Tryz.func140, Tryz.ntmps140
  go_wp2
  all_goals
    go_ret2
    refine UX.of ?_ ?_ rfl
    all_goals first | (simp_all [u32P, u32R, w64_32, w64_bits32, w64_bits64]; done) | (unfold u32P u32R; simp_all [w64_32, w64_bits32, w64_bits64, wrap32, wrap64]; done) | (simp only [u32P, u32R]; simp_all; omega)
theorem xunit32_7 (a b : Int) (ha : I64 a) (hb0 : I32 b) (w : World) : Calls Tryz.prog 140 #[.int .i64 7, .int .i32 a, .int .i32 b] w (UX (u32P 7 a b) w) := by
  go_enter Tryz.func140, Tryz.ntmps140
  go_wp2
  all_goals
    go_ret2
    refine UX.of ?_ ?_ rfl
    all_goals first | (simp_all [u32P, u32R, w64_32, w64_bits32, w64_bits64]; done) | (unfold u32P u32R; simp_all [w64_32, w64_bits32, w64_bits64, wrap32, wrap64]; done) | (simp only [u32P, u32R]; simp_all; omega)
theorem xunit32_8 (a b : Int) (ha : I64 a) (hb0 : I32 b) (w : World) : Calls Tryz.prog 140 #[.int .i64 8, .int .i32 a, .int .i32 b] w (UX (u32P 8 a b) w) := by
  go_enter Tryz.func140, Tryz.ntmps140
  go_wp2
  all_goals
    go_ret2
    refine UX.of ?_ ?_ rfl
    all_goals first | (simp_all [u32P, u32R, w64_32, w64_bits32, w64_bits64]; done) | (unfold u32P u32R; simp_all [w64_32, w64_bits32, w64_bits64, wrap32, wrap64]; done) | (simp only [u32P, u32R]; simp_all; omega)
theorem xunit32_9 (a b : Int) (ha : I64 a) (hb0 : I32 b) (w : World) : Calls Tryz.prog 140 #[.int .i64 9, .int .i32 a, .int .i32 b] w (UX (u32P 9 a b) w) := by
  go_enter Tryz.func140, Tryz.ntmps140
  go_wp2
  all_goals
    go_ret2
    refine UX.of ?_ ?_ rfl
    all_goals first | (simp_all [u32P, u32R, w64_32, w64_bits32, w64_bits64]; done) | (unfold u32P u32R; simp_all [w64_32, w64_bits32, w64_bits64, wrap32, wrap64]; done) | (simp only [u32P, u32R]; simp_all; omega)
theorem xunit32_10 (a b : Int) (ha : I64 a) (hb0 : I32 b) (w : World) : Calls Tryz.prog 140 #[.int .i64 10, .int .i32 a, .int .i32 b] w (UX (u32P 10 a b) w) := by
  have hsl := fun (kk yk : IntKind) (x A B : Int) (w : World) => run_shl Tryz.prog kk yk x _ (and_u32_nonneg A B) w
  have hsr := fun (kk yk : IntKind) (x A B : Int) (w : World) => run_shr Tryz.prog kk yk x _ (and_u32_nonneg A B) w
  go_enter Tryz.func140, Tryz.ntmps140
  go_wp2
  all_goals
    go_ret2
    refine UX.of ?_ ?_ rfl
    all_goals (try simp only [top32, top64, and31z, and63z, and31, and63, min32, min64, w64_32, w64_fdiv _ ha, w64_tmod _ ha])
    all_goals first | (simp_all [u32P, u32R, w64_32, w64_bits32, w64_bits64]; done) | (unfold u32P u32R; simp_all [w64_32, w64_bits32, w64_bits64, wrap32, wrap64]; done) | (simp only [u32P, u32R]; simp_all; omega)
theorem xunit32_11 (a b : Int) (ha : I64 a) (hb0 : I32 b) (w : World) : Calls Tryz.prog 140 #[.int .i64 11, .int .i32 a, .int .i32 b] w (UX (u32P 11 a b) w) := by
  have hsl := fun (kk yk : IntKind) (x A B : Int) (w : World) => run_shl Tryz.prog kk yk x _ (and_u32_nonneg A B) w
  have hsr := fun (kk yk : IntKind) (x A B : Int) (w : World) => run_shr Tryz.prog kk yk x _ (and_u32_nonneg A B) w
  go_enter Tryz.func140, Tryz.ntmps140
  go_wp2
  all_goals
    go_ret2
    refine UX.of ?_ ?_ rfl
    all_goals (try simp only [top32, top64, and31z, and63z, and31, and63, min32, min64, w64_32, w64_fdiv _ ha, w64_tmod _ ha])
    all_goals first | (simp_all [u32P, u32R, w64_32, w64_bits32, w64_bits64]; done) | (unfold u32P u32R; simp_all [w64_32, w64_bits32, w64_bits64, wrap32, wrap64]; done) | (simp only [u32P, u32R]; simp_all; omega)
theorem xunit32_12 (a b : Int) (ha : I64 a) (hb0 : I32 b) (w : World) : Calls Tryz.prog 140 #[.int .i64 12, .int .i32 a, .int .i32 b] w (UX (u32P 12 a b) w) := by
  have hsl := fun (kk yk : IntKind) (x A B : Int) (w : World) => run_shl Tryz.prog kk yk x _ (and_u32_nonneg A B) w
  have hsr := fun (kk yk : IntKind) (x A B : Int) (w : World) => run_shr Tryz.prog kk yk x _ (and_u32_nonneg A B) w
  go_enter Tryz.func140, Tryz.ntmps140
  go_wp2
  all_goals
    go_ret2
    refine UX.of ?_ ?_ rfl
    all_goals (try simp only [top32, top64, and31z, and63z, and31, and63, min32, min64, w64_32, w64_fdiv _ ha, w64_tmod _ ha])
    all_goals first | (simp_all [u32P, u32R, w64_32, w64_bits32, w64_bits64]; done) | (unfold u32P u32R; simp_all [w64_32, w64_bits32, w64_bits64, wrap32, wrap64]; done) | (simp only [u32P, u32R]; simp_all; omega)
theorem xunit32_13 (a b : Int) (ha : I64 a) (hb0 : I32 b) (w : World) : Calls Tryz.prog 140 #[.int .i64 13, .int .i32 a, .int .i32 b] w (UX (u32P 13 a b) w) := by
  go_enter Tryz.func140, Tryz.ntmps140
  go_wp2
  all_goals
    go_ret2
    refine UX.of ?_ ?_ rfl
    all_goals first | (simp_all [u32P, u32R, w64_32, w64_bits32, w64_bits64]; done) | (unfold u32P u32R; simp_all [w64_32, w64_bits32, w64_bits64, wrap32, wrap64]; done) | (simp only [u32P, u32R]; simp_all; omega)
theorem xunit32_14 (a b : Int) (ha : I64 a) (hb0 : I32 b) (w : World) : Calls Tryz.prog 140 #[.int .i64 14, .int .i32 a, .int .i32 b] w (UX (u32P 14 a b) w) := by
  go_enter Tryz.func140, Tryz.ntmps140
  go_wp2
  all_goals
    go_ret2
    refine UX.of ?_ ?_ rfl
    all_goals first | (simp_all [u32P, u32R, w64_32, w64_bits32, w64_bits64]; done) | (unfold u32P u32R; simp_all [w64_32, w64_bits32, w64_bits64, wrap32, wrap64]; done) | (simp only [u32P, u32R]; simp_all; omega)
theorem xunit32_15 (a b : Int) (ha : I64 a) (hb0 : I32 b) (w : World) : Calls Tryz.prog 140 #[.int .i64 15, .int .i32 a, .int .i32 b] w (UX (u32P 15 a b) w) := by
  go_enter Tryz.func140, Tryz.ntmps140
  go_wp2
  all_goals
    go_ret2
    refine UX.of ?_ ?_ rfl
    all_goals first | (simp_all [u32P, u32R, w64_32, w64_bits32, w64_bits64]; done) | (unfold u32P u32R; simp_all [w64_32, w64_bits32, w64_bits64, wrap32, wrap64]; done) | (simp only [u32P, u32R]; simp_all; omega)
theorem xunit64_0 (a b : Int) (ha : I64 a) (hb0 : I64 b) (w : World) : Calls Tryz.prog 141 #[.int .i64 0, .int .i64 a, .int .i64 b] w (UX (u64P 0 a b) w) := by
  go_enter Tryz.func141, Tryz.ntmps141
  go_wp2
  all_goals
    go_ret2
    refine UX.of ?_ ?_ rfl
    all_goals (have hwa := w64 ha)
    all_goals first | (simp_all [u64P, u64R, w64_32, w64_bits32, w64_bits64]; done) | (unfold u64P u64R; simp_all [w64_32, w64_bits32, w64_bits64, wrap32, wrap64]; done) | (simp only [u64P, u64R]; simp_all; omega)
theorem xunit64_1 (a b : Int) (ha : I64 a) (hb0 : I64 b) (w : World) : Calls Tryz.prog 141 #[.int .i64 1, .int .i64 a, .int .i64 b] w (UX (u64P 1 a b) w) := by
  go_enter Tryz.func141, Tryz.ntmps141
  go_wp2
  all_goals
    go_ret2
    refine UX.of ?_ ?_ rfl
    all_goals (have hwa := w64 ha)
    all_goals first | (simp_all [u64P, u64R, w64_32, w64_bits32, w64_bits64]; done) | (unfold u64P u64R; simp_all [w64_32, w64_bits32, w64_bits64, wrap32, wrap64]; done) | (simp only [u64P, u64R]; simp_all; omega)
theorem xunit64_2 (a b : Int) (ha : I64 a) (hb0 : I64 b) (w : World) : Calls Tryz.prog 141 #[.int .i64 2, .int .i64 a, .int .i64 b] w (UX (u64P 2 a b) w) := by
  go_enter Tryz.func141, Tryz.ntmps141
  go_wp2
  all_goals
    go_ret2
    refine UX.of ?_ ?_ rfl
    all_goals first | (simp_all [u64P, u64R, w64_32, w64_bits32, w64_bits64]; done) | (unfold u64P u64R; simp_all [w64_32, w64_bits32, w64_bits64, wrap32, wrap64]; done) | (simp only [u64P, u64R]; simp_all; omega)
theorem xunit64_3z (a b : Int) (ha : I64 a) (hb0 : I64 b) (w : World) (hb : b = 0) : Calls Tryz.prog 141 #[.int .i64 3, .int .i64 a, .int .i64 b] w (UX (u64P 3 a b) w) := by
  go_enter Tryz.func141, Tryz.ntmps141
  go_wp2
  all_goals
    go_ret2
    refine UX.of ?_ ?_ rfl
    all_goals first | (simp_all [u64P, u64R, w64_32, w64_bits32, w64_bits64]; done) | (unfold u64P u64R; simp_all [w64_32, w64_bits32, w64_bits64, wrap32, wrap64]; done) | (simp only [u64P, u64R]; simp_all; omega)
theorem xunit64_3n (a b : Int) (ha : I64 a) (hb0 : I64 b) (w : World) (hb : ¬ b = 0) : Calls Tryz.prog 141 #[.int .i64 3, .int .i64 a, .int .i64 b] w (UX (u64P 3 a b) w) := by
  go_enter Tryz.func141, Tryz.ntmps141
  go_wp2
  all_goals
    go_ret2
    refine UX.of ?_ ?_ rfl
    all_goals first | (simp_all [u64P, u64R, w64_32, w64_bits32, w64_bits64]; done) | (unfold u64P u64R; simp_all [w64_32, w64_bits32, w64_bits64, wrap32, wrap64]; done) | (simp only [u64P, u64R]; simp_all; omega)
theorem xunit64_4z (a b : Int) (ha : I64 a) (hb0 : I64 b) (w : World) (hb : b = 0) : Calls Tryz.prog 141 #[.int .i64 4, .int .i64 a, .int .i64 b] w (UX (u64P 4 a b) w) := by
  go_enter Tryz.func141, Tryz.ntmps141
  go_wp2
  all_goals
    go_ret2
    refine UX.of ?_ ?_ rfl
    all_goals (try simp only [IntKind.wrap_u64] at *)
    all_goals (try simp only [tdivM, tmodM, w64M])
    all_goals first | (simp_all [u64P, u64R, w64_32, w64_bits32, w64_bits64]; done) | (unfold u64P u64R; simp_all [w64_32, w64_bits32, w64_bits64, wrap32, wrap64]; done) | (simp only [u64P, u64R]; simp_all; omega)
theorem xunit64_4n (a b : Int) (ha : I64 a) (hb0 : I64 b) (w : World) (hb : ¬ b = 0) : Calls Tryz.prog 141 #[.int .i64 4, .int .i64 a, .int .i64 b] w (UX (u64P 4 a b) w) := by
  have hb4 : ¬ b % 18446744073709551616 = 0 := by unfold I64 at hb0; omega
  go_enter Tryz.func141, Tryz.ntmps141
  go_wp2
  all_goals
    go_ret2
    refine UX.of ?_ ?_ rfl
    all_goals (try simp only [IntKind.wrap_u64] at *)
    all_goals (try simp only [tdivM, tmodM, w64M])
    all_goals first | (simp_all [u64P, u64R, w64_32, w64_bits32, w64_bits64]; done) | (unfold u64P u64R; simp_all [w64_32, w64_bits32, w64_bits64, wrap32, wrap64]; done) | (simp only [u64P, u64R]; simp_all; omega)
theorem xunit64_5z (a b : Int) (ha : I64 a) (hb0 : I64 b) (w : World) (hb : b = 0) : Calls Tryz.prog 141 #[.int .i64 5, .int .i64 a, .int .i64 b] w (UX (u64P 5 a b) w) := by
  go_enter Tryz.func141, Tryz.ntmps141
  go_wp2
  all_goals
    go_ret2
    refine UX.of ?_ ?_ rfl
    all_goals (try simp only [top32, top64, and31z, and63z, and31, and63, min32, min64, w64_32, w64_fdiv _ ha, w64_tmod _ ha])
    all_goals first | (simp_all [u64P, u64R, w64_32, w64_bits32, w64_bits64]; done) | (unfold u64P u64R; simp_all [w64_32, w64_bits32, w64_bits64, wrap32, wrap64]; done) | (simp only [u64P, u64R]; simp_all; omega)
theorem xunit64_5n (a b : Int) (ha : I64 a) (hb0 : I64 b) (w : World) (hb : ¬ b = 0) : Calls Tryz.prog 141 #[.int .i64 5, .int .i64 a, .int .i64 b] w (UX (u64P 5 a b) w) := by
  go_enter Tryz.func141, Tryz.ntmps141
  go_wp2
  all_goals
    go_ret2
    refine UX.of ?_ ?_ rfl
    all_goals (try simp only [top32, top64, and31z, and63z, and31, and63, min32, min64, w64_32, w64_fdiv _ ha, w64_tmod _ ha])
    all_goals first | (simp_all [u64P, u64R, w64_32, w64_bits32, w64_bits64]; done) | (unfold u64P u64R; simp_all [w64_32, w64_bits32, w64_bits64, wrap32, wrap64]; done) | (simp only [u64P, u64R]; simp_all; omega)
theorem xunit64_6z (a b : Int) (ha : I64 a) (hb0 : I64 b) (w : World) (hb : b = 0) : Calls Tryz.prog 141 #[.int .i64 6, .int .i64 a, .int .i64 b] w (UX (u64P 6 a b) w) := by
  go_enter Tryz.func141, Tryz.ntmps141
  go_wp2
  all_goals
    go_ret2
    refine UX.of ?_ ?_ rfl
    all_goals (try simp only [IntKind.wrap_u64] at *)
    all_goals (try simp only [tdivM, tmodM, w64M])
    all_goals first | (simp_all [u64P, u64R, w64_32, w64_bits32, w64_bits64]; done) | (unfold u64P u64R; simp_all [w64_32, w64_bits32, w64_bits64, wrap32, wrap64]; done) | (simp only [u64P, u64R]; simp_all; omega)
theorem xunit64_6n (a b : Int) (ha : I64 a) (hb0 : I64 b) (w : World) (hb : ¬ b = 0) : Calls Tryz.prog 141 #[.int .i64 6, .int .i64 a, .int .i64 b] w (UX (u64P 6 a b) w) := by
  have hb6 : ¬ b % 18446744073709551616 = 0 := by unfold I64 at hb0; omega
  go_enter Tryz.func141, Tryz.ntmps141
  go_wp2
  all_goals
    go_ret2
    refine UX.of ?_ ?_ rfl
    all_goals (try simp only [IntKind.wrap_u64] at *)
    all_goals (try simp only [tdivM, tmodM, w64M])
    all_goals first | (simp_all [u64P, u64R, w64_32, w64_bits32, w64_bits64]; done) | (unfold u64P u64R; simp_all [w64_32, w64_bits32, w64_bits64, wrap32, wrap64]; done) | (simp only [u64P, u64R]; simp_all; omega)
theorem xunit64_7 (a b : Int) (ha : I64 a) (hb0 : I64 b) (w : World) : Calls Tryz.prog 141 #[.int .i64 7, .int .i64 a, .int .i64 b] w (UX (u64P 7 a b) w) := by
  go_enter Tryz.func141, Tryz.ntmps141
  go_wp2
  all_goals
    go_ret2
    refine UX.of ?_ ?_ rfl
    all_goals first | (simp_all [u64P, u64R, w64_32, w64_bits32, w64_bits64]; done) | (unfold u64P u64R; simp_all [w64_32, w64_bits32, w64_bits64, wrap32, wrap64]; done) | (simp only [u64P, u64R]; simp_all; omega)
theorem xunit64_8 (a b : Int) (ha : I64 a) (hb0 : I64 b) (w : World) : Calls Tryz.prog 141 #[.int .i64 8, .int .i64 a, .int .i64 b] w (UX (u64P 8 a b) w) := by
  go_enter Tryz.func141, Tryz.ntmps141
  go_wp2
  all_goals
    go_ret2
    refine UX.of ?_ ?_ rfl
    all_goals first | (simp_all [u64P, u64R, w64_32, w64_bits32, w64_bits64]; done) | (unfold u64P u64R; simp_all [w64_32, w64_bits32, w64_bits64, wrap32, wrap64]; done) | (simp only [u64P, u64R]; simp_all; omega)
theorem xunit64_9 (a b : Int) (ha : I64 a) (hb0 : I64 b) (w : World) : Calls Tryz.prog 141 #[.int .i64 9, .int .i64 a, .int .i64 b] w (UX (u64P 9 a b) w) := by
  go_enter Tryz.func141, Tryz.ntmps141
  go_wp2
  all_goals
    go_ret2
    refine UX.of ?_ ?_ rfl
    all_goals first | (simp_all [u64P, u64R, w64_32, w64_bits32, w64_bits64]; done) | (unfold u64P u64R; simp_all [w64_32, w64_bits32, w64_bits64, wrap32, wrap64]; done) | (simp only [u64P, u64R]; simp_all; omega)
theorem xunit64_10 (a b : Int) (ha : I64 a) (hb0 : I64 b) (w : World) : Calls Tryz.prog 141 #[.int .i64 10, .int .i64 a, .int .i64 b] w (UX (u64P 10 a b) w) := by
  have hsl := fun (kk yk : IntKind) (x A B : Int) (w : World) => run_shl Tryz.prog kk yk x _ (and_u64_nonneg A B) w
  have hsr := fun (kk yk : IntKind) (x A B : Int) (w : World) => run_shr Tryz.prog kk yk x _ (and_u64_nonneg A B) w
  go_enter Tryz.func141, Tryz.ntmps141
  go_wp2
  all_goals
    go_ret2
    refine UX.of ?_ ?_ rfl
    all_goals (try simp only [IntKind.wrap_u64] at *)
    all_goals (try simp only [tdivM, tmodM, w64M])
    all_goals (try simp only [top32, top64, and31z, and63z, and31, and63, min32, min64, w64_32, w64_fdiv _ ha, w64_tmod _ ha])
    all_goals first | (simp_all [u64P, u64R, w64_32, w64_bits32, w64_bits64]; done) | (unfold u64P u64R; simp_all [w64_32, w64_bits32, w64_bits64, wrap32, wrap64]; done) | (simp only [u64P, u64R]; simp_all; omega)
theorem xunit64_11 (a b : Int) (ha : I64 a) (hb0 : I64 b) (w : World) : Calls Tryz.prog 141 #[.int .i64 11, .int .i64 a, .int .i64 b] w (UX (u64P 11 a b) w) := by
  have hsl := fun (kk yk : IntKind) (x A B : Int) (w : World) => run_shl Tryz.prog kk yk x _ (and_u64_nonneg A B) w
  have hsr := fun (kk yk : IntKind) (x A B : Int) (w : World) => run_shr Tryz.prog kk yk x _ (and_u64_nonneg A B) w
  go_enter Tryz.func141, Tryz.ntmps141
  go_wp2
  all_goals
    go_ret2
    refine UX.of ?_ ?_ rfl
    all_goals (try simp only [IntKind.wrap_u64] at *)
    all_goals (try simp only [tdivM, tmodM, w64M])
    all_goals (try simp only [top32, top64, and31z, and63z, and31, and63, min32, min64, w64_32, w64_fdiv _ ha, w64_tmod _ ha])
    all_goals first | (simp_all [u64P, u64R, w64_32, w64_bits32, w64_bits64]; done) | (unfold u64P u64R; simp_all [w64_32, w64_bits32, w64_bits64, wrap32, wrap64]; done) | (simp only [u64P, u64R]; simp_all; omega)
theorem xunit64_12 (a b : Int) (ha : I64 a) (hb0 : I64 b) (w : World) : Calls Tryz.prog 141 #[.int .i64 12, .int .i64 a, .int .i64 b] w (UX (u64P 12 a b) w) := by
  have hsl := fun (kk yk : IntKind) (x A B : Int) (w : World) => run_shl Tryz.prog kk yk x _ (and_u64_nonneg A B) w
  have hsr := fun (kk yk : IntKind) (x A B : Int) (w : World) => run_shr Tryz.prog kk yk x _ (and_u64_nonneg A B) w
  go_enter Tryz.func141, Tryz.ntmps141
  go_wp2
  all_goals
    go_ret2
    refine UX.of ?_ ?_ rfl
    all_goals (try simp only [IntKind.wrap_u64] at *)
    all_goals (try simp only [tdivM, tmodM, w64M])
    all_goals (try simp only [top32, top64, and31z, and63z, and31, and63, min32, min64, w64_32, w64_fdiv _ ha, w64_tmod _ ha])
    all_goals first | (simp_all [u64P, u64R, w64_32, w64_bits32, w64_bits64]; done) | (unfold u64P u64R; simp_all [w64_32, w64_bits32, w64_bits64, wrap32, wrap64]; done) | (simp only [u64P, u64R]; simp_all; omega)
theorem xunit64_13 (a b : Int) (ha : I64 a) (hb0 : I64 b) (w : World) : Calls Tryz.prog 141 #[.int .i64 13, .int .i64 a, .int .i64 b] w (UX (u64P 13 a b) w) := by
  go_enter Tryz.func141, Tryz.ntmps141
  go_wp2
  all_goals
    go_ret2
    refine UX.of ?_ ?_ rfl
    all_goals first | (simp_all [u64P, u64R, w64_32, w64_bits32, w64_bits64]; done) | (unfold u64P u64R; simp_all [w64_32, w64_bits32, w64_bits64, wrap32, wrap64]; done) | (simp only [u64P, u64R]; simp_all; omega)
theorem xunit64_14 (a b : Int) (ha : I64 a) (hb0 : I64 b) (w : World) : Calls Tryz.prog 141 #[.int .i64 14, .int .i64 a, .int .i64 b] w (UX (u64P 14 a b) w) := by
  go_enter Tryz.func141, Tryz.ntmps141
  go_wp2
  all_goals
    go_ret2
    refine UX.of ?_ ?_ rfl
    all_goals first | (simp_all [u64P, u64R, w64_32, w64_bits32, w64_bits64]; done) | (unfold u64P u64R; simp_all [w64_32, w64_bits32, w64_bits64, wrap32, wrap64]; done) | (simp only [u64P, u64R]; simp_all; omega)
theorem xunit64_15 (a b : Int) (ha : I64 a) (hb0 : I64 b) (w : World) : Calls Tryz.prog 141 #[.int .i64 15, .int .i64 a, .int .i64 b] w (UX (u64P 15 a b) w) := by
  go_enter Tryz.func141, Tryz.ntmps141
  go_wp2
  all_goals
    go_ret2
    refine UX.of ?_ ?_ rfl
    all_goals (try simp only [IntKind.wrap_u64] at *)
    all_goals (try simp only [tdivM, tmodM, w64M])
    all_goals first | (simp_all [u64P, u64R, w64_32, w64_bits32, w64_bits64]; done) | (unfold u64P u64R; simp_all [w64_32, w64_bits32, w64_bits64, wrap32, wrap64]; done) | (simp only [u64P, u64R]; simp_all; omega)
end Go.Proofs.Qxb6500575aGreatDoor
