/-
  THE WALKS of num: Cmp, ToInt, FromInt, Neg, bits.
-/
import Derived.Test.Qxb6500574aGreatDoorVRes
import Derived.BigQuiet
import Derived.Laws.Externs
import Derived.Laws.FloatArith
import Derived.Test.Qxb6500574aGreatDoorVFloat
namespace Go.Proofs.Qxb6500574aGreatDoor
open Go Go.RowKit
set_option linter.unusedVariables false
set_option linter.unusedSimpArgs false

theorem run_frombits (n : Nat) (w : World) : (callFunc 68 #[.int .u64 n]).run Tryz.prog w = .ok (.value (.float .f64 n)) w := by
  rw [run_callFunc_extern Tryz.func68 (by kernel_rfl) (by kernel_rfl) (by kernel_rfl) (e := Extern.MathFloatBits.float64frombits) (by kernel_rfl)]
  rfl
theorem run_bits (n : Nat) (w : World) : (callFunc 154 #[.float .f64 n]).run Tryz.prog w = .ok (.value (.int .u64 n)) w := by
  rw [run_callFunc_extern Tryz.func154 (by kernel_rfl) (by kernel_rfl) (by kernel_rfl) (e := Extern.MathFloatBits.float64bits) (by kernel_rfl)]
  rfl
section
variable {w : World}
set_option maxRecDepth 100000
set_option maxHeartbeats 400000
theorem cmp_any (n : Value) (op : Int) (a b : Nat) : Calls Tryz.prog 134 #[n, .int .i64 op, .int .u64 a, .int .u64 b] w fun e w' => e = .returned (.bool (cmpN op a b)) ∧ w' = w := by
  go_enter Tryz.func134, Tryz.ntmps134
  go_wp2
  rw [run_frombits]
  go_wp2
  rw [run_frombits]
  go_wp2
  all_goals go_ret
  all_goals refine ⟨ret_bool ?_, rfl⟩
  all_goals simp_all [cmpN, fOrd]
theorem fromInt_any (n : Value) (i : Int) : Calls Tryz.prog 146 #[n, .int .i64 i] w fun e w' => e = .returned (.int .u64 (fromIntN i)) ∧ w' = w := by
  go_enter Tryz.func146, Tryz.ntmps146
  go_wp2
  rw [run_bits]
  go_wp2
  go_ret
  exact ⟨rfl, rfl⟩
theorem run_negF (a : Nat) (w : World) : (Op.unary .neg (.float .f64 a)).run Tryz.prog w = .ok (.float .f64 (a ^^^ 2 ^ 63)) w := rfl
theorem bits_some (r : Nat) : Calls Tryz.prog 317 #[.float .f64 r] w fun e w' => e = .returned (.int .u64 (bitsN (some r))) ∧ w' = w := by
  have hn : isNan r = (FloatKind.f64.format.order r r != some .eq) := rfl
  by_cases hc : FloatKind.f64.format.order r r = some .eq
  · have hb : bitsN (some r) = r := by simp [bitsN, hn, hc]
    rw [hb]
    go_enter Tryz.func317, Tryz.ntmps317
    go_wp2
    rw [run_bits]
    go_wp2
    go_ret
    exact ⟨rfl, rfl⟩
  · have hb : bitsN (some r) = nanB := by simp [bitsN, hn, hc]
    rw [hb]
    have hc2 : (FloatKind.f64.format.order r r != some .eq) = true := by simpa using hc
    go_enter Tryz.func317, Tryz.ntmps317
    go_wp2
    go_ret
    exact ⟨rfl, rfl⟩
theorem neg_any (n : Value) (a : Nat) : Calls Tryz.prog 312 #[n, .int .u64 a] w fun e w' => e = .returned (.int .u64 (negN a)) ∧ w' = w := by
  go_enter Tryz.func312, Tryz.ntmps312
  go_wp2_with (fail)
  rw [run_frombits]
  go_wp2_with (fail)
  rw [run_negF]
  go_wp2_with (go_at_call 317; refine (bits_some _).mono ?_; rintro e w' ⟨rfl, rfl⟩)
  go_ret
  exact ⟨rfl, rfl⟩
def toIntV (o : Option Int) : Value := .tuple #[.int .i64 (o.getD 0), .bool o.isSome]
theorem toInt_good (n : Value) (x : Nat) (h1 : fOrd x minus53 = some .gt ∨ fOrd x minus53 = some .eq) (h2 : fOrd x two53 = some .lt ∨ fOrd x two53 = some .eq) : Calls Tryz.prog 210 #[n, .int .u64 x] w fun e w' => e = .returned (toIntV (toIntN x)) ∧ w' = w := by
  obtain ⟨i, hi, lo, hh⟩ := toInt_in h1 h2
  have hc : ∀ w, (convert 156 3 (.float .f64 x)).run Tryz.prog w = .ok (.int .i64 i) w := fun w => run_convert_float_int w 156 3 .f64 .i64 x i (by kernel_rfl) (by kernel_rfl) (by
    unfold floatToIntVal
    rw [hi]
    exact if_pos ⟨by rw [show IntKind.i64.min = -9223372036854775808 from rfl]; omega, by rw [show IntKind.i64.max = 9223372036854775807 from rfl]; omega⟩)
  have hb1 : (fOrd x minus53 == some .gt || fOrd x minus53 == some .eq) = true := by rcases h1 with h | h <;> rw [h] <;> rfl
  have hb2 : (fOrd x two53 == some .lt || fOrd x two53 == some .eq) = true := by rcases h2 with h | h <;> rw [h] <;> rfl
  have ht : toIntN x = if fOrd (fromIntN i) x == some .eq then some i else none := by
    unfold toIntN
    rw [hb1, hb2, hi]
    rfl
  have hq : Hid (∀ b, (FloatKind.f64.format.order (floatOfInt .f64 i) x == some .eq) = b → toIntN x = if b then some i else none) := fun b hb => by rw [ht]; rw [← hb]; rfl
  clear ht hb1 hb2 hi
  have g1 : FloatKind.f64.format.order x 14069245235905429504 = some .gt ∨ FloatKind.f64.format.order x 14069245235905429504 = some .eq := h1
  have g2 : FloatKind.f64.format.order x 4845873199050653696 = some .lt ∨ FloatKind.f64.format.order x 4845873199050653696 = some .eq := h2
  clear h1 h2
  cases he : (FloatKind.f64.format.order (floatOfInt .f64 i) x != some .eq)
  all_goals
    rcases g1 with g1 | g1 <;> rcases g2 with g2 | g2
  all_goals
    go_enter Tryz.func210, Tryz.ntmps210
    go_wp2
    rw [run_frombits]
    go_wp2_with (simp only [hc])
    go_ret2
    refine ⟨?_, rfl⟩
  all_goals first
    | rw [hq.out true (by simpa using he)]; rfl
    | rw [hq.out false (by simpa using he)]; rfl
theorem toInt_any (n : Value) (x : Nat) : Calls Tryz.prog 210 #[n, .int .u64 x] w fun e w' => e = .returned (toIntV (toIntN x)) ∧ w' = w := by
  cases hA : FloatKind.f64.format.order x 14069245235905429504 with
  | none =>
    have ht : toIntN x = none := by simp [toIntN, fOrd, minus53, hA]
    rw [ht]
    go_enter Tryz.func210, Tryz.ntmps210
    go_wp2
    rw [run_frombits]
    go_wp2
    go_ret2
    exact ⟨rfl, rfl⟩
  | some A => cases A with
    | lt =>
      have ht : toIntN x = none := by simp [toIntN, fOrd, minus53, hA]
      rw [ht]
      go_enter Tryz.func210, Tryz.ntmps210
      go_wp2
      rw [run_frombits]
      go_wp2
      go_ret2
      exact ⟨rfl, rfl⟩
    | _ =>
      cases hB : FloatKind.f64.format.order x 4845873199050653696 with
      | none =>
        have ht : toIntN x = none := by simp [toIntN, fOrd, minus53, two53, hA, hB]
        rw [ht]
        go_enter Tryz.func210, Tryz.ntmps210
        go_wp2
        rw [run_frombits]
        go_wp2
        go_ret2
        exact ⟨rfl, rfl⟩
      | some B => cases B with
        | gt =>
          have ht : toIntN x = none := by simp [toIntN, fOrd, minus53, two53, hA, hB]
          rw [ht]
          go_enter Tryz.func210, Tryz.ntmps210
          go_wp2
          rw [run_frombits]
          go_wp2
          go_ret2
          exact ⟨rfl, rfl⟩
        | _ => exact toInt_good n x (by first | exact .inl hA | exact .inr hA) (by first | exact .inl hB | exact .inr hB)
end
end Go.Proofs.Qxb6500574aGreatDoor
