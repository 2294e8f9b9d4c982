/-
  runm.step: what its walks come to, put together: plain. No walk.
-/
import Derived.Test.Qxb6500575aGreatDoorYStep1
import Derived.Test.Qxb6500575aGreatDoorLawB5
namespace Go.Proofs.Qxb6500575aGreatDoor
open Go Go.RowKit
set_option linter.unusedVariables false
set_option linter.unusedSimpArgs false

theorem i32_tmod (a b : Int) (h : I32 a) : I32 (a.tmod b) := by
  have h1 : (a.tmod b).natAbs ≤ a.natAbs := by rw [Int.natAbs_tmod]; exact Nat.mod_le _ _
  unfold I32 at *
  rcases Int.lt_or_le a 0 with ha | ha
  · have h2 := Int.tmod_nonneg b (show 0 ≤ -a by omega)
    rw [Int.neg_tmod] at h2
    omega
  · have h2 := Int.tmod_nonneg b ha
    omega
theorem i32_fdiv (x : Int) (n : Nat) (h : I32 x) : I32 (x.fdiv (2 ^ n)) := by
  have hp : (0 : Int) < 2 ^ n := Int.pow_pos (by omega)
  have h1 : (1 : Int) ≤ 2 ^ n := by omega
  rw [Int.fdiv_eq_ediv_of_nonneg _ (by omega)]
  unfold I32 at *
  constructor
  · have := Int.le_ediv_of_mul_le (a := -2147483648) (b := x) (c := 2 ^ n) hp (by
      have : (-2147483648 : Int) * 2 ^ n ≤ -2147483648 * 1 := by omega
      omega)
    exact this
  · rcases Int.lt_or_le x 0 with hx | hx
    · have := Int.ediv_lt_of_lt_mul (a := x) (b := 0) (c := 2 ^ n) hp (by omega)
      omega
    · have := Int.ediv_le_self (a := x) (2 ^ n) hx
      omega
theorem ite_i32 {c : Prop} [Decidable c] {x y : Int} (hx : I32 x) (hy : I32 y) : I32 (if c then x else y) := by split; exact hx; exact hy
theorem i32_0 : I32 0 := by unfold I32; omega
theorem i32_1 : I32 1 := by unfold I32; omega
theorem u32R_i32 (k x y : Int) (hx : I32 x) : I32 (u32R k x y) :=
  ite_i32 (i32_wrap _) (ite_i32 (i32_wrap _) (ite_i32 (i32_wrap _) (ite_i32 (i32_wrap _) (ite_i32 (i32_wrap _) (ite_i32 (i32_tmod _ _ hx) (ite_i32 (i32_wrap _) (ite_i32 (i32_bits _ _ _) (ite_i32 (i32_bits _ _ _) (ite_i32 (i32_bits _ _ _) (ite_i32 (i32_wrap _) (ite_i32 (i32_fdiv _ _ hx) (ite_i32 (i32_wrap _) (ite_i32 (ite_i32 i32_1 i32_0) (ite_i32 (ite_i32 i32_1 i32_0) (ite_i32 i32_1 i32_0)))))))))))))))
theorem aluP_w32 {op : Int} (a b : Int) (hop : (29 ≤ op ∧ op ≤ 33) ∨ (40 ≤ op ∧ op < 56) ∨ (60 ≤ op ∧ op < 76)) (h : aTo op = 105) : wrap32 (aluP op a b).1 = (aluP op a b).1 := by
  have hn : ¬ ((60 ≤ op ∧ op < 73) ∨ op = 32 ∨ op = 33) := fun e => by unfold aTo at h; rw [if_pos e] at h; exact absurd h (by decide)
  apply w32
  unfold aluP
  by_cases h1 : op = 29
  · rw [if_pos h1]; exact ite_i32 i32_1 i32_0
  rw [if_neg h1]
  by_cases h2 : op = 30
  · rw [if_pos h2]; exact ite_i32 i32_1 i32_0
  rw [if_neg h2]
  by_cases h3 : op = 31 ∨ op = 32
  · rw [if_pos h3]; exact i32_wrap _
  rw [if_neg h3, if_neg (by omega)]
  by_cases h4 : op < 60
  · rw [if_pos h4]
    unfold u32P
    split
    · exact i32_0
    · exact u32R_i32 _ _ _ (i32_wrap _)
  · rw [if_neg h4]
    unfold u64P
    rw [if_neg (by omega)]
    show I32 (u64R (op - 60) a b)
    unfold u64R
    rw [if_neg (by omega), if_neg (by omega), if_neg (by omega), if_neg (by omega), if_neg (by omega), if_neg (by omega), if_neg (by omega), if_neg (by omega), if_neg (by omega), if_neg (by omega), if_neg (by omega), if_neg (by omega), if_neg (by omega)]
    exact ite_i32 (ite_i32 i32_1 i32_0) (ite_i32 (ite_i32 i32_1 i32_0) (ite_i32 i32_1 i32_0))
theorem aTo_two (op : Int) : aTo op = 105 ∨ aTo op = 108 := by unfold aTo; split; exact .inr rfl; exact .inl rfl
theorem host_nil {R : MP} {H : HF HS} {m : MS} (h : HostOk R H m) (s : HS) (g : Int) (args : List V) (he : (H s g args).2.1 ≠ 0) : (H s g args).2.2 = [] := by
  rcases h with ⟨_, rfl⟩ | ⟨_, rfl⟩
  · rfl
  · unfold hostF hostR at he ⊢
    split
    · rename_i h1
      rw [if_pos h1] at he
      split
      · rename_i h2; rw [if_pos h2] at he; simp at he
      · rfl
    · rfl
theorem pay_hs (x : ND) : x.pay.1.hs = x.hs := by unfold ND.pay; split <;> rfl
theorem pay_asked (x : ND) : x.pay.1.asked = x.asked := by unfold ND.pay; split <;> rfl
theorem pay_trace (x : ND) : x.pay.1.trace = x.trace := by unfold ND.pay; split <;> rfl
theorem okS_parts {c : Ins} {loc : List V} {max : Nat} {m : MS} (h : okS c loc max m = true) : tyS c m.x.st loc = true ∧ FitL m.x.st ∧ FitL loc ∧ 0 ≤ m.x.used ∧ m.x.fuel ≤ 9223372036854775807 ∧ well c = true ∧ (-9223372036854775808 ≤ c.imm ∧ c.imm < 9223372036854775808) ∧ m.x.st.length ≤ 200 ∧ loc.length ≤ 7 ∧ m.mem.length % 8 = 0 ∧ m.mem.length ≤ max * 8 ∧ max ≤ 4 := by
  unfold okS at h
  simp only [Bool.and_eq_true, decide_eq_true_eq] at h
  obtain ⟨⟨⟨h1, h2⟩, h3⟩, h4, h5, h6, h7, h8, h9, h10, h11, h12, h13⟩ := h
  rw [List.all_eq_true] at h2 h3
  exact ⟨h1, fun v hv => (fitV_iff v).1 (h2 v hv), fun v hv => (fitV_iff v).1 (h3 v hv), h4, h5, h6, ⟨h7, h8⟩, h9, h10, h11, h12, h13⟩
end Go.Proofs.Qxb6500575aGreatDoor
