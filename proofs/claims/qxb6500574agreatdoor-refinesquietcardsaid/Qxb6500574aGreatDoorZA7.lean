/-
  THE WALKS of numm: floor, Arith.
-/
import Derived.Test.Qxb6500574aGreatDoorZA6
namespace Go.Proofs.Qxb6500574aGreatDoor
open Go Go.RowKit
set_option linter.unusedVariables false
set_option linter.unusedSimpArgs false
theorem pack_u {neg : Bool} {man : Nat} {ex : Int} {st : Bool} (h : u64 man) : u64 (packM neg man ex st) := by
  have hs : signM neg ≤ 9223372036854775808 := by unfold signM sgnM; cases neg <;> decide
  by_cases h0 : man = 0
  · subst h0
    unfold packM u64
    rw [if_pos rfl]
    omega
  rw [pack_tail h0 h]
  unfold tailM u64
  have hl : man.log2 ≤ 63 := by have := (Nat.log2_lt h0 (k := 64)).2 (by have : (2 : Nat) ^ 64 = 18446744073709551616 := (by decide); unfold u64 at h; omega); omega
  have hu : u64 (man * 2 ^ (63 - man.log2)) := by
    have hhi : man < 2 ^ (man.log2 + 1) := Nat.lt_log2_self
    have := Nat.mul_lt_mul_of_pos_right hhi (Nat.pow_pos (n := 63 - man.log2) (show 0 < 2 by decide))
    rw [← Nat.pow_add, show man.log2 + 1 + (63 - man.log2) = 64 by omega] at this
    exact this
  generalize man * 2 ^ (63 - man.log2) = m at *
  generalize ex + (man.log2 : Int) = top at *
  have hinf : infM = 9218868437227405312 := rfl
  split
  · omega
  · split
    · split
      · omega
      · have := rnd_53 hu (d := 11 + (-1022 - top).toNat) (by omega) st
        omega
    · split <;> omega
theorem flip_u {x : Nat} (h : u64 x) : u64 (flipM x) := (flip_abs h).1
theorem fin_u {x : Nat} (h : FinP (partsM x).1 (partsM x).2) : u64 (partsM x).1 := by have := h.hi; unfold u64; omega
theorem andnot_low {m k : Nat} (h : u64 m) (hp : 2 ^ k ≤ 4503599627370496) : m &&& (18446744073709551615 - (2 ^ k - 1)) = m - m % 2 ^ k := by
  have hk : k ≤ 52 := by
    refine Classical.byContradiction fun z => ?_
    have h1 : 2 ^ 53 ≤ 2 ^ k := Nat.pow_le_pow_right (by decide) (by omega)
    have h2 : (2 : Nat) ^ 53 = 9007199254740992 := by decide
    omega
  have e : m - m % 2 ^ k = 2 ^ k * (m / 2 ^ k) := by have := Nat.div_add_mod m (2 ^ k); omega
  have hp1 : 1 ≤ 2 ^ k := Nat.pow_pos (by decide)
  have e2 : 18446744073709551615 - (2 ^ k - 1) = 2 ^ 64 - (2 ^ k - 1 + 1) := by
    have : (2 : Nat) ^ 64 = 18446744073709551616 := by decide
    omega
  apply Nat.eq_of_testBit_eq
  intro i
  rw [e, Nat.testBit_and, e2, Nat.testBit_two_pow_sub_succ (by have : (2 : Nat) ^ 64 = 18446744073709551616 := (by decide); omega), Nat.testBit_two_pow_sub_one, Nat.testBit_two_pow_mul, Nat.testBit_div_two_pow]
  by_cases z : i < 64
  · rw [decide_eq_true z]
    by_cases y : i < k
    · simp [y]
      omega
    · simp [y]
      have : k ≤ i := by omega
      rw [show i - k + k = i by omega]
      simp [this]
  · have : m.testBit i = false := Nat.testBit_lt_two_pow (Nat.lt_of_lt_of_le (show m < 2 ^ 64 from h) (Nat.pow_le_pow_right (by decide) (by omega)))
    rw [this, decide_eq_false z]
    have : k ≤ i := by omega
    rw [show i - k + k = i by omega]
    simp [*]
section
variable {w : World}
set_option maxRecDepth 100000
set_option maxHeartbeats 4000000
theorem floor_m {a : Nat} (h : u64 a) : Calls Tryz.prog 198 #[.int .u64 a] w fun e w' => e = .returned (.int .u64 (floorM a)) ∧ w' = w := by
  have HN : Hid (Calls Tryz.prog 258 #[.int .u64 a] w fun e w' => e = .returned (.bool (isNanM a)) ∧ w' = w) := isNaN_m h
  have HP1 : Hid (Calls Tryz.prog 255 #[.int .u64 a] w fun e w' => e = .returned (.tuple #[.int .u64 (partsM a).1, .int .i64 (partsM a).2]) ∧ w' = w) := parts_m h
  obtain ⟨R, HR⟩ : ∃ R, Hid (floorM a = R) := ⟨_, rfl⟩
  rw [HR.out]
  have bA := bt_abs h
  have sx := bt_sg h
  have HPk : PkC (signM (negM a)) (negM a) := pkC _
  unfold floorM at HR
  dsimp only at HR
  cases hn : isNanM a
  · rw [hn] at HN HR
    rw [if_neg (by decide)] at HR
    by_cases hi : absM a = infM
    · rw [if_pos (.inl hi)] at HR
      have bi : absM a = 9218868437227405312 := hi
      rw [bi] at bA
      clear hi bi
      go_enter Tryz.func198, Tryz.ntmps198
      go_wp2_with fail
      refine HN.out.mono ?_
      rintro e w' ⟨rfl, hw⟩
      rw [hw]
      go_wp2_with fail
      go_ret
      exact ⟨by rw [← HR.out]; rfl, rfl⟩
    by_cases hz : absM a = 0
    · rw [if_pos (.inr hz)] at HR
      rw [hz] at bA
      clear hi hz
      go_enter Tryz.func198, Tryz.ntmps198
      go_wp2_with fail
      refine HN.out.mono ?_
      rintro e w' ⟨rfl, hw⟩
      rw [hw]
      go_wp2_with fail
      go_ret
      exact ⟨by rw [← HR.out]; rfl, rfl⟩
    rw [if_neg (fun z => z.elim hi hz)] at HR
    obtain ⟨pa1, pa2, pa3, pa4⟩ := fin_parts h hn (decide_eq_false hi) (decide_eq_false hz)
    obtain ⟨ax, HAX⟩ : ∃ x, Hid (absM a = x) := ⟨_, rfl⟩
    rw [HAX.out] at bA hi hz
    have bi : ((ax : Int) == 9218868437227405312) = false := by rw [beq_eq_false_iff_ne]; unfold infM at hi; omega
    have bz : ((ax : Int) == 0) = false := by rw [beq_eq_false_iff_ne]; omega
    clear hi hz hn
    obtain ⟨⟨m, e⟩, HM1⟩ : ∃ p, Hid (partsM a = p) := ⟨_, rfl⟩
    rw [HM1.out] at HP1 HR pa1 pa2 pa3 pa4
    simp only at pa1 pa2 pa3 pa4 HP1 HR
    obtain ⟨s, HS⟩ : ∃ s, Hid (signM (negM a) = s) := ⟨_, rfl⟩
    have hs : ((s : Int) != 0) = negM a := by
      rw [← HS.out]
      unfold signM sgnM
      cases negM a <;> rfl
    rw [HS.out] at sx HPk
    generalize negM a = ng at *
    by_cases he : 0 ≤ e
    · rw [if_pos he] at HR
      go_enter Tryz.func198, Tryz.ntmps198
      go_wp2_with fail
      refine HN.out.mono ?_
      rintro e w' ⟨rfl, hw⟩
      rw [hw]
      go_wp2_with fail
      refine HP1.out.mono ?_
      rintro e w' ⟨rfl, hw⟩
      rw [hw]
      go_wp2_with fail
      go_ret
      exact ⟨by rw [← HR.out]; rfl, rfl⟩
    rw [if_neg he] at HR
    by_cases h53 : e ≤ -53
    · rw [if_pos h53] at HR
      cases ng
      · rw [if_neg (by decide)] at HR
        go_enter Tryz.func198, Tryz.ntmps198
        go_wp2_with fail
        refine HN.out.mono ?_
        rintro e w' ⟨rfl, hw⟩
        rw [hw]
        go_wp2_with fail
        refine HP1.out.mono ?_
        rintro e w' ⟨rfl, hw⟩
        rw [hw]
        go_wp2_with fail
        go_ret
        exact ⟨by rw [← HR.out]; rfl, rfl⟩
      · rw [if_pos rfl] at HR
        go_enter Tryz.func198, Tryz.ntmps198
        go_wp2_with fail
        refine HN.out.mono ?_
        rintro e w' ⟨rfl, hw⟩
        rw [hw]
        go_wp2_with fail
        refine HP1.out.mono ?_
        rintro e w' ⟨rfl, hw⟩
        rw [hw]
        go_wp2_with fail
        go_ret
        exact ⟨by rw [← HR.out]; rfl, rfl⟩
    rw [if_neg h53] at HR
    obtain ⟨k, hk⟩ : ∃ k : Nat, -e = (k : Int) := ⟨(-e).toNat, by omega⟩
    have hk' : (-e).toNat = k := by omega
    rw [hk'] at HR
    have kl : k ≤ 52 := by omega
    have hp : 2 ^ k < 18446744073709551616 := Nat.lt_of_le_of_lt (Nat.pow_le_pow_right (by decide) kl) (by decide)
    have hp1 : 1 ≤ 2 ^ k := Nat.pow_pos (by decide)
    have hp53 : 2 ^ k ≤ 4503599627370496 := Nat.le_trans (Nat.pow_le_pow_right (by decide) kl) (by decide)
    have hp0 : IntKind.u64.wrap (2 ^ k) = ((2 ^ k : Nat) : Int) := by rw [show ((2 : Int) ^ k) = ((2 ^ k : Nat) : Int) by simp, IntKind.wrap_u64]; omega
    have hr := u64_and_nat m (2 ^ k - 1) (by omega) (by omega)
    rw [Nat.and_two_pow_sub_one_eq_mod] at hr
    have hr2 := u64_andNot_nat m (2 ^ k - 1) (by omega) (by omega)
    rw [andnot_low (by unfold u64; omega) (by omega)] at hr2
    have hrl : m % 2 ^ k ≤ m := Nat.mod_le _ _
    obtain ⟨mk, hmk⟩ : ∃ x : Nat, 2 ^ k - 1 = x := ⟨_, rfl⟩
    have hmk' : ((2 ^ k : Nat) : Int) - 1 = (mk : Int) := by omega
    rw [hmk] at hr hr2
    have hpm : 2 ^ k = mk + 1 := by omega
    generalize m % 2 ^ k = r at *
    generalize 2 ^ k = p at *
    obtain ⟨m1, HM⟩ : ∃ x, Hid (m - r = x) := ⟨_, rfl⟩
    rw [HM.out] at hr2 HR
    have lm1 : m1 ≤ m := by rw [← HM.out]; omega
    have lmk : mk ≤ 4503599627370495 := by omega
    clear hk' hp hmk
    by_cases hr0 : r = 0
    · subst hr0
      rw [if_pos rfl] at HR
      go_enter Tryz.func198, Tryz.ntmps198
      go_wp2_with fail
      refine HN.out.mono ?_
      rintro e w' ⟨rfl, hw⟩
      rw [hw]
      go_wp2_with fail
      refine HP1.out.mono ?_
      rintro e w' ⟨rfl, hw⟩
      rw [hw]
      go_wp2_with fail
      go_ret
      exact ⟨by rw [← HR.out]; rfl, rfl⟩
    · rw [if_neg hr0] at HR
      have hr1 : ((r : Int) == 0) = false := by rw [beq_eq_false_iff_ne]; omega
      cases ng
      · rw [if_neg (by decide), Nat.add_zero] at HR
        have HPC := HPk w m1 e false (show m1 < 18446744073709551616 by omega) (by omega) (by omega)
        clear hpm
        go_enter Tryz.func198, Tryz.ntmps198
        go_wp2_with fail
        refine HN.out.mono ?_
        rintro e w' ⟨rfl, hw⟩
        rw [hw]
        go_wp2_with fail
        refine HP1.out.mono ?_
        rintro e w' ⟨rfl, hw⟩
        rw [hw]
        go_wp2_with fail
        refine HPC.mono ?_
        rintro e w' ⟨rfl, hw⟩
        rw [hw]
        go_wp2_with fail
        go_ret
        exact ⟨by rw [← HR.out]; rfl, rfl⟩
      · rw [if_pos rfl, hpm] at HR
        obtain ⟨m2, hm2⟩ : ∃ x : Nat, (m1 : Int) + (mk : Int) = (x : Int) := ⟨m1 + mk, by omega⟩
        obtain ⟨m3, hm3⟩ : ∃ x : Nat, (m2 : Int) + 1 = (x : Int) := ⟨m2 + 1, by omega⟩
        have hm3' : m1 + (mk + 1) = m3 := by omega
        rw [hm3'] at HR
        have lm2 : m2 ≤ 18014398509481984 := by omega
        have HPC := HPk w m3 e false (show m3 < 18446744073709551616 by omega) (by omega) (by omega)
        clear hm3' hpm
        go_enter Tryz.func198, Tryz.ntmps198
        go_wp2_with fail
        refine HN.out.mono ?_
        rintro e w' ⟨rfl, hw⟩
        rw [hw]
        go_wp2_with fail
        refine HP1.out.mono ?_
        rintro e w' ⟨rfl, hw⟩
        rw [hw]
        go_wp2_with fail
        refine HPC.mono ?_
        rintro e w' ⟨rfl, hw⟩
        rw [hw]
        go_wp2_with fail
        go_ret
        exact ⟨by rw [← HR.out]; rfl, rfl⟩
  · rw [hn] at HN HR
    rw [if_pos rfl] at HR
    go_enter Tryz.func198, Tryz.ntmps198
    go_wp2_with fail
    refine HN.out.mono ?_
    rintro e w' ⟨rfl, hw⟩
    rw [hw]
    go_wp2_with fail
    go_ret
    exact ⟨by rw [← HR.out]; rfl, rfl⟩
end
end Go.Proofs.Qxb6500574aGreatDoor
