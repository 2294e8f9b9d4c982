/-
  THE WALK of num: run (the digits of a text).
-/
import Derived.Test.Qxb6500574aGreatDoorVArith
import Derived.Test.Qxb6500574aGreatDoorVTabW
namespace Go.Proofs.Qxb6500574aGreatDoor
open Go Go.RowKit
set_option linter.unusedVariables false
set_option linter.unusedSimpArgs false
theorem run_index_str (s : List UInt8) (i : Nat) (n : Int) (hn : n = i) {t : UInt8} (h : s[i]? = some t) (w : World) : (Instr.index 9 (sv s) (.int .i64 n)).run Tryz.prog w = .ok (.int .u8 t.toNat) w := by
  subst hn
  have hu : Tryz.prog.underlying 9 = some .string := by kernel_rfl
  have hl : i < s.length := (List.getElem?_eq_some_iff.1 h).1
  have ht : s[i] = t := (List.getElem?_eq_some_iff.1 h).2
  have hq : (⟨s.toArray⟩ : ByteArray)[i]? = some t := by
    have h2 : i < (⟨s.toArray⟩ : ByteArray).size := hl
    rw [getElem?_pos (⟨s.toArray⟩ : ByteArray) i h2]
    show some (s[i]) = _
    rw [ht]
  simp only [Instr.index, asIntOf, Sem.run_bind, Sem.run_pure, Result.andThen_ok, run_underlying hu, sv, Int.natCast_nonneg, if_true, Int.toNat_natCast, hq]
theorem digs_split (c : UInt8) (s : Bs) (m : Nat) : digs (c :: s) m = if 48 ≤ c.toNat ∧ c.toNat ≤ 57 then ((digs s ((m * 10 + (c.toNat - 48)) % 2 ^ 64)).1, (digs s ((m * 10 + (c.toNat - 48)) % 2 ^ 64)).2.1 + 1, (digs s ((m * 10 + (c.toNat - 48)) % 2 ^ 64)).2.2) else (m, 0, c :: s) := rfl
section
variable {w : World}
set_option maxRecDepth 100000
set_option maxHeartbeats 600000
theorem digs_any (s : Bs) (i m : Nat) (hi : i ≤ s.length) (hs : s.length ≤ 100) (hm : m < 18446744073709551616) :
    Calls Tryz.prog 219 #[sv s, .int .i64 i, .int .u64 m] w fun e w' => e = .returned (.tuple #[.int .u64 (digs (s.drop i) m).1, .int .i64 (digs (s.drop i) m).2.1, .int .i64 ((s.length - (digs (s.drop i) m).2.2.length : Nat) : Int)]) ∧ w' = w := by
  obtain ⟨R, HR⟩ : ∃ R, Hid (digs (s.drop i) m = R) := ⟨_, rfl⟩
  rw [HR.out]
  have hsz : (⟨s.toArray⟩ : ByteArray).size = s.length := by simp [ByteArray.size]
  go_enter Tryz.func219, Tryz.ntmps219
  go_wp2_with fail
  go_loopw [1, 2, 9] (fun a b c wr => ∃ (k mm : Nat), i + k ≤ s.length ∧ mm < 18446744073709551616 ∧ a = .int .i64 ((i + k : Nat) : Int) ∧ b = .int .u64 mm ∧ c = .int .i64 k ∧ ((digs (s.drop (i + k)) mm).1, (digs (s.drop (i + k)) mm).2.1 + k, (digs (s.drop (i + k)) mm).2.2) = R ∧ wr = w) (fun a _ _ _ => s.length - (intOf a).toNat)
  case atStart => exact ⟨0, m, hi, hm, rfl, rfl, rfl, HR.out, rfl⟩
  case round =>
    obtain ⟨k, mm, hk, hmm, rfl, rfl, rfl, hR, rfl⟩ := hrel
    obtain ⟨K, HK⟩ : ∃ K, Hid (i + k = K) := ⟨_, rfl⟩
    obtain ⟨N, HN⟩ : ∃ N, Hid (s.length = N) := ⟨_, rfl⟩
    rw [HK.out] at hk hR ⊢
    rw [HN.out] at hk hs hi hsz
    have HR2 : Hid (((digs (s.drop K) mm).1, (digs (s.drop K) mm).2.1 + k, (digs (s.drop K) mm).2.2) = R) := hR
    clear hR
    have hsz2 : s.toArray.size = N := hsz
    have h20 : k ≤ 100 := by have := HK.out; omega
    by_cases hlt : K < N
    · obtain ⟨c, hc⟩ : ∃ c, s[K]? = some c := ⟨s[K]'(by rw [HN.out]; exact hlt), by simp⟩
      have hd : s.drop K = c :: s.drop (K + 1) := by
        obtain ⟨h1, h2⟩ := List.getElem?_eq_some_iff.1 hc
        rw [List.drop_eq_getElem_cons h1, h2]
      have HD : Hid (s.drop K = c :: s.drop (K + 1)) := hd
      have hix := run_index_str s K K rfl hc
      have hcl := c.toNat_lt
      obtain ⟨cn, HCN⟩ : ∃ cn, Hid (c.toNat = cn) := ⟨_, rfl⟩
      rw [HCN.out] at hix hcl
      clear hd hc
      by_cases h48 : 48 ≤ cn
      · by_cases h57 : cn ≤ 57
        · have HR3 : Hid (((digs (s.drop (K + 1)) ((mm * 10 + (cn - 48)) % 18446744073709551616)).1, (digs (s.drop (K + 1)) ((mm * 10 + (cn - 48)) % 18446744073709551616)).2.1 + (k + 1), (digs (s.drop (K + 1)) ((mm * 10 + (cn - 48)) % 18446744073709551616)).2.2) = R) := by
            show _ = _
            rw [← HR2.out, HD.out, digs_split, HCN.out, if_pos ⟨h48, h57⟩]
            simp [Nat.add_assoc, Nat.add_comm 1 k]
          go_wp2_with fail
          refine ⟨⟨k + 1, (mm * 10 + (cn - 48)) % 18446744073709551616, by rw [HN.out]; have := HK.out; omega, Nat.mod_lt _ (by omega), by have := HK.out; congr 1; omega, by congr 1; rw [wrapU, wrapU]; omega, by congr 1, ?_, trivial⟩, by rw [HN.out]; simp [intOf]; omega⟩
          rw [show i + (k + 1) = K + 1 by have := HK.out; omega]
          exact HR3.out
        · have HE : Hid (R = (mm, k, c :: s.drop (K + 1))) := by
            show _ = _
            rw [← HR2.out, HD.out, digs_split, if_neg (by rw [HCN.out]; omega)]
            simp
          have HL : Hid (s.length - R.2.2.length = K) := by
            show _ = _
            rw [HE.out]
            have h1 : (s.drop K).length = N - K := by rw [List.length_drop, HN.out]
            rw [HD.out] at h1
            dsimp only
            rw [h1, HN.out]
            omega
          go_wp2_with fail
          go_ret3
          refine ⟨?_, rfl⟩
          rw [HL.out, HE.out]
          rfl
      · have HE : Hid (R = (mm, k, c :: s.drop (K + 1))) := by
          show _ = _
          rw [← HR2.out, HD.out, digs_split, if_neg (by rw [HCN.out]; omega)]
          simp
        have HL : Hid (s.length - R.2.2.length = K) := by
          show _ = _
          rw [HE.out]
          have h1 : (s.drop K).length = N - K := by rw [List.length_drop, HN.out]
          rw [HD.out] at h1
          dsimp only
          rw [h1, HN.out]
          omega
        go_wp2_with fail
        go_ret3
        refine ⟨?_, rfl⟩
        rw [HL.out, HE.out]
        rfl
    · have HD : Hid (s.drop K = []) := List.drop_eq_nil_of_le (by rw [HN.out]; omega)
      have HE : Hid (R = (mm, k, [])) := by
        show _ = _
        rw [← HR2.out, HD.out]
        simp [digs]
      have HL : Hid (s.length - R.2.2.length = K) := by
        show _ = _
        rw [HE.out]
        have h1 : (s.drop K).length = N - K := by rw [List.length_drop, HN.out]
        rw [HD.out] at h1
        dsimp only
        rw [h1, HN.out]
        omega
      go_wp2_with fail
      go_ret3
      refine ⟨?_, rfl⟩
      rw [HL.out, HE.out]
      rfl
end
end Go.Proofs.Qxb6500574aGreatDoor
