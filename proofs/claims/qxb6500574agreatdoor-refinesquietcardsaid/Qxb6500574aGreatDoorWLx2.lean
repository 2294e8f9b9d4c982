/-
  THE WALK of the parser layer: words, digits, until, has.
-/
import Derived.Test.Qxb6500574aGreatDoorWLx1
namespace Go.Proofs.Qxb6500574aGreatDoor
open Go Go.RowKit
set_option linter.unusedVariables false
set_option linter.unusedSimpArgs false
theorem span_cons (p : UInt8 → Bool) (c : UInt8) (r : Bs) : span p (c :: r) = if p c then span p r + 1 else 0 := by
  unfold span
  rw [List.takeWhile_cons]
  split <;> simp
theorem drop_at {s : Bs} {K : Nat} {c : UInt8} (hc : s[K]? = some c) : s.drop K = c :: s.drop (K + 1) := by
  obtain ⟨h1, h2⟩ := List.getElem?_eq_some_iff.1 hc
  rw [List.drop_eq_getElem_cons h1, h2]
theorem span_drop {p : UInt8 → Bool} {s : Bs} {i k : Nat} {c : UInt8} (h : span p (s.drop i) = k + span p (s.drop (i + k))) (hc : s[i + k]? = some c) : (p c = true → span p (s.drop i) = (k + 1) + span p (s.drop (i + (k + 1)))) ∧ (p c = false → span p (s.drop i) = k) := by
  rw [h, drop_at hc, span_cons]
  constructor
  · intro e
    rw [if_pos e, show i + (k + 1) = i + k + 1 by omega]
    omega
  · intro e
    rw [if_neg (by rw [e]; simp)]
    rfl
theorem span_end {p : UInt8 → Bool} {s : Bs} {i k : Nat} (h : span p (s.drop i) = k + span p (s.drop (i + k))) (hk : s.length ≤ i + k) : span p (s.drop i) = k := by
  rw [h, List.drop_eq_nil_of_le hk]
  rfl
section
variable {w : World}
set_option maxRecDepth 100000
set_option maxHeartbeats 600000
theorem letter_any (n : Int) : Calls Tryz.prog 91 #[.int .i32 n] w fun e w' => e = .returned (.bool ((decide (97 ≤ n) && decide (n ≤ 122)) || (decide (65 ≤ n) && decide (n ≤ 90)) || decide (n = 95))) ∧ w' = w := by
  go_enter Tryz.func91, Tryz.ntmps91
  by_cases h1 : 97 ≤ n
  · by_cases h2 : n ≤ 122
    · go_wp2_with fail
      go_ret
      exact ⟨by simp [h1, h2], rfl⟩
    · have h3 : 65 ≤ n := by omega
      have h4 : ¬ n ≤ 90 := by omega
      have h5 : ¬ n = 95 := by omega
      have h5i : (n == 95) = false := by simp; omega
      go_wp2_with fail
      go_ret
      exact ⟨by simp [h1, h2, h3, h4, h5] <;> omega, rfl⟩
  · by_cases h3 : 65 ≤ n
    · by_cases h4 : n ≤ 90
      · go_wp2_with fail
        go_ret
        exact ⟨by simp [h1, h3, h4], rfl⟩
      · by_cases h5 : n = 95
        · subst h5
          go_wp2_with fail
          go_ret
          exact ⟨by simp, rfl⟩
        · have h5i : (n == 95) = false := by simp; omega
          go_wp2_with fail
          go_ret
          exact ⟨by simp [h1, h3, h4, h5] <;> omega, rfl⟩
    · have h5 : ¬ n = 95 := by omega
      have h5i : (n == 95) = false := by simp; omega
      go_wp2_with fail
      go_ret
      exact ⟨by simp [h1, h3, h5] <;> omega, rfl⟩
theorem words_any (s : Bs) (i : Nat) (hi : i ≤ s.length) (hs : s.length ≤ 4096) : Calls Tryz.prog 92 #[sv s, .int .i64 i] w fun e w' => e = .returned (.int .i64 ((i + span isWrd (s.drop i) : Nat) : Int)) ∧ w' = w := by
  obtain ⟨R, HR⟩ : ∃ R, Hid (span isWrd (s.drop i) = R) := ⟨_, rfl⟩
  rw [HR.out]
  have hsz : (⟨s.toArray⟩ : ByteArray).size = s.length := by simp [ByteArray.size]
  go_enter Tryz.func92, Tryz.ntmps92
  go_wp2_with fail
  go_loopw [1] (fun a wr => ∃ (k : Nat), i + k ≤ s.length ∧ a = .int .i64 ((i + k : Nat) : Int) ∧ span isWrd (s.drop i) = k + span isWrd (s.drop (i + k)) ∧ wr = w) (fun a _ => s.length - (intOf a).toNat)
  case atStart => exact ⟨0, hi, rfl, by simp, rfl⟩
  case round =>
    obtain ⟨k, hk, rfl, hR, rfl⟩ := hrel
    by_cases hlt : i + k < s.length
    · obtain ⟨c, hc⟩ : ∃ c, s[i + k]? = some c := ⟨s[i + k]'hlt, by simp⟩
      obtain ⟨sp1, sp2⟩ := span_drop hR hc
      have hix := run_index_str s (i + k) _ rfl hc
      have CALL := word_any (w := wr) c
      obtain ⟨K, HK⟩ : ∃ K, Hid (i + k = K) := ⟨_, rfl⟩
      obtain ⟨N, HN⟩ : ∃ N, Hid (s.length = N) := ⟨_, rfl⟩
      obtain ⟨cn, HCN⟩ : ∃ cn, Hid (c.toNat = cn) := ⟨_, rfl⟩
      rw [HK.out, HCN.out] at hix
      rw [HCN.out] at CALL
      rw [HK.out] at hlt ⊢
      rw [HN.out] at hlt hs hsz
      have hsz2 : s.toArray.size = N := hsz
      have SP : Hid ((isWrd c = true → span isWrd (s.drop i) = (k + 1) + span isWrd (s.drop (i + (k + 1)))) ∧ (isWrd c = false → span isWrd (s.drop i) = k)) := ⟨sp1, sp2⟩
      clear sp1 sp2 hR hc
      go_wp2_with fail
      refine CALL.mono ?_
      rintro e' w1 ⟨rfl, hw1⟩
      subst hw1
      clear CALL
      cases hW : isWrd c with
      | true =>
        go_wp2_with fail
        refine ⟨⟨k + 1, by rw [HN.out]; have := HK.out; omega, by have := HK.out; congr 1; omega, SP.out.1 hW, trivial⟩, by rw [HN.out]; simp [intOf]; omega⟩
      | false =>
        go_wp2_with fail
        go_ret
        refine ⟨?_, rfl⟩
        have e1 := SP.out.2 hW
        have e2 := HR.out
        have e3 := HK.out
        rw [show K = i + R by omega]
        rfl
    · have hend := span_end hR (by omega)
      obtain ⟨K, HK⟩ : ∃ K, Hid (i + k = K) := ⟨_, rfl⟩
      obtain ⟨N, HN⟩ : ∃ N, Hid (s.length = N) := ⟨_, rfl⟩
      rw [HK.out] at hlt ⊢
      rw [HN.out] at hlt hs hsz
      have hsz2 : s.toArray.size = N := hsz
      have SP : Hid (span isWrd (s.drop i) = k) := hend
      clear hend hR
      go_wp2_with fail
      go_ret
      refine ⟨?_, rfl⟩
      have e1 := SP.out
      have e2 := HR.out
      have e3 := HK.out
      rw [show K = i + R by omega]
      rfl
theorem digits_any (s : Bs) (i : Nat) (hi : i ≤ s.length) (hs : s.length ≤ 4096) : Calls Tryz.prog 151 #[sv s, .int .i64 i] w fun e w' => e = .returned (.int .i64 ((i + span isDig (s.drop i) : Nat) : Int)) ∧ w' = w := by
  obtain ⟨R, HR⟩ : ∃ R, Hid (span isDig (s.drop i) = R) := ⟨_, rfl⟩
  rw [HR.out]
  have hsz : (⟨s.toArray⟩ : ByteArray).size = s.length := by simp [ByteArray.size]
  go_enter Tryz.func151, Tryz.ntmps151
  go_wp2_with fail
  go_loopw [1] (fun a wr => ∃ (k : Nat), i + k ≤ s.length ∧ a = .int .i64 ((i + k : Nat) : Int) ∧ span isDig (s.drop i) = k + span isDig (s.drop (i + k)) ∧ wr = w) (fun a _ => s.length - (intOf a).toNat)
  case atStart => exact ⟨0, hi, rfl, by simp, rfl⟩
  case round =>
    obtain ⟨k, hk, rfl, hR, rfl⟩ := hrel
    by_cases hlt : i + k < s.length
    · obtain ⟨c, hc⟩ : ∃ c, s[i + k]? = some c := ⟨s[i + k]'hlt, by simp⟩
      obtain ⟨sp1, sp2⟩ := span_drop hR hc
      have hix := run_index_str s (i + k) _ rfl hc
      have CALL := digit_any (w := wr) c
      obtain ⟨K, HK⟩ : ∃ K, Hid (i + k = K) := ⟨_, rfl⟩
      obtain ⟨N, HN⟩ : ∃ N, Hid (s.length = N) := ⟨_, rfl⟩
      obtain ⟨cn, HCN⟩ : ∃ cn, Hid (c.toNat = cn) := ⟨_, rfl⟩
      rw [HK.out, HCN.out] at hix
      rw [HCN.out] at CALL
      rw [HK.out] at hlt ⊢
      rw [HN.out] at hlt hs hsz
      have hsz2 : s.toArray.size = N := hsz
      have SP : Hid ((isDig c = true → span isDig (s.drop i) = (k + 1) + span isDig (s.drop (i + (k + 1)))) ∧ (isDig c = false → span isDig (s.drop i) = k)) := ⟨sp1, sp2⟩
      clear sp1 sp2 hR hc
      go_wp2_with fail
      refine CALL.mono ?_
      rintro e' w1 ⟨rfl, hw1⟩
      subst hw1
      clear CALL
      cases hW : isDig c with
      | true =>
        go_wp2_with fail
        refine ⟨⟨k + 1, by rw [HN.out]; have := HK.out; omega, by have := HK.out; congr 1; omega, SP.out.1 hW, trivial⟩, by rw [HN.out]; simp [intOf]; omega⟩
      | false =>
        go_wp2_with fail
        go_ret
        refine ⟨?_, rfl⟩
        have e1 := SP.out.2 hW
        have e2 := HR.out
        have e3 := HK.out
        rw [show K = i + R by omega]
        rfl
    · have hend := span_end hR (by omega)
      obtain ⟨K, HK⟩ : ∃ K, Hid (i + k = K) := ⟨_, rfl⟩
      obtain ⟨N, HN⟩ : ∃ N, Hid (s.length = N) := ⟨_, rfl⟩
      rw [HK.out] at hlt ⊢
      rw [HN.out] at hlt hs hsz
      have hsz2 : s.toArray.size = N := hsz
      have SP : Hid (span isDig (s.drop i) = k) := hend
      clear hend hR
      go_wp2_with fail
      go_ret
      refine ⟨?_, rfl⟩
      have e1 := SP.out
      have e2 := HR.out
      have e3 := HK.out
      rw [show K = i + R by omega]
      rfl
theorem has_any (s : Bs) (i : Nat) (hs : s.length ≤ 4096) (hi : i ≤ 5000) : Calls Tryz.prog 152 #[sv s, .int .i64 i] w fun e w' => e = .returned (.bool (headDig (s.drop i))) ∧ w' = w := by
  have hsz : (⟨s.toArray⟩ : ByteArray).size = s.length := by simp [ByteArray.size]
  by_cases hlt : i < s.length
  · obtain ⟨c, hc⟩ : ∃ c, s[i]? = some c := ⟨s[i]'hlt, by simp⟩
    have hix := run_index_str s i _ rfl hc
    have CALL := digit_any (w := w) c
    obtain ⟨Q, HQ⟩ : ∃ Q, Hid (headDig (s.drop i) = Q) := ⟨_, rfl⟩
    have HQ2 : Hid (isDig c = Q) := by
      show _ = _
      rw [← HQ.out, drop_at hc]
      rfl
    rw [HQ.out]
    obtain ⟨N, HN⟩ : ∃ N, Hid (s.length = N) := ⟨_, rfl⟩
    obtain ⟨cn, HCN⟩ : ∃ cn, Hid (c.toNat = cn) := ⟨_, rfl⟩
    rw [HCN.out] at hix CALL
    rw [HN.out] at hlt hs hsz
    have hsz2 : s.toArray.size = N := hsz
    clear hc
    go_enter Tryz.func152, Tryz.ntmps152
    go_wp2_with fail
    refine CALL.mono ?_
    rintro e' w1 ⟨rfl, hw1⟩
    subst hw1
    clear CALL
    rw [HQ2.out]
    go_wp2_with fail
    go_ret
    exact ⟨rfl, rfl⟩
  · have hd : headDig (s.drop i) = false := by rw [List.drop_eq_nil_of_le (by omega)]; rfl
    rw [hd]
    obtain ⟨N, HN⟩ : ∃ N, Hid (s.length = N) := ⟨_, rfl⟩
    rw [HN.out] at hlt hs hsz
    have hsz2 : s.toArray.size = N := hsz
    clear hd
    go_enter Tryz.func152, Tryz.ntmps152
    go_wp2_with fail
    go_ret
    exact ⟨rfl, rfl⟩
theorem until_any (s : Bs) (i : Nat) (stop : UInt8) (hi : i ≤ s.length) (hs : s.length ≤ 4096) : Calls Tryz.prog 90 #[sv s, .int .i64 i, .int .u8 stop.toNat] w fun e w' => e = .returned (.int .i64 ((i + span (fun x => x != stop && x != 10) (s.drop i) : Nat) : Int)) ∧ w' = w := by
  obtain ⟨p, Hp⟩ : ∃ p : UInt8 → Bool, Hid ((fun x => x != stop && x != 10) = p) := ⟨_, rfl⟩
  have hp : ∀ c, p c = (decide (c.toNat ≠ stop.toNat) && decide (c.toNat ≠ 10)) := by
    intro c
    rw [← Hp.out]
    have e1 : ∀ d : UInt8, (c != d) = decide (c.toNat ≠ d.toNat) := fun d => by
      by_cases h : c = d
      · subst h; simp
      · have : c.toNat ≠ d.toNat := fun e => h (UInt8.toNat_inj.1 e)
        simp [h, this]
    simp only [e1]
    rfl
  rw [Hp.out]
  obtain ⟨st, HST⟩ : ∃ st, Hid (stop.toNat = st) := ⟨_, rfl⟩
  rw [HST.out] at hp ⊢
  obtain ⟨R, HR⟩ : ∃ R, Hid (span p (s.drop i) = R) := ⟨_, rfl⟩
  rw [HR.out]
  have hsz : (⟨s.toArray⟩ : ByteArray).size = s.length := by simp [ByteArray.size]
  have HP : Hid (∀ c, p c = (decide (c.toNat ≠ st) && decide (c.toNat ≠ 10))) := hp
  clear hp
  go_enter Tryz.func90, Tryz.ntmps90
  go_wp2_with fail
  go_loopw [1] (fun a wr => ∃ (k : Nat), i + k ≤ s.length ∧ a = .int .i64 ((i + k : Nat) : Int) ∧ span p (s.drop i) = k + span p (s.drop (i + k)) ∧ wr = w) (fun a _ => s.length - (intOf a).toNat)
  case atStart => exact ⟨0, hi, rfl, by simp, rfl⟩
  case round =>
    obtain ⟨k, hk, rfl, hR, rfl⟩ := hrel
    by_cases hlt : i + k < s.length
    · obtain ⟨c, hc⟩ : ∃ c, s[i + k]? = some c := ⟨s[i + k]'hlt, by simp⟩
      obtain ⟨sp1, sp2⟩ := span_drop hR hc
      have hix := run_index_str s (i + k) _ rfl hc
      have hpc := HP.out c
      obtain ⟨K, HK⟩ : ∃ K, Hid (i + k = K) := ⟨_, rfl⟩
      obtain ⟨N, HN⟩ : ∃ N, Hid (s.length = N) := ⟨_, rfl⟩
      obtain ⟨cn, HCN⟩ : ∃ cn, Hid (c.toNat = cn) := ⟨_, rfl⟩
      rw [HK.out, HCN.out] at hix
      rw [HCN.out] at hpc
      rw [HK.out] at hlt ⊢
      rw [HN.out] at hlt hs hsz
      have hsz2 : s.toArray.size = N := hsz
      have SP : Hid ((p c = true → span p (s.drop i) = (k + 1) + span p (s.drop (i + (k + 1)))) ∧ (p c = false → span p (s.drop i) = k)) := ⟨sp1, sp2⟩
      clear sp1 sp2 hR hc
      by_cases h1 : cn = st
      · have hW : p c = false := by rw [hpc]; simp [h1]
        have b1 : ((cn : Int) == (st : Int)) = true := by simp [h1]
        clear hpc
        subst h1
        go_wp2_with fail
        go_ret
        refine ⟨?_, rfl⟩
        have e1 := SP.out.2 hW
        have e2 := HR.out
        have e3 := HK.out
        rw [show K = i + R by omega]
        rfl
      · have b1 : ((cn : Int) == (st : Int)) = false := by simp; omega
        have b1n : ((cn : Int) != (st : Int)) = true := by simp; omega
        by_cases h2 : cn = 10
        · have hW : p c = false := by rw [hpc]; simp [h2]
          clear hpc
          subst h2
          go_wp2_with fail
          go_ret
          refine ⟨?_, rfl⟩
          have e1 := SP.out.2 hW
          have e2 := HR.out
          have e3 := HK.out
          rw [show K = i + R by omega]
          rfl
        · have hW : p c = true := by rw [hpc]; simp [h1, h2]
          have b2 : ((cn : Int) == 10) = false := by simp; omega
          have b2n : ((cn : Int) != 10) = true := by simp; omega
          clear hpc
          go_wp2_with fail
          refine ⟨⟨k + 1, by rw [HN.out]; have := HK.out; omega, by have := HK.out; congr 1; omega, SP.out.1 hW, trivial⟩, by rw [HN.out]; simp [intOf]; omega⟩
    · have hend := span_end hR (by omega)
      obtain ⟨K, HK⟩ : ∃ K, Hid (i + k = K) := ⟨_, rfl⟩
      obtain ⟨N, HN⟩ : ∃ N, Hid (s.length = N) := ⟨_, rfl⟩
      rw [HK.out] at hlt ⊢
      rw [HN.out] at hlt hs hsz
      have hsz2 : s.toArray.size = N := hsz
      have SP : Hid (span p (s.drop i) = k) := hend
      clear hend hR
      go_wp2_with fail
      go_ret
      refine ⟨?_, rfl⟩
      have e1 := SP.out
      have e2 := HR.out
      have e3 := HK.out
      rw [show K = i + R by omega]
      rfl
end
end Go.Proofs.Qxb6500574aGreatDoor
