/-
  THE WALKS of syntaxm: digit, word, letter, keyword, power.
-/
import Derived.Test.Qxb6500574aGreatDoorWLx2
import Derived.Test.Qxb6500574aGreatDoorZP2
namespace Go.Proofs.Qxb6500574aGreatDoor
open Go Go.RowKit
set_option linter.unusedVariables false
set_option linter.unusedSimpArgs false
section
variable {w : World}
set_option maxRecDepth 100000
set_option maxHeartbeats 600000
theorem digit_z (c : UInt8) : Calls Tryz.prog 181 #[.int .u8 c.toNat] w fun e w' => e = .returned (.bool (isDig c)) ∧ w' = w := by
  rw [isDig_nat]
  generalize c.toNat = n
  go_enter Tryz.func181, Tryz.ntmps181
  by_cases h1 : 48 ≤ n
  · by_cases h2 : n ≤ 57
    · go_wp2_with fail
      go_ret
      exact ⟨by simp [h1, h2] <;> omega, rfl⟩
    · go_wp2_with fail
      go_ret
      exact ⟨by simp [h1, h2] <;> omega, rfl⟩
  · go_wp2_with fail
    go_ret
    exact ⟨by simp [h1] <;> omega, rfl⟩
theorem word_z (c : UInt8) : Calls Tryz.prog 179 #[.int .u8 c.toNat] w fun e w' => e = .returned (.bool (isWrd c)) ∧ w' = w := by
  rw [isWrd_nat]
  generalize c.toNat = n
  go_enter Tryz.func179, Tryz.ntmps179
  by_cases h1 : 97 ≤ n
  · by_cases h2 : n ≤ 122
    · go_wp2_with fail
      go_ret
      exact ⟨by simp [h1, h2] <;> omega, rfl⟩
    · have h3 : 65 ≤ n := by omega
      have h4 : ¬ n ≤ 90 := by omega
      have h5 : ¬ n = 95 := by omega
      have h6 : 48 ≤ n := by omega
      have h7 : ¬ n ≤ 57 := by omega
      go_wp2_with fail
      go_ret
      exact ⟨by simp [h1, h2, h3, h4, h5, h6, h7] <;> omega, rfl⟩
  · by_cases h3 : 65 ≤ n
    · have h6 : 48 ≤ n := by omega
      have h7 : ¬ n ≤ 57 := by omega
      by_cases h4 : n ≤ 90
      · go_wp2_with fail
        go_ret
        exact ⟨by simp [h1, h3, h4] <;> omega, rfl⟩
      · by_cases h5 : n = 95
        · subst h5
          go_wp2_with fail
          go_ret
          exact ⟨by simp <;> omega, rfl⟩
        · have h5i : ((n : Int) == 95) = false := by simp; omega
          go_wp2_with fail
          go_ret
          exact ⟨by simp [h1, h3, h4, h5, h6, h7] <;> omega, rfl⟩
    · have h5 : ¬ n = 95 := by omega
      have h5i : ((n : Int) == 95) = false := by simp; omega
      by_cases h6 : 48 ≤ n
      · by_cases h7 : n ≤ 57
        · go_wp2_with fail
          go_ret
          exact ⟨by simp [h1, h3, h5, h6, h7] <;> omega, rfl⟩
        · go_wp2_with fail
          go_ret
          exact ⟨by simp [h1, h3, h5, h6, h7] <;> omega, rfl⟩
      · go_wp2_with fail
        go_ret
        exact ⟨by simp [h1, h3, h5, h6] <;> omega, rfl⟩
theorem letter_z (c : UInt8) : Calls Tryz.prog 178 #[.int .u8 c.toNat] w fun e w' => e = .returned (.bool (isLet c)) ∧ w' = w := by
  rw [isLet_nat]
  generalize c.toNat = n
  go_enter Tryz.func178, Tryz.ntmps178
  by_cases h1 : 97 ≤ n
  · by_cases h2 : n ≤ 122
    · go_wp2_with fail
      go_ret
      exact ⟨by simp [h1, h2] <;> omega, rfl⟩
    · have h3 : 65 ≤ n := by omega
      have h4 : ¬ n ≤ 90 := by omega
      have h5 : ¬ n = 95 := by omega
      have h5i : ((n : Int) == 95) = false := by simp; omega
      go_wp2_with fail
      go_ret
      exact ⟨by simp [h1, h2, h3, h4, h5] <;> omega, rfl⟩
  · by_cases h3 : 65 ≤ n
    · by_cases h4 : n ≤ 90
      · go_wp2_with fail
        go_ret
        exact ⟨by simp [h1, h3, h4] <;> omega, rfl⟩
      · by_cases h5 : n = 95
        · subst h5
          go_wp2_with fail
          go_ret
          exact ⟨by simp <;> omega, rfl⟩
        · have h5i : ((n : Int) == 95) = false := by simp; omega
          go_wp2_with fail
          go_ret
          exact ⟨by simp [h1, h3, h4, h5] <;> omega, rfl⟩
    · have h5 : ¬ n = 95 := by omega
      have h5i : ((n : Int) == 95) = false := by simp; omega
      go_wp2_with fail
      go_ret
      exact ⟨by simp [h1, h3, h5] <;> omega, rfl⟩
theorem keyword_z (s : Bs) : Calls Tryz.prog 180 #[sv s] w fun e w' => e = .returned (.bool (keywordN s != 2)) ∧ w' = w := by
  by_cases h0 : s = [97, 110, 100]
  · subst h0
    go_enter Tryz.func180, Tryz.ntmps180
    go_wp2_with fail
    go_ret
    exact ⟨by rfl, rfl⟩
  have b0 : (s == [97, 110, 100]) = false := by simpa using h0
  by_cases h1 : s = [98, 114, 101, 97, 107]
  · subst h1
    go_enter Tryz.func180, Tryz.ntmps180
    go_wp2_with fail
    go_ret
    exact ⟨by rfl, rfl⟩
  have b1 : (s == [98, 114, 101, 97, 107]) = false := by simpa using h1
  by_cases h2 : s = [100, 111]
  · subst h2
    go_enter Tryz.func180, Tryz.ntmps180
    go_wp2_with fail
    go_ret
    exact ⟨by rfl, rfl⟩
  have b2 : (s == [100, 111]) = false := by simpa using h2
  by_cases h3 : s = [101, 108, 115, 101]
  · subst h3
    go_enter Tryz.func180, Tryz.ntmps180
    go_wp2_with fail
    go_ret
    exact ⟨by rfl, rfl⟩
  have b3 : (s == [101, 108, 115, 101]) = false := by simpa using h3
  by_cases h4 : s = [101, 108, 115, 101, 105, 102]
  · subst h4
    go_enter Tryz.func180, Tryz.ntmps180
    go_wp2_with fail
    go_ret
    exact ⟨by rfl, rfl⟩
  have b4 : (s == [101, 108, 115, 101, 105, 102]) = false := by simpa using h4
  by_cases h5 : s = [101, 110, 100]
  · subst h5
    go_enter Tryz.func180, Tryz.ntmps180
    go_wp2_with fail
    go_ret
    exact ⟨by rfl, rfl⟩
  have b5 : (s == [101, 110, 100]) = false := by simpa using h5
  by_cases h6 : s = [102, 97, 108, 115, 101]
  · subst h6
    go_enter Tryz.func180, Tryz.ntmps180
    go_wp2_with fail
    go_ret
    exact ⟨by rfl, rfl⟩
  have b6 : (s == [102, 97, 108, 115, 101]) = false := by simpa using h6
  by_cases h7 : s = [102, 111, 114]
  · subst h7
    go_enter Tryz.func180, Tryz.ntmps180
    go_wp2_with fail
    go_ret
    exact ⟨by rfl, rfl⟩
  have b7 : (s == [102, 111, 114]) = false := by simpa using h7
  by_cases h8 : s = [102, 117, 110, 99, 116, 105, 111, 110]
  · subst h8
    go_enter Tryz.func180, Tryz.ntmps180
    go_wp2_with fail
    go_ret
    exact ⟨by rfl, rfl⟩
  have b8 : (s == [102, 117, 110, 99, 116, 105, 111, 110]) = false := by simpa using h8
  by_cases h9 : s = [105, 102]
  · subst h9
    go_enter Tryz.func180, Tryz.ntmps180
    go_wp2_with fail
    go_ret
    exact ⟨by rfl, rfl⟩
  have b9 : (s == [105, 102]) = false := by simpa using h9
  by_cases h10 : s = [105, 110]
  · subst h10
    go_enter Tryz.func180, Tryz.ntmps180
    go_wp2_with fail
    go_ret
    exact ⟨by rfl, rfl⟩
  have b10 : (s == [105, 110]) = false := by simpa using h10
  by_cases h11 : s = [108, 111, 99, 97, 108]
  · subst h11
    go_enter Tryz.func180, Tryz.ntmps180
    go_wp2_with fail
    go_ret
    exact ⟨by rfl, rfl⟩
  have b11 : (s == [108, 111, 99, 97, 108]) = false := by simpa using h11
  by_cases h12 : s = [110, 105, 108]
  · subst h12
    go_enter Tryz.func180, Tryz.ntmps180
    go_wp2_with fail
    go_ret
    exact ⟨by rfl, rfl⟩
  have b12 : (s == [110, 105, 108]) = false := by simpa using h12
  by_cases h13 : s = [110, 111, 116]
  · subst h13
    go_enter Tryz.func180, Tryz.ntmps180
    go_wp2_with fail
    go_ret
    exact ⟨by rfl, rfl⟩
  have b13 : (s == [110, 111, 116]) = false := by simpa using h13
  by_cases h14 : s = [111, 114]
  · subst h14
    go_enter Tryz.func180, Tryz.ntmps180
    go_wp2_with fail
    go_ret
    exact ⟨by rfl, rfl⟩
  have b14 : (s == [111, 114]) = false := by simpa using h14
  by_cases h15 : s = [114, 101, 116, 117, 114, 110]
  · subst h15
    go_enter Tryz.func180, Tryz.ntmps180
    go_wp2_with fail
    go_ret
    exact ⟨by rfl, rfl⟩
  have b15 : (s == [114, 101, 116, 117, 114, 110]) = false := by simpa using h15
  by_cases h16 : s = [116, 104, 101, 110]
  · subst h16
    go_enter Tryz.func180, Tryz.ntmps180
    go_wp2_with fail
    go_ret
    exact ⟨by rfl, rfl⟩
  have b16 : (s == [116, 104, 101, 110]) = false := by simpa using h16
  by_cases h17 : s = [116, 114, 117, 101]
  · subst h17
    go_enter Tryz.func180, Tryz.ntmps180
    go_wp2_with fail
    go_ret
    exact ⟨by rfl, rfl⟩
  have b17 : (s == [116, 114, 117, 101]) = false := by simpa using h17
  by_cases h18 : s = [119, 104, 105, 108, 101]
  · subst h18
    go_enter Tryz.func180, Tryz.ntmps180
    go_wp2_with fail
    go_ret
    exact ⟨by rfl, rfl⟩
  have b18 : (s == [119, 104, 105, 108, 101]) = false := by simpa using h18
  have hz : keywordN s = 2 := by
    have : idx keywordL s = none := by
      unfold idx
      rw [List.findIdx?_eq_none_iff]
      intro x hx
      unfold keywordL at hx
      simp only [List.mem_cons, List.not_mem_nil, or_false] at hx
      rcases hx with rfl | rfl | rfl | rfl | rfl | rfl | rfl | rfl | rfl | rfl | rfl | rfl | rfl | rfl | rfl | rfl | rfl | rfl | rfl
      all_goals
        rw [beq_eq_false_iff_ne]
        intro e
        subst e
        simp at *
    unfold keywordN
    rw [this]
  rw [hz]
  clear h0 h1 h2 h3 h4 h5 h6 h7 h8 h9 h10 h11 h12 h13 h14 h15 h16 h17 h18 hz
  go_enter Tryz.func180, Tryz.ntmps180
  go_wp2_with fail
  go_ret
  exact ⟨by rfl, rfl⟩
end
end Go.Proofs.Qxb6500574aGreatDoor
