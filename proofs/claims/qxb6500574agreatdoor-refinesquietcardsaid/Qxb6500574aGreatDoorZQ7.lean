/-
  THE WALKS of syntaxm: power; what the tokens of a text are. 
-/
import Derived.Test.Qxb6500574aGreatDoorZQ3
import Derived.Test.Qxb6500574aGreatDoorWLx7
namespace Go.Proofs.Qxb6500574aGreatDoor
open Go Go.RowKit
set_option linter.unusedVariables false
set_option linter.unusedSimpArgs false
/-- at i stands p D or p - D -/
abbrev powP (s : Bs) (i : Nat) : Prop := s[i]? = some 112 ∧ ((s[i + 1]? = some 45 ∧ headDig (s.drop (i + 2)) = true) ∨ (s[i + 1]? ≠ some 45 ∧ headDig (s.drop (i + 1)) = true))
theorem hd_some {s : Bs} {i : Nat} {c : UInt8} (h : s[i]? = some c) : headDig (s.drop i) = isDig c := by rw [drop_at h]; rfl
theorem hd_none {s : Bs} {i : Nat} (h : s.length ≤ i) : headDig (s.drop i) = false := by rw [List.drop_eq_nil_of_le h]; rfl
/-- the length of a number -/
theorem numLen_dot {s : Bs} {E d : Nat} (hd : span isDig (s.drop E) = d) (h : s[E + d]? = some 46) (h1 : headDig (s.drop (E + d + 1)) = true) : numLen (s.drop E) = d + 1 + span isDig (s.drop (E + d + 1)) := by
  unfold numLen
  dsimp only
  rw [hd, List.drop_drop, drop_at h]
  dsimp only
  rw [if_neg (by simp)]
  cases hq : s.drop (E + d + 1) with
  | nil => rw [hq] at h1; cases h1
  | cons x y =>
    rw [hq] at h1
    have h1 : isDig x = true := h1
    dsimp only
    rw [if_pos h1]
theorem numLen_pow {s : Bs} {E d : Nat} (hd : span isDig (s.drop E) = d) (h : powP s (E + d)) : numLen (s.drop E) = d + 2 + span isDig (s.drop (E + d + 2)) := by
  obtain ⟨h0, h1⟩ := h
  unfold numLen
  dsimp only
  rw [hd, List.drop_drop, drop_at h0]
  dsimp only
  rw [if_neg (by simp)]
  cases hq : s.drop (E + d + 1) with
  | nil =>
    exfalso
    have hl : s.length ≤ E + d + 1 := List.drop_eq_nil_iff.1 hq
    rcases h1 with h1 | h1
    · rw [List.getElem?_eq_none hl] at h1; cases h1.1
    · rw [hd_none hl] at h1; cases h1.2
  | cons x y =>
    have hx : s[E + d + 1]? = some x := by
      have := congrArg List.head? hq
      rw [List.head?_drop] at this
      exact this
    have hy : s.drop (E + d + 2) = y := by
      have := congrArg List.tail hq
      rw [List.tail_drop] at this
      exact this
    dsimp only
    rcases h1 with h1 | h1
    · have hx45 : x = 45 := by rw [hx] at h1; exact Option.some.inj h1.1
      rw [hy] at h1
      rw [if_neg (by rw [hx45]; decide), if_pos ⟨rfl, hx45, h1.2⟩, hy]
    · rw [hd_some hx] at h1
      rw [if_pos h1.2, hy, span_cons, if_pos h1.2]
      omega
theorem numLen_no {s : Bs} {E d : Nat} (hd : span isDig (s.drop E) = d) (h : ¬ (s[E + d]? = some 46 ∧ headDig (s.drop (E + d + 1)) = true)) (h2 : ¬ powP s (E + d)) : numLen (s.drop E) = d := by
  unfold numLen
  dsimp only
  rw [hd, List.drop_drop]
  cases hq : s.drop (E + d) with
  | nil => rfl
  | cons c q =>
    have hc : s[E + d]? = some c := by
      have := congrArg List.head? hq
      rw [List.head?_drop] at this
      exact this
    have hq2 : s.drop (E + d + 1) = q := by
      have := congrArg List.tail hq
      rw [List.tail_drop] at this
      exact this
    dsimp only
    by_cases hp : c ≠ 46 ∧ c ≠ 112
    · rw [if_pos hp]
    rw [if_neg hp]
    cases hr : q with
    | nil => rfl
    | cons x y =>
      rw [hr] at hq2
      have hx : s[E + d + 1]? = some x := by
        have := congrArg List.head? hq2
        rw [List.head?_drop] at this
        exact this
      have hy : s.drop (E + d + 2) = y := by
        have := congrArg List.tail hq2
        rw [List.tail_drop] at this
        exact this
      dsimp only
      have nd : isDig x = true → False := fun hx1 => by
        by_cases c46 : c = 46
        · exact h ⟨by rw [hc, c46], by rw [hd_some hx]; exact hx1⟩
        · have c112 : c = 112 := Decidable.byContradiction fun z => hp ⟨c46, z⟩
          refine h2 ⟨by rw [hc, c112], .inr ⟨?_, by rw [hd_some hx]; exact hx1⟩⟩
          rw [hx]
          intro e
          have : x = 45 := Option.some.inj e
          rw [this] at hx1
          revert hx1
          decide
      rw [if_neg (fun z => nd z), if_neg]
      rintro ⟨z1, z2, z3⟩
      exact h2 ⟨by rw [hc, z1], .inl ⟨by rw [hx, z2], by rw [hy]; exact z3⟩⟩
theorem kw_sym {x : Bs} (h : keywordN x ≠ 2) : 5 ≤ keywordN x ∧ symS (keywordN x) = x := by
  unfold keywordN at h ⊢
  cases hi : idx keywordL x with
  | none => rw [hi] at h; exact absurd rfl h
  | some i =>
    dsimp only
    refine ⟨by omega, ?_⟩
    have hl := idx_lt hi
    have hl19 : i < 19 := hl
    unfold symS
    rw [if_pos (by omega), Nat.add_sub_cancel_left]
    unfold idx at hi
    rw [List.findIdx?_eq_some_iff_getElem] at hi
    obtain ⟨h1, h2, _⟩ := hi
    rw [List.getD_eq_getElem?_getD, List.getElem?_eq_getElem h1]
    simpa using h2
section
variable {w : World}
set_option maxRecDepth 100000
set_option maxHeartbeats 600000
theorem power_z (s : Bs) (i : Nat) (hi : i ≤ s.length) (hs : s.length ≤ 4096) {i' : Int} (he : i' = i) : Calls Tryz.prog 182 #[sv s, .int .i64 i'] w fun e w' => e = .returned (.bool (decide (powP s i))) ∧ w' = w := by
  subst he
  have hsz : (⟨s.toArray⟩ : ByteArray).size = s.length := by simp [ByteArray.size]
  obtain ⟨b, HB⟩ : ∃ b, Hid (decide (powP s i) = b) := ⟨_, rfl⟩
  rw [HB.out]
  obtain ⟨N, HN⟩ : ∃ N, Hid (s.length = N) := ⟨_, rfl⟩
  rw [HN.out] at hi hs hsz
  have hsz2 : s.toArray.size = N := hsz
  by_cases h1 : i + 1 < N
  · obtain ⟨c, hc⟩ : ∃ c, s[i]? = some c := ⟨s[i]'(by rw [HN.out]; omega), by simp⟩
    obtain ⟨c1, hc1⟩ : ∃ c, s[i + 1]? = some c := ⟨s[i + 1]'(by rw [HN.out]; omega), by simp⟩
    have x0 := fun w => run_index_str s i i rfl hc w
    have x1 := fun w => run_index_str s (i + 1) ((i : Int) + 1) (by omega) hc1 w
    obtain ⟨n0, H0⟩ : ∃ n, Hid (c.toNat = n) := ⟨_, rfl⟩
    obtain ⟨n1, H1⟩ : ∃ n, Hid (c1.toNat = n) := ⟨_, rfl⟩
    rw [H0.out] at x0
    rw [H1.out] at x1
    by_cases hp : c = 112
    · have e0 : n0 = 112 := by rw [← H0.out, hp]; rfl
      subst e0
      by_cases hm : c1 = 45
      · have e1 : n1 = 45 := by rw [← H1.out, hm]; rfl
        subst e1
        by_cases h2 : i + 2 < N
        · obtain ⟨c2, hc2⟩ : ∃ c, s[i + 2]? = some c := ⟨s[i + 2]'(by rw [HN.out]; omega), by simp⟩
          have x2 := fun w => run_index_str s (i + 2) ((i : Int) + 2) (by omega) hc2 w
          obtain ⟨n2, H2⟩ : ∃ n, Hid (c2.toNat = n) := ⟨_, rfl⟩
          rw [H2.out] at x2
          have hb : b = (decide (48 ≤ n2) && decide (n2 ≤ 57)) := by
            rw [← HB.out, ← H2.out, ← isDig_nat]
            by_cases hd : isDig c2 = true
            · rw [hd, decide_eq_true ⟨by rw [hc, hp], .inl ⟨by rw [hc1, hm], by rw [hd_some hc2]; exact hd⟩⟩]
            · rw [decide_eq_false]
              · simpa using hd
              · rintro ⟨_, z | z⟩
                · rw [hd_some hc2] at z; exact hd z.2
                · exact z.1 (by rw [hc1, hm])
          clear HB hc hc1 hc2 hp hm H0 H1 H2 HN
          by_cases g1 : 48 ≤ n2
          · by_cases g2 : n2 ≤ 57
            · have hv : b = true := by rw [hb]; simp [g1, g2]
              subst hv
              clear hb
              go_enter Tryz.func182, Tryz.ntmps182
              go_wp2_with fail
              go_ret
              first | exact ⟨rfl, rfl⟩ | exact ⟨by simp <;> omega, rfl⟩
            · have hv : b = false := by rw [hb]; simp [g1, g2]
              subst hv
              clear hb
              go_enter Tryz.func182, Tryz.ntmps182
              go_wp2_with fail
              go_ret
              first | exact ⟨rfl, rfl⟩ | exact ⟨by simp <;> omega, rfl⟩
          · have hv : b = false := by rw [hb]; simp [g1]
            subst hv
            clear hb
            go_enter Tryz.func182, Tryz.ntmps182
            go_wp2_with fail
            go_ret
            first | exact ⟨rfl, rfl⟩ | exact ⟨by simp <;> omega, rfl⟩
        · have hb : b = false := by
            rw [← HB.out, decide_eq_false]
            rintro ⟨_, z | z⟩
            · rw [hd_none (by rw [HN.out]; omega)] at z; cases z.2
            · exact z.1 (by rw [hc1, hm])
          clear HB hc hc1 hp hm H0 H1 HN
          subst hb
          go_enter Tryz.func182, Tryz.ntmps182
          go_wp2_with fail
          go_ret
          first | exact ⟨rfl, rfl⟩ | exact ⟨by simp <;> omega, rfl⟩
      · have b45 : ((n1 : Int) == 45) = false := by
          rw [beq_eq_false_iff_ne]
          intro z
          exact hm (UInt8.toNat_inj.1 (H1.out.trans (by have : (45 : UInt8).toNat = 45 := rfl; omega)))
        have hb : b = (decide (48 ≤ n1) && decide (n1 ≤ 57)) := by
          rw [← HB.out, ← H1.out, ← isDig_nat]
          by_cases hd : isDig c1 = true
          · rw [hd, decide_eq_true ⟨by rw [hc, hp], .inr ⟨by rw [hc1]; exact fun z => hm (Option.some.inj z), by rw [hd_some hc1]; exact hd⟩⟩]
          · rw [decide_eq_false]
            · simpa using hd
            · rintro ⟨_, z | z⟩
              · rw [hc1] at z; exact hm (Option.some.inj z.1)
              · rw [hd_some hc1] at z; exact hd z.2
        clear HB hc hc1 hp hm H0 H1 HN
        by_cases g1 : 48 ≤ n1
        · by_cases g2 : n1 ≤ 57
          · have hv : b = true := by rw [hb]; simp [g1, g2]
            subst hv
            clear hb
            go_enter Tryz.func182, Tryz.ntmps182
            go_wp2_with fail
            go_ret
            first | exact ⟨rfl, rfl⟩ | exact ⟨by simp <;> omega, rfl⟩
          · have hv : b = false := by rw [hb]; simp [g1, g2]
            subst hv
            clear hb
            go_enter Tryz.func182, Tryz.ntmps182
            go_wp2_with fail
            go_ret
            first | exact ⟨rfl, rfl⟩ | exact ⟨by simp <;> omega, rfl⟩
        · have hv : b = false := by rw [hb]; simp [g1]
          subst hv
          clear hb
          go_enter Tryz.func182, Tryz.ntmps182
          go_wp2_with fail
          go_ret
          first | exact ⟨rfl, rfl⟩ | exact ⟨by simp <;> omega, rfl⟩
    · have b112 : ((n0 : Int) != 112) = true := by
        rw [bne_iff_ne]
        intro z
        exact hp (UInt8.toNat_inj.1 (H0.out.trans (by have : (112 : UInt8).toNat = 112 := rfl; omega)))
      have hb : b = false := by
        rw [← HB.out, decide_eq_false]
        rintro ⟨z, _⟩
        rw [hc] at z
        exact hp (Option.some.inj z)
      clear HB hc hc1 hp H0 H1 HN
      subst hb
      go_enter Tryz.func182, Tryz.ntmps182
      go_wp2_with fail
      go_ret
      first | exact ⟨rfl, rfl⟩ | exact ⟨by simp <;> omega, rfl⟩
  · have hb : b = false := by
      rw [← HB.out, decide_eq_false]
      rintro ⟨_, z | z⟩
      · rw [List.getElem?_eq_none (by rw [HN.out]; omega)] at z; cases z.1
      · rw [hd_none (by rw [HN.out]; omega)] at z; cases z.2
    clear HB HN
    subst hb
    go_enter Tryz.func182, Tryz.ntmps182
    go_wp2_with fail
    go_ret
    first | exact ⟨rfl, rfl⟩ | exact ⟨by simp <;> omega, rfl⟩
end
end Go.Proofs.Qxb6500574aGreatDoor
