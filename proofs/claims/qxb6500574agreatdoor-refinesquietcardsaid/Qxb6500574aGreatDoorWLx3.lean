/-
  THE WALK of the parser layer: number, keyword, sign.
-/
import Derived.Test.Qxb6500574aGreatDoorWLx2
namespace Go.Proofs.Qxb6500574aGreatDoor
open Go Go.RowKit
set_option linter.unusedVariables false
set_option linter.unusedSimpArgs false
/-- a package-level list of texts -/
structure StrTab (w : World) (g : Nat) (l : List Bs) : Prop where
  ex : ∃ b o c, w.cell? ⟨g, 0, none⟩ = some (.slice (some ⟨b, o, none⟩) l.length c) ∧ g < w.heap.size ∧ b < w.heap.size ∧ ∀ i x, l[i]? = some x → w.cell? ⟨b, o + i, none⟩ = some (sv x)
theorem idx_some {l : List Bs} {t : Bs} {k : Nat} (h : l[k]? = some t) (hn : ∀ j, j < k → l[j]? ≠ some t) : idx l t = some k := by
  unfold idx
  rw [List.findIdx?_eq_some_iff_getElem]
  obtain ⟨h1, h2⟩ := List.getElem?_eq_some_iff.1 h
  refine ⟨h1, by simp [h2], fun j hj => ?_⟩
  have := hn j hj
  rw [List.getElem?_eq_getElem (by omega)] at this
  simpa using this
theorem idx_none {l : List Bs} {t : Bs} (hn : ∀ j, j < l.length → l[j]? ≠ some t) : idx l t = none := by
  unfold idx
  rw [List.findIdx?_eq_none_iff]
  intro x hx
  obtain ⟨j, hj⟩ := List.getElem?_of_mem hx
  have hl := (List.getElem?_eq_some_iff.1 hj).1
  have := hn j hl
  rw [hj] at this
  simpa using this
theorem span_le (p : UInt8 → Bool) (r : Bs) : span p r ≤ r.length := (List.takeWhile_prefix p).length_le
/-- the length of a number, by what stands behind its digits -/
theorem numLen_end {r : Bs} (h : r.length ≤ span isDig r) : numLen r = span isDig r := by
  unfold numLen
  dsimp only
  rw [List.drop_eq_nil_of_le h]
theorem numLen_at {r : Bs} {c : UInt8} (h : r[span isDig r]? = some c) : numLen r = if c ≠ 46 ∧ c ≠ 112 then span isDig r else if headDig (r.drop (span isDig r + 1)) = true then span isDig r + 1 + span isDig (r.drop (span isDig r + 1)) else if headDig (r.drop (span isDig r + 2)) = true ∧ c = 112 ∧ r[span isDig r + 1]? = some 45 then span isDig r + 2 + span isDig (r.drop (span isDig r + 2)) else span isDig r := by
  unfold numLen
  dsimp only
  rw [drop_at h]
  dsimp only
  have h1 : r[span isDig r + 1]? = (r.drop (span isDig r + 1)).head? := by rw [List.head?_drop]
  have h2 : r.drop (span isDig r + 2) = (r.drop (span isDig r + 1)).drop 1 := by rw [List.drop_drop]
  rw [h1, h2]
  generalize r.drop (span isDig r + 1) = q
  split
  · rfl
  · cases q with
    | nil => simp [headDig]
    | cons x y =>
      rw [show headDig (x :: y) = isDig x from rfl]
      simp only [List.drop_succ_cons, List.drop_zero, List.head?_cons, Option.some.injEq]
      split
      · rfl
      · by_cases e : c = 112 ∧ x = 45 ∧ headDig y = true
        · rw [if_pos e, if_pos ⟨e.2.2, e.1, e.2.1⟩]
        · rw [if_neg e, if_neg fun z => e ⟨z.2.1, z.2.2, z.1⟩]
theorem numLen_le {s : Bs} {i N : Nat} (hN : s.length = N) (hi : i ≤ N) : i + numLen (s.drop i) ≤ N := by
  have key : ∀ r : Bs, numLen r ≤ r.length := by
    intro r
    have h0 := span_le isDig r
    by_cases h : span isDig r < r.length
    · obtain ⟨c, hc⟩ : ∃ c, r[span isDig r]? = some c := ⟨r[span isDig r]'h, by simp⟩
      rw [numLen_at hc]
      have h1 := span_le isDig (r.drop (span isDig r + 1))
      have h2 := span_le isDig (r.drop (span isDig r + 2))
      rw [List.length_drop] at h1 h2
      split
      · exact h0
      · split
        · omega
        · split
          · rename_i h3
            have : ¬ r.length ≤ span isDig r + 2 := fun hle => by
              have := h3.1
              rw [List.drop_eq_nil_of_le hle] at this
              cases this
            omega
          · exact h0
    · rw [numLen_end (by omega)]
      exact h0
  have := key (s.drop i)
  rw [List.length_drop, hN] at this
  omega
section
variable {w : World}
set_option maxRecDepth 100000
set_option maxHeartbeats 600000
theorem keyword_any (t : Bs) (h : StrTab w 1 keywordL) : Calls Tryz.prog 93 #[sv t] w fun e w' => e = .returned (.int .i64 (keywordN t)) ∧ w' = w := by
  obtain ⟨b, o, c, h1, h2, h3, h4⟩ := h.ex
  have hlen : keywordL.length = 19 := by decide
  rw [hlen] at h1
  obtain ⟨Q, HQ⟩ : ∃ Q, Hid (keywordN t = Q) := ⟨_, rfl⟩
  rw [HQ.out]
  obtain ⟨l, HLL⟩ : ∃ l, Hid (keywordL = l) := ⟨_, rfl⟩
  rw [HLL.out] at h4 hlen
  have HC : Hid (∀ i x, l[i]? = some x → w.cell? ⟨b, o + i, none⟩ = some (sv x)) := h4
  clear h4 h
  go_enter Tryz.func93, Tryz.ntmps93
  go_wp2_with fail
  go_loopw [7] (fun a wr => ∃ (k : Nat), k ≤ 19 ∧ a = .int .i64 k ∧ (∀ j, j < k → l[j]? ≠ some t) ∧ wr = w) (fun a _ => 19 - (intOf a).toNat)
  case atStart => exact ⟨0, by omega, rfl, (fun j hj => by omega), rfl⟩
  case round =>
    obtain ⟨k, hk, rfl, hR, rfl⟩ := hrel
    have HR : Hid (∀ j, j < k → l[j]? ≠ some t) := hR
    clear hR
    by_cases hlt : k < 19
    · obtain ⟨x, hx⟩ : ∃ x, l[k]? = some x := ⟨l[k]'(by omega), by simp⟩
      have cx := HC.out k x hx
      by_cases he : x = t
      · subst he
        have HF : Hid (Q = 5 + k) := by
          show _ = _
          rw [← HQ.out]
          unfold keywordN
          rw [HLL.out, idx_some hx HR.out]
        clear hx
        go_wp2_with fail
        go_ret
        refine ⟨?_, rfl⟩
        rw [HF.out]
        rfl
      · have HX : Hid (l[k]? ≠ some t) := by
          show _ ≠ _
          rw [hx]
          simpa using he
        have hb : (x == t) = false := by simpa using he
        clear hx
        go_wp2_with fail
        refine ⟨⟨k + 1, by omega, by congr 1, ?_, trivial⟩, by simp [intOf]; omega⟩
        intro j hj
        by_cases e : j = k
        · subst e; exact HX.out
        · exact HR.out j (by omega)
    · have e : k = 19 := by omega
      subst e
      have HF : Hid (Q = 2) := by
        show _ = _
        rw [← HQ.out]
        unfold keywordN
        rw [HLL.out, idx_none (by rw [hlen]; exact HR.out)]
      go_wp2_with fail
      go_ret
      refine ⟨?_, rfl⟩
      rw [HF.out]
      rfl
theorem sign_any (t : Bs) (h : StrTab w 2 signL) : Calls Tryz.prog 96 #[sv t] w fun e w' => e = .returned (.int .i64 (signN t)) ∧ w' = w := by
  obtain ⟨b, o, c, h1, h2, h3, h4⟩ := h.ex
  have hlen : signL.length = 23 := by decide
  rw [hlen] at h1
  obtain ⟨Q, HQ⟩ : ∃ Q, Hid (signN t = Q) := ⟨_, rfl⟩
  rw [HQ.out]
  obtain ⟨l, HLL⟩ : ∃ l, Hid (signL = l) := ⟨_, rfl⟩
  rw [HLL.out] at h4 hlen
  have HC : Hid (∀ i x, l[i]? = some x → w.cell? ⟨b, o + i, none⟩ = some (sv x)) := h4
  clear h4 h
  go_enter Tryz.func96, Tryz.ntmps96
  go_wp2_with fail
  go_loopw [7] (fun a wr => ∃ (k : Nat), k ≤ 23 ∧ a = .int .i64 k ∧ (∀ j, j < k → l[j]? ≠ some t) ∧ wr = w) (fun a _ => 23 - (intOf a).toNat)
  case atStart => exact ⟨0, by omega, rfl, (fun j hj => by omega), rfl⟩
  case round =>
    obtain ⟨k, hk, rfl, hR, rfl⟩ := hrel
    have HR : Hid (∀ j, j < k → l[j]? ≠ some t) := hR
    clear hR
    by_cases hlt : k < 23
    · obtain ⟨x, hx⟩ : ∃ x, l[k]? = some x := ⟨l[k]'(by omega), by simp⟩
      have cx := HC.out k x hx
      by_cases he : x = t
      · subst he
        have HF : Hid (Q = 24 + k) := by
          show _ = _
          rw [← HQ.out]
          unfold signN
          rw [HLL.out, idx_some hx HR.out]
        clear hx
        go_wp2_with fail
        go_ret
        refine ⟨?_, rfl⟩
        rw [HF.out]
        rfl
      · have HX : Hid (l[k]? ≠ some t) := by
          show _ ≠ _
          rw [hx]
          simpa using he
        have hb : (x == t) = false := by simpa using he
        clear hx
        go_wp2_with fail
        refine ⟨⟨k + 1, by omega, by congr 1, ?_, trivial⟩, by simp [intOf]; omega⟩
        intro j hj
        by_cases e : j = k
        · subst e; exact HX.out
        · exact HR.out j (by omega)
    · have e : k = 23 := by omega
      subst e
      have HF : Hid (Q = 1) := by
        show _ = _
        rw [← HQ.out]
        unfold signN
        rw [HLL.out, idx_none (by rw [hlen]; exact HR.out)]
      go_wp2_with fail
      go_ret
      refine ⟨?_, rfl⟩
      rw [HF.out]
      rfl
theorem digits_at (s : Bs) (i : Nat) : s.drop (i + span isDig (s.drop i)) = (s.drop i).drop (span isDig (s.drop i)) := by rw [List.drop_drop]
theorem number_any (s : Bs) (i : Nat) (hi : i ≤ s.length) (hs : s.length ≤ 4096) : Calls Tryz.prog 94 #[sv s, .int .i64 i] w fun e w' => e = .returned (.int .i64 ((i + numLen (s.drop i) : Nat) : Int)) ∧ w' = w := by
  have hsz : (⟨s.toArray⟩ : ByteArray).size = s.length := by simp [ByteArray.size]
  have CALL := digits_any (w := w) s i hi hs
  obtain ⟨d, HD⟩ : ∃ d, Hid (span isDig (s.drop i) = d) := ⟨_, rfl⟩
  rw [HD.out] at CALL
  have hdl : d ≤ s.length - i := by
    rw [← HD.out]
    exact Nat.le_trans (span_le _ _) (by rw [List.length_drop]; omega)
  obtain ⟨R, HR⟩ : ∃ R, Hid (numLen (s.drop i) = R) := ⟨_, rfl⟩
  rw [HR.out]
  obtain ⟨j, HJ⟩ : ∃ j, Hid (i + d = j) := ⟨_, rfl⟩
  rw [HJ.out] at CALL
  have hjn : j ≤ s.length := by have := HJ.out; omega
  by_cases hlt : j < s.length
  · obtain ⟨c, hc⟩ : ∃ c, s[j]? = some c := ⟨s[j]'hlt, by simp⟩
    have hix := run_index_str s j _ rfl hc
    have hat : (s.drop i)[span isDig (s.drop i)]? = some c := by rw [HD.out, List.getElem?_drop, HJ.out]; exact hc
    have hL := numLen_at hat
    rw [HR.out, HD.out] at hL
    have hd1 : (s.drop i).drop (d + 1) = s.drop (j + 1) := by rw [List.drop_drop]; congr 1; have := HJ.out; omega
    have hd2 : (s.drop i).drop (d + 2) = s.drop (j + 2) := by rw [List.drop_drop]; congr 1; have := HJ.out; omega
    have hd3 : (s.drop i)[d + 1]? = s[j + 1]? := by rw [List.getElem?_drop]; congr 1; have := HJ.out; omega
    rw [hd1, hd2, hd3] at hL
    have HL : Hid (R = if c ≠ 46 ∧ c ≠ 112 then d else if headDig (s.drop (j + 1)) = true then d + 1 + span isDig (s.drop (j + 1)) else if headDig (s.drop (j + 2)) = true ∧ c = 112 ∧ s[j + 1]? = some 45 then d + 2 + span isDig (s.drop (j + 2)) else d) := hL
    clear hL hd1 hd2 hd3 hat hc
    have HAS1 := fun W => has_any (w := W) s (j + 1) hs (by omega)
    have HAS2 := fun W => has_any (w := W) s (j + 2) hs (by omega)
    have c46 : (c ≠ 46) ↔ c.toNat ≠ 46 := ⟨fun h e => h (UInt8.toNat_inj.1 e), fun h e => h (by rw [e]; rfl)⟩
    have c112 : (c = 112) ↔ c.toNat = 112 := ⟨fun h => by rw [h]; rfl, fun h => UInt8.toNat_inj.1 h⟩
    obtain ⟨cn, HCN⟩ : ∃ cn, Hid (c.toNat = cn) := ⟨_, rfl⟩
    rw [HCN.out] at hix c46 c112
    obtain ⟨N, HN⟩ : ∃ N, Hid (s.length = N) := ⟨_, rfl⟩
    have DIG1 : Hid (j + 1 ≤ N → ∀ W, Calls Tryz.prog 151 #[sv s, .int .i64 ((j + 1 : Nat) : Int)] W fun e w' => e = .returned (.int .i64 ((j + 1 + span isDig (s.drop (j + 1)) : Nat) : Int)) ∧ w' = W) := fun h W => digits_any (w := W) s (j + 1) (by rw [HN.out]; exact h) hs
    have DIG2 : Hid (j + 2 ≤ N → ∀ W, Calls Tryz.prog 151 #[sv s, .int .i64 ((j + 2 : Nat) : Int)] W fun e w' => e = .returned (.int .i64 ((j + 2 + span isDig (s.drop (j + 2)) : Nat) : Int)) ∧ w' = W) := fun h W => digits_any (w := W) s (j + 2) (by rw [HN.out]; exact h) hs
    rw [HN.out] at hlt hs hsz
    have hsz2 : s.toArray.size = N := hsz
    have X1 : Hid (headDig (s.drop (j + 1)) = true → j + 2 ≤ N) := fun h => by
      rw [← HN.out]
      refine Decidable.byContradiction fun hn => ?_
      rw [List.drop_eq_nil_of_le (by omega)] at h
      cases h
    have X2 : Hid (headDig (s.drop (j + 2)) = true → j + 3 ≤ N) := fun h => by
      rw [← HN.out]
      refine Decidable.byContradiction fun hn => ?_
      rw [List.drop_eq_nil_of_le (by omega)] at h
      cases h
    obtain ⟨b1, HB1⟩ : ∃ b, Hid (headDig (s.drop (j + 1)) = b) := ⟨_, rfl⟩
    obtain ⟨b2, HB2⟩ : ∃ b, Hid (headDig (s.drop (j + 2)) = b) := ⟨_, rfl⟩
    have H1 : Hid (∀ W, Calls Tryz.prog 152 #[sv s, .int .i64 ((j : Int) + 1)] W fun e w' => e = .returned (.bool b1) ∧ w' = W) := by
      show ∀ W, _
      rw [← HB1.out, show (j : Int) + 1 = ((j + 1 : Nat) : Int) by omega]; exact HAS1
    have H2 : Hid (∀ W, Calls Tryz.prog 152 #[sv s, .int .i64 ((j : Int) + 2)] W fun e w' => e = .returned (.bool b2) ∧ w' = W) := by
      show ∀ W, _
      rw [← HB2.out, show (j : Int) + 2 = ((j + 2 : Nat) : Int) by omega]; exact HAS2
    clear HAS1 HAS2
    -- no sign of a number
    by_cases hcc : cn ≠ 46 ∧ cn ≠ 112
    · have e0 : R = d := by rw [HL.out, if_pos ⟨c46.2 hcc.1, fun e => hcc.2 (c112.1 e)⟩]
      have q1 : ((cn : Int) != 46) = true := by simp; omega
      have q2 : ((cn : Int) != 112) = true := by simp; omega
      clear HL c46 c112
      subst e0
      go_enter Tryz.func94, Tryz.ntmps94
      go_wp2_with fail
      refine CALL.mono ?_
      rintro e' w1 ⟨rfl, hw1⟩
      subst hw1
      clear CALL
      go_wp2_with fail
      go_ret
      refine ⟨?_, rfl⟩
      rw [HJ.out]
      rfl
    · have hcd : cn = 46 ∨ cn = 112 := by omega
      have ncc : ¬ (c ≠ 46 ∧ c ≠ 112) := fun z => hcc ⟨c46.1 z.1, fun e => z.2 (c112.2 e)⟩
      have HL2 : Hid (R = if b1 = true then d + 1 + span isDig (s.drop (j + 1)) else if b2 = true ∧ cn = 112 ∧ s[j + 1]? = some 45 then d + 2 + span isDig (s.drop (j + 2)) else d) := by
        show _ = _
        rw [HL.out, if_neg ncc, HB1.out, HB2.out]
        simp only [c112]
      rw [HB1.out] at X1
      rw [HB2.out] at X2
      clear HL c46 c112 ncc hcc HB1 HB2
      -- the three ways, for either sign
      have key : ∀ W, (b1 = true → Calls Tryz.prog 94 #[sv s, .int .i64 i] W fun e w' => e = .returned (.int .i64 ((i + R : Nat) : Int)) ∧ w' = W) := by
        intro W hb1
        subst hb1
        have CALL := digits_any (w := W) s i hi (by rw [HN.out]; exact hs)
        rw [HD.out, HJ.out] at CALL
        have D1 := DIG1.out (by have := X1.out rfl; omega)
        have HL3 : Hid (R = d + 1 + span isDig (s.drop (j + 1))) := by show _ = _; rw [HL2.out, if_pos rfl]
        clear HL2
        obtain ⟨z, HZ⟩ : ∃ z, Hid (span isDig (s.drop (j + 1)) = z) := ⟨_, rfl⟩
        have HD1 : Hid (∀ W, Calls Tryz.prog 151 #[sv s, .int .i64 ((j : Int) + 1)] W fun e w' => e = .returned (.int .i64 ((j + 1 + z : Nat) : Int)) ∧ w' = W) := by
          show ∀ W, _
          rw [← HZ.out, show (j : Int) + 1 = ((j + 1 : Nat) : Int) by omega]; exact D1
        clear D1 DIG1 DIG2
        have FIN : Hid (i + R = j + 1 + z) := by have := HL3.out; have := HZ.out; have := HJ.out; show _ = _; omega
        rcases hcd with rfl | rfl
        · go_enter Tryz.func94, Tryz.ntmps94
          go_wp2_with fail
          refine CALL.mono ?_
          rintro e' w1 ⟨rfl, hw1⟩
          subst hw1
          clear CALL
          go_wp2_with fail
          refine (H1.out _).mono ?_
          rintro e' w2 ⟨rfl, hw2⟩
          subst hw2
          go_wp2_with fail
          refine (HD1.out _).mono ?_
          rintro e' w3 ⟨rfl, hw3⟩
          subst hw3
          go_wp2_with fail
          go_ret
          refine ⟨?_, rfl⟩
          rw [FIN.out]
          rfl
        · go_enter Tryz.func94, Tryz.ntmps94
          go_wp2_with fail
          refine CALL.mono ?_
          rintro e' w1 ⟨rfl, hw1⟩
          subst hw1
          clear CALL
          go_wp2_with fail
          refine (H1.out _).mono ?_
          rintro e' w2 ⟨rfl, hw2⟩
          subst hw2
          go_wp2_with fail
          refine (HD1.out _).mono ?_
          rintro e' w3 ⟨rfl, hw3⟩
          subst hw3
          go_wp2_with fail
          go_ret
          refine ⟨?_, rfl⟩
          rw [FIN.out]
          rfl
      cases b1 with
      | true => exact key _ rfl
      | false =>
        clear key
        have HL3 : Hid (R = if b2 = true ∧ cn = 112 ∧ s[j + 1]? = some 45 then d + 2 + span isDig (s.drop (j + 2)) else d) := by show _ = _; rw [HL2.out, if_neg (by simp)]
        clear HL2 X1 DIG1
        cases b2 with
        | false =>
          have e0 : R = d := by rw [HL3.out, if_neg (by simp)]
          clear HL3
          subst e0
          rcases hcd with rfl | rfl
          · go_enter Tryz.func94, Tryz.ntmps94
            go_wp2_with fail
            refine CALL.mono ?_
            rintro e' w1 ⟨rfl, hw1⟩
            subst hw1
            clear CALL
            go_wp2_with fail
            refine (H1.out _).mono ?_
            rintro e' w2 ⟨rfl, hw2⟩
            subst hw2
            go_wp2_with fail
            refine (H2.out _).mono ?_
            rintro e' w3 ⟨rfl, hw3⟩
            subst hw3
            go_wp2_with fail
            go_ret
            refine ⟨?_, rfl⟩
            rw [HJ.out]
            rfl
          · go_enter Tryz.func94, Tryz.ntmps94
            go_wp2_with fail
            refine CALL.mono ?_
            rintro e' w1 ⟨rfl, hw1⟩
            subst hw1
            clear CALL
            go_wp2_with fail
            refine (H1.out _).mono ?_
            rintro e' w2 ⟨rfl, hw2⟩
            subst hw2
            go_wp2_with fail
            refine (H2.out _).mono ?_
            rintro e' w3 ⟨rfl, hw3⟩
            subst hw3
            go_wp2_with fail
            go_ret
            refine ⟨?_, rfl⟩
            rw [HJ.out]
            rfl
        | true =>
          have h3 := X2.out rfl
          obtain ⟨x, hx⟩ : ∃ x, s[j + 1]? = some x := ⟨s[j + 1]'(by rw [HN.out]; omega), by simp⟩
          have hix2 := run_index_str s (j + 1) ((j : Int) + 1) (by omega) hx
          rcases hcd with rfl | rfl
          · have e0 : R = d := by rw [HL3.out, if_neg (by simp)]
            clear HL3 hx
            subst e0
            go_enter Tryz.func94, Tryz.ntmps94
            go_wp2_with fail
            refine CALL.mono ?_
            rintro e' w1 ⟨rfl, hw1⟩
            subst hw1
            clear CALL
            go_wp2_with fail
            refine (H1.out _).mono ?_
            rintro e' w2 ⟨rfl, hw2⟩
            subst hw2
            go_wp2_with fail
            refine (H2.out _).mono ?_
            rintro e' w3 ⟨rfl, hw3⟩
            subst hw3
            go_wp2_with fail
            go_ret
            refine ⟨?_, rfl⟩
            rw [HJ.out]
            rfl
          · have x45 : (x = 45) ↔ x.toNat = 45 := ⟨fun h => by rw [h]; rfl, fun h => UInt8.toNat_inj.1 h⟩
            by_cases hxx : x = 45
            · have HL4 : Hid (R = d + 2 + span isDig (s.drop (j + 2))) := by show _ = _; rw [HL3.out, if_pos ⟨rfl, rfl, by rw [hx, hxx]⟩]
              have hxn : x.toNat = 45 := x45.1 hxx
              rw [hxn] at hix2
              have D2 := DIG2.out (by omega)
              obtain ⟨z, HZ⟩ : ∃ z, Hid (span isDig (s.drop (j + 2)) = z) := ⟨_, rfl⟩
              have HD2 : Hid (∀ W, Calls Tryz.prog 151 #[sv s, .int .i64 ((j : Int) + 2)] W fun e w' => e = .returned (.int .i64 ((j + 2 + z : Nat) : Int)) ∧ w' = W) := by
                show ∀ W, _
                rw [← HZ.out, show (j : Int) + 2 = ((j + 2 : Nat) : Int) by omega]; exact D2
              have FIN : Hid (i + R = j + 2 + z) := by have := HL4.out; have := HZ.out; have := HJ.out; show _ = _; omega
              clear D2 DIG2 HL3 HL4 hx x45 hxx hxn
              go_enter Tryz.func94, Tryz.ntmps94
              go_wp2_with fail
              refine CALL.mono ?_
              rintro e' w1 ⟨rfl, hw1⟩
              subst hw1
              clear CALL
              go_wp2_with fail
              refine (H1.out _).mono ?_
              rintro e' w2 ⟨rfl, hw2⟩
              subst hw2
              go_wp2_with fail
              refine (H2.out _).mono ?_
              rintro e' w3 ⟨rfl, hw3⟩
              subst hw3
              go_wp2_with fail
              refine (HD2.out _).mono ?_
              rintro e' w4 ⟨rfl, hw4⟩
              subst hw4
              go_wp2_with fail
              go_ret
              refine ⟨?_, rfl⟩
              rw [FIN.out]
              rfl
            · have e0 : R = d := by rw [HL3.out, if_neg fun z => hxx (by have := z.2.2; rw [hx] at this; cases this; rfl)]
              have hxn : ((x.toNat : Int) == 45) = false := by
                have : ¬ x.toNat = 45 := fun e => hxx (x45.2 e)
                simp
                omega
              generalize x.toNat = xn at *
              clear HL3 hx x45 hxx
              subst e0
              go_enter Tryz.func94, Tryz.ntmps94
              go_wp2_with fail
              refine CALL.mono ?_
              rintro e' w1 ⟨rfl, hw1⟩
              subst hw1
              clear CALL
              go_wp2_with fail
              refine (H1.out _).mono ?_
              rintro e' w2 ⟨rfl, hw2⟩
              subst hw2
              go_wp2_with fail
              refine (H2.out _).mono ?_
              rintro e' w3 ⟨rfl, hw3⟩
              subst hw3
              go_wp2_with fail
              go_ret
              refine ⟨?_, rfl⟩
              rw [HJ.out]
              rfl
  · have e0 : R = d := by
      rw [← HR.out, numLen_end (by rw [HD.out, List.length_drop]; have := HJ.out; omega), HD.out]
    obtain ⟨N, HN⟩ : ∃ N, Hid (s.length = N) := ⟨_, rfl⟩
    rw [HN.out] at hlt hs hsz
    have hsz2 : s.toArray.size = N := hsz
    subst e0
    go_enter Tryz.func94, Tryz.ntmps94
    go_wp2_with fail
    refine CALL.mono ?_
    rintro e' w1 ⟨rfl, hw1⟩
    subst hw1
    clear CALL
    go_wp2_with fail
    go_ret
    refine ⟨?_, rfl⟩
    rw [HJ.out]
    rfl
end
end Go.Proofs.Qxb6500574aGreatDoor
