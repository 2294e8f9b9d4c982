/-
  THE WALK of the parser layer: scan: blanks, comments, words.
-/
import Derived.Test.Qxb6500574aGreatDoorWLx6
namespace Go.Proofs.Qxb6500574aGreatDoor
open Go Go.RowKit
set_option linter.unusedVariables false
set_option linter.unusedSimpArgs false
open Go.Lib
theorem run_cut (s : Bs) {lo hi : Int} {i j : Nat} (h0 : lo = i) (h1 : hi = j) (h2 : i ≤ j) (h3 : j ≤ s.length) (w : World) : (Instr.sliceAt 9 (sv s) (some (.int .i64 lo)) (some (.int .i64 hi)) none).run Tryz.prog w = .ok (sv ((s.drop i).take (j - i))) w := by
  subst h0
  subst h1
  have hu : Tryz.prog.underlying 9 = some .string := by kernel_rfl
  have hz : (⟨s.toArray⟩ : ByteArray).size = s.length := by simp [ByteArray.size]
  rw [run_sliceAt_string _ _ _ _ _ _ hu, run_slice_string_if _ _ _ _ _ _ _ hu, if_pos ⟨by omega, by rw [hz]; omega⟩, if_pos ⟨by omega, by omega⟩, ByteArray.extract_mk]
  congr 2
section
set_option maxRecDepth 100000
set_option maxHeartbeats 1000000
variable {w : World}
/-- a blank -/
theorem sw_ws {Q : Exit → Act → World → Prop} {v0 v1 v4 v5 v6 v7 v8 v9 v10 v11 v21 : Value} {a : Act} (H : FrS v0 v1 v4 v5 v6 v7 v8 v9 v10 v11 v21 a) {cn : Nat} (hc : cn = 32 ∨ cn = 9 ∨ cn = 10 ∨ cn = 13) (e8 : v8 = .int .i32 cn)
    (hQ : ∀ a', FrS v0 v1 v4 v5 v6 v7 v8 v9 v10 v11 v21 a' → Q (.exit 1) a' w) : (scanSw Tryz.f60.body).wp Tryz.prog Q a w := by
  obtain ⟨u, rfl⟩ := H.form
  subst e8
  have HQ : Hid (∀ a', FrS v0 v1 v4 v5 v6 v7 (.int .i32 cn) v9 v10 v11 v21 a' → Q (.exit 1) a' w) := hQ
  clear hQ H
  simp only [scanSw, scanP7, scanL, cdR, cdL, cdIn, Tryz.f60, Option.getD_some]
  rcases hc with rfl | rfl | rfl | rfl
  · go_wp2_with fail
    exact HQ.out _ ⟨by kernel_rfl, by kernel_rfl, by kernel_rfl, by kernel_rfl, by kernel_rfl, by kernel_rfl, by kernel_rfl, by kernel_rfl, by kernel_rfl, by kernel_rfl, by kernel_rfl, by kernel_rfl, rfl⟩
  · go_wp2_with fail
    exact HQ.out _ ⟨by kernel_rfl, by kernel_rfl, by kernel_rfl, by kernel_rfl, by kernel_rfl, by kernel_rfl, by kernel_rfl, by kernel_rfl, by kernel_rfl, by kernel_rfl, by kernel_rfl, by kernel_rfl, rfl⟩
  · go_wp2_with fail
    exact HQ.out _ ⟨by kernel_rfl, by kernel_rfl, by kernel_rfl, by kernel_rfl, by kernel_rfl, by kernel_rfl, by kernel_rfl, by kernel_rfl, by kernel_rfl, by kernel_rfl, by kernel_rfl, by kernel_rfl, rfl⟩
  · go_wp2_with fail
    exact HQ.out _ ⟨by kernel_rfl, by kernel_rfl, by kernel_rfl, by kernel_rfl, by kernel_rfl, by kernel_rfl, by kernel_rfl, by kernel_rfl, by kernel_rfl, by kernel_rfl, by kernel_rfl, by kernel_rfl, rfl⟩
/-- a comment -/
theorem sw_com {Q : Exit → Act → World → Prop} {v0 v1 v4 v5 v6 v7 v8 v9 v10 v11 v21 : Value} {a : Act} (H : FrS v0 v1 v4 v5 v6 v7 v8 v9 v10 v11 v21 a) {s : Bs} {i N : Nat} (e1 : v1 = sv s) (e7 : v7 = .int .i64 i) (e8 : v8 = .int .i32 45) (hN : s.length = N) (hs : N ≤ 2048) (h2 : s[i + 1]? = some 45)
    (hQ : ∀ a', FrS v0 v1 v4 v5 (.int .i64 ((i + span (fun x => x != 10) (s.drop i) : Nat) : Int)) v7 v8 v9 v10 v11 v21 a' → Q (.exit 1) a' w) : (scanSw Tryz.f60.body).wp Tryz.prog Q a w := by
  obtain ⟨u, rfl⟩ := H.form
  subst e1
  subst e7
  subst e8
  have hi := (List.getElem?_eq_some_iff.1 h2).1
  rw [hN] at hi
  have hsz : (⟨s.toArray⟩ : ByteArray).size = N := by rw [← hN]; simp [ByteArray.size]
  have hsz2 : s.toArray.size = N := hsz
  have hcut : ∀ w, (Instr.sliceAt 9 (sv s) (some (.int .i64 ((i : Int) + 1))) (some (.int .i64 ((i : Int) + 2))) none).run Tryz.prog w = .ok (sv [45]) w := by
    intro w
    rw [run_cut s (i := i + 1) (j := i + 2) (by omega) (by omega) (by omega) (by omega) w, drop_at h2]
    simp
  have CALL := fun W => until_any (w := W) s i 10 (by omega) (by omega)
  have ep : (fun x : UInt8 => x != 10 && x != 10) = fun x => x != 10 := by funext x; simp
  rw [ep] at CALL
  obtain ⟨L, HL⟩ : ∃ L, Hid (i + span (fun x => x != 10) (s.drop i) = L) := ⟨_, rfl⟩
  rw [HL.out] at CALL hQ
  have HC : Hid (∀ W, Calls Tryz.prog 90 #[sv s, .int .i64 i, .int .u8 10] W fun e w' => e = .returned (.int .i64 (L : Int)) ∧ w' = W) := CALL
  have HQ : Hid (∀ a', FrS v0 (sv s) v4 v5 (.int .i64 (L : Int)) (.int .i64 i) (.int .i32 45) v9 v10 v11 v21 a' → Q (.exit 1) a' w) := hQ
  clear hQ H CALL h2 hN ep
  simp only [scanSw, scanP7, scanL, cdR, cdL, cdIn, Tryz.f60, Option.getD_some]
  go_wp2_with fail
  refine (HC.out _).mono ?_
  rintro e' w1 ⟨rfl, hw1⟩
  subst hw1
  go_wp2_with fail
  exact HQ.out _ ⟨by kernel_rfl, by kernel_rfl, by kernel_rfl, by kernel_rfl, by kernel_rfl, by kernel_rfl, by kernel_rfl, by kernel_rfl, by kernel_rfl, by kernel_rfl, by kernel_rfl, by kernel_rfl, rfl⟩
/-- what keeps the decisions of the switch false ahead of the letters -/
structure NoWs (cn : Nat) (i : Nat) (s : Bs) : Prop where
  ws : cn ≠ 32 ∧ cn ≠ 9 ∧ cn ≠ 10 ∧ cn ≠ 13
  co : ¬ (cn = 45 ∧ s[i + 1]? = some 45)
theorem letB (n : Nat) : ((decide (97 ≤ (n : Int)) && decide ((n : Int) ≤ 122)) || (decide (65 ≤ (n : Int)) && decide ((n : Int) ≤ 90)) || decide ((n : Int) = 95)) = ((decide (97 ≤ n) && decide (n ≤ 122)) || (decide (65 ≤ n) && decide (n ≤ 90)) || decide (n = 95)) := by
  congr 1
  · congr 1
    · congr 1 <;> simp <;> omega
    · congr 1 <;> simp <;> omega
  · simp; omega
/-- a word -/
theorem sw_word {Q : Exit → Act → World → Prop} {v0 v1 v4 v5 v6 v7 v8 v9 v10 v11 v21 : Value} {a : Act} (H : FrS v0 v1 v4 v5 v6 v7 v8 v9 v10 v11 v21 a) {s : Bs} {i N kt : Nat} {c : UInt8} (e1 : v1 = sv s) (e7 : v7 = .int .i64 i) (e8 : v8 = .int .i32 c.toNat) (e9 : v9 = .pointer (some ⟨kt, 0, none⟩)) (hN : s.length = N) (hs : N ≤ 2048) (hc : s[i]? = some c) (hl : isLet c = true) (K : StrTab w 1 keywordL) (hK : ∀ W, Fr (fun k => k = kt) w W → StrTab W 1 keywordL) (ht : Has w kt #[.int .i64 1, .int .i64 i, sv [], .int .u64 0, .int .i64 14] 132)
    (hQ : ∀ a', FrS v0 v1 v4 v5 (.int .i64 ((i + span isWrd (s.drop i) : Nat) : Int)) v7 v8 v9 v10 v11 v21 a' → Q .normal a' (if span isWrd (s.drop i) ≤ 40 then (w.setCell ⟨kt, 2, none⟩ (sv ((s.drop i).take (span isWrd (s.drop i))))).setCell ⟨kt, 0, none⟩ (.int .i64 (keywordN ((s.drop i).take (span isWrd (s.drop i))))) else w)) : (scanSw Tryz.f60.body).wp Tryz.prog Q a w := by
  obtain ⟨u, rfl⟩ := H.form
  subst e1
  subst e7
  subst e8
  subst e9
  have hi := (List.getElem?_eq_some_iff.1 hc).1
  rw [hN] at hi
  have hsz : (⟨s.toArray⟩ : ByteArray).size = N := by rw [← hN]; simp [ByteArray.size]
  have hsz2 : s.toArray.size = N := hsz
  have hln := isLet_nat c
  rw [hl] at hln
  obtain ⟨cn, HCN⟩ : ∃ cn, Hid (c.toNat = cn) := ⟨_, rfl⟩
  rw [HCN.out] at hln hQ ⊢
  have b1 : ((cn : Int) == 32) = false := by simp; intro e; have : cn = 32 := by omega
                                             subst this; simp at hln
  have b2 : ((cn : Int) == 9) = false := by simp; intro e; have : cn = 9 := by omega
                                            subst this; simp at hln
  have b3 : ((cn : Int) == 10) = false := by simp; intro e; have : cn = 10 := by omega
                                             subst this; simp at hln
  have b4 : ((cn : Int) == 13) = false := by simp; intro e; have : cn = 13 := by omega
                                             subst this; simp at hln
  have b5 : ((cn : Int) == 45) = false := by simp; intro e; have : cn = 45 := by omega
                                             subst this; simp at hln
  have LET := fun W => letter_any (w := W) (cn : Int)
  rw [letB, ← hln] at LET
  have WORD := fun W => words_any (w := W) s i (by omega) (by omega)
  have hsp := span_le isWrd (s.drop i)
  rw [List.length_drop, hN] at hsp
  obtain ⟨L, HL⟩ : ∃ L, Hid (span isWrd (s.drop i) = L) := ⟨_, rfl⟩
  rw [HL.out] at WORD hQ hsp
  have HLet : Hid (∀ W, Calls Tryz.prog 91 #[.int .i32 cn] W fun e w' => e = .returned (.bool true) ∧ w' = W) := LET
  have HWord : Hid (∀ W, Calls Tryz.prog 92 #[sv s, .int .i64 i] W fun e w' => e = .returned (.int .i64 ((i + L : Nat) : Int)) ∧ w' = W) := WORD
  have hcut : ∀ w, (Instr.sliceAt 9 (sv s) (some (.int .i64 (i : Int))) (some (.int .i64 ((i + L : Nat) : Int))) none).run Tryz.prog w = .ok (sv ((s.drop i).take L)) w := by
    intro w
    rw [run_cut s (i := i) (j := i + L) rfl rfl (by omega) (by omega) w]
    congr 3
    omega
  have dz0 := ht.frozen 0
  have dz2 := ht.frozen 2
  have d0 := ht.cell 0
  have d2 := ht.cell 2
  have dl := ht.lt
  simp only [List.getElem?_toArray, List.getElem?_cons_succ, List.getElem?_cons_zero] at d0 d2
  obtain ⟨X, HX⟩ : ∃ X, Hid ((s.drop i).take L = X) := ⟨_, rfl⟩
  rw [HX.out] at hcut hQ
  have hp := ht.put 2 (sv X)
  have y0 := hp.cell 0
  have y2 := hp.cell 2
  have yz := hp.frozen 0
  simp only [List.setIfInBounds_toArray, List.set_cons_succ, List.set_cons_zero, List.getElem?_toArray, List.getElem?_cons_succ, List.getElem?_cons_zero] at y0 y2
  have KEY := keyword_any (w := w.setCell ⟨kt, 2, none⟩ (sv X)) X (hK _ (Fr.setCell (S := fun k => k = kt) (Fr.refl _ _) (.inl rfl) _))
  obtain ⟨kk, HKK⟩ : ∃ kk, Hid (keywordN X = kk) := ⟨_, rfl⟩
  rw [HKK.out] at KEY hQ
  have HKey : Hid (Calls Tryz.prog 93 #[sv X] (w.setCell ⟨kt, 2, none⟩ (sv X)) fun e w' => e = .returned (.int .i64 kk) ∧ w' = w.setCell ⟨kt, 2, none⟩ (sv X)) := KEY
  have HQ : Hid (∀ a', FrS v0 (sv s) v4 v5 (.int .i64 ((i + L : Nat) : Int)) (.int .i64 i) (.int .i32 cn) (.pointer (some ⟨kt, 0, none⟩)) v10 v11 v21 a' → Q .normal a' (if L ≤ 40 then (w.setCell ⟨kt, 2, none⟩ (sv X)).setCell ⟨kt, 0, none⟩ (.int .i64 kk) else w)) := hQ
  clear hQ H LET WORD hc hN K hK KEY hp ht hl hln
  obtain ⟨E, HE⟩ : ∃ E : Nat, Hid (i + L = E) := ⟨_, rfl⟩
  rw [HE.out] at hcut HQ HWord
  have hE : E ≤ 2048 := by have := HE.out; omega
  simp only [scanSw, scanP7, scanL, cdR, cdL, cdIn, Tryz.f60, Option.getD_some]
  by_cases h40 : L ≤ 40
  · rw [if_pos h40] at HQ
    have hsub : (E : Int) - (i : Int) ≤ 40 := by have := HE.out; omega
    go_wp2_with fail
    refine (HLet.out _).mono ?_
    rintro e' w1 ⟨rfl, hw1⟩
    subst hw1
    go_wp2_with fail
    refine (HWord.out _).mono ?_
    rintro e' w2 ⟨rfl, hw2⟩
    subst hw2
    go_wp2_with fail
    refine HKey.out.mono ?_
    rintro e' w3 ⟨rfl, hw3⟩
    subst hw3
    go_wp2_with fail
    exact HQ.out _ ⟨by kernel_rfl, by kernel_rfl, by kernel_rfl, by kernel_rfl, by kernel_rfl, by kernel_rfl, by kernel_rfl, by kernel_rfl, by kernel_rfl, by kernel_rfl, by kernel_rfl, by kernel_rfl, rfl⟩
  · rw [if_neg h40] at HQ
    have hsub : ¬ (E : Int) - (i : Int) ≤ 40 := by have := HE.out; omega
    go_wp2_with fail
    refine (HLet.out _).mono ?_
    rintro e' w1 ⟨rfl, hw1⟩
    subst hw1
    go_wp2_with fail
    refine (HWord.out _).mono ?_
    rintro e' w2 ⟨rfl, hw2⟩
    subst hw2
    go_wp2_with fail
    exact HQ.out _ ⟨by kernel_rfl, by kernel_rfl, by kernel_rfl, by kernel_rfl, by kernel_rfl, by kernel_rfl, by kernel_rfl, by kernel_rfl, by kernel_rfl, by kernel_rfl, by kernel_rfl, by kernel_rfl, rfl⟩
end
end Go.Proofs.Qxb6500574aGreatDoor
