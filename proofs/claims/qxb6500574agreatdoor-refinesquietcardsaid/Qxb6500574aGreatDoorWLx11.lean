/-
  THE WALK of the parser layer: scan: signs of one byte.
-/
import Derived.Test.Qxb6500574aGreatDoorWLx10
namespace Go.Proofs.Qxb6500574aGreatDoor
open Go Go.RowKit
set_option linter.unusedVariables false
set_option linter.unusedSimpArgs false
open Go.Lib
section
set_option maxRecDepth 100000
set_option maxHeartbeats 2000000
variable {w : World}
theorem let_no {n : Nat} (h : ((decide (97 ≤ n) && decide (n ≤ 122)) || (decide (65 ≤ n) && decide (n ≤ 90)) || decide (n = 95)) = false) (W : World) : Calls Tryz.prog 91 #[.int .i32 n] W fun e w' => e = .returned (.bool false) ∧ w' = W := by
  have := letter_any (w := W) (n : Int)
  rw [letB, h] at this
  exact this
/-- a sign that has no twin, or no sign -/
theorem sw_plain {Q : Exit → Act → World → Prop} {v0 v1 v4 v5 v6 v7 v8 v9 v10 v11 v21 : Value} {a : Act} (H : FrS v0 v1 v4 v5 v6 v7 v8 v9 v10 v11 v21 a) {s tx : Bs} {i N kt : Nat} {n : Nat} (hn : n ≠ 32 ∧ n ≠ 9 ∧ n ≠ 10 ∧ n ≠ 13 ∧ n ≠ 45 ∧ n ≠ 34 ∧ n ≠ 46 ∧ n ≠ 47 ∧ n ≠ 61 ∧ n ≠ 126 ∧ n ≠ 60 ∧ n ≠ 62) (hl : ((decide (97 ≤ n) && decide (n ≤ 122)) || (decide (65 ≤ n) && decide (n ≤ 90)) || decide (n = 95)) = false) (hd : ¬ (48 ≤ n ∧ n ≤ 57)) (e1 : v1 = sv s) (e6 : v6 = .int .i64 ((i : Int) + 1)) (e7 : v7 = .int .i64 i) (e8 : v8 = .int .i32 n) (e9 : v9 = .pointer (some ⟨kt, 0, none⟩)) (e10 : v10 = sv tx) (e11 : v11 = .int .u8 61) (hN : s.length = N) (hs : N ≤ 2048) (hi : i < N) (hG : StrTab w 2 signL) (ht : Has w kt #[.int .i64 1, .int .i64 i, sv [], .int .u64 0, .int .i64 14] 132)
    (hQ : ∀ a' y11, FrS v0 v1 v4 v5 v6 v7 v8 v9 v10 y11 v21 a' → Q .normal a' ((w.setCell ⟨kt, 0, none⟩ (.int .i64 (signN tx))).setCell ⟨kt, 4, none⟩ (.int .i64 13))) : (scanSw Tryz.f60.body).wp Tryz.prog Q a w := by
  obtain ⟨u, rfl⟩ := H.form
  subst e1
  subst e6
  subst e7
  subst e8
  subst e9
  subst e10
  subst e11
  have hsz : (⟨s.toArray⟩ : ByteArray).size = N := by rw [← hN]; simp [ByteArray.size]
  have hsz2 : s.toArray.size = N := hsz
  have HSig : Hid (Calls Tryz.prog 96 #[sv tx] w fun e w' => e = .returned (.int .i64 (signN tx)) ∧ w' = w) := sign_any tx hG
  obtain ⟨kk, HKK⟩ : ∃ kk, Hid (signN tx = kk) := ⟨_, rfl⟩
  rw [HKK.out] at HSig hQ
  have dz0 := ht.frozen 0
  have d0 := ht.cell 0
  have dl := ht.lt
  have hp := ht.put 0 (.int .i64 kk)
  have y4 := hp.cell 4
  have yz := hp.frozen 4
  simp only [List.setIfInBounds_toArray, List.set_cons_succ, List.set_cons_zero, List.getElem?_toArray, List.getElem?_cons_succ, List.getElem?_cons_zero] at d0 y4
  have HQ : Hid (∀ a' y11, FrS v0 (sv s) v4 v5 (.int .i64 ((i : Int) + 1)) (.int .i64 i) (.int .i32 n) (.pointer (some ⟨kt, 0, none⟩)) (sv tx) y11 v21 a' → Q .normal a' ((w.setCell ⟨kt, 0, none⟩ (.int .i64 kk)).setCell ⟨kt, 4, none⟩ (.int .i64 13))) := hQ
  simp only [scanSw, scanP7, scanL, cdR, cdL, cdIn, Tryz.f60, Option.getD_some]
  have HL1 : Hid (∀ W, Calls Tryz.prog 91 #[.int .i32 n] W fun e w' => e = .returned (.bool false) ∧ w' = W) := let_no hl
  have b32 : ((n : Int) == 32) = false := by simp; omega
  have b9 : ((n : Int) == 9) = false := by simp; omega
  have b10 : ((n : Int) == 10) = false := by simp; omega
  have b13 : ((n : Int) == 13) = false := by simp; omega
  have b45 : ((n : Int) == 45) = false := by simp; omega
  have b34 : ((n : Int) == 34) = false := by simp; omega
  have b46 : ((n : Int) == 46) = false := by simp; omega
  have b47 : ((n : Int) == 47) = false := by simp; omega
  have b61 : ((n : Int) == 61) = false := by simp; omega
  have b126 : ((n : Int) == 126) = false := by simp; omega
  have b60 : ((n : Int) == 60) = false := by simp; omega
  have b62 : ((n : Int) == 62) = false := by simp; omega
  clear hQ H hN hG ht hp HKK hl hn
  by_cases h48 : 48 ≤ n
  · have h57 : ¬ n ≤ 57 := fun h => hd ⟨h48, h⟩
    clear hd
    go_wp2_with fail
    refine (HL1.out _).mono ?_
    rintro e' w1 ⟨rfl, hw1⟩
    subst hw1
    go_wp2_with fail
    refine HSig.out.mono ?_
    rintro e' w2 ⟨rfl, hw2⟩
    subst hw2
    go_wp2_with fail
    exact HQ.out _ (.int .u8 61) ⟨by kernel_rfl, by kernel_rfl, by kernel_rfl, by kernel_rfl, by kernel_rfl, by kernel_rfl, by kernel_rfl, by kernel_rfl, by kernel_rfl, by kernel_rfl, by kernel_rfl, by kernel_rfl, rfl⟩
  · clear hd
    go_wp2_with fail
    refine (HL1.out _).mono ?_
    rintro e' w1 ⟨rfl, hw1⟩
    subst hw1
    go_wp2_with fail
    refine HSig.out.mono ?_
    rintro e' w2 ⟨rfl, hw2⟩
    subst hw2
    go_wp2_with fail
    exact HQ.out _ (.int .u8 61) ⟨by kernel_rfl, by kernel_rfl, by kernel_rfl, by kernel_rfl, by kernel_rfl, by kernel_rfl, by kernel_rfl, by kernel_rfl, by kernel_rfl, by kernel_rfl, by kernel_rfl, by kernel_rfl, rfl⟩
/-- the minus -/
theorem sw_minus {Q : Exit → Act → World → Prop} {v0 v1 v4 v5 v6 v7 v8 v9 v10 v11 v21 : Value} {a : Act} (H : FrS v0 v1 v4 v5 v6 v7 v8 v9 v10 v11 v21 a) {s tx : Bs} {i N kt : Nat} (h2 : s[i + 1]? ≠ some 45) (e1 : v1 = sv s) (e6 : v6 = .int .i64 ((i : Int) + 1)) (e7 : v7 = .int .i64 i) (e8 : v8 = .int .i32 45) (e9 : v9 = .pointer (some ⟨kt, 0, none⟩)) (e10 : v10 = sv tx) (e11 : v11 = .int .u8 61) (hN : s.length = N) (hs : N ≤ 2048) (hi : i < N) (hG : StrTab w 2 signL) (ht : Has w kt #[.int .i64 1, .int .i64 i, sv [], .int .u64 0, .int .i64 14] 132)
    (hQ : ∀ a' y11, FrS v0 v1 v4 v5 v6 v7 v8 v9 v10 y11 v21 a' → Q .normal a' ((w.setCell ⟨kt, 0, none⟩ (.int .i64 (signN tx))).setCell ⟨kt, 4, none⟩ (.int .i64 13))) : (scanSw Tryz.f60.body).wp Tryz.prog Q a w := by
  obtain ⟨u, rfl⟩ := H.form
  subst e1
  subst e6
  subst e7
  subst e8
  subst e9
  subst e10
  subst e11
  have hsz : (⟨s.toArray⟩ : ByteArray).size = N := by rw [← hN]; simp [ByteArray.size]
  have hsz2 : s.toArray.size = N := hsz
  have HSig : Hid (Calls Tryz.prog 96 #[sv tx] w fun e w' => e = .returned (.int .i64 (signN tx)) ∧ w' = w) := sign_any tx hG
  obtain ⟨kk, HKK⟩ : ∃ kk, Hid (signN tx = kk) := ⟨_, rfl⟩
  rw [HKK.out] at HSig hQ
  have dz0 := ht.frozen 0
  have d0 := ht.cell 0
  have dl := ht.lt
  have hp := ht.put 0 (.int .i64 kk)
  have y4 := hp.cell 4
  have yz := hp.frozen 4
  simp only [List.setIfInBounds_toArray, List.set_cons_succ, List.set_cons_zero, List.getElem?_toArray, List.getElem?_cons_succ, List.getElem?_cons_zero] at d0 y4
  have HQ : Hid (∀ a' y11, FrS v0 (sv s) v4 v5 (.int .i64 ((i : Int) + 1)) (.int .i64 i) (.int .i32 45) (.pointer (some ⟨kt, 0, none⟩)) (sv tx) y11 v21 a' → Q .normal a' ((w.setCell ⟨kt, 0, none⟩ (.int .i64 kk)).setCell ⟨kt, 4, none⟩ (.int .i64 13))) := hQ
  simp only [scanSw, scanP7, scanL, cdR, cdL, cdIn, Tryz.f60, Option.getD_some]
  have HL1 : Hid (∀ W, Calls Tryz.prog 91 #[.int .i32 45] W fun e w' => e = .returned (.bool false) ∧ w' = W) := let_no (n := 45) (by decide)
  by_cases hlt : i + 1 < N
  · obtain ⟨x, hx⟩ : ∃ x, s[i + 1]? = some x := ⟨s[i + 1]'(by omega), by simp⟩
    have hx45 : x ≠ 45 := fun e => h2 (by rw [hx, e])
    have hcut : ∀ w, (Instr.sliceAt 9 (sv s) (some (.int .i64 ((i : Int) + 1))) (some (.int .i64 ((i : Int) + 2))) none).run Tryz.prog w = .ok (sv [x]) w := by
      intro w
      rw [run_cut s (i := i + 1) (j := i + 2) (by omega) (by omega) (by omega) (by omega) w, drop_at hx]
      simp
    have hne : ([x] == ([45] : Bs)) = false := by simpa using hx45
    clear hQ H hN hG ht hp HKK h2 hx hx45
    go_wp2_with fail
    refine (HL1.out _).mono ?_
    rintro e' w1 ⟨rfl, hw1⟩
    subst hw1
    go_wp2_with fail
    refine HSig.out.mono ?_
    rintro e' w2 ⟨rfl, hw2⟩
    subst hw2
    go_wp2_with fail
    exact HQ.out _ (.int .u8 61) ⟨by kernel_rfl, by kernel_rfl, by kernel_rfl, by kernel_rfl, by kernel_rfl, by kernel_rfl, by kernel_rfl, by kernel_rfl, by kernel_rfl, by kernel_rfl, by kernel_rfl, by kernel_rfl, rfl⟩
  · have hcut : ∀ w, (Instr.sliceAt 9 (sv s) (some (.int .i64 ((i : Int) + 1))) (some (.int .i64 (N : Int))) none).run Tryz.prog w = .ok (sv []) w := by
      intro w
      rw [run_cut s (i := i + 1) (j := N) (by omega) rfl (by omega) (by omega) w, List.drop_eq_nil_of_le (by omega)]
      simp
    clear hQ H hN hG ht hp HKK h2
    go_wp2_with fail
    refine (HL1.out _).mono ?_
    rintro e' w1 ⟨rfl, hw1⟩
    subst hw1
    go_wp2_with fail
    refine HSig.out.mono ?_
    rintro e' w2 ⟨rfl, hw2⟩
    subst hw2
    go_wp2_with fail
    exact HQ.out _ (.int .u8 61) ⟨by kernel_rfl, by kernel_rfl, by kernel_rfl, by kernel_rfl, by kernel_rfl, by kernel_rfl, by kernel_rfl, by kernel_rfl, by kernel_rfl, by kernel_rfl, by kernel_rfl, by kernel_rfl, rfl⟩
/-- a sign that might have a twin, and has none -/
theorem sw_single {Q : Exit → Act → World → Prop} {v0 v1 v4 v5 v6 v7 v8 v9 v10 v11 v21 : Value} {a : Act} (H : FrS v0 v1 v4 v5 v6 v7 v8 v9 v10 v11 v21 a) {s tx : Bs} {i N kt : Nat} {c : UInt8} (hn : c = 46 ∨ c = 47 ∨ c = 61 ∨ c = 126 ∨ c = 60 ∨ c = 62) (h2 : s[i + 1]? ≠ some (twinN c)) (e1 : v1 = sv s) (e6 : v6 = .int .i64 ((i : Int) + 1)) (e7 : v7 = .int .i64 i) (e8 : v8 = .int .i32 c.toNat) (e9 : v9 = .pointer (some ⟨kt, 0, none⟩)) (e10 : v10 = sv tx) (e11 : v11 = .int .u8 61) (hN : s.length = N) (hs : N ≤ 2048) (hi : i < N) (hG : StrTab w 2 signL) (ht : Has w kt #[.int .i64 1, .int .i64 i, sv [], .int .u64 0, .int .i64 14] 132)
    (hQ : ∀ a' y11, FrS v0 v1 v4 v5 v6 v7 v8 v9 v10 y11 v21 a' → Q .normal a' ((w.setCell ⟨kt, 0, none⟩ (.int .i64 (signN tx))).setCell ⟨kt, 4, none⟩ (.int .i64 13))) : (scanSw Tryz.f60.body).wp Tryz.prog Q a w := by
  obtain ⟨u, rfl⟩ := H.form
  subst e1
  subst e6
  subst e7
  subst e8
  subst e9
  subst e10
  subst e11
  have hsz : (⟨s.toArray⟩ : ByteArray).size = N := by rw [← hN]; simp [ByteArray.size]
  have hsz2 : s.toArray.size = N := hsz
  have HSig : Hid (Calls Tryz.prog 96 #[sv tx] w fun e w' => e = .returned (.int .i64 (signN tx)) ∧ w' = w) := sign_any tx hG
  obtain ⟨kk, HKK⟩ : ∃ kk, Hid (signN tx = kk) := ⟨_, rfl⟩
  rw [HKK.out] at HSig hQ
  have dz0 := ht.frozen 0
  have d0 := ht.cell 0
  have dl := ht.lt
  have hp := ht.put 0 (.int .i64 kk)
  have y4 := hp.cell 4
  have yz := hp.frozen 4
  simp only [List.setIfInBounds_toArray, List.set_cons_succ, List.set_cons_zero, List.getElem?_toArray, List.getElem?_cons_succ, List.getElem?_cons_zero] at d0 y4
  have HQ : Hid (∀ a' y11, FrS v0 (sv s) v4 v5 (.int .i64 ((i : Int) + 1)) (.int .i64 i) (.int .i32 c.toNat) (.pointer (some ⟨kt, 0, none⟩)) (sv tx) y11 v21 a' → Q .normal a' ((w.setCell ⟨kt, 0, none⟩ (.int .i64 kk)).setCell ⟨kt, 4, none⟩ (.int .i64 13))) := hQ
  simp only [scanSw, scanP7, scanL, cdR, cdL, cdIn, Tryz.f60, Option.getD_some]
  by_cases hlt : i + 1 < N
  · obtain ⟨x, hx⟩ : ∃ x, s[i + 1]? = some x := ⟨s[i + 1]'(by omega), by simp⟩
    have hix := run_index_str s (i + 1) ((i : Int) + 1) (by omega) hx
    have hxt : x.toNat ≠ (twinN c).toNat := fun e => h2 (by rw [hx, UInt8.toNat_inj.1 e])
    generalize x.toNat = xn at *
    clear hQ H hN hG ht hp HKK h2 hx
    rcases hn with rfl | rfl | rfl | rfl | rfl | rfl
    · have HL1 : Hid (∀ W, Calls Tryz.prog 91 #[.int .i32 46] W fun e w' => e = .returned (.bool false) ∧ w' = W) := let_no (n := 46) (by decide)
      have hq : ((xn : Int) == 46) = false := by
        have : xn ≠ 46 := fun e => hxt (by rw [e]; decide)
        simp
        omega
      clear hxt
      go_wp2_with fail
      refine (HL1.out _).mono ?_
      rintro e' w1 ⟨rfl, hw1⟩
      subst hw1
      go_wp2_with fail
      refine HSig.out.mono ?_
      rintro e' w2 ⟨rfl, hw2⟩
      subst hw2
      go_wp2_with fail
      exact HQ.out _ (.int .u8 46) ⟨by kernel_rfl, by kernel_rfl, by kernel_rfl, by kernel_rfl, by kernel_rfl, by kernel_rfl, by kernel_rfl, by kernel_rfl, by kernel_rfl, by kernel_rfl, by kernel_rfl, by kernel_rfl, rfl⟩
    · have HL1 : Hid (∀ W, Calls Tryz.prog 91 #[.int .i32 47] W fun e w' => e = .returned (.bool false) ∧ w' = W) := let_no (n := 47) (by decide)
      have hq : ((xn : Int) == 47) = false := by
        have : xn ≠ 47 := fun e => hxt (by rw [e]; decide)
        simp
        omega
      clear hxt
      go_wp2_with fail
      refine (HL1.out _).mono ?_
      rintro e' w1 ⟨rfl, hw1⟩
      subst hw1
      go_wp2_with fail
      refine HSig.out.mono ?_
      rintro e' w2 ⟨rfl, hw2⟩
      subst hw2
      go_wp2_with fail
      exact HQ.out _ (.int .u8 47) ⟨by kernel_rfl, by kernel_rfl, by kernel_rfl, by kernel_rfl, by kernel_rfl, by kernel_rfl, by kernel_rfl, by kernel_rfl, by kernel_rfl, by kernel_rfl, by kernel_rfl, by kernel_rfl, rfl⟩
    · have HL1 : Hid (∀ W, Calls Tryz.prog 91 #[.int .i32 61] W fun e w' => e = .returned (.bool false) ∧ w' = W) := let_no (n := 61) (by decide)
      have hq : ((xn : Int) == 61) = false := by
        have : xn ≠ 61 := fun e => hxt (by rw [e]; decide)
        simp
        omega
      clear hxt
      go_wp2_with fail
      refine (HL1.out _).mono ?_
      rintro e' w1 ⟨rfl, hw1⟩
      subst hw1
      go_wp2_with fail
      refine HSig.out.mono ?_
      rintro e' w2 ⟨rfl, hw2⟩
      subst hw2
      go_wp2_with fail
      exact HQ.out _ (.int .u8 61) ⟨by kernel_rfl, by kernel_rfl, by kernel_rfl, by kernel_rfl, by kernel_rfl, by kernel_rfl, by kernel_rfl, by kernel_rfl, by kernel_rfl, by kernel_rfl, by kernel_rfl, by kernel_rfl, rfl⟩
    · have HL1 : Hid (∀ W, Calls Tryz.prog 91 #[.int .i32 126] W fun e w' => e = .returned (.bool false) ∧ w' = W) := let_no (n := 126) (by decide)
      have hq : ((xn : Int) == 61) = false := by
        have : xn ≠ 61 := fun e => hxt (by rw [e]; decide)
        simp
        omega
      clear hxt
      go_wp2_with fail
      refine (HL1.out _).mono ?_
      rintro e' w1 ⟨rfl, hw1⟩
      subst hw1
      go_wp2_with fail
      refine HSig.out.mono ?_
      rintro e' w2 ⟨rfl, hw2⟩
      subst hw2
      go_wp2_with fail
      exact HQ.out _ (.int .u8 61) ⟨by kernel_rfl, by kernel_rfl, by kernel_rfl, by kernel_rfl, by kernel_rfl, by kernel_rfl, by kernel_rfl, by kernel_rfl, by kernel_rfl, by kernel_rfl, by kernel_rfl, by kernel_rfl, rfl⟩
    · have HL1 : Hid (∀ W, Calls Tryz.prog 91 #[.int .i32 60] W fun e w' => e = .returned (.bool false) ∧ w' = W) := let_no (n := 60) (by decide)
      have hq : ((xn : Int) == 61) = false := by
        have : xn ≠ 61 := fun e => hxt (by rw [e]; decide)
        simp
        omega
      clear hxt
      go_wp2_with fail
      refine (HL1.out _).mono ?_
      rintro e' w1 ⟨rfl, hw1⟩
      subst hw1
      go_wp2_with fail
      refine HSig.out.mono ?_
      rintro e' w2 ⟨rfl, hw2⟩
      subst hw2
      go_wp2_with fail
      exact HQ.out _ (.int .u8 61) ⟨by kernel_rfl, by kernel_rfl, by kernel_rfl, by kernel_rfl, by kernel_rfl, by kernel_rfl, by kernel_rfl, by kernel_rfl, by kernel_rfl, by kernel_rfl, by kernel_rfl, by kernel_rfl, rfl⟩
    · have HL1 : Hid (∀ W, Calls Tryz.prog 91 #[.int .i32 62] W fun e w' => e = .returned (.bool false) ∧ w' = W) := let_no (n := 62) (by decide)
      have hq : ((xn : Int) == 61) = false := by
        have : xn ≠ 61 := fun e => hxt (by rw [e]; decide)
        simp
        omega
      clear hxt
      go_wp2_with fail
      refine (HL1.out _).mono ?_
      rintro e' w1 ⟨rfl, hw1⟩
      subst hw1
      go_wp2_with fail
      refine HSig.out.mono ?_
      rintro e' w2 ⟨rfl, hw2⟩
      subst hw2
      go_wp2_with fail
      exact HQ.out _ (.int .u8 61) ⟨by kernel_rfl, by kernel_rfl, by kernel_rfl, by kernel_rfl, by kernel_rfl, by kernel_rfl, by kernel_rfl, by kernel_rfl, by kernel_rfl, by kernel_rfl, by kernel_rfl, by kernel_rfl, rfl⟩
  · clear hQ H hN hG ht hp HKK h2
    rcases hn with rfl | rfl | rfl | rfl | rfl | rfl
    · have HL1 : Hid (∀ W, Calls Tryz.prog 91 #[.int .i32 46] W fun e w' => e = .returned (.bool false) ∧ w' = W) := let_no (n := 46) (by decide)
      go_wp2_with fail
      refine (HL1.out _).mono ?_
      rintro e' w1 ⟨rfl, hw1⟩
      subst hw1
      go_wp2_with fail
      refine HSig.out.mono ?_
      rintro e' w2 ⟨rfl, hw2⟩
      subst hw2
      go_wp2_with fail
      exact HQ.out _ (.int .u8 46) ⟨by kernel_rfl, by kernel_rfl, by kernel_rfl, by kernel_rfl, by kernel_rfl, by kernel_rfl, by kernel_rfl, by kernel_rfl, by kernel_rfl, by kernel_rfl, by kernel_rfl, by kernel_rfl, rfl⟩
    · have HL1 : Hid (∀ W, Calls Tryz.prog 91 #[.int .i32 47] W fun e w' => e = .returned (.bool false) ∧ w' = W) := let_no (n := 47) (by decide)
      go_wp2_with fail
      refine (HL1.out _).mono ?_
      rintro e' w1 ⟨rfl, hw1⟩
      subst hw1
      go_wp2_with fail
      refine HSig.out.mono ?_
      rintro e' w2 ⟨rfl, hw2⟩
      subst hw2
      go_wp2_with fail
      exact HQ.out _ (.int .u8 47) ⟨by kernel_rfl, by kernel_rfl, by kernel_rfl, by kernel_rfl, by kernel_rfl, by kernel_rfl, by kernel_rfl, by kernel_rfl, by kernel_rfl, by kernel_rfl, by kernel_rfl, by kernel_rfl, rfl⟩
    · have HL1 : Hid (∀ W, Calls Tryz.prog 91 #[.int .i32 61] W fun e w' => e = .returned (.bool false) ∧ w' = W) := let_no (n := 61) (by decide)
      go_wp2_with fail
      refine (HL1.out _).mono ?_
      rintro e' w1 ⟨rfl, hw1⟩
      subst hw1
      go_wp2_with fail
      refine HSig.out.mono ?_
      rintro e' w2 ⟨rfl, hw2⟩
      subst hw2
      go_wp2_with fail
      exact HQ.out _ (.int .u8 61) ⟨by kernel_rfl, by kernel_rfl, by kernel_rfl, by kernel_rfl, by kernel_rfl, by kernel_rfl, by kernel_rfl, by kernel_rfl, by kernel_rfl, by kernel_rfl, by kernel_rfl, by kernel_rfl, rfl⟩
    · have HL1 : Hid (∀ W, Calls Tryz.prog 91 #[.int .i32 126] W fun e w' => e = .returned (.bool false) ∧ w' = W) := let_no (n := 126) (by decide)
      go_wp2_with fail
      refine (HL1.out _).mono ?_
      rintro e' w1 ⟨rfl, hw1⟩
      subst hw1
      go_wp2_with fail
      refine HSig.out.mono ?_
      rintro e' w2 ⟨rfl, hw2⟩
      subst hw2
      go_wp2_with fail
      exact HQ.out _ (.int .u8 61) ⟨by kernel_rfl, by kernel_rfl, by kernel_rfl, by kernel_rfl, by kernel_rfl, by kernel_rfl, by kernel_rfl, by kernel_rfl, by kernel_rfl, by kernel_rfl, by kernel_rfl, by kernel_rfl, rfl⟩
    · have HL1 : Hid (∀ W, Calls Tryz.prog 91 #[.int .i32 60] W fun e w' => e = .returned (.bool false) ∧ w' = W) := let_no (n := 60) (by decide)
      go_wp2_with fail
      refine (HL1.out _).mono ?_
      rintro e' w1 ⟨rfl, hw1⟩
      subst hw1
      go_wp2_with fail
      refine HSig.out.mono ?_
      rintro e' w2 ⟨rfl, hw2⟩
      subst hw2
      go_wp2_with fail
      exact HQ.out _ (.int .u8 61) ⟨by kernel_rfl, by kernel_rfl, by kernel_rfl, by kernel_rfl, by kernel_rfl, by kernel_rfl, by kernel_rfl, by kernel_rfl, by kernel_rfl, by kernel_rfl, by kernel_rfl, by kernel_rfl, rfl⟩
    · have HL1 : Hid (∀ W, Calls Tryz.prog 91 #[.int .i32 62] W fun e w' => e = .returned (.bool false) ∧ w' = W) := let_no (n := 62) (by decide)
      go_wp2_with fail
      refine (HL1.out _).mono ?_
      rintro e' w1 ⟨rfl, hw1⟩
      subst hw1
      go_wp2_with fail
      refine HSig.out.mono ?_
      rintro e' w2 ⟨rfl, hw2⟩
      subst hw2
      go_wp2_with fail
      exact HQ.out _ (.int .u8 61) ⟨by kernel_rfl, by kernel_rfl, by kernel_rfl, by kernel_rfl, by kernel_rfl, by kernel_rfl, by kernel_rfl, by kernel_rfl, by kernel_rfl, by kernel_rfl, by kernel_rfl, by kernel_rfl, rfl⟩
end
end Go.Proofs.Qxb6500574aGreatDoor
