/-
  THE WALK of the parser layer: scan: signs.
-/
import Derived.Test.Qxb6500574aGreatDoorWLx9
namespace Go.Proofs.Qxb6500574aGreatDoor
open Go Go.RowKit
set_option linter.unusedVariables false
set_option linter.unusedSimpArgs false
open Go.Lib
section
set_option maxRecDepth 100000
set_option maxHeartbeats 2000000
variable {w : World}
/-- a sign of two bytes -/
theorem sw_two {Q : Exit → Act → World → Prop} {v0 v1 v4 v5 v6 v7 v8 v9 v10 v11 v21 : Value} {a : Act} (H : FrS v0 v1 v4 v5 v6 v7 v8 v9 v10 v11 v21 a) {s : Bs} {i N kt : Nat} {c : UInt8} (e1 : v1 = sv s) (e6 : v6 = .int .i64 ((i : Int) + 1)) (e7 : v7 = .int .i64 i) (e8 : v8 = .int .i32 c.toNat) (e9 : v9 = .pointer (some ⟨kt, 0, none⟩)) (e11 : v11 = .int .u8 61) (hN : s.length = N) (hs : N ≤ 2048) (hc : s[i]? = some c) (hn : c = 46 ∨ c = 47 ∨ c = 61 ∨ c = 126 ∨ c = 60 ∨ c = 62) (h2 : s[i + 1]? = some (twinN c)) (hG : StrTab w 2 signL) (ht : Has w kt #[.int .i64 1, .int .i64 i, sv [], .int .u64 0, .int .i64 14] 132)
    (hQ : ∀ a' y10 y11, FrS v0 v1 v4 v5 (.int .i64 ((i : Int) + 1 + 1)) v7 v8 v9 y10 y11 v21 a' → Q .normal a' ((w.setCell ⟨kt, 0, none⟩ (.int .i64 (signN [c, twinN c]))).setCell ⟨kt, 4, none⟩ (.int .i64 13))) : (scanSw Tryz.f60.body).wp Tryz.prog Q a w := by
  obtain ⟨u, rfl⟩ := H.form
  subst e1
  subst e6
  subst e7
  subst e8
  subst e9
  subst e11
  have hi := (List.getElem?_eq_some_iff.1 h2).1
  rw [hN] at hi
  have hsz : (⟨s.toArray⟩ : ByteArray).size = N := by rw [← hN]; simp [ByteArray.size]
  have hsz2 : s.toArray.size = N := hsz
  have hix := run_index_str s (i + 1) ((i : Int) + 1) (by omega) h2
  have hcut : ∀ w, (Instr.sliceAt 9 (sv s) (some (.int .i64 (i : Int))) (some (.int .i64 ((i : Int) + 1 + 1))) none).run Tryz.prog w = .ok (sv [c, twinN c]) w := by
    intro w
    rw [run_cut s (i := i) (j := i + 2) rfl (by omega) (by omega) (by omega) w, drop_at hc, drop_at h2, show i + 2 - i = 2 by omega]
    rfl
  obtain ⟨tn, HTN⟩ : ∃ tn, Hid ((twinN c).toNat = tn) := ⟨_, rfl⟩
  rw [HTN.out] at hix
  have SIG := fun W (h : StrTab W 2 signL) => sign_any (w := W) [c, twinN c] h
  have HSig : Hid (Calls Tryz.prog 96 #[sv [c, twinN c]] w fun e w' => e = .returned (.int .i64 (signN [c, twinN c])) ∧ w' = w) := SIG w hG
  obtain ⟨kk, HKK⟩ : ∃ kk, Hid (signN [c, twinN c] = kk) := ⟨_, rfl⟩
  rw [HKK.out] at HSig hQ
  obtain ⟨X, HX⟩ : ∃ X, Hid ([c, twinN c] = X) := ⟨_, rfl⟩
  rw [HX.out] at HSig hcut
  have dz0 := ht.frozen 0
  have d0 := ht.cell 0
  have dl := ht.lt
  have hp := ht.put 0 (.int .i64 kk)
  have y4 := hp.cell 4
  have yz := hp.frozen 4
  simp only [List.setIfInBounds_toArray, List.set_cons_succ, List.set_cons_zero, List.getElem?_toArray, List.getElem?_cons_succ, List.getElem?_cons_zero] at d0 y4
  have LET : Hid (∀ (n : Nat) W, (n = 46 ∨ n = 47 ∨ n = 61 ∨ n = 126 ∨ n = 60 ∨ n = 62) → Calls Tryz.prog 91 #[.int .i32 n] W fun e w' => e = .returned (.bool false) ∧ w' = W) := fun n W hn => by
    have := letter_any (w := W) (n : Int)
    rw [letB] at this
    have hf : ((decide (97 ≤ n) && decide (n ≤ 122)) || (decide (65 ≤ n) && decide (n ≤ 90)) || decide (n = 95)) = false := by
      rcases hn with rfl | rfl | rfl | rfl | rfl | rfl <;> decide
    rw [hf] at this
    exact this
  have HQ : Hid (∀ a' y10 y11, FrS v0 (sv s) v4 v5 (.int .i64 ((i : Int) + 1 + 1)) (.int .i64 i) (.int .i32 c.toNat) (.pointer (some ⟨kt, 0, none⟩)) y10 y11 v21 a' → Q .normal a' ((w.setCell ⟨kt, 0, none⟩ (.int .i64 kk)).setCell ⟨kt, 4, none⟩ (.int .i64 13))) := hQ
  simp only [scanSw, scanP7, scanL, cdR, cdL, cdIn, Tryz.f60, Option.getD_some]
  clear hQ H SIG hN h2 hc hG ht hp HKK HX
  rcases hn with rfl | rfl | rfl | rfl | rfl | rfl
  · have L1 := fun W => LET.out 46 W (by decide)
    have HL1 : Hid (∀ W, Calls Tryz.prog 91 #[.int .i32 46] W fun e w' => e = .returned (.bool false) ∧ w' = W) := L1
    clear L1 LET
    have htn : tn = 46 := by rw [← HTN.out]; decide
    clear HTN
    subst htn
    go_wp2_with fail
    refine (HL1.out _).mono ?_
    rintro e' w1 ⟨rfl, hw1⟩
    subst hw1
    go_wp2_with fail
    refine HSig.out.mono ?_
    rintro e' w2 ⟨rfl, hw2⟩
    subst hw2
    go_wp2_with fail
    exact HQ.out _ (sv X) (.int .u8 46) ⟨by kernel_rfl, by kernel_rfl, by kernel_rfl, by kernel_rfl, by kernel_rfl, by kernel_rfl, by kernel_rfl, by kernel_rfl, by kernel_rfl, by kernel_rfl, by kernel_rfl, by kernel_rfl, rfl⟩
  · have L1 := fun W => LET.out 47 W (by decide)
    have HL1 : Hid (∀ W, Calls Tryz.prog 91 #[.int .i32 47] W fun e w' => e = .returned (.bool false) ∧ w' = W) := L1
    clear L1 LET
    have htn : tn = 47 := by rw [← HTN.out]; decide
    clear HTN
    subst htn
    go_wp2_with fail
    refine (HL1.out _).mono ?_
    rintro e' w1 ⟨rfl, hw1⟩
    subst hw1
    go_wp2_with fail
    refine HSig.out.mono ?_
    rintro e' w2 ⟨rfl, hw2⟩
    subst hw2
    go_wp2_with fail
    exact HQ.out _ (sv X) (.int .u8 47) ⟨by kernel_rfl, by kernel_rfl, by kernel_rfl, by kernel_rfl, by kernel_rfl, by kernel_rfl, by kernel_rfl, by kernel_rfl, by kernel_rfl, by kernel_rfl, by kernel_rfl, by kernel_rfl, rfl⟩
  · have L1 := fun W => LET.out 61 W (by decide)
    have HL1 : Hid (∀ W, Calls Tryz.prog 91 #[.int .i32 61] W fun e w' => e = .returned (.bool false) ∧ w' = W) := L1
    clear L1 LET
    have htn : tn = 61 := by rw [← HTN.out]; decide
    clear HTN
    subst htn
    go_wp2_with fail
    refine (HL1.out _).mono ?_
    rintro e' w1 ⟨rfl, hw1⟩
    subst hw1
    go_wp2_with fail
    refine HSig.out.mono ?_
    rintro e' w2 ⟨rfl, hw2⟩
    subst hw2
    go_wp2_with fail
    exact HQ.out _ (sv X) (.int .u8 61) ⟨by kernel_rfl, by kernel_rfl, by kernel_rfl, by kernel_rfl, by kernel_rfl, by kernel_rfl, by kernel_rfl, by kernel_rfl, by kernel_rfl, by kernel_rfl, by kernel_rfl, by kernel_rfl, rfl⟩
  · have L1 := fun W => LET.out 126 W (by decide)
    have HL1 : Hid (∀ W, Calls Tryz.prog 91 #[.int .i32 126] W fun e w' => e = .returned (.bool false) ∧ w' = W) := L1
    clear L1 LET
    have htn : tn = 61 := by rw [← HTN.out]; decide
    clear HTN
    subst htn
    go_wp2_with fail
    refine (HL1.out _).mono ?_
    rintro e' w1 ⟨rfl, hw1⟩
    subst hw1
    go_wp2_with fail
    refine HSig.out.mono ?_
    rintro e' w2 ⟨rfl, hw2⟩
    subst hw2
    go_wp2_with fail
    exact HQ.out _ (sv X) (.int .u8 61) ⟨by kernel_rfl, by kernel_rfl, by kernel_rfl, by kernel_rfl, by kernel_rfl, by kernel_rfl, by kernel_rfl, by kernel_rfl, by kernel_rfl, by kernel_rfl, by kernel_rfl, by kernel_rfl, rfl⟩
  · have L1 := fun W => LET.out 60 W (by decide)
    have HL1 : Hid (∀ W, Calls Tryz.prog 91 #[.int .i32 60] W fun e w' => e = .returned (.bool false) ∧ w' = W) := L1
    clear L1 LET
    have htn : tn = 61 := by rw [← HTN.out]; decide
    clear HTN
    subst htn
    go_wp2_with fail
    refine (HL1.out _).mono ?_
    rintro e' w1 ⟨rfl, hw1⟩
    subst hw1
    go_wp2_with fail
    refine HSig.out.mono ?_
    rintro e' w2 ⟨rfl, hw2⟩
    subst hw2
    go_wp2_with fail
    exact HQ.out _ (sv X) (.int .u8 61) ⟨by kernel_rfl, by kernel_rfl, by kernel_rfl, by kernel_rfl, by kernel_rfl, by kernel_rfl, by kernel_rfl, by kernel_rfl, by kernel_rfl, by kernel_rfl, by kernel_rfl, by kernel_rfl, rfl⟩
  · have L1 := fun W => LET.out 62 W (by decide)
    have HL1 : Hid (∀ W, Calls Tryz.prog 91 #[.int .i32 62] W fun e w' => e = .returned (.bool false) ∧ w' = W) := L1
    clear L1 LET
    have htn : tn = 61 := by rw [← HTN.out]; decide
    clear HTN
    subst htn
    go_wp2_with fail
    refine (HL1.out _).mono ?_
    rintro e' w1 ⟨rfl, hw1⟩
    subst hw1
    go_wp2_with fail
    refine HSig.out.mono ?_
    rintro e' w2 ⟨rfl, hw2⟩
    subst hw2
    go_wp2_with fail
    exact HQ.out _ (sv X) (.int .u8 61) ⟨by kernel_rfl, by kernel_rfl, by kernel_rfl, by kernel_rfl, by kernel_rfl, by kernel_rfl, by kernel_rfl, by kernel_rfl, by kernel_rfl, by kernel_rfl, by kernel_rfl, by kernel_rfl, rfl⟩
end
end Go.Proofs.Qxb6500574aGreatDoor
