/-
  THE WALK of the parser layer: scan: texts in quotes, signs.
-/
import Derived.Test.Qxb6500574aGreatDoorWLx8
namespace Go.Proofs.Qxb6500574aGreatDoor
open Go Go.RowKit
set_option linter.unusedVariables false
set_option linter.unusedSimpArgs false
open Go.Lib
section
set_option maxRecDepth 100000
set_option maxHeartbeats 2000000
variable {w : World}
/-- a text in quotes -/
theorem sw_str {Q : Exit → Act → World → Prop} {v0 v1 v4 v5 v6 v7 v8 v9 v10 v11 v21 : Value} {a : Act} (H : FrS v0 v1 v4 v5 v6 v7 v8 v9 v10 v11 v21 a) {s : Bs} {i N kt k : Nat} (e1 : v1 = sv s) (e7 : v7 = .int .i64 i) (e8 : v8 = .int .i32 34) (e9 : v9 = .pointer (some ⟨kt, 0, none⟩)) (hN : s.length = N) (hs : N ≤ 2048) (hi : i < N) (hk : span (fun x => x != 34 && x != 10) (s.drop (i + 1)) = k) (ht : Has w kt #[.int .i64 1, .int .i64 i, sv [], .int .u64 0, .int .i64 14] 132)
    (hQ : ∀ a', FrS v0 v1 v4 v5 (.int .i64 ((i + k + 2 : Nat) : Int)) v7 v8 v9 v10 v11 v21 a' → Q .normal a' (if s[i + 1 + k]? = some 34 ∧ k ≤ 40 then (w.setCell ⟨kt, 0, none⟩ (.int .i64 4)).setCell ⟨kt, 2, none⟩ (sv ((s.drop (i + 1)).take k)) else w)) : (scanSw Tryz.f60.body).wp Tryz.prog Q a w := by
  obtain ⟨u, rfl⟩ := H.form
  subst e1
  subst e7
  subst e8
  subst e9
  have hsz : (⟨s.toArray⟩ : ByteArray).size = N := by rw [← hN]; simp [ByteArray.size]
  have hsz2 : s.toArray.size = N := hsz
  have LET := fun W => letter_any (w := W) (34 : Int)
  have UNT := fun W => until_any (w := W) s (i + 1) 34 (by omega) (by omega)
  rw [hk] at UNT
  have hkl : k ≤ N - (i + 1) := by
    have := span_le (fun x => x != 34 && x != 10) (s.drop (i + 1))
    rw [hk, List.length_drop, hN] at this
    exact this
  have HLet : Hid (∀ W, Calls Tryz.prog 91 #[.int .i32 34] W fun e w' => e = .returned (.bool false) ∧ w' = W) := LET
  have HUnt : Hid (∀ W, Calls Tryz.prog 90 #[sv s, .int .i64 ((i : Int) + 1), .int .u8 34] W fun e w' => e = .returned (.int .i64 ((i + 1 + k : Nat) : Int)) ∧ w' = W) := by
    show ∀ W, _
    rw [show (i : Int) + 1 = ((i + 1 : Nat) : Int) by omega]
    exact UNT
  have dz0 := ht.frozen 0
  have d0 := ht.cell 0
  have dl := ht.lt
  have hp := ht.put 0 (.int .i64 4)
  have y2 := hp.cell 2
  have yz := hp.frozen 2
  simp only [List.setIfInBounds_toArray, List.set_cons_succ, List.set_cons_zero, List.getElem?_toArray, List.getElem?_cons_succ, List.getElem?_cons_zero] at d0 y2
  obtain ⟨E, HE⟩ : ∃ E : Nat, Hid (i + 1 + k = E) := ⟨_, rfl⟩
  have hEE : i + k + 2 = E + 1 := by have := HE.out; omega
  rw [hEE] at hQ
  rw [HE.out] at HUnt hQ
  have hE : E ≤ N := by have := HE.out; omega
  have hiE : i + 1 ≤ E := by have := HE.out; omega
  have hcut : ∀ w, (Instr.sliceAt 9 (sv s) (some (.int .i64 ((i : Int) + 1))) (some (.int .i64 (E : Int))) none).run Tryz.prog w = .ok (sv ((s.drop (i + 1)).take k)) w := by
    intro w
    rw [run_cut s (i := i + 1) (j := E) (by omega) rfl hiE (by omega) w]
    congr 3
    have := HE.out
    omega
  obtain ⟨X, HX⟩ : ∃ X, Hid ((s.drop (i + 1)).take k = X) := ⟨_, rfl⟩
  rw [HX.out] at hcut hQ
  simp only [scanSw, scanP7, scanL, cdR, cdL, cdIn, Tryz.f60, Option.getD_some]
  by_cases hEN : E < N
  · obtain ⟨x, hx⟩ : ∃ x, s[E]? = some x := ⟨s[E]'(by omega), by simp⟩
    have hix := run_index_str s E _ rfl hx
    by_cases hx34 : x = 34
    · subst hx34
      by_cases h40 : k ≤ 40
      · rw [if_pos ⟨hx, h40⟩] at hQ
        have HQ : Hid (∀ a', FrS v0 (sv s) v4 v5 (.int .i64 ((E + 1 : Nat) : Int)) (.int .i64 i) (.int .i32 34) (.pointer (some ⟨kt, 0, none⟩)) v10 v11 v21 a' → Q .normal a' ((w.setCell ⟨kt, 0, none⟩ (.int .i64 4)).setCell ⟨kt, 2, none⟩ (sv X))) := hQ
        have hsub : ((E : Int) + 1 - (i : Int)) - 2 ≤ 40 := by have := HE.out; omega
        clear hQ H LET UNT hN hk hp ht hx hEE
        go_wp2_with fail
        refine (HLet.out _).mono ?_
        rintro e' w1 ⟨rfl, hw1⟩
        subst hw1
        go_wp2_with fail
        refine (HUnt.out _).mono ?_
        rintro e' w2 ⟨rfl, hw2⟩
        subst hw2
        go_wp2_with fail
        exact HQ.out _ ⟨by kernel_rfl, by kernel_rfl, by kernel_rfl, by kernel_rfl, by kernel_rfl, by kernel_rfl, by kernel_rfl, by kernel_rfl, by kernel_rfl, by kernel_rfl, by kernel_rfl, by kernel_rfl, rfl⟩
      · rw [if_neg fun z => h40 z.2] at hQ
        have HQ : Hid (∀ a', FrS v0 (sv s) v4 v5 (.int .i64 ((E + 1 : Nat) : Int)) (.int .i64 i) (.int .i32 34) (.pointer (some ⟨kt, 0, none⟩)) v10 v11 v21 a' → Q .normal a' w) := hQ
        have hsub : ¬ ((E : Int) + 1 - (i : Int)) - 2 ≤ 40 := by have := HE.out; omega
        clear hQ H LET UNT hN hk hp ht hx hEE
        go_wp2_with fail
        refine (HLet.out _).mono ?_
        rintro e' w1 ⟨rfl, hw1⟩
        subst hw1
        go_wp2_with fail
        refine (HUnt.out _).mono ?_
        rintro e' w2 ⟨rfl, hw2⟩
        subst hw2
        go_wp2_with fail
        exact HQ.out _ ⟨by kernel_rfl, by kernel_rfl, by kernel_rfl, by kernel_rfl, by kernel_rfl, by kernel_rfl, by kernel_rfl, by kernel_rfl, by kernel_rfl, by kernel_rfl, by kernel_rfl, by kernel_rfl, rfl⟩
    · rw [if_neg fun z => hx34 (by have := z.1; rw [hx] at this; cases this; rfl)] at hQ
      have HQ : Hid (∀ a', FrS v0 (sv s) v4 v5 (.int .i64 ((E + 1 : Nat) : Int)) (.int .i64 i) (.int .i32 34) (.pointer (some ⟨kt, 0, none⟩)) v10 v11 v21 a' → Q .normal a' w) := hQ
      have hxn : ((x.toNat : Int) == 34) = false := by
        have : ¬ x.toNat = 34 := fun e => hx34 (UInt8.toNat_inj.1 e)
        simp
        omega
      generalize x.toNat = xn at *
      clear hQ H LET UNT hN hk hp ht hx hEE hx34
      go_wp2_with fail
      refine (HLet.out _).mono ?_
      rintro e' w1 ⟨rfl, hw1⟩
      subst hw1
      go_wp2_with fail
      refine (HUnt.out _).mono ?_
      rintro e' w2 ⟨rfl, hw2⟩
      subst hw2
      go_wp2_with fail
      exact HQ.out _ ⟨by kernel_rfl, by kernel_rfl, by kernel_rfl, by kernel_rfl, by kernel_rfl, by kernel_rfl, by kernel_rfl, by kernel_rfl, by kernel_rfl, by kernel_rfl, by kernel_rfl, by kernel_rfl, rfl⟩
  · rw [if_neg fun z => by have := (List.getElem?_eq_some_iff.1 z.1).1; omega] at hQ
    have HQ : Hid (∀ a', FrS v0 (sv s) v4 v5 (.int .i64 ((E + 1 : Nat) : Int)) (.int .i64 i) (.int .i32 34) (.pointer (some ⟨kt, 0, none⟩)) v10 v11 v21 a' → Q .normal a' w) := hQ
    clear hQ H LET UNT hN hk hp ht hEE
    go_wp2_with fail
    refine (HLet.out _).mono ?_
    rintro e' w1 ⟨rfl, hw1⟩
    subst hw1
    go_wp2_with fail
    refine (HUnt.out _).mono ?_
    rintro e' w2 ⟨rfl, hw2⟩
    subst hw2
    go_wp2_with fail
    exact HQ.out _ ⟨by kernel_rfl, by kernel_rfl, by kernel_rfl, by kernel_rfl, by kernel_rfl, by kernel_rfl, by kernel_rfl, by kernel_rfl, by kernel_rfl, by kernel_rfl, by kernel_rfl, by kernel_rfl, rfl⟩
end
end Go.Proofs.Qxb6500574aGreatDoor
