/-
  THE WALK of complaw: KeptSays.
-/
import Derived.Test.Qxb6500574aGreatDoorWKp3
import Derived.Test.Qxb6500574aGreatDoorWKp2
import Derived.Test.Qxb6500574aGreatDoorWSg5
import Derived.Test.Qxb6500574aGreatDoorWSyZ
namespace Go.Proofs.Qxb6500574aGreatDoor
open Go Go.RowKit
set_option linter.unusedVariables false
set_option linter.unusedSimpArgs false
section
set_option maxRecDepth 100000
set_option maxHeartbeats 1000000
variable {bc sx : Nat} {w : World} {o : Nat → Nat} {C : CC} {num : Value} {A : VL} {c : CmD}
theorem ksays_big (h : CM bc w o A C sx num c) {k : Int} {x : Nat} (hx : 9218868437227405312 ≤ x) (hx2 : x < 18446744073709551616) (a0 a1 a2 : Nat) :
    Calls Tryz.prog 10 #[.agg #[.pointer (some ⟨a0, 0, none⟩), .pointer (some ⟨a1, 0, none⟩), .pointer (some ⟨a2, 0, none⟩)], .pointer (some ⟨C.cb, 0, none⟩), .int .i64 k, .int .u64 x] w (KpQ bc w o C sx num) := by
  have F0 : Fr (fun _ => False) w (w.alloc (.cells #[.pointer (some ⟨a0, 0, none⟩), .pointer (some ⟨a1, 0, none⟩), .pointer (some ⟨a2, 0, none⟩)] 27)) := (Fr.refl _ _).alloc _
  have HF : Hid (KpQ bc w o C sx num (.returned (.bool true)) _) := ((KS.refl h).fresh F0).fin
  have hx' : (9218868437227405312 : Int) ≤ (x : Int) := by omega
  clear h F0
  go_enter Tryz.func10, Tryz.ntmps10
  go_wp2_with fail
  go_ret
  exact HF.out
theorem ksays_any (h : CM bc w o A C sx num c) {k : Int} {x : Nat} (hx : x < 9218868437227405312) (a0 a1 a2 : Nat) (hnum : num = .pointer (some ⟨a2, 0, none⟩)) :
    Calls Tryz.prog 10 #[.agg #[.pointer (some ⟨a0, 0, none⟩), .pointer (some ⟨a1, 0, none⟩), .pointer (some ⟨a2, 0, none⟩)], .pointer (some ⟨C.cb, 0, none⟩), .int .i64 k, .int .u64 x] w (KpQ bc w o C sx num) := by
  have hql := ans_eql
  have hqn := ans_neq
  obtain ⟨W0, HW0⟩ : ∃ W, Hid (w.alloc (.cells #[.pointer (some ⟨a0, 0, none⟩), .pointer (some ⟨a1, 0, none⟩), .pointer (some ⟨a2, 0, none⟩)] 27) = W) := ⟨_, Eq.refl _⟩
  have e0 : w.alloc (.cells #[.pointer (some ⟨a0, 0, none⟩), .pointer (some ⟨a1, 0, none⟩), .pointer (some ⟨a2, 0, none⟩)] 27) = W0 := HW0.out
  obtain ⟨b4, hb4⟩ : ∃ b, w.heap.size = b := ⟨_, rfl⟩
  have F0 : Fr (fun _ => False) w W0 := by rw [← HW0.out]; exact (Fr.refl _ _).alloc _
  have hB : Has W0 b4 #[.pointer (some ⟨a0, 0, none⟩), .pointer (some ⟨a1, 0, none⟩), .pointer (some ⟨a2, 0, none⟩)] 27 := by rw [← HW0.out, ← hb4]; exact Has.new _ _ _
  have K0 := (KS.refl h).fresh F0
  have FM := cformat_any K0.M (by omega : x < 18446744073709551616) a0 a1
  have HNUM : Hid (num = .pointer (some ⟨a2, 0, none⟩)) := hnum
  rw [hnum] at FM
  have hx' : ¬ (9218868437227405312 : Int) ≤ (x : Int) := by omega
  have HK0 : Hid (KS bc w o C sx num W0 o A C c) := K0
  have d0 := hB.cell 0
  have d1 := hB.cell 1
  have d2 := hB.cell 2
  have dl := hB.lt
  simp only [List.getElem?_toArray, List.getElem?_cons_succ, List.getElem?_cons_zero] at d0 d1 d2
  have hl := fmt_len x (by omega)
  have HX : Hid (x < 9218868437227405312) := hx
  clear h F0 hB hnum K0 hx
  go_enter Tryz.func10, Tryz.ntmps10
  go_wp2_with fail
  refine FM.mono ?_
  rintro e' w1 ⟨rfl, o1, A1, M1, S1⟩
  have HK1 : Hid (KS bc w o C sx num w1 o1 A1 C c) := by
    refine ⟨?_, rfl, rfl, HK0.out.S.trans S1⟩
    rw [HNUM.out]
    exact M1
  clear FM M1 S1 d0 d1 d2 dl e0 HW0 hb4
  obtain ⟨tx, HTX⟩ : ∃ t, Hid (fmtN x = t) := ⟨_, rfl⟩
  rw [HTX.out] at hl
  rw [HTX.out]
  by_cases hk : 1 ≤ k ∧ k ≤ 39
  · obtain ⟨j, rfl⟩ : ∃ j : Nat, k = (j : Int) := ⟨k.toNat, by omega⟩
    have SG := saying_any (w := w1) (k := j) (by omega) tx (by omega)
    have SO := say_all HX.out (k := j) (by omega)
    rw [HTX.out] at SO
    have HNE : Hid ((sayP j tx).1 ≠ [] ∧ (sayP j tx).2.1 ≤ 1000) := by
      have h : ∀ j, 1 ≤ j ∧ j ≤ 39 → (sayP j tx).1 ≠ [] ∧ (sayP j tx).2.1 ≤ 1000 := by
        intro j hj
        have h : j = 1 ∨ j = 2 ∨ j = 3 ∨ j = 4 ∨ j = 5 ∨ j = 6 ∨ j = 7 ∨ j = 8 ∨ j = 9 ∨ j = 10 ∨ j = 11 ∨ j = 12 ∨ j = 13 ∨ j = 14 ∨ j = 15 ∨ j = 16 ∨ j = 17 ∨ j = 18 ∨ j = 19 ∨ j = 20 ∨ j = 21 ∨ j = 22 ∨ j = 23 ∨ j = 24 ∨ j = 25 ∨ j = 26 ∨ j = 27 ∨ j = 28 ∨ j = 29 ∨ j = 30 ∨ j = 31 ∨ j = 32 ∨ j = 33 ∨ j = 34 ∨ j = 35 ∨ j = 36 ∨ j = 37 ∨ j = 38 ∨ j = 39 := by omega
        rcases h with rfl | rfl | rfl | rfl | rfl | rfl | rfl | rfl | rfl | rfl | rfl | rfl | rfl | rfl | rfl | rfl | rfl | rfl | rfl | rfl | rfl | rfl | rfl | rfl | rfl | rfl | rfl | rfl | rfl | rfl | rfl | rfl | rfl | rfl | rfl | rfl | rfl | rfl | rfl <;> exact ⟨fun h => (by injection h), Nat.le_of_ble_eq_true rfl⟩
      exact h j (by omega)
    obtain ⟨img, hi, r1, r2⟩ := SO
    have HE : Hid (∀ (fuel : Int) (an : AnD), runN 201 img fuel = some an → (∀ img', imageP (sayP j tx).1 = .inr img' → runN 201 img' fuel = some an) ∧ ∀ y, imageP (sayP j tx).1 = .inl y → an = ⟨y.1, y.2, 0, [], []⟩) := fun fuel an hn => ⟨fun img' h' => (by rw [hi] at h'; cases h'; exact hn), fun y h' => (by rw [hi] at h'; cases h')⟩
    have H1 := HE.out _ _ r1
    have H2 := HE.out _ _ r2
    have hfu := HNE.out.2
    have hne := HNE.out.1
    generalize sayP j tx = say at *
    obtain ⟨sr, fu, ou, sh⟩ := say
    dsimp only at SG H1 H2 hfu hne
    have hne' : (sr == []) = false := by simpa using hne
    have HH1 : Hid ((∀ img', imageP sr = .inr img' → runN 201 img' (fu : Int) = some ⟨0, 0, 0, ou, showV nilV⟩) ∧ ∀ y, imageP sr = .inl y → (⟨0, 0, 0, ou, showV nilV⟩ : AnD) = ⟨y.1, y.2, 0, [], []⟩) := H1
    have HH2 : Hid ((∀ img', imageP sr = .inr img' → runN 201 img' ((fu : Int) - 1) = some ⟨9, 0, 0, sh, [45]⟩) ∧ ∀ y, imageP sr = .inl y → (⟨9, 0, 0, sh, [45]⟩ : AnD) = ⟨y.1, y.2, 0, [], []⟩) := H2
    clear hi r1 r2 H1 H2 HE HNE hk hx'
    obtain ⟨sn, HSN⟩ : ∃ t, Hid (showV nilV = t) := ⟨_, rfl⟩
    rw [HSN.out] at HH1
    have SV : Hid (∀ w, Calls Tryz.prog 27 #[.agg #[.int .i64 0, .int .u64 0, sv []]] w fun e w' => e = .returned (sv sn) ∧ Fr (fun _ => False) w w') := fun w => by
      rw [← HSN.out]
      exact showVal_any (w := w) 0 0 [] (by decide) (by decide) (by simp)
    go_wp2_with fail
    refine SG.mono ?_
    rintro e' w2 ⟨rfl, hw2⟩
    rw [hw2]
    clear hw2 w2 SG
    go_wp2_with fail
    refine (SV.out _).mono ?_
    rintro e' w2 ⟨rfl, F2⟩
    have K2 := HK1.out.fresh F2
    have RUN1 := K2.runC (by omega : (fu : Int) ≤ 9223372036854775807) HH1.out.1 HH1.out.2
    clear K2 F2
    go_wp2_with fail
    refine RUN1.mono ?_
    rintro e' w3 ⟨rfl, o3, A3, C3, c3, K3, T3⟩
    clear RUN1
    obtain ⟨W3, HW3⟩ : ∃ W, Hid (w3.alloc (.cells #[.int .i64 0, .int .i64 0, .int .i64 0, sv ou, sv sn] 54) = W) := ⟨_, Eq.refl _⟩
    have e3 : w3.alloc (.cells #[.int .i64 0, .int .i64 0, .int .i64 0, sv ou, sv sn] 54) = W3 := HW3.out
    obtain ⟨b8, hb8⟩ : ∃ b, w3.heap.size = b := ⟨_, rfl⟩
    have F3 : Fr (fun _ => False) w3 W3 := by rw [← HW3.out]; exact (Fr.refl _ _).alloc _
    have hb : Has W3 b8 #[.int .i64 0, .int .i64 0, .int .i64 0, sv ou, sv sn] 54 := by rw [← HW3.out, ← hb8]; exact Has.new _ _ _
    have K3 := K3.fresh F3
    have RUN2 := K3.runC (by omega : (fu : Int) - 1 ≤ 9223372036854775807) HH2.out.1 HH2.out.2
    have m0 := hb.cell 0
    have m1 := hb.cell 1
    have m2 := hb.cell 2
    have m3 := hb.cell 3
    have m4 := hb.cell 4
    have ml := hb.lt
    simp only [List.getElem?_toArray, List.getElem?_cons_succ, List.getElem?_cons_zero] at m0 m1 m2 m3 m4
    clear K3 T3 F3 hb HW3
    go_wp2_with fail
    refine RUN2.mono ?_
    rintro e' w5 ⟨rfl, o5, A5, C5, c5, K5, T5⟩
    clear RUN2 m0 m1 m2 m3 m4 ml e3 hb8
    obtain ⟨W5, HW5⟩ : ∃ W, Hid (w5.alloc (.cells #[.int .i64 9, .int .i64 0, .int .i64 0, sv sh, sv [45]] 54) = W) := ⟨_, Eq.refl _⟩
    have e5 : w5.alloc (.cells #[.int .i64 9, .int .i64 0, .int .i64 0, sv sh, sv [45]] 54) = W5 := HW5.out
    obtain ⟨b9, hb9⟩ : ∃ b, w5.heap.size = b := ⟨_, rfl⟩
    have F5 : Fr (fun _ => False) w5 W5 := by rw [← HW5.out]; exact (Fr.refl _ _).alloc _
    have hb : Has W5 b9 #[.int .i64 9, .int .i64 0, .int .i64 0, sv sh, sv [45]] 54 := by rw [← HW5.out, ← hb9]; exact Has.new _ _ _
    have HF : Hid (KpQ bc w o C sx num (.returned (.bool true)) W5) := (K5.fresh F5).fin
    have m0 := hb.cell 0
    have m1 := hb.cell 1
    have m2 := hb.cell 2
    have m3 := hb.cell 3
    have m4 := hb.cell 4
    have ml := hb.lt
    simp only [List.getElem?_toArray, List.getElem?_cons_succ, List.getElem?_cons_zero] at m0 m1 m2 m3 m4
    clear K5 T5 F5 hb HW5
    go_wp2_with fail
    go_ret
    exact HF.out
  · have SG := saying_no (w := w1) k (by omega) tx (by omega)
    have HF : Hid (KpQ bc w o C sx num (.returned (.bool true)) w1) := HK1.out.fin
    clear hk hx'
    go_wp2_with fail
    refine SG.mono ?_
    rintro e' w2 ⟨rfl, hw2⟩
    rw [hw2]
    clear hw2 w2 SG
    go_wp2_with fail
    go_ret
    exact HF.out
end
end Go.Proofs.Qxb6500574aGreatDoor
