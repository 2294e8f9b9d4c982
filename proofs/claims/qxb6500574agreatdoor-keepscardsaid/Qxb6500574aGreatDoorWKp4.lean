/-
  THE WALK of complaw: KeptRun, where the text has an error.
-/
import Derived.Test.Qxb6500574aGreatDoorWKp3
namespace Go.Proofs.Qxb6500574aGreatDoor
open Go Go.RowKit
set_option linter.unusedVariables false
set_option linter.unusedSimpArgs false
section
set_option maxRecDepth 100000
set_option maxHeartbeats 1000000
variable {bc sx : Nat} {w : World} {o : Nat → Nat} {C : CC} {num : Value} {A : VL} {c : CmD}
theorem krun_err (h : CM bc w o A C sx num c) {s : Bs} {fuel : Int} (hf1 : fuel ≤ 9223372036854775807) {e p : Nat} (hi : imageP s = .inl (e, p)) (hs : SynE e) (hp : p ≤ s.length) (h1 : e = 1 ↔ 2048 < s.length) :
    Calls Tryz.prog 8 #[.pointer (some ⟨C.cb, 0, none⟩), sv s, .int .i64 fuel] w (KpQ bc w o C sx num) := by
  have hql := ans_eql
  have hqn := ans_neq
  have SYN : Hid (∀ w, Calls Tryz.prog 20 #[.int .i64 e] w fun e' w' => e' = .returned (.bool true) ∧ w' = w) := fun w => syn_yes e hs
  obtain ⟨z, s0, t0, HZ⟩ : ∃ (z : Nat) (s0 t0 : Bs), Hid (z = 0 ∧ s0 = [] ∧ t0 = []) := ⟨0, [], [], rfl, rfl, rfl⟩
  have HE : Hid (∀ (n : Nat) (fuel : Int), (∀ img, imageP s = .inr img → runN n img fuel = some ⟨e, p, z, s0, t0⟩) ∧ ∀ y, imageP s = .inl y → (⟨e, p, z, s0, t0⟩ : AnD) = ⟨y.1, y.2, 0, [], []⟩) := fun n fuel => ⟨fun img h' => (by rw [hi] at h'; cases h'), fun y h' => (by rw [hi] at h'; cases h'; obtain ⟨h1, h2, h3⟩ := HZ.out; rw [h1, h2, h3])⟩
  have RUN1 := (KS.refl h).runC hf1 (HE.out 0 fuel).1 (HE.out 0 fuel).2
  have hb1 : ((e : Int) == 1) = decide ((2048 : Int) < (s.length : Int)) := by
    rw [Bool.eq_iff_iff]
    simp only [beq_iff_eq, decide_eq_true_eq]
    constructor
    · intro x; have := h1.1 (by omega); omega
    · intro x; have := h1.2 (by omega); omega
  have hp' : (p : Int) ≤ (s.length : Int) := by omega
  obtain ⟨SL, HSL⟩ : ∃ v : Nat, Hid (s.length = v) := ⟨_, rfl⟩
  obtain ⟨B, HB⟩ : ∃ v : Bool, Hid (((e : Int) == 1) = v) := ⟨_, rfl⟩
  have hb2 := HB.out
  rw [HB.out] at hb1
  clear hs hp h1 hi h
  go_enter Tryz.func8, Tryz.ntmps8
  go_wp2_with fail
  refine RUN1.mono ?_
  rintro e' w1 ⟨rfl, o1, A1, C1, c1, K1, _⟩
  clear RUN1
  obtain ⟨W1, HW1⟩ : ∃ W, Hid (w1.alloc (.cells #[.int .i64 e, .int .i64 p, .int .i64 z, sv s0, sv t0] 54) = W) := ⟨_, Eq.refl _⟩
  have e1 : w1.alloc (.cells #[.int .i64 e, .int .i64 p, .int .i64 z, sv s0, sv t0] 54) = W1 := HW1.out
  obtain ⟨b7, hb7⟩ : ∃ b, w1.heap.size = b := ⟨_, rfl⟩
  have F1 : Fr (fun _ => False) w1 W1 := by rw [← HW1.out]; exact (Fr.refl _ _).alloc _
  have ha : Has W1 b7 #[.int .i64 e, .int .i64 p, .int .i64 z, sv s0, sv t0] 54 := by rw [← HW1.out, ← hb7]; exact Has.new _ _ _
  have oa : o1 b7 = 0 := by rw [← hb7]; exact K1.own
  have K1 := K1.fresh F1
  have LF := K1.leftC
  have CK := K1.checkC
  have HK1 : Hid (KS bc w o C sx num W1 o1 A1 C1 c1) := K1
  have HA : Hid (Has W1 b7 #[.int .i64 e, .int .i64 p, .int .i64 z, sv s0, sv t0] 54) := ha
  clear K1 ha F1
  go_wp2_with fail
  refine LF.mono ?_
  rintro e' w2 ⟨rfl, hw2⟩
  rw [hw2]
  clear hw2 w2 LF
  go_wp2_with fail
  refine CK.mono ?_
  rintro e' w2 ⟨rfl, F2⟩
  have K2 := HK1.out.fresh F2
  have ha := HA.out.fr F2 (fun x => x)
  have RUN2 := K2.runC hf1 (HE.out 0 fuel).1 (HE.out 0 fuel).2
  clear K2 CK F2 HA HK1 e1 HW1 hb7
  have HA : Hid (Has w2 b7 #[.int .i64 e, .int .i64 p, .int .i64 z, sv s0, sv t0] 54) := ha
  clear ha
  go_wp2_with fail
  refine RUN2.mono ?_
  rintro e' w3 ⟨rfl, o3, A3, C3, c3, K3, T3⟩
  clear RUN2
  obtain ⟨ha, oa⟩ := keep0M HA.out oa T3
  obtain ⟨W3, HW3⟩ : ∃ W, Hid (w3.alloc (.cells #[.int .i64 e, .int .i64 p, .int .i64 z, sv s0, sv t0] 54) = W) := ⟨_, Eq.refl _⟩
  have e3 : w3.alloc (.cells #[.int .i64 e, .int .i64 p, .int .i64 z, sv s0, sv t0] 54) = W3 := HW3.out
  obtain ⟨b8, hb8⟩ : ∃ b, w3.heap.size = b := ⟨_, rfl⟩
  have F3 : Fr (fun _ => False) w3 W3 := by rw [← HW3.out]; exact (Fr.refl _ _).alloc _
  have hb : Has W3 b8 #[.int .i64 e, .int .i64 p, .int .i64 z, sv s0, sv t0] 54 := by rw [← HW3.out, ← hb8]; exact Has.new _ _ _
  have ha := ha.fr F3 (fun x => x)
  have K3 := K3.fresh F3
  have RUN3 := K3.runC (by omega : (0 : Int) ≤ 9223372036854775807) (HE.out 0 0).1 (HE.out 0 0).2
  have HA : Hid (Has W3 b7 #[.int .i64 e, .int .i64 p, .int .i64 z, sv s0, sv t0] 54) := ha
  have a0 := ha.cell 0
  have a1 := ha.cell 1
  have a2 := ha.cell 2
  have a3 := ha.cell 3
  have a4 := ha.cell 4
  have al := ha.lt
  have m0 := hb.cell 0
  have m1 := hb.cell 1
  have m2 := hb.cell 2
  have m3 := hb.cell 3
  have m4 := hb.cell 4
  have ml := hb.lt
  simp only [List.getElem?_toArray, List.getElem?_cons_succ, List.getElem?_cons_zero] at a0 a1 a2 a3 a4 m0 m1 m2 m3 m4
  clear K3 T3 F3 ha hb HW3
  go_wp2_with fail
  refine (SYN.out _).mono ?_
  rintro e' w4 ⟨rfl, hw4⟩
  rw [hw4]
  clear hw4 w4
  go_wp2_with fail
  refine RUN3.mono ?_
  rintro e' w5 ⟨rfl, o5, A5, C5, c5, K5, T5⟩
  clear RUN3 a0 a1 a2 a3 a4 al m0 m1 m2 m3 m4 ml
  obtain ⟨ha, oa⟩ := keep0M HA.out oa T5
  obtain ⟨W5, HW5⟩ : ∃ W, Hid (w5.alloc (.cells #[.int .i64 e, .int .i64 p, .int .i64 z, sv s0, sv t0] 54) = W) := ⟨_, Eq.refl _⟩
  have e5 : w5.alloc (.cells #[.int .i64 e, .int .i64 p, .int .i64 z, sv s0, sv t0] 54) = W5 := HW5.out
  obtain ⟨b9, hb9⟩ : ∃ b, w5.heap.size = b := ⟨_, rfl⟩
  have F5 : Fr (fun _ => False) w5 W5 := by rw [← HW5.out]; exact (Fr.refl _ _).alloc _
  have hb : Has W5 b9 #[.int .i64 e, .int .i64 p, .int .i64 z, sv s0, sv t0] 54 := by rw [← HW5.out, ← hb9]; exact Has.new _ _ _
  have ha := ha.fr F5 (fun x => x)
  have HF : Hid (KpQ bc w o C sx num (.returned (.bool true)) W5) := (K5.fresh F5).fin
  have a0 := ha.cell 0
  have a1 := ha.cell 1
  have a2 := ha.cell 2
  have a3 := ha.cell 3
  have a4 := ha.cell 4
  have al := ha.lt
  have m0 := hb.cell 0
  have m1 := hb.cell 1
  have m2 := hb.cell 2
  have m3 := hb.cell 3
  have m4 := hb.cell 4
  have ml := hb.lt
  simp only [List.getElem?_toArray, List.getElem?_cons_succ, List.getElem?_cons_zero] at a0 a1 a2 a3 a4 m0 m1 m2 m3 m4
  clear K5 T5 F5 ha hb HW5 HA
  go_wp2_with fail
  all_goals first
    | (exfalso; first | exact absurd HZ.out.2.2 (by assumption) | exact absurd HZ.out.2.1 (by assumption) | exact absurd HZ.out.1 (by assumption))
    | (go_ret; exact HF.out)
end
end Go.Proofs.Qxb6500574aGreatDoor
