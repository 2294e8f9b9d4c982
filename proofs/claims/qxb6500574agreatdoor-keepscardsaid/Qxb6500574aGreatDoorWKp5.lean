/-
  THE WALK of complaw: KeptRun, where the text is sound (written by tools/gen_krun.py).
-/
import Derived.Test.Qxb6500574aGreatDoorWKp3
namespace Go.Proofs.Qxb6500574aGreatDoor
open Go Go.RowKit
set_option linter.unusedVariables false
set_option linter.unusedSimpArgs false
section
set_option maxRecDepth 100000
set_option maxHeartbeats 1000000
variable {bc sx : Nat} {w : World} {o : Nat → Nat} {C : CC} {num : Value} {A : VL} {c : CmD}
theorem krun_ok (h : CM bc w o A C sx num c) {s : Bs} {fuel : Int} (hf0 : -9223372036854775808 ≤ fuel) (hf1 : fuel ≤ 9223372036854775807) {img : Bs} (hi : imageP s = .inr img) (hl : s.length ≤ 2048) {n : Nat} {ae aN am : Nat} {as1 at1 : Bs} (hr : runN n img fuel = some ⟨ae, aN, am, as1, at1⟩) (RK : RunK img fuel ⟨ae, aN, am, as1, at1⟩) :
    Calls Tryz.prog 8 #[.pointer (some ⟨C.cb, 0, none⟩), sv s, .int .i64 fuel] w (KpQ bc w o C sx num) := by
  have hql := ans_eql
  have hqn := ans_neq
  have SYN : Hid (∀ w, Calls Tryz.prog 20 #[.int .i64 ae] w fun e' w' => e' = .returned (.bool false) ∧ w' = w) := fun w => syn_no ae RK.e
  have END : Hid (∀ w, Calls Tryz.prog 21 #[.int .i64 ae] w fun e' w' => e' = .returned (.bool true) ∧ w' = w) := fun w => cending_any ae RK.e
  have HE : Hid (∀ (n : Nat) (fuel : Int) (an : AnD), runN n img fuel = some an → (∀ img', imageP s = .inr img' → runN n img' fuel = some an) ∧ ∀ y, imageP s = .inl y → an = ⟨y.1, y.2, 0, [], []⟩) := fun n fuel an hn => ⟨fun img' h' => (by rw [hi] at h'; cases h'; exact hn), fun y h' => (by rw [hi] at h'; cases h')⟩
  have HR0 := HE.out n fuel _ hr
  have RUN1 := (KS.refl h).runC hf1 HR0.1 HR0.2
  have HRN : Hid (runN n img fuel = some ⟨ae, aN, am, as1, at1⟩) := hr
  have HRK : Hid (RunK img fuel ⟨ae, aN, am, as1, at1⟩) := RK
  have he1 : ((ae : Int) == 1) = false := by rw [beq_eq_false_iff_ne]; have := RK.e; dsimp only at this; omega
  have hl' : ¬ (2048 : Int) < (s.length : Int) := by omega
  have ht0 : (at1 == []) = false := by
    have := RK.t
    dsimp only at this
    simpa using this
  have ht1 : ¬ at1 = [] := RK.t
  have hm1 : ¬ ((am : Int) < 0) := by omega
  have hm2 : ¬ (5 ≤ (am : Int)) := by have := RK.m; dsimp only at this; omega
  have hN0 : ¬ ((aN : Int) < 0) := by omega
  have hNf : 0 < (aN : Int) → ¬ fuel < (aN : Int) := fun x => by have := RK.n; dsimp only at this; omega
  have haN : (aN : Int) ≤ 9223372036854775807 := by have := RK.n; dsimp only at this; omega
  clear h hi hl RK hr HR0
  go_enter Tryz.func8, Tryz.ntmps8
  go_wp2_with fail
  refine RUN1.mono ?_
  rintro e' w1 ⟨rfl, o1, A1, C1, c1, K1, _⟩
  clear RUN1
  obtain ⟨W1, HW1⟩ : ∃ W, Hid (w1.alloc (.cells #[.int .i64 ae, .int .i64 aN, .int .i64 am, sv as1, sv at1] 54) = W) := ⟨_, Eq.refl _⟩
  have e1 : w1.alloc (.cells #[.int .i64 ae, .int .i64 aN, .int .i64 am, sv as1, sv at1] 54) = W1 := HW1.out
  obtain ⟨b7, hb7⟩ : ∃ b, w1.heap.size = b := ⟨_, rfl⟩
  have F1 : Fr (fun _ => False) w1 W1 := by rw [← HW1.out]; exact (Fr.refl _ _).alloc _
  have ha : Has W1 b7 #[.int .i64 ae, .int .i64 aN, .int .i64 am, sv as1, sv at1] 54 := by rw [← HW1.out, ← hb7]; exact Has.new _ _ _
  have oa : o1 b7 = 0 := by rw [← hb7]; exact K1.own
  have K1 := K1.fresh F1
  have LF := K1.leftC
  have CK := K1.checkC
  have HK1 : Hid (KS bc w o C sx num W1 o1 A1 C1 c1) := K1
  have HA : Hid (Has W1 b7 #[.int .i64 ae, .int .i64 aN, .int .i64 am, sv as1, sv at1] 54) := ha
  clear K1 ha F1
  go_wp2_with fail
  refine LF.mono ?_
  rintro e' w2 ⟨rfl, hw2⟩
  rw [hw2]
  clear hw2 w2 LF
  go_wp2_with fail
  refine CK.mono ?_
  rintro e' w2 ⟨rfl, F2⟩
  have K2 := HK1.out.fresh F2
  have ha := HA.out.fr F2 (fun x => x)
  have HR0 := HE.out n fuel _ HRN.out
  have RUN2 := K2.runC hf1 HR0.1 HR0.2
  clear K2 CK F2 HA HK1 e1 HW1 hb7 HR0
  have HA : Hid (Has w2 b7 #[.int .i64 ae, .int .i64 aN, .int .i64 am, sv as1, sv at1] 54) := ha
  clear ha
  go_wp2_with fail
  refine RUN2.mono ?_
  rintro e' w3 ⟨rfl, o3, A3, C3, c3, K3, T3⟩
  clear RUN2
  obtain ⟨ha, oa⟩ := keep0M HA.out oa T3
  obtain ⟨W3, HW3⟩ : ∃ W, Hid (w3.alloc (.cells #[.int .i64 ae, .int .i64 aN, .int .i64 am, sv as1, sv at1] 54) = W) := ⟨_, Eq.refl _⟩
  have e3 : w3.alloc (.cells #[.int .i64 ae, .int .i64 aN, .int .i64 am, sv as1, sv at1] 54) = W3 := HW3.out
  obtain ⟨b8, hb8⟩ : ∃ b, w3.heap.size = b := ⟨_, rfl⟩
  have F3 : Fr (fun _ => False) w3 W3 := by rw [← HW3.out]; exact (Fr.refl _ _).alloc _
  have hb : Has W3 b8 #[.int .i64 ae, .int .i64 aN, .int .i64 am, sv as1, sv at1] 54 := by rw [← HW3.out, ← hb8]; exact Has.new _ _ _
  have ha := ha.fr F3 (fun x => x)
  have HK3 : Hid (KS bc w o C sx num W3 o3 A3 C3 c3) := K3.fresh F3
  have HA : Hid (Has W3 b7 #[.int .i64 ae, .int .i64 aN, .int .i64 am, sv as1, sv at1] 54) := ha
  have a0 := ha.cell 0
  have a1 := ha.cell 1
  have a2 := ha.cell 2
  have a3 := ha.cell 3
  have a4 := ha.cell 4
  have al := ha.lt
  have m0 := hb.cell 0
  have m1 := hb.cell 1
  have m2 := hb.cell 2
  have m3 := hb.cell 3
  have m4 := hb.cell 4
  have ml := hb.lt
  simp only [List.getElem?_toArray, List.getElem?_cons_succ, List.getElem?_cons_zero] at a0 a1 a2 a3 a4 m0 m1 m2 m3 m4
  clear K3 T3 F3 ha hb HW3
  go_wp2_with fail
  refine (SYN.out _).mono ?_
  rintro e' w4 ⟨rfl, hw4⟩
  rw [hw4]
  clear hw4 w4
  go_wp2_with fail
  refine (END.out _).mono ?_
  rintro e' w4 ⟨rfl, hw4⟩
  rw [hw4]
  clear hw4 w4 m0 m1 m2 m3 m4 ml e3 hb8
  by_cases hfn : fuel < 0
  · have hs0 : as1 = [] := HRK.out.z (by omega)
    have hle : fuel ≤ 0 := by omega
    subst hs0
    by_cases hN1 : 0 < (aN : Int)
    · exact absurd (by have := HRK.out.n; dsimp only at this; omega : (aN : Int) ≤ 0) (by omega)
    go_wp2_with fail
    go_ret
    exact HK3.out.fin
  by_cases hbig : 4611686018427387904 ≤ fuel
  · have hle : ¬ fuel ≤ 0 := by omega
    by_cases hN1 : 0 < (aN : Int)
    · have hNf := hNf hN1
      go_wp2_with fail
      go_ret
      exact HK3.out.fin
    · clear hNf
      go_wp2_with fail
      go_ret
      exact HK3.out.fin
  have hf62 : fuel + 1 ≤ 9223372036854775807 := by omega
  have hfz : 0 ≤ fuel := by omega
  by_cases hN1 : 0 < (aN : Int)
  · have hNf := hNf hN1
    have hle : ¬ fuel ≤ 0 := by have := HRK.out.n; dsimp only at this; omega
    obtain ⟨n2, ⟨be, bN, bm, bs1, bt1⟩, hb2, h9, hn9⟩ := HRK.out.k hfz
    dsimp only at h9 hn9
    have HR1 := HE.out n2 (fuel + 1) _ hb2
    have RUN3 := HK3.out.runC hf62 HR1.1 HR1.2
    clear hb2 HR1
    go_wp2_with fail
    refine RUN3.mono ?_
    rintro e' w5 ⟨rfl, o5, A5, C5, c5, K5, T5⟩
    clear RUN3 a0 a1 a2 a3 a4 al
    obtain ⟨ha, oa⟩ := keep0M HA.out oa T5
    obtain ⟨W5, HW5⟩ : ∃ W, Hid (w5.alloc (.cells #[.int .i64 be, .int .i64 bN, .int .i64 bm, sv bs1, sv bt1] 54) = W) := ⟨_, Eq.refl _⟩
    have e5 : w5.alloc (.cells #[.int .i64 be, .int .i64 bN, .int .i64 bm, sv bs1, sv bt1] 54) = W5 := HW5.out
    obtain ⟨b9, hb9⟩ : ∃ b, w5.heap.size = b := ⟨_, rfl⟩
    have F5 : Fr (fun _ => False) w5 W5 := by rw [← HW5.out]; exact (Fr.refl _ _).alloc _
    have hb : Has W5 b9 #[.int .i64 be, .int .i64 bN, .int .i64 bm, sv bs1, sv bt1] 54 := by rw [← HW5.out, ← hb9]; exact Has.new _ _ _
    have ha := ha.fr F5 (fun x => x)
    have HF : Hid (KpQ bc w o C sx num (.returned (.bool true)) W5) := (K5.fresh F5).fin
    have a0 := ha.cell 0
    have a1 := ha.cell 1
    have a2 := ha.cell 2
    have a3 := ha.cell 3
    have a4 := ha.cell 4
    have al := ha.lt
    have m0 := hb.cell 0
    have m1 := hb.cell 1
    have m2 := hb.cell 2
    have m3 := hb.cell 3
    have m4 := hb.cell 4
    have ml := hb.lt
    simp only [List.getElem?_toArray, List.getElem?_cons_succ, List.getElem?_cons_zero] at a0 a1 a2 a3 a4 m0 m1 m2 m3 m4
    clear K5 T5 F5 ha hb HW5 HA HK3
    by_cases e9 : ae = 9
    · have PR := cprefix_any (w := W5) as1 bs1 (h9 e9)
      have e9' : ((ae : Int) == 9) = true := by simp [e9]
      clear h9 hn9 e9
      go_wp2_with fail
      refine PR.mono ?_
      rintro e' w6 ⟨rfl, hw6⟩
      rw [hw6]
      clear hw6 w6 PR
      go_wp2_with fail
      go_ret
      exact HF.out
    · have e9' : ((ae : Int) == 9) = false := by rw [beq_eq_false_iff_ne]; omega
      have hbe := hn9 e9
      simp only [AnD.mk.injEq] at hbe
      obtain ⟨rfl, rfl, rfl, rfl, rfl⟩ := hbe
      rw [show ((aN + 1 : Nat) : Int) = (aN : Int) + 1 from rfl] at m1 e5
      clear h9 hn9 e9
      have haN2 : (aN : Int) + 1 ≤ 9223372036854775807 := by have := HRK.out.n; dsimp only at this; omega
      go_wp2_with fail
      go_ret
      exact HF.out
  · clear hNf
    by_cases hle : fuel ≤ 0
    · have hs0 : as1 = [] := HRK.out.z hle
      subst hs0
      obtain ⟨n2, ⟨be, bN, bm, bs1, bt1⟩, hb2, h9, hn9⟩ := HRK.out.k hfz
      dsimp only at h9 hn9
      have HR1 := HE.out n2 (fuel + 1) _ hb2
      have RUN3 := HK3.out.runC hf62 HR1.1 HR1.2
      clear hb2 HR1
      go_wp2_with fail
      refine RUN3.mono ?_
      rintro e' w5 ⟨rfl, o5, A5, C5, c5, K5, T5⟩
      clear RUN3 a0 a1 a2 a3 a4 al
      obtain ⟨ha, oa⟩ := keep0M HA.out oa T5
      obtain ⟨W5, HW5⟩ : ∃ W, Hid (w5.alloc (.cells #[.int .i64 be, .int .i64 bN, .int .i64 bm, sv bs1, sv bt1] 54) = W) := ⟨_, Eq.refl _⟩
      have e5 : w5.alloc (.cells #[.int .i64 be, .int .i64 bN, .int .i64 bm, sv bs1, sv bt1] 54) = W5 := HW5.out
      obtain ⟨b9, hb9⟩ : ∃ b, w5.heap.size = b := ⟨_, rfl⟩
      have F5 : Fr (fun _ => False) w5 W5 := by rw [← HW5.out]; exact (Fr.refl _ _).alloc _
      have hb : Has W5 b9 #[.int .i64 be, .int .i64 bN, .int .i64 bm, sv bs1, sv bt1] 54 := by rw [← HW5.out, ← hb9]; exact Has.new _ _ _
      have ha := ha.fr F5 (fun x => x)
      have HF : Hid (KpQ bc w o C sx num (.returned (.bool true)) W5) := (K5.fresh F5).fin
      have a0 := ha.cell 0
      have a1 := ha.cell 1
      have a2 := ha.cell 2
      have a3 := ha.cell 3
      have a4 := ha.cell 4
      have al := ha.lt
      have m0 := hb.cell 0
      have m1 := hb.cell 1
      have m2 := hb.cell 2
      have m3 := hb.cell 3
      have m4 := hb.cell 4
      have ml := hb.lt
      simp only [List.getElem?_toArray, List.getElem?_cons_succ, List.getElem?_cons_zero] at a0 a1 a2 a3 a4 m0 m1 m2 m3 m4
      clear K5 T5 F5 ha hb HW5 HA HK3
      by_cases e9 : ae = 9
      · have PR := cprefix_any (w := W5) [] bs1 (h9 e9)
        have e9' : ((ae : Int) == 9) = true := by simp [e9]
        clear h9 hn9 e9
        go_wp2_with fail
        refine PR.mono ?_
        rintro e' w6 ⟨rfl, hw6⟩
        rw [hw6]
        clear hw6 w6 PR
        go_wp2_with fail
        go_ret
        exact HF.out
      · have e9' : ((ae : Int) == 9) = false := by rw [beq_eq_false_iff_ne]; omega
        have hbe := hn9 e9
        simp only [AnD.mk.injEq] at hbe
        obtain ⟨rfl, rfl, rfl, rfl, rfl⟩ := hbe
        rw [show ((aN + 1 : Nat) : Int) = (aN : Int) + 1 from rfl] at m1 e5
        clear h9 hn9 e9
        have haN2 : (aN : Int) + 1 ≤ 9223372036854775807 := by have := HRK.out.n; dsimp only at this; omega
        go_wp2_with fail
        go_ret
        exact HF.out
    · obtain ⟨n2, ⟨be, bN, bm, bs1, bt1⟩, hb2, h9, hn9⟩ := HRK.out.k hfz
      dsimp only at h9 hn9
      have HR1 := HE.out n2 (fuel + 1) _ hb2
      have RUN3 := HK3.out.runC hf62 HR1.1 HR1.2
      clear hb2 HR1
      go_wp2_with fail
      refine RUN3.mono ?_
      rintro e' w5 ⟨rfl, o5, A5, C5, c5, K5, T5⟩
      clear RUN3 a0 a1 a2 a3 a4 al
      obtain ⟨ha, oa⟩ := keep0M HA.out oa T5
      obtain ⟨W5, HW5⟩ : ∃ W, Hid (w5.alloc (.cells #[.int .i64 be, .int .i64 bN, .int .i64 bm, sv bs1, sv bt1] 54) = W) := ⟨_, Eq.refl _⟩
      have e5 : w5.alloc (.cells #[.int .i64 be, .int .i64 bN, .int .i64 bm, sv bs1, sv bt1] 54) = W5 := HW5.out
      obtain ⟨b9, hb9⟩ : ∃ b, w5.heap.size = b := ⟨_, rfl⟩
      have F5 : Fr (fun _ => False) w5 W5 := by rw [← HW5.out]; exact (Fr.refl _ _).alloc _
      have hb : Has W5 b9 #[.int .i64 be, .int .i64 bN, .int .i64 bm, sv bs1, sv bt1] 54 := by rw [← HW5.out, ← hb9]; exact Has.new _ _ _
      have ha := ha.fr F5 (fun x => x)
      have HF : Hid (KpQ bc w o C sx num (.returned (.bool true)) W5) := (K5.fresh F5).fin
      have a0 := ha.cell 0
      have a1 := ha.cell 1
      have a2 := ha.cell 2
      have a3 := ha.cell 3
      have a4 := ha.cell 4
      have al := ha.lt
      have m0 := hb.cell 0
      have m1 := hb.cell 1
      have m2 := hb.cell 2
      have m3 := hb.cell 3
      have m4 := hb.cell 4
      have ml := hb.lt
      simp only [List.getElem?_toArray, List.getElem?_cons_succ, List.getElem?_cons_zero] at a0 a1 a2 a3 a4 m0 m1 m2 m3 m4
      clear K5 T5 F5 ha hb HW5 HA HK3
      by_cases e9 : ae = 9
      · have PR := cprefix_any (w := W5) as1 bs1 (h9 e9)
        have e9' : ((ae : Int) == 9) = true := by simp [e9]
        clear h9 hn9 e9
        go_wp2_with fail
        refine PR.mono ?_
        rintro e' w6 ⟨rfl, hw6⟩
        rw [hw6]
        clear hw6 w6 PR
        go_wp2_with fail
        go_ret
        exact HF.out
      · have e9' : ((ae : Int) == 9) = false := by rw [beq_eq_false_iff_ne]; omega
        have hbe := hn9 e9
        simp only [AnD.mk.injEq] at hbe
        obtain ⟨rfl, rfl, rfl, rfl, rfl⟩ := hbe
        rw [show ((aN + 1 : Nat) : Int) = (aN : Int) + 1 from rfl] at m1 e5
        clear h9 hn9 e9
        have haN2 : (aN : Int) + 1 ≤ 9223372036854775807 := by have := HRK.out.n; dsimp only at this; omega
        go_wp2_with fail
        go_ret
        exact HF.out
end
end Go.Proofs.Qxb6500574aGreatDoor
