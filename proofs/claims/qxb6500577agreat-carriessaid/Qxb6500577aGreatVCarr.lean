/-
  THE WALK of colaw: Carried.
-/
import Derived.Test.Qxb6500577aGreatVProbeW
import Derived.Test.Qxb6500577aGreatVKept
import Derived.Test.Qxb6500577aGreatVUtoa
namespace Go.Proofs.Qxb6500577aGreat
open Go Go.RowKit
set_option linter.unusedVariables false
set_option linter.unusedSimpArgs false
section
variable {w : World} {A : VL} {bc : Nat}
set_option maxRecDepth 100000
set_option maxHeartbeats 2000000
theorem carried_any (I : Idle bc w A) (s t : Bs) (hs : s.length ≤ 40) (kd av ob oc : Int) (h1 : -9223372036854775808 ≤ av) (h2 : av ≤ 9223372036854775807) :
    Calls Tryz.prog 11 #[.pointer (some ⟨bc, 0, none⟩), .agg #[.int .i64 kd, .int .i64 av, .int .i64 ob, .int .i64 oc, sv s, sv t]] w (KpPost bc w A) := by
  obtain ⟨n1, an, hrn⟩ := run_ends (probe s (ob != 0)) av
  have hql := ans_eql
  -- the op's box
  obtain ⟨W0, HW0⟩ : ∃ W, Hid (w.alloc (.cells #[.int .i64 kd, .int .i64 av, .int .i64 ob, .int .i64 oc, sv s, sv t] 30) = W) := ⟨_, Eq.refl _⟩
  have e0 : w.alloc (.cells #[.int .i64 kd, .int .i64 av, .int .i64 ob, .int .i64 oc, sv s, sv t] 30) = W0 := HW0.out
  obtain ⟨bo, hbo⟩ : ∃ b, w.heap.size = b := ⟨_, rfl⟩
  have f0 : Fr (fun _ => False) w W0 := by rw [← HW0.out]; exact (Fr.refl _ _).alloc _
  have ho0 : Has W0 bo #[.int .i64 kd, .int .i64 av, .int .i64 ob, .int .i64 oc, sv s, sv t] 30 := by rw [← HW0.out, ← hbo]; exact Has.new _ _ _
  have oo0 : A.o bo = 0 := I.own _ (by omega)
  have nob : bo ≠ bc := by have := I.lt; omega
  have I0 := I.fresh f0
  have C0 : CSt bc w A W0 A := CSt.fresh f0
  have PR := probe_any (w := W0) s hs (ob != 0)
  have x2 := ho0.cell 2
  have x4 := ho0.cell 4
  have xl := ho0.lt
  simp only [List.getElem?_toArray, List.getElem?_cons_succ, List.getElem?_cons_zero] at x2 x4
  have HRN : Hid (runN n1 (probe s (ob != 0)) av = some an) := hrn
  have H0 : Hid (CSt bc w A W0 A ∧ Has W0 bo #[.int .i64 kd, .int .i64 av, .int .i64 ob, .int .i64 oc, sv s, sv t] 30 ∧ Idle bc W0 A) := ⟨C0, ho0, I0⟩
  clear hrn I f0 ho0 I0 C0 HW0
  go_enter Tryz.func11, Tryz.ntmps11
  go_wp2_with fail
  refine PR.mono ?_
  rintro e' w1 ⟨rfl, F1⟩
  have ho1 := H0.out.2.1.fr F1 (fun x => x)
  have C1 := H0.out.1.trans (CSt.fresh (bc := bc) F1)
  have I1 := H0.out.2.2.fresh F1
  have RUN1 := runC_any I1 h2 HRN.out
  clear PR e0 hbo x2 x4 xl
  have x1 := ho1.cell 1
  have xl := ho1.lt
  simp only [List.getElem?_toArray, List.getElem?_cons_succ, List.getElem?_cons_zero] at x1
  have H1 : Hid (CSt bc w A w1 A ∧ Has w1 bo #[.int .i64 kd, .int .i64 av, .int .i64 ob, .int .i64 oc, sv s, sv t] 30) := ⟨C1, ho1⟩
  obtain ⟨img, HIMG⟩ : ∃ img, Hid (probe s (ob != 0) = img) := ⟨_, rfl⟩
  rw [HIMG.out] at RUN1 ⊢
  clear ho1 C1 I1 F1 H0
  go_wp2_with fail
  refine RUN1.mono ?_
  rintro e' w2 ⟨rfl, A2, I2, C2⟩
  clear RUN1 x1 xl
  obtain ⟨ho2, oo2⟩ := C2.keep H1.out.2 oo0 nob
  have C2 := H1.out.1.trans C2
  obtain ⟨ae, aN, am, as', at'⟩ := an
  obtain ⟨W2, HW2⟩ : ∃ W, Hid (w2.alloc (.cells #[.int .i64 ae, .int .i64 aN, .int .i64 am, sv as', sv at'] 40) = W) := ⟨_, Eq.refl _⟩
  have e2 : w2.alloc (.cells #[.int .i64 ae, .int .i64 aN, .int .i64 am, sv as', sv at'] 40) = W2 := HW2.out
  obtain ⟨ba, hba⟩ : ∃ b, w2.heap.size = b := ⟨_, rfl⟩
  have f2 : Fr (fun _ => False) w2 W2 := by rw [← HW2.out]; exact (Fr.refl _ _).alloc _
  have ha2 : Has W2 ba #[.int .i64 ae, .int .i64 aN, .int .i64 am, sv as', sv at'] 40 := by rw [← HW2.out, ← hba]; exact Has.new _ _ _
  have ho2 := ho2.fr f2 (fun x => x)
  have J2 := I2.fresh f2
  have C2 := C2.trans (CSt.fresh (bc := bc) f2)
  have x1 := ho2.cell 1
  have x2 := ho2.cell 2
  have x4 := ho2.cell 4
  have xl := ho2.lt
  have a0 := ha2.cell 0
  have a1 := ha2.cell 1
  have a2 := ha2.cell 2
  have a3 := ha2.cell 3
  have a4 := ha2.cell 4
  have al := ha2.lt
  simp only [List.getElem?_toArray, List.getElem?_cons_succ, List.getElem?_cons_zero] at x1 x2 x4 a0 a1 a2 a3 a4
  have HF : Hid (∀ W, Fr (fun _ => False) W2 W → KpPost bc w A (.returned (.bool true)) W) := fun W hf => ⟨rfl, A2, J2.fresh hf, C2.trans (CSt.fresh (bc := bc) hf)⟩
  have HHS : Hid (Has W2 bo #[.int .i64 kd, .int .i64 av, .int .i64 ob, .int .i64 oc, sv s, sv t] 30 ∧ Has W2 ba #[.int .i64 ae, .int .i64 aN, .int .i64 am, sv as', sv at'] 40) := ⟨ho2, ha2⟩
  clear ho2 ha2 J2 C2 I2 f2 HW2 H1
  by_cases hb0 : ob = 0
  · subst hb0
    obtain ⟨RA, RB⟩ := run_at (B := 14) (by decide) (probe_ret s hs) HRN.out
    by_cases hlt : av < 14
    · obtain ⟨rfl, rfl, q3, rfl, q5⟩ := RA hlt
      have q3' : (am : Int) ≤ 2 := by have := q3; dsimp only at this; omega
      have q3'' : ¬ (2 : Int) < (am : Int) := by omega
      have PX : Hid (∀ w, Calls Tryz.prog 17 #[sv as', sv ([116, 114, 117, 101, 10] ++ (s ++ [10]) ++ [102, 97, 108, 115, 101, 10] ++ [116, 114, 117, 101, 10] ++ (s ++ [10]))] w fun e' w' => e' = .returned (.bool true) ∧ w' = w) := fun w => prefix_any (w := w) as' _ q5
      rw [show ((9 : Nat) : Int) = 9 from rfl] at a0 e2
      rw [show ((0 : Nat) : Int) = 0 from rfl] at a1 e2
      clear RA RB HRN q3 q5 hql HHS
      go_wp2_with fail
      simp only [ba_app]
      refine (PX.out _).mono ?_
      rintro e' w9 ⟨rfl, rfl⟩
      go_wp2_with fail
      go_ret
      exact HF.out _ (Fr.refl _ _)
    · have han := RB (by omega)
      simp only [AnD.mk.injEq] at han
      obtain ⟨rfl, hN, rfl, hO, hT⟩ := han
      have hN' : (aN : Int) = av - 14 := by omega
      have HHS' : Hid (Has W2 bo #[.int .i64 kd, .int .i64 av, .int .i64 0, .int .i64 oc, sv s, sv t] 30 ∧ Has W2 ba #[.int .i64 0, .int .i64 (av - 14), .int .i64 2, sv as', sv at'] 40) := by
        have := HHS.out
        rw [hN'] at this
        exact this
      rw [hN'] at a1
      rw [show ((0 : Nat) : Int) = 0 from rfl] at a0 e2
      rw [show ((2 : Nat) : Int) = 2 from rfl] at a2 e2
      have HO : Hid ([116, 114, 117, 101, 10] ++ (s ++ [10]) ++ [102, 97, 108, 115, 101, 10] ++ [116, 114, 117, 101, 10] ++ (s ++ [10]) = as') := hO.symm
      have SV : Hid (Calls Tryz.prog 19 #[(⟨3, 0, s⟩ : Vl).val] W2 fun e w' => e = .returned (sv at') ∧ Fr (fun _ => False) W2 w') := by
        rw [hT]
        exact showVal_any 3 0 s (by decide) (by decide) hs
      clear RA RB HRN hN hN' hO hT HHS
      go_wp2_with fail
      simp only [ba_app]
      rw [HO.out]
      refine SV.out.mono ?_
      rintro e' w9 ⟨rfl, f9⟩
      have HF9 : Hid (KpPost bc w A (.returned (.bool true)) w9) := HF.out _ f9
      have ho9 := HHS'.out.1.fr f9 (fun x => x)
      have ha9 := HHS'.out.2.fr f9 (fun x => x)
      clear e2 hba x1 x2 x4 xl a0 a1 a2 a3 a4 al HF HHS' SV HO f9
      have x1 := ho9.cell 1
      have xl := ho9.lt
      have a0 := ha9.cell 0
      have a1 := ha9.cell 1
      have a2 := ha9.cell 2
      have a3 := ha9.cell 3
      have a4 := ha9.cell 4
      have al := ha9.lt
      simp only [List.getElem?_toArray, List.getElem?_cons_succ, List.getElem?_cons_zero] at x1 a0 a1 a2 a3 a4
      clear ho9 ha9
      go_wp2_with fail
      go_ret
      exact HF9.out
  · have hb : (ob != 0) = true := by rw [bne_iff_ne]; exact hb0
    rw [hb] at HRN
    obtain ⟨RA, RB⟩ := run_at (B := 15) (by decide) (probe_err s hs) HRN.out
    by_cases hlt : av < 15
    · obtain ⟨rfl, rfl, q3, rfl, q5⟩ := RA hlt
      have q3' : (am : Int) ≤ 2 := by have := q3; dsimp only at this; omega
      have q3'' : ¬ (2 : Int) < (am : Int) := by omega
      have PX : Hid (∀ w, Calls Tryz.prog 17 #[sv as', sv ([116, 114, 117, 101, 10] ++ (s ++ [10]) ++ [102, 97, 108, 115, 101, 10] ++ [116, 114, 117, 101, 10] ++ (s ++ [10]))] w fun e' w' => e' = .returned (.bool true) ∧ w' = w) := fun w => prefix_any (w := w) as' _ q5
      rw [show ((9 : Nat) : Int) = 9 from rfl] at a0 e2
      rw [show ((0 : Nat) : Int) = 0 from rfl] at a1 e2
      clear RA RB HRN q3 q5 hql HHS
      go_wp2_with fail
      simp only [ba_app]
      refine (PX.out _).mono ?_
      rintro e' w9 ⟨rfl, rfl⟩
      go_wp2_with fail
      go_ret
      exact HF.out _ (Fr.refl _ _)
    · have han := RB (by omega)
      simp only [AnD.mk.injEq] at han
      obtain ⟨rfl, hN, rfl, hO, hT⟩ := han
      have hN' : (aN : Int) = av - 15 := by omega
      have HHS' : Hid (Has W2 bo #[.int .i64 kd, .int .i64 av, .int .i64 ob, .int .i64 oc, sv s, sv t] 30 ∧ Has W2 ba #[.int .i64 12, .int .i64 (av - 15), .int .i64 2, sv as', sv at'] 40) := by
        have := HHS.out
        rw [hN'] at this
        exact this
      rw [hN'] at a1
      rw [show ((12 : Nat) : Int) = 12 from rfl] at a0 e2
      rw [show ((2 : Nat) : Int) = 2 from rfl] at a2 e2
      have HO : Hid ([116, 114, 117, 101, 10] ++ (s ++ [10]) ++ [102, 97, 108, 115, 101, 10] ++ [116, 114, 117, 101, 10] ++ (s ++ [10]) = as') := hO.symm
      have SV : Hid (Calls Tryz.prog 19 #[(⟨3, 0, s⟩ : Vl).val] W2 fun e w' => e = .returned (sv at') ∧ Fr (fun _ => False) W2 w') := by
        rw [hT]
        exact showVal_any 3 0 s (by decide) (by decide) hs
      clear RA RB HRN hN hN' hO hT HHS
      go_wp2_with fail
      simp only [ba_app]
      rw [HO.out]
      refine SV.out.mono ?_
      rintro e' w9 ⟨rfl, f9⟩
      have HF9 : Hid (KpPost bc w A (.returned (.bool true)) w9) := HF.out _ f9
      have ho9 := HHS'.out.1.fr f9 (fun x => x)
      have ha9 := HHS'.out.2.fr f9 (fun x => x)
      clear e2 hba x1 x2 x4 xl a0 a1 a2 a3 a4 al HF HHS' SV HO f9
      have x1 := ho9.cell 1
      have xl := ho9.lt
      have a0 := ha9.cell 0
      have a1 := ha9.cell 1
      have a2 := ha9.cell 2
      have a3 := ha9.cell 3
      have a4 := ha9.cell 4
      have al := ha9.lt
      simp only [List.getElem?_toArray, List.getElem?_cons_succ, List.getElem?_cons_zero] at x1 a0 a1 a2 a3 a4
      clear ho9 ha9
      go_wp2_with fail
      go_ret
      exact HF9.out
end
end Go.Proofs.Qxb6500577aGreat
