/-
  THE WALK of colaw: KeptRun.
-/
import Derived.Test.Qxb6500577aGreatVKept0
namespace Go.Proofs.Qxb6500577aGreat
open Go Go.RowKit
set_option linter.unusedVariables false
set_option linter.unusedSimpArgs false
section
variable {w : World} {A : VL} {bc : Nat}
set_option maxRecDepth 100000
set_option maxHeartbeats 2000000
theorem Idle.fresh {w' : World} (h : Idle bc w A) (hf : Fr (fun _ => False) w w') : Idle bc w' A := by
  obtain ⟨⟨m, f, e, s, R, hc⟩, o⟩ := h
  exact ⟨⟨m, f, e, s, R.fresh hf, hc.fr hf (fun x => x)⟩, o⟩
theorem Idle.lt (h : Idle bc w A) : bc < w.heap.size := by
  obtain ⟨⟨m, f, e, s, R, hc⟩, o⟩ := h
  exact hc.lt
theorem Idle.own (h : Idle bc w A) : Ow w A.o := by
  obtain ⟨⟨m, f, e, s, R, hc⟩, o⟩ := h
  exact R.own
/-- how KeptRun ends -/
def KpPost (bc : Nat) (w : World) (A : VL) (e' : Ending) (w' : World) : Prop := e' = .returned (.bool true) ∧ ∃ A', Idle bc w' A' ∧ CSt bc w A w' A'
theorem kept_any (I : Idle bc w A) (s t : Bs) (kd av ob oc : Int) (h1 : -9223372036854775808 ≤ av) (h2 : av ≤ 9223372036854775807) :
    Calls Tryz.prog 9 #[.pointer (some ⟨bc, 0, none⟩), .agg #[.int .i64 kd, .int .i64 av, .int .i64 ob, .int .i64 oc, sv s, sv t]] w (KpPost bc w A) := by
  obtain ⟨n1, an, hrn⟩ := run_ends s av
  have hql := ans_eql
  have hqn := ans_neq
  -- the op's box
  obtain ⟨W0, HW0⟩ : ∃ W, Hid (w.alloc (.cells #[.int .i64 kd, .int .i64 av, .int .i64 ob, .int .i64 oc, sv s, sv t] 30) = W) := ⟨_, Eq.refl _⟩
  have e0 : w.alloc (.cells #[.int .i64 kd, .int .i64 av, .int .i64 ob, .int .i64 oc, sv s, sv t] 30) = W0 := HW0.out
  obtain ⟨bo, hbo⟩ : ∃ b, w.heap.size = b := ⟨_, rfl⟩
  have f0 : Fr (fun _ => False) w W0 := by rw [← HW0.out]; exact (Fr.refl _ _).alloc _
  have ho0 : Has W0 bo #[.int .i64 kd, .int .i64 av, .int .i64 ob, .int .i64 oc, sv s, sv t] 30 := by rw [← HW0.out, ← hbo]; exact Has.new _ _ _
  have oo0 : A.o bo = 0 := I.own _ (by omega)
  have nob : bo ≠ bc := by have := I.lt; omega
  have I0 := I.fresh f0
  have C0 : CSt bc w A W0 A := CSt.fresh f0
  have RUN1 := runC_any I0 h2 hrn
  have x1 := ho0.cell 1
  have x4 := ho0.cell 4
  have xl := ho0.lt
  simp only [List.getElem?_toArray, List.getElem?_cons_succ, List.getElem?_cons_zero] at x1 x4
  have HRN : Hid (runN n1 s av = some an) := hrn
  have H0 : Hid (CSt bc w A W0 A ∧ Has W0 bo #[.int .i64 kd, .int .i64 av, .int .i64 ob, .int .i64 oc, sv s, sv t] 30) := ⟨C0, ho0⟩
  clear hrn I f0 ho0 I0 C0 HW0
  go_enter Tryz.func9, Tryz.ntmps9
  go_wp2_with fail
  refine RUN1.mono ?_
  rintro e' w1 ⟨rfl, A1, I1, C1⟩
  clear RUN1 e0 hbo x1 x4 xl
  obtain ⟨ho1, oo1⟩ := C1.keep H0.out.2 oo0 nob
  have C1 := H0.out.1.trans C1
  obtain ⟨ae, aN, am, as', at'⟩ := an
  -- the first answer's variable
  obtain ⟨W1, HW1⟩ : ∃ W, Hid (w1.alloc (.cells #[.int .i64 ae, .int .i64 aN, .int .i64 am, sv as', sv at'] 40) = W) := ⟨_, Eq.refl _⟩
  have e1 : w1.alloc (.cells #[.int .i64 ae, .int .i64 aN, .int .i64 am, sv as', sv at'] 40) = W1 := HW1.out
  obtain ⟨ba, hba⟩ : ∃ b, w1.heap.size = b := ⟨_, rfl⟩
  have f1 : Fr (fun _ => False) w1 W1 := by rw [← HW1.out]; exact (Fr.refl _ _).alloc _
  have ha1 : Has W1 ba #[.int .i64 ae, .int .i64 aN, .int .i64 am, sv as', sv at'] 40 := by rw [← HW1.out, ← hba]; exact Has.new _ _ _
  have oa1 : A1.o ba = 0 := I1.own _ (by omega)
  have nab : ba ≠ bc := by have := I1.lt; omega
  have ho1 := ho1.fr f1 (fun x => x)
  have J1 := I1.fresh f1
  have C1 := C1.trans (CSt.fresh (bc := bc) f1)
  obtain ⟨m1, fu1, ee1, st1, R1, hc1⟩ := J1.st
  have LF1 := left_any hc1
  have RUN2 := runC_any J1 h2 HRN.out
  have x1 := ho1.cell 1
  have x4 := ho1.cell 4
  have xl := ho1.lt
  simp only [List.getElem?_toArray, List.getElem?_cons_succ, List.getElem?_cons_zero] at x1 x4
  have H1 : Hid (CSt bc w A W1 A1 ∧ Has W1 bo #[.int .i64 kd, .int .i64 av, .int .i64 ob, .int .i64 oc, sv s, sv t] 30 ∧ Has W1 ba #[.int .i64 ae, .int .i64 aN, .int .i64 am, sv as', sv at'] 40) := ⟨C1, ho1, ha1⟩
  clear I1 C1 ho1 ha1 J1 f1 HW1 R1 hc1 H0
  go_wp2_with fail
  refine LF1.mono ?_
  rintro e' w2 ⟨rfl, rfl⟩
  clear LF1
  go_wp2_with fail
  refine RUN2.mono ?_
  rintro e' w3 ⟨rfl, A3, I3, C3⟩
  clear RUN2 e1 hba x1 x4 xl
  obtain ⟨ho3, oo3⟩ := C3.keep H1.out.2.1 oo1 nob
  obtain ⟨ha3, oa3⟩ := C3.keep H1.out.2.2 oa1 nab
  have C3 := H1.out.1.trans C3
  obtain ⟨W3, HW3⟩ : ∃ W, Hid (w3.alloc (.cells #[.int .i64 ae, .int .i64 aN, .int .i64 am, sv as', sv at'] 40) = W) := ⟨_, Eq.refl _⟩
  have e3 : w3.alloc (.cells #[.int .i64 ae, .int .i64 aN, .int .i64 am, sv as', sv at'] 40) = W3 := HW3.out
  obtain ⟨bb, hbb⟩ : ∃ b, w3.heap.size = b := ⟨_, rfl⟩
  have f3 : Fr (fun _ => False) w3 W3 := by rw [← HW3.out]; exact (Fr.refl _ _).alloc _
  have hb3 : Has W3 bb #[.int .i64 ae, .int .i64 aN, .int .i64 am, sv as', sv at'] 40 := by rw [← HW3.out, ← hbb]; exact Has.new _ _ _
  have ho3 := ho3.fr f3 (fun x => x)
  have ha3 := ha3.fr f3 (fun x => x)
  have J3 := I3.fresh f3
  have C3 := C3.trans (CSt.fresh (bc := bc) f3)
  obtain ⟨m3, fu3, ee3, st3, R3, hc3⟩ := J3.st
  have LF3 := left_any hc3
  have x1 := ho3.cell 1
  have x4 := ho3.cell 4
  have xl := ho3.lt
  have a0 := ha3.cell 0
  have a1 := ha3.cell 1
  have a2 := ha3.cell 2
  have a3 := ha3.cell 3
  have a4 := ha3.cell 4
  have al := ha3.lt
  have b0 := hb3.cell 0
  have b1 := hb3.cell 1
  have b2 := hb3.cell 2
  have b3 := hb3.cell 3
  have b4 := hb3.cell 4
  have bl := hb3.lt
  simp only [List.getElem?_toArray, List.getElem?_cons_succ, List.getElem?_cons_zero] at x1 x4 a0 a1 a2 a3 a4 b0 b1 b2 b3 b4
  have H3 : Hid (CSt bc w A W3 A3 ∧ Has W3 bo #[.int .i64 kd, .int .i64 av, .int .i64 ob, .int .i64 oc, sv s, sv t] 30 ∧ Has W3 ba #[.int .i64 ae, .int .i64 aN, .int .i64 am, sv as', sv at'] 40 ∧ Idle bc W3 A3) := ⟨C3, ho3, ha3, J3⟩
  clear I3 C3 ho3 ha3 J3 f3 HW3 R3 hc3 H1 hb3
  go_wp2_with fail
  refine LF3.mono ?_
  rintro e' w4 ⟨rfl, rfl⟩
  clear LF3 e3 hbb
  by_cases hlong : 32768 < s.length
  · have hl' : (32768 : Int) < (s.length : Int) := by omega
    have han : (⟨ae, aN, am, as', at'⟩ : AnD) = ⟨1, 0, 0, [], []⟩ := by
      have h := HRN.out
      unfold runN loadP at h
      rw [if_pos hlong] at h
      exact (Option.some.inj h).symm
    simp only [AnD.mk.injEq] at han
    obtain ⟨rfl, rfl, rfl, rfl, rfl⟩ := han
    have HF : Hid (KpPost bc w A (.returned (.bool true)) w4) := ⟨rfl, A3, H3.out.2.2.2, H3.out.1⟩
    clear H3 HRN hlong
    rw [show ((0 : Nat) : Int) = 0 from rfl] at a1 a2 b1 b2
    rw [show ((1 : Nat) : Int) = 1 from rfl] at a0 b0
    go_wp2_with fail
    go_ret
    exact HF.out
  have hl' : ¬ (32768 : Int) < (s.length : Int) := by omega
  go_wp2_with fail
  clear b0 b1 b2 b3 b4 bl
  refine ground_any.mono ?_
  rintro e' w5 ⟨AG, rfl, BG⟩
  have LD := load_any (s := s) BG.rep 0 (by omega)
  have ho5 := H3.out.2.1.fr BG.fr (fun x => x)
  have x4 := ho5.cell 4
  have xl := ho5.lt
  simp only [List.getElem?_toArray, List.getElem?_cons_succ, List.getElem?_cons_zero] at x4
  go_wp2_with fail
  refine LD.mono ?_
  rintro e' w6 ⟨A6, m6, f6, e6, R6, S6, hcase⟩
  have F6 : Fr (fun _ => False) w4 w6 := BG.fr.trans S6.st.fr (fun j hj x => x (BG.old j hj))
  have ho6 := H3.out.2.1.fr F6 (fun x => x)
  have ha6 := H3.out.2.2.1.fr F6 (fun x => x)
  have I6 := H3.out.2.2.2.fresh F6
  have C6 := H3.out.1.trans (CSt.fresh (bc := bc) F6)
  clear R6 S6 LD BG ho5 x1 x4 xl a0 a1 a2 a3 a4 al H3
  have x1 := ho6.cell 1
  have x4 := ho6.cell 4
  have xl := ho6.lt
  have a0 := ha6.cell 0
  have a1 := ha6.cell 1
  have a2 := ha6.cell 2
  have a3 := ha6.cell 3
  have a4 := ha6.cell 4
  have al := ha6.lt
  simp only [List.getElem?_toArray, List.getElem?_cons_succ, List.getElem?_cons_zero] at x1 x4 a0 a1 a2 a3 a4
  have HF6 : Hid (KpPost bc w A (.returned (.bool true)) w6) := ⟨rfl, A3, I6, C6⟩
  have H6 : Hid (CSt bc w A w6 A3 ∧ Has w6 ba #[.int .i64 ae, .int .i64 aN, .int .i64 am, sv as', sv at'] 40 ∧ Idle bc w6 A3) := ⟨C6, ha6, I6⟩
  clear ho6 ha6 I6 C6 F6
  rcases hcase with ⟨er, hlp, rfl⟩ | ⟨hlp, _, _, rfl⟩
  · have han : (⟨ae, aN, am, as', at'⟩ : AnD) = ⟨er, 0, 0, [], []⟩ := by
      have h := HRN.out
      unfold runN at h
      rw [hlp] at h
      exact (Option.some.inj h).symm
    have her : er ≠ 0 := by
      unfold loadP at hlp
      split at hlp
      · cases hlp; decide
      · split at hlp
        · cases hlp; decide
        · cases hlp
    have her' : ((er : Int) != 0) = true := by rw [bne_iff_ne]; omega
    simp only [AnD.mk.injEq] at han
    obtain ⟨rfl, rfl, rfl, rfl, rfl⟩ := han
    clear H6 HRN hlp her
    rw [show ((0 : Nat) : Int) = 0 from rfl] at a1 a2
    go_wp2_with fail
    go_ret
    exact HF6.out
  have KP := run_kept hlp HRN.out
  have HKP : Hid (Kept s av ⟨ae, aN, am, as', at'⟩) := KP
  have hm1 : ¬ ((am : Int) < 0) := by omega
  have hm2 : ¬ (5 ≤ (am : Int)) := by have := KP.m; dsimp only at this; omega
  have hN0 : ¬ ((aN : Int) < 0) := by omega
  have EN : Hid (∀ w, Calls Tryz.prog 16 #[.int .i64 ae] w fun e' w' => e' = .returned (.bool true) ∧ w' = w) := fun w => ending_any (w := w) ae KP.e
  have ht0 : ¬ at' = [] := KP.t0
  have htt := KP.t
  have hae := KP.e
  dsimp only at htt hae
  clear KP hlp hlong
  by_cases hz : ae = 0
  · have hT : ¬ at' = [45] := htt.1 (.inl hz)
    have hTb : (at' == [45]) = false := by simp [hT]
    have hT0b : (at' == []) = false := by simp [ht0]
    subst hz
    clear htt hae
    rw [show ((0 : Nat) : Int) = 0 from rfl] at a0
    have EN := EN.out w6
    by_cases hav : av ≤ 0
    · obtain ⟨z1, z2, z3⟩ := HKP.out.z hav
      dsimp only at z1 z2 z3
      subst z1 z2 z3
      rw [show ((0 : Nat) : Int) = 0 from rfl] at a1 a2
      clear HKP H6 HRN hm1 hm2 hN0
      go_wp2_with fail
      refine EN.mono ?_
      rintro e' w7 ⟨rfl, rfl⟩
      go_wp2_with fail
      go_ret
      exact HF6.out
    have hNA : ¬ (av < (aN : Int)) := by have := HKP.out.n; dsimp only at this; omega
    by_cases hbig : 4611686018427387904 ≤ av
    · clear HKP H6 HRN
      go_wp2_with fail
      refine EN.mono ?_
      rintro e' w7 ⟨rfl, rfl⟩
      go_wp2_with fail
      go_ret
      exact HF6.out
    obtain ⟨n2, an2, hrn2⟩ := run_ends s (av + 1)
    have RUN3 := runC_any H6.out.2.2 (by omega) hrn2
    have HRN2 : Hid (runN n2 s (av + 1) = some an2) := hrn2
    clear hrn2
    go_wp2_with fail
    refine EN.mono ?_
    rintro e' w7 ⟨rfl, rfl⟩
    go_wp2_with fail
    refine RUN3.mono ?_
    rintro e' w8 ⟨rfl, A8, I8, C8⟩
    clear RUN3 EN HF6 x1 x4 xl a0 a1 a2 a3 a4 al
    obtain ⟨ha8, oa8⟩ := C8.keep H6.out.2.1 oa3 nab
    have C8 := H6.out.1.trans C8
    obtain ⟨ce, cN, cm, cs', ct⟩ := an2
    obtain ⟨W8, HW8⟩ : ∃ W, Hid (w8.alloc (.cells #[.int .i64 ce, .int .i64 cN, .int .i64 cm, sv cs', sv ct] 40) = W) := ⟨_, Eq.refl _⟩
    have e8 : w8.alloc (.cells #[.int .i64 ce, .int .i64 cN, .int .i64 cm, sv cs', sv ct] 40) = W8 := HW8.out
    obtain ⟨b8, hb8⟩ : ∃ b, w8.heap.size = b := ⟨_, rfl⟩
    have f8 : Fr (fun _ => False) w8 W8 := by rw [← HW8.out]; exact (Fr.refl _ _).alloc _
    have hc8 : Has W8 b8 #[.int .i64 ce, .int .i64 cN, .int .i64 cm, sv cs', sv ct] 40 := by rw [← HW8.out, ← hb8]; exact Has.new _ _ _
    have ha8 := ha8.fr f8 (fun x => x)
    have J8 := I8.fresh f8
    have C8 := C8.trans (CSt.fresh (bc := bc) f8)
    obtain ⟨m8, fu8, ee8, st8, R8, hco8⟩ := J8.st
    have LF8 := left_any hco8
    have a0 := ha8.cell 0
    have a1 := ha8.cell 1
    have a2 := ha8.cell 2
    have a3 := ha8.cell 3
    have a4 := ha8.cell 4
    have al := ha8.lt
    have d0 := hc8.cell 0
    have d1 := hc8.cell 1
    have d2 := hc8.cell 2
    have d3 := hc8.cell 3
    have d4 := hc8.cell 4
    have dl := hc8.lt
    simp only [List.getElem?_toArray, List.getElem?_cons_succ, List.getElem?_cons_zero] at a0 a1 a2 a3 a4 d0 d1 d2 d3 d4
    have HF8 : Hid (KpPost bc w A (.returned (.bool true)) W8) := ⟨rfl, A8, J8, C8⟩
    clear I8 C8 ha8 hc8 J8 f8 HW8 R8 hco8 H6
    obtain ⟨N9, hN9⟩ := HKP.out.g (by simp) (by omega)
    have hsame := run_det HRN2.out hN9
    simp only [AnD.mk.injEq] at hsame
    obtain ⟨rfl, rfl, rfl, rfl, rfl⟩ := hsame
    have haN : (aN : Int) < 9223372036854775807 := by omega
    rw [show ((aN + 1 : Nat) : Int) = (aN : Int) + 1 by omega] at d1 e8
    rw [show ((0 : Nat) : Int) = 0 from rfl] at e8 d0
    clear HKP HRN2 HRN hN9
    go_wp2_with fail
    refine LF8.mono ?_
    rintro e' w9 ⟨rfl, rfl⟩
    clear LF8 e8 hb8
    go_wp2_with fail
    go_ret
    exact HF8.out
  by_cases hz2 : ae = 12
  · have hT : ¬ at' = [45] := htt.1 (.inr hz2)
    have hTb : (at' == [45]) = false := by simp [hT]
    have hT0b : (at' == []) = false := by simp [ht0]
    subst hz2
    clear htt hae
    rw [show ((12 : Nat) : Int) = 12 from rfl] at a0
    have EN := EN.out w6
    by_cases hav : av ≤ 0
    · obtain ⟨z1, z2, z3⟩ := HKP.out.z hav
      dsimp only at z1 z2 z3
      subst z1 z2 z3
      rw [show ((0 : Nat) : Int) = 0 from rfl] at a1 a2
      clear HKP H6 HRN hm1 hm2 hN0
      go_wp2_with fail
      refine EN.mono ?_
      rintro e' w7 ⟨rfl, rfl⟩
      go_wp2_with fail
      go_ret
      exact HF6.out
    have hNA : ¬ (av < (aN : Int)) := by have := HKP.out.n; dsimp only at this; omega
    by_cases hbig : 4611686018427387904 ≤ av
    · clear HKP H6 HRN
      go_wp2_with fail
      refine EN.mono ?_
      rintro e' w7 ⟨rfl, rfl⟩
      go_wp2_with fail
      go_ret
      exact HF6.out
    obtain ⟨n2, an2, hrn2⟩ := run_ends s (av + 1)
    have RUN3 := runC_any H6.out.2.2 (by omega) hrn2
    have HRN2 : Hid (runN n2 s (av + 1) = some an2) := hrn2
    clear hrn2
    go_wp2_with fail
    refine EN.mono ?_
    rintro e' w7 ⟨rfl, rfl⟩
    go_wp2_with fail
    refine RUN3.mono ?_
    rintro e' w8 ⟨rfl, A8, I8, C8⟩
    clear RUN3 EN HF6 x1 x4 xl a0 a1 a2 a3 a4 al
    obtain ⟨ha8, oa8⟩ := C8.keep H6.out.2.1 oa3 nab
    have C8 := H6.out.1.trans C8
    obtain ⟨ce, cN, cm, cs', ct⟩ := an2
    obtain ⟨W8, HW8⟩ : ∃ W, Hid (w8.alloc (.cells #[.int .i64 ce, .int .i64 cN, .int .i64 cm, sv cs', sv ct] 40) = W) := ⟨_, Eq.refl _⟩
    have e8 : w8.alloc (.cells #[.int .i64 ce, .int .i64 cN, .int .i64 cm, sv cs', sv ct] 40) = W8 := HW8.out
    obtain ⟨b8, hb8⟩ : ∃ b, w8.heap.size = b := ⟨_, rfl⟩
    have f8 : Fr (fun _ => False) w8 W8 := by rw [← HW8.out]; exact (Fr.refl _ _).alloc _
    have hc8 : Has W8 b8 #[.int .i64 ce, .int .i64 cN, .int .i64 cm, sv cs', sv ct] 40 := by rw [← HW8.out, ← hb8]; exact Has.new _ _ _
    have ha8 := ha8.fr f8 (fun x => x)
    have J8 := I8.fresh f8
    have C8 := C8.trans (CSt.fresh (bc := bc) f8)
    obtain ⟨m8, fu8, ee8, st8, R8, hco8⟩ := J8.st
    have LF8 := left_any hco8
    have a0 := ha8.cell 0
    have a1 := ha8.cell 1
    have a2 := ha8.cell 2
    have a3 := ha8.cell 3
    have a4 := ha8.cell 4
    have al := ha8.lt
    have d0 := hc8.cell 0
    have d1 := hc8.cell 1
    have d2 := hc8.cell 2
    have d3 := hc8.cell 3
    have d4 := hc8.cell 4
    have dl := hc8.lt
    simp only [List.getElem?_toArray, List.getElem?_cons_succ, List.getElem?_cons_zero] at a0 a1 a2 a3 a4 d0 d1 d2 d3 d4
    have HF8 : Hid (KpPost bc w A (.returned (.bool true)) W8) := ⟨rfl, A8, J8, C8⟩
    clear I8 C8 ha8 hc8 J8 f8 HW8 R8 hco8 H6
    obtain ⟨N9, hN9⟩ := HKP.out.g (by simp) (by omega)
    have hsame := run_det HRN2.out hN9
    simp only [AnD.mk.injEq] at hsame
    obtain ⟨rfl, rfl, rfl, rfl, rfl⟩ := hsame
    have haN : (aN : Int) < 9223372036854775807 := by omega
    rw [show ((aN + 1 : Nat) : Int) = (aN : Int) + 1 by omega] at d1 e8
    rw [show ((12 : Nat) : Int) = 12 from rfl] at e8 d0
    clear HKP HRN2 HRN hN9
    go_wp2_with fail
    refine LF8.mono ?_
    rintro e' w9 ⟨rfl, rfl⟩
    clear LF8 e8 hb8
    go_wp2_with fail
    go_ret
    exact HF8.out
  have hT : at' = [45] := Decidable.byContradiction fun h => by
    have := htt.2 h
    omega
  subst hT
  have h0' : ((ae : Int) == 0) = false := by rw [beq_eq_false_iff_ne]; omega
  have h12' : ((ae : Int) == 12) = false := by rw [beq_eq_false_iff_ne]; omega
  clear htt hae ht0
  have EN := EN.out w6
  by_cases hav : av ≤ 0
  · obtain ⟨z1, z2, z3⟩ := HKP.out.z hav
    dsimp only at z1 z2 z3
    subst z1 z2 z3
    rw [show ((0 : Nat) : Int) = 0 from rfl] at a1 a2
    clear HKP H6 HRN hm1 hm2 hN0
    go_wp2_with fail
    refine EN.mono ?_
    rintro e' w7 ⟨rfl, rfl⟩
    go_wp2_with fail
    go_ret
    exact HF6.out
  have hNA : ¬ (av < (aN : Int)) := by have := HKP.out.n; dsimp only at this; omega
  by_cases hbig : 4611686018427387904 ≤ av
  · clear HKP H6 HRN
    go_wp2_with fail
    refine EN.mono ?_
    rintro e' w7 ⟨rfl, rfl⟩
    go_wp2_with fail
    go_ret
    exact HF6.out
  obtain ⟨n2, an2, hrn2⟩ := run_ends s (av + 1)
  have RUN3 := runC_any H6.out.2.2 (by omega) hrn2
  have HRN2 : Hid (runN n2 s (av + 1) = some an2) := hrn2
  clear hrn2
  go_wp2_with fail
  refine EN.mono ?_
  rintro e' w7 ⟨rfl, rfl⟩
  go_wp2_with fail
  refine RUN3.mono ?_
  rintro e' w8 ⟨rfl, A8, I8, C8⟩
  clear RUN3 EN HF6 x1 x4 xl a0 a1 a2 a3 a4 al
  obtain ⟨ha8, oa8⟩ := C8.keep H6.out.2.1 oa3 nab
  have C8 := H6.out.1.trans C8
  obtain ⟨ce, cN, cm, cs', ct⟩ := an2
  obtain ⟨W8, HW8⟩ : ∃ W, Hid (w8.alloc (.cells #[.int .i64 ce, .int .i64 cN, .int .i64 cm, sv cs', sv ct] 40) = W) := ⟨_, Eq.refl _⟩
  have e8 : w8.alloc (.cells #[.int .i64 ce, .int .i64 cN, .int .i64 cm, sv cs', sv ct] 40) = W8 := HW8.out
  obtain ⟨b8, hb8⟩ : ∃ b, w8.heap.size = b := ⟨_, rfl⟩
  have f8 : Fr (fun _ => False) w8 W8 := by rw [← HW8.out]; exact (Fr.refl _ _).alloc _
  have hc8 : Has W8 b8 #[.int .i64 ce, .int .i64 cN, .int .i64 cm, sv cs', sv ct] 40 := by rw [← HW8.out, ← hb8]; exact Has.new _ _ _
  have ha8 := ha8.fr f8 (fun x => x)
  have J8 := I8.fresh f8
  have C8 := C8.trans (CSt.fresh (bc := bc) f8)
  obtain ⟨m8, fu8, ee8, st8, R8, hco8⟩ := J8.st
  have LF8 := left_any hco8
  have a0 := ha8.cell 0
  have a1 := ha8.cell 1
  have a2 := ha8.cell 2
  have a3 := ha8.cell 3
  have a4 := ha8.cell 4
  have al := ha8.lt
  have d0 := hc8.cell 0
  have d1 := hc8.cell 1
  have d2 := hc8.cell 2
  have d3 := hc8.cell 3
  have d4 := hc8.cell 4
  have dl := hc8.lt
  simp only [List.getElem?_toArray, List.getElem?_cons_succ, List.getElem?_cons_zero] at a0 a1 a2 a3 a4 d0 d1 d2 d3 d4
  have HF8 : Hid (KpPost bc w A (.returned (.bool true)) W8) := ⟨rfl, A8, J8, C8⟩
  clear I8 C8 ha8 hc8 J8 f8 HW8 R8 hco8 H6
  by_cases h9 : ae = 9
  · subst h9
    obtain ⟨z1, zf⟩ := HKP.out.f rfl
    obtain ⟨zm, zp⟩ := zf n2 _ HRN2.out (by omega)
    dsimp only at z1 zm zp
    subst z1
    rw [show ((0 : Nat) : Int) = 0 from rfl] at a1
    have zm' : (am : Int) ≤ (cm : Int) := by omega
    have PX : Hid (∀ w, Calls Tryz.prog 17 #[sv as', sv cs'] w fun e' w' => e' = .returned (.bool true) ∧ w' = w) := fun w => prefix_any (w := w) as' cs' zp
    clear zp zf HKP HRN2 HRN
    go_wp2_with fail
    refine LF8.mono ?_
    rintro e' w9 ⟨rfl, rfl⟩
    clear LF8 e8 hb8
    go_wp2_with fail
    refine (PX.out _).mono ?_
    rintro e' w9 ⟨rfl, rfl⟩
    go_wp2_with fail
    go_ret
    exact HF8.out
  · have h9' : ((ae : Int) == 9) = false := by rw [beq_eq_false_iff_ne]; omega
    obtain ⟨N9, hN9⟩ := HKP.out.g h9 (by omega)
    have hsame := run_det HRN2.out hN9
    simp only [AnD.mk.injEq] at hsame
    obtain ⟨rfl, rfl, rfl, rfl, rfl⟩ := hsame
    have haN : (aN : Int) < 9223372036854775807 := by omega
    rw [show ((aN + 1 : Nat) : Int) = (aN : Int) + 1 by omega] at d1 e8
    clear HKP HRN2 HRN hN9
    go_wp2_with fail
    refine LF8.mono ?_
    rintro e' w9 ⟨rfl, rfl⟩
    clear LF8 e8 hb8
    go_wp2_with fail
    go_ret
    exact HF8.out
end
end Go.Proofs.Qxb6500577aGreat
