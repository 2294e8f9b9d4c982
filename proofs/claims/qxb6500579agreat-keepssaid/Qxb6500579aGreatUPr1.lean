/-
  moon: THE CATECHISMS as Execs. Plain; no walk.
-/
import Derived.Test.Qxb6500579aGreatUPr0
import Derived.Test.Qxb6500579aGreatULaw3
import Derived.Test.Qxb6500579aGreatVLawN
namespace Go.Proofs.Qxb6500579aGreat
open Go
set_option linter.unusedVariables false
theorem fit_num (n : Nat) : (decide (n % 9223372036854775808 ≤ 9218868437227405312) || n == nanB) = (!isNan n || n == nanB) := by
  have h := nan_bits n
  cases hn : isNan n with
  | true =>
    have h1 := h.1 hn
    have : decide (n % 9223372036854775808 ≤ 9218868437227405312) = false := by rw [decide_eq_false_iff_not]; have e : (2 : Nat) ^ 63 = 9223372036854775808 := rfl; rw [e] at h1; omega
    rw [this]
    rfl
  | false =>
    have : decide (n % 9223372036854775808 ≤ 9218868437227405312) = true := by
      rw [decide_eq_true_iff]
      have e : (2 : Nat) ^ 63 = 9223372036854775808 := rfl
      rw [e] at h
      exact Nat.not_lt.1 fun x => by rw [h.2 x] at hn; cases hn
    rw [this]
    rfl
theorem fit_valid {m : VMD} (ht : m.tabs.length = 1) (hc : m.clos.length = 2) (hh : m.ths.length = 2) (v : Vl) : validV m v = fitD v := by
  unfold validV fitD
  cases hw : wellV v with
  | false => rfl
  | true =>
    simp only [Bool.not_true, Bool.false_eq_true, if_false, Bool.true_and]
    by_cases e2 : v.t = 2
    · rw [if_pos e2, if_pos e2, fit_num]
    · rw [if_neg e2, if_neg e2]
      by_cases e4 : v.t = 4
      · rw [if_pos e4, if_pos e4, ht]
      · rw [if_neg e4, if_neg e4]
        by_cases e5 : v.t = 5
        · rw [if_pos e5, if_pos (.inl e5), hc]
        · rw [if_neg e5]
          by_cases e7 : v.t = 7
          · rw [if_pos e7, if_pos (.inr e7), hh]
          · rw [if_neg e7, if_neg (fun x => x.elim e5 e7)]
theorem fit_valid3 {m : VMD} (ht : m.tabs.length = 1) (hc : m.clos.length = 3) (hh : m.ths.length = 2) {v : Vl} (hf : fitD v = true) : validV m v = true := by
  have h0 : validV { m with clos := m.clos.take 2 } v = fitD v := fit_valid (m := { m with clos := m.clos.take 2 }) ht (by simp [hc]) hh v
  rw [hf] at h0
  unfold validV at h0 ⊢
  split at h0
  · cases h0
  · rename_i hw
    rw [if_neg hw]
    split
    · rename_i e; rw [if_pos e] at h0; exact h0
    · rename_i e2
      rw [if_neg e2] at h0
      split
      · rename_i e; rw [if_pos e] at h0; exact h0
      · rename_i e4
        rw [if_neg e4] at h0
        split
        · rename_i e
          rw [if_pos e] at h0
          simp only [List.length_take, decide_eq_true_eq] at h0 ⊢
          omega
        · rename_i e5
          rw [if_neg e5] at h0
          exact h0
theorem fit_well {v : Vl} (h : fitD v = true) : wellV v = true := by
  unfold fitD at h
  exact (Bool.and_eq_true_iff.1 h).1
/-- the first catechism's machines -/
structure Cat1 (cm0 cm1 : VMD) (cm2 cm3 : Vl → Vl → VMD) (cm4 : Vl → Vl → Nat → VMD) : Prop where
  load1 : loadP cat1 = .inr cm0
  run1 : roundsP 40 9 (startP cm0 0 nilV nilV) 0 = some (⟨4, 1, 0, nilV, nilV⟩, 7, cm1)
  run2 : ∀ a b : Vl, roundsP 40 7 (startP cm1 1 a b) 1 = some (⟨3, 0, 0, a, nilV⟩, 6, cm2 a b)
  run3 : ∀ a b : Vl, wellV b = true → roundsP 40 6 (startP (cm2 a b) 1 b a) 1 = some (⟨1, 0, 0, boolV (!truthy b), b⟩, fu3 b, cm3 a b)
  run4 : ∀ a, wellV a = true → ∀ b, wellV b = true → roundsP 40 (fu3 b) (startP (cm3 a b) 0 a b) 0 = some (⟨1, 0, 0, if truthy a then b else a, boolV true⟩, fu3 b, cm4 a b (fu3 b))
  cm0_ok : validV cm0 nilV = true ∧ cm0.ths.length = 1 ∧ (cm0.th 0).st = 1
  cm1_ok : cm1.tabs.length = 1 ∧ cm1.clos.length = 2 ∧ cm1.ths.length = 2 ∧ (cm1.th 1).st = 1
  cm2_ok : ∀ a b : Vl, (cm2 a b).tabs.length = 1 ∧ (cm2 a b).clos.length = 2 ∧ (cm2 a b).ths.length = 2 ∧ ((cm2 a b).th 1).st = 2
  cm3_ok : ∀ a b : Vl, wellV b = true → (cm3 a b).tabs.length = 1 ∧ (cm3 a b).clos.length = 3 ∧ (cm3 a b).ths.length = 2 ∧ ((cm3 a b).th 0).st = 3
theorem cat1_ex : ∃ cm0 cm1 cm2 cm3 cm4, Cat1 cm0 cm1 cm2 cm3 cm4 := ⟨ecA, ecB, ecC, ecD, ecE, load1, run1, run2, run3, run4, ecA_ok, ecB_ok, ecC_ok, ecD_ok⟩
set_option maxRecDepth 100000 in
theorem edC_tabs : showT (wipeD edC).tabs = showT edA.tabs ++ [91, 115, 49, 58, 107, 61, 115, 49, 58, 118, 59, 93] := by kernel_rfl
set_option maxRecDepth 100000 in
theorem edA_tlen : (showT edA.tabs).length ≤ 1000 := of_decide_eq_true (by kernel_rfl)
/-- the state behind the second catechism -/
def stS : St := ⟨wipeD esB, 0, 9⟩
/-- the second one's -/
structure Cat2 (d0 d1 d2 s0 s1 : VMD) : Prop where
  load2 : loadP cat2 = .inr d0
  load3 : loadP catS = .inr s0
  runD1 : roundsP 90 9 (startP d0 0 nilV nilV) 0 = some (⟨1, 0, 0, strV [49, 52, 44, 49, 49, 44, 49], strV [112, 113, 114]⟩, 2, d1)
  runD2 : roundsP 90 6 (startP d0 0 nilV nilV) 0 = some (⟨5, 0, 9, nilV, nilV⟩, 0, d2)
  runS : roundsP 40 3 (startP s0 0 nilV nilV) 0 = some (⟨5, 0, 9, nilV, nilV⟩, 0, s1)
  d0_ok : validV d0 nilV = true ∧ d0.ths.length = 1 ∧ (d0.th 0).st = 1
  s0_ok : validV s0 nilV = true ∧ s0.ths.length = 1 ∧ (s0.th 0).st = 1
  d1_out : d1.out = [102, 97, 108, 115, 101, 10, 118, 10]
  d2_out : d2.out = [102, 97, 108, 115, 101, 10, 118, 10]
  d2_tabs : showT (wipeD d2).tabs = showT d0.tabs ++ [91, 115, 49, 58, 107, 61, 115, 49, 58, 118, 59, 93]
  d0_tlen : (showT d0.tabs).length ≤ 1000
  fin : (⟨wipeD s1, 0, 9⟩ : St) = stS
theorem cat2_ex : ∃ d0 d1 d2 s0 s1, Cat2 d0 d1 d2 s0 s1 := ⟨edA, edB, edC, esA, esB, load2, load3, runD1, runD2, runS, edA_ok, esA_ok, edB_out, edC_out, edC_tabs, edA_tlen, rfl⟩
section
variable {cm0 cm1 : VMD} {cm2 cm3 : Vl → Vl → VMD} {cm4 : Vl → Vl → Nat → VMD} {d0 d1 d2 s0 s1 : VMD}
variable {a b : Vl} {ev : EvD} {σ' : St}
theorem ex_run {m m' : VMD} {f f' n : Nat} {i : Nat} {ev0' : EvD} (O : Okay ⟨m, f, 0⟩ (i : Int) a b) (hr : roundsP n f (startP m i a b) i = some (ev0', f', m')) (h : ExecR ⟨m, f, 0⟩ (i : Int) a b ev σ') : ev = ev0' ∧ σ' = after (ev0', f', m') := by
  have h2 : ExecR ⟨m, f, 0⟩ (i : Int) a b ev0' (after (ev0', f', m')) := .inr ⟨O, n, _, hr, rfl, rfl⟩
  exact h.det h2
theorem pr_ex1 (C : Cat1 cm0 cm1 cm2 cm3 cm4) (h : ExecR ⟨cm0, 9, 0⟩ 0 nilV nilV ev σ') : ev = ⟨4, 1, 0, nilV, nilV⟩ ∧ σ' = ⟨cm1, 7, 0⟩ :=
  ex_run (i := 0) ⟨rfl, by decide, by show 0 < cm0.ths.length; rw [C.cm0_ok.2.1]; decide, C.cm0_ok.1, C.cm0_ok.1, .inl C.cm0_ok.2.2⟩ C.run1 h
theorem pr_ex2 (C : Cat1 cm0 cm1 cm2 cm3 cm4) (ha : fitD a = true) (hb : fitD b = true) (h : ExecR ⟨cm1, 7, 0⟩ 1 a b ev σ') : ev = ⟨3, 0, 0, a, nilV⟩ ∧ σ' = ⟨cm2 a b, 6, 0⟩ := by
  obtain ⟨h1, h2, h3, h4⟩ := C.cm1_ok
  exact ex_run (i := 1) ⟨rfl, by decide, by show 1 < cm1.ths.length; rw [h3]; decide, (fit_valid h1 h2 h3 a).trans ha, (fit_valid h1 h2 h3 b).trans hb, .inl h4⟩ (C.run2 a b) h
theorem pr_no2 (C : Cat1 cm0 cm1 cm2 cm3 cm4) (hn : fitD a = false ∨ fitD b = false) (h : ExecR ⟨cm1, 7, 0⟩ 1 a b ev σ') : ev = evBad ∧ σ' = ⟨cm1, 7, 0⟩ := by
  obtain ⟨h1, h2, h3, h4⟩ := C.cm1_ok
  rcases h with ⟨_, e1, e2⟩ | ⟨O, _⟩
  · exact ⟨e1, e2⟩
  · have v1 := O.va
    have v2 := O.vb
    dsimp only at v1 v2
    rw [fit_valid h1 h2 h3] at v1 v2
    rcases hn with e | e
    · rw [e] at v1; cases v1
    · rw [e] at v2; cases v2
theorem pr_ex3 (C : Cat1 cm0 cm1 cm2 cm3 cm4) (ha : fitD a = true) (hb : fitD b = true) (h : ExecR ⟨cm2 a b, 6, 0⟩ 1 b a ev σ') : ev = ⟨1, 0, 0, boolV (!truthy b), b⟩ ∧ σ' = ⟨cm3 a b, fu3 b, 0⟩ := by
  obtain ⟨h1, h2, h3, h4⟩ := C.cm2_ok a b
  exact ex_run (i := 1) ⟨rfl, by decide, by show 1 < (cm2 a b).ths.length; rw [h3]; decide, (fit_valid h1 h2 h3 b).trans hb, (fit_valid h1 h2 h3 a).trans ha, .inr (.inl h4)⟩ (C.run3 a b (fit_well hb)) h
theorem pr_ex4 (C : Cat1 cm0 cm1 cm2 cm3 cm4) (ha : fitD a = true) (hb : fitD b = true) (h : ExecR ⟨cm3 a b, fu3 b, 0⟩ 0 a b ev σ') : ev = ⟨1, 0, 0, if truthy a then b else a, boolV true⟩ ∧ σ' = ⟨cm4 a b (fu3 b), fu3 b, 0⟩ := by
  obtain ⟨h1, h2, h3, h4⟩ := C.cm3_ok a b (fit_well hb)
  exact ex_run (i := 0) ⟨rfl, by decide, by show 0 < (cm3 a b).ths.length; rw [h3]; decide, fit_valid3 h1 h2 h3 ha, fit_valid3 h1 h2 h3 hb, .inr (.inr h4)⟩ (C.run4 a (fit_well ha) b (fit_well hb)) h
theorem pr_exD1 (E : Cat2 d0 d1 d2 s0 s1) (h : ExecR ⟨d0, 9, 0⟩ 0 nilV nilV ev σ') : ev = ⟨1, 0, 0, strV [49, 52, 44, 49, 49, 44, 49], strV [112, 113, 114]⟩ ∧ σ' = ⟨d1, 2, 0⟩ :=
  ex_run (i := 0) ⟨rfl, by decide, by show 0 < d0.ths.length; rw [E.d0_ok.2.1]; decide, E.d0_ok.1, E.d0_ok.1, .inl E.d0_ok.2.2⟩ E.runD1 h
theorem pr_exD2 (E : Cat2 d0 d1 d2 s0 s1) (h : ExecR ⟨d0, 6, 0⟩ 0 nilV nilV ev σ') : ev = ⟨5, 0, 9, nilV, nilV⟩ ∧ σ' = ⟨wipeD d2, 0, 9⟩ :=
  ex_run (i := 0) ⟨rfl, by decide, by show 0 < d0.ths.length; rw [E.d0_ok.2.1]; decide, E.d0_ok.1, E.d0_ok.1, .inl E.d0_ok.2.2⟩ E.runD2 h
theorem pr_exS (E : Cat2 d0 d1 d2 s0 s1) (h : ExecR ⟨s0, 3, 0⟩ 0 nilV nilV ev σ') : ev = ⟨5, 0, 9, nilV, nilV⟩ ∧ σ' = ⟨wipeD s1, 0, 9⟩ :=
  ex_run (i := 0) ⟨rfl, by decide, by show 0 < s0.ths.length; rw [E.s0_ok.2.1]; decide, E.s0_ok.1, E.s0_ok.1, .inl E.s0_ok.2.2⟩ E.runS h
end
end Go.Proofs.Qxb6500579aGreat
