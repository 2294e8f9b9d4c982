/-
  THE WALK of vmlaw: Loaded.
-/
import Derived.Test.Qxb6500579aGreatULaw8
namespace Go.Proofs.Qxb6500579aGreat
open Go Go.RowKit
set_option linter.unusedVariables false
set_option linter.unusedSimpArgs false
section
variable {w : World} {A : VL} {σ : St} {o : OpD}
set_option maxRecDepth 100000
set_option maxHeartbeats 1000000
theorem loaded_any (R : VRep w A σ.m σ.f σ.e) (D : DI σ) (hO : OpIn o) (hs : σ = (loadS o.s o.a).2) (er : Nat) (he : er = (loadS o.s o.a).1) :
    Calls Tryz.prog 26 #[sideV A, o.val, .int .i64 er] w fun e' w' => e' = .returned (.bool true) ∧ Fr (fun _ => False) w w' := by
  have L := loadS_f o.s o.a
  have E := loadS_er o.s o.a
  rw [← hs, ← he] at L E
  have HR : Hid (∀ W, Fr (fun _ => False) w W → VRep W A σ.m σ.f σ.e) := fun W hF => R.fresh hF
  have HD : Hid (DI σ) := D
  have ha := hO.a
  have hlen : (o.s.length ≤ 32768 ∧ er ≠ 1) ∨ (32768 < o.s.length ∧ er = 1) := by
    have := E.2
    by_cases h : er = 1
    · exact .inr ⟨this.1 h, h⟩
    · exact .inl ⟨Nat.not_lt.1 fun x => h (this.2 x), h⟩
  have hE : Hid (∀ W, Fr (fun _ => False) w W → Calls Tryz.prog 41 #[.pointer (some ⟨A.b, 0, none⟩)] W fun e' w' => e' = .returned (.int .i64 σ.e) ∧ w' = W) := fun W hF => ended_any (R.fresh hF)
  have hFu : Hid (∀ W, Fr (fun _ => False) w W → Calls Tryz.prog 23 #[.pointer (some ⟨A.b, 0, none⟩)] W fun e' w' => e' = .returned (.int .i64 σ.f) ∧ w' = W) := fun W hF => fuel_any (R.fresh hF)
  have hS0 : Hid (∀ W, Fr (fun _ => False) w W → Calls Tryz.prog 42 #[.pointer (some ⟨A.b, 0, none⟩), .int .i64 0] W fun e' w' => e' = .returned (.int .i64 (statD σ.m 0)) ∧ w' = W) := fun W hF => status_all (R.fresh hF) 0
  have hS1 : Hid (∀ W, Fr (fun _ => False) w W → Calls Tryz.prog 42 #[.pointer (some ⟨A.b, 0, none⟩), .int .i64 1] W fun e' w' => e' = .returned (.int .i64 (statD σ.m 1)) ∧ w' = W) := fun W hF => status_all (R.fresh hF) 1
  have hOu : Hid (∀ W, Fr (fun _ => False) w W → Calls Tryz.prog 24 #[.pointer (some ⟨A.b, 0, none⟩)] W fun e' w' => e' = .returned (sv σ.m.out) ∧ w' = W) := fun W hF => out_any (R.fresh hF)
  have hTb : Hid (∀ W, Fr (fun _ => False) w W → Calls Tryz.prog 8 #[.agg #[.pointer (some ⟨A.bn, 0, none⟩), .pointer (some ⟨A.bt, 0, none⟩)]] W fun e' w' => e' = .returned (sv (showT σ.m.tabs)) ∧ Fr (fun _ => False) W w') := fun W hF => tabs_all (R.fresh hF) D
  obtain ⟨TX, HTX⟩ : ∃ x, Hid (showT σ.m.tabs = x) := ⟨_, rfl⟩
  obtain ⟨Lz, Ln⟩ := L
  rw [HTX.out] at hTb Lz Ln
  clear R hs he hO D HR HD
  obtain ⟨ok, oa, ob, oc, os, ot⟩ := o
  dsimp only at *
  obtain ⟨NL, HNL⟩ : ∃ x, Hid (os.length = x) := ⟨_, rfl⟩
  rw [HNL.out] at hlen
  have hlb : (((er : Nat) : Int) == 1) = decide (32768 < NL) := by
    rcases hlen with ⟨h1, h2⟩ | ⟨h1, h2⟩
    · rw [decide_eq_false (by omega)]
      rw [beq_eq_false_iff_ne]
      omega
    · rw [decide_eq_true h1, h2]
      rfl
  obtain ⟨zl, HZL⟩ : ∃ z : Bool, Hid (decide (32768 < NL) = z) := ⟨_, rfl⟩
  rw [HZL.out] at hlb
  have hlen2 : (⟨os.toArray⟩ : ByteArray).size = NL := HNL.out
  have hzl : decide (32768 < NL) = zl := HZL.out
  have hzi : decide ((32768 : Int) < (NL : Int)) = zl := by rw [← hzl, decide_eq_decide]; omega
  clear hlen E
  by_cases h0 : er = 0
  · obtain ⟨f1, f2, f3, f4, f5, f6⟩ := Lz h0
    rw [f1] at hE
    rw [f2] at hFu
    rw [f3] at hS0
    rw [f4] at hOu
    rw [f5] at hS1
    have hie : (TX == []) = false := by cases TX with
      | nil => exact absurd rfl f6
      | cons a r => rfl
    subst h0
    have hzf : zl = false := by rw [← hlb]; rfl
    subst hzf
    clear Lz Ln f1 f2 f3 f4 f5
    by_cases hn : oa < 0
    · have hz : oa.toNat = 0 := by omega
      rw [hz] at hFu
      have hq := ans_neq0 ⟨0, 0, 1, [], []⟩
      unfold sideV
      go_enter Tryz.func26, Tryz.ntmps26
      go_wp2_with fail
      refine (hE.out _ ((((Fr.refl _ w).alloc _).alloc _).alloc _)).mono ?_
      rintro e' w1 ⟨rfl, rfl⟩
      go_wp2_with fail
      refine (hFu.out _ ((((Fr.refl _ w).alloc _).alloc _).alloc _)).mono ?_
      rintro e' w1 ⟨rfl, rfl⟩
      go_wp2_with fail
      refine (hS0.out _ ((((Fr.refl _ w).alloc _).alloc _).alloc _)).mono ?_
      rintro e' w1 ⟨rfl, rfl⟩
      go_wp2_with fail
      refine (hOu.out _ ((((Fr.refl _ w).alloc _).alloc _).alloc _)).mono ?_
      rintro e' w1 ⟨rfl, rfl⟩
      go_wp2_with fail
      refine (hTb.out _ ((((Fr.refl _ w).alloc _).alloc _).alloc _)).mono ?_
      rintro e' w1 ⟨rfl, F1⟩
      have HF1 : Hid (Fr (fun _ => False) w w1) := ((((Fr.refl _ w).alloc _).alloc _).alloc _).trans F1 (fun _ _ x => x)
      have hb : Has w1 w.heap.size #[.pointer (some ⟨A.b, 0, none⟩), .pointer (some ⟨A.bn, 0, none⟩), .pointer (some ⟨A.bt, 0, none⟩)] 29 := (((Has.newC w _ _ rfl).alloc _).alloc _).fr F1 (fun x => x)
      have k0 := hb.cell 0
      have kl := hb.lt
      simp only [List.getElem?_toArray, List.getElem?_cons_zero] at k0
      clear F1 hb
      go_wp2_with fail
      refine (hS1.out _ HF1.out).mono ?_
      rintro e' w2 ⟨rfl, hw2⟩
      rw [hw2]
      clear hw2
      go_wp2_with fail
      go_ret
      exact ⟨by first | rfl | simp_all, HF1.out⟩
    · obtain ⟨n, rfl⟩ : ∃ n : Nat, oa = (n : Int) := ⟨oa.toNat, by omega⟩
      rw [Int.toNat_natCast] at hFu
      have hq := ans_neq0 ⟨0, n, 1, [], []⟩
      unfold sideV
      go_enter Tryz.func26, Tryz.ntmps26
      go_wp2_with fail
      refine (hE.out _ ((((Fr.refl _ w).alloc _).alloc _).alloc _)).mono ?_
      rintro e' w1 ⟨rfl, rfl⟩
      go_wp2_with fail
      refine (hFu.out _ ((((Fr.refl _ w).alloc _).alloc _).alloc _)).mono ?_
      rintro e' w1 ⟨rfl, rfl⟩
      go_wp2_with fail
      refine (hS0.out _ ((((Fr.refl _ w).alloc _).alloc _).alloc _)).mono ?_
      rintro e' w1 ⟨rfl, rfl⟩
      go_wp2_with fail
      refine (hOu.out _ ((((Fr.refl _ w).alloc _).alloc _).alloc _)).mono ?_
      rintro e' w1 ⟨rfl, rfl⟩
      go_wp2_with fail
      refine (hTb.out _ ((((Fr.refl _ w).alloc _).alloc _).alloc _)).mono ?_
      rintro e' w1 ⟨rfl, F1⟩
      have HF1 : Hid (Fr (fun _ => False) w w1) := ((((Fr.refl _ w).alloc _).alloc _).alloc _).trans F1 (fun _ _ x => x)
      have hb : Has w1 w.heap.size #[.pointer (some ⟨A.b, 0, none⟩), .pointer (some ⟨A.bn, 0, none⟩), .pointer (some ⟨A.bt, 0, none⟩)] 29 := (((Has.newC w _ _ rfl).alloc _).alloc _).fr F1 (fun x => x)
      have k0 := hb.cell 0
      have kl := hb.lt
      simp only [List.getElem?_toArray, List.getElem?_cons_zero] at k0
      clear F1 hb
      go_wp2_with fail
      refine (hS1.out _ HF1.out).mono ?_
      rintro e' w2 ⟨rfl, hw2⟩
      rw [hw2]
      clear hw2
      go_wp2_with fail
      go_ret
      exact ⟨by first | rfl | simp_all, HF1.out⟩
  · obtain ⟨f1, f2, f3, f4, f5, f6⟩ := Ln h0
    rw [f1] at hE
    rw [f2] at hFu
    rw [f3] at hS0
    rw [f4] at hOu
    rw [f5] at hS1
    subst f6
    have hq := ans_neq0 ⟨21, 0, 0, [], []⟩
    have g0 : (((er : Nat) : Int) == 0) = false := by rw [beq_eq_false_iff_ne]; omega
    clear Lz Ln f1 f2 f3 f4 f5
    cases zl
    · unfold sideV
      go_enter Tryz.func26, Tryz.ntmps26
      go_wp2_with fail
      refine (hE.out _ ((((Fr.refl _ w).alloc _).alloc _).alloc _)).mono ?_
      rintro e' w1 ⟨rfl, rfl⟩
      go_wp2_with fail
      refine (hFu.out _ ((((Fr.refl _ w).alloc _).alloc _).alloc _)).mono ?_
      rintro e' w1 ⟨rfl, rfl⟩
      go_wp2_with fail
      refine (hS0.out _ ((((Fr.refl _ w).alloc _).alloc _).alloc _)).mono ?_
      rintro e' w1 ⟨rfl, rfl⟩
      go_wp2_with fail
      refine (hOu.out _ ((((Fr.refl _ w).alloc _).alloc _).alloc _)).mono ?_
      rintro e' w1 ⟨rfl, rfl⟩
      go_wp2_with fail
      refine (hTb.out _ ((((Fr.refl _ w).alloc _).alloc _).alloc _)).mono ?_
      rintro e' w1 ⟨rfl, F1⟩
      have HF1 : Hid (Fr (fun _ => False) w w1) := ((((Fr.refl _ w).alloc _).alloc _).alloc _).trans F1 (fun _ _ x => x)
      have hb : Has w1 w.heap.size #[.pointer (some ⟨A.b, 0, none⟩), .pointer (some ⟨A.bn, 0, none⟩), .pointer (some ⟨A.bt, 0, none⟩)] 29 := (((Has.newC w _ _ rfl).alloc _).alloc _).fr F1 (fun x => x)
      have k0 := hb.cell 0
      have kl := hb.lt
      simp only [List.getElem?_toArray, List.getElem?_cons_zero] at k0
      clear F1 hb
      go_wp2_with fail
      refine (hS1.out _ HF1.out).mono ?_
      rintro e' w2 ⟨rfl, hw2⟩
      rw [hw2]
      clear hw2
      go_wp2_with fail
      go_ret
      exact ⟨by first | rfl | simp_all, HF1.out⟩
    · unfold sideV
      go_enter Tryz.func26, Tryz.ntmps26
      go_wp2_with fail
      refine (hE.out _ ((((Fr.refl _ w).alloc _).alloc _).alloc _)).mono ?_
      rintro e' w1 ⟨rfl, rfl⟩
      go_wp2_with fail
      refine (hFu.out _ ((((Fr.refl _ w).alloc _).alloc _).alloc _)).mono ?_
      rintro e' w1 ⟨rfl, rfl⟩
      go_wp2_with fail
      refine (hS0.out _ ((((Fr.refl _ w).alloc _).alloc _).alloc _)).mono ?_
      rintro e' w1 ⟨rfl, rfl⟩
      go_wp2_with fail
      refine (hOu.out _ ((((Fr.refl _ w).alloc _).alloc _).alloc _)).mono ?_
      rintro e' w1 ⟨rfl, rfl⟩
      go_wp2_with fail
      refine (hTb.out _ ((((Fr.refl _ w).alloc _).alloc _).alloc _)).mono ?_
      rintro e' w1 ⟨rfl, F1⟩
      have HF1 : Hid (Fr (fun _ => False) w w1) := ((((Fr.refl _ w).alloc _).alloc _).alloc _).trans F1 (fun _ _ x => x)
      have hb : Has w1 w.heap.size #[.pointer (some ⟨A.b, 0, none⟩), .pointer (some ⟨A.bn, 0, none⟩), .pointer (some ⟨A.bt, 0, none⟩)] 29 := (((Has.newC w _ _ rfl).alloc _).alloc _).fr F1 (fun x => x)
      have k0 := hb.cell 0
      have kl := hb.lt
      simp only [List.getElem?_toArray, List.getElem?_cons_zero] at k0
      clear F1 hb
      go_wp2_with fail
      refine (hS1.out _ HF1.out).mono ?_
      rintro e' w2 ⟨rfl, hw2⟩
      rw [hw2]
      clear hw2
      go_wp2_with fail
      go_ret
      exact ⟨by first | rfl | simp_all, HF1.out⟩
end
end Go.Proofs.Qxb6500579aGreat
