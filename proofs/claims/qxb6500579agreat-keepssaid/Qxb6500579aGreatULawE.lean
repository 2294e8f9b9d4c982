/-
  THE WALK of vmlaw: Event.
-/
import Derived.Test.Qxb6500579aGreatULaw9
import Derived.Test.Qxb6500579aGreatUExB
namespace Go.Proofs.Qxb6500579aGreat
open Go Go.RowKit
set_option linter.unusedVariables false
set_option linter.unusedSimpArgs false
section
variable {w : World} {A : VL} {σ σ' : St} {i : Int} {ev : EvD}
theorem stat_nil {m : VMD} (h : m.ths = []) (j : Int) : statD m j = 0 := by
  unfold statD
  rw [if_neg]
  rw [h]
  simp
theorem stat_at {m : VMD} {j : Nat} {t : ThD} (h : m.ths[j]? = some t) : statD m (j : Int) = t.st := by
  have hl := (List.getElem?_eq_some_iff.1 h).1
  unfold statD
  rw [if_pos ⟨by omega, by omega⟩, Int.toNat_natCast, th_get h]
set_option maxRecDepth 100000
set_option maxHeartbeats 1000000
theorem event_any (R : VRep w A σ'.m σ'.f σ'.e) (F : ExF σ i ev σ') (hi : -9223372036854775808 ≤ i ∧ i ≤ 9223372036854775807) {s t : Bs} :
    Calls Tryz.prog 29 #[.pointer (some ⟨A.b, 0, none⟩), .int .i64 i, .agg #[.int .i64 ev.e, .int .i64 ev.k, .int .i64 ev.th, sv s, sv t]] w fun e' w' => e' = .returned (.bool true) ∧ Fr (fun _ => False) w w' := by
  have h5 := R.len5
  have hE : Hid (∀ W, Fr (fun _ => False) w W → Calls Tryz.prog 41 #[.pointer (some ⟨A.b, 0, none⟩)] W fun e' w' => e' = .returned (.int .i64 σ'.e) ∧ w' = W) := fun W hF => ended_any (R.fresh hF)
  have hS : Hid (∀ j W, Fr (fun _ => False) w W → Calls Tryz.prog 42 #[.pointer (some ⟨A.b, 0, none⟩), .int .i64 j] W fun e' w' => e' = .returned (.int .i64 (statD σ'.m j)) ∧ w' = W) := fun j W hF => status_all (R.fresh hF) j
  have hX : Hid (∀ W, σ'.e ≠ 0 → Fr (fun _ => False) w W → Calls Tryz.prog 37 #[.pointer (some ⟨A.b, 0, none⟩), .int .i64 0, nilV.val, nilV.val] W fun e' w' => e' = .returned evBad.val ∧ Fr (fun _ => False) W w') := fun W he hF => exec_none (a := nilV) (b := nilV) (R.fresh hF) (by omega) (.inl he)
  have FR0 : Hid (∀ (b : Obj), Fr (fun _ => False) w (w.alloc b)) := fun b => (Fr.refl _ w).alloc b
  have hk : ev.k = 5 ∨ (ev.k = 1 ∨ ev.k = 2) ∨ ev.k = 3 ∨ ev.k = 4 := by have := F.k1; have := F.k5; omega
  have hi0 := F.i0
  rcases hk with hk | hk | hk | hk
  · obtain ⟨e1, e2, e3, e4⟩ := F.t5 hk
    have hz : ∀ j, statD σ'.m j = 0 := stat_nil e2
    have HZ : Hid (∀ j, statD σ'.m j = 0) := hz
    have hne : σ'.e ≠ 0 := by omega
    have HNE : Hid (σ'.e ≠ 0) := hne
    rw [e1] at hE
    obtain ⟨ek, eth, ee, ev1, ev2⟩ := ev
    dsimp only at *
    subst hk
    have g1 : ((ee : Int) != 0) = true := by rw [bne_iff_ne]; omega
    have g2 : ((ee : Int) != 21) = true := by rw [bne_iff_ne]; omega
    have g3 : ((ee : Int) == 0) = false := by rw [beq_eq_false_iff_ne]; omega
    have g4 : ((ee : Int) == 21) = false := by rw [beq_eq_false_iff_ne]; omega
    have hS0 : Hid (∀ j W, Fr (fun _ => False) w W → Calls Tryz.prog 42 #[.pointer (some ⟨A.b, 0, none⟩), .int .i64 j] W fun e' w' => e' = .returned (.int .i64 0) ∧ w' = W) := fun j W hF => by
      have := hS.out j W hF
      rw [HZ.out] at this
      exact this
    clear F R e1 e2 e3 e4 hz hne hS HZ
    go_enter Tryz.func29, Tryz.ntmps29
    go_wp2_with fail
    refine (hE.out _ (FR0.out _)).mono ?_
    rintro e' w1 ⟨rfl, rfl⟩
    go_wp2_with fail
    refine (hS0.out _ _ (FR0.out _)).mono ?_
    rintro e' w1 ⟨rfl, rfl⟩
    go_wp2_with fail
    refine (hS0.out _ _ (FR0.out _)).mono ?_
    rintro e' w1 ⟨rfl, rfl⟩
    have hb : Has (w.alloc (.cells #[.int .i64 ee, .int .i64 5, .int .i64 eth, sv s, sv t] 41)) w.heap.size #[.int .i64 ee, .int .i64 5, .int .i64 eth, sv s, sv t] 41 := Has.newC _ _ _ rfl
    have HFW : Hid (Fr (fun _ => False) w (w.alloc (.cells #[.int .i64 ee, .int .i64 5, .int .i64 eth, sv s, sv t] 41))) := FR0.out _
    go_wp2_with fail
    generalize w.alloc (.cells #[.int .i64 ee, .int .i64 5, .int .i64 eth, sv s, sv t] 41) = W0 at hb HFW ⊢
    have HB : Hid (Has W0 w.heap.size #[.int .i64 ee, .int .i64 5, .int .i64 eth, sv s, sv t] 41) := hb
    clear hb
    go_loopw [10] (fun v10 wr => ∃ (j : Nat), j ≤ 5 ∧ v10 = .int .i64 j ∧ Hid (wr = W0)) (fun v10 _ => 5 - (intOf v10).toNat)
    case atStart => exact ⟨0, by omega, rfl, rfl⟩
    case round =>
      obtain ⟨j, hj, rfl, hwr⟩ := hrel
      have hwr := hwr.out
      subst hwr
      by_cases hjN : j = 5
      · subst hjN
        go_wp2_with fail
        refine (hX.out _ HNE.out HFW.out).mono ?_
        rintro e' w2 ⟨rfl, F2⟩
        have HF2 : Hid (Fr (fun _ => False) w w2) := HFW.out.trans F2 (fun _ _ x => x)
        have k0 := (HB.out.fr F2 (fun x => x)).cell 0
        have kl := (HB.out.fr F2 (fun x => x)).lt
        simp only [List.getElem?_toArray, List.getElem?_cons_zero] at k0
        have HFA : Hid (Fr (fun _ => False) w (w2.alloc (.cells (evCells evBad) 85))) := HF2.out.alloc _
        clear F2
        dsimp only [evBad, nilV]
        go_wp2_with fail
        go_ret
        exact ⟨rfl, HFA.out⟩
      · have hjl : (j : Int) < 5 := by omega
        go_wp2_with fail
        refine (hS0.out _ _ HFW.out).mono ?_
        rintro e' w2 ⟨rfl, hw2⟩
        rw [hw2]
        clear hw2
        go_wp2_with fail
        go_roundw
        case rel => exact ⟨j + 1, by omega, rfl, trivial⟩
        case measure => simp [intOf]; omega
  · obtain ⟨e1, t', e2, e3, e4, e5⟩ := F.t4 (by omega)
    have hst := e3 hk
    obtain ⟨n, rfl⟩ : ∃ n : Nat, i = (n : Int) := ⟨i.toNat, by omega⟩
    rw [Int.toNat_natCast] at e2
    have hs1 : statD σ'.m (n : Int) = 5 := (stat_at e2).trans hst
    have hS1 : Hid (∀ W, Fr (fun _ => False) w W → Calls Tryz.prog 42 #[.pointer (some ⟨A.b, 0, none⟩), .int .i64 n] W fun e' w' => e' = .returned (.int .i64 5) ∧ w' = W) := fun W hF => by
      have := hS.out n W hF
      rw [hs1] at this
      exact this
    rw [e1] at hE
    obtain ⟨ek, eth, ee, ev1, ev2⟩ := ev
    dsimp only at *
    clear F R e1 e2 e3 e4 e5 hs1 hst
    rcases hk with hk | hk
    · subst hk
      go_enter Tryz.func29, Tryz.ntmps29
      go_wp2_with fail
      refine (hE.out _ (FR0.out _)).mono ?_
      rintro e' w1 ⟨rfl, rfl⟩
      go_wp2_with fail
      refine (hS1.out _ (FR0.out _)).mono ?_
      rintro e' w1 ⟨rfl, rfl⟩
      go_wp2_with fail
      refine (hS.out _ _ (FR0.out _)).mono ?_
      rintro e' w1 ⟨rfl, rfl⟩
      go_wp2_with fail
      go_ret
      exact ⟨rfl, FR0.out _⟩
    · subst hk
      go_enter Tryz.func29, Tryz.ntmps29
      go_wp2_with fail
      refine (hE.out _ (FR0.out _)).mono ?_
      rintro e' w1 ⟨rfl, rfl⟩
      go_wp2_with fail
      refine (hS1.out _ (FR0.out _)).mono ?_
      rintro e' w1 ⟨rfl, rfl⟩
      go_wp2_with fail
      refine (hS.out _ _ (FR0.out _)).mono ?_
      rintro e' w1 ⟨rfl, rfl⟩
      go_wp2_with fail
      go_ret
      exact ⟨rfl, FR0.out _⟩
  · obtain ⟨e1, t', e2, e3, e4, e5⟩ := F.t4 (by omega)
    obtain ⟨hst, hne⟩ := e4 hk
    obtain ⟨n, rfl⟩ : ∃ n : Nat, i = (n : Int) := ⟨i.toNat, by omega⟩
    rw [Int.toNat_natCast] at e2
    have hs1 : statD σ'.m (n : Int) = 2 := (stat_at e2).trans hst
    have hS1 : Hid (∀ W, Fr (fun _ => False) w W → Calls Tryz.prog 42 #[.pointer (some ⟨A.b, 0, none⟩), .int .i64 n] W fun e' w' => e' = .returned (.int .i64 2) ∧ w' = W) := fun W hF => by
      have := hS.out n W hF
      rw [hs1] at this
      exact this
    rw [e1] at hE
    have g1 : ((n : Int) != 0) = true := by rw [bne_iff_ne]; exact hne
    have g2 : ((n : Int) == 0) = false := by rw [beq_eq_false_iff_ne]; exact hne
    obtain ⟨ek, eth, ee, ev1, ev2⟩ := ev
    dsimp only at *
    clear F R e1 e2 e3 e4 e5 hs1 hst hne
    subst hk
    go_enter Tryz.func29, Tryz.ntmps29
    go_wp2_with fail
    refine (hE.out _ (FR0.out _)).mono ?_
    rintro e' w1 ⟨rfl, rfl⟩
    go_wp2_with fail
    refine (hS1.out _ (FR0.out _)).mono ?_
    rintro e' w1 ⟨rfl, rfl⟩
    go_wp2_with fail
    refine (hS.out _ _ (FR0.out _)).mono ?_
    rintro e' w1 ⟨rfl, rfl⟩
    go_wp2_with fail
    go_ret
    exact ⟨rfl, FR0.out _⟩
  · obtain ⟨e1, t', e2, e3, e4, e5⟩ := F.t4 (by omega)
    obtain ⟨hst, h1, hne, u, hu, hus⟩ := e5 hk
    obtain ⟨n, rfl⟩ : ∃ n : Nat, i = (n : Int) := ⟨i.toNat, by omega⟩
    rw [Int.toNat_natCast] at e2 hne
    have hul := (List.getElem?_eq_some_iff.1 hu).1
    have hs1 : statD σ'.m (n : Int) = 3 := (stat_at e2).trans hst
    have hs2 : statD σ'.m (ev.th : Int) = u.st := stat_at hu
    have hS1 : Hid (∀ W, Fr (fun _ => False) w W → Calls Tryz.prog 42 #[.pointer (some ⟨A.b, 0, none⟩), .int .i64 n] W fun e' w' => e' = .returned (.int .i64 3) ∧ w' = W) := fun W hF => by
      have := hS.out n W hF
      rw [hs1] at this
      exact this
    have hS2 : Hid (∀ W, Fr (fun _ => False) w W → Calls Tryz.prog 42 #[.pointer (some ⟨A.b, 0, none⟩), .int .i64 ev.th] W fun e' w' => e' = .returned (.int .i64 u.st) ∧ w' = W) := fun W hF => by
      have := hS.out ev.th W hF
      rw [hs2] at this
      exact this
    rw [e1] at hE
    obtain ⟨us, HUS⟩ : ∃ x, Hid (u.st = x) := ⟨_, rfl⟩
    rw [HUS.out] at hS2 hus
    obtain ⟨ek, eth, ee, ev1, ev2⟩ := ev
    dsimp only at *
    have hth5 : eth < 5 := by omega
    have g1 : ((eth : Int) != (n : Int)) = true := by rw [bne_iff_ne]; omega
    have g2 : ((eth : Int) == (n : Int)) = false := by rw [beq_eq_false_iff_ne]; omega
    have g3 : decide ((eth : Int) < 1) = false := by rw [decide_eq_false_iff_not]; omega
    have g4 : decide ((5 : Int) ≤ (eth : Int)) = false := by rw [decide_eq_false_iff_not]; omega
    clear F R e1 e2 e3 e4 e5 hs1 hs2 hst hne hu hul hS HUS u
    subst hk
    rcases hus with hus | hus
    · subst hus
      go_enter Tryz.func29, Tryz.ntmps29
      go_wp2_with fail
      refine (hE.out _ (FR0.out _)).mono ?_
      rintro e' w1 ⟨rfl, rfl⟩
      go_wp2_with fail
      refine (hS1.out _ (FR0.out _)).mono ?_
      rintro e' w1 ⟨rfl, rfl⟩
      go_wp2_with fail
      refine (hS2.out _ (FR0.out _)).mono ?_
      rintro e' w1 ⟨rfl, rfl⟩
      go_wp2_with fail
      go_ret
      exact ⟨rfl, FR0.out _⟩
    · subst hus
      go_enter Tryz.func29, Tryz.ntmps29
      go_wp2_with fail
      refine (hE.out _ (FR0.out _)).mono ?_
      rintro e' w1 ⟨rfl, rfl⟩
      go_wp2_with fail
      refine (hS1.out _ (FR0.out _)).mono ?_
      rintro e' w1 ⟨rfl, rfl⟩
      go_wp2_with fail
      refine (hS2.out _ (FR0.out _)).mono ?_
      rintro e' w1 ⟨rfl, rfl⟩
      go_wp2_with fail
      go_ret
      exact ⟨rfl, FR0.out _⟩
end
end Go.Proofs.Qxb6500579aGreat
