/-
  THE WALKS of syntaxm: unary, post.
-/
import Derived.Test.Qxb6500574aGreatDoorZR4
namespace Go.Proofs.Qxb6500574aGreatDoor
open Go Go.RowKit
set_option linter.unusedVariables false
set_option linter.unusedSimpArgs false
section
variable {T : List Tok} {n : Nat}
set_option maxRecDepth 100000
set_option maxHeartbeats 1000000
theorem unary_z (C : ∀ m, m ≤ n → PCz T m) {w W : World} {A : PzP} {s : PSt} {room : Nat} {lv : Int} (h0 : PzK w A T s W) (hn : PzN s 0) (hr : lv + room = 13 ∧ 1 ≤ lv) (hx : parM T (n + 1) 2 room [] s ≠ x99) :
    Calls Tryz.prog 314 #[.pointer (some ⟨A.b, 0, none⟩), .int .i64 lv] W (PzR T w A (parM T (n + 1) 2 room [] s)) := by
  obtain ⟨R, HR⟩ : ∃ R, Hid (parM T (n + 1) 2 room [] s = R) := ⟨_, rfl⟩
  rw [HR.out] at hx ⊢
  obtain ⟨Q, HQ⟩ : ∃ Q : Ending → World → Prop, Hid (PzR T w A R = Q) := ⟨_, rfl⟩
  rw [HQ.out]
  have HC := hid C
  have HX := hid hx
  have HK0 := hid h0
  have HN0 := hid hn
  have HRM := hid hr
  have lv1 : 1 ≤ lv := hr.2
  have lv2 : lv ≤ 13 := by omega
  have HP : Hid (_ = R) := pm2.symm.trans HR.out
  clear C hx h0 hn HR hr
  obtain ⟨c3, c4, c5, c6, c9, c11, c12, c13⟩ := HK0.out.c
  have lb := HK0.out.lt
  clear c3 c4 c5 c6 c11 c12 c13
  by_cases hhz0 : room = 0
  · have hz0 := hid hhz0
    clear hhz0
    have hl : lv = 13 := by have := HRM.out; have := hz0.out; omega
    have hp := HP.out
    clear HP
    rw [if_pos hz0.out] at hp
    have HP := hid hp
    clear hp
    obtain ⟨y1, hy1⟩ : ∃ y, failP T s 16 = .inl y := ⟨_, rfl⟩
    have HFY := hid hy1
    have HY : Hid (R = .inl y1) := by
      have hp := HP.out
      rw [hy1] at hp
      exact hp.symm
    clear hy1 HP
    have HCC := hid (HK0.out.deep HFY.out hl)
    clear hl
    go_enter Tryz.func314, Tryz.ntmps314
    go_wp2_with fail
    refine HCC.out.mono ?_
    rintro e1 W1 ⟨rfl, b1⟩
    clear c9 lb
    have HB1 := hid b1
    clear b1 HCC
    obtain ⟨c9, ne1, ne2⟩ := HB1.out.c
    have lb := HB1.out.lt
    have FIN : Hid (Q (.returned (.int .i64 0)) W1) := by
      show Q _ _
      rw [← HQ.out]
      exact .inr ⟨y1, 0, HY.out, rfl, HB1.out⟩
    go_wp2_with fail
    first | exact FIN.out | (go_ret; exact FIN.out) | (go_ret2; exact FIN.out)
  · have hz0 := hid hhz0
    clear hhz0
    have hp := HP.out
    clear HP
    rw [if_neg hz0.out] at hp
    have HP := hid hp
    clear hp
    by_cases hhs1 : (curT T s).k = 32
    · have hs1 := hid hhs1
      clear hhs1
      have hp := HP.out
      clear HP
      rw [if_pos (by have := hs1.out; omega)] at hp
      have HP := hid hp
      clear hp
      have hl : lv ≤ 12 := by have := HRM.out; have := hz0.out; omega
      have h1 : 1 ≤ room := by have := hz0.out; omega
      have HD : Hid (∀ W, Calls Tryz.prog 184 #[.pointer (some ⟨A.b, 0, none⟩), .int .i64 lv] W fun e w' => e = .returned (.bool false) ∧ w' = W) := fun W => deep_no A.b hl
      clear hl
      go_enter Tryz.func314, Tryz.ntmps314
      go_wp2_with fail
      refine (HD.out _).mono ?_
      rintro e7 V7 ⟨rfl, hw⟩
      rw [hw]
      clear hw V7 HD
      clear c9 lb
      obtain ⟨c3, c4, c5, c6, c9, c11, c12, c13⟩ := HK0.out.c
      have lb := HK0.out.lt
      clear c3 c4 c5 c11 c12 c13
      have CI := HK0.out.is (k := 32) (by decide) (by decide) (x := [45]) rfl
      rw [decide_eq_true hs1.out] at CI
      have HCI := hid CI
      clear CI
      go_wp2_with fail
      refine HCI.out.mono ?_
      rintro e2 V2 ⟨rfl, hw⟩
      rw [hw]
      clear hw HCI V2
      have HCC := hid (HK0.out.next (by have := hs1.out; omega))
      go_wp2_with fail
      refine HCC.out.mono ?_
      rintro e3 W3 ⟨rfl, k1⟩
      clear c6 c9 lb
      clear HCC
      have HK3 : Hid (PzK w A T s.nxt W3) := k1
      clear k1
      have HN3 : Hid (PzN s.nxt 1) := (HN0.out.nxt)
      obtain ⟨c3, c4, c5, c6, c9, c11, c12, c13⟩ := HK3.out.c
      have lb := HK3.out.lt
      clear c3 c4 c5 c6 c11 c12 c13
      obtain ⟨tp, HTP⟩ : ∃ tp : Nat, Hid ((curT T s).p = tp) := ⟨_, rfl⟩
      rw [HTP.out]
      have hx9 : parM T n 2 (room - 1) [] s.nxt ≠ x99 := fun e => HX.out (by have hp := HP.out; rw [e] at hp; exact hp.symm)
      have HCC := hid ((HC.out n (Nat.le_refl _)).u (lv := lv + 1) HK3.out (HN3.out.le (by omega)) (by have := HRM.out; omega) hx9)
      clear hx9
      go_wp2_with fail
      refine HCC.out.mono ?_
      intro e4 W4 q4
      clear c9 lb
      clear HCC
      rcases q4 with ⟨v4, s4, hy, rfl, k1⟩ | ⟨y4, z4, hy, rfl, b1⟩
      · have HY := hid hy
        have HK4 := hid k1
        clear hy k1
        obtain ⟨n1, a1, b1⟩ := HN3.out.p2 HY.out
        have hp := HP.out
        clear HP
        rw [HY.out] at hp
        dsimp only [PBd] at hp
        have HP := hid hp
        clear hp
        obtain ⟨v, HVv⟩ : ∃ x : Nat, Hid (v4.getD 0 0 = x) := ⟨_, rfl⟩
        rw [HVv.out] at b1 HP a1
        have HN4 : Hid (PzN s4 1) := n1
        have HLv := hid b1
        have HGv := hid a1
        clear a1
        clear n1 b1
        rw [HVv.out]
        obtain ⟨c3, c4, c5, c6, c9, c11, c12, c13⟩ := HK4.out.c
        have lb := HK4.out.lt
        clear c3 c4 c5 c6 c11 c12 c13
        have hp := HP.out
        clear HP
        rw [if_pos hs1.out, HTP.out] at hp
        have HP := hid hp
        clear hp
        have HCC := hid (HK4.out.add ⟨23, v, 0, 0, 0, 1, [], tp⟩ (by have := HN4.out.l; have := HK4.out.il; omega))
        have FIN : Hid (∀ e W, (e = .returned (.int .i64 ((s4).nodes.length : Nat)) ∧ PzK w A T ((s4).add ⟨23, v, 0, 0, 0, 1, [], tp⟩) W) → Q e W) := fun e W h => by
          rw [← HQ.out]
          exact .inl ⟨_, _, HP.out.symm, h.1, h.2⟩
        go_wp2_with fail
        refine HCC.out.mono ?_
        rintro e5 W5 ⟨rfl, k1⟩
        clear c9 lb
        have FIN2 := hid (FIN.out _ _ ⟨rfl, k1⟩)
        clear FIN k1 HCC
        go_wp2_with fail
        first | exact FIN2.out | (go_ret; exact FIN2.out) | (go_ret2; exact FIN2.out)
      · have HB4 := hid b1
        have HY : Hid (R = .inl y4) := by
          have hp := HP.out
          rw [hy] at hp
          exact hp.symm
        clear hy b1 HP
        obtain ⟨c9, ne1, ne2⟩ := HB4.out.c
        have lb := HB4.out.lt
        have FIN : Hid (Q (.returned (.int .i64 0)) W4) := by
          show Q _ _
          rw [← HQ.out]
          exact .inr ⟨y4, 0, HY.out, rfl, HB4.out⟩
        go_wp2_with fail
        first | exact FIN.out | (go_ret; exact FIN.out) | (go_ret2; exact FIN.out)
    · have hs1 := hid hhs1
      clear hhs1
      by_cases hhs2 : (curT T s).k = 17
      · have hs2 := hid hhs2
        clear hhs2
        have hp := HP.out
        clear HP
        rw [if_pos (by have := hs2.out; omega)] at hp
        have HP := hid hp
        clear hp
        have hl : lv ≤ 12 := by have := HRM.out; have := hz0.out; omega
        have h1 : 1 ≤ room := by have := hz0.out; omega
        have HD : Hid (∀ W, Calls Tryz.prog 184 #[.pointer (some ⟨A.b, 0, none⟩), .int .i64 lv] W fun e w' => e = .returned (.bool false) ∧ w' = W) := fun W => deep_no A.b hl
        clear hl
        go_enter Tryz.func314, Tryz.ntmps314
        go_wp2_with fail
        refine (HD.out _).mono ?_
        rintro e7 V7 ⟨rfl, hw⟩
        rw [hw]
        clear hw V7 HD
        clear c9 lb
        obtain ⟨c3, c4, c5, c6, c9, c11, c12, c13⟩ := HK0.out.c
        have lb := HK0.out.lt
        clear c3 c4 c5 c11 c12 c13
        have CI := HK0.out.is (k := 32) (by decide) (by decide) (x := [45]) rfl
        rw [decide_eq_false hs1.out] at CI
        have HCI := hid CI
        clear CI
        go_wp2_with fail
        refine HCI.out.mono ?_
        rintro e6 V6 ⟨rfl, hw⟩
        rw [hw]
        clear hw HCI V6
        have CI := HK0.out.is (k := 17) (by decide) (by decide) (x := [110, 111, 116]) rfl
        rw [decide_eq_true hs2.out] at CI
        have HCI := hid CI
        clear CI
        go_wp2_with fail
        refine HCI.out.mono ?_
        rintro e7 V7 ⟨rfl, hw⟩
        rw [hw]
        clear hw HCI V7
        have HCC := hid (HK0.out.next (by have := hs2.out; omega))
        go_wp2_with fail
        refine HCC.out.mono ?_
        rintro e8 W8 ⟨rfl, k1⟩
        clear c6 c9 lb
        clear HCC
        have HK8 : Hid (PzK w A T s.nxt W8) := k1
        clear k1
        have HN8 : Hid (PzN s.nxt 1) := (HN0.out.nxt)
        obtain ⟨c3, c4, c5, c6, c9, c11, c12, c13⟩ := HK8.out.c
        have lb := HK8.out.lt
        clear c3 c4 c5 c6 c11 c12 c13
        obtain ⟨tp, HTP⟩ : ∃ tp : Nat, Hid ((curT T s).p = tp) := ⟨_, rfl⟩
        rw [HTP.out]
        have hx9 : parM T n 2 (room - 1) [] s.nxt ≠ x99 := fun e => HX.out (by have hp := HP.out; rw [e] at hp; exact hp.symm)
        have HCC := hid ((HC.out n (Nat.le_refl _)).u (lv := lv + 1) HK8.out (HN8.out.le (by omega)) (by have := HRM.out; omega) hx9)
        clear hx9
        go_wp2_with fail
        refine HCC.out.mono ?_
        intro e9 W9 q9
        clear c9 lb
        clear HCC
        rcases q9 with ⟨v9, s9, hy, rfl, k1⟩ | ⟨y9, z9, hy, rfl, b1⟩
        · have HY := hid hy
          have HK9 := hid k1
          clear hy k1
          obtain ⟨n1, a1, b1⟩ := HN8.out.p2 HY.out
          have hp := HP.out
          clear HP
          rw [HY.out] at hp
          dsimp only [PBd] at hp
          have HP := hid hp
          clear hp
          obtain ⟨v, HVv⟩ : ∃ x : Nat, Hid (v9.getD 0 0 = x) := ⟨_, rfl⟩
          rw [HVv.out] at b1 HP a1
          have HN9 : Hid (PzN s9 1) := n1
          have HLv := hid b1
          have HGv := hid a1
          clear a1
          clear n1 b1
          rw [HVv.out]
          obtain ⟨c3, c4, c5, c6, c9, c11, c12, c13⟩ := HK9.out.c
          have lb := HK9.out.lt
          clear c3 c4 c5 c6 c11 c12 c13
          have hp := HP.out
          clear HP
          rw [if_neg hs1.out, if_pos hs2.out, HTP.out] at hp
          have HP := hid hp
          clear hp
          have HCC := hid (HK9.out.add ⟨23, v, 0, 0, 0, 2, [], tp⟩ (by have := HN9.out.l; have := HK9.out.il; omega))
          have FIN : Hid (∀ e W, (e = .returned (.int .i64 ((s9).nodes.length : Nat)) ∧ PzK w A T ((s9).add ⟨23, v, 0, 0, 0, 2, [], tp⟩) W) → Q e W) := fun e W h => by
            rw [← HQ.out]
            exact .inl ⟨_, _, HP.out.symm, h.1, h.2⟩
          go_wp2_with fail
          refine HCC.out.mono ?_
          rintro e10 W10 ⟨rfl, k1⟩
          clear c9 lb
          have FIN2 := hid (FIN.out _ _ ⟨rfl, k1⟩)
          clear FIN k1 HCC
          go_wp2_with fail
          first | exact FIN2.out | (go_ret; exact FIN2.out) | (go_ret2; exact FIN2.out)
        · have HB9 := hid b1
          have HY : Hid (R = .inl y9) := by
            have hp := HP.out
            rw [hy] at hp
            exact hp.symm
          clear hy b1 HP
          obtain ⟨c9, ne1, ne2⟩ := HB9.out.c
          have lb := HB9.out.lt
          have FIN : Hid (Q (.returned (.int .i64 0)) W9) := by
            show Q _ _
            rw [← HQ.out]
            exact .inr ⟨y9, 0, HY.out, rfl, HB9.out⟩
          go_wp2_with fail
          first | exact FIN.out | (go_ret; exact FIN.out) | (go_ret2; exact FIN.out)
      · have hs2 := hid hhs2
        clear hhs2
        by_cases hhs3 : (curT T s).k = 37
        · have hs3 := hid hhs3
          clear hhs3
          have hp := HP.out
          clear HP
          rw [if_pos (by have := hs3.out; omega)] at hp
          have HP := hid hp
          clear hp
          have hl : lv ≤ 12 := by have := HRM.out; have := hz0.out; omega
          have h1 : 1 ≤ room := by have := hz0.out; omega
          have HD : Hid (∀ W, Calls Tryz.prog 184 #[.pointer (some ⟨A.b, 0, none⟩), .int .i64 lv] W fun e w' => e = .returned (.bool false) ∧ w' = W) := fun W => deep_no A.b hl
          clear hl
          go_enter Tryz.func314, Tryz.ntmps314
          go_wp2_with fail
          refine (HD.out _).mono ?_
          rintro e7 V7 ⟨rfl, hw⟩
          rw [hw]
          clear hw V7 HD
          clear c9 lb
          obtain ⟨c3, c4, c5, c6, c9, c11, c12, c13⟩ := HK0.out.c
          have lb := HK0.out.lt
          clear c3 c4 c5 c11 c12 c13
          have CI := HK0.out.is (k := 32) (by decide) (by decide) (x := [45]) rfl
          rw [decide_eq_false hs1.out] at CI
          have HCI := hid CI
          clear CI
          go_wp2_with fail
          refine HCI.out.mono ?_
          rintro e11 V11 ⟨rfl, hw⟩
          rw [hw]
          clear hw HCI V11
          have CI := HK0.out.is (k := 17) (by decide) (by decide) (x := [110, 111, 116]) rfl
          rw [decide_eq_false hs2.out] at CI
          have HCI := hid CI
          clear CI
          go_wp2_with fail
          refine HCI.out.mono ?_
          rintro e12 V12 ⟨rfl, hw⟩
          rw [hw]
          clear hw HCI V12
          have CI := HK0.out.is (k := 37) (by decide) (by decide) (x := [35]) rfl
          rw [decide_eq_true hs3.out] at CI
          have HCI := hid CI
          clear CI
          go_wp2_with fail
          refine HCI.out.mono ?_
          rintro e13 V13 ⟨rfl, hw⟩
          rw [hw]
          clear hw HCI V13
          have HCC := hid (HK0.out.next (by have := hs3.out; omega))
          go_wp2_with fail
          refine HCC.out.mono ?_
          rintro e14 W14 ⟨rfl, k1⟩
          clear c6 c9 lb
          clear HCC
          have HK14 : Hid (PzK w A T s.nxt W14) := k1
          clear k1
          have HN14 : Hid (PzN s.nxt 1) := (HN0.out.nxt)
          obtain ⟨c3, c4, c5, c6, c9, c11, c12, c13⟩ := HK14.out.c
          have lb := HK14.out.lt
          clear c3 c4 c5 c6 c11 c12 c13
          obtain ⟨tp, HTP⟩ : ∃ tp : Nat, Hid ((curT T s).p = tp) := ⟨_, rfl⟩
          rw [HTP.out]
          have hx9 : parM T n 2 (room - 1) [] s.nxt ≠ x99 := fun e => HX.out (by have hp := HP.out; rw [e] at hp; exact hp.symm)
          have HCC := hid ((HC.out n (Nat.le_refl _)).u (lv := lv + 1) HK14.out (HN14.out.le (by omega)) (by have := HRM.out; omega) hx9)
          clear hx9
          go_wp2_with fail
          refine HCC.out.mono ?_
          intro e15 W15 q15
          clear c9 lb
          clear HCC
          rcases q15 with ⟨v15, s15, hy, rfl, k1⟩ | ⟨y15, z15, hy, rfl, b1⟩
          · have HY := hid hy
            have HK15 := hid k1
            clear hy k1
            obtain ⟨n1, a1, b1⟩ := HN14.out.p2 HY.out
            have hp := HP.out
            clear HP
            rw [HY.out] at hp
            dsimp only [PBd] at hp
            have HP := hid hp
            clear hp
            obtain ⟨v, HVv⟩ : ∃ x : Nat, Hid (v15.getD 0 0 = x) := ⟨_, rfl⟩
            rw [HVv.out] at b1 HP a1
            have HN15 : Hid (PzN s15 1) := n1
            have HLv := hid b1
            have HGv := hid a1
            clear a1
            clear n1 b1
            rw [HVv.out]
            obtain ⟨c3, c4, c5, c6, c9, c11, c12, c13⟩ := HK15.out.c
            have lb := HK15.out.lt
            clear c3 c4 c5 c6 c11 c12 c13
            have hp := HP.out
            clear HP
            rw [if_neg hs1.out, if_neg hs2.out, HTP.out] at hp
            have HP := hid hp
            clear hp
            have HCC := hid (HK15.out.add ⟨23, v, 0, 0, 0, 3, [], tp⟩ (by have := HN15.out.l; have := HK15.out.il; omega))
            have FIN : Hid (∀ e W, (e = .returned (.int .i64 ((s15).nodes.length : Nat)) ∧ PzK w A T ((s15).add ⟨23, v, 0, 0, 0, 3, [], tp⟩) W) → Q e W) := fun e W h => by
              rw [← HQ.out]
              exact .inl ⟨_, _, HP.out.symm, h.1, h.2⟩
            go_wp2_with fail
            refine HCC.out.mono ?_
            rintro e16 W16 ⟨rfl, k1⟩
            clear c9 lb
            have FIN2 := hid (FIN.out _ _ ⟨rfl, k1⟩)
            clear FIN k1 HCC
            go_wp2_with fail
            first | exact FIN2.out | (go_ret; exact FIN2.out) | (go_ret2; exact FIN2.out)
          · have HB15 := hid b1
            have HY : Hid (R = .inl y15) := by
              have hp := HP.out
              rw [hy] at hp
              exact hp.symm
            clear hy b1 HP
            obtain ⟨c9, ne1, ne2⟩ := HB15.out.c
            have lb := HB15.out.lt
            have FIN : Hid (Q (.returned (.int .i64 0)) W15) := by
              show Q _ _
              rw [← HQ.out]
              exact .inr ⟨y15, 0, HY.out, rfl, HB15.out⟩
            go_wp2_with fail
            first | exact FIN.out | (go_ret; exact FIN.out) | (go_ret2; exact FIN.out)
        · have hs3 := hid hhs3
          clear hhs3
          have hp := HP.out
          clear HP
          rw [if_neg (by have := hs1.out; have := hs2.out; have := hs3.out; omega)] at hp
          have HP := hid hp
          clear hp
          have hl : lv ≤ 12 := by have := HRM.out; have := hz0.out; omega
          have h1 : 1 ≤ room := by have := hz0.out; omega
          have HD : Hid (∀ W, Calls Tryz.prog 184 #[.pointer (some ⟨A.b, 0, none⟩), .int .i64 lv] W fun e w' => e = .returned (.bool false) ∧ w' = W) := fun W => deep_no A.b hl
          clear hl
          go_enter Tryz.func314, Tryz.ntmps314
          go_wp2_with fail
          refine (HD.out _).mono ?_
          rintro e7 V7 ⟨rfl, hw⟩
          rw [hw]
          clear hw V7 HD
          clear c9 lb
          obtain ⟨c3, c4, c5, c6, c9, c11, c12, c13⟩ := HK0.out.c
          have lb := HK0.out.lt
          clear c3 c4 c5 c6 c11 c12 c13
          have CI := HK0.out.is (k := 32) (by decide) (by decide) (x := [45]) rfl
          rw [decide_eq_false hs1.out] at CI
          have HCI := hid CI
          clear CI
          go_wp2_with fail
          refine HCI.out.mono ?_
          rintro e17 V17 ⟨rfl, hw⟩
          rw [hw]
          clear hw HCI V17
          have CI := HK0.out.is (k := 17) (by decide) (by decide) (x := [110, 111, 116]) rfl
          rw [decide_eq_false hs2.out] at CI
          have HCI := hid CI
          clear CI
          go_wp2_with fail
          refine HCI.out.mono ?_
          rintro e18 V18 ⟨rfl, hw⟩
          rw [hw]
          clear hw HCI V18
          have CI := HK0.out.is (k := 37) (by decide) (by decide) (x := [35]) rfl
          rw [decide_eq_false hs3.out] at CI
          have HCI := hid CI
          clear CI
          go_wp2_with fail
          refine HCI.out.mono ?_
          rintro e19 V19 ⟨rfl, hw⟩
          rw [hw]
          clear hw HCI V19
          have HCC := hid ((HC.out n (Nat.le_refl _)).p HK0.out HN0.out HRM.out (by rw [HP.out]; exact HX.out))
          rw [HP.out, HQ.out] at HCC
          go_wp2_with fail
          refine HCC.out.mono ?_
          intro e1 W1 q1
          have HQ1 := hid q1
          clear q1 HCC
          clear c9 lb
          obtain ⟨z1, rfl⟩ : ∃ z1 : Int, e1 = .returned (.int .i64 z1) := by
            have q := HQ1.out
            rw [← HQ.out] at q
            rcases q with ⟨v, s1, _, h, _⟩ | ⟨y, z, _, h, _⟩
            · exact ⟨_, h⟩
            · exact ⟨_, h⟩
          go_wp2_with fail
          first | exact HQ1.out | (go_ret; exact HQ1.out) | (go_ret2; exact HQ1.out)
/-- behind a primary expression -/
def PzP4 (w : World) (A : PzP) (T : List Tok) (n room : Nat) (R : PR) (m : Nat) (v : Value) (wr : World) : Prop :=
  (∃ (x : Nat) (s1 : PSt), v = .int .i64 x ∧ PzK w A T s1 wr ∧ PzN s1 0 ∧ x < s1.nodes.length ∧ parM T m 4 room [x] s1 = R ∧ m ≤ n) ∨ (∃ (y : Nat × Nat) (z : Int), v = .int .i64 z ∧ R = .inl y ∧ PzB w A y wr)
theorem PzP4.start {w W : World} {A : PzP} {T : List Tok} {n room : Nat} {s : PSt} {R : PR} {e : Ending} (hn : PzN s 0) (hp : (PBd (parM T n 5 room [] s) fun v s => parM T n 4 room [v.getD 0 0] s) = R) (q : PzR T w A (parM T n 5 room [] s) e W) :
    ∃ z : Int, e = .returned (.int .i64 z) ∧ PzP4 w A T n room R n (.int .i64 z) W := by
  rcases q with ⟨v, s1, hy, rfl, k1⟩ | ⟨y, z, hy, rfl, b1⟩
  · obtain ⟨n1, a1, b1⟩ := hn.p5 hy
    rw [hy] at hp
    exact ⟨_, rfl, .inl ⟨_, s1, rfl, k1, n1, b1, hp, Nat.le_refl _⟩⟩
  · rw [hy] at hp
    exact ⟨z, rfl, .inr ⟨y, z, rfl, hp.symm, b1⟩⟩
theorem post_z (C : ∀ m, m ≤ n → PCz T m) {w W : World} {A : PzP} {s : PSt} {room : Nat} {lv : Int} (h0 : PzK w A T s W) (hn : PzN s 0) (hr : lv + room = 13 ∧ 1 ≤ lv) (hx : parM T (n + 1) 3 room [] s ≠ x99) :
    Calls Tryz.prog 252 #[.pointer (some ⟨A.b, 0, none⟩), .int .i64 lv] W (PzR T w A (parM T (n + 1) 3 room [] s)) := by
  obtain ⟨R, HR⟩ : ∃ R, Hid (parM T (n + 1) 3 room [] s = R) := ⟨_, rfl⟩
  rw [HR.out] at hx ⊢
  obtain ⟨Q, HQ⟩ : ∃ Q : Ending → World → Prop, Hid (PzR T w A R = Q) := ⟨_, rfl⟩
  rw [HQ.out]
  have HC := hid C
  have HX := hid hx
  have HK0 := hid h0
  have HN0 := hid hn
  have HRM := hid hr
  have lv1 : 1 ≤ lv := hr.2
  have lv2 : lv ≤ 13 := by omega
  have HP : Hid (_ = R) := pm3.symm.trans HR.out
  clear C hx h0 hn HR hr
  obtain ⟨c3, c4, c5, c6, c9, c11, c12, c13⟩ := HK0.out.c
  have lb := HK0.out.lt
  clear c3 c4 c5 c6 c11 c12 c13
  by_cases hhz0 : room = 0
  · have hz0 := hid hhz0
    clear hhz0
    have hl : lv = 13 := by have := HRM.out; have := hz0.out; omega
    have hp := HP.out
    clear HP
    rw [if_pos hz0.out] at hp
    have HP := hid hp
    clear hp
    obtain ⟨y1, hy1⟩ : ∃ y, failP T s 16 = .inl y := ⟨_, rfl⟩
    have HFY := hid hy1
    have HY : Hid (R = .inl y1) := by
      have hp := HP.out
      rw [hy1] at hp
      exact hp.symm
    clear hy1 HP
    have HCC := hid (HK0.out.deep HFY.out hl)
    clear hl
    go_enter Tryz.func252, Tryz.ntmps252
    go_wp2_with fail
    refine HCC.out.mono ?_
    rintro e1 W1 ⟨rfl, b1⟩
    clear c9 lb
    have HB1 := hid b1
    clear b1 HCC
    obtain ⟨c9, ne1, ne2⟩ := HB1.out.c
    have lb := HB1.out.lt
    have FIN : Hid (Q (.returned (.int .i64 0)) W1) := by
      show Q _ _
      rw [← HQ.out]
      exact .inr ⟨y1, 0, HY.out, rfl, HB1.out⟩
    go_wp2_with fail
    first | exact FIN.out | (go_ret; exact FIN.out) | (go_ret2; exact FIN.out)
  · have hz0 := hid hhz0
    clear hhz0
    have hp := HP.out
    clear HP
    rw [if_neg hz0.out] at hp
    have HP := hid hp
    clear hp
    have h1 : 1 ≤ room := by have := hz0.out; omega
    have hx9 : parM T n 5 room [] s ≠ x99 := fun e => HX.out (by have hp := HP.out; rw [e] at hp; exact hp.symm)
    have HCC := hid ((HC.out n (Nat.le_refl _)).pr HK0.out HN0.out HRM.out h1 hx9)
    clear hx9
    have hl : lv ≤ 12 := by have := HRM.out; have := hz0.out; omega
    have h1 : 1 ≤ room := by have := hz0.out; omega
    have HD : Hid (∀ W, Calls Tryz.prog 184 #[.pointer (some ⟨A.b, 0, none⟩), .int .i64 lv] W fun e w' => e = .returned (.bool false) ∧ w' = W) := fun W => deep_no A.b hl
    clear hl
    go_enter Tryz.func252, Tryz.ntmps252
    go_wp2_with fail
    refine (HD.out _).mono ?_
    rintro e7 V7 ⟨rfl, hw⟩
    rw [hw]
    clear hw V7 HD
    go_wp2_with fail
    refine HCC.out.mono ?_
    intro e1 W1 q1
    obtain ⟨z1, rfl, hI⟩ := PzP4.start HN0.out HP.out q1
    have HI := hid hI
    clear q1 hI HCC HP
    clear c9 lb
    go_wp2_with fail
    go_loopg [5] n (fun m v5 wr => Hid (PzP4 w A T n room R m v5 wr))
    case atStart => exact HI
    case round =>
      rcases hrel.out with ⟨x, s1, rfl, k1, n1, x1, hp, hm⟩ | ⟨y1, z, rfl, hy, b1⟩
      · obtain ⟨m', rfl⟩ : ∃ m', gk = m' + 1 := by
          cases gk with
          | zero => exact absurd hp.symm HX.out
          | succ m' => exact ⟨m', rfl⟩
        rw [pm4] at hp
        have HK1 := hid k1
        have HN1 := hid n1
        have HP := hid hp
        have HX1 := hid x1
        clear hrel k1 n1 hp x1
        obtain ⟨tp, HTP⟩ : ∃ tp : Nat, Hid ((curT T s1).p = tp) := ⟨_, rfl⟩
        by_cases hhd : (curT T s1).k = 46
        · have hd := hid hhd
          clear hhd
          have hp := HP.out
          clear HP
          rw [if_pos hd.out, HTP.out] at hp
          have HP := hid hp
          clear hp
          obtain ⟨c3, c4, c5, c6, c9, c11, c12, c13⟩ := HK1.out.c
          have lb := HK1.out.lt
          clear c3 c4 c5 c11 c12 c13
          rw [HTP.out] at c6
          have CI := HK1.out.is (k := 46) (by decide) (by decide) (x := [46]) rfl
          rw [decide_eq_true hd.out] at CI
          have HCI := hid CI
          clear CI
          go_wp2_with fail
          refine HCI.out.mono ?_
          rintro e2 V2 ⟨rfl, hw⟩
          rw [hw]
          clear hw HCI V2
          have HCC := hid (HK1.out.next (by have := hd.out; omega))
          go_wp2_with fail
          refine HCC.out.mono ?_
          rintro e3 W3 ⟨rfl, k1⟩
          clear c6 c9 lb
          clear HCC
          have HK3 : Hid (PzK w A T s1.nxt W3) := k1
          clear k1
          have HN3 : Hid (PzN s1.nxt 1) := (HN1.out.nxt)
          obtain ⟨c3, c4, c5, c6, c9, c11, c12, c13⟩ := HK3.out.c
          have lb := HK3.out.lt
          clear c3 c4 c5 c6 c11 c12 c13
          by_cases hhn2 : (curT T s1.nxt).k = 2
          · have hn2 := hid hhn2
            clear hhn2
            have hp := HP.out
            clear HP
            unfold nameP at hp
            rw [if_neg (fun z => z hn2.out), if_neg (fun z => absurd z.1 (Nat.lt_irrefl 0))] at hp
            dsimp only at hp
            have HP := hid hp
            clear hp
            obtain ⟨tp2, HTP2⟩ : ∃ tp : Nat, Hid ((curT T s1.nxt).p = tp) := ⟨_, rfl⟩
            obtain ⟨ts2, HTS2⟩ : ∃ ts, Hid ((curT T s1.nxt).s = ts) := ⟨_, rfl⟩
            have CC := HK3.out.name hn2.out 0 (fun z => absurd z.1 (Nat.lt_irrefl 0)) (by have := HN3.out.al; have := HK3.out.il; omega) (e' := 0) rfl
            rw [HTP2.out, HTS2.out] at CC
            have HCC := hid CC
            clear CC
            have hp := HP.out
            clear HP
            rw [HTP2.out, HTS2.out] at hp
            have HP := hid hp
            clear hp
            go_wp2_with fail
            refine HCC.out.mono ?_
            rintro e4 W4 ⟨rfl, k2⟩
            clear c9 lb
            clear HCC
            have HK4 := hid k2
            clear k2
            have HN4 : Hid (PzN s1.nxt.nxt 2) := HN3.out.nxt
            obtain ⟨c3, c4, c5, c6, c9, c11, c12, c13⟩ := HK4.out.c
            have lb := HK4.out.lt
            clear c3 c4 c5 c6 c11 c12 c13
            have HCC := hid (HK4.out.add ⟨16, 0, 0, 0, 0, 0, ts2, tp2⟩ (by have := HN4.out.l; have := HK4.out.il; omega))
            go_wp2_with fail
            refine HCC.out.mono ?_
            rintro e5 W5 ⟨rfl, k2⟩
            clear c9 lb
            clear HCC
            have HK5 := hid k2
            clear k2
            have HN5 : Hid (PzN (s1.nxt.nxt.add ⟨16, 0, 0, 0, 0, 0, ts2, tp2⟩) 1) := HN4.out.add (by show 0 < _; have := HX1.out; show 0 < s1.nodes.length; omega) (by show 0 < s1.nodes.length; have := HX1.out; omega) (by show 0 < s1.nodes.length; have := HX1.out; omega) rfl
            obtain ⟨c3, c4, c5, c6, c9, c11, c12, c13⟩ := HK5.out.c
            have lb := HK5.out.lt
            clear c3 c4 c5 c6 c11 c12 c13
            obtain ⟨L, HL⟩ : ∃ L : Nat, Hid (s1.nxt.nxt.nodes.length = L) := ⟨_, rfl⟩
            rw [HL.out]
            have hp := HP.out
            clear HP
            rw [HL.out] at hp
            have HP := hid hp
            clear hp
            have HCC := hid (HK5.out.add ⟨18, x, L, 0, 0, 0, [], tp⟩ (by have := HN5.out.l; have := HK5.out.il; omega))
            have eL : (s1.nxt.nxt.add ⟨16, 0, 0, 0, 0, 0, ts2, tp2⟩).nodes.length = L + 1 := by rw [add_len, HL.out]
            have hxL : x < L := by have := HX1.out; have := HL.out; have : s1.nxt.nxt.nodes.length = s1.nodes.length := rfl; omega
            have HRR : Hid (∀ W, PzK w A T ((s1.nxt.nxt.add ⟨16, 0, 0, 0, 0, 0, ts2, tp2⟩).add ⟨18, x, L, 0, 0, 0, [], tp⟩) W → PzP4 w A T n room R m' (.int .i64 ((L + 1 : Nat) : Int)) W) := fun W h => .inl ⟨_, _, rfl, h, HN5.out.add (by rw [eL]; show x < _; omega) (by rw [eL]; exact Nat.lt_succ_self _) (by rw [eL]; show 0 < _; omega) rfl, by rw [add_len, eL]; exact Nat.lt_succ_self _, HP.out, by omega⟩
            rw [eL] at HCC
            clear eL hxL
            go_wp2_with fail
            refine HCC.out.mono ?_
            rintro e6 W6 ⟨rfl, k2⟩
            clear c9 lb
            have HQ2 := hid (HRR.out _ k2)
            clear HCC HRR k2
            go_wp2_with fail
            go_roundg m'
            case measure => omega
            case rel => exact HQ2
          · have hn2 := hid hhn2
            clear hhn2
            have hp := HP.out
            clear HP
            unfold nameP at hp
            rw [if_pos hn2.out] at hp
            have HP := hid hp
            clear hp
            obtain ⟨y7, hy7⟩ : ∃ y, failP T s1.nxt 15 = .inl y := ⟨_, rfl⟩
            have HFY := hid hy7
            have HY : Hid (R = .inl y7) := by
              have hp := HP.out
              rw [hy7] at hp
              exact hp.symm
            clear hy7 HP
            have HCC := hid (HK3.out.nameN hn2.out 0 HFY.out)
            go_wp2_with fail
            refine HCC.out.mono ?_
            rintro e7 W7 ⟨rfl, b1⟩
            clear c9 lb
            have HB7 := hid b1
            clear b1 HCC
            obtain ⟨c9, ne1, ne2⟩ := HB7.out.c
            have lb := HB7.out.lt
            have FIN : Hid (Q (.returned (.int .i64 0)) W7) := by
              show Q _ _
              rw [← HQ.out]
              exact .inr ⟨y7, 0, HY.out, rfl, HB7.out⟩
            go_wp2_with fail
            first | exact FIN.out | (go_ret; exact FIN.out) | (go_ret2; exact FIN.out)
        · have hd := hid hhd
          clear hhd
          have hp := HP.out
          clear HP
          rw [if_neg hd.out] at hp
          have HP := hid hp
          clear hp
          by_cases hhb : (curT T s1).k = 43
          · have hb := hid hhb
            clear hhb
            have hp := HP.out
            clear HP
            rw [if_pos hb.out, HTP.out] at hp
            have HP := hid hp
            clear hp
            obtain ⟨c3, c4, c5, c6, c9, c11, c12, c13⟩ := HK1.out.c
            have lb := HK1.out.lt
            clear c3 c4 c5 c11 c12 c13
            rw [HTP.out] at c6
            have CI := HK1.out.is (k := 46) (by decide) (by decide) (x := [46]) rfl
            rw [decide_eq_false hd.out] at CI
            have HCI := hid CI
            clear CI
            go_wp2_with fail
            refine HCI.out.mono ?_
            rintro e8 V8 ⟨rfl, hw⟩
            rw [hw]
            clear hw HCI V8
            have CI := HK1.out.is (k := 43) (by decide) (by decide) (x := [91]) rfl
            rw [decide_eq_true hb.out] at CI
            have HCI := hid CI
            clear CI
            go_wp2_with fail
            refine HCI.out.mono ?_
            rintro e9 V9 ⟨rfl, hw⟩
            rw [hw]
            clear hw HCI V9
            have HCC := hid (HK1.out.next (by have := hb.out; omega))
            go_wp2_with fail
            refine HCC.out.mono ?_
            rintro e10 W10 ⟨rfl, k1⟩
            clear c6 c9 lb
            clear HCC
            have HK10 : Hid (PzK w A T s1.nxt W10) := k1
            clear k1
            have HN10 : Hid (PzN s1.nxt 1) := (HN1.out.nxt)
            obtain ⟨c3, c4, c5, c6, c9, c11, c12, c13⟩ := HK10.out.c
            have lb := HK10.out.lt
            clear c3 c4 c5 c6 c11 c12 c13
            have hx9 : parM T m' 0 (room - 1) [1] s1.nxt ≠ x99 := fun e => HX.out (by have hp := HP.out; rw [e] at hp; exact hp.symm)
            have HCC := hid ((HC.out m' (by omega)).e (lv := lv + 1) HK10.out (HN10.out.le (by omega)) (by have := HRM.out; omega) hx9)
            clear hx9
            go_wp2_with fail
            refine HCC.out.mono ?_
            intro e11 W11 q11
            clear c9 lb
            clear HCC
            rcases q11 with ⟨v11, s11, hy, rfl, k1⟩ | ⟨y11, z11, hy, rfl, b1⟩
            · have HY := hid hy
              have HK11 := hid k1
              clear hy k1
              obtain ⟨n1, a1, b1⟩ := HN10.out.p0 HY.out
              have hp := HP.out
              clear HP
              rw [HY.out] at hp
              dsimp only [PBd] at hp
              have HP := hid hp
              clear hp
              obtain ⟨v, HVv⟩ : ∃ x : Nat, Hid (v11.getD 0 0 = x) := ⟨_, rfl⟩
              rw [HVv.out] at b1 HP a1
              have HN11 : Hid (PzN s11 1) := n1
              have HLv := hid b1
              have HGv := hid a1
              clear a1
              clear n1 b1
              rw [HVv.out]
              obtain ⟨c3, c4, c5, c6, c9, c11, c12, c13⟩ := HK11.out.c
              have lb := HK11.out.lt
              clear c3 c4 c5 c6 c11 c12 c13
              by_cases hw12 : (curT T s11).k = 44
              · have w12 := hid hw12
                clear hw12
                have hp := HP.out
                clear HP
                unfold expectP at hp
                rw [if_pos w12.out] at hp
                have HP := hid hp
                clear hp
                have HCC := hid (HK11.out.want (k := 44) (by decide) (by decide) (x := [93]) rfl w12.out)
                go_wp2_with fail
                refine HCC.out.mono ?_
                rintro e13 W13 ⟨rfl, k1⟩
                clear c9 lb
                clear HCC
                have HK13 : Hid (PzK w A T s11.nxt W13) := k1
                clear k1
                have HN13 : Hid (PzN s11.nxt 2) := HN11.out.nxt
                obtain ⟨c3, c4, c5, c6, c9, c11, c12, c13⟩ := HK13.out.c
                have lb := HK13.out.lt
                clear c3 c4 c5 c6 c11 c12 c13
                have HCC := hid (HK13.out.add ⟨18, x, v, 0, 0, 0, [], tp⟩ (by have := HN13.out.l; have := HK13.out.il; omega))
                have HRR : Hid (∀ W, PzK w A T ((s11.nxt).add ⟨18, x, v, 0, 0, 0, [], tp⟩) W → PzP4 w A T n room R m' (.int .i64 ((s11.nxt).nodes.length : Nat)) W) := fun W h => .inl ⟨_, _, rfl, h, (HN13.out.le (by omega) : PzN _ 1).add (by show x < _; have := HX1.out; have := HGv.out; have := HLv.out; have : s1.nxt.nodes.length = s1.nodes.length := rfl; have : s11.nxt.nodes.length = s11.nodes.length := rfl; omega) (by exact HLv.out) (by show 0 < s11.nodes.length; have := HLv.out; omega) rfl, by rw [add_len]; exact Nat.lt_succ_self _, HP.out, by omega⟩
                go_wp2_with fail
                refine HCC.out.mono ?_
                rintro e14 W14 ⟨rfl, k2⟩
                clear c9 lb
                have HQ2 := hid (HRR.out _ k2)
                clear HCC HRR k2
                go_wp2_with fail
                go_roundg m'
                case measure => omega
                case rel => exact HQ2
              · have w12 := hid hw12
                clear hw12
                have hp := HP.out
                clear HP
                unfold expectP at hp
                rw [if_neg w12.out] at hp
                have HP := hid hp
                clear hp
                obtain ⟨y15, hy15⟩ : ∃ y, failP T s11 15 = .inl y := ⟨_, rfl⟩
                have HFY := hid hy15
                have HY : Hid (R = .inl y15) := by
                  have hp := HP.out
                  rw [hy15] at hp
                  exact hp.symm
                clear hy15 HP
                have HCC := hid (HK11.out.wantN (k := 44) (by decide) (by decide) (x := [93]) rfl w12.out HFY.out)
                go_wp2_with fail
                refine HCC.out.mono ?_
                rintro e15 W15 ⟨rfl, b1⟩
                clear c9 lb
                have HB15 := hid b1
                clear b1 HCC
                obtain ⟨c9, ne1, ne2⟩ := HB15.out.c
                have lb := HB15.out.lt
                have FIN : Hid (Q (.returned (.int .i64 0)) W15) := by
                  show Q _ _
                  rw [← HQ.out]
                  exact .inr ⟨y15, 0, HY.out, rfl, HB15.out⟩
                go_wp2_with fail
                first | exact FIN.out | (go_ret; exact FIN.out) | (go_ret2; exact FIN.out)
            · have HB11 := hid b1
              have HY : Hid (R = .inl y11) := by
                have hp := HP.out
                rw [hy] at hp
                exact hp.symm
              clear hy b1 HP
              obtain ⟨c9, ne1, ne2⟩ := HB11.out.c
              have lb := HB11.out.lt
              have HCC := hid (HB11.out.want [93])
              go_wp2_with fail
              refine HCC.out.mono ?_
              rintro e16 W16 ⟨rfl, b1⟩
              clear c9 ne1 ne2 lb
              have HB16 := hid b1
              clear b1 HCC
              obtain ⟨c9, ne1, ne2⟩ := HB16.out.c
              have lb := HB16.out.lt
              have FIN : Hid (Q (.returned (.int .i64 0)) W16) := by
                show Q _ _
                rw [← HQ.out]
                exact .inr ⟨y11, 0, HY.out, rfl, HB16.out⟩
              go_wp2_with fail
              first | exact FIN.out | (go_ret; exact FIN.out) | (go_ret2; exact FIN.out)
          · have hb := hid hhb
            clear hhb
            have hp := HP.out
            clear HP
            rw [if_neg hb.out] at hp
            have HP := hid hp
            clear hp
            by_cases hhc : (curT T s1).k = 39
            · have hc := hid hhc
              clear hhc
              have hp := HP.out
              clear HP
              rw [if_pos hc.out, HTP.out] at hp
              have HP := hid hp
              clear hp
              obtain ⟨c3, c4, c5, c6, c9, c11, c12, c13⟩ := HK1.out.c
              have lb := HK1.out.lt
              clear c3 c4 c5 c11 c12 c13
              rw [HTP.out] at c6
              have CI := HK1.out.is (k := 46) (by decide) (by decide) (x := [46]) rfl
              rw [decide_eq_false hd.out] at CI
              have HCI := hid CI
              clear CI
              go_wp2_with fail
              refine HCI.out.mono ?_
              rintro e17 V17 ⟨rfl, hw⟩
              rw [hw]
              clear hw HCI V17
              have CI := HK1.out.is (k := 43) (by decide) (by decide) (x := [91]) rfl
              rw [decide_eq_false hb.out] at CI
              have HCI := hid CI
              clear CI
              go_wp2_with fail
              refine HCI.out.mono ?_
              rintro e18 V18 ⟨rfl, hw⟩
              rw [hw]
              clear hw HCI V18
              have CI := HK1.out.is (k := 39) (by decide) (by decide) (x := [40]) rfl
              rw [decide_eq_true hc.out] at CI
              have HCI := hid CI
              clear CI
              go_wp2_with fail
              refine HCI.out.mono ?_
              rintro e19 V19 ⟨rfl, hw⟩
              rw [hw]
              clear hw HCI V19
              have HCC := hid (HK1.out.next (by have := hc.out; omega))
              go_wp2_with fail
              refine HCC.out.mono ?_
              rintro e20 W20 ⟨rfl, k1⟩
              clear c6 c9 lb
              clear HCC
              have HK20 : Hid (PzK w A T s1.nxt W20) := k1
              clear k1
              have HN20 : Hid (PzN s1.nxt 1) := (HN1.out.nxt)
              obtain ⟨c3, c4, c5, c6, c9, c11, c12, c13⟩ := HK20.out.c
              have lb := HK20.out.lt
              clear c3 c4 c5 c6 c11 c12 c13
              have hx9 : parM T m' 6 (room - 1) [40, 4, 0, 0, 0] s1.nxt ≠ x99 := fun e => HX.out (by have hp := HP.out; rw [e] at hp; exact hp.symm)
              have HCC := hid ((HC.out m' (by omega)).li (lv := lv + 1) (x0 := 40) (x1 := 4) (cl := [41]) (mx := 3) HK20.out (HN20.out.le (by omega)) (by have := HRM.out; omega) (by decide) (by decide) rfl (.inr ⟨rfl, rfl⟩) hx9)
              clear hx9
              go_wp2_with fail
              refine HCC.out.mono ?_
              intro e21 W21 q21
              clear c9 lb
              clear HCC
              rcases q21 with ⟨v21, s21, hy, rfl, k1⟩ | ⟨y21, z21, hy, rfl, b1⟩
              · have HY := hid hy
                have HK21 := hid k1
                clear hy k1
                obtain ⟨n1, b1, l1⟩ := HN20.out.p6 (by exact HN20.out.k.n1) (by exact HN20.out.k.n1) HY.out
                have hp := HP.out
                clear HP
                rw [HY.out] at hp
                dsimp only [PBd] at hp
                have HP := hid hp
                clear hp
                obtain ⟨v, HVv⟩ : ∃ x : Nat, Hid (v21.getD 0 0 = x) := ⟨_, rfl⟩
                rw [HVv.out] at b1 HP
                have HN21 : Hid (PzN s21 2) := n1
                have HLv := hid b1
                have HMv := hid l1
                clear l1
                clear n1 b1
                rw [HVv.out]
                obtain ⟨c3, c4, c5, c6, c9, c11, c12, c13⟩ := HK21.out.c
                have lb := HK21.out.lt
                clear c3 c4 c5 c6 c11 c12 c13
                have HCC := hid (HK21.out.add ⟨19, x, v, 0, 0, 0, [], tp⟩ (by have := HN21.out.l; have := HK21.out.il; omega))
                have HRR : Hid (∀ W, PzK w A T ((s21).add ⟨19, x, v, 0, 0, 0, [], tp⟩) W → PzP4 w A T n room R m' (.int .i64 ((s21).nodes.length : Nat)) W) := fun W h => .inl ⟨_, _, rfl, h, (HN21.out.le (by omega) : PzN _ 1).add (by show x < _; have := HX1.out; have := HMv.out; have : s1.nxt.nodes.length = s1.nodes.length := rfl; omega) (by exact HLv.out) (by show 0 < s21.nodes.length; have := HLv.out; omega) rfl, by rw [add_len]; exact Nat.lt_succ_self _, HP.out, by omega⟩
                go_wp2_with fail
                refine HCC.out.mono ?_
                rintro e22 W22 ⟨rfl, k2⟩
                clear c9 lb
                have HQ2 := hid (HRR.out _ k2)
                clear HCC HRR k2
                go_wp2_with fail
                go_roundg m'
                case measure => omega
                case rel => exact HQ2
              · have HB21 := hid b1
                have HY : Hid (R = .inl y21) := by
                  have hp := HP.out
                  rw [hy] at hp
                  exact hp.symm
                clear hy b1 HP
                obtain ⟨c9, ne1, ne2⟩ := HB21.out.c
                have lb := HB21.out.lt
                have FIN : Hid (Q (.returned (.int .i64 0)) W21) := by
                  show Q _ _
                  rw [← HQ.out]
                  exact .inr ⟨y21, 0, HY.out, rfl, HB21.out⟩
                go_wp2_with fail
                first | exact FIN.out | (go_ret; exact FIN.out) | (go_ret2; exact FIN.out)
            · have hc := hid hhc
              clear hhc
              have hp := HP.out
              clear HP
              rw [if_neg hc.out] at hp
              have HP := hid hp
              clear hp
              obtain ⟨c3, c4, c5, c6, c9, c11, c12, c13⟩ := HK1.out.c
              have lb := HK1.out.lt
              clear c3 c4 c5 c11 c12 c13
              have CI := HK1.out.is (k := 46) (by decide) (by decide) (x := [46]) rfl
              rw [decide_eq_false hd.out] at CI
              have HCI := hid CI
              clear CI
              go_wp2_with fail
              refine HCI.out.mono ?_
              rintro e23 V23 ⟨rfl, hw⟩
              rw [hw]
              clear hw HCI V23
              have CI := HK1.out.is (k := 43) (by decide) (by decide) (x := [91]) rfl
              rw [decide_eq_false hb.out] at CI
              have HCI := hid CI
              clear CI
              go_wp2_with fail
              refine HCI.out.mono ?_
              rintro e24 V24 ⟨rfl, hw⟩
              rw [hw]
              clear hw HCI V24
              have CI := HK1.out.is (k := 39) (by decide) (by decide) (x := [40]) rfl
              rw [decide_eq_false hc.out] at CI
              have HCI := hid CI
              clear CI
              go_wp2_with fail
              refine HCI.out.mono ?_
              rintro e25 V25 ⟨rfl, hw⟩
              rw [hw]
              clear hw HCI V25
              have FIN : Hid (Q (.returned (.int .i64 (x : Nat))) wr) := by
                show Q _ _
                rw [← HQ.out]
                exact .inl ⟨_, _, HP.out.symm, rfl, HK1.out⟩
              go_wp2_with fail
              first | exact FIN.out | (go_ret; exact FIN.out) | (go_ret2; exact FIN.out)
      · have HB1 := hid b1
        have HY : Hid (R = .inl y1) := hy
        clear hrel hy b1
        obtain ⟨c9, ne1, ne2⟩ := HB1.out.c
        have lb := HB1.out.lt
        have FIN : Hid (Q (.returned (.int .i64 0)) wr) := by
          show Q _ _
          rw [← HQ.out]
          exact .inr ⟨y1, 0, HY.out, rfl, HB1.out⟩
        go_wp2_with fail
        first | exact FIN.out | (go_ret; exact FIN.out) | (go_ret2; exact FIN.out)
end
end Go.Proofs.Qxb6500574aGreatDoor
