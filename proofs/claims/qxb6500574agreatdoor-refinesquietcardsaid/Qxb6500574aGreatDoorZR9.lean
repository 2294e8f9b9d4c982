/-
  THE WALKS of syntaxm: stmt.
-/
import Derived.Test.Qxb6500574aGreatDoorZR8
namespace Go.Proofs.Qxb6500574aGreatDoor
open Go Go.RowKit
set_option linter.unusedVariables false
set_option linter.unusedSimpArgs false
section
variable {T : List Tok} {n : Nat}
set_option maxRecDepth 100000
set_option maxHeartbeats 1000000
/-- where an error stands, no expression is read -/
theorem PzB.expr {w W : World} {A : PzP} {y : Nat × Nat} (h : PzB w A y W) (lv : Int) : Calls Tryz.prog 249 #[.pointer (some ⟨A.b, 0, none⟩), .int .i64 lv] W fun e w' => e = .returned (.int .i64 0) ∧ w' = W := by
  obtain ⟨c9, ne1, ne2⟩ := h.c
  have lb := h.lt
  clear h
  go_enter Tryz.func249, Tryz.ntmps249
  go_wp2_with fail
  go_ret
  exact ⟨rfl, rfl⟩
theorem stmt_z (C : ∀ m, m ≤ n → PCz T m) {w W : World} {A : PzP} {s : PSt} {room : Nat} {lv : Int} (h0 : PzK w A T s W) (hn : PzN s 0) (hr : lv + room = 13 ∧ 1 ≤ lv) (h1 : 1 ≤ room) (hx : parM T (n + 1) 11 room [] s ≠ x99) :
    Calls Tryz.prog 186 #[.pointer (some ⟨A.b, 0, none⟩), .int .i64 lv] W (PzR T w A (parM T (n + 1) 11 room [] s)) := by
  obtain ⟨R, HR⟩ : ∃ R, Hid (parM T (n + 1) 11 room [] s = R) := ⟨_, rfl⟩
  rw [HR.out] at hx ⊢
  obtain ⟨Q, HQ⟩ : ∃ Q : Ending → World → Prop, Hid (PzR T w A R = Q) := ⟨_, rfl⟩
  rw [HQ.out]
  have HC := hid C
  have HX := hid hx
  have HK0 := hid h0
  have HN0 := hid hn
  have HRM := hid hr
  have lv1 : 1 ≤ lv := hr.2
  have lv2 : lv ≤ 13 := by omega
  have HP : Hid (_ = R) := pm11.symm.trans HR.out
  clear C hx h0 hn HR hr
  obtain ⟨c3, c4, c5, c6, c9, c11, c12, c13⟩ := HK0.out.c
  have lb := HK0.out.lt
  clear c3 c4 c5 c11 c12 c13
  obtain ⟨tp, HTP⟩ : ∃ tp : Nat, Hid ((curT T s).p = tp) := ⟨_, rfl⟩
  rw [HTP.out] at c6
  have hp := HP.out
  clear HP
  rw [HTP.out] at hp
  have HP := hid hp
  clear hp
  by_cases hhk1 : (curT T s).k = 15
  · have hk1 := hid hhk1
    clear hhk1
    have hp := HP.out
    clear HP
    rw [if_pos hk1.out] at hp
    have HP := hid hp
    clear hp
    go_enter Tryz.func186, Tryz.ntmps186
    have CI := HK0.out.is (k := 15) (by decide) (by decide) (x := [108, 111, 99, 97, 108]) rfl
    rw [decide_eq_true hk1.out] at CI
    have HCI := hid CI
    clear CI
    go_wp2_with fail
    refine HCI.out.mono ?_
    rintro e1 V1 ⟨rfl, hw⟩
    rw [hw]
    clear hw HCI V1
    have HCC := hid ((HC.out n (Nat.le_refl _)).lo HK0.out HN0.out HRM.out h1 hk1.out (by rw [HP.out]; exact HX.out))
    rw [HP.out, HQ.out] at HCC
    go_wp2_with fail
    refine HCC.out.mono ?_
    intro e2 W2 q1
    have HQ1 := hid q1
    clear q1 HCC
    clear c6 c9 lb
    obtain ⟨z1, rfl⟩ : ∃ z1 : Int, e2 = .returned (.int .i64 z1) := by
      have q := HQ1.out
      rw [← HQ.out] at q
      rcases q with ⟨v, s1, _, h, _⟩ | ⟨y, z, _, h, _⟩
      · exact ⟨_, h⟩
      · exact ⟨_, h⟩
    go_wp2_with fail
    first | exact HQ1.out | (go_ret; exact HQ1.out) | (go_ret2; exact HQ1.out)
  · have hk1 := hid hhk1
    clear hhk1
    have hp := HP.out
    clear HP
    rw [if_neg hk1.out] at hp
    have HP := hid hp
    clear hp
    by_cases hhk2 : (curT T s).k = 13
    · have hk2 := hid hhk2
      clear hhk2
      have hp := HP.out
      clear HP
      rw [if_pos hk2.out] at hp
      have HP := hid hp
      clear hp
      go_enter Tryz.func186, Tryz.ntmps186
      have CI := HK0.out.is (k := 15) (by decide) (by decide) (x := [108, 111, 99, 97, 108]) rfl
      rw [decide_eq_false hk1.out] at CI
      have HCI := hid CI
      clear CI
      go_wp2_with fail
      refine HCI.out.mono ?_
      rintro e3 V3 ⟨rfl, hw⟩
      rw [hw]
      clear hw HCI V3
      have CI := HK0.out.is (k := 13) (by decide) (by decide) (x := [105, 102]) rfl
      rw [decide_eq_true hk2.out] at CI
      have HCI := hid CI
      clear CI
      go_wp2_with fail
      refine HCI.out.mono ?_
      rintro e4 V4 ⟨rfl, hw⟩
      rw [hw]
      clear hw HCI V4
      have HCC := hid ((HC.out n (Nat.le_refl _)).i HK0.out HN0.out HRM.out h1 (by have := hk2.out; omega) (by rw [HP.out]; exact HX.out))
      rw [HP.out, HQ.out] at HCC
      go_wp2_with fail
      refine HCC.out.mono ?_
      intro e5 W5 q1
      have HQ1 := hid q1
      clear q1 HCC
      clear c6 c9 lb
      obtain ⟨z1, rfl⟩ : ∃ z1 : Int, e5 = .returned (.int .i64 z1) := by
        have q := HQ1.out
        rw [← HQ.out] at q
        rcases q with ⟨v, s1, _, h, _⟩ | ⟨y, z, _, h, _⟩
        · exact ⟨_, h⟩
        · exact ⟨_, h⟩
      go_wp2_with fail
      first | exact HQ1.out | (go_ret; exact HQ1.out) | (go_ret2; exact HQ1.out)
    · have hk2 := hid hhk2
      clear hhk2
      have hp := HP.out
      clear HP
      rw [if_neg hk2.out] at hp
      have HP := hid hp
      clear hp
      by_cases hhk3 : (curT T s).k = 11
      · have hk3 := hid hhk3
        clear hhk3
        have hp := HP.out
        clear HP
        rw [if_pos hk3.out] at hp
        have HP := hid hp
        clear hp
        go_enter Tryz.func186, Tryz.ntmps186
        have CI := HK0.out.is (k := 15) (by decide) (by decide) (x := [108, 111, 99, 97, 108]) rfl
        rw [decide_eq_false hk1.out] at CI
        have HCI := hid CI
        clear CI
        go_wp2_with fail
        refine HCI.out.mono ?_
        rintro e6 V6 ⟨rfl, hw⟩
        rw [hw]
        clear hw HCI V6
        have CI := HK0.out.is (k := 13) (by decide) (by decide) (x := [105, 102]) rfl
        rw [decide_eq_false hk2.out] at CI
        have HCI := hid CI
        clear CI
        go_wp2_with fail
        refine HCI.out.mono ?_
        rintro e7 V7 ⟨rfl, hw⟩
        rw [hw]
        clear hw HCI V7
        have CI := HK0.out.is (k := 11) (by decide) (by decide) (x := [102, 111, 114]) rfl
        rw [decide_eq_true hk3.out] at CI
        have HCI := hid CI
        clear CI
        go_wp2_with fail
        refine HCI.out.mono ?_
        rintro e8 V8 ⟨rfl, hw⟩
        rw [hw]
        clear hw HCI V8
        have HCC := hid ((HC.out n (Nat.le_refl _)).f HK0.out HN0.out HRM.out h1 hk3.out (by rw [HP.out]; exact HX.out))
        rw [HP.out, HQ.out] at HCC
        go_wp2_with fail
        refine HCC.out.mono ?_
        intro e9 W9 q1
        have HQ1 := hid q1
        clear q1 HCC
        clear c6 c9 lb
        obtain ⟨z1, rfl⟩ : ∃ z1 : Int, e9 = .returned (.int .i64 z1) := by
          have q := HQ1.out
          rw [← HQ.out] at q
          rcases q with ⟨v, s1, _, h, _⟩ | ⟨y, z, _, h, _⟩
          · exact ⟨_, h⟩
          · exact ⟨_, h⟩
        go_wp2_with fail
        first | exact HQ1.out | (go_ret; exact HQ1.out) | (go_ret2; exact HQ1.out)
      · have hk3 := hid hhk3
        clear hhk3
        have hp := HP.out
        clear HP
        rw [if_neg hk3.out] at hp
        have HP := hid hp
        clear hp
        by_cases hhk4 : (curT T s).k = 21
        · have hk4 := hid hhk4
          clear hhk4
          have hp := HP.out
          clear HP
          rw [if_pos hk4.out] at hp
          have HP := hid hp
          clear hp
          go_enter Tryz.func186, Tryz.ntmps186
          have CI := HK0.out.is (k := 15) (by decide) (by decide) (x := [108, 111, 99, 97, 108]) rfl
          rw [decide_eq_false hk1.out] at CI
          have HCI := hid CI
          clear CI
          go_wp2_with fail
          refine HCI.out.mono ?_
          rintro e10 V10 ⟨rfl, hw⟩
          rw [hw]
          clear hw HCI V10
          have CI := HK0.out.is (k := 13) (by decide) (by decide) (x := [105, 102]) rfl
          rw [decide_eq_false hk2.out] at CI
          have HCI := hid CI
          clear CI
          go_wp2_with fail
          refine HCI.out.mono ?_
          rintro e11 V11 ⟨rfl, hw⟩
          rw [hw]
          clear hw HCI V11
          have CI := HK0.out.is (k := 11) (by decide) (by decide) (x := [102, 111, 114]) rfl
          rw [decide_eq_false hk3.out] at CI
          have HCI := hid CI
          clear CI
          go_wp2_with fail
          refine HCI.out.mono ?_
          rintro e12 V12 ⟨rfl, hw⟩
          rw [hw]
          clear hw HCI V12
          have CI := HK0.out.is (k := 21) (by decide) (by decide) (x := [119, 104, 105, 108, 101]) rfl
          rw [decide_eq_true hk4.out] at CI
          have HCI := hid CI
          clear CI
          go_wp2_with fail
          refine HCI.out.mono ?_
          rintro e13 V13 ⟨rfl, hw⟩
          rw [hw]
          clear hw HCI V13
          have HCC := hid (HK0.out.next (by have := hk4.out; omega))
          go_wp2_with fail
          refine HCC.out.mono ?_
          rintro e14 W14 ⟨rfl, k1⟩
          clear c6 c9 lb
          clear HCC
          have HK14 : Hid (PzK w A T s.nxt W14) := k1
          clear k1
          have HN14 : Hid (PzN s.nxt 1) := (HN0.out.nxt)
          obtain ⟨c3, c4, c5, c6, c9, c11, c12, c13⟩ := HK14.out.c
          have lb := HK14.out.lt
          clear c3 c4 c5 c6 c11 c12 c13
          have hx9 : parM T n 0 (room - 1) [1] s.nxt ≠ x99 := fun e => HX.out (by have hp := HP.out; rw [e] at hp; exact hp.symm)
          have HCC := hid ((HC.out n (Nat.le_refl _)).e (lv := lv + 1) HK14.out (HN14.out.le (by omega)) (by have := HRM.out; omega) hx9)
          clear hx9
          go_wp2_with fail
          refine HCC.out.mono ?_
          intro e15 W15 q15
          clear c9 lb
          clear HCC
          rcases q15 with ⟨v15, s15, hy, rfl, k1⟩ | ⟨y15, z15, hy, rfl, b1⟩
          · have HY := hid hy
            have HK15 := hid k1
            clear hy k1
            obtain ⟨n1, a1, b1⟩ := HN14.out.p0 HY.out
            have hp := HP.out
            clear HP
            rw [HY.out] at hp
            dsimp only [PBd] at hp
            have HP := hid hp
            clear hp
            obtain ⟨c, HVc⟩ : ∃ x : Nat, Hid (v15.getD 0 0 = x) := ⟨_, rfl⟩
            rw [HVc.out] at b1 a1
            try rw [HVc.out] at HP
            have HN15 : Hid (PzN s15 1) := n1
            have HLc := hid b1
            have HGc := hid a1
            clear a1
            clear n1 b1
            rw [HVc.out]
            obtain ⟨c3, c4, c5, c6, c9, c11, c12, c13⟩ := HK15.out.c
            have lb := HK15.out.lt
            clear c3 c4 c5 c6 c11 c12 c13
            have hx9 : parM T n 15 room [0] s15 ≠ x99 := fun e => HX.out (by have hp := HP.out; rw [e] at hp; exact hp.symm)
            have HCC := hid ((HC.out n (Nat.le_refl _)).bo (x := 0) (x' := 0) HK15.out (HN15.out.le (by omega)) HRM.out h1 (by decide) rfl hx9)
            clear hx9
            go_wp2_with fail
            refine HCC.out.mono ?_
            intro e16 W16 q16
            clear c9 lb
            clear HCC
            rcases q16 with ⟨v16, s16, hy, rfl, k1⟩ | ⟨y16, z16, hy, rfl, b1⟩
            · have HY := hid hy
              have HK16 := hid k1
              clear hy k1
              obtain ⟨n1, b1, l1⟩ := HN15.out.p15 (by decide) HY.out
              have hp := HP.out
              clear HP
              rw [HY.out] at hp
              dsimp only [PBd] at hp
              have HP := hid hp
              clear hp
              obtain ⟨b, HVb⟩ : ∃ x : Nat, Hid (v16.getD 0 0 = x) := ⟨_, rfl⟩
              rw [HVb.out] at b1
              try rw [HVb.out] at HP
              have HN16 : Hid (PzN s16 1) := n1
              have HLb := hid b1
              have HMb := hid l1
              clear l1
              clear n1 b1
              rw [HVb.out]
              obtain ⟨c3, c4, c5, c6, c9, c11, c12, c13⟩ := HK16.out.c
              have lb := HK16.out.lt
              clear c3 c4 c5 c6 c11 c12 c13
              have HCC := hid (HK16.out.add ⟨7, c, b, 0, 0, 0, [], tp⟩ (by have := HN16.out.l; have := HK16.out.il; omega))
              have FIN : Hid (∀ eX WX, (eX = .returned (.int .i64 ((s16).nodes.length : Nat)) ∧ PzK w A T ((s16).add ⟨7, c, b, 0, 0, 0, [], tp⟩) WX) → Q eX WX) := fun eX WX h => by
                rw [← HQ.out]
                exact .inl ⟨_, _, HP.out.symm, h.1, h.2⟩
              go_wp2_with fail
              refine HCC.out.mono ?_
              rintro e17 W17 ⟨rfl, k1⟩
              clear c9 lb
              have FIN2 := hid (FIN.out _ _ ⟨rfl, k1⟩)
              clear FIN k1 HCC
              go_wp2_with fail
              first | exact FIN2.out | (go_ret; exact FIN2.out) | (go_ret2; exact FIN2.out)
            · have HB16 := hid b1
              have HY : Hid (R = .inl y16) := by
                have hp := HP.out
                rw [hy] at hp
                exact hp.symm
              clear hy b1 HP
              obtain ⟨c9, ne1, ne2⟩ := HB16.out.c
              have lb := HB16.out.lt
              have FIN : Hid (Q (.returned (.int .i64 0)) W16) := by
                show Q _ _
                rw [← HQ.out]
                exact .inr ⟨y16, 0, HY.out, rfl, HB16.out⟩
              go_wp2_with fail
              first | exact FIN.out | (go_ret; exact FIN.out) | (go_ret2; exact FIN.out)
          · have HB15 := hid b1
            have HY : Hid (R = .inl y15) := by
              have hp := HP.out
              rw [hy] at hp
              exact hp.symm
            clear hy b1 HP
            obtain ⟨c9, ne1, ne2⟩ := HB15.out.c
            have lb := HB15.out.lt
            have FIN : Hid (Q (.returned (.int .i64 0)) W15) := by
              show Q _ _
              rw [← HQ.out]
              exact .inr ⟨y15, 0, HY.out, rfl, HB15.out⟩
            go_wp2_with fail
            first | exact FIN.out | (go_ret; exact FIN.out) | (go_ret2; exact FIN.out)
        · have hk4 := hid hhk4
          clear hhk4
          have hp := HP.out
          clear HP
          rw [if_neg hk4.out] at hp
          have HP := hid hp
          clear hp
          by_cases hhk5 : (curT T s).k = 5
          · have hk5 := hid hhk5
            clear hhk5
            have hp := HP.out
            clear HP
            rw [if_pos hk5.out] at hp
            have HP := hid hp
            clear hp
            by_cases hhlo : s.loops = 0
            · have hlo := hid hhlo
              clear hhlo
              have hp := HP.out
              clear HP
              rw [if_pos hlo.out] at hp
              have HP := hid hp
              clear hp
              obtain ⟨_, _, _, _, _, _, c12, _⟩ := HK0.out.c
              rw [hlo.out] at c12
              have c12 : W.cell? ⟨A.b, 12, none⟩ = some (.int .i64 0) := c12
              go_enter Tryz.func186, Tryz.ntmps186
              have CI := HK0.out.is (k := 15) (by decide) (by decide) (x := [108, 111, 99, 97, 108]) rfl
              rw [decide_eq_false hk1.out] at CI
              have HCI := hid CI
              clear CI
              go_wp2_with fail
              refine HCI.out.mono ?_
              rintro e18 V18 ⟨rfl, hw⟩
              rw [hw]
              clear hw HCI V18
              have CI := HK0.out.is (k := 13) (by decide) (by decide) (x := [105, 102]) rfl
              rw [decide_eq_false hk2.out] at CI
              have HCI := hid CI
              clear CI
              go_wp2_with fail
              refine HCI.out.mono ?_
              rintro e19 V19 ⟨rfl, hw⟩
              rw [hw]
              clear hw HCI V19
              have CI := HK0.out.is (k := 11) (by decide) (by decide) (x := [102, 111, 114]) rfl
              rw [decide_eq_false hk3.out] at CI
              have HCI := hid CI
              clear CI
              go_wp2_with fail
              refine HCI.out.mono ?_
              rintro e20 V20 ⟨rfl, hw⟩
              rw [hw]
              clear hw HCI V20
              have CI := HK0.out.is (k := 21) (by decide) (by decide) (x := [119, 104, 105, 108, 101]) rfl
              rw [decide_eq_false hk4.out] at CI
              have HCI := hid CI
              clear CI
              go_wp2_with fail
              refine HCI.out.mono ?_
              rintro e21 V21 ⟨rfl, hw⟩
              rw [hw]
              clear hw HCI V21
              have CI := HK0.out.is (k := 5) (by decide) (by decide) (x := [98, 114, 101, 97, 107]) rfl
              rw [decide_eq_true hk5.out] at CI
              have HCI := hid CI
              clear CI
              go_wp2_with fail
              refine HCI.out.mono ?_
              rintro e22 V22 ⟨rfl, hw⟩
              rw [hw]
              clear hw HCI V22
              obtain ⟨y23, hy23⟩ : ∃ y, failP T s 15 = .inl y := ⟨_, rfl⟩
              have HFY := hid hy23
              have HY : Hid (R = .inl y23) := by
                have hp := HP.out
                rw [hy23] at hp
                exact hp.symm
              clear hy23 HP
              have HCC := hid (HK0.out.fail (e := 15) (by decide) HFY.out (e' := 15) rfl)
              go_wp2_with fail
              refine HCC.out.mono ?_
              rintro e23 W23 ⟨rfl, b1⟩
              clear c6 c9 lb
              have HB23 := hid b1
              clear b1 HCC
              obtain ⟨c9, ne1, ne2⟩ := HB23.out.c
              have lb := HB23.out.lt
              have FIN : Hid (Q (.returned (.int .i64 0)) W23) := by
                show Q _ _
                rw [← HQ.out]
                exact .inr ⟨y23, 0, HY.out, rfl, HB23.out⟩
              go_wp2_with fail
              first | exact FIN.out | (go_ret; exact FIN.out) | (go_ret2; exact FIN.out)
            · have hlo := hid hhlo
              clear hhlo
              have hp := HP.out
              clear HP
              rw [if_neg hlo.out] at hp
              have HP := hid hp
              clear hp
              obtain ⟨_, _, _, _, _, _, c12, _⟩ := HK0.out.c
              have bl : ((s.loops : Int) == 0) = false := by rw [beq_eq_false_iff_ne]; have := hlo.out; omega
              obtain ⟨lo, HLO⟩ : ∃ lo : Nat, Hid (s.loops = lo) := ⟨_, rfl⟩
              rw [HLO.out] at c12 bl
              go_enter Tryz.func186, Tryz.ntmps186
              have CI := HK0.out.is (k := 15) (by decide) (by decide) (x := [108, 111, 99, 97, 108]) rfl
              rw [decide_eq_false hk1.out] at CI
              have HCI := hid CI
              clear CI
              go_wp2_with fail
              refine HCI.out.mono ?_
              rintro e24 V24 ⟨rfl, hw⟩
              rw [hw]
              clear hw HCI V24
              have CI := HK0.out.is (k := 13) (by decide) (by decide) (x := [105, 102]) rfl
              rw [decide_eq_false hk2.out] at CI
              have HCI := hid CI
              clear CI
              go_wp2_with fail
              refine HCI.out.mono ?_
              rintro e25 V25 ⟨rfl, hw⟩
              rw [hw]
              clear hw HCI V25
              have CI := HK0.out.is (k := 11) (by decide) (by decide) (x := [102, 111, 114]) rfl
              rw [decide_eq_false hk3.out] at CI
              have HCI := hid CI
              clear CI
              go_wp2_with fail
              refine HCI.out.mono ?_
              rintro e26 V26 ⟨rfl, hw⟩
              rw [hw]
              clear hw HCI V26
              have CI := HK0.out.is (k := 21) (by decide) (by decide) (x := [119, 104, 105, 108, 101]) rfl
              rw [decide_eq_false hk4.out] at CI
              have HCI := hid CI
              clear CI
              go_wp2_with fail
              refine HCI.out.mono ?_
              rintro e27 V27 ⟨rfl, hw⟩
              rw [hw]
              clear hw HCI V27
              have CI := HK0.out.is (k := 5) (by decide) (by decide) (x := [98, 114, 101, 97, 107]) rfl
              rw [decide_eq_true hk5.out] at CI
              have HCI := hid CI
              clear CI
              go_wp2_with fail
              refine HCI.out.mono ?_
              rintro e28 V28 ⟨rfl, hw⟩
              rw [hw]
              clear hw HCI V28
              have HCC := hid (HK0.out.next (by have := hk5.out; omega))
              go_wp2_with fail
              refine HCC.out.mono ?_
              rintro e29 W29 ⟨rfl, k1⟩
              clear c6 c9 lb
              clear HCC
              have HK29 : Hid (PzK w A T s.nxt W29) := k1
              clear k1
              have HN29 : Hid (PzN s.nxt 1) := (HN0.out.nxt)
              obtain ⟨c3, c4, c5, c6, c9, c11, c12, c13⟩ := HK29.out.c
              have lb := HK29.out.lt
              clear c3 c4 c5 c6 c11 c12 c13
              have HCC := hid (HK29.out.add ⟨11, 0, 0, 0, 0, 0, [], tp⟩ (by have := HN29.out.l; have := HK29.out.il; omega))
              have FIN : Hid (∀ eX WX, (eX = .returned (.int .i64 ((s.nxt).nodes.length : Nat)) ∧ PzK w A T ((s.nxt).add ⟨11, 0, 0, 0, 0, 0, [], tp⟩) WX) → Q eX WX) := fun eX WX h => by
                rw [← HQ.out]
                exact .inl ⟨_, _, HP.out.symm, h.1, h.2⟩
              go_wp2_with fail
              refine HCC.out.mono ?_
              rintro e30 W30 ⟨rfl, k1⟩
              clear c9 lb
              have FIN2 := hid (FIN.out _ _ ⟨rfl, k1⟩)
              clear FIN k1 HCC
              go_wp2_with fail
              first | exact FIN2.out | (go_ret; exact FIN2.out) | (go_ret2; exact FIN2.out)
          · have hk5 := hid hhk5
            clear hhk5
            have hp := HP.out
            clear HP
            rw [if_neg hk5.out] at hp
            have HP := hid hp
            clear hp
            by_cases hhk6 : (curT T s).k = 18
            · have hk6 := hid hhk6
              clear hhk6
              have hp := HP.out
              clear HP
              rw [if_pos hk6.out] at hp
              have HP := hid hp
              clear hp
              obtain ⟨n', rfl⟩ : ∃ n', n = n' + 1 := by
                cases n with
                | zero => exact absurd HP.out.symm HX.out
                | succ n' => exact ⟨n', rfl⟩
              have hp := HP.out
              clear HP
              rw [pm16] at hp
              have HP := hid hp
              clear hp
              go_enter Tryz.func186, Tryz.ntmps186
              have CI := HK0.out.is (k := 15) (by decide) (by decide) (x := [108, 111, 99, 97, 108]) rfl
              rw [decide_eq_false hk1.out] at CI
              have HCI := hid CI
              clear CI
              go_wp2_with fail
              refine HCI.out.mono ?_
              rintro e31 V31 ⟨rfl, hw⟩
              rw [hw]
              clear hw HCI V31
              have CI := HK0.out.is (k := 13) (by decide) (by decide) (x := [105, 102]) rfl
              rw [decide_eq_false hk2.out] at CI
              have HCI := hid CI
              clear CI
              go_wp2_with fail
              refine HCI.out.mono ?_
              rintro e32 V32 ⟨rfl, hw⟩
              rw [hw]
              clear hw HCI V32
              have CI := HK0.out.is (k := 11) (by decide) (by decide) (x := [102, 111, 114]) rfl
              rw [decide_eq_false hk3.out] at CI
              have HCI := hid CI
              clear CI
              go_wp2_with fail
              refine HCI.out.mono ?_
              rintro e33 V33 ⟨rfl, hw⟩
              rw [hw]
              clear hw HCI V33
              have CI := HK0.out.is (k := 21) (by decide) (by decide) (x := [119, 104, 105, 108, 101]) rfl
              rw [decide_eq_false hk4.out] at CI
              have HCI := hid CI
              clear CI
              go_wp2_with fail
              refine HCI.out.mono ?_
              rintro e34 V34 ⟨rfl, hw⟩
              rw [hw]
              clear hw HCI V34
              have CI := HK0.out.is (k := 5) (by decide) (by decide) (x := [98, 114, 101, 97, 107]) rfl
              rw [decide_eq_false hk5.out] at CI
              have HCI := hid CI
              clear CI
              go_wp2_with fail
              refine HCI.out.mono ?_
              rintro e35 V35 ⟨rfl, hw⟩
              rw [hw]
              clear hw HCI V35
              have CI := HK0.out.is (k := 18) (by decide) (by decide) (x := [114, 101, 116, 117, 114, 110]) rfl
              rw [decide_eq_true hk6.out] at CI
              have HCI := hid CI
              clear CI
              go_wp2_with fail
              refine HCI.out.mono ?_
              rintro e36 V36 ⟨rfl, hw⟩
              rw [hw]
              clear hw HCI V36
              have HCC := hid (HK0.out.next (by have := hk6.out; omega))
              go_wp2_with fail
              refine HCC.out.mono ?_
              rintro e37 W37 ⟨rfl, k1⟩
              clear c6 c9 lb
              clear HCC
              have HK37 : Hid (PzK w A T s.nxt W37) := k1
              clear k1
              have HN37 : Hid (PzN s.nxt 1) := (HN0.out.nxt)
              have HEN := hid HK37.out.ends
              by_cases hhen : endsB (curT T s.nxt).k = true
              · have hen := hid hhen
                clear hhen
                have hp := HP.out
                clear HP
                rw [if_pos hen.out] at hp
                have HP := hid hp
                clear hp
                rw [hen.out] at HEN
                obtain ⟨c3, c4, c5, c6, c9, c11, c12, c13⟩ := HK37.out.c
                have lb := HK37.out.lt
                clear c3 c4 c5 c6 c11 c12 c13
                go_wp2_with fail
                refine HEN.out.mono ?_
                rintro e9 V9 ⟨rfl, hw⟩
                rw [hw]
                clear hw V9 HEN
                have HCC := hid (HK37.out.add ⟨10, 0, 0, 0, 0, 0, [], tp⟩ (by have := HN37.out.l; have := HK37.out.il; omega))
                have FIN : Hid (∀ eX WX, (eX = .returned (.int .i64 ((s.nxt).nodes.length : Nat)) ∧ PzK w A T ((s.nxt).add ⟨10, 0, 0, 0, 0, 0, [], tp⟩) WX) → Q eX WX) := fun eX WX h => by
                  rw [← HQ.out]
                  exact .inl ⟨_, _, HP.out.symm, h.1, h.2⟩
                go_wp2_with fail
                refine HCC.out.mono ?_
                rintro e38 W38 ⟨rfl, k1⟩
                clear c9 lb
                have FIN2 := hid (FIN.out _ _ ⟨rfl, k1⟩)
                clear FIN k1 HCC
                go_wp2_with fail
                first | exact FIN2.out | (go_ret; exact FIN2.out) | (go_ret2; exact FIN2.out)
              · have hen := hid hhen
                clear hhen
                have hp := HP.out
                clear HP
                rw [if_neg hen.out] at hp
                have HP := hid hp
                clear hp
                rw [show endsB (curT T s.nxt).k = false by simpa using hen.out] at HEN
                go_wp2_with fail
                refine HEN.out.mono ?_
                rintro e9 V9 ⟨rfl, hw⟩
                rw [hw]
                clear hw V9 HEN
                have hx9 : parM T n' 0 (room - 1) [1] s.nxt ≠ x99 := fun e => HX.out (by have hp := HP.out; rw [e] at hp; exact hp.symm)
                have HCC := hid ((HC.out n' (by omega)).e (lv := lv + 1) HK37.out (HN37.out.le (by omega)) (by have := HRM.out; omega) hx9)
                clear hx9
                go_wp2_with fail
                refine HCC.out.mono ?_
                intro e39 W39 q39
                clear HCC
                rcases q39 with ⟨v39, s39, hy, rfl, k1⟩ | ⟨y39, z39, hy, rfl, b1⟩
                · have HY := hid hy
                  have HK39 := hid k1
                  clear hy k1
                  obtain ⟨n1, a1, b1⟩ := HN37.out.p0 HY.out
                  have hp := HP.out
                  clear HP
                  rw [HY.out] at hp
                  dsimp only [PBd] at hp
                  have HP := hid hp
                  clear hp
                  obtain ⟨a, HVa⟩ : ∃ x : Nat, Hid (v39.getD 0 0 = x) := ⟨_, rfl⟩
                  rw [HVa.out] at b1 a1
                  try rw [HVa.out] at HP
                  have HN39 : Hid (PzN s39 1) := n1
                  have HLa := hid b1
                  have HGa := hid a1
                  clear a1
                  clear n1 b1
                  rw [HVa.out]
                  by_cases hhcm : (curT T s39).k = 45
                  · have hcm := hid hhcm
                    clear hhcm
                    have hp := HP.out
                    clear HP
                    rw [if_pos hcm.out] at hp
                    have HP := hid hp
                    clear hp
                    obtain ⟨c3, c4, c5, c6, c9, c11, c12, c13⟩ := HK39.out.c
                    have lb := HK39.out.lt
                    clear c3 c4 c5 c6 c11 c12 c13
                    have CI := HK39.out.is (k := 45) (by decide) (by decide) (x := [44]) rfl
                    rw [decide_eq_true hcm.out] at CI
                    have HCI := hid CI
                    clear CI
                    go_wp2_with fail
                    refine HCI.out.mono ?_
                    rintro e40 V40 ⟨rfl, hw⟩
                    rw [hw]
                    clear hw HCI V40
                    have HCC := hid (HK39.out.next (by have := hcm.out; omega))
                    go_wp2_with fail
                    refine HCC.out.mono ?_
                    rintro e41 W41 ⟨rfl, k1⟩
                    clear c9 lb
                    clear HCC
                    have HK41 : Hid (PzK w A T s39.nxt W41) := k1
                    clear k1
                    have HN41 : Hid (PzN s39.nxt 2) := (HN39.out.nxt)
                    obtain ⟨c3, c4, c5, c6, c9, c11, c12, c13⟩ := HK41.out.c
                    have lb := HK41.out.lt
                    clear c3 c4 c5 c6 c11 c12 c13
                    have hx9 : parM T n' 0 (room - 1) [1] s39.nxt ≠ x99 := fun e => HX.out (by have hp := HP.out; rw [e] at hp; exact hp.symm)
                    have HCC := hid ((HC.out n' (by omega)).e (lv := lv + 1) HK41.out (HN41.out.le (by omega)) (by have := HRM.out; omega) hx9)
                    clear hx9
                    go_wp2_with fail
                    refine HCC.out.mono ?_
                    intro e42 W42 q42
                    clear c9 lb
                    clear HCC
                    rcases q42 with ⟨v42, s42, hy, rfl, k1⟩ | ⟨y42, z42, hy, rfl, b1⟩
                    · have HY := hid hy
                      have HK42 := hid k1
                      clear hy k1
                      obtain ⟨n1, a1, b1⟩ := HN41.out.p0 HY.out
                      have hp := HP.out
                      clear HP
                      rw [HY.out] at hp
                      dsimp only [PBd] at hp
                      have HP := hid hp
                      clear hp
                      obtain ⟨b, HVb⟩ : ∃ x : Nat, Hid (v42.getD 0 0 = x) := ⟨_, rfl⟩
                      rw [HVb.out] at b1 a1
                      try rw [HVb.out] at HP
                      have HN42 : Hid (PzN s42 2) := n1
                      have HLb := hid b1
                      have HGb := hid a1
                      clear a1
                      clear n1 b1
                      rw [HVb.out]
                      obtain ⟨c3, c4, c5, c6, c9, c11, c12, c13⟩ := HK42.out.c
                      have lb := HK42.out.lt
                      clear c3 c4 c5 c6 c11 c12 c13
                      have HCC := hid (HK42.out.add ⟨10, a, b, 0, 0, 0, [], tp⟩ (by have := HN42.out.l; have := HK42.out.il; omega))
                      have FIN : Hid (∀ eX WX, (eX = .returned (.int .i64 ((s42).nodes.length : Nat)) ∧ PzK w A T ((s42).add ⟨10, a, b, 0, 0, 0, [], tp⟩) WX) → Q eX WX) := fun eX WX h => by
                        rw [← HQ.out]
                        exact .inl ⟨_, _, HP.out.symm, h.1, h.2⟩
                      go_wp2_with fail
                      refine HCC.out.mono ?_
                      rintro e43 W43 ⟨rfl, k1⟩
                      clear c9 lb
                      have FIN2 := hid (FIN.out _ _ ⟨rfl, k1⟩)
                      clear FIN k1 HCC
                      go_wp2_with fail
                      first | exact FIN2.out | (go_ret; exact FIN2.out) | (go_ret2; exact FIN2.out)
                    · have HB42 := hid b1
                      have HY : Hid (R = .inl y42) := by
                        have hp := HP.out
                        rw [hy] at hp
                        exact hp.symm
                      clear hy b1 HP
                      obtain ⟨c9, ne1, ne2⟩ := HB42.out.c
                      have lb := HB42.out.lt
                      have FIN : Hid (Q (.returned (.int .i64 0)) W42) := by
                        show Q _ _
                        rw [← HQ.out]
                        exact .inr ⟨y42, 0, HY.out, rfl, HB42.out⟩
                      go_wp2_with fail
                      first | exact FIN.out | (go_ret; exact FIN.out) | (go_ret2; exact FIN.out)
                  · have hcm := hid hhcm
                    clear hhcm
                    have hp := HP.out
                    clear HP
                    rw [if_neg hcm.out] at hp
                    have HP := hid hp
                    clear hp
                    obtain ⟨c3, c4, c5, c6, c9, c11, c12, c13⟩ := HK39.out.c
                    have lb := HK39.out.lt
                    clear c3 c4 c5 c6 c11 c12 c13
                    have CI := HK39.out.is (k := 45) (by decide) (by decide) (x := [44]) rfl
                    rw [decide_eq_false hcm.out] at CI
                    have HCI := hid CI
                    clear CI
                    go_wp2_with fail
                    refine HCI.out.mono ?_
                    rintro e44 V44 ⟨rfl, hw⟩
                    rw [hw]
                    clear hw HCI V44
                    have HCC := hid (HK39.out.add ⟨10, a, 0, 0, 0, 0, [], tp⟩ (by have := HN39.out.l; have := HK39.out.il; omega))
                    have FIN : Hid (∀ eX WX, (eX = .returned (.int .i64 ((s39).nodes.length : Nat)) ∧ PzK w A T ((s39).add ⟨10, a, 0, 0, 0, 0, [], tp⟩) WX) → Q eX WX) := fun eX WX h => by
                      rw [← HQ.out]
                      exact .inl ⟨_, _, HP.out.symm, h.1, h.2⟩
                    go_wp2_with fail
                    refine HCC.out.mono ?_
                    rintro e45 W45 ⟨rfl, k1⟩
                    clear c9 lb
                    have FIN2 := hid (FIN.out _ _ ⟨rfl, k1⟩)
                    clear FIN k1 HCC
                    go_wp2_with fail
                    first | exact FIN2.out | (go_ret; exact FIN2.out) | (go_ret2; exact FIN2.out)
                · have HB39 := hid b1
                  have HY : Hid (R = .inl y39) := by
                    have hp := HP.out
                    rw [hy] at hp
                    exact hp.symm
                  clear hy b1 HP
                  obtain ⟨c9, ne1, ne2⟩ := HB39.out.c
                  have lb := HB39.out.lt
                  obtain ⟨bb, CI⟩ := HB39.out.is [44]
                  have HCI := hid CI
                  clear CI
                  cases bb with
                  | true =>
                    have HCC := hid HB39.out.next
                    go_wp2_with fail
                    refine HCI.out.mono ?_
                    rintro e8 V8 ⟨rfl, hw⟩
                    rw [hw]
                    clear hw V8 HCI
                    go_wp2_with fail
                    refine HCC.out.mono ?_
                    rintro e46 W46 ⟨rfl, b1⟩
                    clear c9 ne1 ne2 lb
                    have HB46 := hid b1
                    clear b1 HCC
                    obtain ⟨c9, ne1, ne2⟩ := HB46.out.c
                    have lb := HB46.out.lt
                    have HCE := hid (HB46.out.expr (lv + 1))
                    go_wp2_with fail
                    refine HCE.out.mono ?_
                    rintro e7 V7 ⟨rfl, hw⟩
                    rw [hw]
                    clear hw V7 HCE
                    have FIN : Hid (Q (.returned (.int .i64 0)) W46) := by
                      show Q _ _
                      rw [← HQ.out]
                      exact .inr ⟨y39, 0, HY.out, rfl, HB46.out⟩
                    go_wp2_with fail
                    first | exact FIN.out | (go_ret; exact FIN.out) | (go_ret2; exact FIN.out)
                  | false =>
                    go_wp2_with fail
                    refine HCI.out.mono ?_
                    rintro e8 V8 ⟨rfl, hw⟩
                    rw [hw]
                    clear hw V8 HCI
                    have FIN : Hid (Q (.returned (.int .i64 0)) W39) := by
                      show Q _ _
                      rw [← HQ.out]
                      exact .inr ⟨y39, 0, HY.out, rfl, HB39.out⟩
                    go_wp2_with fail
                    first | exact FIN.out | (go_ret; exact FIN.out) | (go_ret2; exact FIN.out)
            · have hk6 := hid hhk6
              clear hhk6
              have hp := HP.out
              clear HP
              rw [if_neg hk6.out] at hp
              have HP := hid hp
              clear hp
              go_enter Tryz.func186, Tryz.ntmps186
              have CI := HK0.out.is (k := 15) (by decide) (by decide) (x := [108, 111, 99, 97, 108]) rfl
              rw [decide_eq_false hk1.out] at CI
              have HCI := hid CI
              clear CI
              go_wp2_with fail
              refine HCI.out.mono ?_
              rintro e47 V47 ⟨rfl, hw⟩
              rw [hw]
              clear hw HCI V47
              have CI := HK0.out.is (k := 13) (by decide) (by decide) (x := [105, 102]) rfl
              rw [decide_eq_false hk2.out] at CI
              have HCI := hid CI
              clear CI
              go_wp2_with fail
              refine HCI.out.mono ?_
              rintro e48 V48 ⟨rfl, hw⟩
              rw [hw]
              clear hw HCI V48
              have CI := HK0.out.is (k := 11) (by decide) (by decide) (x := [102, 111, 114]) rfl
              rw [decide_eq_false hk3.out] at CI
              have HCI := hid CI
              clear CI
              go_wp2_with fail
              refine HCI.out.mono ?_
              rintro e49 V49 ⟨rfl, hw⟩
              rw [hw]
              clear hw HCI V49
              have CI := HK0.out.is (k := 21) (by decide) (by decide) (x := [119, 104, 105, 108, 101]) rfl
              rw [decide_eq_false hk4.out] at CI
              have HCI := hid CI
              clear CI
              go_wp2_with fail
              refine HCI.out.mono ?_
              rintro e50 V50 ⟨rfl, hw⟩
              rw [hw]
              clear hw HCI V50
              have CI := HK0.out.is (k := 5) (by decide) (by decide) (x := [98, 114, 101, 97, 107]) rfl
              rw [decide_eq_false hk5.out] at CI
              have HCI := hid CI
              clear CI
              go_wp2_with fail
              refine HCI.out.mono ?_
              rintro e51 V51 ⟨rfl, hw⟩
              rw [hw]
              clear hw HCI V51
              have CI := HK0.out.is (k := 18) (by decide) (by decide) (x := [114, 101, 116, 117, 114, 110]) rfl
              rw [decide_eq_false hk6.out] at CI
              have HCI := hid CI
              clear CI
              go_wp2_with fail
              refine HCI.out.mono ?_
              rintro e52 V52 ⟨rfl, hw⟩
              rw [hw]
              clear hw HCI V52
              have hx9 : parM T n 3 (room - 1) [] s ≠ x99 := fun e => HX.out (by have hp := HP.out; rw [e] at hp; exact hp.symm)
              have HCC := hid ((HC.out n (Nat.le_refl _)).p (lv := lv + 1) HK0.out HN0.out (by have := HRM.out; omega) hx9)
              clear hx9
              go_wp2_with fail
              refine HCC.out.mono ?_
              intro e53 W53 q53
              clear c6 c9 lb
              clear HCC
              rcases q53 with ⟨v53, s53, hy, rfl, k1⟩ | ⟨y53, z53, hy, rfl, b1⟩
              · have HY := hid hy
                have HK53 := hid k1
                clear hy k1
                obtain ⟨n1, a1, b1⟩ := HN0.out.p3 HY.out
                have hp := HP.out
                clear HP
                rw [HY.out] at hp
                dsimp only [PBd] at hp
                have HP := hid hp
                clear hp
                obtain ⟨x, HVx⟩ : ∃ x : Nat, Hid (v53.getD 0 0 = x) := ⟨_, rfl⟩
                rw [HVx.out] at b1 a1
                try rw [HVx.out] at HP
                have HN53 : Hid (PzN s53 0) := n1
                have HLx := hid b1
                have HGx := hid a1
                clear a1
                clear n1 b1
                rw [HVx.out]
                obtain ⟨gg, cc, ND, _⟩ := HK53.out.node (l := x) HLx.out
                obtain ⟨c8, lcc, _, lg, ln, d0, _, d7, _, gb⟩ := ND
                obtain ⟨kd, HKD⟩ : ∃ kd, Hid ((s53.nodes.getD x nd0).k = kd) := ⟨_, rfl⟩
                obtain ⟨xp, HXP⟩ : ∃ xp, Hid ((s53.nodes.getD x nd0).p = xp) := ⟨_, rfl⟩
                obtain ⟨NLn, HNLn⟩ : ∃ x : Nat, Hid (s53.nodes.length = x) := ⟨_, rfl⟩
                rw [HKD.out] at d0
                rw [HXP.out] at d7
                rw [HNLn.out] at c8 lcc ln
                have hp := HP.out
                clear HP
                rw [HKD.out] at hp
                have HP := hid hp
                clear hp
                by_cases hheq : (curT T s53).k = 38
                · have heq := hid hheq
                  clear hheq
                  have hp := HP.out
                  clear HP
                  rw [if_neg (fun z => z heq.out)] at hp
                  have HP := hid hp
                  clear hp
                  obtain ⟨c3, c4, c5, c6, c9, c11, c12, c13⟩ := HK53.out.c
                  have lb := HK53.out.lt
                  clear c3 c4 c5 c11 c12 c13
                  obtain ⟨eq, HEQ⟩ : ∃ eq : Nat, Hid ((curT T s53).p = eq) := ⟨_, rfl⟩
                  rw [HEQ.out] at c6
                  have hp := HP.out
                  clear HP
                  rw [HEQ.out] at hp
                  have HP := hid hp
                  clear hp
                  have CI := HK53.out.is (k := 38) (by decide) (by decide) (x := [61]) rfl
                  rw [decide_eq_true heq.out] at CI
                  have HCI := hid CI
                  clear CI
                  go_wp2_with fail
                  refine HCI.out.mono ?_
                  rintro e54 V54 ⟨rfl, hw⟩
                  rw [hw]
                  clear hw HCI V54
                  by_cases hhbd : kd ≠ 17 ∧ kd ≠ 18
                  · have hbd := hid hhbd
                    clear hhbd
                    have hp := HP.out
                    clear HP
                    rw [if_pos hbd.out] at hp
                    have HP := hid hp
                    clear hp
                    have b17 : ((kd : Int) != 17) = true := by rw [bne_iff_ne]; have := hbd.out.1; omega
                    have b18 : ((kd : Int) != 18) = true := by rw [bne_iff_ne]; have := hbd.out.2; omega
                    obtain ⟨y55, hy55⟩ : ∃ y, failP T s53 15 = .inl y := ⟨_, rfl⟩
                    have HFY := hid hy55
                    have HY : Hid (R = .inl y55) := by
                      have hp := HP.out
                      rw [hy55] at hp
                      exact hp.symm
                    clear hy55 HP
                    have HCC := hid (HK53.out.fail (e := 15) (by decide) HFY.out (e' := 15) rfl)
                    go_wp2_with fail
                    refine HCC.out.mono ?_
                    rintro e55 W55 ⟨rfl, b1⟩
                    clear c6 c9 lb c8 lcc lg ln d0 d7 gb
                    have HB55 := hid b1
                    clear b1 HCC
                    obtain ⟨c9, ne1, ne2⟩ := HB55.out.c
                    have lb := HB55.out.lt
                    have FIN : Hid (Q (.returned (.int .i64 0)) W55) := by
                      show Q _ _
                      rw [← HQ.out]
                      exact .inr ⟨y55, 0, HY.out, rfl, HB55.out⟩
                    go_wp2_with fail
                    first | exact FIN.out | (go_ret; exact FIN.out) | (go_ret2; exact FIN.out)
                  · have hbd := hid hhbd
                    clear hhbd
                    have hp := HP.out
                    clear HP
                    rw [if_neg hbd.out] at hp
                    have HP := hid hp
                    clear hp
                    by_cases hh17 : kd = 17
                    · have h17 := hid hh17
                      clear hh17
                      have b17 : ((kd : Int) != 17) = false := by rw [h17.out]; rfl
                      have HCC := hid (HK53.out.next (by have := heq.out; omega))
                      go_wp2_with fail
                      refine HCC.out.mono ?_
                      rintro e56 W56 ⟨rfl, k1⟩
                      clear c6 c9 lb c8 lcc lg ln d0 d7 gb
                      clear HCC
                      have HK56 : Hid (PzK w A T s53.nxt W56) := k1
                      clear k1
                      have HN56 : Hid (PzN s53.nxt 1) := (HN53.out.nxt)
                      obtain ⟨c3, c4, c5, c6, c9, c11, c12, c13⟩ := HK56.out.c
                      have lb := HK56.out.lt
                      clear c3 c4 c5 c6 c11 c12 c13
                      have hx9 : parM T n 0 (room - 1) [1] s53.nxt ≠ x99 := fun e => HX.out (by have hp := HP.out; rw [e] at hp; exact hp.symm)
                      have HCC := hid ((HC.out n (Nat.le_refl _)).e (lv := lv + 1) HK56.out (HN56.out.le (by omega)) (by have := HRM.out; omega) hx9)
                      clear hx9
                      go_wp2_with fail
                      refine HCC.out.mono ?_
                      intro e57 W57 q57
                      clear c9 lb
                      clear HCC
                      rcases q57 with ⟨v57, s57, hy, rfl, k1⟩ | ⟨y57, z57, hy, rfl, b1⟩
                      · have HY := hid hy
                        have HK57 := hid k1
                        clear hy k1
                        obtain ⟨n1, a1, b1⟩ := HN56.out.p0 HY.out
                        have hp := HP.out
                        clear HP
                        rw [HY.out] at hp
                        dsimp only [PBd] at hp
                        have HP := hid hp
                        clear hp
                        obtain ⟨e, HVe⟩ : ∃ x : Nat, Hid (v57.getD 0 0 = x) := ⟨_, rfl⟩
                        rw [HVe.out] at b1 a1
                        try rw [HVe.out] at HP
                        have HN57 : Hid (PzN s57 1) := n1
                        have HLe := hid b1
                        have HGe := hid a1
                        clear a1
                        clear n1 b1
                        rw [HVe.out]
                        obtain ⟨c3, c4, c5, c6, c9, c11, c12, c13⟩ := HK57.out.c
                        have lb := HK57.out.lt
                        clear c3 c4 c5 c6 c11 c12 c13
                        have HCC := hid (HK57.out.add ⟨4, x, e, 0, 0, 0, [], eq⟩ (by have := HN57.out.l; have := HK57.out.il; omega))
                        have FIN : Hid (∀ eX WX, (eX = .returned (.int .i64 ((s57).nodes.length : Nat)) ∧ PzK w A T ((s57).add ⟨4, x, e, 0, 0, 0, [], eq⟩) WX) → Q eX WX) := fun eX WX h => by
                          rw [← HQ.out]
                          exact .inl ⟨_, _, HP.out.symm, h.1, h.2⟩
                        go_wp2_with fail
                        refine HCC.out.mono ?_
                        rintro e58 W58 ⟨rfl, k1⟩
                        clear c9 lb
                        have FIN2 := hid (FIN.out _ _ ⟨rfl, k1⟩)
                        clear FIN k1 HCC
                        go_wp2_with fail
                        first | exact FIN2.out | (go_ret; exact FIN2.out) | (go_ret2; exact FIN2.out)
                      · have HB57 := hid b1
                        have HY : Hid (R = .inl y57) := by
                          have hp := HP.out
                          rw [hy] at hp
                          exact hp.symm
                        clear hy b1 HP
                        obtain ⟨c9, ne1, ne2⟩ := HB57.out.c
                        have lb := HB57.out.lt
                        have FIN : Hid (Q (.returned (.int .i64 0)) W57) := by
                          show Q _ _
                          rw [← HQ.out]
                          exact .inr ⟨y57, 0, HY.out, rfl, HB57.out⟩
                        go_wp2_with fail
                        first | exact FIN.out | (go_ret; exact FIN.out) | (go_ret2; exact FIN.out)
                    · have h17 := hid hh17
                      clear hh17
                      have b17 : ((kd : Int) != 17) = true := by rw [bne_iff_ne]; have := h17.out; omega
                      have b18 : ((kd : Int) != 18) = false := by
                        have : kd = 18 := Decidable.byContradiction fun z => hbd.out ⟨h17.out, z⟩
                        rw [this]; rfl
                      have HCC := hid (HK53.out.next (by have := heq.out; omega))
                      go_wp2_with fail
                      refine HCC.out.mono ?_
                      rintro e59 W59 ⟨rfl, k1⟩
                      clear c6 c9 lb c8 lcc lg ln d0 d7 gb
                      clear HCC
                      have HK59 : Hid (PzK w A T s53.nxt W59) := k1
                      clear k1
                      have HN59 : Hid (PzN s53.nxt 1) := (HN53.out.nxt)
                      obtain ⟨c3, c4, c5, c6, c9, c11, c12, c13⟩ := HK59.out.c
                      have lb := HK59.out.lt
                      clear c3 c4 c5 c6 c11 c12 c13
                      have hx9 : parM T n 0 (room - 1) [1] s53.nxt ≠ x99 := fun e => HX.out (by have hp := HP.out; rw [e] at hp; exact hp.symm)
                      have HCC := hid ((HC.out n (Nat.le_refl _)).e (lv := lv + 1) HK59.out (HN59.out.le (by omega)) (by have := HRM.out; omega) hx9)
                      clear hx9
                      go_wp2_with fail
                      refine HCC.out.mono ?_
                      intro e60 W60 q60
                      clear c9 lb
                      clear HCC
                      rcases q60 with ⟨v60, s60, hy, rfl, k1⟩ | ⟨y60, z60, hy, rfl, b1⟩
                      · have HY := hid hy
                        have HK60 := hid k1
                        clear hy k1
                        obtain ⟨n1, a1, b1⟩ := HN59.out.p0 HY.out
                        have hp := HP.out
                        clear HP
                        rw [HY.out] at hp
                        dsimp only [PBd] at hp
                        have HP := hid hp
                        clear hp
                        obtain ⟨e, HVe⟩ : ∃ x : Nat, Hid (v60.getD 0 0 = x) := ⟨_, rfl⟩
                        rw [HVe.out] at b1 a1
                        try rw [HVe.out] at HP
                        have HN60 : Hid (PzN s60 1) := n1
                        have HLe := hid b1
                        have HGe := hid a1
                        clear a1
                        clear n1 b1
                        rw [HVe.out]
                        obtain ⟨c3, c4, c5, c6, c9, c11, c12, c13⟩ := HK60.out.c
                        have lb := HK60.out.lt
                        clear c3 c4 c5 c6 c11 c12 c13
                        have HCC := hid (HK60.out.add ⟨4, x, e, 0, 0, 0, [], eq⟩ (by have := HN60.out.l; have := HK60.out.il; omega))
                        have FIN : Hid (∀ eX WX, (eX = .returned (.int .i64 ((s60).nodes.length : Nat)) ∧ PzK w A T ((s60).add ⟨4, x, e, 0, 0, 0, [], eq⟩) WX) → Q eX WX) := fun eX WX h => by
                          rw [← HQ.out]
                          exact .inl ⟨_, _, HP.out.symm, h.1, h.2⟩
                        go_wp2_with fail
                        refine HCC.out.mono ?_
                        rintro e61 W61 ⟨rfl, k1⟩
                        clear c9 lb
                        have FIN2 := hid (FIN.out _ _ ⟨rfl, k1⟩)
                        clear FIN k1 HCC
                        go_wp2_with fail
                        first | exact FIN2.out | (go_ret; exact FIN2.out) | (go_ret2; exact FIN2.out)
                      · have HB60 := hid b1
                        have HY : Hid (R = .inl y60) := by
                          have hp := HP.out
                          rw [hy] at hp
                          exact hp.symm
                        clear hy b1 HP
                        obtain ⟨c9, ne1, ne2⟩ := HB60.out.c
                        have lb := HB60.out.lt
                        have FIN : Hid (Q (.returned (.int .i64 0)) W60) := by
                          show Q _ _
                          rw [← HQ.out]
                          exact .inr ⟨y60, 0, HY.out, rfl, HB60.out⟩
                        go_wp2_with fail
                        first | exact FIN.out | (go_ret; exact FIN.out) | (go_ret2; exact FIN.out)
                · have heq := hid hheq
                  clear hheq
                  have hp := HP.out
                  clear HP
                  rw [if_pos heq.out] at hp
                  have HP := hid hp
                  clear hp
                  obtain ⟨c3, c4, c5, c6, c9, c11, c12, c13⟩ := HK53.out.c
                  have lb := HK53.out.lt
                  clear c3 c4 c5 c6 c11 c12 c13
                  have CI := HK53.out.is (k := 38) (by decide) (by decide) (x := [61]) rfl
                  rw [decide_eq_false heq.out] at CI
                  have HCI := hid CI
                  clear CI
                  go_wp2_with fail
                  refine HCI.out.mono ?_
                  rintro e62 V62 ⟨rfl, hw⟩
                  rw [hw]
                  clear hw HCI V62
                  by_cases hh19 : kd = 19
                  · have h19 := hid hh19
                    clear hh19
                    have hp := HP.out
                    clear HP
                    rw [if_pos h19.out, HXP.out] at hp
                    have HP := hid hp
                    clear hp
                    have b19 : ((kd : Int) != 19) = false := by rw [h19.out]; rfl
                    have HCC := hid (HK53.out.add ⟨5, x, 0, 0, 0, 0, [], xp⟩ (by have := HN53.out.l; have := HK53.out.il; omega))
                    have FIN : Hid (∀ eX WX, (eX = .returned (.int .i64 ((s53).nodes.length : Nat)) ∧ PzK w A T ((s53).add ⟨5, x, 0, 0, 0, 0, [], xp⟩) WX) → Q eX WX) := fun eX WX h => by
                      rw [← HQ.out]
                      exact .inl ⟨_, _, HP.out.symm, h.1, h.2⟩
                    go_wp2_with fail
                    refine HCC.out.mono ?_
                    rintro e63 W63 ⟨rfl, k1⟩
                    clear c9 lb c8 lcc lg ln d0 d7 gb
                    have FIN2 := hid (FIN.out _ _ ⟨rfl, k1⟩)
                    clear FIN k1 HCC
                    go_wp2_with fail
                    first | exact FIN2.out | (go_ret; exact FIN2.out) | (go_ret2; exact FIN2.out)
                  · have h19 := hid hh19
                    clear hh19
                    have hp := HP.out
                    clear HP
                    rw [if_neg h19.out] at hp
                    have HP := hid hp
                    clear hp
                    have b19 : ((kd : Int) != 19) = true := by rw [bne_iff_ne]; have := h19.out; omega
                    obtain ⟨y64, hy64⟩ : ∃ y, failP T s53 15 = .inl y := ⟨_, rfl⟩
                    have HFY := hid hy64
                    have HY : Hid (R = .inl y64) := by
                      have hp := HP.out
                      rw [hy64] at hp
                      exact hp.symm
                    clear hy64 HP
                    have HCC := hid (HK53.out.fail (e := 15) (by decide) HFY.out (e' := 15) rfl)
                    go_wp2_with fail
                    refine HCC.out.mono ?_
                    rintro e64 W64 ⟨rfl, b1⟩
                    clear c9 lb c8 lcc lg ln d0 d7 gb
                    have HB64 := hid b1
                    clear b1 HCC
                    obtain ⟨c9, ne1, ne2⟩ := HB64.out.c
                    have lb := HB64.out.lt
                    have FIN : Hid (Q (.returned (.int .i64 0)) W64) := by
                      show Q _ _
                      rw [← HQ.out]
                      exact .inr ⟨y64, 0, HY.out, rfl, HB64.out⟩
                    go_wp2_with fail
                    first | exact FIN.out | (go_ret; exact FIN.out) | (go_ret2; exact FIN.out)
              · have HB53 := hid b1
                have HY : Hid (R = .inl y53) := by
                  have hp := HP.out
                  rw [hy] at hp
                  exact hp.symm
                clear hy b1 HP
                obtain ⟨c9, ne1, ne2⟩ := HB53.out.c
                have lb := HB53.out.lt
                have FIN : Hid (Q (.returned (.int .i64 0)) W53) := by
                  show Q _ _
                  rw [← HQ.out]
                  exact .inr ⟨y53, 0, HY.out, rfl, HB53.out⟩
                go_wp2_with fail
                first | exact FIN.out | (go_ret; exact FIN.out) | (go_ret2; exact FIN.out)
end
end Go.Proofs.Qxb6500574aGreatDoor
