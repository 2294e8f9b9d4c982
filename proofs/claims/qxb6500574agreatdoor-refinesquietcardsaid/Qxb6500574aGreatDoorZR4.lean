/-
  THE WALKS of syntaxm: left.
-/
import Derived.Test.Qxb6500574aGreatDoorZR3
namespace Go.Proofs.Qxb6500574aGreatDoor
open Go Go.RowKit
set_option linter.unusedVariables false
set_option linter.unusedSimpArgs false
section
variable {T : List Tok} {n : Nat}
set_option maxRecDepth 100000
set_option maxHeartbeats 1000000
theorem left5_z (C : ∀ m, m ≤ n → PCz T m) {w W : World} {A : PzP} {s : PSt} {room : Nat} {lv : Int} (h0 : PzK w A T s W) (hn : PzN s 0) (hr : lv + room = 13 ∧ 1 ≤ lv) (h1 : 1 ≤ room) (hx : parM T (n + 1) 0 room [7] s ≠ x99) :
    Calls Tryz.prog 304 #[.pointer (some ⟨A.b, 0, none⟩), .int .i64 lv, .int .i64 5] W (PzR T w A (parM T (n + 1) 0 room [7] s)) := by
  obtain ⟨R, HR⟩ : ∃ R, Hid (parM T (n + 1) 0 room [7] s = R) := ⟨_, rfl⟩
  rw [HR.out] at hx ⊢
  obtain ⟨Q, HQ⟩ : ∃ Q : Ending → World → Prop, Hid (PzR T w A R = Q) := ⟨_, rfl⟩
  rw [HQ.out]
  have HC := hid C
  have HX := hid hx
  have HK0 := hid h0
  have HN0 := hid hn
  have HRM := hid hr
  have lv1 : 1 ≤ lv := hr.2
  have lv2 : lv ≤ 13 := by omega
  have HP : Hid (_ = R) := pm0_7.symm.trans HR.out
  clear C hx h0 hn HR hr
  obtain ⟨c3, c4, c5, c6, c9, c11, c12, c13⟩ := HK0.out.c
  have lb := HK0.out.lt
  clear c3 c4 c5 c6 c11 c12 c13
  go_enter Tryz.func304, Tryz.ntmps304
  have hx9 : parM T n 2 room [] s ≠ x99 := fun e => HX.out (by have hp := HP.out; rw [e] at hp; exact hp.symm)
  have HCC := hid ((HC.out n (Nat.le_refl _)).u HK0.out HN0.out HRM.out hx9)
  clear hx9
  go_wp2_with fail
  refine HCC.out.mono ?_
  intro e1 W1 q1
  clear c9 lb
  clear HCC
  rcases q1 with ⟨v1, s1, hy, rfl, k1⟩ | ⟨y1, z1, hy, rfl, b1⟩
  · have HY := hid hy
    have HK1 := hid k1
    clear hy k1
    obtain ⟨n1, a1, b1⟩ := HN0.out.p2 HY.out
    have hp := HP.out
    clear HP
    rw [HY.out] at hp
    dsimp only [PBd] at hp
    have HP := hid hp
    clear hp
    obtain ⟨v, HVv⟩ : ∃ x : Nat, Hid (v1.getD 0 0 = x) := ⟨_, rfl⟩
    rw [HVv.out] at b1 HP a1
    have HN1 : Hid (PzN s1 0) := n1
    have HLv := hid b1
    have HGv := hid a1
    clear a1
    clear n1 b1
    rw [HVv.out]
    have FIN : Hid (Q (.returned (.int .i64 (v : Nat))) W1) := by
      show Q _ _
      rw [← HQ.out]
      exact .inl ⟨_, _, HP.out.symm, rfl, HK1.out⟩
    go_wp2_with fail
    first | exact FIN.out | (go_ret; exact FIN.out) | (go_ret2; exact FIN.out)
  · have HB1 := hid b1
    have HY : Hid (R = .inl y1) := by
      have hp := HP.out
      rw [hy] at hp
      exact hp.symm
    clear hy b1 HP
    obtain ⟨c9, ne1, ne2⟩ := HB1.out.c
    have lb := HB1.out.lt
    have FIN : Hid (Q (.returned (.int .i64 z1)) W1) := by
      show Q _ _
      rw [← HQ.out]
      exact .inr ⟨y1, z1, HY.out, rfl, HB1.out⟩
    go_wp2_with fail
    first | exact FIN.out | (go_ret; exact FIN.out) | (go_ret2; exact FIN.out)
theorem left2_z (C : ∀ m, m ≤ n → PCz T m) {w W : World} {A : PzP} {s : PSt} {room : Nat} {lv : Int} (h0 : PzK w A T s W) (hn : PzN s 0) (hr : lv + room = 13 ∧ 1 ≤ lv) (hx : parM T (n + 1) 0 room [4] s ≠ x99) :
    Calls Tryz.prog 304 #[.pointer (some ⟨A.b, 0, none⟩), .int .i64 lv, .int .i64 2] W (PzR T w A (parM T (n + 1) 0 room [4] s)) := by
  obtain ⟨R, HR⟩ : ∃ R, Hid (parM T (n + 1) 0 room [4] s = R) := ⟨_, rfl⟩
  rw [HR.out] at hx ⊢
  obtain ⟨Q, HQ⟩ : ∃ Q : Ending → World → Prop, Hid (PzR T w A R = Q) := ⟨_, rfl⟩
  rw [HQ.out]
  have HC := hid C
  have HX := hid hx
  have HK0 := hid h0
  have HN0 := hid hn
  have HRM := hid hr
  have lv1 : 1 ≤ lv := hr.2
  have lv2 : lv ≤ 13 := by omega
  have HP : Hid (_ = R) := pm0_4.symm.trans HR.out
  clear C hx h0 hn HR hr
  obtain ⟨c3, c4, c5, c6, c9, c11, c12, c13⟩ := HK0.out.c
  have lb := HK0.out.lt
  clear c3 c4 c5 c6 c11 c12 c13
  by_cases hhz0 : room = 0
  · have hz0 := hid hhz0
    clear hhz0
    have hl : lv = 13 := by have := HRM.out; have := hz0.out; omega
    have HPP : Hid (failP T s 16 = R) := by
      have e := parM_room0 (T := T) (n + 1) 4 s (by decide) (by decide)
      have hz := hz0.out
      have hp := HP.out
      rw [← pm0_4, hz] at hp
      rw [hp] at e
      exact (e.resolve_left HX.out).symm
    clear HP
    have HP := HPP
    clear HPP
    obtain ⟨y1, hy1⟩ : ∃ y, failP T s 16 = .inl y := ⟨_, rfl⟩
    have HFY := hid hy1
    have HY : Hid (R = .inl y1) := by
      have hp := HP.out
      rw [hy1] at hp
      exact hp.symm
    clear hy1 HP
    have HCC := hid (HK0.out.deep HFY.out hl)
    clear hl
    go_enter Tryz.func304, Tryz.ntmps304
    go_wp2_with fail
    refine HCC.out.mono ?_
    rintro e1 W1 ⟨rfl, b1⟩
    clear c9 lb
    have HB1 := hid b1
    clear b1 HCC
    obtain ⟨c9, ne1, ne2⟩ := HB1.out.c
    have lb := HB1.out.lt
    have FIN : Hid (Q (.returned (.int .i64 0)) W1) := by
      show Q _ _
      rw [← HQ.out]
      exact .inr ⟨y1, 0, HY.out, rfl, HB1.out⟩
    go_wp2_with fail
    first | exact FIN.out | (go_ret; exact FIN.out) | (go_ret2; exact FIN.out)
  · have hz0 := hid hhz0
    clear hhz0
    have hl : lv ≤ 12 := by have := HRM.out; have := hz0.out; omega
    have h1 : 1 ≤ room := by have := hz0.out; omega
    have HD : Hid (∀ W, Calls Tryz.prog 184 #[.pointer (some ⟨A.b, 0, none⟩), .int .i64 lv] W fun e w' => e = .returned (.bool false) ∧ w' = W) := fun W => deep_no A.b hl
    clear hl
    go_enter Tryz.func304, Tryz.ntmps304
    go_wp2_with fail
    refine (HD.out _).mono ?_
    rintro e7 V7 ⟨rfl, hw⟩
    rw [hw]
    clear hw V7 HD
    have hx9 : parM T n 0 room [5] s ≠ x99 := fun e => HX.out (by have hp := HP.out; rw [e] at hp; exact hp.symm)
    have HCC := hid ((HC.out n (Nat.le_refl _)).l 3 HK0.out HN0.out HRM.out (by omega) (by omega) (r' := 3) rfl (.inr h1) hx9)
    clear hx9
    go_wp2_with fail
    refine HCC.out.mono ?_
    intro e2 W2 q2
    clear c9 lb
    clear HCC
    rcases q2 with ⟨v2, s2, hy, rfl, k1⟩ | ⟨y2, z2, hy, rfl, b1⟩
    · have HY := hid hy
      have HK2 := hid k1
      clear hy k1
      obtain ⟨n1, a1, b1⟩ := HN0.out.p0 HY.out
      have hp := HP.out
      clear HP
      rw [HY.out] at hp
      dsimp only [PBd] at hp
      have HP := hid hp
      clear hp
      obtain ⟨v, HVv⟩ : ∃ x : Nat, Hid (v2.getD 0 0 = x) := ⟨_, rfl⟩
      rw [HVv.out] at b1 HP a1
      have HN2 : Hid (PzN s2 0) := n1
      have HLv := hid b1
      have HGv := hid a1
      clear a1
      clear n1 b1
      rw [HVv.out]
      by_cases hhsg : (curT T s2).k = 30
      · have hsg := hid hhsg
        clear hhsg
        have hp := HP.out
        clear HP
        rw [if_pos hsg.out] at hp
        have HP := hid hp
        clear hp
        obtain ⟨c3, c4, c5, c6, c9, c11, c12, c13⟩ := HK2.out.c
        have lb := HK2.out.lt
        clear c3 c4 c5 c11 c12 c13
        have CI := HK2.out.is (k := 30) (by decide) (by decide) (x := [46, 46]) rfl
        rw [decide_eq_true hsg.out] at CI
        have HCI := hid CI
        clear CI
        go_wp2_with fail
        refine HCI.out.mono ?_
        rintro e3 V3 ⟨rfl, hw⟩
        rw [hw]
        clear hw HCI V3
        have HCC := hid (HK2.out.next (by have := hsg.out; omega))
        go_wp2_with fail
        refine HCC.out.mono ?_
        rintro e4 W4 ⟨rfl, k1⟩
        clear c6 c9 lb
        clear HCC
        have HK4 : Hid (PzK w A T s2.nxt W4) := k1
        clear k1
        have HN4 : Hid (PzN s2.nxt 1) := (HN2.out.nxt)
        obtain ⟨c3, c4, c5, c6, c9, c11, c12, c13⟩ := HK4.out.c
        have lb := HK4.out.lt
        clear c3 c4 c5 c6 c11 c12 c13
        obtain ⟨tp, HTP⟩ : ∃ tp : Nat, Hid ((curT T s2).p = tp) := ⟨_, rfl⟩
        rw [HTP.out]
        have hx9 : parM T n 0 (room - 1) [4] s2.nxt ≠ x99 := fun e => HX.out (by have hp := HP.out; rw [e] at hp; exact hp.symm)
        have HCC := hid ((HC.out n (Nat.le_refl _)).l (lv := lv + 1) 2 HK4.out (HN4.out.le (by omega)) (by have := HRM.out; omega) (by omega) (by omega) (r' := 2) rfl (.inl rfl) hx9)
        clear hx9
        go_wp2_with fail
        refine HCC.out.mono ?_
        intro e5 W5 q5
        clear c9 lb
        clear HCC
        rcases q5 with ⟨v5, s5, hy, rfl, k1⟩ | ⟨y5, z5, hy, rfl, b1⟩
        · have HY := hid hy
          have HK5 := hid k1
          clear hy k1
          obtain ⟨n1, a1, b1⟩ := HN4.out.p0 HY.out
          have hp := HP.out
          clear HP
          rw [HY.out] at hp
          dsimp only [PBd] at hp
          have HP := hid hp
          clear hp
          obtain ⟨u, HVu⟩ : ∃ x : Nat, Hid (v5.getD 0 0 = x) := ⟨_, rfl⟩
          rw [HVu.out] at b1 HP a1
          have HN5 : Hid (PzN s5 1) := n1
          have HLu := hid b1
          have HGu := hid a1
          clear a1
          clear n1 b1
          rw [HVu.out]
          obtain ⟨c3, c4, c5, c6, c9, c11, c12, c13⟩ := HK5.out.c
          have lb := HK5.out.lt
          clear c3 c4 c5 c6 c11 c12 c13
          have hp := HP.out
          clear HP
          rw [op_con hsg.out, HTP.out] at hp
          have HP := hid hp
          clear hp
          have HCC := hid (HK5.out.add ⟨22, v, u, 0, 0, 20, [], tp⟩ (by have := HN5.out.l; have := HK5.out.il; omega))
          have FIN : Hid (∀ e W, (e = .returned (.int .i64 ((s5).nodes.length : Nat)) ∧ PzK w A T ((s5).add ⟨22, v, u, 0, 0, 20, [], tp⟩) W) → Q e W) := fun e W h => by
            rw [← HQ.out]
            exact .inl ⟨_, _, HP.out.symm, h.1, h.2⟩
          go_wp2_with fail
          refine HCC.out.mono ?_
          rintro e6 W6 ⟨rfl, k1⟩
          clear c9 lb
          have FIN2 := hid (FIN.out _ _ ⟨rfl, k1⟩)
          clear FIN k1 HCC
          go_wp2_with fail
          first | exact FIN2.out | (go_ret; exact FIN2.out) | (go_ret2; exact FIN2.out)
        · have HB5 := hid b1
          have HY : Hid (R = .inl y5) := by
            have hp := HP.out
            rw [hy] at hp
            exact hp.symm
          clear hy b1 HP
          obtain ⟨c9, ne1, ne2⟩ := HB5.out.c
          have lb := HB5.out.lt
          have FIN : Hid (Q (.returned (.int .i64 0)) W5) := by
            show Q _ _
            rw [← HQ.out]
            exact .inr ⟨y5, 0, HY.out, rfl, HB5.out⟩
          go_wp2_with fail
          first | exact FIN.out | (go_ret; exact FIN.out) | (go_ret2; exact FIN.out)
      · have hsg := hid hhsg
        clear hhsg
        have hp := HP.out
        clear HP
        rw [if_neg hsg.out] at hp
        have HP := hid hp
        clear hp
        obtain ⟨c3, c4, c5, c6, c9, c11, c12, c13⟩ := HK2.out.c
        have lb := HK2.out.lt
        clear c3 c4 c5 c6 c11 c12 c13
        have CI := HK2.out.is (k := 30) (by decide) (by decide) (x := [46, 46]) rfl
        rw [decide_eq_false hsg.out] at CI
        have HCI := hid CI
        clear CI
        go_wp2_with fail
        refine HCI.out.mono ?_
        rintro e7 V7 ⟨rfl, hw⟩
        rw [hw]
        clear hw HCI V7
        have FIN : Hid (Q (.returned (.int .i64 (v : Nat))) W2) := by
          show Q _ _
          rw [← HQ.out]
          exact .inl ⟨_, _, HP.out.symm, rfl, HK2.out⟩
        go_wp2_with fail
        first | exact FIN.out | (go_ret; exact FIN.out) | (go_ret2; exact FIN.out)
    · have HB2 := hid b1
      have HY : Hid (R = .inl y2) := by
        have hp := HP.out
        rw [hy] at hp
        exact hp.symm
      clear hy b1 HP
      obtain ⟨c9, ne1, ne2⟩ := HB2.out.c
      have lb := HB2.out.lt
      have FIN : Hid (Q (.returned (.int .i64 z2)) W2) := by
        show Q _ _
        rw [← HQ.out]
        exact .inr ⟨y2, z2, HY.out, rfl, HB2.out⟩
      go_wp2_with fail
      first | exact FIN.out | (go_ret; exact FIN.out) | (go_ret2; exact FIN.out)
theorem left1_z (C : ∀ m, m ≤ n → PCz T m) {w W : World} {A : PzP} {s : PSt} {room : Nat} {lv : Int} (h0 : PzK w A T s W) (hn : PzN s 0) (hr : lv + room = 13 ∧ 1 ≤ lv) (h1 : 1 ≤ room) (hx : parM T (n + 1) 0 room [3] s ≠ x99) :
    Calls Tryz.prog 304 #[.pointer (some ⟨A.b, 0, none⟩), .int .i64 lv, .int .i64 1] W (PzR T w A (parM T (n + 1) 0 room [3] s)) := by
  obtain ⟨R, HR⟩ : ∃ R, Hid (parM T (n + 1) 0 room [3] s = R) := ⟨_, rfl⟩
  rw [HR.out] at hx ⊢
  obtain ⟨Q, HQ⟩ : ∃ Q : Ending → World → Prop, Hid (PzR T w A R = Q) := ⟨_, rfl⟩
  rw [HQ.out]
  have HC := hid C
  have HX := hid hx
  have HK0 := hid h0
  have HN0 := hid hn
  have HRM := hid hr
  have lv1 : 1 ≤ lv := hr.2
  have lv2 : lv ≤ 13 := by omega
  have HP : Hid (_ = R) := (pm0_r (r := 3) (by decide) (by decide)).symm.trans HR.out
  clear C hx h0 hn HR hr
  have hx9 : parM T n 0 room [4] s ≠ x99 := fun e => HX.out (by have hp := HP.out; rw [e] at hp; exact hp.symm)
  have HCC := hid ((HC.out n (Nat.le_refl _)).l 2 HK0.out HN0.out HRM.out (by omega) (by omega) (r' := 2) rfl (.inr h1) hx9)
  clear hx9
  go_enter Tryz.func304, Tryz.ntmps304
  go_wp2_with fail
  refine HCC.out.mono ?_
  intro e1 W1 q1
  obtain ⟨z1, rfl, hI⟩ := PzL.start HN0.out HP.out q1
  have HI := hid hI
  clear q1 hI HCC HP
  go_wp2_with fail
  go_loopg [10] n (fun m v5 wr => Hid (PzL w A T n room 3 R m v5 wr))
  case atStart => exact HI
  case round =>
    rcases hrel.out with ⟨x, s1, rfl, k1, n1, x1, hp, hm⟩ | ⟨y1, z, rfl, hy, b1⟩
    · obtain ⟨m', rfl⟩ : ∃ m', gk = m' + 1 := by
        cases gk with
        | zero => exact absurd hp.symm HX.out
        | succ m' => exact ⟨m', rfl⟩
      rw [pm1] at hp
      have HK1 := hid k1
      have HN1 := hid n1
      have HP := hid hp
      have HX1 := hid x1
      have HBO := hid (k1.binOp (r := 1) (by decide) (r' := 1) rfl)
      have k46 := k1.k46.1
      have bo20 := bop_le (r := 1) k46
      clear hrel k1 n1 hp x1
      by_cases hhsg : rkT (curT T s1).k = 3
      · have hsg := hid hhsg
        clear hhsg
        have bo0 := bop_pos (r := 1) hsg.out (by decide) (by decide) k46
        have hp := HP.out
        clear HP
        rw [if_pos hsg.out] at hp
        have HP := hid hp
        clear hp
        have h2k : 2 ≤ (curT T s1).k := by
          have h := hsg.out
          have : ∀ k, k ≤ 46 → rkT k = 3 → 2 ≤ k := by decide
          exact this _ k46 h
        obtain ⟨bo, HBON⟩ : ∃ bo, Hid (bopN (curT T s1).k 1 = bo) := ⟨_, rfl⟩
        rw [HBON.out] at HBO bo0 bo20
        have bz : ((bo : Int) == 0) = false := by rw [beq_eq_false_iff_ne]; omega
        clear bo0
        obtain ⟨c3, c4, c5, c6, c9, c11, c12, c13⟩ := HK1.out.c
        have lb := HK1.out.lt
        clear c3 c4 c5 c11 c12 c13
        go_wp2_with fail
        refine HBO.out.mono ?_
        rintro e6 V6 ⟨rfl, hw⟩
        rw [hw]
        clear hw V6
        have HCC := hid (HK1.out.next (h2k))
        go_wp2_with fail
        refine HCC.out.mono ?_
        rintro e2 W2 ⟨rfl, k1⟩
        clear c6 c9 lb
        clear HCC
        have HK2 : Hid (PzK w A T s1.nxt W2) := k1
        clear k1
        have HN2 : Hid (PzN s1.nxt 1) := (HN1.out.nxt)
        obtain ⟨c3, c4, c5, c6, c9, c11, c12, c13⟩ := HK2.out.c
        have lb := HK2.out.lt
        clear c3 c4 c5 c6 c11 c12 c13
        obtain ⟨tp, HTP⟩ : ∃ tp : Nat, Hid ((curT T s1).p = tp) := ⟨_, rfl⟩
        rw [HTP.out]
        have hx9 : parM T m' 0 room [4] s1.nxt ≠ x99 := fun e => HX.out (by have hp := HP.out; rw [e] at hp; exact hp.symm)
        have HCC := hid ((HC.out m' (by omega)).l 2 HK2.out (HN2.out.le (by omega)) HRM.out (by omega) (by omega) (r' := 2) rfl (.inr h1) hx9)
        clear hx9
        go_wp2_with fail
        refine HCC.out.mono ?_
        intro e3 W3 q3
        clear c9 lb
        clear HCC
        rcases q3 with ⟨v3, s3, hy, rfl, k1⟩ | ⟨y3, z3, hy, rfl, b1⟩
        · have HY := hid hy
          have HK3 := hid k1
          clear hy k1
          obtain ⟨n1, a1, b1⟩ := HN2.out.p0 HY.out
          have hp := HP.out
          clear HP
          rw [HY.out] at hp
          dsimp only [PBd] at hp
          have HP := hid hp
          clear hp
          obtain ⟨v, HVv⟩ : ∃ x : Nat, Hid (v3.getD 0 0 = x) := ⟨_, rfl⟩
          rw [HVv.out] at b1 HP a1
          have HN3 : Hid (PzN s3 1) := n1
          have HLv := hid b1
          have HGv := hid a1
          clear a1
          clear n1 b1
          rw [HVv.out]
          obtain ⟨c3, c4, c5, c6, c9, c11, c12, c13⟩ := HK3.out.c
          have lb := HK3.out.lt
          clear c3 c4 c5 c6 c11 c12 c13
          have hp := HP.out
          clear HP
          rw [op_bin (r := 1) hsg.out (by decide) _ _ k46, HBON.out, HTP.out] at hp
          have HP := hid hp
          clear hp
          have HLN : Hid (x < s3.nodes.length) := by show _ < _; have := HX1.out; have := HGv.out; have := HLv.out; have : s1.nxt.nodes.length = s1.nodes.length := rfl; omega
          have HCC := hid (HK3.out.add ⟨22, x, v, 0, 0, bo, [], tp⟩ (by have := HN3.out.l; have := HK3.out.il; omega))
          have HRR : Hid (∀ W, PzK w A T (s3.add ⟨22, x, v, 0, 0, bo, [], tp⟩) W → PzL w A T n room 3 R m' (.int .i64 (s3.nodes.length : Nat)) W) := fun W h => .inl ⟨_, _, rfl, h, HN3.out.add (by exact HLN.out) (by exact HLv.out) (by show 0 < _; have := HLv.out; omega) rfl, by rw [add_len]; exact Nat.lt_succ_self _, HP.out, by omega⟩
          clear k46 h2k
          go_wp2_with fail
          refine HCC.out.mono ?_
          rintro e4 W4 ⟨rfl, k2⟩
          clear c9 lb
          have HQ2 := hid (HRR.out _ k2)
          clear HCC HRR k2
          go_wp2_with fail
          go_roundg m'
          case measure => omega
          case rel => exact HQ2
        · have HB3 := hid b1
          have HY : Hid (R = .inl y3) := by
            have hp := HP.out
            rw [hy] at hp
            exact hp.symm
          clear hy b1 HP
          obtain ⟨c9, ne1, ne2⟩ := HB3.out.c
          have lb := HB3.out.lt
          have FIN : Hid (Q (.returned (.int .i64 0)) W3) := by
            show Q _ _
            rw [← HQ.out]
            exact .inr ⟨y3, 0, HY.out, rfl, HB3.out⟩
          go_wp2_with fail
          first | exact FIN.out | (go_ret; exact FIN.out) | (go_ret2; exact FIN.out)
      · have hsg := hid hhsg
        clear hhsg
        have HB0 : Hid (bopN (curT T s1).k 1 = 0) := by show _ = _; unfold bopN; rw [if_neg hsg.out]
        rw [HB0.out] at HBO
        clear HB0 k46 bo20
        have hp := HP.out
        clear HP
        rw [if_neg hsg.out] at hp
        have HP := hid hp
        clear hp
        obtain ⟨c3, c4, c5, c6, c9, c11, c12, c13⟩ := HK1.out.c
        have lb := HK1.out.lt
        clear c3 c4 c5 c6 c11 c12 c13
        go_wp2_with fail
        refine HBO.out.mono ?_
        rintro e6 V6 ⟨rfl, hw⟩
        rw [hw]
        clear hw V6
        have FIN : Hid (Q (.returned (.int .i64 (x : Nat))) wr) := by
          show Q _ _
          rw [← HQ.out]
          exact .inl ⟨_, _, HP.out.symm, rfl, HK1.out⟩
        go_wp2_with fail
        first | exact FIN.out | (go_ret; exact FIN.out) | (go_ret2; exact FIN.out)
    · have HB1 := hid b1
      have HY : Hid (R = .inl y1) := hy
      clear hrel hy b1
      obtain ⟨c9, ne1, ne2⟩ := HB1.out.c
      have lb := HB1.out.lt
      have FIN : Hid (Q (.returned (.int .i64 0)) wr) := by
        show Q _ _
        rw [← HQ.out]
        exact .inr ⟨y1, 0, HY.out, rfl, HB1.out⟩
      go_wp2_with fail
      first | exact FIN.out | (go_ret; exact FIN.out) | (go_ret2; exact FIN.out)
theorem left3_z (C : ∀ m, m ≤ n → PCz T m) {w W : World} {A : PzP} {s : PSt} {room : Nat} {lv : Int} (h0 : PzK w A T s W) (hn : PzN s 0) (hr : lv + room = 13 ∧ 1 ≤ lv) (h1 : 1 ≤ room) (hx : parM T (n + 1) 0 room [5] s ≠ x99) :
    Calls Tryz.prog 304 #[.pointer (some ⟨A.b, 0, none⟩), .int .i64 lv, .int .i64 3] W (PzR T w A (parM T (n + 1) 0 room [5] s)) := by
  obtain ⟨R, HR⟩ : ∃ R, Hid (parM T (n + 1) 0 room [5] s = R) := ⟨_, rfl⟩
  rw [HR.out] at hx ⊢
  obtain ⟨Q, HQ⟩ : ∃ Q : Ending → World → Prop, Hid (PzR T w A R = Q) := ⟨_, rfl⟩
  rw [HQ.out]
  have HC := hid C
  have HX := hid hx
  have HK0 := hid h0
  have HN0 := hid hn
  have HRM := hid hr
  have lv1 : 1 ≤ lv := hr.2
  have lv2 : lv ≤ 13 := by omega
  have HP : Hid (_ = R) := (pm0_r (r := 5) (by decide) (by decide)).symm.trans HR.out
  clear C hx h0 hn HR hr
  have hx9 : parM T n 0 room [6] s ≠ x99 := fun e => HX.out (by have hp := HP.out; rw [e] at hp; exact hp.symm)
  have HCC := hid ((HC.out n (Nat.le_refl _)).l 4 HK0.out HN0.out HRM.out (by omega) (by omega) (r' := 4) rfl (.inr h1) hx9)
  clear hx9
  go_enter Tryz.func304, Tryz.ntmps304
  go_wp2_with fail
  refine HCC.out.mono ?_
  intro e1 W1 q1
  obtain ⟨z1, rfl, hI⟩ := PzL.start HN0.out HP.out q1
  have HI := hid hI
  clear q1 hI HCC HP
  go_wp2_with fail
  go_loopg [10] n (fun m v5 wr => Hid (PzL w A T n room 5 R m v5 wr))
  case atStart => exact HI
  case round =>
    rcases hrel.out with ⟨x, s1, rfl, k1, n1, x1, hp, hm⟩ | ⟨y1, z, rfl, hy, b1⟩
    · obtain ⟨m', rfl⟩ : ∃ m', gk = m' + 1 := by
        cases gk with
        | zero => exact absurd hp.symm HX.out
        | succ m' => exact ⟨m', rfl⟩
      rw [pm1] at hp
      have HK1 := hid k1
      have HN1 := hid n1
      have HP := hid hp
      have HX1 := hid x1
      have HBO := hid (k1.binOp (r := 3) (by decide) (r' := 3) rfl)
      have k46 := k1.k46.1
      have bo20 := bop_le (r := 3) k46
      clear hrel k1 n1 hp x1
      by_cases hhsg : rkT (curT T s1).k = 5
      · have hsg := hid hhsg
        clear hhsg
        have bo0 := bop_pos (r := 3) hsg.out (by decide) (by decide) k46
        have hp := HP.out
        clear HP
        rw [if_pos hsg.out] at hp
        have HP := hid hp
        clear hp
        have h2k : 2 ≤ (curT T s1).k := by
          have h := hsg.out
          have : ∀ k, k ≤ 46 → rkT k = 5 → 2 ≤ k := by decide
          exact this _ k46 h
        obtain ⟨bo, HBON⟩ : ∃ bo, Hid (bopN (curT T s1).k 3 = bo) := ⟨_, rfl⟩
        rw [HBON.out] at HBO bo0 bo20
        have bz : ((bo : Int) == 0) = false := by rw [beq_eq_false_iff_ne]; omega
        clear bo0
        obtain ⟨c3, c4, c5, c6, c9, c11, c12, c13⟩ := HK1.out.c
        have lb := HK1.out.lt
        clear c3 c4 c5 c11 c12 c13
        go_wp2_with fail
        refine HBO.out.mono ?_
        rintro e6 V6 ⟨rfl, hw⟩
        rw [hw]
        clear hw V6
        have HCC := hid (HK1.out.next (h2k))
        go_wp2_with fail
        refine HCC.out.mono ?_
        rintro e2 W2 ⟨rfl, k1⟩
        clear c6 c9 lb
        clear HCC
        have HK2 : Hid (PzK w A T s1.nxt W2) := k1
        clear k1
        have HN2 : Hid (PzN s1.nxt 1) := (HN1.out.nxt)
        obtain ⟨c3, c4, c5, c6, c9, c11, c12, c13⟩ := HK2.out.c
        have lb := HK2.out.lt
        clear c3 c4 c5 c6 c11 c12 c13
        obtain ⟨tp, HTP⟩ : ∃ tp : Nat, Hid ((curT T s1).p = tp) := ⟨_, rfl⟩
        rw [HTP.out]
        have hx9 : parM T m' 0 room [6] s1.nxt ≠ x99 := fun e => HX.out (by have hp := HP.out; rw [e] at hp; exact hp.symm)
        have HCC := hid ((HC.out m' (by omega)).l 4 HK2.out (HN2.out.le (by omega)) HRM.out (by omega) (by omega) (r' := 4) rfl (.inr h1) hx9)
        clear hx9
        go_wp2_with fail
        refine HCC.out.mono ?_
        intro e3 W3 q3
        clear c9 lb
        clear HCC
        rcases q3 with ⟨v3, s3, hy, rfl, k1⟩ | ⟨y3, z3, hy, rfl, b1⟩
        · have HY := hid hy
          have HK3 := hid k1
          clear hy k1
          obtain ⟨n1, a1, b1⟩ := HN2.out.p0 HY.out
          have hp := HP.out
          clear HP
          rw [HY.out] at hp
          dsimp only [PBd] at hp
          have HP := hid hp
          clear hp
          obtain ⟨v, HVv⟩ : ∃ x : Nat, Hid (v3.getD 0 0 = x) := ⟨_, rfl⟩
          rw [HVv.out] at b1 HP a1
          have HN3 : Hid (PzN s3 1) := n1
          have HLv := hid b1
          have HGv := hid a1
          clear a1
          clear n1 b1
          rw [HVv.out]
          obtain ⟨c3, c4, c5, c6, c9, c11, c12, c13⟩ := HK3.out.c
          have lb := HK3.out.lt
          clear c3 c4 c5 c6 c11 c12 c13
          have hp := HP.out
          clear HP
          rw [op_bin (r := 3) hsg.out (by decide) _ _ k46, HBON.out, HTP.out] at hp
          have HP := hid hp
          clear hp
          have HLN : Hid (x < s3.nodes.length) := by show _ < _; have := HX1.out; have := HGv.out; have := HLv.out; have : s1.nxt.nodes.length = s1.nodes.length := rfl; omega
          have HCC := hid (HK3.out.add ⟨22, x, v, 0, 0, bo, [], tp⟩ (by have := HN3.out.l; have := HK3.out.il; omega))
          have HRR : Hid (∀ W, PzK w A T (s3.add ⟨22, x, v, 0, 0, bo, [], tp⟩) W → PzL w A T n room 5 R m' (.int .i64 (s3.nodes.length : Nat)) W) := fun W h => .inl ⟨_, _, rfl, h, HN3.out.add (by exact HLN.out) (by exact HLv.out) (by show 0 < _; have := HLv.out; omega) rfl, by rw [add_len]; exact Nat.lt_succ_self _, HP.out, by omega⟩
          clear k46 h2k
          go_wp2_with fail
          refine HCC.out.mono ?_
          rintro e4 W4 ⟨rfl, k2⟩
          clear c9 lb
          have HQ2 := hid (HRR.out _ k2)
          clear HCC HRR k2
          go_wp2_with fail
          go_roundg m'
          case measure => omega
          case rel => exact HQ2
        · have HB3 := hid b1
          have HY : Hid (R = .inl y3) := by
            have hp := HP.out
            rw [hy] at hp
            exact hp.symm
          clear hy b1 HP
          obtain ⟨c9, ne1, ne2⟩ := HB3.out.c
          have lb := HB3.out.lt
          have FIN : Hid (Q (.returned (.int .i64 0)) W3) := by
            show Q _ _
            rw [← HQ.out]
            exact .inr ⟨y3, 0, HY.out, rfl, HB3.out⟩
          go_wp2_with fail
          first | exact FIN.out | (go_ret; exact FIN.out) | (go_ret2; exact FIN.out)
      · have hsg := hid hhsg
        clear hhsg
        have HB0 : Hid (bopN (curT T s1).k 3 = 0) := by show _ = _; unfold bopN; rw [if_neg hsg.out]
        rw [HB0.out] at HBO
        clear HB0 k46 bo20
        have hp := HP.out
        clear HP
        rw [if_neg hsg.out] at hp
        have HP := hid hp
        clear hp
        obtain ⟨c3, c4, c5, c6, c9, c11, c12, c13⟩ := HK1.out.c
        have lb := HK1.out.lt
        clear c3 c4 c5 c6 c11 c12 c13
        go_wp2_with fail
        refine HBO.out.mono ?_
        rintro e6 V6 ⟨rfl, hw⟩
        rw [hw]
        clear hw V6
        have FIN : Hid (Q (.returned (.int .i64 (x : Nat))) wr) := by
          show Q _ _
          rw [← HQ.out]
          exact .inl ⟨_, _, HP.out.symm, rfl, HK1.out⟩
        go_wp2_with fail
        first | exact FIN.out | (go_ret; exact FIN.out) | (go_ret2; exact FIN.out)
    · have HB1 := hid b1
      have HY : Hid (R = .inl y1) := hy
      clear hrel hy b1
      obtain ⟨c9, ne1, ne2⟩ := HB1.out.c
      have lb := HB1.out.lt
      have FIN : Hid (Q (.returned (.int .i64 0)) wr) := by
        show Q _ _
        rw [← HQ.out]
        exact .inr ⟨y1, 0, HY.out, rfl, HB1.out⟩
      go_wp2_with fail
      first | exact FIN.out | (go_ret; exact FIN.out) | (go_ret2; exact FIN.out)
theorem left4_z (C : ∀ m, m ≤ n → PCz T m) {w W : World} {A : PzP} {s : PSt} {room : Nat} {lv : Int} (h0 : PzK w A T s W) (hn : PzN s 0) (hr : lv + room = 13 ∧ 1 ≤ lv) (h1 : 1 ≤ room) (hx : parM T (n + 1) 0 room [6] s ≠ x99) :
    Calls Tryz.prog 304 #[.pointer (some ⟨A.b, 0, none⟩), .int .i64 lv, .int .i64 4] W (PzR T w A (parM T (n + 1) 0 room [6] s)) := by
  obtain ⟨R, HR⟩ : ∃ R, Hid (parM T (n + 1) 0 room [6] s = R) := ⟨_, rfl⟩
  rw [HR.out] at hx ⊢
  obtain ⟨Q, HQ⟩ : ∃ Q : Ending → World → Prop, Hid (PzR T w A R = Q) := ⟨_, rfl⟩
  rw [HQ.out]
  have HC := hid C
  have HX := hid hx
  have HK0 := hid h0
  have HN0 := hid hn
  have HRM := hid hr
  have lv1 : 1 ≤ lv := hr.2
  have lv2 : lv ≤ 13 := by omega
  have HP : Hid (_ = R) := (pm0_r (r := 6) (by decide) (by decide)).symm.trans HR.out
  clear C hx h0 hn HR hr
  have hx9 : parM T n 0 room [7] s ≠ x99 := fun e => HX.out (by have hp := HP.out; rw [e] at hp; exact hp.symm)
  have HCC := hid ((HC.out n (Nat.le_refl _)).l 5 HK0.out HN0.out HRM.out (by omega) (by omega) (r' := 5) rfl (.inr h1) hx9)
  clear hx9
  go_enter Tryz.func304, Tryz.ntmps304
  go_wp2_with fail
  refine HCC.out.mono ?_
  intro e1 W1 q1
  obtain ⟨z1, rfl, hI⟩ := PzL.start HN0.out HP.out q1
  have HI := hid hI
  clear q1 hI HCC HP
  go_wp2_with fail
  go_loopg [10] n (fun m v5 wr => Hid (PzL w A T n room 6 R m v5 wr))
  case atStart => exact HI
  case round =>
    rcases hrel.out with ⟨x, s1, rfl, k1, n1, x1, hp, hm⟩ | ⟨y1, z, rfl, hy, b1⟩
    · obtain ⟨m', rfl⟩ : ∃ m', gk = m' + 1 := by
        cases gk with
        | zero => exact absurd hp.symm HX.out
        | succ m' => exact ⟨m', rfl⟩
      rw [pm1] at hp
      have HK1 := hid k1
      have HN1 := hid n1
      have HP := hid hp
      have HX1 := hid x1
      have HBO := hid (k1.binOp (r := 4) (by decide) (r' := 4) rfl)
      have k46 := k1.k46.1
      have bo20 := bop_le (r := 4) k46
      clear hrel k1 n1 hp x1
      by_cases hhsg : rkT (curT T s1).k = 6
      · have hsg := hid hhsg
        clear hhsg
        have bo0 := bop_pos (r := 4) hsg.out (by decide) (by decide) k46
        have hp := HP.out
        clear HP
        rw [if_pos hsg.out] at hp
        have HP := hid hp
        clear hp
        have h2k : 2 ≤ (curT T s1).k := by
          have h := hsg.out
          have : ∀ k, k ≤ 46 → rkT k = 6 → 2 ≤ k := by decide
          exact this _ k46 h
        obtain ⟨bo, HBON⟩ : ∃ bo, Hid (bopN (curT T s1).k 4 = bo) := ⟨_, rfl⟩
        rw [HBON.out] at HBO bo0 bo20
        have bz : ((bo : Int) == 0) = false := by rw [beq_eq_false_iff_ne]; omega
        clear bo0
        obtain ⟨c3, c4, c5, c6, c9, c11, c12, c13⟩ := HK1.out.c
        have lb := HK1.out.lt
        clear c3 c4 c5 c11 c12 c13
        go_wp2_with fail
        refine HBO.out.mono ?_
        rintro e6 V6 ⟨rfl, hw⟩
        rw [hw]
        clear hw V6
        have HCC := hid (HK1.out.next (h2k))
        go_wp2_with fail
        refine HCC.out.mono ?_
        rintro e2 W2 ⟨rfl, k1⟩
        clear c6 c9 lb
        clear HCC
        have HK2 : Hid (PzK w A T s1.nxt W2) := k1
        clear k1
        have HN2 : Hid (PzN s1.nxt 1) := (HN1.out.nxt)
        obtain ⟨c3, c4, c5, c6, c9, c11, c12, c13⟩ := HK2.out.c
        have lb := HK2.out.lt
        clear c3 c4 c5 c6 c11 c12 c13
        obtain ⟨tp, HTP⟩ : ∃ tp : Nat, Hid ((curT T s1).p = tp) := ⟨_, rfl⟩
        rw [HTP.out]
        have hx9 : parM T m' 0 room [7] s1.nxt ≠ x99 := fun e => HX.out (by have hp := HP.out; rw [e] at hp; exact hp.symm)
        have HCC := hid ((HC.out m' (by omega)).l 5 HK2.out (HN2.out.le (by omega)) HRM.out (by omega) (by omega) (r' := 5) rfl (.inr h1) hx9)
        clear hx9
        go_wp2_with fail
        refine HCC.out.mono ?_
        intro e3 W3 q3
        clear c9 lb
        clear HCC
        rcases q3 with ⟨v3, s3, hy, rfl, k1⟩ | ⟨y3, z3, hy, rfl, b1⟩
        · have HY := hid hy
          have HK3 := hid k1
          clear hy k1
          obtain ⟨n1, a1, b1⟩ := HN2.out.p0 HY.out
          have hp := HP.out
          clear HP
          rw [HY.out] at hp
          dsimp only [PBd] at hp
          have HP := hid hp
          clear hp
          obtain ⟨v, HVv⟩ : ∃ x : Nat, Hid (v3.getD 0 0 = x) := ⟨_, rfl⟩
          rw [HVv.out] at b1 HP a1
          have HN3 : Hid (PzN s3 1) := n1
          have HLv := hid b1
          have HGv := hid a1
          clear a1
          clear n1 b1
          rw [HVv.out]
          obtain ⟨c3, c4, c5, c6, c9, c11, c12, c13⟩ := HK3.out.c
          have lb := HK3.out.lt
          clear c3 c4 c5 c6 c11 c12 c13
          have hp := HP.out
          clear HP
          rw [op_bin (r := 4) hsg.out (by decide) _ _ k46, HBON.out, HTP.out] at hp
          have HP := hid hp
          clear hp
          have HLN : Hid (x < s3.nodes.length) := by show _ < _; have := HX1.out; have := HGv.out; have := HLv.out; have : s1.nxt.nodes.length = s1.nodes.length := rfl; omega
          have HCC := hid (HK3.out.add ⟨22, x, v, 0, 0, bo, [], tp⟩ (by have := HN3.out.l; have := HK3.out.il; omega))
          have HRR : Hid (∀ W, PzK w A T (s3.add ⟨22, x, v, 0, 0, bo, [], tp⟩) W → PzL w A T n room 6 R m' (.int .i64 (s3.nodes.length : Nat)) W) := fun W h => .inl ⟨_, _, rfl, h, HN3.out.add (by exact HLN.out) (by exact HLv.out) (by show 0 < _; have := HLv.out; omega) rfl, by rw [add_len]; exact Nat.lt_succ_self _, HP.out, by omega⟩
          clear k46 h2k
          go_wp2_with fail
          refine HCC.out.mono ?_
          rintro e4 W4 ⟨rfl, k2⟩
          clear c9 lb
          have HQ2 := hid (HRR.out _ k2)
          clear HCC HRR k2
          go_wp2_with fail
          go_roundg m'
          case measure => omega
          case rel => exact HQ2
        · have HB3 := hid b1
          have HY : Hid (R = .inl y3) := by
            have hp := HP.out
            rw [hy] at hp
            exact hp.symm
          clear hy b1 HP
          obtain ⟨c9, ne1, ne2⟩ := HB3.out.c
          have lb := HB3.out.lt
          have FIN : Hid (Q (.returned (.int .i64 0)) W3) := by
            show Q _ _
            rw [← HQ.out]
            exact .inr ⟨y3, 0, HY.out, rfl, HB3.out⟩
          go_wp2_with fail
          first | exact FIN.out | (go_ret; exact FIN.out) | (go_ret2; exact FIN.out)
      · have hsg := hid hhsg
        clear hhsg
        have HB0 : Hid (bopN (curT T s1).k 4 = 0) := by show _ = _; unfold bopN; rw [if_neg hsg.out]
        rw [HB0.out] at HBO
        clear HB0 k46 bo20
        have hp := HP.out
        clear HP
        rw [if_neg hsg.out] at hp
        have HP := hid hp
        clear hp
        obtain ⟨c3, c4, c5, c6, c9, c11, c12, c13⟩ := HK1.out.c
        have lb := HK1.out.lt
        clear c3 c4 c5 c6 c11 c12 c13
        go_wp2_with fail
        refine HBO.out.mono ?_
        rintro e6 V6 ⟨rfl, hw⟩
        rw [hw]
        clear hw V6
        have FIN : Hid (Q (.returned (.int .i64 (x : Nat))) wr) := by
          show Q _ _
          rw [← HQ.out]
          exact .inl ⟨_, _, HP.out.symm, rfl, HK1.out⟩
        go_wp2_with fail
        first | exact FIN.out | (go_ret; exact FIN.out) | (go_ret2; exact FIN.out)
    · have HB1 := hid b1
      have HY : Hid (R = .inl y1) := hy
      clear hrel hy b1
      obtain ⟨c9, ne1, ne2⟩ := HB1.out.c
      have lb := HB1.out.lt
      have FIN : Hid (Q (.returned (.int .i64 0)) wr) := by
        show Q _ _
        rw [← HQ.out]
        exact .inr ⟨y1, 0, HY.out, rfl, HB1.out⟩
      go_wp2_with fail
      first | exact FIN.out | (go_ret; exact FIN.out) | (go_ret2; exact FIN.out)
end
end Go.Proofs.Qxb6500574aGreatDoor
