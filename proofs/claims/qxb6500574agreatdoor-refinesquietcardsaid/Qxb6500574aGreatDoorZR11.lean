/-
  THE WALKS of syntaxm: forStmt.
-/
import Derived.Test.Qxb6500574aGreatDoorZR10
namespace Go.Proofs.Qxb6500574aGreatDoor
open Go Go.RowKit
set_option linter.unusedVariables false
set_option linter.unusedSimpArgs false
section
variable {T : List Tok} {n : Nat}
set_option maxRecDepth 100000
set_option maxHeartbeats 1000000
theorem for_z (C : ∀ m, m ≤ n → PCz T m) {w W : World} {A : PzP} {s : PSt} {room : Nat} {lv : Int} (h0 : PzK w A T s W) (hn : PzN s 0) (hr : lv + room = 13 ∧ 1 ≤ lv) (h1 : 1 ≤ room) (h11 : (curT T s).k = 11) (hx : parM T (n + 1) 14 room [] s.nxt ≠ x99) :
    Calls Tryz.prog 248 #[.pointer (some ⟨A.b, 0, none⟩), .int .i64 lv] W (PzR T w A (parM T (n + 1) 14 room [] s.nxt)) := by
  obtain ⟨R, HR⟩ : ∃ R, Hid (parM T (n + 1) 14 room [] s.nxt = R) := ⟨_, rfl⟩
  rw [HR.out] at hx ⊢
  obtain ⟨Q, HQ⟩ : ∃ Q : Ending → World → Prop, Hid (PzR T w A R = Q) := ⟨_, rfl⟩
  rw [HQ.out]
  have HC := hid C
  have HX := hid hx
  have HK0 := hid h0
  have HN0 := hid hn
  have HRM := hid hr
  have lv1 : 1 ≤ lv := hr.2
  have lv2 : lv ≤ 13 := by omega
  have HP : Hid (_ = R) := pm14.symm.trans HR.out
  clear C hx h0 hn HR hr
  obtain ⟨c3, c4, c5, c6, c9, c11, c12, c13⟩ := HK0.out.c
  have lb := HK0.out.lt
  clear c3 c4 c5 c6 c11 c12 c13
  go_enter Tryz.func248, Tryz.ntmps248
  have HCC := hid (HK0.out.next (by omega))
  go_wp2_with fail
  refine HCC.out.mono ?_
  rintro e1 W1 ⟨rfl, k1⟩
  clear c9 lb
  clear HCC
  have HK1 : Hid (PzK w A T s.nxt W1) := k1
  clear k1
  have HN1 : Hid (PzN s.nxt 1) := (HN0.out.nxt)
  by_cases hhnx1 : (curT T s.nxt).k = 2
  · have hnx1 := hid hhnx1
    clear hhnx1
    by_cases hhqx1 : 0 < 4 ∧ 12 < (s.nxt).alive + 4
    · have hqx1 := hid hhqx1
      clear hhqx1
      have hp := HP.out
      clear HP
      unfold nameP at hp
      rw [if_neg (fun z => z hnx1.out), if_pos hqx1.out] at hp
      have HP := hid hp
      clear hp
      obtain ⟨y2, hy2⟩ : ∃ y, failP T s.nxt 18 = .inl y := ⟨_, rfl⟩
      have HFY := hid hy2
      have HY : Hid (R = .inl y2) := by
        have hp := HP.out
        rw [hy2] at hp
        exact hp.symm
      clear hy2 HP
      have HCC := hid (HK1.out.nameL hnx1.out 4 hqx1.out.1 hqx1.out.2 (by have := HN1.out.al; have := HK1.out.il; omega) (e' := 4) rfl HFY.out)
      go_wp2_with fail
      refine HCC.out.mono ?_
      rintro e2 W2 ⟨rfl, b1⟩
      have HB2 := hid b1
      clear b1 HCC
      obtain ⟨c9, ne1, ne2⟩ := HB2.out.c
      have lb := HB2.out.lt
      have FIN : Hid (Q (.returned (.int .i64 0)) W2) := by
        show Q _ _
        rw [← HQ.out]
        exact .inr ⟨y2, 0, HY.out, rfl, HB2.out⟩
      go_wp2_with fail
      first | exact FIN.out | (go_ret; exact FIN.out) | (go_ret2; exact FIN.out)
    · have hqx1 := hid hhqx1
      clear hhqx1
      have hp := HP.out
      clear HP
      unfold nameP at hp
      rw [if_neg (fun z => z hnx1.out), if_neg hqx1.out] at hp
      try dsimp only at hp
      have HP := hid hp
      clear hp
      obtain ⟨p1, HTPp1⟩ : ∃ tp : Nat, Hid ((curT T s.nxt).p = tp) := ⟨_, rfl⟩
      obtain ⟨x1, HTSx1⟩ : ∃ ts, Hid ((curT T s.nxt).s = ts) := ⟨_, rfl⟩
      have CC := HK1.out.name hnx1.out 4 hqx1.out (by have := HN1.out.al; have := HK1.out.il; omega) (e' := 4) rfl
      rw [HTPp1.out, HTSx1.out] at CC
      have HCC := hid CC
      clear CC
      have hp := HP.out
      clear HP
      rw [HTPp1.out, HTSx1.out] at hp
      have HP := hid hp
      clear hp
      go_wp2_with fail
      refine HCC.out.mono ?_
      rintro e3 W3 ⟨rfl, k2⟩
      clear HCC
      have HK3 : Hid (PzK w A T s.nxt.nxt W3) := k2
      clear k2
      have HN3 : Hid (PzN s.nxt.nxt 2) := HN1.out.nxt
      obtain ⟨c3, c4, c5, c6, c9, c11, c12, c13⟩ := HK3.out.c
      have lb := HK3.out.lt
      clear c3 c4 c5 c6 c11 c12 c13
      by_cases hhcm : (curT T s.nxt.nxt).k = 45
      · have hcm := hid hhcm
        clear hhcm
        have hp := HP.out
        clear HP
        rw [if_pos hcm.out] at hp
        have HP := hid hp
        clear hp
        clear c9 lb
        obtain ⟨c3, c4, c5, c6, c9, c11, c12, c13⟩ := HK3.out.c
        have lb := HK3.out.lt
        clear c3 c4 c5 c6 c11 c12 c13
        have CI := HK3.out.is (k := 45) (by decide) (by decide) (x := [44]) rfl
        rw [decide_eq_true hcm.out] at CI
        have HCI := hid CI
        clear CI
        go_wp2_with fail
        refine HCI.out.mono ?_
        rintro e4 V4 ⟨rfl, hw⟩
        rw [hw]
        clear hw HCI V4
        have HCC := hid (HK3.out.next (by have := hcm.out; omega))
        go_wp2_with fail
        refine HCC.out.mono ?_
        rintro e5 W5 ⟨rfl, k1⟩
        clear c9 lb
        clear HCC
        have HK5 : Hid (PzK w A T s.nxt.nxt.nxt W5) := k1
        clear k1
        have HN5 : Hid (PzN s.nxt.nxt.nxt 3) := (HN3.out.nxt)
        obtain ⟨c3, c4, c5, c6, c9, c11, c12, c13⟩ := HK5.out.c
        have lb := HK5.out.lt
        clear c3 c4 c5 c6 c11 c12 c13
        by_cases hhnx2 : (curT T s.nxt.nxt.nxt).k = 2
        · have hnx2 := hid hhnx2
          clear hhnx2
          have hp := HP.out
          clear HP
          unfold nameP at hp
          rw [if_neg (fun z => z hnx2.out), if_neg (fun z => absurd z.1 (Nat.lt_irrefl 0))] at hp
          try dsimp only at hp
          have HP := hid hp
          clear hp
          obtain ⟨p2, HTPp2⟩ : ∃ tp : Nat, Hid ((curT T s.nxt.nxt.nxt).p = tp) := ⟨_, rfl⟩
          obtain ⟨x2, HTSx2⟩ : ∃ ts, Hid ((curT T s.nxt.nxt.nxt).s = ts) := ⟨_, rfl⟩
          have CC := HK5.out.name hnx2.out 0 (fun z => absurd z.1 (Nat.lt_irrefl 0)) (by have := HN5.out.al; have := HK5.out.il; omega) (e' := 0) rfl
          rw [HTPp2.out, HTSx2.out] at CC
          have HCC := hid CC
          clear CC
          have hp := HP.out
          clear HP
          rw [HTPp2.out, HTSx2.out] at hp
          have HP := hid hp
          clear hp
          go_wp2_with fail
          refine HCC.out.mono ?_
          rintro e6 W6 ⟨rfl, k2⟩
          clear c9 lb
          clear HCC
          have HK6 : Hid (PzK w A T s.nxt.nxt.nxt.nxt W6) := k2
          clear k2
          have HN6 : Hid (PzN s.nxt.nxt.nxt.nxt 4) := HN5.out.nxt
          obtain ⟨c3, c4, c5, c6, c9, c11, c12, c13⟩ := HK6.out.c
          have lb := HK6.out.lt
          clear c3 c4 c5 c6 c11 c12 c13
          by_cases hw7 : (curT T s.nxt.nxt.nxt.nxt).k = 14
          · have w7 := hid hw7
            clear hw7
            have hp := HP.out
            clear HP
            unfold expectP at hp
            rw [if_pos w7.out] at hp
            have HP := hid hp
            clear hp
            have HCC := hid (HK6.out.want (k := 14) (by decide) (by decide) (x := [105, 110]) rfl w7.out)
            go_wp2_with fail
            refine HCC.out.mono ?_
            rintro e8 W8 ⟨rfl, k1⟩
            clear c9 lb
            clear HCC
            have HK8 : Hid (PzK w A T s.nxt.nxt.nxt.nxt.nxt W8) := k1
            clear k1
            have HN8 : Hid (PzN s.nxt.nxt.nxt.nxt.nxt 5) := HN6.out.nxt
            obtain ⟨c3, c4, c5, c6, c9, c11, c12, c13⟩ := HK8.out.c
            have lb := HK8.out.lt
            clear c3 c4 c5 c6 c11 c12 c13
            obtain ⟨L, HL⟩ : ∃ L : Nat, Hid ((s.nxt.nxt.nxt.nxt.nxt).nodes.length = L) := ⟨_, rfl⟩
            have HL0 : Hid (1 ≤ L) := by show _ ≤ _; rw [← HL.out]; exact HN8.out.k.n1
            clear c9 lb
            obtain ⟨c3, c4, c5, c6, c9, c11, c12, c13⟩ := HK8.out.c
            have lb := HK8.out.lt
            clear c3 c4 c5 c6 c11 c12 c13
            have HCC := hid (HK8.out.add ⟨17, 0, 0, 0, 0, 0, x1, p1⟩ (by have := HN8.out.l; have := HK8.out.il; omega))
            go_wp2_with fail
            refine HCC.out.mono ?_
            rintro e9 W9 ⟨rfl, k2⟩
            clear c9 lb
            clear HCC
            have HK9 : Hid (PzK w A T ((s.nxt.nxt.nxt.nxt.nxt).add ⟨17, 0, 0, 0, 0, 0, x1, p1⟩) W9) := k2
            clear k2
            have HN9 : Hid (PzN ((s.nxt.nxt.nxt.nxt.nxt).add ⟨17, 0, 0, 0, 0, 0, x1, p1⟩) 4) := HN8.out.add (by show 0 < _; exact HN8.out.k.n1) (by show 0 < _; exact HN8.out.k.n1) (by show 0 < _; exact HN8.out.k.n1) rfl
            obtain ⟨c3, c4, c5, c6, c9, c11, c12, c13⟩ := HK9.out.c
            have lb := HK9.out.lt
            clear c3 c4 c5 c6 c11 c12 c13
            rw [HL.out]
            have HCC := hid (HK9.out.add ⟨17, 0, 0, 0, 0, 0, x2, p2⟩ (by have := HN9.out.l; have := HK9.out.il; omega))
            go_wp2_with fail
            refine HCC.out.mono ?_
            rintro e10 W10 ⟨rfl, k2⟩
            clear c9 lb
            clear HCC
            have HK10 : Hid (PzK w A T ((((s.nxt.nxt.nxt.nxt.nxt).add ⟨17, 0, 0, 0, 0, 0, x1, p1⟩)).add ⟨17, 0, 0, 0, 0, 0, x2, p2⟩) W10) := k2
            clear k2
            have HN10 : Hid (PzN ((((s.nxt.nxt.nxt.nxt.nxt).add ⟨17, 0, 0, 0, 0, 0, x1, p1⟩)).add ⟨17, 0, 0, 0, 0, 0, x2, p2⟩) 3) := HN9.out.add (by show 0 < _; exact HN9.out.k.n1) (by show 0 < _; exact HN9.out.k.n1) (by show 0 < _; exact HN9.out.k.n1) rfl
            obtain ⟨c3, c4, c5, c6, c9, c11, c12, c13⟩ := HK10.out.c
            have lb := HK10.out.lt
            clear c3 c4 c5 c6 c11 c12 c13
            have eL1 : ((s.nxt.nxt.nxt.nxt.nxt).add ⟨17, 0, 0, 0, 0, 0, x1, p1⟩).nodes.length = L + 1 := by rw [add_len, HL.out]
            rw [eL1]
            clear eL1
            have eL2 : ((((s.nxt.nxt.nxt.nxt.nxt).add ⟨17, 0, 0, 0, 0, 0, x1, p1⟩)).add ⟨17, 0, 0, 0, 0, 0, x2, p2⟩).nodes.length = L + 2 := by rw [add_len, add_len, HL.out]
            obtain ⟨gg, cc, ND, hlk⟩ := HK10.out.node (l := L) (by rw [eL2]; omega)
            obtain ⟨c8, lcc, _, lg, ln, _, d4, _, f4, gb⟩ := ND
            rw [eL2] at c8 lcc ln
            clear eL2
            have hlk2 := hlk (L + 1) (by have := HL0.out; omega)
            have e3 : ((((s.nxt.nxt.nxt.nxt.nxt).add ⟨17, 0, 0, 0, 0, 0, x1, p1⟩)).add ⟨17, 0, 0, 0, 0, 0, x2, p2⟩).link L (L + 1) = (((s.nxt.nxt.nxt.nxt.nxt).add ⟨17, 0, 0, 0, L + 1, 0, x1, p1⟩).add ⟨17, 0, 0, 0, 0, 0, x2, p2⟩) := by
              have := two_namesZ (s := s.nxt.nxt.nxt.nxt.nxt) (by rw [HL.out]; have := HL0.out; omega) x1 x2 p1 p2
              rw [HL.out] at this
              exact this
            rw [e3] at hlk2
            clear e3 hlk
            have HK50 := hid hlk2
            clear hlk2
            have HN50 : Hid (PzN (((s.nxt.nxt.nxt.nxt.nxt).add ⟨17, 0, 0, 0, L + 1, 0, x1, p1⟩).add ⟨17, 0, 0, 0, 0, 0, x2, p2⟩) 3) := by
              have := HN8.out.add2 (d := 3) (x1 := x1) (x2 := x2) (p1 := p1) (p2 := p2)
              rw [HL.out] at this
              exact this
            have hp := HP.out
            clear HP
            rw [HL.out] at hp
            have HP := hid hp
            clear hp
            have hx9 : parM T n 0 (room - 1) [1] (((s.nxt.nxt.nxt.nxt.nxt).add ⟨17, 0, 0, 0, L + 1, 0, x1, p1⟩).add ⟨17, 0, 0, 0, 0, 0, x2, p2⟩) ≠ x99 := fun e => HX.out (by have hp := HP.out; rw [e] at hp; exact hp.symm)
            have HCC := hid ((HC.out n (Nat.le_refl _)).e (lv := lv + 1) HK50.out (HN50.out.le (by omega)) (by have := HRM.out; omega) hx9)
            clear hx9
            go_wp2_with fail
            refine HCC.out.mono ?_
            intro e51 W51 q51
            clear c9 lb c8 lcc lg ln d4 f4 gb
            clear HCC
            rcases q51 with ⟨v51, s51, hy, rfl, k1⟩ | ⟨y51, z51, hy, rfl, b1⟩
            · have HY := hid hy
              have HK51 := hid k1
              clear hy k1
              obtain ⟨n1, a1, b1⟩ := HN50.out.p0 HY.out
              have hp := HP.out
              clear HP
              rw [HY.out] at hp
              dsimp only [PBd] at hp
              have HP := hid hp
              clear hp
              obtain ⟨ev, HVev⟩ : ∃ x : Nat, Hid (v51.getD 0 0 = x) := ⟨_, rfl⟩
              rw [HVev.out] at b1 a1
              try rw [HVev.out] at HP
              have HN51 : Hid (PzN s51 3) := n1
              have HLev := hid b1
              have HGev := hid a1
              clear a1
              clear n1 b1
              rw [HVev.out]
              obtain ⟨c3, c4, c5, c6, c9, c11, c12, c13⟩ := HK51.out.c
              have lb := HK51.out.lt
              clear c3 c4 c5 c6 c11 c12 c13
              have hx9 : parM T n 15 room [4] s51 ≠ x99 := fun e => HX.out (by have hp := HP.out; rw [e] at hp; exact hp.symm)
              have HCC := hid ((HC.out n (Nat.le_refl _)).bo (x := 4) (x' := 4) HK51.out (HN51.out.le (by omega)) HRM.out h1 (by decide) rfl hx9)
              clear hx9
              go_wp2_with fail
              refine HCC.out.mono ?_
              intro e52 W52 q52
              clear c9 lb
              clear HCC
              rcases q52 with ⟨v52, s52, hy, rfl, k1⟩ | ⟨y52, z52, hy, rfl, b1⟩
              · have HY := hid hy
                have HK52 := hid k1
                clear hy k1
                obtain ⟨n1, b1, l1⟩ := HN51.out.p15 (by decide) HY.out
                have hp := HP.out
                clear HP
                rw [HY.out] at hp
                dsimp only [PBd] at hp
                have HP := hid hp
                clear hp
                obtain ⟨b, HVb⟩ : ∃ x : Nat, Hid (v52.getD 0 0 = x) := ⟨_, rfl⟩
                rw [HVb.out] at b1
                try rw [HVb.out] at HP
                have HN52 : Hid (PzN s52 3) := n1
                have HLb := hid b1
                have HMb := hid l1
                clear l1
                clear n1 b1
                rw [HVb.out]
                obtain ⟨c3, c4, c5, c6, c9, c11, c12, c13⟩ := HK52.out.c
                have lb := HK52.out.lt
                clear c3 c4 c5 c6 c11 c12 c13
                have HCC := hid (HK52.out.add ⟨9, L, ev, b, 0, 0, [], p1⟩ (by have := HN52.out.l; have := HK52.out.il; omega))
                have FIN : Hid (∀ eX WX, (eX = .returned (.int .i64 ((s52).nodes.length : Nat)) ∧ PzK w A T ((s52).add ⟨9, L, ev, b, 0, 0, [], p1⟩) WX) → Q eX WX) := fun eX WX h => by
                  rw [← HQ.out]
                  exact .inl ⟨_, _, HP.out.symm, h.1, h.2⟩
                go_wp2_with fail
                refine HCC.out.mono ?_
                rintro e53 W53 ⟨rfl, k1⟩
                clear c9 lb
                have FIN2 := hid (FIN.out _ _ ⟨rfl, k1⟩)
                clear FIN k1 HCC
                go_wp2_with fail
                first | exact FIN2.out | (go_ret; exact FIN2.out) | (go_ret2; exact FIN2.out)
              · have HB52 := hid b1
                have HY : Hid (R = .inl y52) := by
                  have hp := HP.out
                  rw [hy] at hp
                  exact hp.symm
                clear hy b1 HP
                obtain ⟨c9, ne1, ne2⟩ := HB52.out.c
                have lb := HB52.out.lt
                have FIN : Hid (Q (.returned (.int .i64 0)) W52) := by
                  show Q _ _
                  rw [← HQ.out]
                  exact .inr ⟨y52, 0, HY.out, rfl, HB52.out⟩
                go_wp2_with fail
                first | exact FIN.out | (go_ret; exact FIN.out) | (go_ret2; exact FIN.out)
            · have HB51 := hid b1
              have HY : Hid (R = .inl y51) := by
                have hp := HP.out
                rw [hy] at hp
                exact hp.symm
              clear hy b1 HP
              obtain ⟨c9, ne1, ne2⟩ := HB51.out.c
              have lb := HB51.out.lt
              have FIN : Hid (Q (.returned (.int .i64 0)) W51) := by
                show Q _ _
                rw [← HQ.out]
                exact .inr ⟨y51, 0, HY.out, rfl, HB51.out⟩
              go_wp2_with fail
              first | exact FIN.out | (go_ret; exact FIN.out) | (go_ret2; exact FIN.out)
          · have w7 := hid hw7
            clear hw7
            have hp := HP.out
            clear HP
            unfold expectP at hp
            rw [if_neg w7.out] at hp
            have HP := hid hp
            clear hp
            obtain ⟨y54, hy54⟩ : ∃ y, failP T s.nxt.nxt.nxt.nxt 15 = .inl y := ⟨_, rfl⟩
            have HFY := hid hy54
            have HY : Hid (R = .inl y54) := by
              have hp := HP.out
              rw [hy54] at hp
              exact hp.symm
            clear hy54 HP
            have HCC := hid (HK6.out.wantN (k := 14) (by decide) (by decide) (x := [105, 110]) rfl w7.out HFY.out)
            go_wp2_with fail
            refine HCC.out.mono ?_
            rintro e54 W54 ⟨rfl, b1⟩
            clear c9 lb
            have HB54 := hid b1
            clear b1 HCC
            obtain ⟨c9, ne1, ne2⟩ := HB54.out.c
            have lb := HB54.out.lt
            have FIN : Hid (Q (.returned (.int .i64 0)) W54) := by
              show Q _ _
              rw [← HQ.out]
              exact .inr ⟨y54, 0, HY.out, rfl, HB54.out⟩
            go_wp2_with fail
            first | exact FIN.out | (go_ret; exact FIN.out) | (go_ret2; exact FIN.out)
        · have hnx2 := hid hhnx2
          clear hhnx2
          have hp := HP.out
          clear HP
          unfold nameP at hp
          rw [if_pos hnx2.out] at hp
          have HP := hid hp
          clear hp
          obtain ⟨y55, hy55⟩ : ∃ y, failP T s.nxt.nxt.nxt 15 = .inl y := ⟨_, rfl⟩
          have HFY := hid hy55
          have HY : Hid (R = .inl y55) := by
            have hp := HP.out
            rw [hy55] at hp
            exact hp.symm
          clear hy55 HP
          have HCC := hid (HK5.out.nameN hnx2.out 0 HFY.out)
          go_wp2_with fail
          refine HCC.out.mono ?_
          rintro e55 W55 ⟨rfl, b1⟩
          clear c9 lb
          have HB55 := hid b1
          clear b1 HCC
          obtain ⟨c9, ne1, ne2⟩ := HB55.out.c
          have lb := HB55.out.lt
          have HCC := hid (HB55.out.want [105, 110])
          go_wp2_with fail
          refine HCC.out.mono ?_
          rintro e56 W56 ⟨rfl, b1⟩
          clear c9 ne1 ne2 lb
          have HB56 := hid b1
          clear b1 HCC
          obtain ⟨c9, ne1, ne2⟩ := HB56.out.c
          have lb := HB56.out.lt
          have FIN : Hid (Q (.returned (.int .i64 0)) W56) := by
            show Q _ _
            rw [← HQ.out]
            exact .inr ⟨y55, 0, HY.out, rfl, HB56.out⟩
          go_wp2_with fail
          first | exact FIN.out | (go_ret; exact FIN.out) | (go_ret2; exact FIN.out)
      · have hcm := hid hhcm
        clear hhcm
        have hp := HP.out
        clear HP
        rw [if_neg hcm.out] at hp
        have HP := hid hp
        clear hp
        clear c9 lb
        obtain ⟨c3, c4, c5, c6, c9, c11, c12, c13⟩ := HK3.out.c
        have lb := HK3.out.lt
        clear c3 c4 c5 c6 c11 c12 c13
        have CI := HK3.out.is (k := 45) (by decide) (by decide) (x := [44]) rfl
        rw [decide_eq_false hcm.out] at CI
        have HCI := hid CI
        clear CI
        go_wp2_with fail
        refine HCI.out.mono ?_
        rintro e57 V57 ⟨rfl, hw⟩
        rw [hw]
        clear hw HCI V57
        by_cases hw58 : (curT T s.nxt.nxt).k = 38
        · have w58 := hid hw58
          clear hw58
          have hp := HP.out
          clear HP
          unfold expectP at hp
          rw [if_pos w58.out] at hp
          have HP := hid hp
          clear hp
          have HCC := hid (HK3.out.want (k := 38) (by decide) (by decide) (x := [61]) rfl w58.out)
          go_wp2_with fail
          refine HCC.out.mono ?_
          rintro e59 W59 ⟨rfl, k1⟩
          clear c9 lb
          clear HCC
          have HK59 : Hid (PzK w A T s.nxt.nxt.nxt W59) := k1
          clear k1
          have HN59 : Hid (PzN s.nxt.nxt.nxt 3) := HN3.out.nxt
          obtain ⟨c3, c4, c5, c6, c9, c11, c12, c13⟩ := HK59.out.c
          have lb := HK59.out.lt
          clear c3 c4 c5 c6 c11 c12 c13
          have hx9 : parM T n 0 (room - 1) [1] s.nxt.nxt.nxt ≠ x99 := fun e => HX.out (by have hp := HP.out; rw [e] at hp; exact hp.symm)
          have HCC := hid ((HC.out n (Nat.le_refl _)).e (lv := lv + 1) HK59.out (HN59.out.le (by omega)) (by have := HRM.out; omega) hx9)
          clear hx9
          go_wp2_with fail
          refine HCC.out.mono ?_
          intro e60 W60 q60
          clear c9 lb
          clear HCC
          rcases q60 with ⟨v60, s60, hy, rfl, k1⟩ | ⟨y60, z60, hy, rfl, b1⟩
          · have HY := hid hy
            have HK60 := hid k1
            clear hy k1
            obtain ⟨n1, a1, b1⟩ := HN59.out.p0 HY.out
            have hp := HP.out
            clear HP
            rw [HY.out] at hp
            dsimp only [PBd] at hp
            have HP := hid hp
            clear hp
            obtain ⟨e1, HVe1⟩ : ∃ x : Nat, Hid (v60.getD 0 0 = x) := ⟨_, rfl⟩
            rw [HVe1.out] at b1 a1
            try rw [HVe1.out] at HP
            have HN60 : Hid (PzN s60 3) := n1
            have HLe1 := hid b1
            have HGe1 := hid a1
            clear a1
            clear n1 b1
            rw [HVe1.out]
            obtain ⟨c3, c4, c5, c6, c9, c11, c12, c13⟩ := HK60.out.c
            have lb := HK60.out.lt
            clear c3 c4 c5 c6 c11 c12 c13
            by_cases hw61 : (curT T s60).k = 45
            · have w61 := hid hw61
              clear hw61
              have hp := HP.out
              clear HP
              unfold expectP at hp
              rw [if_pos w61.out] at hp
              have HP := hid hp
              clear hp
              have HCC := hid (HK60.out.want (k := 45) (by decide) (by decide) (x := [44]) rfl w61.out)
              go_wp2_with fail
              refine HCC.out.mono ?_
              rintro e62 W62 ⟨rfl, k1⟩
              clear c9 lb
              clear HCC
              have HK62 : Hid (PzK w A T s60.nxt W62) := k1
              clear k1
              have HN62 : Hid (PzN s60.nxt 4) := HN60.out.nxt
              obtain ⟨c3, c4, c5, c6, c9, c11, c12, c13⟩ := HK62.out.c
              have lb := HK62.out.lt
              clear c3 c4 c5 c6 c11 c12 c13
              have hx9 : parM T n 0 (room - 1) [1] s60.nxt ≠ x99 := fun e => HX.out (by have hp := HP.out; rw [e] at hp; exact hp.symm)
              have HCC := hid ((HC.out n (Nat.le_refl _)).e (lv := lv + 1) HK62.out (HN62.out.le (by omega)) (by have := HRM.out; omega) hx9)
              clear hx9
              go_wp2_with fail
              refine HCC.out.mono ?_
              intro e63 W63 q63
              clear c9 lb
              clear HCC
              rcases q63 with ⟨v63, s63, hy, rfl, k1⟩ | ⟨y63, z63, hy, rfl, b1⟩
              · have HY := hid hy
                have HK63 := hid k1
                clear hy k1
                obtain ⟨n1, a1, b1⟩ := HN62.out.p0 HY.out
                have hp := HP.out
                clear HP
                rw [HY.out] at hp
                dsimp only [PBd] at hp
                have HP := hid hp
                clear hp
                obtain ⟨e2, HVe2⟩ : ∃ x : Nat, Hid (v63.getD 0 0 = x) := ⟨_, rfl⟩
                rw [HVe2.out] at b1 a1
                try rw [HVe2.out] at HP
                have HN63 : Hid (PzN s63 4) := n1
                have HLe2 := hid b1
                have HGe2 := hid a1
                clear a1
                clear n1 b1
                rw [HVe2.out]
                obtain ⟨c3, c4, c5, c6, c9, c11, c12, c13⟩ := HK63.out.c
                have lb := HK63.out.lt
                clear c3 c4 c5 c6 c11 c12 c13
                obtain ⟨gg, cc, ND, hlk⟩ := HK63.out.node (l := e1) (by have := HLe1.out; have := HGe2.out; have := HLe2.out; have : s60.nxt.nodes.length = s60.nodes.length := rfl; omega)
                obtain ⟨c8, lcc, _, lg, ln, _, d4, _, f4, gb⟩ := ND
                obtain ⟨NLn, HNLn⟩ : ∃ x : Nat, Hid (s63.nodes.length = x) := ⟨_, rfl⟩
                rw [HNLn.out] at c8 lcc ln
                have e10 : e1 ≠ 0 := by have := HGe1.out; have := HN0.out.k.n1; have : s.nxt.nxt.nxt.nodes.length = s.nodes.length := rfl; omega
                have HK70 := hid (hlk e2 e10)
                clear hlk
                have HN70 : Hid (PzN (s63.link e1 e2) 4) := HN63.out.link (by have := HLe1.out; have := HGe2.out; have : s60.nxt.nodes.length = s60.nodes.length := rfl; omega) HLe2.out
                obtain ⟨s7, HS7⟩ : ∃ s7, Hid ((s63.link e1 e2) = s7) := ⟨_, rfl⟩
                have HLE : Hid (e2 < s7.nodes.length) := by show _ < _; rw [← HS7.out, link_len]; exact HLe2.out
                have HGE : Hid (1 ≤ e2) := by show _ ≤ _; have := HGe2.out; have := HLe1.out; have : s60.nxt.nodes.length = s60.nodes.length := rfl; omega
                rw [HS7.out] at HK70 HN70 HP
                by_cases hhc3 : (curT T s7).k = 45
                · have hc3 := hid hhc3
                  clear hhc3
                  have hp := HP.out
                  clear HP
                  rw [if_pos hc3.out] at hp
                  have HP := hid hp
                  clear hp
                  have CI := HK70.out.is (k := 45) (by decide) (by decide) (x := [44]) rfl
                  rw [decide_eq_true hc3.out] at CI
                  have HCI := hid CI
                  clear CI
                  go_wp2_with fail
                  refine HCI.out.mono ?_
                  rintro e71 V71 ⟨rfl, hw⟩
                  rw [hw]
                  clear hw HCI V71
                  have HCC := hid (HK70.out.next (by have := hc3.out; omega))
                  go_wp2_with fail
                  refine HCC.out.mono ?_
                  rintro e72 W72 ⟨rfl, k1⟩
                  clear c9 lb c8 lcc lg ln d4 f4 gb e10
                  clear HCC
                  have HK72 : Hid (PzK w A T s7.nxt W72) := k1
                  clear k1
                  have HN72 : Hid (PzN s7.nxt 5) := (HN70.out.nxt)
                  obtain ⟨c3, c4, c5, c6, c9, c11, c12, c13⟩ := HK72.out.c
                  have lb := HK72.out.lt
                  clear c3 c4 c5 c6 c11 c12 c13
                  have hx9 : parM T n 0 (room - 1) [1] s7.nxt ≠ x99 := fun e => HX.out (by have hp := HP.out; rw [e] at hp; exact hp.symm)
                  have HCC := hid ((HC.out n (Nat.le_refl _)).e (lv := lv + 1) HK72.out (HN72.out.le (by omega)) (by have := HRM.out; omega) hx9)
                  clear hx9
                  go_wp2_with fail
                  refine HCC.out.mono ?_
                  intro e73 W73 q73
                  clear c9 lb
                  clear HCC
                  rcases q73 with ⟨v73, s73, hy, rfl, k1⟩ | ⟨y73, z73, hy, rfl, b1⟩
                  · have HY := hid hy
                    have HK73 := hid k1
                    clear hy k1
                    obtain ⟨n1, a1, b1⟩ := HN72.out.p0 HY.out
                    have hp := HP.out
                    clear HP
                    rw [HY.out] at hp
                    dsimp only [PBd] at hp
                    have HP := hid hp
                    clear hp
                    obtain ⟨e3, HVe3⟩ : ∃ x : Nat, Hid (v73.getD 0 0 = x) := ⟨_, rfl⟩
                    rw [HVe3.out] at b1 a1
                    try rw [HVe3.out] at HP
                    have HN73 : Hid (PzN s73 5) := n1
                    have HLe3 := hid b1
                    have HGe3 := hid a1
                    clear a1
                    clear n1 b1
                    rw [HVe3.out]
                    obtain ⟨c3, c4, c5, c6, c9, c11, c12, c13⟩ := HK73.out.c
                    have lb := HK73.out.lt
                    clear c3 c4 c5 c6 c11 c12 c13
                    obtain ⟨gg2, cc2, ND2, hlk2⟩ := HK73.out.node (l := e2) (by have := HLE.out; have := HGe3.out; have := HLe3.out; have : s7.nxt.nodes.length = s7.nodes.length := rfl; omega)
                    obtain ⟨c82, lcc2, _, lg2, ln2, _, d42, _, f42, gb2⟩ := ND2
                    obtain ⟨NL2, HNL2⟩ : ∃ x : Nat, Hid (s73.nodes.length = x) := ⟨_, rfl⟩
                    rw [HNL2.out] at c82 lcc2 ln2
                    have HK80 := hid (hlk2 e3 (by have := HGE.out; omega))
                    clear hlk2
                    have HN80 : Hid (PzN (s73.link e2 e3) 5) := HN73.out.link (by have := HLE.out; have := HGe3.out; have : s7.nxt.nodes.length = s7.nodes.length := rfl; omega) HLe3.out
                    have hx9 : parM T n 15 room [4] (s73.link e2 e3) ≠ x99 := fun e => HX.out (by have hp := HP.out; rw [e] at hp; exact hp.symm)
                    have HCC := hid ((HC.out n (Nat.le_refl _)).bo (x := 4) (x' := 4) HK80.out (HN80.out.le (by omega)) HRM.out h1 (by decide) rfl hx9)
                    clear hx9
                    go_wp2_with fail
                    refine HCC.out.mono ?_
                    intro e81 W81 q81
                    clear c9 lb c82 lcc2 lg2 ln2 d42 f42 gb2
                    clear HCC
                    rcases q81 with ⟨v81, s81, hy, rfl, k1⟩ | ⟨y81, z81, hy, rfl, b1⟩
                    · have HY := hid hy
                      have HK81 := hid k1
                      clear hy k1
                      obtain ⟨n1, b1, l1⟩ := HN80.out.p15 (by decide) HY.out
                      have hp := HP.out
                      clear HP
                      rw [HY.out] at hp
                      dsimp only [PBd] at hp
                      have HP := hid hp
                      clear hp
                      obtain ⟨b, HVb⟩ : ∃ x : Nat, Hid (v81.getD 0 0 = x) := ⟨_, rfl⟩
                      rw [HVb.out] at b1
                      try rw [HVb.out] at HP
                      have HN81 : Hid (PzN s81 5) := n1
                      have HLb := hid b1
                      have HMb := hid l1
                      clear l1
                      clear n1 b1
                      rw [HVb.out]
                      obtain ⟨c3, c4, c5, c6, c9, c11, c12, c13⟩ := HK81.out.c
                      have lb := HK81.out.lt
                      clear c3 c4 c5 c6 c11 c12 c13
                      have HCC := hid (HK81.out.add ⟨8, e1, b, 0, 0, 0, x1, p1⟩ (by have := HN81.out.l; have := HK81.out.il; omega))
                      have FIN : Hid (∀ eX WX, (eX = .returned (.int .i64 ((s81).nodes.length : Nat)) ∧ PzK w A T ((s81).add ⟨8, e1, b, 0, 0, 0, x1, p1⟩) WX) → Q eX WX) := fun eX WX h => by
                        rw [← HQ.out]
                        exact .inl ⟨_, _, HP.out.symm, h.1, h.2⟩
                      go_wp2_with fail
                      refine HCC.out.mono ?_
                      rintro e82 W82 ⟨rfl, k1⟩
                      clear c9 lb
                      have FIN2 := hid (FIN.out _ _ ⟨rfl, k1⟩)
                      clear FIN k1 HCC
                      go_wp2_with fail
                      first | exact FIN2.out | (go_ret; exact FIN2.out) | (go_ret2; exact FIN2.out)
                    · have HB81 := hid b1
                      have HY : Hid (R = .inl y81) := by
                        have hp := HP.out
                        rw [hy] at hp
                        exact hp.symm
                      clear hy b1 HP
                      obtain ⟨c9, ne1, ne2⟩ := HB81.out.c
                      have lb := HB81.out.lt
                      have FIN : Hid (Q (.returned (.int .i64 0)) W81) := by
                        show Q _ _
                        rw [← HQ.out]
                        exact .inr ⟨y81, 0, HY.out, rfl, HB81.out⟩
                      go_wp2_with fail
                      first | exact FIN.out | (go_ret; exact FIN.out) | (go_ret2; exact FIN.out)
                  · have HB73 := hid b1
                    have HY : Hid (R = .inl y73) := by
                      have hp := HP.out
                      rw [hy] at hp
                      exact hp.symm
                    clear hy b1 HP
                    obtain ⟨c9, ne1, ne2⟩ := HB73.out.c
                    have lb := HB73.out.lt
                    have FIN : Hid (Q (.returned (.int .i64 0)) W73) := by
                      show Q _ _
                      rw [← HQ.out]
                      exact .inr ⟨y73, 0, HY.out, rfl, HB73.out⟩
                    go_wp2_with fail
                    first | exact FIN.out | (go_ret; exact FIN.out) | (go_ret2; exact FIN.out)
                · have hc3 := hid hhc3
                  clear hhc3
                  have hp := HP.out
                  clear HP
                  rw [if_neg hc3.out] at hp
                  have HP := hid hp
                  clear hp
                  have CI := HK70.out.is (k := 45) (by decide) (by decide) (x := [44]) rfl
                  rw [decide_eq_false hc3.out] at CI
                  have HCI := hid CI
                  clear CI
                  go_wp2_with fail
                  refine HCI.out.mono ?_
                  rintro e83 V83 ⟨rfl, hw⟩
                  rw [hw]
                  clear hw HCI V83
                  have hx9 : parM T n 15 room [4] s7 ≠ x99 := fun e => HX.out (by have hp := HP.out; rw [e] at hp; exact hp.symm)
                  have HCC := hid ((HC.out n (Nat.le_refl _)).bo (x := 4) (x' := 4) HK70.out (HN70.out.le (by omega)) HRM.out h1 (by decide) rfl hx9)
                  clear hx9
                  go_wp2_with fail
                  refine HCC.out.mono ?_
                  intro e84 W84 q84
                  clear c9 lb c8 lcc lg ln d4 f4 gb e10
                  clear HCC
                  rcases q84 with ⟨v84, s84, hy, rfl, k1⟩ | ⟨y84, z84, hy, rfl, b1⟩
                  · have HY := hid hy
                    have HK84 := hid k1
                    clear hy k1
                    obtain ⟨n1, b1, l1⟩ := HN70.out.p15 (by decide) HY.out
                    have hp := HP.out
                    clear HP
                    rw [HY.out] at hp
                    dsimp only [PBd] at hp
                    have HP := hid hp
                    clear hp
                    obtain ⟨b, HVb⟩ : ∃ x : Nat, Hid (v84.getD 0 0 = x) := ⟨_, rfl⟩
                    rw [HVb.out] at b1
                    try rw [HVb.out] at HP
                    have HN84 : Hid (PzN s84 4) := n1
                    have HLb := hid b1
                    have HMb := hid l1
                    clear l1
                    clear n1 b1
                    rw [HVb.out]
                    obtain ⟨c3, c4, c5, c6, c9, c11, c12, c13⟩ := HK84.out.c
                    have lb := HK84.out.lt
                    clear c3 c4 c5 c6 c11 c12 c13
                    have HCC := hid (HK84.out.add ⟨8, e1, b, 0, 0, 0, x1, p1⟩ (by have := HN84.out.l; have := HK84.out.il; omega))
                    have FIN : Hid (∀ eX WX, (eX = .returned (.int .i64 ((s84).nodes.length : Nat)) ∧ PzK w A T ((s84).add ⟨8, e1, b, 0, 0, 0, x1, p1⟩) WX) → Q eX WX) := fun eX WX h => by
                      rw [← HQ.out]
                      exact .inl ⟨_, _, HP.out.symm, h.1, h.2⟩
                    go_wp2_with fail
                    refine HCC.out.mono ?_
                    rintro e85 W85 ⟨rfl, k1⟩
                    clear c9 lb
                    have FIN2 := hid (FIN.out _ _ ⟨rfl, k1⟩)
                    clear FIN k1 HCC
                    go_wp2_with fail
                    first | exact FIN2.out | (go_ret; exact FIN2.out) | (go_ret2; exact FIN2.out)
                  · have HB84 := hid b1
                    have HY : Hid (R = .inl y84) := by
                      have hp := HP.out
                      rw [hy] at hp
                      exact hp.symm
                    clear hy b1 HP
                    obtain ⟨c9, ne1, ne2⟩ := HB84.out.c
                    have lb := HB84.out.lt
                    have FIN : Hid (Q (.returned (.int .i64 0)) W84) := by
                      show Q _ _
                      rw [← HQ.out]
                      exact .inr ⟨y84, 0, HY.out, rfl, HB84.out⟩
                    go_wp2_with fail
                    first | exact FIN.out | (go_ret; exact FIN.out) | (go_ret2; exact FIN.out)
              · have HB63 := hid b1
                have HY : Hid (R = .inl y63) := by
                  have hp := HP.out
                  rw [hy] at hp
                  exact hp.symm
                clear hy b1 HP
                obtain ⟨c9, ne1, ne2⟩ := HB63.out.c
                have lb := HB63.out.lt
                have FIN : Hid (Q (.returned (.int .i64 0)) W63) := by
                  show Q _ _
                  rw [← HQ.out]
                  exact .inr ⟨y63, 0, HY.out, rfl, HB63.out⟩
                go_wp2_with fail
                first | exact FIN.out | (go_ret; exact FIN.out) | (go_ret2; exact FIN.out)
            · have w61 := hid hw61
              clear hw61
              have hp := HP.out
              clear HP
              unfold expectP at hp
              rw [if_neg w61.out] at hp
              have HP := hid hp
              clear hp
              obtain ⟨y86, hy86⟩ : ∃ y, failP T s60 15 = .inl y := ⟨_, rfl⟩
              have HFY := hid hy86
              have HY : Hid (R = .inl y86) := by
                have hp := HP.out
                rw [hy86] at hp
                exact hp.symm
              clear hy86 HP
              have HCC := hid (HK60.out.wantN (k := 45) (by decide) (by decide) (x := [44]) rfl w61.out HFY.out)
              go_wp2_with fail
              refine HCC.out.mono ?_
              rintro e86 W86 ⟨rfl, b1⟩
              clear c9 lb
              have HB86 := hid b1
              clear b1 HCC
              obtain ⟨c9, ne1, ne2⟩ := HB86.out.c
              have lb := HB86.out.lt
              have FIN : Hid (Q (.returned (.int .i64 0)) W86) := by
                show Q _ _
                rw [← HQ.out]
                exact .inr ⟨y86, 0, HY.out, rfl, HB86.out⟩
              go_wp2_with fail
              first | exact FIN.out | (go_ret; exact FIN.out) | (go_ret2; exact FIN.out)
          · have HB60 := hid b1
            have HY : Hid (R = .inl y60) := by
              have hp := HP.out
              rw [hy] at hp
              exact hp.symm
            clear hy b1 HP
            obtain ⟨c9, ne1, ne2⟩ := HB60.out.c
            have lb := HB60.out.lt
            have HCC := hid (HB60.out.want [44])
            go_wp2_with fail
            refine HCC.out.mono ?_
            rintro e87 W87 ⟨rfl, b1⟩
            clear c9 ne1 ne2 lb
            have HB87 := hid b1
            clear b1 HCC
            obtain ⟨c9, ne1, ne2⟩ := HB87.out.c
            have lb := HB87.out.lt
            have FIN : Hid (Q (.returned (.int .i64 0)) W87) := by
              show Q _ _
              rw [← HQ.out]
              exact .inr ⟨y60, 0, HY.out, rfl, HB87.out⟩
            go_wp2_with fail
            first | exact FIN.out | (go_ret; exact FIN.out) | (go_ret2; exact FIN.out)
        · have w58 := hid hw58
          clear hw58
          have hp := HP.out
          clear HP
          unfold expectP at hp
          rw [if_neg w58.out] at hp
          have HP := hid hp
          clear hp
          obtain ⟨y88, hy88⟩ : ∃ y, failP T s.nxt.nxt 15 = .inl y := ⟨_, rfl⟩
          have HFY := hid hy88
          have HY : Hid (R = .inl y88) := by
            have hp := HP.out
            rw [hy88] at hp
            exact hp.symm
          clear hy88 HP
          have HCC := hid (HK3.out.wantN (k := 38) (by decide) (by decide) (x := [61]) rfl w58.out HFY.out)
          go_wp2_with fail
          refine HCC.out.mono ?_
          rintro e88 W88 ⟨rfl, b1⟩
          clear c9 lb
          have HB88 := hid b1
          clear b1 HCC
          obtain ⟨c9, ne1, ne2⟩ := HB88.out.c
          have lb := HB88.out.lt
          have FIN : Hid (Q (.returned (.int .i64 0)) W88) := by
            show Q _ _
            rw [← HQ.out]
            exact .inr ⟨y88, 0, HY.out, rfl, HB88.out⟩
          go_wp2_with fail
          first | exact FIN.out | (go_ret; exact FIN.out) | (go_ret2; exact FIN.out)
  · have hnx1 := hid hhnx1
    clear hhnx1
    have hp := HP.out
    clear HP
    unfold nameP at hp
    rw [if_pos hnx1.out] at hp
    have HP := hid hp
    clear hp
    obtain ⟨y89, hy89⟩ : ∃ y, failP T s.nxt 15 = .inl y := ⟨_, rfl⟩
    have HFY := hid hy89
    have HY : Hid (R = .inl y89) := by
      have hp := HP.out
      rw [hy89] at hp
      exact hp.symm
    clear hy89 HP
    have HCC := hid (HK1.out.nameN hnx1.out 4 HFY.out)
    go_wp2_with fail
    refine HCC.out.mono ?_
    rintro e89 W89 ⟨rfl, b1⟩
    have HB89 := hid b1
    clear b1 HCC
    obtain ⟨c9, ne1, ne2⟩ := HB89.out.c
    have lb := HB89.out.lt
    have FIN : Hid (Q (.returned (.int .i64 0)) W89) := by
      show Q _ _
      rw [← HQ.out]
      exact .inr ⟨y89, 0, HY.out, rfl, HB89.out⟩
    go_wp2_with fail
    first | exact FIN.out | (go_ret; exact FIN.out) | (go_ret2; exact FIN.out)
end
end Go.Proofs.Qxb6500574aGreatDoor
