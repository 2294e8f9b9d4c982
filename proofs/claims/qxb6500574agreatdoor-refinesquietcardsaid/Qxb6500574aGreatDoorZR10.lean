/-
  THE WALKS of syntaxm: localStmt.
-/
import Derived.Test.Qxb6500574aGreatDoorZR8
namespace Go.Proofs.Qxb6500574aGreatDoor
open Go Go.RowKit
set_option linter.unusedVariables false
set_option linter.unusedSimpArgs false
section
variable {T : List Tok} {n : Nat}
set_option maxRecDepth 100000
set_option maxHeartbeats 1000000
/-- two names, the first linked to the second -/
theorem two_namesZ {s : PSt} (h : s.nodes.length ≠ 0) (x1 x2 : Bs) (p1 p2 : Nat) : ((s.add ⟨17, 0, 0, 0, 0, 0, x1, p1⟩).add ⟨17, 0, 0, 0, 0, 0, x2, p2⟩).link s.nodes.length (s.nodes.length + 1) = (s.add ⟨17, 0, 0, 0, s.nodes.length + 1, 0, x1, p1⟩).add ⟨17, 0, 0, 0, 0, 0, x2, p2⟩ := by
  unfold PSt.link
  rw [if_neg h]
  unfold PSt.add
  simp only [PSt.mk.injEq, true_and]
  rw [List.append_assoc, List.append_assoc, List.getD_eq_getElem?_getD, List.getElem?_append_right (Nat.le_refl _), List.set_append_right _ _ (Nat.le_refl _), Nat.sub_self]
  rfl
theorem local_z (C : ∀ m, m ≤ n → PCz T m) {w W : World} {A : PzP} {s : PSt} {room : Nat} {lv : Int} (h0 : PzK w A T s W) (hn : PzN s 0) (hr : lv + room = 13 ∧ 1 ≤ lv) (h1 : 1 ≤ room) (h15 : (curT T s).k = 15) (hx : parM T (n + 1) 12 room [] s.nxt ≠ x99) :
    Calls Tryz.prog 246 #[.pointer (some ⟨A.b, 0, none⟩), .int .i64 lv] W (PzR T w A (parM T (n + 1) 12 room [] s.nxt)) := by
  obtain ⟨R, HR⟩ : ∃ R, Hid (parM T (n + 1) 12 room [] s.nxt = R) := ⟨_, rfl⟩
  rw [HR.out] at hx ⊢
  obtain ⟨Q, HQ⟩ : ∃ Q : Ending → World → Prop, Hid (PzR T w A R = Q) := ⟨_, rfl⟩
  rw [HQ.out]
  have HC := hid C
  have HX := hid hx
  have HK0 := hid h0
  have HN0 := hid hn
  have HRM := hid hr
  have lv1 : 1 ≤ lv := hr.2
  have lv2 : lv ≤ 13 := by omega
  have HP : Hid (_ = R) := pm12.symm.trans HR.out
  clear C hx h0 hn HR hr
  obtain ⟨c3, c4, c5, c6, c9, c11, c12, c13⟩ := HK0.out.c
  have lb := HK0.out.lt
  clear c3 c4 c5 c6 c11 c12 c13
  go_enter Tryz.func246, Tryz.ntmps246
  have HCC := hid (HK0.out.next (by omega))
  go_wp2_with fail
  refine HCC.out.mono ?_
  rintro e1 W1 ⟨rfl, k1⟩
  clear c9 lb
  clear HCC
  have HK1 : Hid (PzK w A T s.nxt W1) := k1
  clear k1
  have HN1 : Hid (PzN s.nxt 1) := (HN0.out.nxt)
  by_cases hhfu : (curT T s.nxt).k = 12
  · have hfu := hid hhfu
    clear hhfu
    have hp := HP.out
    clear HP
    rw [if_pos hfu.out] at hp
    have HP := hid hp
    clear hp
    by_cases hhf12 : 12 ≤ s.nxt.funcs
    · have hf12 := hid hhf12
      clear hhf12
      have hp := HP.out
      clear HP
      rw [if_pos hf12.out] at hp
      have HP := hid hp
      clear hp
      obtain ⟨c3, c4, c5, c6, c9, c11, c12, c13⟩ := HK1.out.c
      have lb := HK1.out.lt
      clear c3 c4 c5 c6 c11 c12
      have bf : (12 : Int) ≤ (s.nxt.funcs : Int) := by have := hf12.out; omega
      obtain ⟨fu, HFU⟩ : ∃ fu : Nat, Hid (s.nxt.funcs = fu) := ⟨_, rfl⟩
      rw [HFU.out] at c13 bf
      have CI := HK1.out.is (k := 12) (by decide) (by decide) (x := [102, 117, 110, 99, 116, 105, 111, 110]) rfl
      rw [decide_eq_true hfu.out] at CI
      have HCI := hid CI
      clear CI
      go_wp2_with fail
      refine HCI.out.mono ?_
      rintro e2 V2 ⟨rfl, hw⟩
      rw [hw]
      clear hw HCI V2
      obtain ⟨y3, hy3⟩ : ∃ y, failP T s.nxt 20 = .inl y := ⟨_, rfl⟩
      have HFY := hid hy3
      have HY : Hid (R = .inl y3) := by
        have hp := HP.out
        rw [hy3] at hp
        exact hp.symm
      clear hy3 HP
      have HCC := hid (HK1.out.fail (e := 20) (by decide) HFY.out (e' := 20) rfl)
      go_wp2_with fail
      refine HCC.out.mono ?_
      rintro e3 W3 ⟨rfl, b1⟩
      clear c9 c13 lb
      have HB3 := hid b1
      clear b1 HCC
      obtain ⟨c9, ne1, ne2⟩ := HB3.out.c
      have lb := HB3.out.lt
      have FIN : Hid (Q (.returned (.int .i64 0)) W3) := by
        show Q _ _
        rw [← HQ.out]
        exact .inr ⟨y3, 0, HY.out, rfl, HB3.out⟩
      go_wp2_with fail
      first | exact FIN.out | (go_ret; exact FIN.out) | (go_ret2; exact FIN.out)
    · have hf12 := hid hhf12
      clear hhf12
      have hp := HP.out
      clear HP
      rw [if_neg hf12.out] at hp
      have HP := hid hp
      clear hp
      obtain ⟨c3, c4, c5, c6, c9, c11, c12, c13⟩ := HK1.out.c
      have lb := HK1.out.lt
      clear c3 c4 c5 c6 c11 c12
      have bf : ¬ (12 : Int) ≤ (s.nxt.funcs : Int) := by have := hf12.out; omega
      obtain ⟨fu, HFU⟩ : ∃ fu : Nat, Hid (s.nxt.funcs = fu) := ⟨_, rfl⟩
      rw [HFU.out] at c13 bf
      have CI := HK1.out.is (k := 12) (by decide) (by decide) (x := [102, 117, 110, 99, 116, 105, 111, 110]) rfl
      rw [decide_eq_true hfu.out] at CI
      have HCI := hid CI
      clear CI
      go_wp2_with fail
      refine HCI.out.mono ?_
      rintro e4 V4 ⟨rfl, hw⟩
      rw [hw]
      clear hw HCI V4
      have HCC := hid (HK1.out.next (by have := hfu.out; omega))
      go_wp2_with fail
      refine HCC.out.mono ?_
      rintro e5 W5 ⟨rfl, k1⟩
      clear c9 c13 lb
      clear HCC
      have HK5 : Hid (PzK w A T s.nxt.nxt W5) := k1
      clear k1
      have HN5 : Hid (PzN s.nxt.nxt 2) := (HN1.out.nxt)
      obtain ⟨c3, c4, c5, c6, c9, c11, c12, c13⟩ := HK5.out.c
      have lb := HK5.out.lt
      clear c3 c4 c5 c6 c11 c12 c13
      have HNAL : Hid (s.alive + 8 ≤ 4 * (s.i + 3)) := by show _ ≤ _; have := HN0.out.al; omega
      by_cases hhnx1 : (curT T s.nxt.nxt).k = 2
      · have hnx1 := hid hhnx1
        clear hhnx1
        by_cases hhqx1 : 0 < 1 ∧ 12 < (s.nxt.nxt).alive + 1
        · have hqx1 := hid hhqx1
          clear hhqx1
          have hp := HP.out
          clear HP
          unfold nameP at hp
          rw [if_neg (fun z => z hnx1.out), if_pos hqx1.out] at hp
          have HP := hid hp
          clear hp
          obtain ⟨y6, hy6⟩ : ∃ y, failP T s.nxt.nxt 18 = .inl y := ⟨_, rfl⟩
          have HFY := hid hy6
          have HY : Hid (R = .inl y6) := by
            have hp := HP.out
            rw [hy6] at hp
            exact hp.symm
          clear hy6 HP
          have HCC := hid (HK5.out.nameL hnx1.out 1 hqx1.out.1 hqx1.out.2 (by have := HN5.out.al; have := HK5.out.il; omega) (e' := 1) rfl HFY.out)
          go_wp2_with fail
          refine HCC.out.mono ?_
          rintro e6 W6 ⟨rfl, b1⟩
          clear c9 lb
          have HB6 := hid b1
          clear b1 HCC
          obtain ⟨c9, ne1, ne2⟩ := HB6.out.c
          have lb := HB6.out.lt
          have FIN : Hid (Q (.returned (.int .i64 0)) W6) := by
            show Q _ _
            rw [← HQ.out]
            exact .inr ⟨y6, 0, HY.out, rfl, HB6.out⟩
          go_wp2_with fail
          first | exact FIN.out | (go_ret; exact FIN.out) | (go_ret2; exact FIN.out)
        · have hqx1 := hid hhqx1
          clear hhqx1
          have hp := HP.out
          clear HP
          unfold nameP at hp
          rw [if_neg (fun z => z hnx1.out), if_neg hqx1.out] at hp
          try dsimp only at hp
          have HP := hid hp
          clear hp
          obtain ⟨p1, HTPp1⟩ : ∃ tp : Nat, Hid ((curT T s.nxt.nxt).p = tp) := ⟨_, rfl⟩
          obtain ⟨x1, HTSx1⟩ : ∃ ts, Hid ((curT T s.nxt.nxt).s = ts) := ⟨_, rfl⟩
          have CC := HK5.out.name hnx1.out 1 hqx1.out (by have := HN5.out.al; have := HK5.out.il; omega) (e' := 1) rfl
          rw [HTPp1.out, HTSx1.out] at CC
          have HCC := hid CC
          clear CC
          have hp := HP.out
          clear HP
          rw [HTPp1.out, HTSx1.out] at hp
          have HP := hid hp
          clear hp
          go_wp2_with fail
          refine HCC.out.mono ?_
          rintro e7 W7 ⟨rfl, k2⟩
          clear c9 lb
          clear HCC
          have HK7 : Hid (PzK w A T s.nxt.nxt.nxt W7) := k2
          clear k2
          have HN7 : Hid (PzN s.nxt.nxt.nxt 3) := HN5.out.nxt
          obtain ⟨c3, c4, c5, c6, c9, c11, c12, c13⟩ := HK7.out.c
          have lb := HK7.out.lt
          clear c3 c4 c5 c6 c12 c13
          have f11 := HK7.out.fz 11
          have al1 : (s.nxt.nxt.nxt).alive ≤ 100000 := by have := HN7.out.al; have := HK7.out.il; omega
          obtain ⟨al, HAL⟩ : ∃ al : Nat, Hid ((s.nxt.nxt.nxt).alive = al) := ⟨_, rfl⟩
          rw [HAL.out] at c11 al1
          have HK40 := hid (HK7.out.setAl (al + 1) (u := (al : Int) + 1) (by omega))
          have HN40 : Hid (PzN ({ s.nxt.nxt.nxt with alive := al + 1 } : PSt) 3) := HN7.out.as rfl rfl (by have h9 := HNAL.out; have := HAL.out; have e1 : s.nxt.nxt.nxt.alive = s.alive := rfl; have e2 : s.nxt.nxt.nxt.i = s.i + 3 := rfl; show al + 1 ≤ _; omega) HN7.out.lo HN7.out.fu
          have hp := HP.out
          clear HP
          rw [HAL.out] at hp
          have HP := hid hp
          clear hp
          by_cases hhpa : (curT T ({ s.nxt.nxt.nxt with alive := al + 1 } : PSt)).k = 39
          · have hpa := hid hhpa
            clear hhpa
            have CI := HK40.out.is (k := 39) (by decide) (by decide) (x := [40]) rfl
            rw [decide_eq_true hpa.out] at CI
            have HCI := hid CI
            clear CI
            go_wp2_with fail
            refine HCI.out.mono ?_
            rintro e41 V41 ⟨rfl, hw⟩
            rw [hw]
            clear hw HCI V41
            have hx9 : parM T n 7 room [p1] ({ s.nxt.nxt.nxt with alive := al + 1 } : PSt) ≠ x99 := fun e => HX.out (by have hp := HP.out; rw [e] at hp; exact hp.symm)
            have HCC := hid ((HC.out n (Nat.le_refl _)).fn (pl := p1) (pl' := p1) HK40.out (HN40.out.le (by omega)) HRM.out h1 hpa.out rfl hx9)
            clear hx9
            go_wp2_with fail
            refine HCC.out.mono ?_
            intro e42 W42 q42
            clear c9 c11 lb f11 al1
            clear HCC
            rcases q42 with ⟨v42, s42, hy, rfl, k1⟩ | ⟨y42, z42, hy, rfl, b1⟩
            · have HY := hid hy
              have HK42 := hid k1
              clear hy k1
              obtain ⟨n1, a1, b1⟩ := HN40.out.p7 HY.out
              have hp := HP.out
              clear HP
              rw [HY.out] at hp
              dsimp only [PBd] at hp
              have HP := hid hp
              clear hp
              obtain ⟨f, HVf⟩ : ∃ x : Nat, Hid (v42.getD 0 0 = x) := ⟨_, rfl⟩
              rw [HVf.out] at b1 a1
              try rw [HVf.out] at HP
              have HN42 : Hid (PzN s42 3) := n1
              have HLf := hid b1
              have HGf := hid a1
              clear a1
              clear n1 b1
              rw [HVf.out]
              obtain ⟨c3, c4, c5, c6, c9, c11, c12, c13⟩ := HK42.out.c
              have lb := HK42.out.lt
              clear c3 c4 c5 c6 c11 c12 c13
              have HCC := hid (HK42.out.add ⟨3, f, 0, 0, 0, 0, x1, p1⟩ (by have := HN42.out.l; have := HK42.out.il; omega))
              have FIN : Hid (∀ eX WX, (eX = .returned (.int .i64 ((s42).nodes.length : Nat)) ∧ PzK w A T ((s42).add ⟨3, f, 0, 0, 0, 0, x1, p1⟩) WX) → Q eX WX) := fun eX WX h => by
                rw [← HQ.out]
                exact .inl ⟨_, _, HP.out.symm, h.1, h.2⟩
              go_wp2_with fail
              refine HCC.out.mono ?_
              rintro e43 W43 ⟨rfl, k1⟩
              clear c9 lb
              have FIN2 := hid (FIN.out _ _ ⟨rfl, k1⟩)
              clear FIN k1 HCC
              go_wp2_with fail
              first | exact FIN2.out | (go_ret; exact FIN2.out) | (go_ret2; exact FIN2.out)
            · have HB42 := hid b1
              have HY : Hid (R = .inl y42) := by
                have hp := HP.out
                rw [hy] at hp
                exact hp.symm
              clear hy b1 HP
              obtain ⟨c9, ne1, ne2⟩ := HB42.out.c
              have lb := HB42.out.lt
              have FIN : Hid (Q (.returned (.int .i64 0)) W42) := by
                show Q _ _
                rw [← HQ.out]
                exact .inr ⟨y42, 0, HY.out, rfl, HB42.out⟩
              go_wp2_with fail
              first | exact FIN.out | (go_ret; exact FIN.out) | (go_ret2; exact FIN.out)
          · have hpa := hid hhpa
            clear hhpa
            obtain ⟨n', rfl⟩ : ∃ n', n = n' + 1 := by
              cases n with
              | zero => exact absurd HP.out.symm HX.out
              | succ n' => exact ⟨n', rfl⟩
            have hp := HP.out
            clear HP
            rw [pm7] at hp
            unfold expectP at hp
            rw [if_neg hpa.out] at hp
            have hp : failP T ({ s.nxt.nxt.nxt with alive := al + 1 } : PSt) 15 = R := hp
            have HP := hid hp
            clear hp
            have CI := HK40.out.is (k := 39) (by decide) (by decide) (x := [40]) rfl
            rw [decide_eq_false hpa.out] at CI
            have HCI := hid CI
            clear CI
            go_wp2_with fail
            refine HCI.out.mono ?_
            rintro e44 V44 ⟨rfl, hw⟩
            rw [hw]
            clear hw HCI V44
            obtain ⟨y45, hy45⟩ : ∃ y, failP T ({ s.nxt.nxt.nxt with alive := al + 1 } : PSt) 15 = .inl y := ⟨_, rfl⟩
            have HFY := hid hy45
            have HY : Hid (R = .inl y45) := by
              have hp := HP.out
              rw [hy45] at hp
              exact hp.symm
            clear hy45 HP
            have HCC := hid (HK40.out.fail (e := 15) (by decide) HFY.out (e' := 15) rfl)
            go_wp2_with fail
            refine HCC.out.mono ?_
            rintro e45 W45 ⟨rfl, b1⟩
            clear c9 c11 lb f11 al1
            have HB45 := hid b1
            clear b1 HCC
            obtain ⟨c9, ne1, ne2⟩ := HB45.out.c
            have lb := HB45.out.lt
            have FIN : Hid (Q (.returned (.int .i64 0)) W45) := by
              show Q _ _
              rw [← HQ.out]
              exact .inr ⟨y45, 0, HY.out, rfl, HB45.out⟩
            go_wp2_with fail
            first | exact FIN.out | (go_ret; exact FIN.out) | (go_ret2; exact FIN.out)
      · have hnx1 := hid hhnx1
        clear hhnx1
        have hp := HP.out
        clear HP
        unfold nameP at hp
        rw [if_pos hnx1.out] at hp
        have HP := hid hp
        clear hp
        obtain ⟨y46, hy46⟩ : ∃ y, failP T s.nxt.nxt 15 = .inl y := ⟨_, rfl⟩
        have HFY := hid hy46
        have HY : Hid (R = .inl y46) := by
          have hp := HP.out
          rw [hy46] at hp
          exact hp.symm
        clear hy46 HP
        have HCC := hid (HK5.out.nameN hnx1.out 1 HFY.out)
        go_wp2_with fail
        refine HCC.out.mono ?_
        rintro e46 W46 ⟨rfl, b1⟩
        clear c9 lb
        have HB46 := hid b1
        clear b1 HCC
        obtain ⟨c9, ne1, ne2⟩ := HB46.out.c
        have lb := HB46.out.lt
        have FIN : Hid (Q (.returned (.int .i64 0)) W46) := by
          show Q _ _
          rw [← HQ.out]
          exact .inr ⟨y46, 0, HY.out, rfl, HB46.out⟩
        go_wp2_with fail
        first | exact FIN.out | (go_ret; exact FIN.out) | (go_ret2; exact FIN.out)
  · have hfu := hid hhfu
    clear hhfu
    have hp := HP.out
    clear HP
    rw [if_neg hfu.out] at hp
    have HP := hid hp
    clear hp
    obtain ⟨c3, c4, c5, c6, c9, c11, c12, c13⟩ := HK1.out.c
    have lb := HK1.out.lt
    clear c3 c4 c5 c6 c11 c12 c13
    have CI := HK1.out.is (k := 12) (by decide) (by decide) (x := [102, 117, 110, 99, 116, 105, 111, 110]) rfl
    rw [decide_eq_false hfu.out] at CI
    have HCI := hid CI
    clear CI
    go_wp2_with fail
    refine HCI.out.mono ?_
    rintro e47 V47 ⟨rfl, hw⟩
    rw [hw]
    clear hw HCI V47
    by_cases hhnx1 : (curT T s.nxt).k = 2
    · have hnx1 := hid hhnx1
      clear hhnx1
      by_cases hhqx1 : 0 < 1 ∧ 12 < (s.nxt).alive + 1
      · have hqx1 := hid hhqx1
        clear hhqx1
        have hp := HP.out
        clear HP
        unfold nameP at hp
        rw [if_neg (fun z => z hnx1.out), if_pos hqx1.out] at hp
        have HP := hid hp
        clear hp
        obtain ⟨y48, hy48⟩ : ∃ y, failP T s.nxt 18 = .inl y := ⟨_, rfl⟩
        have HFY := hid hy48
        have HY : Hid (R = .inl y48) := by
          have hp := HP.out
          rw [hy48] at hp
          exact hp.symm
        clear hy48 HP
        have HCC := hid (HK1.out.nameL hnx1.out 1 hqx1.out.1 hqx1.out.2 (by have := HN1.out.al; have := HK1.out.il; omega) (e' := 1) rfl HFY.out)
        go_wp2_with fail
        refine HCC.out.mono ?_
        rintro e48 W48 ⟨rfl, b1⟩
        clear c9 lb
        have HB48 := hid b1
        clear b1 HCC
        obtain ⟨c9, ne1, ne2⟩ := HB48.out.c
        have lb := HB48.out.lt
        have FIN : Hid (Q (.returned (.int .i64 0)) W48) := by
          show Q _ _
          rw [← HQ.out]
          exact .inr ⟨y48, 0, HY.out, rfl, HB48.out⟩
        go_wp2_with fail
        first | exact FIN.out | (go_ret; exact FIN.out) | (go_ret2; exact FIN.out)
      · have hqx1 := hid hhqx1
        clear hhqx1
        have hp := HP.out
        clear HP
        unfold nameP at hp
        rw [if_neg (fun z => z hnx1.out), if_neg hqx1.out] at hp
        try dsimp only at hp
        have HP := hid hp
        clear hp
        obtain ⟨p1, HTPp1⟩ : ∃ tp : Nat, Hid ((curT T s.nxt).p = tp) := ⟨_, rfl⟩
        obtain ⟨x1, HTSx1⟩ : ∃ ts, Hid ((curT T s.nxt).s = ts) := ⟨_, rfl⟩
        have CC := HK1.out.name hnx1.out 1 hqx1.out (by have := HN1.out.al; have := HK1.out.il; omega) (e' := 1) rfl
        rw [HTPp1.out, HTSx1.out] at CC
        have HCC := hid CC
        clear CC
        have hp := HP.out
        clear HP
        rw [HTPp1.out, HTSx1.out] at hp
        have HP := hid hp
        clear hp
        go_wp2_with fail
        refine HCC.out.mono ?_
        rintro e49 W49 ⟨rfl, k2⟩
        clear c9 lb
        clear HCC
        have HK49 : Hid (PzK w A T s.nxt.nxt W49) := k2
        clear k2
        have HN49 : Hid (PzN s.nxt.nxt 2) := HN1.out.nxt
        obtain ⟨c3, c4, c5, c6, c9, c11, c12, c13⟩ := HK49.out.c
        have lb := HK49.out.lt
        clear c3 c4 c5 c6 c11 c12 c13
        by_cases hhcm : (curT T s.nxt.nxt).k = 45
        · have hcm := hid hhcm
          clear hhcm
          have hp := HP.out
          clear HP
          rw [if_pos hcm.out] at hp
          have HP := hid hp
          clear hp
          clear c9 lb
          obtain ⟨c3, c4, c5, c6, c9, c11, c12, c13⟩ := HK49.out.c
          have lb := HK49.out.lt
          clear c3 c4 c5 c6 c11 c12 c13
          have CI := HK49.out.is (k := 45) (by decide) (by decide) (x := [44]) rfl
          rw [decide_eq_true hcm.out] at CI
          have HCI := hid CI
          clear CI
          go_wp2_with fail
          refine HCI.out.mono ?_
          rintro e50 V50 ⟨rfl, hw⟩
          rw [hw]
          clear hw HCI V50
          have HCC := hid (HK49.out.next (by have := hcm.out; omega))
          go_wp2_with fail
          refine HCC.out.mono ?_
          rintro e51 W51 ⟨rfl, k1⟩
          clear c9 lb
          clear HCC
          have HK51 : Hid (PzK w A T s.nxt.nxt.nxt W51) := k1
          clear k1
          have HN51 : Hid (PzN s.nxt.nxt.nxt 3) := (HN49.out.nxt)
          obtain ⟨c3, c4, c5, c6, c9, c11, c12, c13⟩ := HK51.out.c
          have lb := HK51.out.lt
          clear c3 c4 c5 c6 c11 c12 c13
          by_cases hhnx2 : (curT T s.nxt.nxt.nxt).k = 2
          · have hnx2 := hid hhnx2
            clear hhnx2
            by_cases hhqx2 : 0 < 2 ∧ 12 < (s.nxt.nxt.nxt).alive + 2
            · have hqx2 := hid hhqx2
              clear hhqx2
              have hp := HP.out
              clear HP
              unfold nameP at hp
              rw [if_neg (fun z => z hnx2.out), if_pos hqx2.out] at hp
              have HP := hid hp
              clear hp
              obtain ⟨y52, hy52⟩ : ∃ y, failP T s.nxt.nxt.nxt 18 = .inl y := ⟨_, rfl⟩
              have HFY := hid hy52
              have HY : Hid (R = .inl y52) := by
                have hp := HP.out
                rw [hy52] at hp
                exact hp.symm
              clear hy52 HP
              have HCC := hid (HK51.out.nameL hnx2.out 2 hqx2.out.1 hqx2.out.2 (by have := HN51.out.al; have := HK51.out.il; omega) (e' := 2) rfl HFY.out)
              go_wp2_with fail
              refine HCC.out.mono ?_
              rintro e52 W52 ⟨rfl, b1⟩
              clear c9 lb
              have HB52 := hid b1
              clear b1 HCC
              obtain ⟨c9, ne1, ne2⟩ := HB52.out.c
              have lb := HB52.out.lt
              have HCC := hid (HB52.out.want [61])
              go_wp2_with fail
              refine HCC.out.mono ?_
              rintro e53 W53 ⟨rfl, b1⟩
              clear c9 ne1 ne2 lb
              have HB53 := hid b1
              clear b1 HCC
              obtain ⟨c9, ne1, ne2⟩ := HB53.out.c
              have lb := HB53.out.lt
              have FIN : Hid (Q (.returned (.int .i64 0)) W53) := by
                show Q _ _
                rw [← HQ.out]
                exact .inr ⟨y52, 0, HY.out, rfl, HB53.out⟩
              go_wp2_with fail
              first | exact FIN.out | (go_ret; exact FIN.out) | (go_ret2; exact FIN.out)
            · have hqx2 := hid hhqx2
              clear hhqx2
              have hp := HP.out
              clear HP
              unfold nameP at hp
              rw [if_neg (fun z => z hnx2.out), if_neg hqx2.out] at hp
              try dsimp only at hp
              have HP := hid hp
              clear hp
              obtain ⟨p2, HTPp2⟩ : ∃ tp : Nat, Hid ((curT T s.nxt.nxt.nxt).p = tp) := ⟨_, rfl⟩
              obtain ⟨x2, HTSx2⟩ : ∃ ts, Hid ((curT T s.nxt.nxt.nxt).s = ts) := ⟨_, rfl⟩
              have CC := HK51.out.name hnx2.out 2 hqx2.out (by have := HN51.out.al; have := HK51.out.il; omega) (e' := 2) rfl
              rw [HTPp2.out, HTSx2.out] at CC
              have HCC := hid CC
              clear CC
              have hp := HP.out
              clear HP
              rw [HTPp2.out, HTSx2.out] at hp
              have HP := hid hp
              clear hp
              go_wp2_with fail
              refine HCC.out.mono ?_
              rintro e54 W54 ⟨rfl, k2⟩
              clear c9 lb
              clear HCC
              have HK54 : Hid (PzK w A T s.nxt.nxt.nxt.nxt W54) := k2
              clear k2
              have HN54 : Hid (PzN s.nxt.nxt.nxt.nxt 4) := HN51.out.nxt
              obtain ⟨c3, c4, c5, c6, c9, c11, c12, c13⟩ := HK54.out.c
              have lb := HK54.out.lt
              clear c3 c4 c5 c6 c11 c12 c13
              by_cases hw55 : (curT T s.nxt.nxt.nxt.nxt).k = 38
              · have w55 := hid hw55
                clear hw55
                have hp := HP.out
                clear HP
                unfold expectP at hp
                rw [if_pos w55.out] at hp
                have HP := hid hp
                clear hp
                have HCC := hid (HK54.out.want (k := 38) (by decide) (by decide) (x := [61]) rfl w55.out)
                go_wp2_with fail
                refine HCC.out.mono ?_
                rintro e56 W56 ⟨rfl, k1⟩
                clear c9 lb
                clear HCC
                have HK56 : Hid (PzK w A T s.nxt.nxt.nxt.nxt.nxt W56) := k1
                clear k1
                have HN56 : Hid (PzN s.nxt.nxt.nxt.nxt.nxt 5) := HN54.out.nxt
                obtain ⟨c3, c4, c5, c6, c9, c11, c12, c13⟩ := HK56.out.c
                have lb := HK56.out.lt
                clear c3 c4 c5 c6 c11 c12 c13
                obtain ⟨L, HL⟩ : ∃ L : Nat, Hid ((s.nxt.nxt.nxt.nxt.nxt).nodes.length = L) := ⟨_, rfl⟩
                have HL0 : Hid (1 ≤ L) := by show _ ≤ _; rw [← HL.out]; exact HN56.out.k.n1
                clear c9 lb
                obtain ⟨c3, c4, c5, c6, c9, c11, c12, c13⟩ := HK56.out.c
                have lb := HK56.out.lt
                clear c3 c4 c5 c6 c11 c12 c13
                have HCC := hid (HK56.out.add ⟨17, 0, 0, 0, 0, 0, x1, p1⟩ (by have := HN56.out.l; have := HK56.out.il; omega))
                go_wp2_with fail
                refine HCC.out.mono ?_
                rintro e57 W57 ⟨rfl, k2⟩
                clear c9 lb
                clear HCC
                have HK57 : Hid (PzK w A T ((s.nxt.nxt.nxt.nxt.nxt).add ⟨17, 0, 0, 0, 0, 0, x1, p1⟩) W57) := k2
                clear k2
                have HN57 : Hid (PzN ((s.nxt.nxt.nxt.nxt.nxt).add ⟨17, 0, 0, 0, 0, 0, x1, p1⟩) 4) := HN56.out.add (by show 0 < _; exact HN56.out.k.n1) (by show 0 < _; exact HN56.out.k.n1) (by show 0 < _; exact HN56.out.k.n1) rfl
                obtain ⟨c3, c4, c5, c6, c9, c11, c12, c13⟩ := HK57.out.c
                have lb := HK57.out.lt
                clear c3 c4 c5 c6 c11 c12 c13
                rw [HL.out]
                have HCC := hid (HK57.out.add ⟨17, 0, 0, 0, 0, 0, x2, p2⟩ (by have := HN57.out.l; have := HK57.out.il; omega))
                go_wp2_with fail
                refine HCC.out.mono ?_
                rintro e58 W58 ⟨rfl, k2⟩
                clear c9 lb
                clear HCC
                have HK58 : Hid (PzK w A T ((((s.nxt.nxt.nxt.nxt.nxt).add ⟨17, 0, 0, 0, 0, 0, x1, p1⟩)).add ⟨17, 0, 0, 0, 0, 0, x2, p2⟩) W58) := k2
                clear k2
                have HN58 : Hid (PzN ((((s.nxt.nxt.nxt.nxt.nxt).add ⟨17, 0, 0, 0, 0, 0, x1, p1⟩)).add ⟨17, 0, 0, 0, 0, 0, x2, p2⟩) 3) := HN57.out.add (by show 0 < _; exact HN57.out.k.n1) (by show 0 < _; exact HN57.out.k.n1) (by show 0 < _; exact HN57.out.k.n1) rfl
                obtain ⟨c3, c4, c5, c6, c9, c11, c12, c13⟩ := HK58.out.c
                have lb := HK58.out.lt
                clear c3 c4 c5 c6 c11 c12 c13
                have eL1 : ((s.nxt.nxt.nxt.nxt.nxt).add ⟨17, 0, 0, 0, 0, 0, x1, p1⟩).nodes.length = L + 1 := by rw [add_len, HL.out]
                rw [eL1]
                clear eL1
                have eL2 : ((((s.nxt.nxt.nxt.nxt.nxt).add ⟨17, 0, 0, 0, 0, 0, x1, p1⟩)).add ⟨17, 0, 0, 0, 0, 0, x2, p2⟩).nodes.length = L + 2 := by rw [add_len, add_len, HL.out]
                obtain ⟨gg, cc, ND, hlk⟩ := HK58.out.node (l := L) (by rw [eL2]; omega)
                obtain ⟨c8, lcc, _, lg, ln, _, d4, _, f4, gb⟩ := ND
                rw [eL2] at c8 lcc ln
                clear eL2
                have hlk2 := hlk (L + 1) (by have := HL0.out; omega)
                have e3 : ((((s.nxt.nxt.nxt.nxt.nxt).add ⟨17, 0, 0, 0, 0, 0, x1, p1⟩)).add ⟨17, 0, 0, 0, 0, 0, x2, p2⟩).link L (L + 1) = (((s.nxt.nxt.nxt.nxt.nxt).add ⟨17, 0, 0, 0, L + 1, 0, x1, p1⟩).add ⟨17, 0, 0, 0, 0, 0, x2, p2⟩) := by
                  have := two_namesZ (s := s.nxt.nxt.nxt.nxt.nxt) (by rw [HL.out]; have := HL0.out; omega) x1 x2 p1 p2
                  rw [HL.out] at this
                  exact this
                rw [e3] at hlk2
                clear e3 hlk
                have HK50 := hid hlk2
                clear hlk2
                have HN50 : Hid (PzN (((s.nxt.nxt.nxt.nxt.nxt).add ⟨17, 0, 0, 0, L + 1, 0, x1, p1⟩).add ⟨17, 0, 0, 0, 0, 0, x2, p2⟩) 3) := by
                  have := HN56.out.add2 (d := 3) (x1 := x1) (x2 := x2) (p1 := p1) (p2 := p2)
                  rw [HL.out] at this
                  exact this
                have hp := HP.out
                clear HP
                rw [HL.out] at hp
                have HP := hid hp
                clear hp
                have hx9 : parM T n 0 (room - 1) [1] (((s.nxt.nxt.nxt.nxt.nxt).add ⟨17, 0, 0, 0, L + 1, 0, x1, p1⟩).add ⟨17, 0, 0, 0, 0, 0, x2, p2⟩) ≠ x99 := fun e => HX.out (by have hp := HP.out; rw [e] at hp; exact hp.symm)
                have HCC := hid ((HC.out n (Nat.le_refl _)).e (lv := lv + 1) HK50.out (HN50.out.le (by omega)) (by have := HRM.out; omega) hx9)
                clear hx9
                go_wp2_with fail
                refine HCC.out.mono ?_
                intro e51 W51 q51
                clear c9 lb c8 lcc lg ln d4 f4 gb
                clear HCC
                rcases q51 with ⟨v51, s51, hy, rfl, k1⟩ | ⟨y51, z51, hy, rfl, b1⟩
                · have HY := hid hy
                  have HK51 := hid k1
                  clear hy k1
                  obtain ⟨n1, a1, b1⟩ := HN50.out.p0 HY.out
                  have hp := HP.out
                  clear HP
                  rw [HY.out] at hp
                  dsimp only [PBd] at hp
                  have HP := hid hp
                  clear hp
                  obtain ⟨ev, HVev⟩ : ∃ x : Nat, Hid (v51.getD 0 0 = x) := ⟨_, rfl⟩
                  rw [HVev.out] at b1 a1
                  try rw [HVev.out] at HP
                  have HN51 : Hid (PzN s51 3) := n1
                  have HLev := hid b1
                  have HGev := hid a1
                  clear a1
                  clear n1 b1
                  rw [HVev.out]
                  obtain ⟨gg4, cc4, ND4, _⟩ := HK51.out.node (l := ev) HLev.out
                  obtain ⟨c84, lcc4, _, lg4, ln4, d04, _, _, _, gb4⟩ := ND4
                  obtain ⟨kd, HKD⟩ : ∃ kd, Hid ((s51.nodes.getD ev nd0).k = kd) := ⟨_, rfl⟩
                  obtain ⟨NL4, HNL4⟩ : ∃ x : Nat, Hid (s51.nodes.length = x) := ⟨_, rfl⟩
                  rw [HKD.out] at d04
                  rw [HNL4.out] at c84 lcc4 ln4
                  have hp := HP.out
                  clear HP
                  rw [HKD.out] at hp
                  have HP := hid hp
                  clear hp
                  by_cases hh19 : kd = 19
                  · have h19 := hid hh19
                    clear hh19
                    have hp := HP.out
                    clear HP
                    rw [if_neg (fun z => z h19.out)] at hp
                    have HP := hid hp
                    clear hp
                    have b19 : ((kd : Int) != 19) = false := by rw [h19.out]; rfl
                    obtain ⟨c3, c4, c5, c6, c9, c11, c12, c13⟩ := HK51.out.c
                    have lb := HK51.out.lt
                    clear c3 c4 c5 c6 c12 c13
                    have f11 := HK51.out.fz 11
                    have al1 : s51.alive ≤ 100000 := by have := HN51.out.al; have := HK51.out.il; omega
                    obtain ⟨al, HAL⟩ : ∃ al : Nat, Hid (s51.alive = al) := ⟨_, rfl⟩
                    rw [HAL.out] at c11 al1
                    have HK60 := hid (HK51.out.setAl (al + 2) (u := (al : Int) + 2) (by omega))
                    have hp := HP.out
                    clear HP
                    rw [HAL.out] at hp
                    have HP := hid hp
                    clear hp
                    have HN60 : Hid (s51.nodes.length ≤ s51.i + 1) := by show _ ≤ _; have := HN51.out.l; omega
                    have HCC := hid (HK60.out.add ⟨2, L, ev, 0, 0, 0, [], p1⟩ (by have h7 := HN60.out; have h8 : s51.i ≤ 2048 := HK60.out.il; show s51.nodes.length ≤ 10000; omega))
                    have FIN : Hid (∀ eX WX, (eX = .returned (.int .i64 ((({ s51 with alive := al + 2 } : PSt)).nodes.length : Nat)) ∧ PzK w A T ((({ s51 with alive := al + 2 } : PSt)).add ⟨2, L, ev, 0, 0, 0, [], p1⟩) WX) → Q eX WX) := fun eX WX h => by
                      rw [← HQ.out]
                      exact .inl ⟨_, _, HP.out.symm, h.1, h.2⟩
                    go_wp2_with fail
                    refine HCC.out.mono ?_
                    rintro e61 W61 ⟨rfl, k1⟩
                    clear c9 c11 lb f11 al1 c84 lcc4 lg4 ln4 d04 gb4
                    have FIN2 := hid (FIN.out _ _ ⟨rfl, k1⟩)
                    clear FIN k1 HCC
                    go_wp2_with fail
                    first | exact FIN2.out | (go_ret; exact FIN2.out) | (go_ret2; exact FIN2.out)
                  · have h19 := hid hh19
                    clear hh19
                    have hp := HP.out
                    clear HP
                    rw [if_pos h19.out] at hp
                    have HP := hid hp
                    clear hp
                    have b19 : ((kd : Int) != 19) = true := by rw [bne_iff_ne]; have := h19.out; omega
                    obtain ⟨c3, c4, c5, c6, c9, c11, c12, c13⟩ := HK51.out.c
                    have lb := HK51.out.lt
                    clear c3 c4 c5 c6 c11 c12 c13
                    obtain ⟨y62, hy62⟩ : ∃ y, failP T s51 15 = .inl y := ⟨_, rfl⟩
                    have HFY := hid hy62
                    have HY : Hid (R = .inl y62) := by
                      have hp := HP.out
                      rw [hy62] at hp
                      exact hp.symm
                    clear hy62 HP
                    have HCC := hid (HK51.out.fail (e := 15) (by decide) HFY.out (e' := 15) rfl)
                    go_wp2_with fail
                    refine HCC.out.mono ?_
                    rintro e62 W62 ⟨rfl, b1⟩
                    clear c9 lb c84 lcc4 lg4 ln4 d04 gb4
                    have HB62 := hid b1
                    clear b1 HCC
                    obtain ⟨c9, ne1, ne2⟩ := HB62.out.c
                    have lb := HB62.out.lt
                    have FIN : Hid (Q (.returned (.int .i64 0)) W62) := by
                      show Q _ _
                      rw [← HQ.out]
                      exact .inr ⟨y62, 0, HY.out, rfl, HB62.out⟩
                    go_wp2_with fail
                    first | exact FIN.out | (go_ret; exact FIN.out) | (go_ret2; exact FIN.out)
                · have HB51 := hid b1
                  have HY : Hid (R = .inl y51) := by
                    have hp := HP.out
                    rw [hy] at hp
                    exact hp.symm
                  clear hy b1 HP
                  obtain ⟨c9, ne1, ne2⟩ := HB51.out.c
                  have lb := HB51.out.lt
                  have FIN : Hid (Q (.returned (.int .i64 0)) W51) := by
                    show Q _ _
                    rw [← HQ.out]
                    exact .inr ⟨y51, 0, HY.out, rfl, HB51.out⟩
                  go_wp2_with fail
                  first | exact FIN.out | (go_ret; exact FIN.out) | (go_ret2; exact FIN.out)
              · have w55 := hid hw55
                clear hw55
                have hp := HP.out
                clear HP
                unfold expectP at hp
                rw [if_neg w55.out] at hp
                have HP := hid hp
                clear hp
                obtain ⟨y63, hy63⟩ : ∃ y, failP T s.nxt.nxt.nxt.nxt 15 = .inl y := ⟨_, rfl⟩
                have HFY := hid hy63
                have HY : Hid (R = .inl y63) := by
                  have hp := HP.out
                  rw [hy63] at hp
                  exact hp.symm
                clear hy63 HP
                have HCC := hid (HK54.out.wantN (k := 38) (by decide) (by decide) (x := [61]) rfl w55.out HFY.out)
                go_wp2_with fail
                refine HCC.out.mono ?_
                rintro e63 W63 ⟨rfl, b1⟩
                clear c9 lb
                have HB63 := hid b1
                clear b1 HCC
                obtain ⟨c9, ne1, ne2⟩ := HB63.out.c
                have lb := HB63.out.lt
                have FIN : Hid (Q (.returned (.int .i64 0)) W63) := by
                  show Q _ _
                  rw [← HQ.out]
                  exact .inr ⟨y63, 0, HY.out, rfl, HB63.out⟩
                go_wp2_with fail
                first | exact FIN.out | (go_ret; exact FIN.out) | (go_ret2; exact FIN.out)
          · have hnx2 := hid hhnx2
            clear hhnx2
            have hp := HP.out
            clear HP
            unfold nameP at hp
            rw [if_pos hnx2.out] at hp
            have HP := hid hp
            clear hp
            obtain ⟨y64, hy64⟩ : ∃ y, failP T s.nxt.nxt.nxt 15 = .inl y := ⟨_, rfl⟩
            have HFY := hid hy64
            have HY : Hid (R = .inl y64) := by
              have hp := HP.out
              rw [hy64] at hp
              exact hp.symm
            clear hy64 HP
            have HCC := hid (HK51.out.nameN hnx2.out 2 HFY.out)
            go_wp2_with fail
            refine HCC.out.mono ?_
            rintro e64 W64 ⟨rfl, b1⟩
            clear c9 lb
            have HB64 := hid b1
            clear b1 HCC
            obtain ⟨c9, ne1, ne2⟩ := HB64.out.c
            have lb := HB64.out.lt
            have HCC := hid (HB64.out.want [61])
            go_wp2_with fail
            refine HCC.out.mono ?_
            rintro e65 W65 ⟨rfl, b1⟩
            clear c9 ne1 ne2 lb
            have HB65 := hid b1
            clear b1 HCC
            obtain ⟨c9, ne1, ne2⟩ := HB65.out.c
            have lb := HB65.out.lt
            have FIN : Hid (Q (.returned (.int .i64 0)) W65) := by
              show Q _ _
              rw [← HQ.out]
              exact .inr ⟨y64, 0, HY.out, rfl, HB65.out⟩
            go_wp2_with fail
            first | exact FIN.out | (go_ret; exact FIN.out) | (go_ret2; exact FIN.out)
        · have hcm := hid hhcm
          clear hhcm
          have hp := HP.out
          clear HP
          rw [if_neg hcm.out] at hp
          have HP := hid hp
          clear hp
          by_cases hheq : (curT T s.nxt.nxt).k = 38
          · have heq := hid hheq
            clear hheq
            have hp := HP.out
            clear HP
            rw [if_pos heq.out] at hp
            have HP := hid hp
            clear hp
            clear c9 lb
            obtain ⟨c3, c4, c5, c6, c9, c11, c12, c13⟩ := HK49.out.c
            have lb := HK49.out.lt
            clear c3 c4 c5 c6 c11 c12 c13
            have CI := HK49.out.is (k := 45) (by decide) (by decide) (x := [44]) rfl
            rw [decide_eq_false hcm.out] at CI
            have HCI := hid CI
            clear CI
            go_wp2_with fail
            refine HCI.out.mono ?_
            rintro e66 V66 ⟨rfl, hw⟩
            rw [hw]
            clear hw HCI V66
            have CI := HK49.out.is (k := 38) (by decide) (by decide) (x := [61]) rfl
            rw [decide_eq_true heq.out] at CI
            have HCI := hid CI
            clear CI
            go_wp2_with fail
            refine HCI.out.mono ?_
            rintro e67 V67 ⟨rfl, hw⟩
            rw [hw]
            clear hw HCI V67
            have HCC := hid (HK49.out.next (by have := heq.out; omega))
            go_wp2_with fail
            refine HCC.out.mono ?_
            rintro e68 W68 ⟨rfl, k1⟩
            clear c9 lb
            clear HCC
            have HK68 : Hid (PzK w A T s.nxt.nxt.nxt W68) := k1
            clear k1
            have HN68 : Hid (PzN s.nxt.nxt.nxt 3) := (HN49.out.nxt)
            obtain ⟨c3, c4, c5, c6, c9, c11, c12, c13⟩ := HK68.out.c
            have lb := HK68.out.lt
            clear c3 c4 c5 c6 c11 c12 c13
            have hx9 : parM T n 0 (room - 1) [1] s.nxt.nxt.nxt ≠ x99 := fun e => HX.out (by have hp := HP.out; rw [e] at hp; exact hp.symm)
            have HCC := hid ((HC.out n (Nat.le_refl _)).e (lv := lv + 1) HK68.out (HN68.out.le (by omega)) (by have := HRM.out; omega) hx9)
            clear hx9
            go_wp2_with fail
            refine HCC.out.mono ?_
            intro e69 W69 q69
            clear c9 lb
            clear HCC
            rcases q69 with ⟨v69, s69, hy, rfl, k1⟩ | ⟨y69, z69, hy, rfl, b1⟩
            · have HY := hid hy
              have HK69 := hid k1
              clear hy k1
              obtain ⟨n1, a1, b1⟩ := HN68.out.p0 HY.out
              have hp := HP.out
              clear HP
              rw [HY.out] at hp
              dsimp only [PBd] at hp
              have HP := hid hp
              clear hp
              obtain ⟨ev, HVev⟩ : ∃ x : Nat, Hid (v69.getD 0 0 = x) := ⟨_, rfl⟩
              rw [HVev.out] at b1 a1
              try rw [HVev.out] at HP
              have HN69 : Hid (PzN s69 3) := n1
              have HLev := hid b1
              have HGev := hid a1
              clear a1
              clear n1 b1
              rw [HVev.out]
              obtain ⟨c3, c4, c5, c6, c9, c11, c12, c13⟩ := HK69.out.c
              have lb := HK69.out.lt
              clear c3 c4 c5 c6 c12 c13
              have f11 := HK69.out.fz 11
              have al1 : (s69).alive ≤ 100000 := by have := HN69.out.al; have := HK69.out.il; omega
              obtain ⟨al, HAL⟩ : ∃ al : Nat, Hid ((s69).alive = al) := ⟨_, rfl⟩
              rw [HAL.out] at c11 al1
              have HK60 := hid (HK69.out.setAl (al + 1) (u := (al : Int) + 1) (by omega))
              have hp := HP.out
              clear HP
              rw [HAL.out] at hp
              have HP := hid hp
              clear hp
              have HN60 : Hid ((s69).nodes.length ≤ (s69).i + 1) := by show _ ≤ _; have := HN69.out.l; omega
              have HCC := hid (HK60.out.add ⟨1, ev, 0, 0, 0, 0, x1, p1⟩ (by have h7 := HN60.out; have h8 : (s69).i ≤ 2048 := HK60.out.il; show (s69).nodes.length ≤ 10000; omega))
              have FIN : Hid (∀ eX WX, (eX = .returned (.int .i64 ((({ s69 with alive := al + 1 } : PSt)).nodes.length : Nat)) ∧ PzK w A T ((({ s69 with alive := al + 1 } : PSt)).add ⟨1, ev, 0, 0, 0, 0, x1, p1⟩) WX) → Q eX WX) := fun eX WX h => by
                rw [← HQ.out]
                exact .inl ⟨_, _, HP.out.symm, h.1, h.2⟩
              go_wp2_with fail
              refine HCC.out.mono ?_
              rintro e61 W61 ⟨rfl, k1⟩
              clear c9 c11 lb f11 al1
              have FIN2 := hid (FIN.out _ _ ⟨rfl, k1⟩)
              clear FIN k1 HCC
              go_wp2_with fail
              first | exact FIN2.out | (go_ret; exact FIN2.out) | (go_ret2; exact FIN2.out)
            · have HB69 := hid b1
              have HY : Hid (R = .inl y69) := by
                have hp := HP.out
                rw [hy] at hp
                exact hp.symm
              clear hy b1 HP
              obtain ⟨c9, ne1, ne2⟩ := HB69.out.c
              have lb := HB69.out.lt
              have FIN : Hid (Q (.returned (.int .i64 0)) W69) := by
                show Q _ _
                rw [← HQ.out]
                exact .inr ⟨y69, 0, HY.out, rfl, HB69.out⟩
              go_wp2_with fail
              first | exact FIN.out | (go_ret; exact FIN.out) | (go_ret2; exact FIN.out)
          · have heq := hid hheq
            clear hheq
            have hp := HP.out
            clear HP
            rw [if_neg heq.out] at hp
            have HP := hid hp
            clear hp
            clear c9 lb
            obtain ⟨c3, c4, c5, c6, c9, c11, c12, c13⟩ := HK49.out.c
            have lb := HK49.out.lt
            clear c3 c4 c5 c6 c11 c12 c13
            have CI := HK49.out.is (k := 45) (by decide) (by decide) (x := [44]) rfl
            rw [decide_eq_false hcm.out] at CI
            have HCI := hid CI
            clear CI
            go_wp2_with fail
            refine HCI.out.mono ?_
            rintro e62 V62 ⟨rfl, hw⟩
            rw [hw]
            clear hw HCI V62
            have CI := HK49.out.is (k := 38) (by decide) (by decide) (x := [61]) rfl
            rw [decide_eq_false heq.out] at CI
            have HCI := hid CI
            clear CI
            go_wp2_with fail
            refine HCI.out.mono ?_
            rintro e63 V63 ⟨rfl, hw⟩
            rw [hw]
            clear hw HCI V63
            clear c9 lb
            obtain ⟨c3, c4, c5, c6, c9, c11, c12, c13⟩ := HK49.out.c
            have lb := HK49.out.lt
            clear c3 c4 c5 c6 c12 c13
            have f11 := HK49.out.fz 11
            have al1 : (s.nxt.nxt).alive ≤ 100000 := by have := HN49.out.al; have := HK49.out.il; omega
            obtain ⟨al, HAL⟩ : ∃ al : Nat, Hid ((s.nxt.nxt).alive = al) := ⟨_, rfl⟩
            rw [HAL.out] at c11 al1
            have HK60 := hid (HK49.out.setAl (al + 1) (u := (al : Int) + 1) (by omega))
            have hp := HP.out
            clear HP
            rw [HAL.out] at hp
            have HP := hid hp
            clear hp
            have HN60 : Hid ((s.nxt.nxt).nodes.length ≤ (s.nxt.nxt).i + 1) := by show _ ≤ _; have := HN49.out.l; omega
            have HCC := hid (HK60.out.add ⟨1, 0, 0, 0, 0, 0, x1, p1⟩ (by have h7 := HN60.out; have h8 : (s.nxt.nxt).i ≤ 2048 := HK60.out.il; show (s.nxt.nxt).nodes.length ≤ 10000; omega))
            have FIN : Hid (∀ eX WX, (eX = .returned (.int .i64 ((({ s.nxt.nxt with alive := al + 1 } : PSt)).nodes.length : Nat)) ∧ PzK w A T ((({ s.nxt.nxt with alive := al + 1 } : PSt)).add ⟨1, 0, 0, 0, 0, 0, x1, p1⟩) WX) → Q eX WX) := fun eX WX h => by
              rw [← HQ.out]
              exact .inl ⟨_, _, HP.out.symm, h.1, h.2⟩
            go_wp2_with fail
            refine HCC.out.mono ?_
            rintro e61 W61 ⟨rfl, k1⟩
            clear c9 c11 lb f11 al1
            have FIN2 := hid (FIN.out _ _ ⟨rfl, k1⟩)
            clear FIN k1 HCC
            go_wp2_with fail
            first | exact FIN2.out | (go_ret; exact FIN2.out) | (go_ret2; exact FIN2.out)
    · have hnx1 := hid hhnx1
      clear hhnx1
      have hp := HP.out
      clear HP
      unfold nameP at hp
      rw [if_pos hnx1.out] at hp
      have HP := hid hp
      clear hp
      obtain ⟨y62, hy62⟩ : ∃ y, failP T s.nxt 15 = .inl y := ⟨_, rfl⟩
      have HFY := hid hy62
      have HY : Hid (R = .inl y62) := by
        have hp := HP.out
        rw [hy62] at hp
        exact hp.symm
      clear hy62 HP
      have HCC := hid (HK1.out.nameN hnx1.out 1 HFY.out)
      go_wp2_with fail
      refine HCC.out.mono ?_
      rintro e62 W62 ⟨rfl, b1⟩
      clear c9 lb
      have HB62 := hid b1
      clear b1 HCC
      obtain ⟨c9, ne1, ne2⟩ := HB62.out.c
      have lb := HB62.out.lt
      have FIN : Hid (Q (.returned (.int .i64 0)) W62) := by
        show Q _ _
        rw [← HQ.out]
        exact .inr ⟨y62, 0, HY.out, rfl, HB62.out⟩
      go_wp2_with fail
      first | exact FIN.out | (go_ret; exact FIN.out) | (go_ret2; exact FIN.out)
end
end Go.Proofs.Qxb6500574aGreatDoor
