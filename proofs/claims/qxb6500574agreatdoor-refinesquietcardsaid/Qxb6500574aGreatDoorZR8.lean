/-
  THE WALKS of syntaxm: body, ifStmt.
-/
import Derived.Test.Qxb6500574aGreatDoorZR7
namespace Go.Proofs.Qxb6500574aGreatDoor
open Go Go.RowKit
set_option linter.unusedVariables false
set_option linter.unusedSimpArgs false
section
variable {T : List Tok} {n : Nat}
set_option maxRecDepth 100000
set_option maxHeartbeats 1000000
theorem blk_al {T : List Tok} {n room : Nat} {s s1 : PSt} {v : List Nat} (h : parM T n 9 room [] s = .inr (v, s1)) : s1.alive = s.alive := by
  cases n with
  | zero => cases h
  | succ n =>
    rw [pm9] at h
    by_cases z : room = 0
    · rw [if_pos z] at h
      cases h
    · rw [if_neg z] at h
      cases e : parM T n 10 room [0, 0, 0] s with
      | inl y => rw [e] at h; cases h
      | inr q =>
        rw [e] at h
        dsimp only [PBd] at h
        cases h
        rfl
theorem blk_lo {T : List Tok} {n room : Nat} {s s1 : PSt} {v : List Nat} (h : parM T n 9 room [] s = .inr (v, s1)) : s1.loops = s.loops := (par_lt n 9 room [] s (fun z => by cases z) v s1 h).lo
theorem PzN.cnt {s : PSt} {d : Nat} (h : PzN s d) {a l f : Nat} (ha : a ≤ 4 * s.i) (hl : l ≤ s.i) (hf : f ≤ s.i) : PzN { s with alive := a, loops := l, funcs := f } d := ⟨h.k, h.l, ha, hl, hf⟩
theorem body_z (C : ∀ m, m ≤ n → PCz T m) {w W : World} {A : PzP} {s : PSt} {room x : Nat} {lv : Int} (h0 : PzK w A T s W) (hn : PzN s 0) (hr : lv + room = 13 ∧ 1 ≤ lv) (h1 : 1 ≤ room) (hx4 : x ≤ 4) (hx : parM T (n + 1) 15 room [x] s ≠ x99) :
    Calls Tryz.prog 250 #[.pointer (some ⟨A.b, 0, none⟩), .int .i64 lv, .int .i64 (x : Nat)] W (PzR T w A (parM T (n + 1) 15 room [x] s)) := by
  obtain ⟨R, HR⟩ : ∃ R, Hid (parM T (n + 1) 15 room [x] s = R) := ⟨_, rfl⟩
  rw [HR.out] at hx ⊢
  obtain ⟨Q, HQ⟩ : ∃ Q : Ending → World → Prop, Hid (PzR T w A R = Q) := ⟨_, rfl⟩
  rw [HQ.out]
  have HC := hid C
  have HX := hid hx
  have HK0 := hid h0
  have HN0 := hid hn
  have HRM := hid hr
  have lv1 : 1 ≤ lv := hr.2
  have lv2 : lv ≤ 13 := by omega
  have HP : Hid (_ = R) := pm15.symm.trans HR.out
  clear C hx h0 hn HR hr
  have HX4 := hid hx4
  clear hx4
  obtain ⟨c3, c4, c5, c6, c9, c11, c12, c13⟩ := HK0.out.c
  have lb := HK0.out.lt
  clear c3 c4 c5 c6 c11 c12 c13
  go_enter Tryz.func250, Tryz.ntmps250
  by_cases hw1 : (curT T s).k = 6
  · have w1 := hid hw1
    clear hw1
    have hp := HP.out
    clear HP
    unfold expectP at hp
    rw [if_pos w1.out] at hp
    have HP := hid hp
    clear hp
    have HCC := hid (HK0.out.want (k := 6) (by decide) (by decide) (x := [100, 111]) rfl w1.out)
    go_wp2_with fail
    refine HCC.out.mono ?_
    rintro e2 W2 ⟨rfl, k1⟩
    clear c9 lb
    clear HCC
    have HK2 : Hid (PzK w A T s.nxt W2) := k1
    clear k1
    have HN2 : Hid (PzN s.nxt 1) := HN0.out.nxt
    obtain ⟨c3, c4, c5, c6, c9, c11, c12, c13⟩ := HK2.out.c
    have lb := HK2.out.lt
    clear c3 c4 c5 c6 c11 c12 c13
    have HAB : Hid (s.alive ≤ 100000 ∧ s.loops ≤ 100000) := by have a := HN0.out.al; have b := HN0.out.lo; have c := HK0.out.il; exact ⟨by omega, by omega⟩
    clear c9 lb
    obtain ⟨c3, c4, c5, c6, c9, c11, c12, c13⟩ := HK2.out.c
    have lb := HK2.out.lt
    clear c3 c4 c5 c6 c13
    have al1 := HAB.out.1
    have lo1 := HAB.out.2
    obtain ⟨al, HAL⟩ : ∃ al : Nat, Hid (s.alive = al) := ⟨_, rfl⟩
    obtain ⟨lo, HLO⟩ : ∃ lo : Nat, Hid (s.loops = lo) := ⟨_, rfl⟩
    replace c11 : W2.cell? ⟨A.b, 11, none⟩ = some (.int .i64 s.alive) := c11
    replace c12 : W2.cell? ⟨A.b, 12, none⟩ = some (.int .i64 s.loops) := c12
    rw [HAL.out] at c11 al1
    rw [HLO.out] at c12 lo1
    have f11 := HK2.out.fz 11
    have f12 := HK2.out.fz 12
    have x4 := HX4.out
    have HK20 := hid ((HK2.out.setAl (al + x) (u := (al : Int) + (x : Int)) (by omega)).setLo (lo + 1) (u := (lo : Int) + 1) (by omega))
    have HN20 : Hid (PzN ({ s.nxt with alive := al + x, loops := lo + 1 } : PSt) 1) := HN2.out.cnt (by show _ ≤ 4 * (s.i + 1); have := HN0.out.al; have := HAL.out; have := HX4.out; omega) (by show _ ≤ s.i + 1; have := HN0.out.lo; have := HLO.out; omega) (by show _ ≤ s.i + 1; have := HN0.out.fu; show s.funcs ≤ _; omega)
    have hp := HP.out
    clear HP
    have e1 : s.nxt.alive = al := HAL.out
    have e2 : s.nxt.loops = lo := HLO.out
    rw [e1, e2] at hp
    clear e1 e2
    have HP := hid hp
    clear hp
    have hx9 : parM T n 9 (room - 1) [] ({ s.nxt with alive := al + x, loops := lo + 1 } : PSt) ≠ x99 := fun e => HX.out (by have hp := HP.out; rw [e] at hp; exact hp.symm)
    have HCC := hid ((HC.out n (Nat.le_refl _)).b (lv := lv + 1) HK20.out (HN20.out.le (by omega)) (by have := HRM.out; omega) hx9)
    clear hx9
    go_wp2_with fail
    refine HCC.out.mono ?_
    intro e21 W21 q21
    clear c9 c11 c12 lb al1 lo1 f11 f12 x4
    clear HCC
    rcases q21 with ⟨v21, s21, hy, rfl, k1⟩ | ⟨y21, z21, hy, rfl, b1⟩
    · have HY := hid hy
      have HK21 := hid k1
      clear hy k1
      obtain ⟨n1, b1, l1⟩ := HN20.out.p9 HY.out
      have hp := HP.out
      clear HP
      rw [HY.out] at hp
      dsimp only [PBd] at hp
      have HP := hid hp
      clear hp
      obtain ⟨v, HVv⟩ : ∃ x : Nat, Hid (v21.getD 0 0 = x) := ⟨_, rfl⟩
      rw [HVv.out] at b1
      try rw [HVv.out] at HP
      have HN21 : Hid (PzN s21 1) := n1
      have HLv := hid b1
      have HMv := hid l1
      clear l1
      clear n1 b1
      rw [HVv.out]
      obtain ⟨c3, c4, c5, c6, c9, c11, c12, c13⟩ := HK21.out.c
      have lb := HK21.out.lt
      clear c3 c4 c5 c6 c13
      have HA2 : Hid (s21.alive = al + x) := blk_al HY.out
      have HL2 : Hid (s21.loops = lo + 1) := blk_lo HY.out
      rw [HA2.out] at c11
      rw [HL2.out] at c12
      have al1 : al ≤ 100000 := by have := HAB.out.1; have := HAL.out; omega
      have lo1 : lo ≤ 100000 := by have := HAB.out.2; have := HLO.out; omega
      have x4 := HX4.out
      have f11 := HK21.out.fz 11
      have f12 := HK21.out.fz 12
      have e5 : ((lo + 1 : Nat) : Int) - 1 = lo := by omega
      have e6 : ((al + x : Nat) : Int) - (x : Int) = al := by omega
      have e7 : (lo : Int) + 1 - 1 = lo := by omega
      have e8 : (al : Int) + (x : Int) - (x : Int) = al := by omega
      have HK30 := hid ((HK21.out.setLo lo (u := (lo : Int)) rfl).setAl al (u := (al : Int)) rfl)
      have hp := HP.out
      clear HP
      have hp : expectP T ({ s21 with loops := lo, alive := al } : PSt) 9 (fun s => .inr (v21, s)) = R := by
        rw [← hp]
        unfold expectP
        have e1 : (curT T ({ s21 with loops := lo, alive := al } : PSt)) = curT T s21 := rfl
        rw [e1]
        split
        · show (.inr (v21, _) : PR) = .inr (v21, _)
          have a1 : s21.nxt.alive - x = al := by show s21.alive - x = al; rw [HA2.out]; omega
          have a2 : s21.nxt.loops - 1 = lo := by show s21.loops - 1 = lo; rw [HL2.out]; omega
          rw [a1, a2]
          rfl
        · rfl
      have HP := hid hp
      clear hp
      have HN30 : Hid (PzN ({ s21 with loops := lo, alive := al } : PSt) 1) := HN21.out.cnt (by have := HN21.out.al; have := HA2.out; omega) (by have := HN21.out.lo; have := HL2.out; omega) HN21.out.fu
      by_cases hw31 : (curT T ({ s21 with loops := lo, alive := al } : PSt)).k = 9
      · have w31 := hid hw31
        clear hw31
        have hp := HP.out
        clear HP
        unfold expectP at hp
        rw [if_pos w31.out] at hp
        have HP := hid hp
        clear hp
        have HCC := hid (HK30.out.want (k := 9) (by decide) (by decide) (x := [101, 110, 100]) rfl w31.out)
        go_wp2_with fail
        refine HCC.out.mono ?_
        rintro e32 W32 ⟨rfl, k1⟩
        clear c9 c11 c12 lb al1 lo1 f11 f12 x4 e5 e6 e7 e8
        clear HCC
        have HK32 : Hid (PzK w A T (({ s21 with loops := lo, alive := al } : PSt)).nxt W32) := k1
        clear k1
        have HN32 : Hid (PzN (({ s21 with loops := lo, alive := al } : PSt)).nxt 2) := HN30.out.nxt
        have FIN : Hid (Q (.returned (.int .i64 (v : Nat))) W32) := by
          show Q _ _
          rw [← HQ.out]
          exact .inl ⟨_, _, HP.out.symm, by rw [HVv.out], HK32.out⟩
        go_wp2_with fail
        first | exact FIN.out | (go_ret; exact FIN.out) | (go_ret2; exact FIN.out)
      · have w31 := hid hw31
        clear hw31
        have hp := HP.out
        clear HP
        unfold expectP at hp
        rw [if_neg w31.out] at hp
        have HP := hid hp
        clear hp
        obtain ⟨y33, hy33⟩ : ∃ y, failP T ({ s21 with loops := lo, alive := al } : PSt) 15 = .inl y := ⟨_, rfl⟩
        have HFY := hid hy33
        have HY : Hid (R = .inl y33) := by
          have hp := HP.out
          rw [hy33] at hp
          exact hp.symm
        clear hy33 HP
        have HCC := hid (HK30.out.wantN (k := 9) (by decide) (by decide) (x := [101, 110, 100]) rfl w31.out HFY.out)
        go_wp2_with fail
        refine HCC.out.mono ?_
        rintro e33 W33 ⟨rfl, b1⟩
        clear c9 c11 c12 lb al1 lo1 f11 f12 x4 e5 e6 e7 e8
        have HB33 := hid b1
        clear b1 HCC
        obtain ⟨c9, ne1, ne2⟩ := HB33.out.c
        have lb := HB33.out.lt
        have FIN : Hid (Q (.returned (.int .i64 (v : Nat))) W33) := by
          show Q _ _
          rw [← HQ.out]
          exact .inr ⟨y33, (v : Nat), HY.out, rfl, HB33.out⟩
        go_wp2_with fail
        first | exact FIN.out | (go_ret; exact FIN.out) | (go_ret2; exact FIN.out)
    · have HB21 := hid b1
      have HY : Hid (R = .inl y21) := by
        have hp := HP.out
        rw [hy] at hp
        exact hp.symm
      clear hy b1 HP
      obtain ⟨c9, ne1, ne2⟩ := HB21.out.c
      have lb := HB21.out.lt
      obtain ⟨xa, xl, xf, c11, c12, c13, fz⟩ := HB21.out.cn
      have f11 := fz 11
      have f12 := fz 12
      clear fz c13
      obtain ⟨ul, hul⟩ : ∃ ul, IntKind.i64.wrap (xl - 1) = ul := ⟨_, rfl⟩
      obtain ⟨ua, hua⟩ : ∃ ua, IntKind.i64.wrap (xa - (x : Int)) = ua := ⟨_, rfl⟩
      have HB40 := hid ((HB21.out.setLo ul).setAl ua)
      have HCC := hid (HB40.out.want [101, 110, 100])
      go_wp2_with fail
      refine HCC.out.mono ?_
      rintro e41 W41 ⟨rfl, b1⟩
      clear c9 ne1 ne2 lb c11 c12 f11 f12 hul hua
      have HB41 := hid b1
      clear b1 HCC
      obtain ⟨c9, ne1, ne2⟩ := HB41.out.c
      have lb := HB41.out.lt
      have FIN : Hid (Q (.returned (.int .i64 z21)) W41) := by
        show Q _ _
        rw [← HQ.out]
        exact .inr ⟨y21, z21, HY.out, rfl, HB41.out⟩
      go_wp2_with fail
      first | exact FIN.out | (go_ret; exact FIN.out) | (go_ret2; exact FIN.out)
  · have w1 := hid hw1
    clear hw1
    have hp := HP.out
    clear HP
    unfold expectP at hp
    rw [if_neg w1.out] at hp
    have HP := hid hp
    clear hp
    obtain ⟨y42, hy42⟩ : ∃ y, failP T s 15 = .inl y := ⟨_, rfl⟩
    have HFY := hid hy42
    have HY : Hid (R = .inl y42) := by
      have hp := HP.out
      rw [hy42] at hp
      exact hp.symm
    clear hy42 HP
    have HCC := hid (HK0.out.wantN (k := 6) (by decide) (by decide) (x := [100, 111]) rfl w1.out HFY.out)
    go_wp2_with fail
    refine HCC.out.mono ?_
    rintro e42 W42 ⟨rfl, b1⟩
    clear c9 lb
    have HB42 := hid b1
    clear b1 HCC
    obtain ⟨c9, ne1, ne2⟩ := HB42.out.c
    have lb := HB42.out.lt
    have FIN : Hid (Q (.returned (.int .i64 0)) W42) := by
      show Q _ _
      rw [← HQ.out]
      exact .inr ⟨y42, 0, HY.out, rfl, HB42.out⟩
    go_wp2_with fail
    first | exact FIN.out | (go_ret; exact FIN.out) | (go_ret2; exact FIN.out)
theorem if_z (C : ∀ m, m ≤ n → PCz T m) {w W : World} {A : PzP} {s : PSt} {room : Nat} {lv : Int} (h0 : PzK w A T s W) (hn : PzN s 0) (hr : lv + room = 13 ∧ 1 ≤ lv) (h1 : 1 ≤ room) (h2 : 2 ≤ (curT T s).k) (hx : parM T (n + 1) 13 room [] s ≠ x99) :
    Calls Tryz.prog 247 #[.pointer (some ⟨A.b, 0, none⟩), .int .i64 lv] W (PzR T w A (parM T (n + 1) 13 room [] s)) := by
  obtain ⟨R, HR⟩ : ∃ R, Hid (parM T (n + 1) 13 room [] s = R) := ⟨_, rfl⟩
  rw [HR.out] at hx ⊢
  obtain ⟨Q, HQ⟩ : ∃ Q : Ending → World → Prop, Hid (PzR T w A R = Q) := ⟨_, rfl⟩
  rw [HQ.out]
  have HC := hid C
  have HX := hid hx
  have HK0 := hid h0
  have HN0 := hid hn
  have HRM := hid hr
  have lv1 : 1 ≤ lv := hr.2
  have lv2 : lv ≤ 13 := by omega
  have HP : Hid (_ = R) := pm13.symm.trans HR.out
  clear C hx h0 hn HR hr
  obtain ⟨c3, c4, c5, c6, c9, c11, c12, c13⟩ := HK0.out.c
  have lb := HK0.out.lt
  clear c3 c4 c5 c11 c12 c13
  obtain ⟨tp, HTP⟩ : ∃ tp : Nat, Hid ((curT T s).p = tp) := ⟨_, rfl⟩
  rw [HTP.out] at c6
  have hp := HP.out
  clear HP
  rw [HTP.out] at hp
  have HP := hid hp
  clear hp
  go_enter Tryz.func247, Tryz.ntmps247
  have HCC := hid (HK0.out.next (h2))
  go_wp2_with fail
  refine HCC.out.mono ?_
  rintro e1 W1 ⟨rfl, k1⟩
  clear c6 c9 lb
  clear HCC
  have HK1 : Hid (PzK w A T s.nxt W1) := k1
  clear k1
  have HN1 : Hid (PzN s.nxt 1) := (HN0.out.nxt)
  obtain ⟨c3, c4, c5, c6, c9, c11, c12, c13⟩ := HK1.out.c
  have lb := HK1.out.lt
  clear c3 c4 c5 c6 c11 c12 c13
  have hx9 : parM T n 0 (room - 1) [1] s.nxt ≠ x99 := fun e => HX.out (by have hp := HP.out; rw [e] at hp; exact hp.symm)
  have HCC := hid ((HC.out n (Nat.le_refl _)).e (lv := lv + 1) HK1.out (HN1.out.le (by omega)) (by have := HRM.out; omega) hx9)
  clear hx9
  go_wp2_with fail
  refine HCC.out.mono ?_
  intro e2 W2 q2
  clear c9 lb
  clear HCC
  rcases q2 with ⟨v2, s2, hy, rfl, k1⟩ | ⟨y2, z2, hy, rfl, b1⟩
  · have HY := hid hy
    have HK2 := hid k1
    clear hy k1
    obtain ⟨n1, a1, b1⟩ := HN1.out.p0 HY.out
    have hp := HP.out
    clear HP
    rw [HY.out] at hp
    dsimp only [PBd] at hp
    have HP := hid hp
    clear hp
    obtain ⟨c, HVc⟩ : ∃ x : Nat, Hid (v2.getD 0 0 = x) := ⟨_, rfl⟩
    rw [HVc.out] at b1 a1
    try rw [HVc.out] at HP
    have HN2 : Hid (PzN s2 1) := n1
    have HLc := hid b1
    have HGc := hid a1
    clear a1
    clear n1 b1
    rw [HVc.out]
    obtain ⟨c3, c4, c5, c6, c9, c11, c12, c13⟩ := HK2.out.c
    have lb := HK2.out.lt
    clear c3 c4 c5 c6 c11 c12 c13
    have hr2 : 2 ≤ room := by
      apply Decidable.byContradiction
      intro z
      have e : room - 1 = 0 := by omega
      have hy := HY.out
      rw [e] at hy
      rcases parM_room0 (T := T) n 1 s.nxt (by decide) (by decide) with q | q
      · rw [q] at hy; cases hy
      · rw [q] at hy; cases hy
    by_cases hw3 : (curT T s2).k = 19
    · have w3 := hid hw3
      clear hw3
      have hp := HP.out
      clear HP
      unfold expectP at hp
      rw [if_pos w3.out] at hp
      have HP := hid hp
      clear hp
      have HCC := hid (HK2.out.want (k := 19) (by decide) (by decide) (x := [116, 104, 101, 110]) rfl w3.out)
      go_wp2_with fail
      refine HCC.out.mono ?_
      rintro e4 W4 ⟨rfl, k1⟩
      clear c9 lb
      clear HCC
      have HK4 : Hid (PzK w A T s2.nxt W4) := k1
      clear k1
      have HN4 : Hid (PzN s2.nxt 2) := HN2.out.nxt
      obtain ⟨c3, c4, c5, c6, c9, c11, c12, c13⟩ := HK4.out.c
      have lb := HK4.out.lt
      clear c3 c4 c5 c6 c11 c12 c13
      have hx9 : parM T n 9 (room - 1) [] s2.nxt ≠ x99 := fun e => HX.out (by have hp := HP.out; rw [e] at hp; exact hp.symm)
      have HCC := hid ((HC.out n (Nat.le_refl _)).b (lv := lv + 1) HK4.out (HN4.out.le (by omega)) (by have := HRM.out; omega) hx9)
      clear hx9
      go_wp2_with fail
      refine HCC.out.mono ?_
      intro e5 W5 q5
      clear c9 lb
      clear HCC
      rcases q5 with ⟨v5, s5, hy, rfl, k1⟩ | ⟨y5, z5, hy, rfl, b1⟩
      · have HY := hid hy
        have HK5 := hid k1
        clear hy k1
        obtain ⟨n1, b1, l1⟩ := HN4.out.p9 HY.out
        have hp := HP.out
        clear HP
        rw [HY.out] at hp
        dsimp only [PBd] at hp
        have HP := hid hp
        clear hp
        obtain ⟨b, HVb⟩ : ∃ x : Nat, Hid (v5.getD 0 0 = x) := ⟨_, rfl⟩
        rw [HVb.out] at b1
        try rw [HVb.out] at HP
        have HN5 : Hid (PzN s5 2) := n1
        have HLb := hid b1
        have HMb := hid l1
        clear l1
        clear n1 b1
        rw [HVb.out]
        by_cases hhei : (curT T s5).k = 8
        · have hei := hid hhei
          clear hhei
          have hp := HP.out
          clear HP
          rw [if_pos hei.out] at hp
          have HP := hid hp
          clear hp
          obtain ⟨c3, c4, c5, c6, c9, c11, c12, c13⟩ := HK5.out.c
          have lb := HK5.out.lt
          clear c3 c4 c5 c6 c11 c12 c13
          have CI := HK5.out.is (k := 8) (by decide) (by decide) (x := [101, 108, 115, 101, 105, 102]) rfl
          rw [decide_eq_true hei.out] at CI
          have HCI := hid CI
          clear CI
          go_wp2_with fail
          refine HCI.out.mono ?_
          rintro e6 V6 ⟨rfl, hw⟩
          rw [hw]
          clear hw HCI V6
          have hx9 : parM T n 13 (room - 1) [] s5 ≠ x99 := fun e => HX.out (by have hp := HP.out; rw [e] at hp; exact hp.symm)
          have HCC := hid ((HC.out n (Nat.le_refl _)).i (lv := lv + 1) HK5.out (HN5.out.le (by omega)) (by have := HRM.out; omega) (by omega) (by have := hei.out; omega) hx9)
          clear hx9
          go_wp2_with fail
          refine HCC.out.mono ?_
          intro e7 W7 q7
          clear c9 lb
          clear HCC
          rcases q7 with ⟨v7, s7, hy, rfl, k1⟩ | ⟨y7, z7, hy, rfl, b1⟩
          · have HY := hid hy
            have HK7 := hid k1
            clear hy k1
            obtain ⟨n1, a1, b1⟩ := HN5.out.p13 HY.out
            have hp := HP.out
            clear HP
            rw [HY.out] at hp
            dsimp only [PBd] at hp
            have HP := hid hp
            clear hp
            obtain ⟨z, HVz⟩ : ∃ x : Nat, Hid (v7.getD 0 0 = x) := ⟨_, rfl⟩
            rw [HVz.out] at b1 a1
            try rw [HVz.out] at HP
            have HN7 : Hid (PzN s7 2) := n1
            have HLz := hid b1
            have HGz := hid a1
            clear a1
            clear n1 b1
            rw [HVz.out]
            obtain ⟨c3, c4, c5, c6, c9, c11, c12, c13⟩ := HK7.out.c
            have lb := HK7.out.lt
            clear c3 c4 c5 c6 c11 c12 c13
            have HCC := hid (HK7.out.add ⟨6, c, b, z, 0, 0, [], tp⟩ (by have := HN7.out.l; have := HK7.out.il; omega))
            have FIN : Hid (∀ e W, (e = .returned (.int .i64 ((s7).nodes.length : Nat)) ∧ PzK w A T ((s7).add ⟨6, c, b, z, 0, 0, [], tp⟩) W) → Q e W) := fun e W h => by
              rw [← HQ.out]
              exact .inl ⟨_, _, HP.out.symm, h.1, h.2⟩
            go_wp2_with fail
            refine HCC.out.mono ?_
            rintro e8 W8 ⟨rfl, k1⟩
            clear c9 lb
            have FIN2 := hid (FIN.out _ _ ⟨rfl, k1⟩)
            clear FIN k1 HCC
            go_wp2_with fail
            first | exact FIN2.out | (go_ret; exact FIN2.out) | (go_ret2; exact FIN2.out)
          · have HB7 := hid b1
            have HY : Hid (R = .inl y7) := by
              have hp := HP.out
              rw [hy] at hp
              exact hp.symm
            clear hy b1 HP
            obtain ⟨c9, ne1, ne2⟩ := HB7.out.c
            have lb := HB7.out.lt
            have FIN : Hid (Q (.returned (.int .i64 0)) W7) := by
              show Q _ _
              rw [← HQ.out]
              exact .inr ⟨y7, 0, HY.out, rfl, HB7.out⟩
            go_wp2_with fail
            first | exact FIN.out | (go_ret; exact FIN.out) | (go_ret2; exact FIN.out)
        · have hei := hid hhei
          clear hhei
          have hp := HP.out
          clear HP
          rw [if_neg hei.out] at hp
          have HP := hid hp
          clear hp
          by_cases hhel : (curT T s5).k = 7
          · have hel := hid hhel
            clear hhel
            have hp := HP.out
            clear HP
            rw [if_pos hel.out] at hp
            have HP := hid hp
            clear hp
            obtain ⟨c3, c4, c5, c6, c9, c11, c12, c13⟩ := HK5.out.c
            have lb := HK5.out.lt
            clear c3 c4 c5 c6 c11 c12 c13
            have CI := HK5.out.is (k := 8) (by decide) (by decide) (x := [101, 108, 115, 101, 105, 102]) rfl
            rw [decide_eq_false hei.out] at CI
            have HCI := hid CI
            clear CI
            go_wp2_with fail
            refine HCI.out.mono ?_
            rintro e9 V9 ⟨rfl, hw⟩
            rw [hw]
            clear hw HCI V9
            have CI := HK5.out.is (k := 7) (by decide) (by decide) (x := [101, 108, 115, 101]) rfl
            rw [decide_eq_true hel.out] at CI
            have HCI := hid CI
            clear CI
            go_wp2_with fail
            refine HCI.out.mono ?_
            rintro e10 V10 ⟨rfl, hw⟩
            rw [hw]
            clear hw HCI V10
            have HCC := hid (HK5.out.next (by have := hel.out; omega))
            go_wp2_with fail
            refine HCC.out.mono ?_
            rintro e11 W11 ⟨rfl, k1⟩
            clear c9 lb
            clear HCC
            have HK11 : Hid (PzK w A T s5.nxt W11) := k1
            clear k1
            have HN11 : Hid (PzN s5.nxt 3) := (HN5.out.nxt)
            obtain ⟨c3, c4, c5, c6, c9, c11, c12, c13⟩ := HK11.out.c
            have lb := HK11.out.lt
            clear c3 c4 c5 c6 c11 c12 c13
            have hx9 : parM T n 9 (room - 1) [] s5.nxt ≠ x99 := fun e => HX.out (by have hp := HP.out; rw [e] at hp; exact hp.symm)
            have HCC := hid ((HC.out n (Nat.le_refl _)).b (lv := lv + 1) HK11.out (HN11.out.le (by omega)) (by have := HRM.out; omega) hx9)
            clear hx9
            go_wp2_with fail
            refine HCC.out.mono ?_
            intro e12 W12 q12
            clear c9 lb
            clear HCC
            rcases q12 with ⟨v12, s12, hy, rfl, k1⟩ | ⟨y12, z12, hy, rfl, b1⟩
            · have HY := hid hy
              have HK12 := hid k1
              clear hy k1
              obtain ⟨n1, b1, l1⟩ := HN11.out.p9 HY.out
              have hp := HP.out
              clear HP
              rw [HY.out] at hp
              dsimp only [PBd] at hp
              have HP := hid hp
              clear hp
              obtain ⟨z, HVz⟩ : ∃ x : Nat, Hid (v12.getD 0 0 = x) := ⟨_, rfl⟩
              rw [HVz.out] at b1
              try rw [HVz.out] at HP
              have HN12 : Hid (PzN s12 3) := n1
              have HLz := hid b1
              have HMz := hid l1
              clear l1
              clear n1 b1
              rw [HVz.out]
              obtain ⟨c3, c4, c5, c6, c9, c11, c12, c13⟩ := HK12.out.c
              have lb := HK12.out.lt
              clear c3 c4 c5 c6 c11 c12 c13
              by_cases hw13 : (curT T s12).k = 9
              · have w13 := hid hw13
                clear hw13
                have hp := HP.out
                clear HP
                unfold expectP at hp
                rw [if_pos w13.out] at hp
                have HP := hid hp
                clear hp
                have HCC := hid (HK12.out.want (k := 9) (by decide) (by decide) (x := [101, 110, 100]) rfl w13.out)
                go_wp2_with fail
                refine HCC.out.mono ?_
                rintro e14 W14 ⟨rfl, k1⟩
                clear c9 lb
                clear HCC
                have HK14 : Hid (PzK w A T s12.nxt W14) := k1
                clear k1
                have HN14 : Hid (PzN s12.nxt 4) := HN12.out.nxt
                obtain ⟨c3, c4, c5, c6, c9, c11, c12, c13⟩ := HK14.out.c
                have lb := HK14.out.lt
                clear c3 c4 c5 c6 c11 c12 c13
                have HCC := hid (HK14.out.add ⟨6, c, b, z, 0, 0, [], tp⟩ (by have := HN14.out.l; have := HK14.out.il; omega))
                have FIN : Hid (∀ e W, (e = .returned (.int .i64 ((s12.nxt).nodes.length : Nat)) ∧ PzK w A T ((s12.nxt).add ⟨6, c, b, z, 0, 0, [], tp⟩) W) → Q e W) := fun e W h => by
                  rw [← HQ.out]
                  exact .inl ⟨_, _, HP.out.symm, h.1, h.2⟩
                go_wp2_with fail
                refine HCC.out.mono ?_
                rintro e15 W15 ⟨rfl, k1⟩
                clear c9 lb
                have FIN2 := hid (FIN.out _ _ ⟨rfl, k1⟩)
                clear FIN k1 HCC
                go_wp2_with fail
                first | exact FIN2.out | (go_ret; exact FIN2.out) | (go_ret2; exact FIN2.out)
              · have w13 := hid hw13
                clear hw13
                have hp := HP.out
                clear HP
                unfold expectP at hp
                rw [if_neg w13.out] at hp
                have HP := hid hp
                clear hp
                obtain ⟨y16, hy16⟩ : ∃ y, failP T s12 15 = .inl y := ⟨_, rfl⟩
                have HFY := hid hy16
                have HY : Hid (R = .inl y16) := by
                  have hp := HP.out
                  rw [hy16] at hp
                  exact hp.symm
                clear hy16 HP
                have HCC := hid (HK12.out.wantN (k := 9) (by decide) (by decide) (x := [101, 110, 100]) rfl w13.out HFY.out)
                go_wp2_with fail
                refine HCC.out.mono ?_
                rintro e16 W16 ⟨rfl, b1⟩
                clear c9 lb
                have HB16 := hid b1
                clear b1 HCC
                obtain ⟨c9, ne1, ne2⟩ := HB16.out.c
                have lb := HB16.out.lt
                have FIN : Hid (Q (.returned (.int .i64 0)) W16) := by
                  show Q _ _
                  rw [← HQ.out]
                  exact .inr ⟨y16, 0, HY.out, rfl, HB16.out⟩
                go_wp2_with fail
                first | exact FIN.out | (go_ret; exact FIN.out) | (go_ret2; exact FIN.out)
            · have HB12 := hid b1
              have HY : Hid (R = .inl y12) := by
                have hp := HP.out
                rw [hy] at hp
                exact hp.symm
              clear hy b1 HP
              obtain ⟨c9, ne1, ne2⟩ := HB12.out.c
              have lb := HB12.out.lt
              have HCC := hid (HB12.out.want [101, 110, 100])
              go_wp2_with fail
              refine HCC.out.mono ?_
              rintro e17 W17 ⟨rfl, b1⟩
              clear c9 ne1 ne2 lb
              have HB17 := hid b1
              clear b1 HCC
              obtain ⟨c9, ne1, ne2⟩ := HB17.out.c
              have lb := HB17.out.lt
              have FIN : Hid (Q (.returned (.int .i64 0)) W17) := by
                show Q _ _
                rw [← HQ.out]
                exact .inr ⟨y12, 0, HY.out, rfl, HB17.out⟩
              go_wp2_with fail
              first | exact FIN.out | (go_ret; exact FIN.out) | (go_ret2; exact FIN.out)
          · have hel := hid hhel
            clear hhel
            have hp := HP.out
            clear HP
            rw [if_neg hel.out] at hp
            have HP := hid hp
            clear hp
            obtain ⟨c3, c4, c5, c6, c9, c11, c12, c13⟩ := HK5.out.c
            have lb := HK5.out.lt
            clear c3 c4 c5 c6 c11 c12 c13
            have CI := HK5.out.is (k := 8) (by decide) (by decide) (x := [101, 108, 115, 101, 105, 102]) rfl
            rw [decide_eq_false hei.out] at CI
            have HCI := hid CI
            clear CI
            go_wp2_with fail
            refine HCI.out.mono ?_
            rintro e18 V18 ⟨rfl, hw⟩
            rw [hw]
            clear hw HCI V18
            have CI := HK5.out.is (k := 7) (by decide) (by decide) (x := [101, 108, 115, 101]) rfl
            rw [decide_eq_false hel.out] at CI
            have HCI := hid CI
            clear CI
            go_wp2_with fail
            refine HCI.out.mono ?_
            rintro e19 V19 ⟨rfl, hw⟩
            rw [hw]
            clear hw HCI V19
            by_cases hw20 : (curT T s5).k = 9
            · have w20 := hid hw20
              clear hw20
              have hp := HP.out
              clear HP
              unfold expectP at hp
              rw [if_pos w20.out] at hp
              have HP := hid hp
              clear hp
              have HCC := hid (HK5.out.want (k := 9) (by decide) (by decide) (x := [101, 110, 100]) rfl w20.out)
              go_wp2_with fail
              refine HCC.out.mono ?_
              rintro e21 W21 ⟨rfl, k1⟩
              clear c9 lb
              clear HCC
              have HK21 : Hid (PzK w A T s5.nxt W21) := k1
              clear k1
              have HN21 : Hid (PzN s5.nxt 3) := HN5.out.nxt
              obtain ⟨c3, c4, c5, c6, c9, c11, c12, c13⟩ := HK21.out.c
              have lb := HK21.out.lt
              clear c3 c4 c5 c6 c11 c12 c13
              have HCC := hid (HK21.out.add ⟨6, c, b, 0, 0, 0, [], tp⟩ (by have := HN21.out.l; have := HK21.out.il; omega))
              have FIN : Hid (∀ e W, (e = .returned (.int .i64 ((s5.nxt).nodes.length : Nat)) ∧ PzK w A T ((s5.nxt).add ⟨6, c, b, 0, 0, 0, [], tp⟩) W) → Q e W) := fun e W h => by
                rw [← HQ.out]
                exact .inl ⟨_, _, HP.out.symm, h.1, h.2⟩
              go_wp2_with fail
              refine HCC.out.mono ?_
              rintro e22 W22 ⟨rfl, k1⟩
              clear c9 lb
              have FIN2 := hid (FIN.out _ _ ⟨rfl, k1⟩)
              clear FIN k1 HCC
              go_wp2_with fail
              first | exact FIN2.out | (go_ret; exact FIN2.out) | (go_ret2; exact FIN2.out)
            · have w20 := hid hw20
              clear hw20
              have hp := HP.out
              clear HP
              unfold expectP at hp
              rw [if_neg w20.out] at hp
              have HP := hid hp
              clear hp
              obtain ⟨y23, hy23⟩ : ∃ y, failP T s5 15 = .inl y := ⟨_, rfl⟩
              have HFY := hid hy23
              have HY : Hid (R = .inl y23) := by
                have hp := HP.out
                rw [hy23] at hp
                exact hp.symm
              clear hy23 HP
              have HCC := hid (HK5.out.wantN (k := 9) (by decide) (by decide) (x := [101, 110, 100]) rfl w20.out HFY.out)
              go_wp2_with fail
              refine HCC.out.mono ?_
              rintro e23 W23 ⟨rfl, b1⟩
              clear c9 lb
              have HB23 := hid b1
              clear b1 HCC
              obtain ⟨c9, ne1, ne2⟩ := HB23.out.c
              have lb := HB23.out.lt
              have FIN : Hid (Q (.returned (.int .i64 0)) W23) := by
                show Q _ _
                rw [← HQ.out]
                exact .inr ⟨y23, 0, HY.out, rfl, HB23.out⟩
              go_wp2_with fail
              first | exact FIN.out | (go_ret; exact FIN.out) | (go_ret2; exact FIN.out)
      · have HB5 := hid b1
        have HY : Hid (R = .inl y5) := by
          have hp := HP.out
          rw [hy] at hp
          exact hp.symm
        clear hy b1 HP
        obtain ⟨c9, ne1, ne2⟩ := HB5.out.c
        have lb := HB5.out.lt
        have FIN : Hid (Q (.returned (.int .i64 0)) W5) := by
          show Q _ _
          rw [← HQ.out]
          exact .inr ⟨y5, 0, HY.out, rfl, HB5.out⟩
        go_wp2_with fail
        first | exact FIN.out | (go_ret; exact FIN.out) | (go_ret2; exact FIN.out)
    · have w3 := hid hw3
      clear hw3
      have hp := HP.out
      clear HP
      unfold expectP at hp
      rw [if_neg w3.out] at hp
      have HP := hid hp
      clear hp
      obtain ⟨y24, hy24⟩ : ∃ y, failP T s2 15 = .inl y := ⟨_, rfl⟩
      have HFY := hid hy24
      have HY : Hid (R = .inl y24) := by
        have hp := HP.out
        rw [hy24] at hp
        exact hp.symm
      clear hy24 HP
      have HCC := hid (HK2.out.wantN (k := 19) (by decide) (by decide) (x := [116, 104, 101, 110]) rfl w3.out HFY.out)
      go_wp2_with fail
      refine HCC.out.mono ?_
      rintro e24 W24 ⟨rfl, b1⟩
      clear c9 lb
      have HB24 := hid b1
      clear b1 HCC
      obtain ⟨c9, ne1, ne2⟩ := HB24.out.c
      have lb := HB24.out.lt
      have FIN : Hid (Q (.returned (.int .i64 0)) W24) := by
        show Q _ _
        rw [← HQ.out]
        exact .inr ⟨y24, 0, HY.out, rfl, HB24.out⟩
      go_wp2_with fail
      first | exact FIN.out | (go_ret; exact FIN.out) | (go_ret2; exact FIN.out)
  · have HB2 := hid b1
    have HY : Hid (R = .inl y2) := by
      have hp := HP.out
      rw [hy] at hp
      exact hp.symm
    clear hy b1 HP
    obtain ⟨c9, ne1, ne2⟩ := HB2.out.c
    have lb := HB2.out.lt
    have HCC := hid (HB2.out.want [116, 104, 101, 110])
    go_wp2_with fail
    refine HCC.out.mono ?_
    rintro e25 W25 ⟨rfl, b1⟩
    clear c9 ne1 ne2 lb
    have HB25 := hid b1
    clear b1 HCC
    obtain ⟨c9, ne1, ne2⟩ := HB25.out.c
    have lb := HB25.out.lt
    have FIN : Hid (Q (.returned (.int .i64 0)) W25) := by
      show Q _ _
      rw [← HQ.out]
      exact .inr ⟨y2, 0, HY.out, rfl, HB25.out⟩
    go_wp2_with fail
    first | exact FIN.out | (go_ret; exact FIN.out) | (go_ret2; exact FIN.out)
end
end Go.Proofs.Qxb6500574aGreatDoor
