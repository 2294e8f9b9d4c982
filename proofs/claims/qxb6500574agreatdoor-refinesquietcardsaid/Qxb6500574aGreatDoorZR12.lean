/-
  THE WALKS of syntaxm: function.
-/
import Derived.Test.Qxb6500574aGreatDoorZR11
namespace Go.Proofs.Qxb6500574aGreatDoor
open Go Go.RowKit
set_option linter.unusedVariables false
set_option linter.unusedSimpArgs false
section
variable {T : List Tok} {n : Nat}
set_option maxRecDepth 100000
set_option maxHeartbeats 1000000
/-- nothing is alive -/
def al0 (s : PSt) : PSt := { s with alive := 0 }
theorem al0_link (s : PSt) (l x : Nat) : (al0 s).link l x = al0 (s.link l x) := by
  unfold PSt.link
  split
  · rfl
  · rfl
/-- where an error stands, a name may be passed -/
theorem PzB.name0 {w W : World} {A : PzP} {y : Nat × Nat} (h : PzB w A y W) : Calls Tryz.prog 278 #[.pointer (some ⟨A.b, 0, none⟩), .int .i64 0] W fun e w' => ∃ (vs : Bs) (z : Int), e = .returned (.tuple #[sv vs, .int .i64 z]) ∧ PzB w A y w' := by
  obtain ⟨h0, A', d, m, h1, h2, S⟩ := h
  have HH : Hid (PzB w A y W) := ⟨h0, A', d, m, h1, h2, S⟩
  obtain ⟨c3, c4, _, c6, _, lb⟩ := m.c3
  rw [S.b] at c3 c4 c6 lb
  obtain ⟨tk, HTK⟩ : ∃ tk : Nat, Hid (d.t.k = tk) := ⟨_, rfl⟩
  obtain ⟨ts, HTS⟩ : ∃ ts, Hid (d.t.s = ts) := ⟨_, rfl⟩
  obtain ⟨tp, HTP⟩ : ∃ tp : Nat, Hid (d.t.p = tp) := ⟨_, rfl⟩
  rw [HTK.out] at c3
  rw [HTS.out] at c4
  rw [HTP.out] at c6
  clear m h1 h2 S h0
  by_cases hk : tk = 1
  · subst hk
    have HC2 := hid HH.out.next
    have c3 : W.cell? ⟨A.b, 3, none⟩ = some (.int .i64 1) := c3
    go_enter Tryz.func278, Tryz.ntmps278
    go_wp2_with fail
    refine HC2.out.mono ?_
    rintro e2 w2 ⟨rfl, k2⟩
    have HK2 := hid k2
    clear k2 c3 c4 c6 lb
    go_wp2_with fail
    go_ret2
    exact ⟨_, _, rfl, HK2.out⟩
  · have b1 : ((tk : Int) != 1) = true := by rw [bne_iff_ne]; omega
    have HC2 := hid (HH.out.fail 15)
    go_enter Tryz.func278, Tryz.ntmps278
    go_wp2_with fail
    refine HC2.out.mono ?_
    rintro e2 w2 ⟨rfl, hw⟩
    rw [hw]
    go_wp2_with fail
    go_ret2
    exact ⟨[], 0, rfl, HH.out⟩
/-- so many parameters are read -/
def PzI8 (w : World) (A : PzP) (T : List Tok) (n room lo : Nat) (K : List Nat → PSt → PR) (R : PR) (m : Nat) (v8 v9 v10 : Value) (wr : World) : Prop :=
  ∃ (fi la np : Nat) (s1 : PSt), v8 = .int .i64 fi ∧ v9 = .int .i64 la ∧ v10 = .int .i64 np ∧ PzK w A T (al0 s1) wr ∧ PzN s1 0 ∧ fi < s1.nodes.length ∧ la < s1.nodes.length ∧ (fi = 0 ↔ la = 0) ∧ np ≤ 3 ∧ s1.loops = lo ∧ np ≤ s1.i ∧ PBd (parM T m 8 room [np, fi, la] s1) K = R ∧ m ≤ n
theorem PzN.al0 {s : PSt} {d : Nat} (h : PzN s d) : PzN (al0 s) d := ⟨h.k, h.l, Nat.zero_le _, h.lo, h.fu⟩
theorem fun_z (C : ∀ m, m ≤ n → PCz T m) {w W : World} {A : PzP} {s : PSt} {room pl : Nat} {lv : Int} (h0 : PzK w A T s W) (hn : PzN s 0) (hr : lv + room = 13 ∧ 1 ≤ lv) (h1 : 1 ≤ room) (h39 : (curT T s).k = 39) (hx : parM T (n + 1) 7 room [pl] s ≠ x99) :
    Calls Tryz.prog 279 #[.pointer (some ⟨A.b, 0, none⟩), .int .i64 lv, .int .i64 (pl : Nat)] W (PzR T w A (parM T (n + 1) 7 room [pl] s)) := by
  obtain ⟨R, HR⟩ : ∃ R, Hid (parM T (n + 1) 7 room [pl] s = R) := ⟨_, rfl⟩
  rw [HR.out] at hx ⊢
  obtain ⟨Q, HQ⟩ : ∃ Q : Ending → World → Prop, Hid (PzR T w A R = Q) := ⟨_, rfl⟩
  rw [HQ.out]
  have HC := hid C
  have HX := hid hx
  have HK0 := hid h0
  have HN0 := hid hn
  have HRM := hid hr
  have lv1 : 1 ≤ lv := hr.2
  have lv2 : lv ≤ 13 := by omega
  have HP : Hid (_ = R) := pm7.symm.trans HR.out
  clear C hx h0 hn HR hr
  have hp := HP.out
  clear HP
  unfold expectP at hp
  rw [if_pos h39] at hp
  have HP := hid hp
  clear hp
  have al1 : s.alive ≤ 100000 ∧ s.loops ≤ 100000 ∧ s.funcs ≤ 100000 := by have a := HN0.out.al; have b := HN0.out.lo; have c := HN0.out.fu; have d := HK0.out.il; exact ⟨by omega, by omega, by omega⟩
  obtain ⟨a1, b1, d1⟩ := al1
  obtain ⟨c3, c4, c5, c6, c9, c11, c12, c13⟩ := HK0.out.c
  have lb := HK0.out.lt
  clear c3 c4 c5 c6
  have f13 := HK0.out.fz 13
  have HFU0 := hid (HN0.out.fu)
  obtain ⟨fu, HFU⟩ : ∃ fu : Nat, Hid (s.funcs = fu) := ⟨_, rfl⟩
  obtain ⟨al, HAL⟩ : ∃ al : Nat, Hid (s.alive = al) := ⟨_, rfl⟩
  obtain ⟨lo, HLO⟩ : ∃ lo : Nat, Hid (s.loops = lo) := ⟨_, rfl⟩
  rw [HFU.out] at c13 d1
  rw [HAL.out] at c11 a1
  rw [HLO.out] at c12 b1
  obtain ⟨fu1, HFU1⟩ : ∃ fu1 : Nat, Hid (fu + 1 = fu1) := ⟨_, rfl⟩
  have efu : (fu : Int) + 1 = (fu1 : Int) := by have := HFU1.out; omega
  have fu1b : fu1 ≤ 200000 := by have := HFU1.out; omega
  have HK1 := hid (HK0.out.setFu fu1 (u := (fu1 : Int)) rfl)
  have HNX : Hid (PzN ({ s.nxt with funcs := fu1 } : PSt) 1) := by
    have h := HN0.out.nxt
    exact ⟨h.k, h.l, h.al, h.lo, by have := HN0.out.fu; have := HFU.out; show fu1 ≤ s.i + 1; have := HFU1.out; omega⟩
  go_enter Tryz.func279, Tryz.ntmps279
  have HCC := hid (HK1.out.next (by show 2 ≤ (curT T s).k; omega))
  go_wp2_with fail
  refine HCC.out.mono ?_
  rintro e2 W2 ⟨rfl, k1⟩
  clear c9 lb f13 c11 c12 c13 efu d1
  clear HCC
  have HK2 : Hid (PzK w A T ({ s.nxt with funcs := fu1 } : PSt) W2) := k1
  clear k1
  obtain ⟨c3, c4, c5, c6, c9, c11, c12, c13⟩ := HK2.out.c
  clear c3 c4 c5 c6 c9 c13
  have lb := HK2.out.lt
  have f11 := HK2.out.fz 11
  replace c11 : W2.cell? ⟨A.b, 11, none⟩ = some (.int .i64 s.alive) := c11
  replace c12 : W2.cell? ⟨A.b, 12, none⟩ = some (.int .i64 s.loops) := c12
  rw [HAL.out] at c11
  rw [HLO.out] at c12
  obtain ⟨K8, HK8⟩ : ∃ K, Hid ((fun (v : List Nat) (s1 : PSt) => PBd (parM T n 9 (room - 1) [] { s1 with alive := v.getD 1 0, loops := 0 }) fun u s2 => expectP T s2 9 fun s3 => okP { s3 with alive := al, loops := lo } ⟨20, v.getD 0 0, u.getD 0 0, 0, 0, fu1, [], pl⟩) = K) := ⟨_, rfl⟩
  have HPK : Hid (PBd (parM T n 8 room [0, 0, 0] { s.nxt with funcs := fu1 }) K8 = R) := by
    show _ = R
    rw [← HK8.out, ← HFU1.out, ← HFU.out, ← HAL.out, ← HLO.out]
    have hp := HP.out
    unfold expectP
    exact hp
  clear HP
  have HI : Hid (PzI8 w A T n room lo K8 R n (.int .i64 0) (.int .i64 0) (.int .i64 0) (W2.setCell ⟨A.b, 11, none⟩ (.int .i64 0))) := ⟨0, 0, 0, { s.nxt with funcs := fu1 }, rfl, rfl, rfl, HK2.out.setAl 0 rfl, HNX.out.le (by omega), HN0.out.k.n1, HN0.out.k.n1, Iff.rfl, by omega, HLO.out, Nat.zero_le _, HPK.out, Nat.le_refl _⟩
  clear HPK
  go_wp2_with fail
  clear c11 c12 lb f11
  go_loopg [8, 9, 10] n (fun m v8 v9 v10 wr => Hid (PzI8 w A T n room lo K8 R m v8 v9 v10 wr))
  case atStart => exact HI
  case round =>
    obtain ⟨fi, la, np, s1, rfl, rfl, rfl, k1, n1, f1, l1, fl, np3, lo1, npi, hp, hm⟩ := hrel.out
    obtain ⟨m', rfl⟩ : ∃ m', gk = m' + 1 := by
      cases gk with
      | zero => exact absurd hp.symm HX.out
      | succ m' => exact ⟨m', rfl⟩
    rw [pm8] at hp
    have HK10 := hid k1
    have HN10 : Hid (PzN (al0 s1) 0) := n1.al0
    have HNS := hid n1
    have HP := hid hp
    have HF1 := hid f1
    have HL1 := hid l1
    have HFL := hid fl
    have HM := hid hm
    have HLO1 := hid lo1
    have HNPI := hid npi
    have HNP3 := hid np3
    have npz : np ≤ 3000 := by omega
    clear hrel k1 n1 hp f1 l1 fl hm lo1 npi np3
    have HZQ : Hid (curT T (al0 s1) = curT T s1) := rfl
    by_cases hhcl : (curT T s1).k = 40
    · have hcl := hid hhcl
      clear hhcl
      have hclz : Hid ((curT T (al0 s1)).k = 40) := hcl.out
      have hp := HP.out
      clear HP
      rw [if_pos hcl.out] at hp
      rw [← HK8.out] at hp
      dsimp only [PBd] at hp
      have HP := hid hp
      clear hp
      have CI := HK10.out.is (k := 40) (by decide) (by decide) (x := [41]) rfl
      rw [decide_eq_true hclz.out] at CI
      have HCI := hid CI
      clear CI
      go_wp2_with fail
      refine HCI.out.mono ?_
      rintro e11 V11 ⟨rfl, hw⟩
      rw [hw]
      clear hw HCI V11
      have HCC := hid (HK10.out.next (by have := hclz.out; omega))
      go_wp2_with fail
      refine HCC.out.mono ?_
      rintro e12 W12 ⟨rfl, k1⟩
      clear HCC
      have HK12 : Hid (PzK w A T (al0 s1.nxt) W12) := k1
      clear k1
      obtain ⟨c3, c4, c5, c6, c9, c11, c12, c13⟩ := HK12.out.c
      clear c3 c4 c5 c6 c9 c13
      have lb := HK12.out.lt
      have f11 := HK12.out.fz 11
      have f12 := HK12.out.fz 12
      have HK30 : Hid (PzK w A T ({ s1.nxt with alive := np, loops := 0 } : PSt) ((W12.setCell ⟨A.b, 11, none⟩ (.int .i64 (np : Int))).setCell ⟨A.b, 12, none⟩ (.int .i64 0))) := (HK12.out.setAl np (u := (np : Int)) rfl).setLo 0 (u := 0) rfl
      have HN30 : Hid (PzN ({ s1.nxt with alive := np, loops := 0 } : PSt) 1) := by
        have h := HNS.out.nxt
        exact ⟨h.k, h.l, by show np ≤ 4 * (s1.i + 1); have := HNPI.out; omega, Nat.zero_le _, h.fu⟩
      have hp := HP.out
      clear HP
      have e1 : [fi, np].getD 1 0 = np := rfl
      have e2 : [fi, np].getD 0 0 = fi := rfl
      rw [e1, e2] at hp
      clear e1 e2
      have HP := hid hp
      clear hp
      have hx9 : parM T n 9 (room - 1) [] ({ s1.nxt with alive := np, loops := 0 } : PSt) ≠ x99 := fun e => HX.out (by have hp := HP.out; rw [e] at hp; exact hp.symm)
      have HCC := hid ((HC.out n (Nat.le_refl _)).b (lv := lv + 1) HK30.out (HN30.out.le (by omega)) (by have := HRM.out; omega) hx9)
      clear hx9
      go_wp2_with fail
      refine HCC.out.mono ?_
      intro e31 W31 q31
      clear c11 c12 lb f11 f12
      clear HCC
      rcases q31 with ⟨v31, s31, hy, rfl, k1⟩ | ⟨y31, z31, hy, rfl, b1⟩
      · have HY := hid hy
        have HK31 := hid k1
        clear hy k1
        obtain ⟨n1, b1, l1⟩ := HN30.out.p9 HY.out
        have hp := HP.out
        clear HP
        rw [HY.out] at hp
        dsimp only [PBd] at hp
        have HP := hid hp
        clear hp
        obtain ⟨b, HVb⟩ : ∃ x : Nat, Hid (v31.getD 0 0 = x) := ⟨_, rfl⟩
        rw [HVb.out] at b1
        try rw [HVb.out] at HP
        have HN31 : Hid (PzN s31 1) := n1
        have HLb := hid b1
        have HMb := hid l1
        clear l1
        clear n1 b1
        rw [HVb.out]
        by_cases hw32 : (curT T s31).k = 9
        · have w32 := hid hw32
          clear hw32
          have hp := HP.out
          clear HP
          unfold expectP at hp
          rw [if_pos w32.out] at hp
          have HP := hid hp
          clear hp
          have HCC := hid (HK31.out.want (k := 9) (by decide) (by decide) (x := [101, 110, 100]) rfl w32.out)
          go_wp2_with fail
          refine HCC.out.mono ?_
          rintro e33 W33 ⟨rfl, k1⟩
          clear HCC
          have HK33 : Hid (PzK w A T s31.nxt W33) := k1
          clear k1
          have HN33 : Hid (PzN s31.nxt 2) := HN31.out.nxt
          obtain ⟨c3, c4, c5, c6, c9, c11, c12, c13⟩ := HK33.out.c
          have lb := HK33.out.lt
          clear c3 c4 c5 c6 c11 c12 c13
          clear c9 lb
          obtain ⟨c3, c4, c5, c6, c9, c11, c12, c13⟩ := HK33.out.c
          have lb := HK33.out.lt
          clear c3 c4 c5 c6 c13
          have f11 := HK33.out.fz 11
          have f12 := HK33.out.fz 12
          have HK70 := hid ((HK33.out.setAl al (u := (al : Int)) rfl).setLo lo (u := (lo : Int)) rfl)
          obtain ⟨_, _, _, _, c9b, _, _, _⟩ := HK70.out.c
          have HN70 : Hid ((s31.nxt).nodes.length ≤ (s31.nxt).i + 1) := by show _ ≤ _; have := HN33.out.l; omega
          have HCC := hid (HK70.out.add ⟨20, fi, b, 0, 0, fu1, [], pl⟩ (by have h7 := HN70.out; have h8 : (s31.nxt).i ≤ 2048 := HK70.out.il; show (s31.nxt).nodes.length ≤ 10000; omega))
          have FIN : Hid (∀ eX WX, (eX = .returned (.int .i64 ((({ s31.nxt with alive := al, loops := lo } : PSt)).nodes.length : Nat)) ∧ PzK w A T ((({ s31.nxt with alive := al, loops := lo } : PSt)).add ⟨20, fi, b, 0, 0, fu1, [], pl⟩) WX) → Q eX WX) := fun eX WX h => by
            rw [← HQ.out]
            exact .inl ⟨_, _, HP.out.symm, h.1, h.2⟩
          go_wp2_with fail
          refine HCC.out.mono ?_
          rintro e71 W71 ⟨rfl, k1⟩
          clear c9 c11 c12 lb f11 f12 c9b
          have FIN2 := hid (FIN.out _ _ ⟨rfl, k1⟩)
          clear FIN k1 HCC
          go_wp2_with fail
          first | exact FIN2.out | (go_ret; exact FIN2.out) | (go_ret2; exact FIN2.out)
        · have w32 := hid hw32
          clear hw32
          have hp := HP.out
          clear HP
          unfold expectP at hp
          rw [if_neg w32.out] at hp
          have HP := hid hp
          clear hp
          obtain ⟨y72, hy72⟩ : ∃ y, failP T s31 15 = .inl y := ⟨_, rfl⟩
          have HFY := hid hy72
          have HY : Hid (R = .inl y72) := by
            have hp := HP.out
            rw [hy72] at hp
            exact hp.symm
          clear hy72 HP
          have HCC := hid (HK31.out.wantN (k := 9) (by decide) (by decide) (x := [101, 110, 100]) rfl w32.out HFY.out)
          go_wp2_with fail
          refine HCC.out.mono ?_
          rintro e72 W72 ⟨rfl, b1⟩
          have HB72 := hid b1
          clear b1 HCC
          obtain ⟨c9, ne1, ne2⟩ := HB72.out.c
          have lb := HB72.out.lt
          obtain ⟨xa, xl, xf, c11, c12, c13, fz⟩ := HB72.out.cn
          have f11 := fz 11
          have f12 := fz 12
          clear fz c13
          have HB90 := hid ((HB72.out.setAl al).setLo lo)
          obtain ⟨c9b, _, _⟩ := HB90.out.c
          have FIN : Hid (Q (.returned (.int .i64 0)) ((W72.setCell ⟨A.b, 11, none⟩ (.int .i64 (al : Int))).setCell ⟨A.b, 12, none⟩ (.int .i64 (lo : Int)))) := by
            show Q _ _
            rw [← HQ.out]
            exact .inr ⟨y72, 0, HY.out, rfl, HB90.out⟩
          go_wp2_with fail
          first | exact FIN.out | (go_ret; exact FIN.out) | (go_ret2; exact FIN.out)
      · have HB31 := hid b1
        have HY : Hid (R = .inl y31) := by
          have hp := HP.out
          rw [hy] at hp
          exact hp.symm
        clear hy b1 HP
        obtain ⟨c9, ne1, ne2⟩ := HB31.out.c
        have lb := HB31.out.lt
        have HCC := hid (HB31.out.want [101, 110, 100])
        go_wp2_with fail
        refine HCC.out.mono ?_
        rintro e91 W91 ⟨rfl, b1⟩
        clear c9 ne1 ne2 lb
        have HB91 := hid b1
        clear b1 HCC
        obtain ⟨c9, ne1, ne2⟩ := HB91.out.c
        have lb := HB91.out.lt
        obtain ⟨xa, xl, xf, c11, c12, c13, fz⟩ := HB91.out.cn
        have f11 := fz 11
        have f12 := fz 12
        clear fz c13
        have HB90 := hid ((HB91.out.setAl al).setLo lo)
        obtain ⟨c9b, _, _⟩ := HB90.out.c
        have FIN : Hid (Q (.returned (.int .i64 0)) ((W91.setCell ⟨A.b, 11, none⟩ (.int .i64 (al : Int))).setCell ⟨A.b, 12, none⟩ (.int .i64 (lo : Int)))) := by
          show Q _ _
          rw [← HQ.out]
          exact .inr ⟨y31, 0, HY.out, rfl, HB90.out⟩
        go_wp2_with fail
        first | exact FIN.out | (go_ret; exact FIN.out) | (go_ret2; exact FIN.out)
    · have hcl := hid hhcl
      clear hhcl
      have hclz : Hid (¬ (curT T (al0 s1)).k = 40) := hcl.out
      have hp := HP.out
      clear HP
      rw [if_neg hcl.out] at hp
      have HP := hid hp
      clear hp
      have CI := HK10.out.is (k := 40) (by decide) (by decide) (x := [41]) rfl
      rw [decide_eq_false hclz.out] at CI
      have HCI := hid CI
      clear CI
      go_wp2_with fail
      refine HCI.out.mono ?_
      rintro e91 V91 ⟨rfl, hw⟩
      rw [hw]
      clear hw HCI V91
      by_cases hhc0 : 0 < np
      · have hc0 := hid hhc0
        clear hhc0
        have hp := HP.out
        clear HP
        rw [if_pos hc0.out] at hp
        have HP := hid hp
        clear hp
        have bz : (0 : Int) < (np : Int) := by have := hc0.out; omega
        obtain ⟨c3, c4, c5, c6, c9, c11, c12, c13⟩ := HK10.out.c
        have lb := HK10.out.lt
        clear c3 c4 c5 c6 c11 c12 c13
        by_cases hwc : (curT T s1).k = 45
        · have wc := hid hwc
          clear hwc
          have hp := HP.out
          clear HP
          unfold expectP at hp
          rw [if_pos wc.out] at hp
          have HP := hid hp
          clear hp
          have HCC := hid (HK10.out.want (k := 45) (by decide) (by decide) (x := [44]) rfl wc.out)
          go_wp2_with fail
          refine HCC.out.mono ?_
          rintro e92 W92 ⟨rfl, k1⟩
          clear c9 lb
          clear HCC
          have HK92 : Hid (PzK w A T (al0 s1.nxt) W92) := k1
          clear k1
          have HN92 : Hid (PzN (al0 s1.nxt) 1) := HN10.out.nxt
          obtain ⟨c3, c4, c5, c6, c9, c11, c12, c13⟩ := HK92.out.c
          have lb := HK92.out.lt
          clear c3 c4 c5 c6 c11 c12 c13
          by_cases hhn3 : np = 3
          · have hn3 := hid hhn3
            clear hhn3
            have hp := HP.out
            clear HP
            rw [if_pos hn3.out] at hp
            have hp : failP T (al0 s1.nxt) 19 = R := hp
            have HP := hid hp
            clear hp
            have bm : ((np : Int) == 3) = true := by rw [hn3.out]; rfl
            obtain ⟨y93, hy93⟩ : ∃ y, failP T (al0 s1.nxt) 19 = .inl y := ⟨_, rfl⟩
            have HFY := hid hy93
            have HY : Hid (R = .inl y93) := by
              have hp := HP.out
              rw [hy93] at hp
              exact hp.symm
            clear hy93 HP
            have HCC := hid (HK92.out.fail (e := 19) (by decide) HFY.out (e' := 19) rfl)
            go_wp2_with fail
            refine HCC.out.mono ?_
            rintro e93 W93 ⟨rfl, b1⟩
            clear c9 lb
            have HB93 := hid b1
            clear b1 HCC
            obtain ⟨c9, ne1, ne2⟩ := HB93.out.c
            have lb := HB93.out.lt
            have HCC := hid HB93.out.name0
            go_wp2_with fail
            refine HCC.out.mono ?_
            rintro e94 W94 ⟨vs, z, rfl, b1⟩
            clear c9 ne1 ne2 lb
            have HB94 := hid b1
            clear b1 HCC
            obtain ⟨c9, ne1, ne2⟩ := HB94.out.c
            have lb := HB94.out.lt
            have FIN : Hid (Q (.returned (.int .i64 0)) W94) := by
              show Q _ _
              rw [← HQ.out]
              exact .inr ⟨y93, 0, HY.out, rfl, HB94.out⟩
            go_wp2_with fail
            first | exact FIN.out | (go_ret; exact FIN.out) | (go_ret2; exact FIN.out)
          · have hn3 := hid hhn3
            clear hhn3
            have hp := HP.out
            clear HP
            rw [if_neg hn3.out] at hp
            have HP := hid hp
            clear hp
            have bm : ((np : Int) == 3) = false := by rw [beq_eq_false_iff_ne]; have := hn3.out; omega
            by_cases hhnm : (curT T s1.nxt).k = 2
            · have hnm := hid hhnm
              clear hhnm
              have hp := HP.out
              clear HP
              unfold nameP at hp
              rw [if_neg (fun z => z hnm.out), if_neg (fun z => absurd z.1 (Nat.lt_irrefl 0))] at hp
              try dsimp only at hp
              have HP := hid hp
              clear hp
              obtain ⟨tp, HTP⟩ : ∃ tp : Nat, Hid ((curT T s1.nxt).p = tp) := ⟨_, rfl⟩
              obtain ⟨ts, HTS⟩ : ∃ ts, Hid ((curT T s1.nxt).s = ts) := ⟨_, rfl⟩
              have CC := HK92.out.name hnm.out 0 (fun z => absurd z.1 (Nat.lt_irrefl 0)) (by show 0 + 0 ≤ 100000; omega) (e' := 0) rfl
              have ee : curT T (al0 s1.nxt) = curT T s1.nxt := rfl
              rw [ee, HTP.out, HTS.out] at CC
              have HCC := hid CC
              clear CC ee
              have hp := HP.out
              clear HP
              rw [HTP.out, HTS.out] at hp
              have HP := hid hp
              clear hp
              go_wp2_with fail
              refine HCC.out.mono ?_
              rintro e95 W95 ⟨rfl, k2⟩
              clear c9 lb
              clear HCC
              have HK95 : Hid (PzK w A T (al0 s1.nxt.nxt) W95) := k2
              clear k2
              have HN95 := hid (HN92.out.nxt)
              obtain ⟨c3, c4, c5, c6, c9, c11, c12, c13⟩ := HK95.out.c
              have lb := HK95.out.lt
              clear c3 c4 c5 c6 c11 c12 c13
              have CC := HK95.out.add ⟨17, 0, 0, 0, 0, 0, ts, tp⟩ (by have := HN95.out.l; have := HK95.out.il; show s1.nxt.nodes.length ≤ 10000; have h3 : (al0 s1.nxt.nxt).nodes.length = s1.nxt.nodes.length := rfl; have h4 : (al0 s1.nxt.nxt).i = s1.nxt.i + 1 := rfl; have := HNS.out.l; have h5 := HK10.out.il; have h6 : s1.nxt.nodes.length = s1.nodes.length := rfl; have h7 : (al0 s1).i = s1.i := rfl; omega)
              have eL : (al0 s1.nxt.nxt).nodes.length = s1.nodes.length := rfl
              rw [eL] at CC
              clear eL
              obtain ⟨L, HL⟩ : ∃ L : Nat, Hid (s1.nodes.length = L) := ⟨_, rfl⟩
              rw [HL.out] at CC
              have HCC := hid CC
              clear CC
              have hp := HP.out
              clear HP
              have eL : s1.nxt.nxt.nodes.length = L := HL.out
              rw [eL] at hp
              clear eL
              have HP := hid hp
              clear hp
              go_wp2_with fail
              refine HCC.out.mono ?_
              rintro e96 W96 ⟨rfl, k2⟩
              clear c9 lb
              clear HCC
              have HK96 : Hid (PzK w A T (al0 (s1.nxt.nxt.add ⟨17, 0, 0, 0, 0, 0, ts, tp⟩)) W96) := k2
              clear k2
              have HNB : Hid (PzN (s1.nxt.nxt.add ⟨17, 0, 0, 0, 0, 0, ts, tp⟩) 0) := by
                have h := HNS.out
                have q : PzN s1.nxt.nxt 1 := (h.nxt.nxt).le (by omega)
                exact q.add (by show 0 < s1.nodes.length; exact h.k.n1) (by show 0 < s1.nodes.length; exact h.k.n1) (by show 0 < s1.nodes.length; exact h.k.n1) rfl
              have HLL : Hid ((s1.nxt.nxt.add ⟨17, 0, 0, 0, 0, 0, ts, tp⟩).nodes.length = L + 1) := by show _ = _; rw [add_len]; show s1.nodes.length + 1 = _; rw [HL.out]
              have HLP : Hid (1 ≤ L) := by show _ ≤ _; rw [← HL.out]; exact HNS.out.k.n1
              obtain ⟨c3, c4, c5, c6, c9, c11, c12, c13⟩ := HK96.out.c
              have lb := HK96.out.lt
              clear c3 c4 c5 c6 c11 c12 c13
              by_cases hhfi : fi = 0
              · have hfi := hid hhfi
                clear hhfi
                have h00 : la = 0 := HFL.out.1 hfi.out
                have hf0 := hfi.out
                subst h00 hf0
                have hp := HP.out
                clear HP
                rw [if_pos rfl] at hp
                have e9 : (s1.nxt.nxt.add ⟨17, 0, 0, 0, 0, 0, ts, tp⟩).link 0 L = (s1.nxt.nxt.add ⟨17, 0, 0, 0, 0, 0, ts, tp⟩) := by unfold PSt.link; rw [if_pos rfl]
                rw [e9] at hp
                clear e9
                have HP := hid hp
                clear hp
                have HQ2 : Hid (PzI8 w A T n room lo K8 R m' (.int .i64 L) (.int .i64 L) (.int .i64 ((np : Int) + 1)) W96) := ⟨L, L, np + 1, _, rfl, rfl, rfl, HK96.out, HNB.out, by rw [HLL.out]; omega, by rw [HLL.out]; omega, Iff.rfl, by have := hn3.out; have := HNP3.out; omega, HLO1.out, by show np + 1 ≤ s1.nxt.i + 1; have := HNPI.out; have : s1.nxt.i = s1.i + 1 := rfl; omega, HP.out, by have := HM.out; omega⟩
                go_wp2_with fail
                go_roundg m'
                case measure => omega
                case rel => exact HQ2
              · have hfi := hid hhfi
                clear hhfi
                have hl0 : la ≠ 0 := fun z => hfi.out (HFL.out.2 z)
                obtain ⟨gg, cc, ND, hlk⟩ := HK96.out.node (l := la) (by show la < (s1.nxt.nxt.add ⟨17, 0, 0, 0, 0, 0, ts, tp⟩).nodes.length; rw [HLL.out]; have := HL1.out; have := HL.out; omega)
                have hp := HP.out
                clear HP
                rw [if_neg hl0] at hp
                have HP := hid hp
                clear hp
                obtain ⟨c8, lcc, _, lg, ln, _, d4, _, f4, gb⟩ := ND
                have ez : (al0 (s1.nxt.nxt.add ⟨17, 0, 0, 0, 0, 0, ts, tp⟩)).nodes.length = L + 1 := HLL.out
                rw [ez] at c8 lcc ln
                clear ez
                have h2 := hlk L hl0
                rw [al0_link] at h2
                have HLK := hid h2
                clear h2 hlk
                have bf : ((fi : Int) == 0) = false := by rw [beq_eq_false_iff_ne]; have := hfi.out; omega
                have HQ2 : Hid (PzI8 w A T n room lo K8 R m' (.int .i64 fi) (.int .i64 L) (.int .i64 ((np : Int) + 1)) (W96.setCell ⟨gg, la * 8 + 4, none⟩ (.int .i64 L))) := ⟨fi, L, np + 1, _, rfl, rfl, rfl, HLK.out, HNB.out.link (by have := HL1.out; have := HL.out; omega) (by rw [HLL.out]; omega), by rw [link_len, HLL.out]; have := HF1.out; have := HL.out; omega, by rw [link_len, HLL.out]; omega, ⟨fun z => absurd z hfi.out, fun z => by have := HLP.out; omega⟩, by have := hn3.out; have := HNP3.out; omega, by rw [(link_same _ _ _).2.2.1]; exact HLO1.out, by rw [(link_same _ _ _).1]; show np + 1 ≤ s1.nxt.i + 1; have := HNPI.out; have : s1.nxt.i = s1.i + 1 := rfl; omega, HP.out, by have := HM.out; omega⟩
                clear hl0 HLK
                go_wp2_with fail
                go_roundg m'
                case measure => omega
                case rel => exact HQ2
            · have hnm := hid hhnm
              clear hhnm
              have hp := HP.out
              clear HP
              unfold nameP at hp
              rw [if_pos hnm.out] at hp
              have hp : failP T (al0 s1.nxt) 15 = R := hp
              have HP := hid hp
              clear hp
              obtain ⟨y97, hy97⟩ : ∃ y, failP T (al0 s1.nxt) 15 = .inl y := ⟨_, rfl⟩
              have HFY := hid hy97
              have HY : Hid (R = .inl y97) := by
                have hp := HP.out
                rw [hy97] at hp
                exact hp.symm
              clear hy97 HP
              have HCC := hid (HK92.out.nameN hnm.out 0 HFY.out)
              go_wp2_with fail
              refine HCC.out.mono ?_
              rintro e97 W97 ⟨rfl, b1⟩
              clear c9 lb
              have HB97 := hid b1
              clear b1 HCC
              obtain ⟨c9, ne1, ne2⟩ := HB97.out.c
              have lb := HB97.out.lt
              have FIN : Hid (Q (.returned (.int .i64 0)) W97) := by
                show Q _ _
                rw [← HQ.out]
                exact .inr ⟨y97, 0, HY.out, rfl, HB97.out⟩
              go_wp2_with fail
              first | exact FIN.out | (go_ret; exact FIN.out) | (go_ret2; exact FIN.out)
        · have wc := hid hwc
          clear hwc
          have hp := HP.out
          clear HP
          unfold expectP at hp
          rw [if_neg wc.out] at hp
          have hp : failP T (al0 s1) 15 = R := hp
          have HP := hid hp
          clear hp
          obtain ⟨y98, hy98⟩ : ∃ y, failP T (al0 s1) 15 = .inl y := ⟨_, rfl⟩
          have HFY := hid hy98
          have HY : Hid (R = .inl y98) := by
            have hp := HP.out
            rw [hy98] at hp
            exact hp.symm
          clear hy98 HP
          have HCC := hid (HK10.out.wantN (k := 45) (by decide) (by decide) (x := [44]) rfl wc.out HFY.out)
          go_wp2_with fail
          refine HCC.out.mono ?_
          rintro e98 W98 ⟨rfl, b1⟩
          clear c9 lb
          have HB98 := hid b1
          clear b1 HCC
          obtain ⟨c9, ne1, ne2⟩ := HB98.out.c
          have lb := HB98.out.lt
          by_cases hhmq : np = 3
          · have hmq := hid hhmq
            clear hhmq
            have bm : ((np : Int) == 3) = true := by rw [beq_iff_eq]; have := hmq.out; omega
            have HCC := hid HB98.out.name0
            go_wp2_with fail
            refine HCC.out.mono ?_
            rintro e99 W99 ⟨vs, z, rfl, b1⟩
            clear c9 ne1 ne2 lb
            have HB99 := hid b1
            clear b1 HCC
            obtain ⟨c9, ne1, ne2⟩ := HB99.out.c
            have lb := HB99.out.lt
            have FIN : Hid (Q (.returned (.int .i64 0)) W99) := by
              show Q _ _
              rw [← HQ.out]
              exact .inr ⟨y98, 0, HY.out, rfl, HB99.out⟩
            go_wp2_with fail
            first | exact FIN.out | (go_ret; exact FIN.out) | (go_ret2; exact FIN.out)
          · have hmq := hid hhmq
            clear hhmq
            have bm : ((np : Int) == 3) = false := by rw [beq_eq_false_iff_ne]; have := hmq.out; omega
            have HCC := hid HB98.out.name0
            go_wp2_with fail
            refine HCC.out.mono ?_
            rintro e100 W100 ⟨vs, z, rfl, b1⟩
            clear c9 ne1 ne2 lb
            have HB100 := hid b1
            clear b1 HCC
            obtain ⟨c9, ne1, ne2⟩ := HB100.out.c
            have lb := HB100.out.lt
            have FIN : Hid (Q (.returned (.int .i64 0)) W100) := by
              show Q _ _
              rw [← HQ.out]
              exact .inr ⟨y98, 0, HY.out, rfl, HB100.out⟩
            go_wp2_with fail
            first | exact FIN.out | (go_ret; exact FIN.out) | (go_ret2; exact FIN.out)
      · have hc0 := hid hhc0
        clear hhc0
        have hp := HP.out
        clear HP
        rw [if_neg hc0.out] at hp
        have HP := hid hp
        clear hp
        have bz : ¬ (0 : Int) < (np : Int) := by have := hc0.out; omega
        obtain ⟨c3, c4, c5, c6, c9, c11, c12, c13⟩ := HK10.out.c
        have lb := HK10.out.lt
        clear c3 c4 c5 c6 c11 c12 c13
        by_cases hhn3 : np = 3
        · have hn3 := hid hhn3
          clear hhn3
          have hp := HP.out
          clear HP
          rw [if_pos hn3.out] at hp
          have hp : failP T (al0 s1) 19 = R := hp
          have HP := hid hp
          clear hp
          have bm : ((np : Int) == 3) = true := by rw [hn3.out]; rfl
          obtain ⟨y101, hy101⟩ : ∃ y, failP T (al0 s1) 19 = .inl y := ⟨_, rfl⟩
          have HFY := hid hy101
          have HY : Hid (R = .inl y101) := by
            have hp := HP.out
            rw [hy101] at hp
            exact hp.symm
          clear hy101 HP
          have HCC := hid (HK10.out.fail (e := 19) (by decide) HFY.out (e' := 19) rfl)
          go_wp2_with fail
          refine HCC.out.mono ?_
          rintro e101 W101 ⟨rfl, b1⟩
          clear c9 lb
          have HB101 := hid b1
          clear b1 HCC
          obtain ⟨c9, ne1, ne2⟩ := HB101.out.c
          have lb := HB101.out.lt
          have HCC := hid HB101.out.name0
          go_wp2_with fail
          refine HCC.out.mono ?_
          rintro e102 W102 ⟨vs, z, rfl, b1⟩
          clear c9 ne1 ne2 lb
          have HB102 := hid b1
          clear b1 HCC
          obtain ⟨c9, ne1, ne2⟩ := HB102.out.c
          have lb := HB102.out.lt
          have FIN : Hid (Q (.returned (.int .i64 0)) W102) := by
            show Q _ _
            rw [← HQ.out]
            exact .inr ⟨y101, 0, HY.out, rfl, HB102.out⟩
          go_wp2_with fail
          first | exact FIN.out | (go_ret; exact FIN.out) | (go_ret2; exact FIN.out)
        · have hn3 := hid hhn3
          clear hhn3
          have hp := HP.out
          clear HP
          rw [if_neg hn3.out] at hp
          have HP := hid hp
          clear hp
          have bm : ((np : Int) == 3) = false := by rw [beq_eq_false_iff_ne]; have := hn3.out; omega
          by_cases hhnm : (curT T s1).k = 2
          · have hnm := hid hhnm
            clear hhnm
            have hp := HP.out
            clear HP
            unfold nameP at hp
            rw [if_neg (fun z => z hnm.out), if_neg (fun z => absurd z.1 (Nat.lt_irrefl 0))] at hp
            try dsimp only at hp
            have HP := hid hp
            clear hp
            obtain ⟨tp, HTP⟩ : ∃ tp : Nat, Hid ((curT T s1).p = tp) := ⟨_, rfl⟩
            obtain ⟨ts, HTS⟩ : ∃ ts, Hid ((curT T s1).s = ts) := ⟨_, rfl⟩
            have CC := HK10.out.name hnm.out 0 (fun z => absurd z.1 (Nat.lt_irrefl 0)) (by show 0 + 0 ≤ 100000; omega) (e' := 0) rfl
            have ee : curT T (al0 s1) = curT T s1 := rfl
            rw [ee, HTP.out, HTS.out] at CC
            have HCC := hid CC
            clear CC ee
            have hp := HP.out
            clear HP
            rw [HTP.out, HTS.out] at hp
            have HP := hid hp
            clear hp
            go_wp2_with fail
            refine HCC.out.mono ?_
            rintro e103 W103 ⟨rfl, k2⟩
            clear c9 lb
            clear HCC
            have HK103 : Hid (PzK w A T (al0 s1.nxt) W103) := k2
            clear k2
            have HN103 := hid (HN10.out.nxt)
            obtain ⟨c3, c4, c5, c6, c9, c11, c12, c13⟩ := HK103.out.c
            have lb := HK103.out.lt
            clear c3 c4 c5 c6 c11 c12 c13
            have CC := HK103.out.add ⟨17, 0, 0, 0, 0, 0, ts, tp⟩ (by have := HN103.out.l; have := HK103.out.il; show s1.nodes.length ≤ 10000; have h3 : (al0 s1.nxt).nodes.length = s1.nodes.length := rfl; have h4 : (al0 s1.nxt).i = s1.i + 1 := rfl; have := HNS.out.l; have h5 := HK10.out.il; have h6 : s1.nodes.length = s1.nodes.length := rfl; have h7 : (al0 s1).i = s1.i := rfl; omega)
            have eL : (al0 s1.nxt).nodes.length = s1.nodes.length := rfl
            rw [eL] at CC
            clear eL
            obtain ⟨L, HL⟩ : ∃ L : Nat, Hid (s1.nodes.length = L) := ⟨_, rfl⟩
            rw [HL.out] at CC
            have HCC := hid CC
            clear CC
            have hp := HP.out
            clear HP
            have eL : s1.nxt.nodes.length = L := HL.out
            rw [eL] at hp
            clear eL
            have HP := hid hp
            clear hp
            go_wp2_with fail
            refine HCC.out.mono ?_
            rintro e104 W104 ⟨rfl, k2⟩
            clear c9 lb
            clear HCC
            have HK104 : Hid (PzK w A T (al0 (s1.nxt.add ⟨17, 0, 0, 0, 0, 0, ts, tp⟩)) W104) := k2
            clear k2
            have HNB : Hid (PzN (s1.nxt.add ⟨17, 0, 0, 0, 0, 0, ts, tp⟩) 0) := by
              have h := HNS.out
              have q : PzN s1.nxt 1 := h.nxt
              exact q.add (by show 0 < s1.nodes.length; exact h.k.n1) (by show 0 < s1.nodes.length; exact h.k.n1) (by show 0 < s1.nodes.length; exact h.k.n1) rfl
            have HLL : Hid ((s1.nxt.add ⟨17, 0, 0, 0, 0, 0, ts, tp⟩).nodes.length = L + 1) := by show _ = _; rw [add_len]; show s1.nodes.length + 1 = _; rw [HL.out]
            have HLP : Hid (1 ≤ L) := by show _ ≤ _; rw [← HL.out]; exact HNS.out.k.n1
            obtain ⟨c3, c4, c5, c6, c9, c11, c12, c13⟩ := HK104.out.c
            have lb := HK104.out.lt
            clear c3 c4 c5 c6 c11 c12 c13
            by_cases hhfi : fi = 0
            · have hfi := hid hhfi
              clear hhfi
              have h00 : la = 0 := HFL.out.1 hfi.out
              have hf0 := hfi.out
              subst h00 hf0
              have hp := HP.out
              clear HP
              rw [if_pos rfl] at hp
              have e9 : (s1.nxt.add ⟨17, 0, 0, 0, 0, 0, ts, tp⟩).link 0 L = (s1.nxt.add ⟨17, 0, 0, 0, 0, 0, ts, tp⟩) := by unfold PSt.link; rw [if_pos rfl]
              rw [e9] at hp
              clear e9
              have HP := hid hp
              clear hp
              have HQ2 : Hid (PzI8 w A T n room lo K8 R m' (.int .i64 L) (.int .i64 L) (.int .i64 ((np : Int) + 1)) W104) := ⟨L, L, np + 1, _, rfl, rfl, rfl, HK104.out, HNB.out, by rw [HLL.out]; omega, by rw [HLL.out]; omega, Iff.rfl, by have := hn3.out; have := HNP3.out; omega, HLO1.out, by show np + 1 ≤ s1.i + 1; have := HNPI.out; have : s1.i = s1.i := rfl; omega, HP.out, by have := HM.out; omega⟩
              go_wp2_with fail
              go_roundg m'
              case measure => omega
              case rel => exact HQ2
            · have hfi := hid hhfi
              clear hhfi
              have hl0 : la ≠ 0 := fun z => hfi.out (HFL.out.2 z)
              obtain ⟨gg, cc, ND, hlk⟩ := HK104.out.node (l := la) (by show la < (s1.nxt.add ⟨17, 0, 0, 0, 0, 0, ts, tp⟩).nodes.length; rw [HLL.out]; have := HL1.out; have := HL.out; omega)
              have hp := HP.out
              clear HP
              rw [if_neg hl0] at hp
              have HP := hid hp
              clear hp
              obtain ⟨c8, lcc, _, lg, ln, _, d4, _, f4, gb⟩ := ND
              have ez : (al0 (s1.nxt.add ⟨17, 0, 0, 0, 0, 0, ts, tp⟩)).nodes.length = L + 1 := HLL.out
              rw [ez] at c8 lcc ln
              clear ez
              have h2 := hlk L hl0
              rw [al0_link] at h2
              have HLK := hid h2
              clear h2 hlk
              have bf : ((fi : Int) == 0) = false := by rw [beq_eq_false_iff_ne]; have := hfi.out; omega
              have HQ2 : Hid (PzI8 w A T n room lo K8 R m' (.int .i64 fi) (.int .i64 L) (.int .i64 ((np : Int) + 1)) (W104.setCell ⟨gg, la * 8 + 4, none⟩ (.int .i64 L))) := ⟨fi, L, np + 1, _, rfl, rfl, rfl, HLK.out, HNB.out.link (by have := HL1.out; have := HL.out; omega) (by rw [HLL.out]; omega), by rw [link_len, HLL.out]; have := HF1.out; have := HL.out; omega, by rw [link_len, HLL.out]; omega, ⟨fun z => absurd z hfi.out, fun z => by have := HLP.out; omega⟩, by have := hn3.out; have := HNP3.out; omega, by rw [(link_same _ _ _).2.2.1]; exact HLO1.out, by rw [(link_same _ _ _).1]; show np + 1 ≤ s1.i + 1; have := HNPI.out; have : s1.i = s1.i := rfl; omega, HP.out, by have := HM.out; omega⟩
              clear hl0 HLK
              go_wp2_with fail
              go_roundg m'
              case measure => omega
              case rel => exact HQ2
          · have hnm := hid hhnm
            clear hhnm
            have hp := HP.out
            clear HP
            unfold nameP at hp
            rw [if_pos hnm.out] at hp
            have hp : failP T (al0 s1) 15 = R := hp
            have HP := hid hp
            clear hp
            obtain ⟨y105, hy105⟩ : ∃ y, failP T (al0 s1) 15 = .inl y := ⟨_, rfl⟩
            have HFY := hid hy105
            have HY : Hid (R = .inl y105) := by
              have hp := HP.out
              rw [hy105] at hp
              exact hp.symm
            clear hy105 HP
            have HCC := hid (HK10.out.nameN hnm.out 0 HFY.out)
            go_wp2_with fail
            refine HCC.out.mono ?_
            rintro e105 W105 ⟨rfl, b1⟩
            clear c9 lb
            have HB105 := hid b1
            clear b1 HCC
            obtain ⟨c9, ne1, ne2⟩ := HB105.out.c
            have lb := HB105.out.lt
            have FIN : Hid (Q (.returned (.int .i64 0)) W105) := by
              show Q _ _
              rw [← HQ.out]
              exact .inr ⟨y105, 0, HY.out, rfl, HB105.out⟩
            go_wp2_with fail
            first | exact FIN.out | (go_ret; exact FIN.out) | (go_ret2; exact FIN.out)
end
end Go.Proofs.Qxb6500574aGreatDoor
