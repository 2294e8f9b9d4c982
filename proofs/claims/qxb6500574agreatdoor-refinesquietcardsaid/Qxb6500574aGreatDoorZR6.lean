/-
  THE WALKS of syntaxm: list.
-/
import Derived.Test.Qxb6500574aGreatDoorZR5
namespace Go.Proofs.Qxb6500574aGreatDoor
open Go Go.RowKit
set_option linter.unusedVariables false
set_option linter.unusedSimpArgs false
section
variable {T : List Tok} {n : Nat}
set_option maxRecDepth 100000
set_option maxHeartbeats 1000000
/-- so many expressions are read -/
def PzI6 (w : World) (A : PzP) (T : List Tok) (n room x0 x1 : Nat) (R : PR) (m : Nat) (v9 v10 v11 : Value) (wr : World) : Prop :=
  ∃ (fi la ct : Nat) (s1 : PSt), v9 = .int .i64 fi ∧ v10 = .int .i64 la ∧ v11 = .int .i64 ct ∧ PzK w A T s1 wr ∧ PzN s1 0 ∧ fi < s1.nodes.length ∧ la < s1.nodes.length ∧ (fi = 0 ↔ la = 0) ∧ ct < s1.nodes.length ∧ parM T m 6 room [x0, x1, ct, fi, la] s1 = R ∧ m ≤ n
theorem list_z (C : ∀ m, m ≤ n → PCz T m) {w W : World} {A : PzP} {s : PSt} {room x0 x1 : Nat} {lv mx : Int} {cl : Bs} (h0 : PzK w A T s W) (hn : PzN s 0) (hr : lv + room = 13 ∧ 1 ≤ lv) (h5 : 5 ≤ x0) (h46 : x0 ≤ 46) (hcl : cl = symS x0) (hmx : (x1 = 0 ∧ mx = 1073741824) ∨ (x1 = 4 ∧ mx = 3)) (hx : parM T (n + 1) 6 room [x0, x1, 0, 0, 0] s ≠ x99) :
    Calls Tryz.prog 283 #[.pointer (some ⟨A.b, 0, none⟩), .int .i64 lv, sv cl, .int .i64 mx] W (PzR T w A (parM T (n + 1) 6 room [x0, x1, 0, 0, 0] s)) := by
  obtain ⟨R, HR⟩ : ∃ R, Hid (parM T (n + 1) 6 room [x0, x1, 0, 0, 0] s = R) := ⟨_, rfl⟩
  rw [HR.out] at hx ⊢
  obtain ⟨Q, HQ⟩ : ∃ Q : Ending → World → Prop, Hid (PzR T w A R = Q) := ⟨_, rfl⟩
  rw [HQ.out]
  have HC := hid C
  have HX := hid hx
  have HK0 := hid h0
  have HN0 := hid hn
  have HRM := hid hr
  have lv1 : 1 ≤ lv := hr.2
  have lv2 : lv ≤ 13 := by omega
  have HP : Hid (_ = R) := (rfl : parM T (n + 1) 6 room [x0, x1, 0, 0, 0] s = _).symm.trans HR.out
  have HR0 := HR
  have HX5 := hid h5
  have HX46 := hid h46
  have HCL := hid hcl
  have HMX := hid hmx
  clear h5 h46 hcl hmx
  clear C hx h0 hn HR hr
  obtain ⟨n1, HN1n⟩ : ∃ n1, Hid (n + 1 = n1) := ⟨_, rfl⟩
  have HI : Hid (PzI6 w A T n1 room x0 x1 R n1 (.int .i64 0) (.int .i64 0) (.int .i64 0) W) := ⟨0, 0, 0, s, rfl, rfl, rfl, HK0.out, HN0.out, HN0.out.k.n1, HN0.out.k.n1, Iff.rfl, HN0.out.k.n1, by rw [← HN1n.out]; exact HR0.out, Nat.le_refl _⟩
  clear HP HR0
  go_enter Tryz.func283, Tryz.ntmps283
  go_wp2_with fail
  go_loopg [9, 10, 11] n1 (fun m v9 v10 v11 wr => Hid (PzI6 w A T n1 room x0 x1 R m v9 v10 v11 wr))
  case atStart => exact HI
  case round =>
    obtain ⟨fi, la, ct, s1, rfl, rfl, rfl, k1, n1', f1, l1, fl, c1, hp, hm⟩ := hrel.out
    obtain ⟨m', rfl⟩ : ∃ m', gk = m' + 1 := by
      cases gk with
      | zero => exact absurd hp.symm HX.out
      | succ m' => exact ⟨m', rfl⟩
    rw [pm6] at hp
    have HK1 := hid k1
    have HN1 : Hid (PzN s1 0) := n1'
    have HP := hid hp
    have HF1 := hid f1
    have HL1 := hid l1
    have HFL := hid fl
    have HC1 := hid c1
    have ct1 : ct ≤ 3000 := by have := n1'.l; have := k1.il; omega
    have HM := hid hm
    clear hrel k1 n1' hp f1 l1 fl c1 hm
    have hmn : m' ≤ n := by have := HM.out; have := HN1n.out; omega
    by_cases hhcl : (curT T s1).k = x0
    · have hcl := hid hhcl
      clear hhcl
      have hp := HP.out
      clear HP
      rw [if_pos hcl.out] at hp
      have HP := hid hp
      clear hp
      have CI := HK1.out.is (k := x0) HX5.out HX46.out (x := cl) HCL.out
      rw [decide_eq_true hcl.out] at CI
      have HCI := hid CI
      clear CI
      go_wp2_with fail
      refine HCI.out.mono ?_
      rintro e2 V2 ⟨rfl, hw⟩
      rw [hw]
      clear hw V2 HCI
      have HCC := hid (HK1.out.next (by have := hcl.out; have := HX5.out; omega))
      go_wp2_with fail
      refine HCC.out.mono ?_
      rintro e6 W6 ⟨rfl, k1⟩
      clear HCC
      have HK6 : Hid (PzK w A T s1.nxt W6) := k1
      clear k1
      have HN6 : Hid (PzN s1.nxt 1) := (HN1.out.nxt)
      have FIN : Hid (Q (.returned (.int .i64 (fi : Nat))) W6) := by
        show Q _ _
        rw [← HQ.out]
        exact .inl ⟨_, _, HP.out.symm, rfl, HK6.out⟩
      go_wp2_with fail
      first | exact FIN.out | (go_ret; exact FIN.out) | (go_ret2; exact FIN.out)
    · have hcl := hid hhcl
      clear hhcl
      have hp := HP.out
      clear HP
      rw [if_neg hcl.out] at hp
      have HP := hid hp
      clear hp
      have CI := HK1.out.is (k := x0) HX5.out HX46.out (x := cl) HCL.out
      rw [decide_eq_false hcl.out] at CI
      have HCI := hid CI
      clear CI
      go_wp2_with fail
      refine HCI.out.mono ?_
      rintro e2 V2 ⟨rfl, hw⟩
      rw [hw]
      clear hw V2 HCI
      by_cases hhc0 : 0 < ct
      · have hc0 := hid hhc0
        clear hhc0
        have hp := HP.out
        clear HP
        rw [if_pos hc0.out] at hp
        have HP := hid hp
        clear hp
        have bz : (0 : Int) < (ct : Int) := by have := hc0.out; omega
        obtain ⟨c3, c4, c5, c6, c9, c11, c12, c13⟩ := HK1.out.c
        have lb := HK1.out.lt
        clear c3 c4 c5 c6 c11 c12 c13
        by_cases hw7 : (curT T s1).k = 45
        · have w7 := hid hw7
          clear hw7
          have hp := HP.out
          clear HP
          unfold expectP at hp
          rw [if_pos w7.out] at hp
          have HP := hid hp
          clear hp
          have HCC := hid (HK1.out.want (k := 45) (by decide) (by decide) (x := [44]) rfl w7.out)
          go_wp2_with fail
          refine HCC.out.mono ?_
          rintro e8 W8 ⟨rfl, k1⟩
          clear c9 lb
          clear HCC
          have HK8 : Hid (PzK w A T s1.nxt W8) := k1
          clear k1
          have HN8 : Hid (PzN s1.nxt 1) := HN1.out.nxt
          obtain ⟨c3, c4, c5, c6, c9, c11, c12, c13⟩ := HK8.out.c
          have lb := HK8.out.lt
          clear c3 c4 c5 c6 c11 c12 c13
          clear c9 lb
          obtain ⟨c3, c4, c5, c6, c9, c11, c12, c13⟩ := HK8.out.c
          have lb := HK8.out.lt
          clear c3 c4 c5 c6 c11 c12 c13
          by_cases hhfu : x1 ≠ 0 ∧ ct + 1 = x1
          · have hfu := hid hhfu
            clear hhfu
            have hp := HP.out
            clear HP
            rw [if_pos hfu.out] at hp
            have HP := hid hp
            clear hp
            have bm : ((ct : Int) == mx) = true := by rw [beq_iff_eq]; have := hfu.out; rcases HMX.out with h | h <;> omega
            obtain ⟨y9, hy9⟩ : ∃ y, failP T s1.nxt 19 = .inl y := ⟨_, rfl⟩
            have HFY := hid hy9
            have HY : Hid (R = .inl y9) := by
              have hp := HP.out
              rw [hy9] at hp
              exact hp.symm
            clear hy9 HP
            have HCC := hid (HK8.out.fail (e := 19) (by decide) HFY.out (e' := 19) rfl)
            go_wp2_with fail
            refine HCC.out.mono ?_
            rintro e9 W9 ⟨rfl, b1⟩
            clear c9 lb
            have HB9 := hid b1
            clear b1 HCC
            obtain ⟨c9, ne1, ne2⟩ := HB9.out.c
            have lb := HB9.out.lt
            have FIN : Hid (Q (.returned (.int .i64 0)) W9) := by
              show Q _ _
              rw [← HQ.out]
              exact .inr ⟨y9, 0, HY.out, rfl, HB9.out⟩
            go_wp2_with fail
            first | exact FIN.out | (go_ret; exact FIN.out) | (go_ret2; exact FIN.out)
          · have hfu := hid hhfu
            clear hhfu
            have hp := HP.out
            clear HP
            rw [if_neg hfu.out] at hp
            have HP := hid hp
            clear hp
            have bm : ((ct : Int) == mx) = false := by rw [beq_eq_false_iff_ne]; have := hfu.out; rcases HMX.out with h | h <;> omega
            have hx9 : parM T m' 0 room [1] s1.nxt ≠ x99 := fun e => HX.out (by have hp := HP.out; rw [e] at hp; exact hp.symm)
            have HCC := hid ((HC.out m' hmn).e HK8.out (HN8.out.le (by omega)) HRM.out hx9)
            clear hx9
            go_wp2_with fail
            refine HCC.out.mono ?_
            intro e10 W10 q10
            clear c9 lb
            clear HCC
            rcases q10 with ⟨v10, s10, hy, rfl, k1⟩ | ⟨y10, z10, hy, rfl, b1⟩
            · have HY := hid hy
              have HK10 := hid k1
              clear hy k1
              obtain ⟨n1, a1, b1⟩ := HN8.out.p0 HY.out
              have hp := HP.out
              clear HP
              rw [HY.out] at hp
              dsimp only [PBd] at hp
              have HP := hid hp
              clear hp
              obtain ⟨v, HVv⟩ : ∃ x : Nat, Hid (v10.getD 0 0 = x) := ⟨_, rfl⟩
              rw [HVv.out] at b1 HP a1
              have HN10 : Hid (PzN s10 1) := n1
              have HLv := hid b1
              have HGv := hid a1
              clear a1
              clear n1 b1
              rw [HVv.out]
              obtain ⟨c3, c4, c5, c6, c9, c11, c12, c13⟩ := HK10.out.c
              have lb := HK10.out.lt
              clear c3 c4 c5 c6 c11 c12 c13
              clear bm
              have hct : (ct : Int) + 1 = ((ct + 1 : Nat) : Int) := by omega
              by_cases hhfi : fi = 0
              · have hfi := hid hhfi
                clear hhfi
                have h00 : la = 0 := HFL.out.1 hfi.out
                have hf0 := hfi.out
                subst h00 hf0
                have hp := HP.out
                clear HP
                rw [if_pos rfl] at hp
                have e9 : s10.link 0 v = s10 := by unfold PSt.link; rw [if_pos rfl]
                rw [e9] at hp
                clear e9
                have HP := hid hp
                clear hp
                have HQ2 : Hid (PzI6 w A T n1 room x0 x1 R m' (.int .i64 v) (.int .i64 v) (.int .i64 ((ct + 1 : Nat) : Int)) W10) := ⟨v, v, ct + 1, _, rfl, rfl, rfl, HK10.out, HN10.out.le (by omega), HLv.out, HLv.out, Iff.rfl, by have := HLv.out; have := HGv.out; have := HC1.out; have : s1.nxt.nodes.length = s1.nodes.length := rfl; omega, HP.out, by have := HM.out; omega⟩
                rw [← hct] at HQ2
                clear hct
                go_wp2_with fail
                go_roundg m'
                case measure => omega
                case rel => exact HQ2
              · have hfi := hid hhfi
                clear hhfi
                have hl0 : la ≠ 0 := fun z => hfi.out (HFL.out.2 z)
                obtain ⟨gg, cc, ND, hlk⟩ := HK10.out.node (l := la) (by have := HL1.out; have := HLv.out; have := HGv.out; have : s1.nxt.nodes.length = s1.nodes.length := rfl; omega)
                have hp := HP.out
                clear HP
                rw [if_neg hl0] at hp
                have HP := hid hp
                clear hp
                obtain ⟨c8, lcc, _, lg, ln, _, d4, _, f4, gb⟩ := ND
                have HLK := hid (hlk v hl0)
                obtain ⟨NLn, HNLn⟩ : ∃ x : Nat, Hid (s10.nodes.length = x) := ⟨_, rfl⟩
                rw [HNLn.out] at c8 lcc ln
                have bf : ((fi : Int) == 0) = false := by rw [beq_eq_false_iff_ne]; have := hfi.out; omega
                have HQ2 : Hid (PzI6 w A T n1 room x0 x1 R m' (.int .i64 fi) (.int .i64 v) (.int .i64 ((ct + 1 : Nat) : Int)) (W10.setCell ⟨gg, la * 8 + 4, none⟩ (.int .i64 v))) := ⟨fi, v, ct + 1, _, rfl, rfl, rfl, HLK.out, (HN10.out.le (by omega) : PzN _ 0).link (by have := HL1.out; have := HGv.out; have : s1.nxt.nodes.length = s1.nodes.length := rfl; omega) HLv.out, by rw [link_len]; have := HF1.out; have := HGv.out; have := HLv.out; have : s1.nxt.nodes.length = s1.nodes.length := rfl; omega, by rw [link_len]; exact HLv.out, ⟨fun z => absurd z hfi.out, fun z => by have := HGv.out; have := HC1.out; have : s1.nxt.nodes.length = s1.nodes.length := rfl; omega⟩, by rw [link_len]; have := HLv.out; have := HGv.out; have := HC1.out; have : s1.nxt.nodes.length = s1.nodes.length := rfl; omega, HP.out, by have := HM.out; omega⟩
                rw [← hct] at HQ2
                clear hct hlk hl0 HLK
                go_wp2_with fail
                go_roundg m'
                case measure => omega
                case rel => exact HQ2
            · have HB10 := hid b1
              have HY : Hid (R = .inl y10) := by
                have hp := HP.out
                rw [hy] at hp
                exact hp.symm
              clear hy b1 HP
              obtain ⟨c9, ne1, ne2⟩ := HB10.out.c
              have lb := HB10.out.lt
              have FIN : Hid (Q (.returned (.int .i64 0)) W10) := by
                show Q _ _
                rw [← HQ.out]
                exact .inr ⟨y10, 0, HY.out, rfl, HB10.out⟩
              go_wp2_with fail
              first | exact FIN.out | (go_ret; exact FIN.out) | (go_ret2; exact FIN.out)
        · have w7 := hid hw7
          clear hw7
          have hp := HP.out
          clear HP
          unfold expectP at hp
          rw [if_neg w7.out] at hp
          have HP := hid hp
          clear hp
          obtain ⟨y11, hy11⟩ : ∃ y, failP T s1 15 = .inl y := ⟨_, rfl⟩
          have HFY := hid hy11
          have HY : Hid (R = .inl y11) := by
            have hp := HP.out
            rw [hy11] at hp
            exact hp.symm
          clear hy11 HP
          have HCC := hid (HK1.out.wantN (k := 45) (by decide) (by decide) (x := [44]) rfl w7.out HFY.out)
          go_wp2_with fail
          refine HCC.out.mono ?_
          rintro e11 W11 ⟨rfl, b1⟩
          clear c9 lb
          have HB11 := hid b1
          clear b1 HCC
          obtain ⟨c9, ne1, ne2⟩ := HB11.out.c
          have lb := HB11.out.lt
          by_cases hhmq : (ct : Int) = mx
          · have hmq := hid hhmq
            clear hhmq
            have bm : ((ct : Int) == mx) = true := by rw [beq_iff_eq]; exact hmq.out
            have FIN : Hid (Q (.returned (.int .i64 0)) W11) := by
              show Q _ _
              rw [← HQ.out]
              exact .inr ⟨y11, 0, HY.out, rfl, HB11.out⟩
            go_wp2_with fail
            first | exact FIN.out | (go_ret; exact FIN.out) | (go_ret2; exact FIN.out)
          · have hmq := hid hhmq
            clear hhmq
            have bm : ((ct : Int) == mx) = false := by rw [beq_eq_false_iff_ne]; exact hmq.out
            have FIN : Hid (Q (.returned (.int .i64 0)) W11) := by
              show Q _ _
              rw [← HQ.out]
              exact .inr ⟨y11, 0, HY.out, rfl, HB11.out⟩
            go_wp2_with fail
            first | exact FIN.out | (go_ret; exact FIN.out) | (go_ret2; exact FIN.out)
      · have hc0 := hid hhc0
        clear hhc0
        have hp := HP.out
        clear HP
        rw [if_neg hc0.out] at hp
        have HP := hid hp
        clear hp
        have bz : ¬ (0 : Int) < (ct : Int) := by have := hc0.out; omega
        obtain ⟨c3, c4, c5, c6, c9, c11, c12, c13⟩ := HK1.out.c
        have lb := HK1.out.lt
        clear c3 c4 c5 c6 c11 c12 c13
        by_cases hhfu : x1 ≠ 0 ∧ ct + 1 = x1
        · have hfu := hid hhfu
          clear hhfu
          have hp := HP.out
          clear HP
          rw [if_pos hfu.out] at hp
          have HP := hid hp
          clear hp
          have bm : ((ct : Int) == mx) = true := by rw [beq_iff_eq]; have := hfu.out; rcases HMX.out with h | h <;> omega
          obtain ⟨y12, hy12⟩ : ∃ y, failP T s1 19 = .inl y := ⟨_, rfl⟩
          have HFY := hid hy12
          have HY : Hid (R = .inl y12) := by
            have hp := HP.out
            rw [hy12] at hp
            exact hp.symm
          clear hy12 HP
          have HCC := hid (HK1.out.fail (e := 19) (by decide) HFY.out (e' := 19) rfl)
          go_wp2_with fail
          refine HCC.out.mono ?_
          rintro e12 W12 ⟨rfl, b1⟩
          clear c9 lb
          have HB12 := hid b1
          clear b1 HCC
          obtain ⟨c9, ne1, ne2⟩ := HB12.out.c
          have lb := HB12.out.lt
          have FIN : Hid (Q (.returned (.int .i64 0)) W12) := by
            show Q _ _
            rw [← HQ.out]
            exact .inr ⟨y12, 0, HY.out, rfl, HB12.out⟩
          go_wp2_with fail
          first | exact FIN.out | (go_ret; exact FIN.out) | (go_ret2; exact FIN.out)
        · have hfu := hid hhfu
          clear hhfu
          have hp := HP.out
          clear HP
          rw [if_neg hfu.out] at hp
          have HP := hid hp
          clear hp
          have bm : ((ct : Int) == mx) = false := by rw [beq_eq_false_iff_ne]; have := hfu.out; rcases HMX.out with h | h <;> omega
          have hx9 : parM T m' 0 room [1] s1 ≠ x99 := fun e => HX.out (by have hp := HP.out; rw [e] at hp; exact hp.symm)
          have HCC := hid ((HC.out m' hmn).e HK1.out HN1.out HRM.out hx9)
          clear hx9
          go_wp2_with fail
          refine HCC.out.mono ?_
          intro e13 W13 q13
          clear c9 lb
          clear HCC
          rcases q13 with ⟨v13, s13, hy, rfl, k1⟩ | ⟨y13, z13, hy, rfl, b1⟩
          · have HY := hid hy
            have HK13 := hid k1
            clear hy k1
            obtain ⟨n1, a1, b1⟩ := HN1.out.p0 HY.out
            have hp := HP.out
            clear HP
            rw [HY.out] at hp
            dsimp only [PBd] at hp
            have HP := hid hp
            clear hp
            obtain ⟨v, HVv⟩ : ∃ x : Nat, Hid (v13.getD 0 0 = x) := ⟨_, rfl⟩
            rw [HVv.out] at b1 HP a1
            have HN13 : Hid (PzN s13 0) := n1
            have HLv := hid b1
            have HGv := hid a1
            clear a1
            clear n1 b1
            rw [HVv.out]
            obtain ⟨c3, c4, c5, c6, c9, c11, c12, c13⟩ := HK13.out.c
            have lb := HK13.out.lt
            clear c3 c4 c5 c6 c11 c12 c13
            clear bm
            have hct : (ct : Int) + 1 = ((ct + 1 : Nat) : Int) := by omega
            by_cases hhfi : fi = 0
            · have hfi := hid hhfi
              clear hhfi
              have h00 : la = 0 := HFL.out.1 hfi.out
              have hf0 := hfi.out
              subst h00 hf0
              have hp := HP.out
              clear HP
              rw [if_pos rfl] at hp
              have e9 : s13.link 0 v = s13 := by unfold PSt.link; rw [if_pos rfl]
              rw [e9] at hp
              clear e9
              have HP := hid hp
              clear hp
              have HQ2 : Hid (PzI6 w A T n1 room x0 x1 R m' (.int .i64 v) (.int .i64 v) (.int .i64 ((ct + 1 : Nat) : Int)) W13) := ⟨v, v, ct + 1, _, rfl, rfl, rfl, HK13.out, HN13.out.le (by omega), HLv.out, HLv.out, Iff.rfl, by have := HLv.out; have := HGv.out; have := HC1.out; have : s1.nxt.nodes.length = s1.nodes.length := rfl; omega, HP.out, by have := HM.out; omega⟩
              rw [← hct] at HQ2
              clear hct
              go_wp2_with fail
              go_roundg m'
              case measure => omega
              case rel => exact HQ2
            · have hfi := hid hhfi
              clear hhfi
              have hl0 : la ≠ 0 := fun z => hfi.out (HFL.out.2 z)
              obtain ⟨gg, cc, ND, hlk⟩ := HK13.out.node (l := la) (by have := HL1.out; have := HLv.out; have := HGv.out; have : s1.nxt.nodes.length = s1.nodes.length := rfl; omega)
              have hp := HP.out
              clear HP
              rw [if_neg hl0] at hp
              have HP := hid hp
              clear hp
              obtain ⟨c8, lcc, _, lg, ln, _, d4, _, f4, gb⟩ := ND
              have HLK := hid (hlk v hl0)
              obtain ⟨NLn, HNLn⟩ : ∃ x : Nat, Hid (s13.nodes.length = x) := ⟨_, rfl⟩
              rw [HNLn.out] at c8 lcc ln
              have bf : ((fi : Int) == 0) = false := by rw [beq_eq_false_iff_ne]; have := hfi.out; omega
              have HQ2 : Hid (PzI6 w A T n1 room x0 x1 R m' (.int .i64 fi) (.int .i64 v) (.int .i64 ((ct + 1 : Nat) : Int)) (W13.setCell ⟨gg, la * 8 + 4, none⟩ (.int .i64 v))) := ⟨fi, v, ct + 1, _, rfl, rfl, rfl, HLK.out, (HN13.out.le (by omega) : PzN _ 0).link (by have := HL1.out; have := HGv.out; have : s1.nxt.nodes.length = s1.nodes.length := rfl; omega) HLv.out, by rw [link_len]; have := HF1.out; have := HGv.out; have := HLv.out; have : s1.nxt.nodes.length = s1.nodes.length := rfl; omega, by rw [link_len]; exact HLv.out, ⟨fun z => absurd z hfi.out, fun z => by have := HGv.out; have := HC1.out; have : s1.nxt.nodes.length = s1.nodes.length := rfl; omega⟩, by rw [link_len]; have := HLv.out; have := HGv.out; have := HC1.out; have : s1.nxt.nodes.length = s1.nodes.length := rfl; omega, HP.out, by have := HM.out; omega⟩
              rw [← hct] at HQ2
              clear hct hlk hl0 HLK
              go_wp2_with fail
              go_roundg m'
              case measure => omega
              case rel => exact HQ2
          · have HB13 := hid b1
            have HY : Hid (R = .inl y13) := by
              have hp := HP.out
              rw [hy] at hp
              exact hp.symm
            clear hy b1 HP
            obtain ⟨c9, ne1, ne2⟩ := HB13.out.c
            have lb := HB13.out.lt
            have FIN : Hid (Q (.returned (.int .i64 0)) W13) := by
              show Q _ _
              rw [← HQ.out]
              exact .inr ⟨y13, 0, HY.out, rfl, HB13.out⟩
            go_wp2_with fail
            first | exact FIN.out | (go_ret; exact FIN.out) | (go_ret2; exact FIN.out)
end
end Go.Proofs.Qxb6500574aGreatDoor
