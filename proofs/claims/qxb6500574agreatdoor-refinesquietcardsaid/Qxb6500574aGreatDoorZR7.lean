/-
  THE WALKS of syntaxm: block.
-/
import Derived.Test.Qxb6500574aGreatDoorZR6
namespace Go.Proofs.Qxb6500574aGreatDoor
open Go Go.RowKit
set_option linter.unusedVariables false
set_option linter.unusedSimpArgs false
section
variable {T : List Tok} {n : Nat}
set_option maxRecDepth 100000
set_option maxHeartbeats 1000000
/-- is a block closed behind its node la? -/
def clsN (s : PSt) (la : Nat) : Nat := if la ≠ 0 ∧ ((s.nodes.getD la nd0).k = 10 ∨ (s.nodes.getD la nd0).k = 11) then 1 else 0
theorem link_k (s : PSt) (l x j : Nat) : ((s.link l x).nodes.getD j nd0).k = (s.nodes.getD j nd0).k := by
  unfold PSt.link
  split
  · rfl
  · by_cases e : l = j
    · subst e
      rw [List.getD_eq_getElem?_getD, List.getD_eq_getElem?_getD]
      by_cases hl : l < s.nodes.length
      · rw [List.getElem?_set_self hl]
        rfl
      · rw [List.getElem?_eq_none (by simp; omega), List.getElem?_eq_none (by omega)]
    · rw [List.getD_eq_getElem?_getD, List.getElem?_set_ne e, ← List.getD_eq_getElem?_getD]
/-- a block's statements so far -/
def PzI10 (w : World) (A : PzP) (T : List Tok) (n room : Nat) (K : List Nat → PSt → PR) (R : PR) (m : Nat) (v6 v7 : Value) (wr : World) : Prop :=
  ∃ (fi la : Nat) (s1 : PSt), v6 = .int .i64 fi ∧ v7 = .int .i64 la ∧ PzK w A T s1 wr ∧ PzN s1 0 ∧ fi < s1.nodes.length ∧ la < s1.nodes.length ∧ (fi = 0 ↔ la = 0) ∧ PBd (parM T m 10 room [clsN s1 la, fi, la] s1) K = R ∧ m ≤ n
theorem block_z (C : ∀ m, m ≤ n → PCz T m) {w W : World} {A : PzP} {s : PSt} {room : Nat} {lv : Int} (h0 : PzK w A T s W) (hn : PzN s 0) (hr : lv + room = 13 ∧ 1 ≤ lv) (hx : parM T (n + 1) 9 room [] s ≠ x99) :
    Calls Tryz.prog 106 #[.pointer (some ⟨A.b, 0, none⟩), .int .i64 lv] W (PzR T w A (parM T (n + 1) 9 room [] s)) := by
  obtain ⟨R, HR⟩ : ∃ R, Hid (parM T (n + 1) 9 room [] s = R) := ⟨_, rfl⟩
  rw [HR.out] at hx ⊢
  obtain ⟨Q, HQ⟩ : ∃ Q : Ending → World → Prop, Hid (PzR T w A R = Q) := ⟨_, rfl⟩
  rw [HQ.out]
  have HC := hid C
  have HX := hid hx
  have HK0 := hid h0
  have HN0 := hid hn
  have HRM := hid hr
  have lv1 : 1 ≤ lv := hr.2
  have lv2 : lv ≤ 13 := by omega
  have HP : Hid (_ = R) := pm9.symm.trans HR.out
  clear C hx h0 hn HR hr
  have al1 : s.alive ≤ 100000 := by have := HN0.out.al; have := HK0.out.il; omega
  obtain ⟨c3, c4, c5, c6, c9, c11, c12, c13⟩ := HK0.out.c
  have lb := HK0.out.lt
  clear c3 c4 c5 c6 c12 c13
  by_cases hhz0 : room = 0
  · have hz0 := hid hhz0
    clear hhz0
    have hl : lv = 13 := by have := HRM.out; have := hz0.out; omega
    have hp := HP.out
    clear HP
    rw [if_pos hz0.out] at hp
    have HP := hid hp
    clear hp
    obtain ⟨y1, hy1⟩ : ∃ y, failP T s 16 = .inl y := ⟨_, rfl⟩
    have HFY := hid hy1
    have HY : Hid (R = .inl y1) := by
      have hp := HP.out
      rw [hy1] at hp
      exact hp.symm
    clear hy1 HP
    have HCC := hid (HK0.out.deep HFY.out hl)
    clear hl
    go_enter Tryz.func106, Tryz.ntmps106
    go_wp2_with fail
    refine HCC.out.mono ?_
    rintro e1 W1 ⟨rfl, b1⟩
    clear c9 c11 lb
    have HB1 := hid b1
    clear b1 HCC
    obtain ⟨c9, ne1, ne2⟩ := HB1.out.c
    have lb := HB1.out.lt
    have FIN : Hid (Q (.returned (.int .i64 0)) W1) := by
      show Q _ _
      rw [← HQ.out]
      exact .inr ⟨y1, 0, HY.out, rfl, HB1.out⟩
    go_wp2_with fail
    first | exact FIN.out | (go_ret; exact FIN.out) | (go_ret2; exact FIN.out)
  · have hz0 := hid hhz0
    clear hhz0
    have hp := HP.out
    clear HP
    rw [if_neg hz0.out] at hp
    have HP := hid hp
    clear hp
    obtain ⟨KB, HKB⟩ : ∃ K, Hid ((fun v (s1 : PSt) => (.inr (v, { s1 with alive := s.alive }) : PR)) = K) := ⟨_, rfl⟩
    have hp := HP.out
    clear HP
    rw [HKB.out] at hp
    have HP := hid hp
    clear hp
    have HI : Hid (PzI10 w A T n room KB R n (.int .i64 0) (.int .i64 0) W) := ⟨0, 0, s, rfl, rfl, HK0.out, HN0.out, HN0.out.k.n1, HN0.out.k.n1, Iff.rfl, HP.out, Nat.le_refl _⟩
    clear HP
    obtain ⟨al, HAL⟩ : ∃ al : Nat, Hid (s.alive = al) := ⟨_, rfl⟩
    rw [HAL.out] at c11
    have hl : lv ≤ 12 := by have := HRM.out; have := hz0.out; omega
    have h1 : 1 ≤ room := by have := hz0.out; omega
    have HD : Hid (∀ W, Calls Tryz.prog 184 #[.pointer (some ⟨A.b, 0, none⟩), .int .i64 lv] W fun e w' => e = .returned (.bool false) ∧ w' = W) := fun W => deep_no A.b hl
    clear hl
    go_enter Tryz.func106, Tryz.ntmps106
    go_wp2_with fail
    refine (HD.out _).mono ?_
    rintro e7 V7 ⟨rfl, hw⟩
    rw [hw]
    clear hw V7 HD
    go_wp2_with fail
    clear c9 c11 lb
    go_loopg [6, 7] n (fun m v6 v7 wr => Hid (PzI10 w A T n room KB R m v6 v7 wr))
    case atStart => exact HI
    case round =>
      obtain ⟨fi, la, s1, rfl, rfl, k1, n1, f1, l1, fl, hp, hm⟩ := hrel.out
      obtain ⟨m', rfl⟩ : ∃ m', gk = m' + 1 := by
        cases gk with
        | zero => exact absurd hp.symm HX.out
        | succ m' => exact ⟨m', rfl⟩
      rw [pm10] at hp
      have HK1 := hid k1
      have HN1 := hid n1
      have HP := hid hp
      have HF1 := hid f1
      have HL1 := hid l1
      have HFL := hid fl
      have HM := hid hm
      have HEN := hid k1.ends
      obtain ⟨gl, cl, NDl, _⟩ := k1.node (l := la) l1
      obtain ⟨c8l, lccl, lbl, lgl, lnl, d0l, _, _, _, _⟩ := NDl
      clear hrel k1 n1 hp f1 l1 fl
      obtain ⟨kd, HKD⟩ : ∃ kd, Hid ((s1.nodes.getD la nd0).k = kd) := ⟨_, rfl⟩
      rw [HKD.out] at d0l
      obtain ⟨NL0, HNL0⟩ : ∃ x : Nat, Hid (s1.nodes.length = x) := ⟨_, rfl⟩
      rw [HNL0.out] at c8l lccl lnl
      by_cases hhen : endsB (curT T s1).k = true
      · have hen := hid hhen
        clear hhen
        have hp := HP.out
        clear HP
        rw [if_pos hen.out] at hp
        rw [← HKB.out] at hp
        dsimp only [PBd] at hp
        have HP := hid hp
        clear hp
        rw [hen.out] at HEN
        have HK2 := hid (HK1.out.setAl s.alive (u := (al : Int)) (by rw [HAL.out]))
        have f11 := HK1.out.fz 11
        obtain ⟨_, _, _, _, _, c11, _, _⟩ := HK1.out.c
        have lb := HK1.out.lt
        go_wp2_with fail
        refine HEN.out.mono ?_
        rintro e9 V9 ⟨rfl, hw⟩
        rw [hw]
        clear hw V9
        have FIN : Hid (Q (.returned (.int .i64 (fi : Nat))) (wr.setCell ⟨A.b, 11, none⟩ (.int .i64 (al : Int)))) := by
          show Q _ _
          rw [← HQ.out]
          exact .inl ⟨_, _, HP.out.symm, rfl, HK2.out⟩
        go_wp2_with fail
        first | exact FIN.out | (go_ret; exact FIN.out) | (go_ret2; exact FIN.out)
      · have hen := hid hhen
        clear hhen
        have hp := HP.out
        clear HP
        rw [if_neg hen.out] at hp
        have HP := hid hp
        clear hp
        rw [show endsB (curT T s1).k = false by simpa using hen.out] at HEN
        by_cases hhla : la = 0
        · have hla := hid hhla
          clear hhla
          have hp := HP.out
          clear HP
          rw [if_neg (by unfold clsN; rw [if_neg (fun z => z.1 hla.out)]; decide)] at hp
          have HP := hid hp
          clear hp
          have bl : ((la : Int) != 0) = false := by rw [hla.out]; rfl
          clear c8l lccl lbl lgl lnl d0l
          obtain ⟨c3, c4, c5, c6, c9, c11, c12, c13⟩ := HK1.out.c
          have lb := HK1.out.lt
          clear c3 c4 c5 c6 c11 c12 c13
          go_wp2_with fail
          refine HEN.out.mono ?_
          rintro e9 V9 ⟨rfl, hw⟩
          rw [hw]
          clear hw V9
          have hx9 : parM T m' 11 room [] s1 ≠ x99 := fun e => HX.out (by have hp := HP.out; rw [e] at hp; exact hp.symm)
          have HCC := hid ((HC.out m' (by have := HM.out; omega)).st HK1.out HN1.out HRM.out h1 hx9)
          clear hx9
          go_wp2_with fail
          refine HCC.out.mono ?_
          intro e6 W6 q6
          clear c9 lb
          clear HCC
          rcases q6 with ⟨v6, s6, hy, rfl, k1⟩ | ⟨y6, z6, hy, rfl, b1⟩
          · have HY := hid hy
            have HK6 := hid k1
            clear hy k1
            obtain ⟨n1, a1, b1⟩ := HN1.out.p11 HY.out
            have hp := HP.out
            clear HP
            rw [HY.out] at hp
            dsimp only [PBd] at hp
            have HP := hid hp
            clear hp
            obtain ⟨v, HVv⟩ : ∃ x : Nat, Hid (v6.getD 0 0 = x) := ⟨_, rfl⟩
            rw [HVv.out] at b1 HP a1
            have HN6 : Hid (PzN s6 0) := n1
            have HLv := hid b1
            have HGv := hid a1
            clear a1
            clear n1 b1
            rw [HVv.out]
            obtain ⟨c3, c4, c5, c6, c9, c11, c12, c13⟩ := HK6.out.c
            have lb := HK6.out.lt
            clear c3 c4 c5 c6 c11 c12 c13
            by_cases hhfi : fi = 0
            · have hfi := hid hhfi
              clear hhfi
              have h00 : la = 0 := HFL.out.1 hfi.out
              have hf0 := hfi.out
              subst h00 hf0
              have hp := HP.out
              clear HP
              rw [if_pos rfl] at hp
              have e9 : s6.link 0 v = s6 := by unfold PSt.link; rw [if_pos rfl]
              rw [e9] at hp
              clear e9
              have HP := hid hp
              clear hp
              have v0 : v ≠ 0 := by have := HGv.out; have := HN1.out.k.n1; omega
              have hp := HP.out
              clear HP
              have e8 : (if (s6.nodes.getD v nd0).k = 10 ∨ (s6.nodes.getD v nd0).k = 11 then 1 else 0) = clsN s6 v := by
                unfold clsN
                by_cases z : (s6.nodes.getD v nd0).k = 10 ∨ (s6.nodes.getD v nd0).k = 11
                · rw [if_pos z, if_pos ⟨v0, z⟩]
                · rw [if_neg z, if_neg (fun y => z y.2)]
              rw [e8] at hp
              clear e8
              have HP := hid hp
              clear hp
              have HQ2 : Hid (PzI10 w A T n room KB R m' (.int .i64 v) (.int .i64 v) W6) := ⟨v, v, _, rfl, rfl, HK6.out, HN6.out, HLv.out, HLv.out, Iff.rfl, HP.out, by have := HM.out; omega⟩
              clear v0
              go_wp2_with fail
              go_roundg m'
              case measure => omega
              case rel => exact HQ2
            · have hfi := hid hhfi
              clear hhfi
              have hl0 : la ≠ 0 := fun z => hfi.out (HFL.out.2 z)
              obtain ⟨gg, cc, ND, hlk⟩ := HK6.out.node (l := la) (by have := HL1.out; have := HLv.out; have := HGv.out; omega)
              have hp := HP.out
              clear HP
              rw [if_neg hl0] at hp
              have HP := hid hp
              clear hp
              have v0 : v ≠ 0 := by have := HGv.out; have := HN1.out.k.n1; omega
              have hp := HP.out
              clear HP
              have e8 : (if (s6.nodes.getD v nd0).k = 10 ∨ (s6.nodes.getD v nd0).k = 11 then 1 else 0) = clsN (s6.link la v) v := by
                unfold clsN
                rw [link_k]
                by_cases z : (s6.nodes.getD v nd0).k = 10 ∨ (s6.nodes.getD v nd0).k = 11
                · rw [if_pos z, if_pos ⟨v0, z⟩]
                · rw [if_neg z, if_neg (fun y => z y.2)]
              rw [e8] at hp
              clear e8
              have HP := hid hp
              clear hp
              obtain ⟨c8, lcc, _, lg, ln, _, d4, _, f4, gb⟩ := ND
              have HLK := hid (hlk v hl0)
              obtain ⟨NLn, HNLn⟩ : ∃ x : Nat, Hid (s6.nodes.length = x) := ⟨_, rfl⟩
              rw [HNLn.out] at c8 lcc ln
              have bf : ((fi : Int) == 0) = false := by rw [beq_eq_false_iff_ne]; have := hfi.out; omega
              have HQ2 : Hid (PzI10 w A T n room KB R m' (.int .i64 fi) (.int .i64 v) (W6.setCell ⟨gg, la * 8 + 4, none⟩ (.int .i64 v))) := ⟨fi, v, _, rfl, rfl, HLK.out, HN6.out.link (by have := HL1.out; have := HGv.out; omega) HLv.out, by rw [link_len]; have := HF1.out; have := HGv.out; have := HLv.out; omega, by rw [link_len]; exact HLv.out, ⟨fun z => absurd z hfi.out, fun z => absurd z v0⟩, HP.out, by have := HM.out; omega⟩
              clear hlk hl0 HLK v0
              go_wp2_with fail
              go_roundg m'
              case measure => omega
              case rel => exact HQ2
          · have HB6 := hid b1
            have HY : Hid (R = .inl y6) := by
              have hp := HP.out
              rw [hy] at hp
              exact hp.symm
            clear hy b1 HP
            obtain ⟨c9, ne1, ne2⟩ := HB6.out.c
            have lb := HB6.out.lt
            have FIN : Hid (Q (.returned (.int .i64 0)) W6) := by
              show Q _ _
              rw [← HQ.out]
              exact .inr ⟨y6, 0, HY.out, rfl, HB6.out⟩
            go_wp2_with fail
            first | exact FIN.out | (go_ret; exact FIN.out) | (go_ret2; exact FIN.out)
        · have hla := hid hhla
          clear hhla
          have bl : ((la : Int) != 0) = true := by rw [bne_iff_ne]; have := hla.out; omega
          by_cases hhk10 : kd = 10
          · have hk10 := hid hhk10
            clear hhk10
            have hp := HP.out
            clear HP
            rw [if_pos (by unfold clsN; rw [if_pos ⟨hla.out, .inl (by rw [HKD.out]; exact hk10.out)⟩])] at hp
            have HP := hid hp
            clear hp
            rw [hk10.out] at d0l
            have d0l : wr.cell? ⟨gl, la * 8, none⟩ = some (.int .i64 10) := d0l
            go_wp2_with fail
            refine HEN.out.mono ?_
            rintro e9 V9 ⟨rfl, hw⟩
            rw [hw]
            clear hw V9
            obtain ⟨y7, hy7⟩ : ∃ y, failP T s1 15 = .inl y := ⟨_, rfl⟩
            have HFY := hid hy7
            have HY : Hid (R = .inl y7) := by
              have hp := HP.out
              rw [hy7] at hp
              exact hp.symm
            clear hy7 HP
            have HCC := hid (HK1.out.fail (e := 15) (by decide) HFY.out (e' := 15) rfl)
            go_wp2_with fail
            refine HCC.out.mono ?_
            rintro e7 W7 ⟨rfl, b1⟩
            have HB7 := hid b1
            clear b1 HCC
            obtain ⟨c9, ne1, ne2⟩ := HB7.out.c
            have lb := HB7.out.lt
            have FIN : Hid (Q (.returned (.int .i64 0)) W7) := by
              show Q _ _
              rw [← HQ.out]
              exact .inr ⟨y7, 0, HY.out, rfl, HB7.out⟩
            go_wp2_with fail
            first | exact FIN.out | (go_ret; exact FIN.out) | (go_ret2; exact FIN.out)
          · have hk10 := hid hhk10
            clear hhk10
            have b10 : ((kd : Int) == 10) = false := by rw [beq_eq_false_iff_ne]; have := hk10.out; omega
            by_cases hhk11 : kd = 11
            · have hk11 := hid hhk11
              clear hhk11
              have hp := HP.out
              clear HP
              rw [if_pos (by unfold clsN; rw [if_pos ⟨hla.out, .inr (by rw [HKD.out]; exact hk11.out)⟩])] at hp
              have HP := hid hp
              clear hp
              have b11 : ((kd : Int) == 11) = true := by rw [hk11.out]; rfl
              go_wp2_with fail
              refine HEN.out.mono ?_
              rintro e9 V9 ⟨rfl, hw⟩
              rw [hw]
              clear hw V9
              obtain ⟨y8, hy8⟩ : ∃ y, failP T s1 15 = .inl y := ⟨_, rfl⟩
              have HFY := hid hy8
              have HY : Hid (R = .inl y8) := by
                have hp := HP.out
                rw [hy8] at hp
                exact hp.symm
              clear hy8 HP
              have HCC := hid (HK1.out.fail (e := 15) (by decide) HFY.out (e' := 15) rfl)
              go_wp2_with fail
              refine HCC.out.mono ?_
              rintro e8 W8 ⟨rfl, b1⟩
              have HB8 := hid b1
              clear b1 HCC
              obtain ⟨c9, ne1, ne2⟩ := HB8.out.c
              have lb := HB8.out.lt
              have FIN : Hid (Q (.returned (.int .i64 0)) W8) := by
                show Q _ _
                rw [← HQ.out]
                exact .inr ⟨y8, 0, HY.out, rfl, HB8.out⟩
              go_wp2_with fail
              first | exact FIN.out | (go_ret; exact FIN.out) | (go_ret2; exact FIN.out)
            · have hk11 := hid hhk11
              clear hhk11
              have hp := HP.out
              clear HP
              rw [if_neg (by unfold clsN; rw [if_neg (fun z => (by rw [HKD.out] at z; exact z.2.elim hk10.out hk11.out))]; decide)] at hp
              have HP := hid hp
              clear hp
              have b11 : ((kd : Int) == 11) = false := by rw [beq_eq_false_iff_ne]; have := hk11.out; omega
              obtain ⟨c3, c4, c5, c6, c9, c11, c12, c13⟩ := HK1.out.c
              have lb := HK1.out.lt
              clear c3 c4 c5 c6 c11 c12 c13
              go_wp2_with fail
              refine HEN.out.mono ?_
              rintro e9 V9 ⟨rfl, hw⟩
              rw [hw]
              clear hw V9
              have hx9 : parM T m' 11 room [] s1 ≠ x99 := fun e => HX.out (by have hp := HP.out; rw [e] at hp; exact hp.symm)
              have HCC := hid ((HC.out m' (by have := HM.out; omega)).st HK1.out HN1.out HRM.out h1 hx9)
              clear hx9
              go_wp2_with fail
              refine HCC.out.mono ?_
              intro e9 W9 q9
              clear c9 lb
              clear HCC
              rcases q9 with ⟨v9, s9, hy, rfl, k1⟩ | ⟨y9, z9, hy, rfl, b1⟩
              · have HY := hid hy
                have HK9 := hid k1
                clear hy k1
                obtain ⟨n1, a1, b1⟩ := HN1.out.p11 HY.out
                have hp := HP.out
                clear HP
                rw [HY.out] at hp
                dsimp only [PBd] at hp
                have HP := hid hp
                clear hp
                obtain ⟨v, HVv⟩ : ∃ x : Nat, Hid (v9.getD 0 0 = x) := ⟨_, rfl⟩
                rw [HVv.out] at b1 HP a1
                have HN9 : Hid (PzN s9 0) := n1
                have HLv := hid b1
                have HGv := hid a1
                clear a1
                clear n1 b1
                rw [HVv.out]
                obtain ⟨c3, c4, c5, c6, c9, c11, c12, c13⟩ := HK9.out.c
                have lb := HK9.out.lt
                clear c3 c4 c5 c6 c11 c12 c13
                by_cases hhfi : fi = 0
                · have hfi := hid hhfi
                  clear hhfi
                  have h00 : la = 0 := HFL.out.1 hfi.out
                  have hf0 := hfi.out
                  subst h00 hf0
                  have hp := HP.out
                  clear HP
                  rw [if_pos rfl] at hp
                  have e9 : s9.link 0 v = s9 := by unfold PSt.link; rw [if_pos rfl]
                  rw [e9] at hp
                  clear e9
                  have HP := hid hp
                  clear hp
                  have v0 : v ≠ 0 := by have := HGv.out; have := HN1.out.k.n1; omega
                  have hp := HP.out
                  clear HP
                  have e8 : (if (s9.nodes.getD v nd0).k = 10 ∨ (s9.nodes.getD v nd0).k = 11 then 1 else 0) = clsN s9 v := by
                    unfold clsN
                    by_cases z : (s9.nodes.getD v nd0).k = 10 ∨ (s9.nodes.getD v nd0).k = 11
                    · rw [if_pos z, if_pos ⟨v0, z⟩]
                    · rw [if_neg z, if_neg (fun y => z y.2)]
                  rw [e8] at hp
                  clear e8
                  have HP := hid hp
                  clear hp
                  have HQ2 : Hid (PzI10 w A T n room KB R m' (.int .i64 v) (.int .i64 v) W9) := ⟨v, v, _, rfl, rfl, HK9.out, HN9.out, HLv.out, HLv.out, Iff.rfl, HP.out, by have := HM.out; omega⟩
                  clear v0
                  go_wp2_with fail
                  go_roundg m'
                  case measure => omega
                  case rel => exact HQ2
                · have hfi := hid hhfi
                  clear hhfi
                  have hl0 : la ≠ 0 := fun z => hfi.out (HFL.out.2 z)
                  obtain ⟨gg, cc, ND, hlk⟩ := HK9.out.node (l := la) (by have := HL1.out; have := HLv.out; have := HGv.out; omega)
                  have hp := HP.out
                  clear HP
                  rw [if_neg hl0] at hp
                  have HP := hid hp
                  clear hp
                  have v0 : v ≠ 0 := by have := HGv.out; have := HN1.out.k.n1; omega
                  have hp := HP.out
                  clear HP
                  have e8 : (if (s9.nodes.getD v nd0).k = 10 ∨ (s9.nodes.getD v nd0).k = 11 then 1 else 0) = clsN (s9.link la v) v := by
                    unfold clsN
                    rw [link_k]
                    by_cases z : (s9.nodes.getD v nd0).k = 10 ∨ (s9.nodes.getD v nd0).k = 11
                    · rw [if_pos z, if_pos ⟨v0, z⟩]
                    · rw [if_neg z, if_neg (fun y => z y.2)]
                  rw [e8] at hp
                  clear e8
                  have HP := hid hp
                  clear hp
                  obtain ⟨c8, lcc, _, lg, ln, _, d4, _, f4, gb⟩ := ND
                  have HLK := hid (hlk v hl0)
                  obtain ⟨NLn, HNLn⟩ : ∃ x : Nat, Hid (s9.nodes.length = x) := ⟨_, rfl⟩
                  rw [HNLn.out] at c8 lcc ln
                  have bf : ((fi : Int) == 0) = false := by rw [beq_eq_false_iff_ne]; have := hfi.out; omega
                  have HQ2 : Hid (PzI10 w A T n room KB R m' (.int .i64 fi) (.int .i64 v) (W9.setCell ⟨gg, la * 8 + 4, none⟩ (.int .i64 v))) := ⟨fi, v, _, rfl, rfl, HLK.out, HN9.out.link (by have := HL1.out; have := HGv.out; omega) HLv.out, by rw [link_len]; have := HF1.out; have := HGv.out; have := HLv.out; omega, by rw [link_len]; exact HLv.out, ⟨fun z => absurd z hfi.out, fun z => absurd z v0⟩, HP.out, by have := HM.out; omega⟩
                  clear hlk hl0 HLK v0
                  go_wp2_with fail
                  go_roundg m'
                  case measure => omega
                  case rel => exact HQ2
              · have HB9 := hid b1
                have HY : Hid (R = .inl y9) := by
                  have hp := HP.out
                  rw [hy] at hp
                  exact hp.symm
                clear hy b1 HP
                obtain ⟨c9, ne1, ne2⟩ := HB9.out.c
                have lb := HB9.out.lt
                have FIN : Hid (Q (.returned (.int .i64 0)) W9) := by
                  show Q _ _
                  rw [← HQ.out]
                  exact .inr ⟨y9, 0, HY.out, rfl, HB9.out⟩
                go_wp2_with fail
                first | exact FIN.out | (go_ret; exact FIN.out) | (go_ret2; exact FIN.out)
end
end Go.Proofs.Qxb6500574aGreatDoor
