/-
  THE WALKS of syntaxm: andE, expr.
-/
import Derived.Test.Qxb6500574aGreatDoorZQ6
namespace Go.Proofs.Qxb6500574aGreatDoor
open Go Go.RowKit
set_option linter.unusedVariables false
set_option linter.unusedSimpArgs false
theorem rk_or {k : Nat} (h : k ≤ 46) : rkT k = 1 ↔ k = 22 := by
  have : ∀ k, k ≤ 46 → (rkT k = 1 ↔ k = 22) := by decide
  exact this k h
theorem rk_and {k : Nat} (h : k ≤ 46) : rkT k = 2 ↔ k = 23 := by
  have : ∀ k, k ≤ 46 → (rkT k = 2 ↔ k = 23) := by decide
  exact this k h
theorem op_or {t : Tok} (h : t.k = 22) (a b : Nat) : opN t a b = ⟨25, a, b, 0, 0, 0, [], t.p⟩ := by unfold opN; rw [h]; rfl
theorem op_and {t : Tok} (h : t.k = 23) (a b : Nat) : opN t a b = ⟨24, a, b, 0, 0, 0, [], t.p⟩ := by unfold opN; rw [h]; rfl
theorem op_con {t : Tok} (h : t.k = 30) (a b : Nat) : opN t a b = ⟨22, a, b, 0, 0, 20, [], t.p⟩ := by unfold opN; rw [h]; rfl
/-- a rank's loop -/
def PzL (w : World) (A : PzP) (T : List Tok) (n room r : Nat) (R : PR) (m : Nat) (v : Value) (wr : World) : Prop :=
  (∃ (x : Nat) (s1 : PSt), v = .int .i64 x ∧ PzK w A T s1 wr ∧ PzN s1 0 ∧ x < s1.nodes.length ∧ parM T m 1 room [r, x] s1 = R ∧ m ≤ n) ∨ (∃ (y : Nat × Nat) (z : Int), v = .int .i64 z ∧ R = .inl y ∧ PzB w A y wr)
/-- a rank's first operand -/
theorem PzL.start {w W : World} {A : PzP} {T : List Tok} {n room r j : Nat} {s : PSt} {R : PR} {e : Ending} (hn : PzN s 0) (hp : (PBd (parM T j 0 room [r + 1] s) fun v s => parM T n 1 room [r, v.getD 0 0] s) = R) (q : PzR T w A (parM T j 0 room [r + 1] s) e W) :
    ∃ z : Int, e = .returned (.int .i64 z) ∧ PzL w A T n room r R n (.int .i64 z) W := by
  rcases q with ⟨v, s1, hy, rfl, k1⟩ | ⟨y, z, hy, rfl, b1⟩
  · obtain ⟨n1, a1, b1⟩ := hn.p0 hy
    rw [hy] at hp
    exact ⟨_, rfl, .inl ⟨_, s1, rfl, k1, n1, b1, hp, Nat.le_refl _⟩⟩
  · rw [hy] at hp
    exact ⟨z, rfl, .inr ⟨y, z, rfl, hp.symm, b1⟩⟩
section
variable {T : List Tok} {n : Nat}
set_option maxRecDepth 100000
set_option maxHeartbeats 1000000
theorem andE_z (C : ∀ m, m ≤ n → PCz T m) {w W : World} {A : PzP} {s : PSt} {room : Nat} {lv : Int} (h0 : PzK w A T s W) (hn : PzN s 0) (hr : lv + room = 13 ∧ 1 ≤ lv) (h1 : 1 ≤ room) (hx : parM T (n + 1) 0 room [2] s ≠ x99) :
    Calls Tryz.prog 281 #[.pointer (some ⟨A.b, 0, none⟩), .int .i64 lv] W (PzR T w A (parM T (n + 1) 0 room [2] s)) := by
  obtain ⟨R, HR⟩ : ∃ R, Hid (parM T (n + 1) 0 room [2] s = R) := ⟨_, rfl⟩
  rw [HR.out] at hx ⊢
  obtain ⟨Q, HQ⟩ : ∃ Q : Ending → World → Prop, Hid (PzR T w A R = Q) := ⟨_, rfl⟩
  rw [HQ.out]
  have HC := hid C
  have HX := hid hx
  have HK0 := hid h0
  have HN0 := hid hn
  have HRM := hid hr
  have lv1 : 1 ≤ lv := hr.2
  have lv2 : lv ≤ 13 := by omega
  have HP : Hid (_ = R) := (pm0_r (r := 2) (by decide) (by decide)).symm.trans HR.out
  clear C hx h0 hn HR hr
  have hx9 : parM T n 0 room [3] s ≠ x99 := fun e => HX.out (by have hp := HP.out; rw [e] at hp; exact hp.symm)
  have HCC := hid ((HC.out n (Nat.le_refl _)).l 1 HK0.out HN0.out HRM.out (by omega) (by omega) (r' := 1) rfl (.inr h1) hx9)
  clear hx9
  go_enter Tryz.func281, Tryz.ntmps281
  go_wp2_with fail
  refine HCC.out.mono ?_
  intro e1 W1 q1
  obtain ⟨z1, rfl, hI⟩ := PzL.start HN0.out HP.out q1
  have HI := hid hI
  clear q1 hI HCC HP
  go_wp2_with fail
  go_loopg [5] n (fun m v5 wr => Hid (PzL w A T n room 2 R m v5 wr))
  case atStart => exact HI
  case round =>
    rcases hrel.out with ⟨x, s1, rfl, k1, n1, x1, hp, hm⟩ | ⟨y1, z, rfl, hy, b1⟩
    · obtain ⟨m', rfl⟩ : ∃ m', gk = m' + 1 := by
        cases gk with
        | zero => exact absurd hp.symm HX.out
        | succ m' => exact ⟨m', rfl⟩
      rw [pm1] at hp
      have HK1 := hid k1
      have HN1 := hid n1
      have HP := hid hp
      have HX1 := hid x1
      have k46 := k1.k46.1
      clear hrel k1 n1 hp x1
      by_cases hhsg : (curT T s1).k = 23
      · have hsg := hid hhsg
        clear hhsg
        have hp := HP.out
        clear HP
        rw [if_pos ((rk_and k46).2 hsg.out)] at hp
        have HP := hid hp
        clear hp
        clear k46
        obtain ⟨c3, c4, c5, c6, c9, c11, c12, c13⟩ := HK1.out.c
        have lb := HK1.out.lt
        clear c3 c4 c5 c11 c12 c13
        have CI := HK1.out.is (k := 23) (by decide) (by decide) (x := [97, 110, 100]) rfl
        rw [decide_eq_true hsg.out] at CI
        have HCI := hid CI
        clear CI
        go_wp2_with fail
        refine HCI.out.mono ?_
        rintro e2 V2 ⟨rfl, hw⟩
        rw [hw]
        clear hw HCI V2
        have HCC := hid (HK1.out.next (by have := hsg.out; omega))
        go_wp2_with fail
        refine HCC.out.mono ?_
        rintro e3 W3 ⟨rfl, k1⟩
        clear c6 c9 lb
        clear HCC
        have HK3 : Hid (PzK w A T s1.nxt W3) := k1
        clear k1
        have HN3 : Hid (PzN s1.nxt 1) := (HN1.out.nxt)
        obtain ⟨c3, c4, c5, c6, c9, c11, c12, c13⟩ := HK3.out.c
        have lb := HK3.out.lt
        clear c3 c4 c5 c6 c11 c12 c13
        obtain ⟨tp, HTP⟩ : ∃ tp : Nat, Hid ((curT T s1).p = tp) := ⟨_, rfl⟩
        rw [HTP.out]
        have hx9 : parM T m' 0 room [3] s1.nxt ≠ x99 := fun e => HX.out (by have hp := HP.out; rw [e] at hp; exact hp.symm)
        have HCC := hid ((HC.out m' (by omega)).l 1 HK3.out (HN3.out.le (by omega)) HRM.out (by omega) (by omega) (r' := 1) rfl (.inr h1) hx9)
        clear hx9
        go_wp2_with fail
        refine HCC.out.mono ?_
        intro e4 W4 q4
        clear c9 lb
        clear HCC
        rcases q4 with ⟨v4, s4, hy, rfl, k1⟩ | ⟨y4, z4, hy, rfl, b1⟩
        · have HY := hid hy
          have HK4 := hid k1
          clear hy k1
          obtain ⟨n1, a1, b1⟩ := HN3.out.p0 HY.out
          have hp := HP.out
          clear HP
          rw [HY.out] at hp
          dsimp only [PBd] at hp
          have HP := hid hp
          clear hp
          obtain ⟨v, HVv⟩ : ∃ x : Nat, Hid (v4.getD 0 0 = x) := ⟨_, rfl⟩
          rw [HVv.out] at b1 HP a1
          have HN4 : Hid (PzN s4 1) := n1
          have HLv := hid b1
          have HGv := hid a1
          clear a1
          clear n1 b1
          rw [HVv.out]
          obtain ⟨c3, c4, c5, c6, c9, c11, c12, c13⟩ := HK4.out.c
          have lb := HK4.out.lt
          clear c3 c4 c5 c6 c11 c12 c13
          have hp := HP.out
          clear HP
          rw [op_and hsg.out, HTP.out] at hp
          have HP := hid hp
          clear hp
          have HLN : Hid (x < s4.nodes.length) := by show _ < _; have := HX1.out; have := HGv.out; have := HLv.out; have : s1.nxt.nodes.length = s1.nodes.length := rfl; omega
          have HCC := hid (HK4.out.add ⟨24, x, v, 0, 0, 0, [], tp⟩ (by have := HN4.out.l; have := HK4.out.il; omega))
          have HRR : Hid (∀ W, PzK w A T (s4.add ⟨24, x, v, 0, 0, 0, [], tp⟩) W → PzL w A T n room 2 R m' (.int .i64 (s4.nodes.length : Nat)) W) := fun W h => .inl ⟨_, _, rfl, h, HN4.out.add (by exact HLN.out) (by exact HLv.out) (by show 0 < _; have := HLv.out; omega) rfl, by rw [add_len]; exact Nat.lt_succ_self _, HP.out, by omega⟩
          go_wp2_with fail
          refine HCC.out.mono ?_
          rintro e5 W5 ⟨rfl, k2⟩
          clear c9 lb
          have HQ2 := hid (HRR.out _ k2)
          clear HCC HRR k2
          go_wp2_with fail
          go_roundg m'
          case measure => omega
          case rel => exact HQ2
        · have HB4 := hid b1
          have HY : Hid (R = .inl y4) := by
            have hp := HP.out
            rw [hy] at hp
            exact hp.symm
          clear hy b1 HP
          obtain ⟨c9, ne1, ne2⟩ := HB4.out.c
          have lb := HB4.out.lt
          have FIN : Hid (Q (.returned (.int .i64 0)) W4) := by
            show Q _ _
            rw [← HQ.out]
            exact .inr ⟨y4, 0, HY.out, rfl, HB4.out⟩
          go_wp2_with fail
          first | exact FIN.out | (go_ret; exact FIN.out) | (go_ret2; exact FIN.out)
      · have hsg := hid hhsg
        clear hhsg
        have hp := HP.out
        clear HP
        rw [if_neg (fun z => hsg.out ((rk_and k46).1 z))] at hp
        have HP := hid hp
        clear hp
        clear k46
        obtain ⟨c3, c4, c5, c6, c9, c11, c12, c13⟩ := HK1.out.c
        have lb := HK1.out.lt
        clear c3 c4 c5 c6 c11 c12 c13
        have CI := HK1.out.is (k := 23) (by decide) (by decide) (x := [97, 110, 100]) rfl
        rw [decide_eq_false hsg.out] at CI
        have HCI := hid CI
        clear CI
        go_wp2_with fail
        refine HCI.out.mono ?_
        rintro e6 V6 ⟨rfl, hw⟩
        rw [hw]
        clear hw HCI V6
        have FIN : Hid (Q (.returned (.int .i64 (x : Nat))) wr) := by
          show Q _ _
          rw [← HQ.out]
          exact .inl ⟨_, _, HP.out.symm, rfl, HK1.out⟩
        go_wp2_with fail
        first | exact FIN.out | (go_ret; exact FIN.out) | (go_ret2; exact FIN.out)
    · have HB1 := hid b1
      have HY : Hid (R = .inl y1) := hy
      clear hrel hy b1
      obtain ⟨c9, ne1, ne2⟩ := HB1.out.c
      have lb := HB1.out.lt
      have FIN : Hid (Q (.returned (.int .i64 z)) wr) := by
        show Q _ _
        rw [← HQ.out]
        exact .inr ⟨y1, z, HY.out, rfl, HB1.out⟩
      go_wp2_with fail
      first | exact FIN.out | (go_ret; exact FIN.out) | (go_ret2; exact FIN.out)
theorem expr_z (C : ∀ m, m ≤ n → PCz T m) {w W : World} {A : PzP} {s : PSt} {room : Nat} {lv : Int} (h0 : PzK w A T s W) (hn : PzN s 0) (hr : lv + room = 13 ∧ 1 ≤ lv) (hx : parM T (n + 1) 0 room [1] s ≠ x99) :
    Calls Tryz.prog 249 #[.pointer (some ⟨A.b, 0, none⟩), .int .i64 lv] W (PzR T w A (parM T (n + 1) 0 room [1] s)) := by
  obtain ⟨R, HR⟩ : ∃ R, Hid (parM T (n + 1) 0 room [1] s = R) := ⟨_, rfl⟩
  rw [HR.out] at hx ⊢
  obtain ⟨Q, HQ⟩ : ∃ Q : Ending → World → Prop, Hid (PzR T w A R = Q) := ⟨_, rfl⟩
  rw [HQ.out]
  have HC := hid C
  have HX := hid hx
  have HK0 := hid h0
  have HN0 := hid hn
  have HRM := hid hr
  have lv1 : 1 ≤ lv := hr.2
  have lv2 : lv ≤ 13 := by omega
  have HP : Hid (_ = R) := (pm0_r (r := 1) (by decide) (by decide)).symm.trans HR.out
  clear C hx h0 hn HR hr
  obtain ⟨c3, c4, c5, c6, c9, c11, c12, c13⟩ := HK0.out.c
  have lb := HK0.out.lt
  clear c3 c4 c5 c6 c11 c12 c13
  by_cases hhz0 : room = 0
  · have hz0 := hid hhz0
    clear hhz0
    have hl : lv = 13 := by have := HRM.out; have := hz0.out; omega
    have HPP : Hid (failP T s 16 = R) := by
      have e := parM_room0 (T := T) (n + 1) 1 s (by decide) (by decide)
      have hz := hz0.out
      have hp := HP.out
      rw [← pm0_r (r := 1) (by decide) (by decide), hz] at hp
      rw [hp] at e
      exact (e.resolve_left HX.out).symm
    clear HP
    have HP := HPP
    clear HPP
    obtain ⟨y1, hy1⟩ : ∃ y, failP T s 16 = .inl y := ⟨_, rfl⟩
    have HFY := hid hy1
    have HY : Hid (R = .inl y1) := by
      have hp := HP.out
      rw [hy1] at hp
      exact hp.symm
    clear hy1 HP
    have HCC := hid (HK0.out.deep HFY.out hl)
    clear hl
    go_enter Tryz.func249, Tryz.ntmps249
    go_wp2_with fail
    refine HCC.out.mono ?_
    rintro e1 W1 ⟨rfl, b1⟩
    clear c9 lb
    have HB1 := hid b1
    clear b1 HCC
    obtain ⟨c9, ne1, ne2⟩ := HB1.out.c
    have lb := HB1.out.lt
    have FIN : Hid (Q (.returned (.int .i64 0)) W1) := by
      show Q _ _
      rw [← HQ.out]
      exact .inr ⟨y1, 0, HY.out, rfl, HB1.out⟩
    go_wp2_with fail
    first | exact FIN.out | (go_ret; exact FIN.out) | (go_ret2; exact FIN.out)
  · have hz0 := hid hhz0
    clear hhz0
    have hl : lv ≤ 12 := by have := HRM.out; have := hz0.out; omega
    have h1 : 1 ≤ room := by have := hz0.out; omega
    have HD : Hid (∀ W, Calls Tryz.prog 184 #[.pointer (some ⟨A.b, 0, none⟩), .int .i64 lv] W fun e w' => e = .returned (.bool false) ∧ w' = W) := fun W => deep_no A.b hl
    clear hl
    have hx9 : parM T n 0 room [2] s ≠ x99 := fun e => HX.out (by have hp := HP.out; rw [e] at hp; exact hp.symm)
    have HCC := hid ((HC.out n (Nat.le_refl _)).a HK0.out HN0.out HRM.out h1 hx9)
    clear hx9
    go_enter Tryz.func249, Tryz.ntmps249
    go_wp2_with fail
    refine (HD.out _).mono ?_
    rintro e7 V7 ⟨rfl, hw⟩
    rw [hw]
    clear hw V7 HD
    go_wp2_with fail
    refine HCC.out.mono ?_
    intro e1 W1 q1
    obtain ⟨z1, rfl, hI⟩ := PzL.start HN0.out HP.out q1
    have HI := hid hI
    clear q1 hI HCC HP
    clear c9 lb
    go_wp2_with fail
    go_loopg [5] n (fun m v5 wr => Hid (PzL w A T n room 1 R m v5 wr))
    case atStart => exact HI
    case round =>
      rcases hrel.out with ⟨x, s1, rfl, k1, n1, x1, hp, hm⟩ | ⟨y1, z, rfl, hy, b1⟩
      · obtain ⟨m', rfl⟩ : ∃ m', gk = m' + 1 := by
          cases gk with
          | zero => exact absurd hp.symm HX.out
          | succ m' => exact ⟨m', rfl⟩
        rw [pm1] at hp
        have HK1 := hid k1
        have HN1 := hid n1
        have HP := hid hp
        have HX1 := hid x1
        have k46 := k1.k46.1
        clear hrel k1 n1 hp x1
        by_cases hhsg : (curT T s1).k = 22
        · have hsg := hid hhsg
          clear hhsg
          have hp := HP.out
          clear HP
          rw [if_pos ((rk_or k46).2 hsg.out)] at hp
          have HP := hid hp
          clear hp
          clear k46
          obtain ⟨c3, c4, c5, c6, c9, c11, c12, c13⟩ := HK1.out.c
          have lb := HK1.out.lt
          clear c3 c4 c5 c11 c12 c13
          have CI := HK1.out.is (k := 22) (by decide) (by decide) (x := [111, 114]) rfl
          rw [decide_eq_true hsg.out] at CI
          have HCI := hid CI
          clear CI
          go_wp2_with fail
          refine HCI.out.mono ?_
          rintro e2 V2 ⟨rfl, hw⟩
          rw [hw]
          clear hw HCI V2
          have HCC := hid (HK1.out.next (by have := hsg.out; omega))
          go_wp2_with fail
          refine HCC.out.mono ?_
          rintro e3 W3 ⟨rfl, k1⟩
          clear c6 c9 lb
          clear HCC
          have HK3 : Hid (PzK w A T s1.nxt W3) := k1
          clear k1
          have HN3 : Hid (PzN s1.nxt 1) := (HN1.out.nxt)
          obtain ⟨c3, c4, c5, c6, c9, c11, c12, c13⟩ := HK3.out.c
          have lb := HK3.out.lt
          clear c3 c4 c5 c6 c11 c12 c13
          obtain ⟨tp, HTP⟩ : ∃ tp : Nat, Hid ((curT T s1).p = tp) := ⟨_, rfl⟩
          rw [HTP.out]
          have hx9 : parM T m' 0 room [2] s1.nxt ≠ x99 := fun e => HX.out (by have hp := HP.out; rw [e] at hp; exact hp.symm)
          have HCC := hid ((HC.out m' (by omega)).a HK3.out (HN3.out.le (by omega)) HRM.out h1 hx9)
          clear hx9
          go_wp2_with fail
          refine HCC.out.mono ?_
          intro e4 W4 q4
          clear c9 lb
          clear HCC
          rcases q4 with ⟨v4, s4, hy, rfl, k1⟩ | ⟨y4, z4, hy, rfl, b1⟩
          · have HY := hid hy
            have HK4 := hid k1
            clear hy k1
            obtain ⟨n1, a1, b1⟩ := HN3.out.p0 HY.out
            have hp := HP.out
            clear HP
            rw [HY.out] at hp
            dsimp only [PBd] at hp
            have HP := hid hp
            clear hp
            obtain ⟨v, HVv⟩ : ∃ x : Nat, Hid (v4.getD 0 0 = x) := ⟨_, rfl⟩
            rw [HVv.out] at b1 HP a1
            have HN4 : Hid (PzN s4 1) := n1
            have HLv := hid b1
            have HGv := hid a1
            clear a1
            clear n1 b1
            rw [HVv.out]
            obtain ⟨c3, c4, c5, c6, c9, c11, c12, c13⟩ := HK4.out.c
            have lb := HK4.out.lt
            clear c3 c4 c5 c6 c11 c12 c13
            have hp := HP.out
            clear HP
            rw [op_or hsg.out, HTP.out] at hp
            have HP := hid hp
            clear hp
            have HLN : Hid (x < s4.nodes.length) := by show _ < _; have := HX1.out; have := HGv.out; have := HLv.out; have : s1.nxt.nodes.length = s1.nodes.length := rfl; omega
            have HCC := hid (HK4.out.add ⟨25, x, v, 0, 0, 0, [], tp⟩ (by have := HN4.out.l; have := HK4.out.il; omega))
            have HRR : Hid (∀ W, PzK w A T (s4.add ⟨25, x, v, 0, 0, 0, [], tp⟩) W → PzL w A T n room 1 R m' (.int .i64 (s4.nodes.length : Nat)) W) := fun W h => .inl ⟨_, _, rfl, h, HN4.out.add (by exact HLN.out) (by exact HLv.out) (by show 0 < _; have := HLv.out; omega) rfl, by rw [add_len]; exact Nat.lt_succ_self _, HP.out, by omega⟩
            go_wp2_with fail
            refine HCC.out.mono ?_
            rintro e5 W5 ⟨rfl, k2⟩
            clear c9 lb
            have HQ2 := hid (HRR.out _ k2)
            clear HCC HRR k2
            go_wp2_with fail
            go_roundg m'
            case measure => omega
            case rel => exact HQ2
          · have HB4 := hid b1
            have HY : Hid (R = .inl y4) := by
              have hp := HP.out
              rw [hy] at hp
              exact hp.symm
            clear hy b1 HP
            obtain ⟨c9, ne1, ne2⟩ := HB4.out.c
            have lb := HB4.out.lt
            have FIN : Hid (Q (.returned (.int .i64 0)) W4) := by
              show Q _ _
              rw [← HQ.out]
              exact .inr ⟨y4, 0, HY.out, rfl, HB4.out⟩
            go_wp2_with fail
            first | exact FIN.out | (go_ret; exact FIN.out) | (go_ret2; exact FIN.out)
        · have hsg := hid hhsg
          clear hhsg
          have hp := HP.out
          clear HP
          rw [if_neg (fun z => hsg.out ((rk_or k46).1 z))] at hp
          have HP := hid hp
          clear hp
          clear k46
          obtain ⟨c3, c4, c5, c6, c9, c11, c12, c13⟩ := HK1.out.c
          have lb := HK1.out.lt
          clear c3 c4 c5 c6 c11 c12 c13
          have CI := HK1.out.is (k := 22) (by decide) (by decide) (x := [111, 114]) rfl
          rw [decide_eq_false hsg.out] at CI
          have HCI := hid CI
          clear CI
          go_wp2_with fail
          refine HCI.out.mono ?_
          rintro e6 V6 ⟨rfl, hw⟩
          rw [hw]
          clear hw HCI V6
          have FIN : Hid (Q (.returned (.int .i64 (x : Nat))) wr) := by
            show Q _ _
            rw [← HQ.out]
            exact .inl ⟨_, _, HP.out.symm, rfl, HK1.out⟩
          go_wp2_with fail
          first | exact FIN.out | (go_ret; exact FIN.out) | (go_ret2; exact FIN.out)
      · have HB1 := hid b1
        have HY : Hid (R = .inl y1) := hy
        clear hrel hy b1
        obtain ⟨c9, ne1, ne2⟩ := HB1.out.c
        have lb := HB1.out.lt
        have FIN : Hid (Q (.returned (.int .i64 z)) wr) := by
          show Q _ _
          rw [← HQ.out]
          exact .inr ⟨y1, z, HY.out, rfl, HB1.out⟩
        go_wp2_with fail
        first | exact FIN.out | (go_ret; exact FIN.out) | (go_ret2; exact FIN.out)
end
end Go.Proofs.Qxb6500574aGreatDoor
