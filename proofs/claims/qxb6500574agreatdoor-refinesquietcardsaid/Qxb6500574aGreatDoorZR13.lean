/-
  THE WALKS of syntaxm: prim.
-/
import Derived.Test.Qxb6500574aGreatDoorZR12
namespace Go.Proofs.Qxb6500574aGreatDoor
open Go Go.RowKit
set_option linter.unusedVariables false
set_option linter.unusedSimpArgs false
section
variable {T : List Tok} {n : Nat}
set_option maxRecDepth 100000
set_option maxHeartbeats 1000000
theorem PzK.c7 {w W : World} {A : PzP} {s : PSt} (h : PzK w A T s W) : W.cell? ⟨A.b, 7, none⟩ = some (.int .i64 (tkc (curT T s)).e) := by
  obtain ⟨A', q, g, S⟩ := h
  rw [← S.b]
  exact g.m.c 7
theorem PzK.rebase {w W : World} {A : PzP} {s : PSt} (h : PzK w A T s W) : ∃ A1, PzK W A1 T s W ∧ PzS w A W A1 ∧ Ow W A1.o := by
  obtain ⟨A', q, g, S⟩ := h
  exact ⟨A', ⟨A', q, g, PzS.refl _ _⟩, S, g.m.own⟩
theorem PzR.base {w W W2 : World} {A A1 : PzP} {R : PR} {e : Ending} (S : PzS w A W A1) (h : PzR T W A1 R e W2) : PzR T w A R e W2 := by
  rcases h with ⟨v, s, h1, h2, A', q, g, S2⟩ | ⟨y, z, h1, h2, h0, A', d, m, h3, h4, S2⟩
  · exact .inl ⟨v, s, h1, h2, A', q, g, S.trans S2⟩
  · exact .inr ⟨y, z, h1, h2, h0, A', d, m, h3, h4, S.trans S2⟩
/-- a block of a function's own stays -/
theorem PzK.loc {w W : World} {A : PzP} {s : PSt} (h : PzK w A T s W) {b : Nat} {cs : Array Value} {U : TypeId} (hb : Has w b cs U) (z : A.o b = 0) : Has W b cs U := by
  obtain ⟨A', q, g, S⟩ := h
  exact S.s.has hb (by rw [z]; omega)
theorem prim_y (C : ∀ m, m ≤ n → PCz T m) {w W : World} {A : PzP} {s : PSt} {room : Nat} {lv : Int} {tK tN tP tE : Nat} {tS : Bs} (htK : (tkc (curT T s)).k = tK) (htS : (tkc (curT T s)).s = tS) (htN : (tkc (curT T s)).n = tN) (htP : (curT T s).p = tP) (hW : W.alloc (.cells #[.int .i64 (tK : Nat), sv tS, .int .u64 (tN : Nat), .int .i64 (tP : Nat), .int .i64 (tE : Nat)] 211) = w) (c3 : W.cell? ⟨A.b, 3, none⟩ = some (.int .i64 tK)) (c4 : W.cell? ⟨A.b, 4, none⟩ = some (sv tS)) (c5 : W.cell? ⟨A.b, 5, none⟩ = some (.int .u64 tN)) (c6 : W.cell? ⟨A.b, 6, none⟩ = some (.int .i64 tP)) (c7 : W.cell? ⟨A.b, 7, none⟩ = some (.int .i64 tE)) (lbW : A.b < W.heap.size) (hz : A.o W.heap.size = 0) (h0 : PzK w A T s w) (hn : PzN s 0) (hr : lv + room = 13 ∧ 1 ≤ lv) (h1 : 1 ≤ room) (hx : parM T (n + 1) 5 room [] s ≠ x99) :
    Calls Tryz.prog 282 #[.pointer (some ⟨A.b, 0, none⟩), .int .i64 lv] W (PzR T w A (parM T (n + 1) 5 room [] s)) := by
  obtain ⟨R, HR⟩ : ∃ R, Hid (parM T (n + 1) 5 room [] s = R) := ⟨_, rfl⟩
  rw [HR.out] at hx ⊢
  obtain ⟨Q, HQ⟩ : ∃ Q : Ending → World → Prop, Hid (PzR T w A R = Q) := ⟨_, rfl⟩
  rw [HQ.out]
  have HC := hid C
  have HX := hid hx
  have HK0 := hid h0
  have HN0 := hid hn
  have HRM := hid hr
  have lv1 : 1 ≤ lv := hr.2
  have lv2 : lv ≤ 13 := by omega
  have HP : Hid (_ = R) := pm5.symm.trans HR.out
  have HW := hid hW
  have HLB : Hid (Has w W.heap.size #[.int .i64 (tK : Nat), sv tS, .int .u64 (tN : Nat), .int .i64 (tP : Nat), .int .i64 (tE : Nat)] 211) := by show Has _ _ _ _; rw [← hW]; exact Has.new _ _ _
  have HZ := hid hz
  have HtK := hid htK
  have HtS := hid htS
  have HtN := hid htN
  have HtP := hid htP
  clear C hx h0 hn HR hr hW hz htK htS htN htP
  by_cases hhk : (curT T s).k = 3
  · have hk := hid hhk
    clear hhk
    have hp := HP.out
    clear HP
    rw [if_pos hk.out] at hp
    have HP := hid hp
    clear hp
    have e1 : (tkc (curT T s)).k = 2 ∧ (tkc (curT T s)).n = (curT T s).n := by unfold tkc; rw [if_neg (by have := hk.out; omega), if_neg (by have := hk.out; omega), if_neg (by have := hk.out; omega), if_pos hk.out]; exact ⟨rfl, rfl⟩
    have hK : tK = 2 := HtK.out.symm.trans e1.1
    subst hK
    have hN : (curT T s).n = tN := e1.2.symm.trans HtN.out
    have hp := HP.out
    clear HP
    rw [hN, HtP.out] at hp
    have HP := hid hp
    clear hp
    clear e1 hN
    replace c3 : W.cell? ⟨A.b, 3, none⟩ = some (.int .i64 2) := c3
    replace HW : Hid (W.alloc (.cells #[.int .i64 2, sv tS, .int .u64 (tN : Nat), .int .i64 (tP : Nat), .int .i64 (tE : Nat)] 211) = w) := HW
    go_enter Tryz.func282, Tryz.ntmps282
    go_wp2_with fail
    rw [HW.out]
    clear c3 c4 c5 c6 c7 lbW
    have HCC := hid (HK0.out.next (by have := hk.out; omega))
    refine HCC.out.mono ?_
    rintro e1 W1 ⟨rfl, k1⟩
    clear HCC
    have HK1 : Hid (PzK w A T s.nxt W1) := k1
    clear k1
    have HN1 : Hid (PzN s.nxt 1) := HN0.out.nxt
    obtain ⟨c3, c4, c5, c6, c9, c11, c12, c13⟩ := HK1.out.c
    have lb := HK1.out.lt
    clear c3 c4 c5 c6 c11 c12 c13
    have LX := HK1.out.loc HLB.out HZ.out
    have y2 := LX.cell 2
    have y3 := LX.cell 3
    simp only [List.getElem?_toArray, List.getElem?_cons_succ, List.getElem?_cons_zero] at y2 y3
    have ly := LX.lt
    clear LX
    have HCC := hid (HK1.out.add ⟨15, 0, 0, 0, 0, tN, [], tP⟩ (by have := HN1.out.l; have := HK1.out.il; omega))
    have FIN : Hid (∀ eX WX, (eX = .returned (.int .i64 ((s.nxt).nodes.length : Nat)) ∧ PzK w A T ((s.nxt).add ⟨15, 0, 0, 0, 0, tN, [], tP⟩) WX) → Q eX WX) := fun eX WX h => by
      rw [← HQ.out]
      exact .inl ⟨_, _, HP.out.symm, h.1, h.2⟩
    go_wp2_with fail
    refine HCC.out.mono ?_
    rintro e2 W2 ⟨rfl, k1⟩
    clear c9 lb y2 y3 ly
    have FIN2 := hid (FIN.out _ _ ⟨rfl, k1⟩)
    clear FIN k1 HCC
    go_wp2_with fail
    first | exact FIN2.out | (go_ret; exact FIN2.out) | (go_ret2; exact FIN2.out)
  · have hk := hid hhk
    clear hhk
    have hp := HP.out
    clear HP
    rw [if_neg hk.out] at hp
    have HP := hid hp
    clear hp
    have hk3 := hk
    clear hk
    by_cases hhk : (curT T s).k = 4
    · have hk := hid hhk
      clear hhk
      have hp := HP.out
      clear HP
      rw [if_pos hk.out] at hp
      have HP := hid hp
      clear hp
      have e1 : (tkc (curT T s)).k = 3 ∧ (tkc (curT T s)).s = (curT T s).s := by unfold tkc; rw [if_neg (by have := hk.out; omega), if_neg (by have := hk.out; omega), if_neg (by have := hk.out; omega), if_neg (by have := hk.out; omega), if_pos hk.out]; exact ⟨rfl, rfl⟩
      have hK : tK = 3 := HtK.out.symm.trans e1.1
      subst hK
      have hS : (curT T s).s = tS := e1.2.symm.trans HtS.out
      have hp := HP.out
      clear HP
      rw [hS, HtP.out] at hp
      have HP := hid hp
      clear hp
      clear e1 hS
      replace c3 : W.cell? ⟨A.b, 3, none⟩ = some (.int .i64 3) := c3
      replace HW : Hid (W.alloc (.cells #[.int .i64 3, sv tS, .int .u64 (tN : Nat), .int .i64 (tP : Nat), .int .i64 (tE : Nat)] 211) = w) := HW
      go_enter Tryz.func282, Tryz.ntmps282
      go_wp2_with fail
      rw [HW.out]
      clear c3 c4 c5 c6 c7 lbW
      have HCC := hid (HK0.out.next (by have := hk.out; omega))
      refine HCC.out.mono ?_
      rintro e3 W3 ⟨rfl, k1⟩
      clear HCC
      have HK3 : Hid (PzK w A T s.nxt W3) := k1
      clear k1
      have HN3 : Hid (PzN s.nxt 1) := HN0.out.nxt
      obtain ⟨c3, c4, c5, c6, c9, c11, c12, c13⟩ := HK3.out.c
      have lb := HK3.out.lt
      clear c3 c4 c5 c6 c11 c12 c13
      have LX := HK3.out.loc HLB.out HZ.out
      have y1 := LX.cell 1
      have y3 := LX.cell 3
      simp only [List.getElem?_toArray, List.getElem?_cons_succ, List.getElem?_cons_zero] at y1 y3
      have ly := LX.lt
      clear LX
      have HCC := hid (HK3.out.add ⟨16, 0, 0, 0, 0, 0, tS, tP⟩ (by have := HN3.out.l; have := HK3.out.il; omega))
      have FIN : Hid (∀ eX WX, (eX = .returned (.int .i64 ((s.nxt).nodes.length : Nat)) ∧ PzK w A T ((s.nxt).add ⟨16, 0, 0, 0, 0, 0, tS, tP⟩) WX) → Q eX WX) := fun eX WX h => by
        rw [← HQ.out]
        exact .inl ⟨_, _, HP.out.symm, h.1, h.2⟩
      go_wp2_with fail
      refine HCC.out.mono ?_
      rintro e4 W4 ⟨rfl, k1⟩
      clear c9 lb y1 y3 ly
      have FIN2 := hid (FIN.out _ _ ⟨rfl, k1⟩)
      clear FIN k1 HCC
      go_wp2_with fail
      first | exact FIN2.out | (go_ret; exact FIN2.out) | (go_ret2; exact FIN2.out)
    · have hk := hid hhk
      clear hhk
      have hp := HP.out
      clear HP
      rw [if_neg hk.out] at hp
      have HP := hid hp
      clear hp
      have hk4 := hk
      clear hk
      by_cases hhk : (curT T s).k = 2
      · have hk := hid hhk
        clear hhk
        have hp := HP.out
        clear HP
        rw [if_pos hk.out] at hp
        have HP := hid hp
        clear hp
        have e1 := tk_name hk.out
        have hK : tK = 1 := HtK.out.symm.trans e1.1
        subst hK
        have hS : (curT T s).s = tS := e1.2.symm.trans HtS.out
        have hp := HP.out
        clear HP
        rw [hS, HtP.out] at hp
        have HP := hid hp
        clear hp
        clear e1 hS
        replace c3 : W.cell? ⟨A.b, 3, none⟩ = some (.int .i64 1) := c3
        replace HW : Hid (W.alloc (.cells #[.int .i64 1, sv tS, .int .u64 (tN : Nat), .int .i64 (tP : Nat), .int .i64 (tE : Nat)] 211) = w) := HW
        go_enter Tryz.func282, Tryz.ntmps282
        go_wp2_with fail
        rw [HW.out]
        clear c3 c4 c5 c6 c7 lbW
        have HCC := hid (HK0.out.next (by have := hk.out; omega))
        refine HCC.out.mono ?_
        rintro e5 W5 ⟨rfl, k1⟩
        clear HCC
        have HK5 : Hid (PzK w A T s.nxt W5) := k1
        clear k1
        have HN5 : Hid (PzN s.nxt 1) := HN0.out.nxt
        obtain ⟨c3, c4, c5, c6, c9, c11, c12, c13⟩ := HK5.out.c
        have lb := HK5.out.lt
        clear c3 c4 c5 c6 c11 c12 c13
        have LX := HK5.out.loc HLB.out HZ.out
        have y1 := LX.cell 1
        have y3 := LX.cell 3
        simp only [List.getElem?_toArray, List.getElem?_cons_succ, List.getElem?_cons_zero] at y1 y3
        have ly := LX.lt
        clear LX
        have HCC := hid (HK5.out.add ⟨17, 0, 0, 0, 0, 0, tS, tP⟩ (by have := HN5.out.l; have := HK5.out.il; omega))
        have FIN : Hid (∀ eX WX, (eX = .returned (.int .i64 ((s.nxt).nodes.length : Nat)) ∧ PzK w A T ((s.nxt).add ⟨17, 0, 0, 0, 0, 0, tS, tP⟩) WX) → Q eX WX) := fun eX WX h => by
          rw [← HQ.out]
          exact .inl ⟨_, _, HP.out.symm, h.1, h.2⟩
        go_wp2_with fail
        refine HCC.out.mono ?_
        rintro e6 W6 ⟨rfl, k1⟩
        clear c9 lb y1 y3 ly
        have FIN2 := hid (FIN.out _ _ ⟨rfl, k1⟩)
        clear FIN k1 HCC
        go_wp2_with fail
        first | exact FIN2.out | (go_ret; exact FIN2.out) | (go_ret2; exact FIN2.out)
      · have hk := hid hhk
        clear hhk
        have hp := HP.out
        clear HP
        rw [if_neg hk.out] at hp
        have HP := hid hp
        clear hp
        have hk2 := hk
        clear hk
        have t123 : tK ≠ 1 ∧ tK ≠ 2 ∧ tK ≠ 3 := by
          rw [← HtK.out]
          refine ⟨tk_nam hk2.out, ?_, ?_⟩
          · have a := hk3.out
            unfold tkc
            repeat' split
            all_goals first | (simp; done) | (exfalso; omega) | simp_all
          · have a := hk4.out
            unfold tkc
            repeat' split
            all_goals first | (simp; done) | (exfalso; omega) | simp_all
        have q1 : ((tK : Int) == 1) = false := by rw [beq_eq_false_iff_ne]; omega
        have q2 : ((tK : Int) == 2) = false := by rw [beq_eq_false_iff_ne]; omega
        have q3 : ((tK : Int) == 3) = false := by rw [beq_eq_false_iff_ne]; omega
        clear t123
        by_cases hhs16 : (curT T s).k = 16
        · have hs16 := hid hhs16
          clear hhs16
          have hp := HP.out
          clear HP
          rw [if_pos hs16.out] at hp
          have HP := hid hp
          clear hp
          have hp := HP.out
          clear HP
          rw [HtP.out] at hp
          have HP := hid hp
          clear hp
          go_enter Tryz.func282, Tryz.ntmps282
          go_wp2_with fail
          rw [HW.out]
          clear c3 c4 c5 c6 c7 lbW
          have CI := HK0.out.is (k := 16) (by decide) (by decide) (x := [110, 105, 108]) rfl
          rw [decide_eq_true hs16.out] at CI
          have HCI := hid CI
          clear CI
          refine HCI.out.mono ?_
          rintro e7 V7 ⟨rfl, hw⟩
          rw [hw]
          clear hw HCI V7
          have HCC := hid (HK0.out.next (by have := hs16.out; omega))
          go_wp2_with fail
          refine HCC.out.mono ?_
          rintro e8 W8 ⟨rfl, k1⟩
          clear HCC
          have HK8 : Hid (PzK w A T s.nxt W8) := k1
          clear k1
          have HN8 : Hid (PzN s.nxt 1) := (HN0.out.nxt)
          obtain ⟨c3, c4, c5, c6, c9, c11, c12, c13⟩ := HK8.out.c
          have lb := HK8.out.lt
          clear c3 c4 c5 c6 c11 c12 c13
          have LX := HK8.out.loc HLB.out HZ.out
          have y3 := LX.cell 3
          simp only [List.getElem?_toArray, List.getElem?_cons_succ, List.getElem?_cons_zero] at y3
          have ly := LX.lt
          clear LX
          have HCC := hid (HK8.out.add ⟨12, 0, 0, 0, 0, 0, [], tP⟩ (by have := HN8.out.l; have := HK8.out.il; omega))
          have FIN : Hid (∀ eX WX, (eX = .returned (.int .i64 ((s.nxt).nodes.length : Nat)) ∧ PzK w A T ((s.nxt).add ⟨12, 0, 0, 0, 0, 0, [], tP⟩) WX) → Q eX WX) := fun eX WX h => by
            rw [← HQ.out]
            exact .inl ⟨_, _, HP.out.symm, h.1, h.2⟩
          go_wp2_with fail
          refine HCC.out.mono ?_
          rintro e9 W9 ⟨rfl, k1⟩
          clear c9 lb y3 ly
          have FIN2 := hid (FIN.out _ _ ⟨rfl, k1⟩)
          clear FIN k1 HCC
          go_wp2_with fail
          first | exact FIN2.out | (go_ret; exact FIN2.out) | (go_ret2; exact FIN2.out)
        · have hs16 := hid hhs16
          clear hhs16
          have hp := HP.out
          clear HP
          rw [if_neg hs16.out] at hp
          have HP := hid hp
          clear hp
          by_cases hhs20 : (curT T s).k = 20
          · have hs20 := hid hhs20
            clear hhs20
            have hp := HP.out
            clear HP
            rw [if_pos hs20.out] at hp
            have HP := hid hp
            clear hp
            have hp := HP.out
            clear HP
            rw [HtP.out] at hp
            have HP := hid hp
            clear hp
            go_enter Tryz.func282, Tryz.ntmps282
            go_wp2_with fail
            rw [HW.out]
            clear c3 c4 c5 c6 c7 lbW
            have CI := HK0.out.is (k := 16) (by decide) (by decide) (x := [110, 105, 108]) rfl
            rw [decide_eq_false hs16.out] at CI
            have HCI := hid CI
            clear CI
            refine HCI.out.mono ?_
            rintro e10 V10 ⟨rfl, hw⟩
            rw [hw]
            clear hw HCI V10
            have CI := HK0.out.is (k := 20) (by decide) (by decide) (x := [116, 114, 117, 101]) rfl
            rw [decide_eq_true hs20.out] at CI
            have HCI := hid CI
            clear CI
            go_wp2_with fail
            refine HCI.out.mono ?_
            rintro e11 V11 ⟨rfl, hw⟩
            rw [hw]
            clear hw HCI V11
            have HCC := hid (HK0.out.next (by have := hs20.out; omega))
            go_wp2_with fail
            refine HCC.out.mono ?_
            rintro e12 W12 ⟨rfl, k1⟩
            clear HCC
            have HK12 : Hid (PzK w A T s.nxt W12) := k1
            clear k1
            have HN12 : Hid (PzN s.nxt 1) := (HN0.out.nxt)
            obtain ⟨c3, c4, c5, c6, c9, c11, c12, c13⟩ := HK12.out.c
            have lb := HK12.out.lt
            clear c3 c4 c5 c6 c11 c12 c13
            have LX := HK12.out.loc HLB.out HZ.out
            have y3 := LX.cell 3
            simp only [List.getElem?_toArray, List.getElem?_cons_succ, List.getElem?_cons_zero] at y3
            have ly := LX.lt
            clear LX
            have HCC := hid (HK12.out.add ⟨13, 0, 0, 0, 0, 0, [], tP⟩ (by have := HN12.out.l; have := HK12.out.il; omega))
            have FIN : Hid (∀ eX WX, (eX = .returned (.int .i64 ((s.nxt).nodes.length : Nat)) ∧ PzK w A T ((s.nxt).add ⟨13, 0, 0, 0, 0, 0, [], tP⟩) WX) → Q eX WX) := fun eX WX h => by
              rw [← HQ.out]
              exact .inl ⟨_, _, HP.out.symm, h.1, h.2⟩
            go_wp2_with fail
            refine HCC.out.mono ?_
            rintro e13 W13 ⟨rfl, k1⟩
            clear c9 lb y3 ly
            have FIN2 := hid (FIN.out _ _ ⟨rfl, k1⟩)
            clear FIN k1 HCC
            go_wp2_with fail
            first | exact FIN2.out | (go_ret; exact FIN2.out) | (go_ret2; exact FIN2.out)
          · have hs20 := hid hhs20
            clear hhs20
            have hp := HP.out
            clear HP
            rw [if_neg hs20.out] at hp
            have HP := hid hp
            clear hp
            by_cases hhs10 : (curT T s).k = 10
            · have hs10 := hid hhs10
              clear hhs10
              have hp := HP.out
              clear HP
              rw [if_pos hs10.out] at hp
              have HP := hid hp
              clear hp
              have hp := HP.out
              clear HP
              rw [HtP.out] at hp
              have HP := hid hp
              clear hp
              go_enter Tryz.func282, Tryz.ntmps282
              go_wp2_with fail
              rw [HW.out]
              clear c3 c4 c5 c6 c7 lbW
              have CI := HK0.out.is (k := 16) (by decide) (by decide) (x := [110, 105, 108]) rfl
              rw [decide_eq_false hs16.out] at CI
              have HCI := hid CI
              clear CI
              refine HCI.out.mono ?_
              rintro e14 V14 ⟨rfl, hw⟩
              rw [hw]
              clear hw HCI V14
              have CI := HK0.out.is (k := 20) (by decide) (by decide) (x := [116, 114, 117, 101]) rfl
              rw [decide_eq_false hs20.out] at CI
              have HCI := hid CI
              clear CI
              go_wp2_with fail
              refine HCI.out.mono ?_
              rintro e15 V15 ⟨rfl, hw⟩
              rw [hw]
              clear hw HCI V15
              have CI := HK0.out.is (k := 10) (by decide) (by decide) (x := [102, 97, 108, 115, 101]) rfl
              rw [decide_eq_true hs10.out] at CI
              have HCI := hid CI
              clear CI
              go_wp2_with fail
              refine HCI.out.mono ?_
              rintro e16 V16 ⟨rfl, hw⟩
              rw [hw]
              clear hw HCI V16
              have HCC := hid (HK0.out.next (by have := hs10.out; omega))
              go_wp2_with fail
              refine HCC.out.mono ?_
              rintro e17 W17 ⟨rfl, k1⟩
              clear HCC
              have HK17 : Hid (PzK w A T s.nxt W17) := k1
              clear k1
              have HN17 : Hid (PzN s.nxt 1) := (HN0.out.nxt)
              obtain ⟨c3, c4, c5, c6, c9, c11, c12, c13⟩ := HK17.out.c
              have lb := HK17.out.lt
              clear c3 c4 c5 c6 c11 c12 c13
              have LX := HK17.out.loc HLB.out HZ.out
              have y3 := LX.cell 3
              simp only [List.getElem?_toArray, List.getElem?_cons_succ, List.getElem?_cons_zero] at y3
              have ly := LX.lt
              clear LX
              have HCC := hid (HK17.out.add ⟨14, 0, 0, 0, 0, 0, [], tP⟩ (by have := HN17.out.l; have := HK17.out.il; omega))
              have FIN : Hid (∀ eX WX, (eX = .returned (.int .i64 ((s.nxt).nodes.length : Nat)) ∧ PzK w A T ((s.nxt).add ⟨14, 0, 0, 0, 0, 0, [], tP⟩) WX) → Q eX WX) := fun eX WX h => by
                rw [← HQ.out]
                exact .inl ⟨_, _, HP.out.symm, h.1, h.2⟩
              go_wp2_with fail
              refine HCC.out.mono ?_
              rintro e18 W18 ⟨rfl, k1⟩
              clear c9 lb y3 ly
              have FIN2 := hid (FIN.out _ _ ⟨rfl, k1⟩)
              clear FIN k1 HCC
              go_wp2_with fail
              first | exact FIN2.out | (go_ret; exact FIN2.out) | (go_ret2; exact FIN2.out)
            · have hs10 := hid hhs10
              clear hhs10
              have hp := HP.out
              clear HP
              rw [if_neg hs10.out] at hp
              have HP := hid hp
              clear hp
              by_cases hhs39 : (curT T s).k = 39
              · have hs39 := hid hhs39
                clear hhs39
                have hp := HP.out
                clear HP
                rw [if_pos hs39.out] at hp
                have HP := hid hp
                clear hp
                go_enter Tryz.func282, Tryz.ntmps282
                go_wp2_with fail
                rw [HW.out]
                clear c3 c4 c5 c6 c7 lbW
                have CI := HK0.out.is (k := 16) (by decide) (by decide) (x := [110, 105, 108]) rfl
                rw [decide_eq_false hs16.out] at CI
                have HCI := hid CI
                clear CI
                refine HCI.out.mono ?_
                rintro e19 V19 ⟨rfl, hw⟩
                rw [hw]
                clear hw HCI V19
                have CI := HK0.out.is (k := 20) (by decide) (by decide) (x := [116, 114, 117, 101]) rfl
                rw [decide_eq_false hs20.out] at CI
                have HCI := hid CI
                clear CI
                go_wp2_with fail
                refine HCI.out.mono ?_
                rintro e20 V20 ⟨rfl, hw⟩
                rw [hw]
                clear hw HCI V20
                have CI := HK0.out.is (k := 10) (by decide) (by decide) (x := [102, 97, 108, 115, 101]) rfl
                rw [decide_eq_false hs10.out] at CI
                have HCI := hid CI
                clear CI
                go_wp2_with fail
                refine HCI.out.mono ?_
                rintro e21 V21 ⟨rfl, hw⟩
                rw [hw]
                clear hw HCI V21
                have CI := HK0.out.is (k := 39) (by decide) (by decide) (x := [40]) rfl
                rw [decide_eq_true hs39.out] at CI
                have HCI := hid CI
                clear CI
                go_wp2_with fail
                refine HCI.out.mono ?_
                rintro e22 V22 ⟨rfl, hw⟩
                rw [hw]
                clear hw HCI V22
                have HCC := hid (HK0.out.next (by have := hs39.out; omega))
                go_wp2_with fail
                refine HCC.out.mono ?_
                rintro e23 W23 ⟨rfl, k1⟩
                clear HCC
                have HK23 : Hid (PzK w A T s.nxt W23) := k1
                clear k1
                have HN23 : Hid (PzN s.nxt 1) := (HN0.out.nxt)
                obtain ⟨c3, c4, c5, c6, c9, c11, c12, c13⟩ := HK23.out.c
                have lb := HK23.out.lt
                clear c3 c4 c5 c6 c11 c12 c13
                have hx9 : parM T n 0 (room - 1) [1] s.nxt ≠ x99 := fun e => HX.out (by have hp := HP.out; rw [e] at hp; exact hp.symm)
                have HCC := hid ((HC.out n (Nat.le_refl _)).e (lv := lv + 1) HK23.out (HN23.out.le (by omega)) (by have := HRM.out; omega) hx9)
                clear hx9
                go_wp2_with fail
                refine HCC.out.mono ?_
                intro e24 W24 q24
                clear c9 lb
                clear HCC
                rcases q24 with ⟨v24, s24, hy, rfl, k1⟩ | ⟨y24, z24, hy, rfl, b1⟩
                · have HY := hid hy
                  have HK24 := hid k1
                  clear hy k1
                  obtain ⟨n1, a1, b1⟩ := HN23.out.p0 HY.out
                  have hp := HP.out
                  clear HP
                  rw [HY.out] at hp
                  dsimp only [PBd] at hp
                  have HP := hid hp
                  clear hp
                  obtain ⟨v, HVv⟩ : ∃ x : Nat, Hid (v24.getD 0 0 = x) := ⟨_, rfl⟩
                  rw [HVv.out] at b1 a1
                  try rw [HVv.out] at HP
                  have HN24 : Hid (PzN s24 1) := n1
                  have HLv := hid b1
                  have HGv := hid a1
                  clear a1
                  clear n1 b1
                  rw [HVv.out]
                  by_cases hw25 : (curT T s24).k = 40
                  · have w25 := hid hw25
                    clear hw25
                    have hp := HP.out
                    clear HP
                    unfold expectP at hp
                    rw [if_pos w25.out] at hp
                    have HP := hid hp
                    clear hp
                    have HCC := hid (HK24.out.want (k := 40) (by decide) (by decide) (x := [41]) rfl w25.out)
                    go_wp2_with fail
                    refine HCC.out.mono ?_
                    rintro e26 W26 ⟨rfl, k1⟩
                    clear HCC
                    have HK26 : Hid (PzK w A T s24.nxt W26) := k1
                    clear k1
                    have HN26 : Hid (PzN s24.nxt 2) := HN24.out.nxt
                    have FIN : Hid (Q (.returned (.int .i64 (v : Nat))) W26) := by
                      show Q _ _
                      rw [← HQ.out]
                      exact .inl ⟨_, _, HP.out.symm, by rw [HVv.out], HK26.out⟩
                    go_wp2_with fail
                    first | exact FIN.out | (go_ret; exact FIN.out) | (go_ret2; exact FIN.out)
                  · have w25 := hid hw25
                    clear hw25
                    have hp := HP.out
                    clear HP
                    unfold expectP at hp
                    rw [if_neg w25.out] at hp
                    have HP := hid hp
                    clear hp
                    obtain ⟨y27, hy27⟩ : ∃ y, failP T s24 15 = .inl y := ⟨_, rfl⟩
                    have HFY := hid hy27
                    have HY : Hid (R = .inl y27) := by
                      have hp := HP.out
                      rw [hy27] at hp
                      exact hp.symm
                    clear hy27 HP
                    have HCC := hid (HK24.out.wantN (k := 40) (by decide) (by decide) (x := [41]) rfl w25.out HFY.out)
                    go_wp2_with fail
                    refine HCC.out.mono ?_
                    rintro e27 W27 ⟨rfl, b1⟩
                    have HB27 := hid b1
                    clear b1 HCC
                    obtain ⟨c9, ne1, ne2⟩ := HB27.out.c
                    have lb := HB27.out.lt
                    have FIN : Hid (Q (.returned (.int .i64 (v : Nat))) W27) := by
                      show Q _ _
                      rw [← HQ.out]
                      exact .inr ⟨y27, (v : Nat), HY.out, rfl, HB27.out⟩
                    go_wp2_with fail
                    first | exact FIN.out | (go_ret; exact FIN.out) | (go_ret2; exact FIN.out)
                · have HB24 := hid b1
                  have HY : Hid (R = .inl y24) := by
                    have hp := HP.out
                    rw [hy] at hp
                    exact hp.symm
                  clear hy b1 HP
                  obtain ⟨c9, ne1, ne2⟩ := HB24.out.c
                  have lb := HB24.out.lt
                  have HCC := hid (HB24.out.want [41])
                  go_wp2_with fail
                  refine HCC.out.mono ?_
                  rintro e28 W28 ⟨rfl, b1⟩
                  clear c9 ne1 ne2 lb
                  have HB28 := hid b1
                  clear b1 HCC
                  obtain ⟨c9, ne1, ne2⟩ := HB28.out.c
                  have lb := HB28.out.lt
                  have FIN : Hid (Q (.returned (.int .i64 z24)) W28) := by
                    show Q _ _
                    rw [← HQ.out]
                    exact .inr ⟨y24, z24, HY.out, rfl, HB28.out⟩
                  go_wp2_with fail
                  first | exact FIN.out | (go_ret; exact FIN.out) | (go_ret2; exact FIN.out)
              · have hs39 := hid hhs39
                clear hhs39
                have hp := HP.out
                clear HP
                rw [if_neg hs39.out] at hp
                have HP := hid hp
                clear hp
                by_cases hhs12 : (curT T s).k = 12
                · have hs12 := hid hhs12
                  clear hhs12
                  have hp := HP.out
                  clear HP
                  rw [if_pos hs12.out] at hp
                  have HP := hid hp
                  clear hp
                  by_cases hhf12 : 12 ≤ s.funcs
                  · have hf12 := hid hhf12
                    clear hhf12
                    have hp := HP.out
                    clear HP
                    rw [if_pos hf12.out] at hp
                    have HP := hid hp
                    clear hp
                    go_enter Tryz.func282, Tryz.ntmps282
                    go_wp2_with fail
                    rw [HW.out]
                    clear c3 c4 c5 c6 c7 lbW
                    have CI := HK0.out.is (k := 16) (by decide) (by decide) (x := [110, 105, 108]) rfl
                    rw [decide_eq_false hs16.out] at CI
                    have HCI := hid CI
                    clear CI
                    refine HCI.out.mono ?_
                    rintro e29 V29 ⟨rfl, hw⟩
                    rw [hw]
                    clear hw HCI V29
                    have CI := HK0.out.is (k := 20) (by decide) (by decide) (x := [116, 114, 117, 101]) rfl
                    rw [decide_eq_false hs20.out] at CI
                    have HCI := hid CI
                    clear CI
                    go_wp2_with fail
                    refine HCI.out.mono ?_
                    rintro e30 V30 ⟨rfl, hw⟩
                    rw [hw]
                    clear hw HCI V30
                    have CI := HK0.out.is (k := 10) (by decide) (by decide) (x := [102, 97, 108, 115, 101]) rfl
                    rw [decide_eq_false hs10.out] at CI
                    have HCI := hid CI
                    clear CI
                    go_wp2_with fail
                    refine HCI.out.mono ?_
                    rintro e31 V31 ⟨rfl, hw⟩
                    rw [hw]
                    clear hw HCI V31
                    have CI := HK0.out.is (k := 39) (by decide) (by decide) (x := [40]) rfl
                    rw [decide_eq_false hs39.out] at CI
                    have HCI := hid CI
                    clear CI
                    go_wp2_with fail
                    refine HCI.out.mono ?_
                    rintro e32 V32 ⟨rfl, hw⟩
                    rw [hw]
                    clear hw HCI V32
                    have CI := HK0.out.is (k := 12) (by decide) (by decide) (x := [102, 117, 110, 99, 116, 105, 111, 110]) rfl
                    rw [decide_eq_true hs12.out] at CI
                    have HCI := hid CI
                    clear CI
                    go_wp2_with fail
                    refine HCI.out.mono ?_
                    rintro e33 V33 ⟨rfl, hw⟩
                    rw [hw]
                    clear hw HCI V33
                    obtain ⟨c3, c4, c5, c6, c9, c11, c12, c13⟩ := HK0.out.c
                    have lb := HK0.out.lt
                    clear c3 c4 c5 c6 c11 c12
                    have bf : (12 : Int) ≤ (s.funcs : Int) := by have := hf12.out; omega
                    obtain ⟨fu, HFU⟩ : ∃ fu : Nat, Hid (s.funcs = fu) := ⟨_, rfl⟩
                    rw [HFU.out] at c13 bf
                    obtain ⟨y34, hy34⟩ : ∃ y, failP T s 20 = .inl y := ⟨_, rfl⟩
                    have HFY := hid hy34
                    have HY : Hid (R = .inl y34) := by
                      have hp := HP.out
                      rw [hy34] at hp
                      exact hp.symm
                    clear hy34 HP
                    have HCC := hid (HK0.out.fail (e := 20) (by decide) HFY.out (e' := 20) rfl)
                    go_wp2_with fail
                    refine HCC.out.mono ?_
                    rintro e34 W34 ⟨rfl, b1⟩
                    clear c9 c13 lb
                    have HB34 := hid b1
                    clear b1 HCC
                    obtain ⟨c9, ne1, ne2⟩ := HB34.out.c
                    have lb := HB34.out.lt
                    have FIN : Hid (Q (.returned (.int .i64 0)) W34) := by
                      show Q _ _
                      rw [← HQ.out]
                      exact .inr ⟨y34, 0, HY.out, rfl, HB34.out⟩
                    go_wp2_with fail
                    first | exact FIN.out | (go_ret; exact FIN.out) | (go_ret2; exact FIN.out)
                  · have hf12 := hid hhf12
                    clear hhf12
                    have hp := HP.out
                    clear HP
                    rw [if_neg hf12.out] at hp
                    have HP := hid hp
                    clear hp
                    go_enter Tryz.func282, Tryz.ntmps282
                    go_wp2_with fail
                    rw [HW.out]
                    clear c3 c4 c5 c6 c7 lbW
                    have CI := HK0.out.is (k := 16) (by decide) (by decide) (x := [110, 105, 108]) rfl
                    rw [decide_eq_false hs16.out] at CI
                    have HCI := hid CI
                    clear CI
                    refine HCI.out.mono ?_
                    rintro e35 V35 ⟨rfl, hw⟩
                    rw [hw]
                    clear hw HCI V35
                    have CI := HK0.out.is (k := 20) (by decide) (by decide) (x := [116, 114, 117, 101]) rfl
                    rw [decide_eq_false hs20.out] at CI
                    have HCI := hid CI
                    clear CI
                    go_wp2_with fail
                    refine HCI.out.mono ?_
                    rintro e36 V36 ⟨rfl, hw⟩
                    rw [hw]
                    clear hw HCI V36
                    have CI := HK0.out.is (k := 10) (by decide) (by decide) (x := [102, 97, 108, 115, 101]) rfl
                    rw [decide_eq_false hs10.out] at CI
                    have HCI := hid CI
                    clear CI
                    go_wp2_with fail
                    refine HCI.out.mono ?_
                    rintro e37 V37 ⟨rfl, hw⟩
                    rw [hw]
                    clear hw HCI V37
                    have CI := HK0.out.is (k := 39) (by decide) (by decide) (x := [40]) rfl
                    rw [decide_eq_false hs39.out] at CI
                    have HCI := hid CI
                    clear CI
                    go_wp2_with fail
                    refine HCI.out.mono ?_
                    rintro e38 V38 ⟨rfl, hw⟩
                    rw [hw]
                    clear hw HCI V38
                    have CI := HK0.out.is (k := 12) (by decide) (by decide) (x := [102, 117, 110, 99, 116, 105, 111, 110]) rfl
                    rw [decide_eq_true hs12.out] at CI
                    have HCI := hid CI
                    clear CI
                    go_wp2_with fail
                    refine HCI.out.mono ?_
                    rintro e39 V39 ⟨rfl, hw⟩
                    rw [hw]
                    clear hw HCI V39
                    obtain ⟨c3, c4, c5, c6, c9, c11, c12, c13⟩ := HK0.out.c
                    have lb := HK0.out.lt
                    clear c3 c4 c5 c6 c11 c12
                    have bf : ¬ (12 : Int) ≤ (s.funcs : Int) := by have := hf12.out; omega
                    obtain ⟨fu, HFU⟩ : ∃ fu : Nat, Hid (s.funcs = fu) := ⟨_, rfl⟩
                    rw [HFU.out] at c13 bf
                    have HCC := hid (HK0.out.next (by have := hs12.out; omega))
                    go_wp2_with fail
                    refine HCC.out.mono ?_
                    rintro e40 W40 ⟨rfl, k1⟩
                    clear c9 c13 lb
                    clear HCC
                    have HK40 : Hid (PzK w A T s.nxt W40) := k1
                    clear k1
                    have HN40 : Hid (PzN s.nxt 1) := (HN0.out.nxt)
                    obtain ⟨c3, c4, c5, c6, c9, c11, c12, c13⟩ := HK40.out.c
                    have lb := HK40.out.lt
                    clear c3 c4 c5 c6 c11 c12 c13
                    by_cases hhpa : (curT T s.nxt).k = 39
                    · have hpa := hid hhpa
                      clear hhpa
                      have CI := HK40.out.is (k := 39) (by decide) (by decide) (x := [40]) rfl
                      rw [decide_eq_true hpa.out] at CI
                      have HCI := hid CI
                      clear CI
                      go_wp2_with fail
                      refine HCI.out.mono ?_
                      rintro e41 V41 ⟨rfl, hw⟩
                      rw [hw]
                      clear hw HCI V41
                      have LX := HK40.out.loc HLB.out HZ.out
                      have y3 := LX.cell 3
                      simp only [List.getElem?_toArray, List.getElem?_cons_succ, List.getElem?_cons_zero] at y3
                      have ly := LX.lt
                      clear LX
                      have hp := HP.out
                      clear HP
                      rw [HtP.out] at hp
                      have HP := hid hp
                      clear hp
                      have HCC := hid ((HC.out n (Nat.le_refl _)).fn (pl := tP) (pl' := tP) HK40.out (HN40.out.le (by omega)) HRM.out h1 hpa.out rfl (by rw [HP.out]; exact HX.out))
                      rw [HP.out, HQ.out] at HCC
                      go_wp2_with fail
                      refine HCC.out.mono ?_
                      intro e42 W42 q1
                      have HQ1 := hid q1
                      clear q1 HCC
                      clear c9 lb y3 ly
                      obtain ⟨z1, rfl⟩ : ∃ z1 : Int, e42 = .returned (.int .i64 z1) := by
                        have q := HQ1.out
                        rw [← HQ.out] at q
                        rcases q with ⟨v, s1, _, h, _⟩ | ⟨y, z, _, h, _⟩
                        · exact ⟨_, h⟩
                        · exact ⟨_, h⟩
                      go_wp2_with fail
                      first | exact HQ1.out | (go_ret; exact HQ1.out) | (go_ret2; exact HQ1.out)
                    · have hpa := hid hhpa
                      clear hhpa
                      obtain ⟨n', rfl⟩ : ∃ n', n = n' + 1 := by
                        cases n with
                        | zero => exact absurd HP.out.symm HX.out
                        | succ n' => exact ⟨n', rfl⟩
                      have hp := HP.out
                      clear HP
                      rw [pm7] at hp
                      unfold expectP at hp
                      rw [if_neg hpa.out] at hp
                      have HP := hid hp
                      clear hp
                      have CI := HK40.out.is (k := 39) (by decide) (by decide) (x := [40]) rfl
                      rw [decide_eq_false hpa.out] at CI
                      have HCI := hid CI
                      clear CI
                      go_wp2_with fail
                      refine HCI.out.mono ?_
                      rintro e43 V43 ⟨rfl, hw⟩
                      rw [hw]
                      clear hw HCI V43
                      obtain ⟨y44, hy44⟩ : ∃ y, failP T s.nxt 15 = .inl y := ⟨_, rfl⟩
                      have HFY := hid hy44
                      have HY : Hid (R = .inl y44) := by
                        have hp := HP.out
                        rw [hy44] at hp
                        exact hp.symm
                      clear hy44 HP
                      have HCC := hid (HK40.out.fail (e := 15) (by decide) HFY.out (e' := 15) rfl)
                      go_wp2_with fail
                      refine HCC.out.mono ?_
                      rintro e44 W44 ⟨rfl, b1⟩
                      clear c9 lb
                      have HB44 := hid b1
                      clear b1 HCC
                      obtain ⟨c9, ne1, ne2⟩ := HB44.out.c
                      have lb := HB44.out.lt
                      have FIN : Hid (Q (.returned (.int .i64 0)) W44) := by
                        show Q _ _
                        rw [← HQ.out]
                        exact .inr ⟨y44, 0, HY.out, rfl, HB44.out⟩
                      go_wp2_with fail
                      first | exact FIN.out | (go_ret; exact FIN.out) | (go_ret2; exact FIN.out)
                · have hs12 := hid hhs12
                  clear hhs12
                  have hp := HP.out
                  clear HP
                  rw [if_neg hs12.out] at hp
                  have HP := hid hp
                  clear hp
                  by_cases hhs41 : (curT T s).k = 41
                  · have hs41 := hid hhs41
                    clear hhs41
                    have hp := HP.out
                    clear HP
                    rw [if_pos hs41.out] at hp
                    have HP := hid hp
                    clear hp
                    have hp := HP.out
                    clear HP
                    rw [HtP.out] at hp
                    have HP := hid hp
                    clear hp
                    go_enter Tryz.func282, Tryz.ntmps282
                    go_wp2_with fail
                    rw [HW.out]
                    clear c3 c4 c5 c6 c7 lbW
                    have CI := HK0.out.is (k := 16) (by decide) (by decide) (x := [110, 105, 108]) rfl
                    rw [decide_eq_false hs16.out] at CI
                    have HCI := hid CI
                    clear CI
                    refine HCI.out.mono ?_
                    rintro e45 V45 ⟨rfl, hw⟩
                    rw [hw]
                    clear hw HCI V45
                    have CI := HK0.out.is (k := 20) (by decide) (by decide) (x := [116, 114, 117, 101]) rfl
                    rw [decide_eq_false hs20.out] at CI
                    have HCI := hid CI
                    clear CI
                    go_wp2_with fail
                    refine HCI.out.mono ?_
                    rintro e46 V46 ⟨rfl, hw⟩
                    rw [hw]
                    clear hw HCI V46
                    have CI := HK0.out.is (k := 10) (by decide) (by decide) (x := [102, 97, 108, 115, 101]) rfl
                    rw [decide_eq_false hs10.out] at CI
                    have HCI := hid CI
                    clear CI
                    go_wp2_with fail
                    refine HCI.out.mono ?_
                    rintro e47 V47 ⟨rfl, hw⟩
                    rw [hw]
                    clear hw HCI V47
                    have CI := HK0.out.is (k := 39) (by decide) (by decide) (x := [40]) rfl
                    rw [decide_eq_false hs39.out] at CI
                    have HCI := hid CI
                    clear CI
                    go_wp2_with fail
                    refine HCI.out.mono ?_
                    rintro e48 V48 ⟨rfl, hw⟩
                    rw [hw]
                    clear hw HCI V48
                    have CI := HK0.out.is (k := 12) (by decide) (by decide) (x := [102, 117, 110, 99, 116, 105, 111, 110]) rfl
                    rw [decide_eq_false hs12.out] at CI
                    have HCI := hid CI
                    clear CI
                    go_wp2_with fail
                    refine HCI.out.mono ?_
                    rintro e49 V49 ⟨rfl, hw⟩
                    rw [hw]
                    clear hw HCI V49
                    have CI := HK0.out.is (k := 41) (by decide) (by decide) (x := [123]) rfl
                    rw [decide_eq_true hs41.out] at CI
                    have HCI := hid CI
                    clear CI
                    go_wp2_with fail
                    refine HCI.out.mono ?_
                    rintro e50 V50 ⟨rfl, hw⟩
                    rw [hw]
                    clear hw HCI V50
                    have HCC := hid (HK0.out.next (by have := hs41.out; omega))
                    go_wp2_with fail
                    refine HCC.out.mono ?_
                    rintro e51 W51 ⟨rfl, k1⟩
                    clear HCC
                    have HK51 : Hid (PzK w A T s.nxt W51) := k1
                    clear k1
                    have HN51 : Hid (PzN s.nxt 1) := (HN0.out.nxt)
                    obtain ⟨c3, c4, c5, c6, c9, c11, c12, c13⟩ := HK51.out.c
                    have lb := HK51.out.lt
                    clear c3 c4 c5 c6 c11 c12 c13
                    have hx9 : parM T n 6 (room - 1) [42, 0, 0, 0, 0] s.nxt ≠ x99 := fun e => HX.out (by have hp := HP.out; rw [e] at hp; exact hp.symm)
                    have HCC := hid ((HC.out n (Nat.le_refl _)).li (lv := lv + 1) (x0 := 42) (x1 := 0) (cl := [125]) (mx := 1073741824) HK51.out (HN51.out.le (by omega)) (by have := HRM.out; omega) (by decide) (by decide) rfl (.inl ⟨rfl, rfl⟩) hx9)
                    clear hx9
                    go_wp2_with fail
                    refine HCC.out.mono ?_
                    intro e52 W52 q52
                    clear c9 lb
                    clear HCC
                    rcases q52 with ⟨v52, s52, hy, rfl, k1⟩ | ⟨y52, z52, hy, rfl, b1⟩
                    · have HY := hid hy
                      have HK52 := hid k1
                      clear hy k1
                      obtain ⟨n1, b1, l1⟩ := HN51.out.p6 (by exact HN51.out.k.n1) (by exact HN51.out.k.n1) HY.out
                      have hp := HP.out
                      clear HP
                      rw [HY.out] at hp
                      dsimp only [PBd] at hp
                      have HP := hid hp
                      clear hp
                      obtain ⟨v, HVv⟩ : ∃ x : Nat, Hid (v52.getD 0 0 = x) := ⟨_, rfl⟩
                      rw [HVv.out] at b1
                      try rw [HVv.out] at HP
                      have HN52 : Hid (PzN s52 2) := n1
                      have HLv := hid b1
                      have HMv := hid l1
                      clear l1
                      clear n1 b1
                      rw [HVv.out]
                      obtain ⟨c3, c4, c5, c6, c9, c11, c12, c13⟩ := HK52.out.c
                      have lb := HK52.out.lt
                      clear c3 c4 c5 c6 c11 c12 c13
                      have LX := HK52.out.loc HLB.out HZ.out
                      have y3 := LX.cell 3
                      simp only [List.getElem?_toArray, List.getElem?_cons_succ, List.getElem?_cons_zero] at y3
                      have ly := LX.lt
                      clear LX
                      have HCC := hid (HK52.out.add ⟨21, v, 0, 0, 0, 0, [], tP⟩ (by have := HN52.out.l; have := HK52.out.il; omega))
                      have FIN : Hid (∀ eX WX, (eX = .returned (.int .i64 ((s52).nodes.length : Nat)) ∧ PzK w A T ((s52).add ⟨21, v, 0, 0, 0, 0, [], tP⟩) WX) → Q eX WX) := fun eX WX h => by
                        rw [← HQ.out]
                        exact .inl ⟨_, _, HP.out.symm, h.1, h.2⟩
                      go_wp2_with fail
                      refine HCC.out.mono ?_
                      rintro e53 W53 ⟨rfl, k1⟩
                      clear c9 lb y3 ly
                      have FIN2 := hid (FIN.out _ _ ⟨rfl, k1⟩)
                      clear FIN k1 HCC
                      go_wp2_with fail
                      first | exact FIN2.out | (go_ret; exact FIN2.out) | (go_ret2; exact FIN2.out)
                    · have HB52 := hid b1
                      have HY : Hid (R = .inl y52) := by
                        have hp := HP.out
                        rw [hy] at hp
                        exact hp.symm
                      clear hy b1 HP
                      obtain ⟨c9, ne1, ne2⟩ := HB52.out.c
                      have lb := HB52.out.lt
                      have FIN : Hid (Q (.returned (.int .i64 0)) W52) := by
                        show Q _ _
                        rw [← HQ.out]
                        exact .inr ⟨y52, 0, HY.out, rfl, HB52.out⟩
                      go_wp2_with fail
                      first | exact FIN.out | (go_ret; exact FIN.out) | (go_ret2; exact FIN.out)
                  · have hs41 := hid hhs41
                    clear hhs41
                    have hp := HP.out
                    clear HP
                    rw [if_neg hs41.out] at hp
                    have HP := hid hp
                    clear hp
                    go_enter Tryz.func282, Tryz.ntmps282
                    go_wp2_with fail
                    rw [HW.out]
                    clear c3 c4 c5 c6 c7 lbW
                    have CI := HK0.out.is (k := 16) (by decide) (by decide) (x := [110, 105, 108]) rfl
                    rw [decide_eq_false hs16.out] at CI
                    have HCI := hid CI
                    clear CI
                    refine HCI.out.mono ?_
                    rintro e54 V54 ⟨rfl, hw⟩
                    rw [hw]
                    clear hw HCI V54
                    have CI := HK0.out.is (k := 20) (by decide) (by decide) (x := [116, 114, 117, 101]) rfl
                    rw [decide_eq_false hs20.out] at CI
                    have HCI := hid CI
                    clear CI
                    go_wp2_with fail
                    refine HCI.out.mono ?_
                    rintro e55 V55 ⟨rfl, hw⟩
                    rw [hw]
                    clear hw HCI V55
                    have CI := HK0.out.is (k := 10) (by decide) (by decide) (x := [102, 97, 108, 115, 101]) rfl
                    rw [decide_eq_false hs10.out] at CI
                    have HCI := hid CI
                    clear CI
                    go_wp2_with fail
                    refine HCI.out.mono ?_
                    rintro e56 V56 ⟨rfl, hw⟩
                    rw [hw]
                    clear hw HCI V56
                    have CI := HK0.out.is (k := 39) (by decide) (by decide) (x := [40]) rfl
                    rw [decide_eq_false hs39.out] at CI
                    have HCI := hid CI
                    clear CI
                    go_wp2_with fail
                    refine HCI.out.mono ?_
                    rintro e57 V57 ⟨rfl, hw⟩
                    rw [hw]
                    clear hw HCI V57
                    have CI := HK0.out.is (k := 12) (by decide) (by decide) (x := [102, 117, 110, 99, 116, 105, 111, 110]) rfl
                    rw [decide_eq_false hs12.out] at CI
                    have HCI := hid CI
                    clear CI
                    go_wp2_with fail
                    refine HCI.out.mono ?_
                    rintro e58 V58 ⟨rfl, hw⟩
                    rw [hw]
                    clear hw HCI V58
                    have CI := HK0.out.is (k := 41) (by decide) (by decide) (x := [123]) rfl
                    rw [decide_eq_false hs41.out] at CI
                    have HCI := hid CI
                    clear CI
                    go_wp2_with fail
                    refine HCI.out.mono ?_
                    rintro e59 V59 ⟨rfl, hw⟩
                    rw [hw]
                    clear hw HCI V59
                    obtain ⟨y60, hy60⟩ : ∃ y, failP T s 15 = .inl y := ⟨_, rfl⟩
                    have HFY := hid hy60
                    have HY : Hid (R = .inl y60) := by
                      have hp := HP.out
                      rw [hy60] at hp
                      exact hp.symm
                    clear hy60 HP
                    have HCC := hid (HK0.out.fail (e := 15) (by decide) HFY.out (e' := 15) rfl)
                    go_wp2_with fail
                    refine HCC.out.mono ?_
                    rintro e60 W60 ⟨rfl, b1⟩
                    have HB60 := hid b1
                    clear b1 HCC
                    obtain ⟨c9, ne1, ne2⟩ := HB60.out.c
                    have lb := HB60.out.lt
                    have FIN : Hid (Q (.returned (.int .i64 0)) W60) := by
                      show Q _ _
                      rw [← HQ.out]
                      exact .inr ⟨y60, 0, HY.out, rfl, HB60.out⟩
                    go_wp2_with fail
                    first | exact FIN.out | (go_ret; exact FIN.out) | (go_ret2; exact FIN.out)
theorem prim_z (C : ∀ m, m ≤ n → PCz T m) {w W : World} {A : PzP} {s : PSt} {room : Nat} {lv : Int} (h0 : PzK w A T s W) (hn : PzN s 0) (hr : lv + room = 13 ∧ 1 ≤ lv) (h1 : 1 ≤ room) (hx : parM T (n + 1) 5 room [] s ≠ x99) :
    Calls Tryz.prog 282 #[.pointer (some ⟨A.b, 0, none⟩), .int .i64 lv] W (PzR T w A (parM T (n + 1) 5 room [] s)) := by
  obtain ⟨c3, c4, c5, c6, _, _, _, _⟩ := h0.c
  have c7 := h0.c7
  have lb := h0.lt
  have hf : Fr (fun _ => False) W (W.alloc (.cells #[.int .i64 (tkc (curT T s)).k, sv (tkc (curT T s)).s, .int .u64 (tkc (curT T s)).n, .int .i64 (curT T s).p, .int .i64 (tkc (curT T s)).e] 211)) := (Fr.refl _ _).alloc _
  obtain ⟨A', q, g, S⟩ := h0
  have k2 : PzK (W.alloc (.cells #[.int .i64 (tkc (curT T s)).k, sv (tkc (curT T s)).s, .int .u64 (tkc (curT T s)).n, .int .i64 (curT T s).p, .int .i64 (tkc (curT T s)).e] 211)) A' T s (W.alloc (.cells #[.int .i64 (tkc (curT T s)).k, sv (tkc (curT T s)).s, .int .u64 (tkc (curT T s)).n, .int .i64 (curT T s).p, .int .i64 (tkc (curT T s)).e] 211)) := ⟨A', q, g.fresh hf, PzS.refl _ _⟩
  have e2 : A'.b = A.b := S.b
  have z : A'.o W.heap.size = 0 := g.m.own _ (Nat.le_refl _)
  rw [← e2] at c3 c4 c5 c6 c7 lb ⊢
  refine (prim_y C rfl rfl rfl rfl rfl c3 c4 c5 c6 c7 lb z k2 hn hr h1 hx).mono (fun e W' h => ?_)
  exact h.base (S.trans (PzS.fresh _ hf))
end
end Go.Proofs.Qxb6500574aGreatDoor
