/-
  THE WALKS of syntaxm: next, want, name over the parser's states.
-/
import Derived.Test.Qxb6500574aGreatDoorZQ4z
namespace Go.Proofs.Qxb6500574aGreatDoor
open Go Go.RowKit
set_option linter.unusedVariables false
set_option linter.unusedSimpArgs false
section
variable {w W W1 : World} {A A1 : PzP} {d d1 : PzD} {T : List Tok} {s s' : PSt} {t : Tok} {q : Nat} {y : Nat × Nat}
theorem PzK.next (h : PzK w A T s W) (hk : 2 ≤ (curT T s).k) : Calls Tryz.prog 105 #[.pointer (some ⟨A.b, 0, none⟩)] W fun e w' => e = .returned (.tuple #[]) ∧ PzK w A T s.nxt w' := by
  obtain ⟨A', q, g, S⟩ := h
  have C := next_z g.m
  rw [S.b] at C
  refine C.mono ?_
  rintro e w' ⟨h1, m, S2⟩
  have x := g.x.next hk
  have e1 : curT T s.nxt = (lexM A'.s q).1 := x.cur
  refine ⟨h1, A', (lexM A'.s q).2, ⟨?_, by rw [e1]; exact x, g.ta⟩, S.trans S2⟩
  rw [e1]
  exact m
theorem PzB.next (h : PzB w A y W) : Calls Tryz.prog 105 #[.pointer (some ⟨A.b, 0, none⟩)] W fun e w' => e = .returned (.tuple #[]) ∧ PzB w A y w' := by
  obtain ⟨h0, A', d, m, h1, h2, S⟩ := h
  have C := next_z m
  rw [S.b] at C
  refine C.mono ?_
  rintro e w' ⟨q1, q2, q3⟩
  exact ⟨q1, h0, A', _, q2, h1, h2, S.trans q3⟩
set_option maxRecDepth 100000
set_option maxHeartbeats 1000000
theorem PzK.want (h : PzK w A T s W) {k : Nat} (h5 : 5 ≤ k) (h46 : k ≤ 46) {x : Bs} (hx : x = symS k) (hk : (curT T s).k = k) : Calls Tryz.prog 280 #[.pointer (some ⟨A.b, 0, none⟩), sv x] W fun e w' => e = .returned (.tuple #[]) ∧ PzK w A T s.nxt w' := by
  have C1 := h.is h5 h46 hx
  rw [decide_eq_true hk] at C1
  have HC1 := hid C1
  have HC2 := hid (h.next (by omega))
  clear C1 h hx hk h5 h46
  go_enter Tryz.func280, Tryz.ntmps280
  go_wp2_with fail
  refine HC1.out.mono ?_
  rintro e1 w1 ⟨rfl, hw⟩
  rw [hw]
  go_wp2_with fail
  refine HC2.out.mono ?_
  rintro e2 w2 ⟨rfl, k2⟩
  have HK2 := hid k2
  clear k2
  go_wp2_with fail
  go_end0
  exact ⟨rfl, HK2.out⟩
theorem PzK.wantN (h : PzK w A T s W) {k : Nat} (h5 : 5 ≤ k) (h46 : k ≤ 46) {x : Bs} (hx : x = symS k) (hk : (curT T s).k ≠ k) (hy : failP T s 15 = .inl y) : Calls Tryz.prog 280 #[.pointer (some ⟨A.b, 0, none⟩), sv x] W fun e w' => e = .returned (.tuple #[]) ∧ PzB w A y w' := by
  have C1 := h.is h5 h46 hx
  rw [decide_eq_false hk] at C1
  have HC1 := hid C1
  have HC2 := hid (h.fail (e := 15) (by decide) hy (e' := 15) rfl)
  clear C1 h hx hk h5 h46 hy
  go_enter Tryz.func280, Tryz.ntmps280
  go_wp2_with fail
  refine HC1.out.mono ?_
  rintro e1 w1 ⟨rfl, hw⟩
  rw [hw]
  go_wp2_with fail
  refine HC2.out.mono ?_
  rintro e2 w2 ⟨rfl, k2⟩
  have HK2 := hid k2
  clear k2
  go_wp2_with fail
  refine bodyPost_ret (results_none rfl _ _ _) rfl ?_
  exact ⟨rfl, HK2.out⟩
theorem PzB.want (h : PzB w A y W) (x : Bs) : Calls Tryz.prog 280 #[.pointer (some ⟨A.b, 0, none⟩), sv x] W fun e w' => e = .returned (.tuple #[]) ∧ PzB w A y w' := by
  obtain ⟨b, C1⟩ := h.is x
  have HC1 := hid C1
  have HH := hid h
  clear C1 h
  cases b with
  | true =>
    have HC2 := hid HH.out.next
    go_enter Tryz.func280, Tryz.ntmps280
    go_wp2_with fail
    refine HC1.out.mono ?_
    rintro e1 w1 ⟨rfl, hw⟩
    rw [hw]
    go_wp2_with fail
    refine HC2.out.mono ?_
    rintro e2 w2 ⟨rfl, k2⟩
    have HK2 := hid k2
    clear k2
    go_wp2_with fail
    go_end0
    exact ⟨rfl, HK2.out⟩
  | false =>
    have HC2 := hid (HH.out.fail 15)
    go_enter Tryz.func280, Tryz.ntmps280
    go_wp2_with fail
    refine HC1.out.mono ?_
    rintro e1 w1 ⟨rfl, hw⟩
    rw [hw]
    go_wp2_with fail
    refine HC2.out.mono ?_
    rintro e2 w2 ⟨rfl, hw2⟩
    rw [hw2]
    go_wp2_with fail
    refine bodyPost_ret (results_none rfl _ _ _) rfl ?_
    exact ⟨rfl, HH.out⟩
theorem tk_name {t : Tok} (h : t.k = 2) : (tkc t).k = 1 ∧ (tkc t).s = t.s := by
  unfold tkc
  rw [if_neg (by omega), if_neg (by omega), if_pos h]
  exact ⟨rfl, rfl⟩
theorem tk_nam {t : Tok} (h : t.k ≠ 2) : (tkc t).k ≠ 1 := by
  unfold tkc
  repeat' split
  all_goals first | (simp; done) | (exfalso; omega) | simp_all
/-- a name is passed -/
theorem PzK.name (h : PzK w A T s W) (hk : (curT T s).k = 2) (e : Nat) (he : ¬ (0 < e ∧ 12 < s.alive + e)) (hal : s.alive + e ≤ 100000) {e' : Int} (hee : e' = e) : Calls Tryz.prog 278 #[.pointer (some ⟨A.b, 0, none⟩), .int .i64 e'] W fun e1 w' => e1 = .returned (.tuple #[sv (curT T s).s, .int .i64 (curT T s).p]) ∧ PzK w A T s.nxt w' := by
  subst hee
  obtain ⟨c3, c4, _, c6, _, c11, _, _⟩ := h.c
  have lb := h.lt
  obtain ⟨e3, e4⟩ := tk_name hk
  rw [e3] at c3
  rw [e4] at c4
  have c3 : W.cell? ⟨A.b, 3, none⟩ = some (.int .i64 1) := c3
  have HC2 := hid (h.next (by omega))
  obtain ⟨al, HAL⟩ : ∃ al : Nat, Hid (s.alive = al) := ⟨_, rfl⟩
  rw [HAL.out] at c11 he hal
  obtain ⟨tp, HTP⟩ : ∃ tp : Nat, Hid ((curT T s).p = tp) := ⟨_, rfl⟩
  obtain ⟨ts, HTS⟩ : ∃ ts, Hid ((curT T s).s = ts) := ⟨_, rfl⟩
  rw [HTP.out] at c6 ⊢
  rw [HTS.out] at c4 ⊢
  clear h hk e3 e4
  by_cases h0 : e = 0
  · subst h0
    have z1 : ¬ ((0 : Int) < ((0 : Nat) : Int)) := by omega
    go_enter Tryz.func278, Tryz.ntmps278
    go_wp2_with fail
    refine HC2.out.mono ?_
    rintro e2 w2 ⟨rfl, k2⟩
    have HK2 := hid k2
    clear k2 c3 c4 c6 c11 lb
    go_wp2_with fail
    go_ret2
    exact ⟨rfl, HK2.out⟩
  · have z1 : (0 : Int) < (e : Int) := by omega
    have z2 : ¬ (12 : Int) < (al : Int) + (e : Int) := by omega
    go_enter Tryz.func278, Tryz.ntmps278
    go_wp2_with fail
    refine HC2.out.mono ?_
    rintro e2 w2 ⟨rfl, k2⟩
    have HK2 := hid k2
    clear k2 c3 c4 c6 c11 lb
    go_wp2_with fail
    go_ret2
    exact ⟨rfl, HK2.out⟩
/-- no name stands here -/
theorem PzK.nameN (h : PzK w A T s W) (hk : (curT T s).k ≠ 2) (e' : Int) (hy : failP T s 15 = .inl y) : Calls Tryz.prog 278 #[.pointer (some ⟨A.b, 0, none⟩), .int .i64 e'] W fun e1 w' => e1 = .returned (.tuple #[sv [], .int .i64 0]) ∧ PzB w A y w' := by
  obtain ⟨c3, _, _, _, _, _, _, _⟩ := h.c
  have lb := h.lt
  have e3 := tk_nam hk
  have HC2 := hid (h.fail (e := 15) (by decide) hy (e' := 15) rfl)
  obtain ⟨tk, HTK⟩ : ∃ tk : Nat, Hid ((tkc (curT T s)).k = tk) := ⟨_, rfl⟩
  rw [HTK.out] at c3 e3
  have b1 : ((tk : Int) != 1) = true := by rw [bne_iff_ne]; omega
  clear h hk e3 hy HTK
  go_enter Tryz.func278, Tryz.ntmps278
  go_wp2_with fail
  refine HC2.out.mono ?_
  rintro e2 w2 ⟨rfl, k2⟩
  have HK2 := hid k2
  clear k2 c3 lb
  go_wp2_with fail
  go_ret2
  exact ⟨rfl, HK2.out⟩
/-- no room for a local -/
theorem PzK.nameL (h : PzK w A T s W) (hk : (curT T s).k = 2) (e : Nat) (h0 : 0 < e) (he : 12 < s.alive + e) (hal : s.alive + e ≤ 100000) {e' : Int} (hee : e' = e) (hy : failP T s 18 = .inl y) : Calls Tryz.prog 278 #[.pointer (some ⟨A.b, 0, none⟩), .int .i64 e'] W fun e1 w' => e1 = .returned (.tuple #[sv [], .int .i64 0]) ∧ PzB w A y w' := by
  subst hee
  obtain ⟨c3, c4, _, c6, _, c11, _, _⟩ := h.c
  have lb := h.lt
  obtain ⟨e3, e4⟩ := tk_name hk
  rw [e3] at c3
  have c3 : W.cell? ⟨A.b, 3, none⟩ = some (.int .i64 1) := c3
  have HC2 := hid (h.fail (e := 18) (by decide) hy (e' := 18) rfl)
  obtain ⟨al, HAL⟩ : ∃ al : Nat, Hid (s.alive = al) := ⟨_, rfl⟩
  rw [HAL.out] at c11 he hal
  have z1 : (0 : Int) < (e : Int) := by omega
  have z2 : (12 : Int) < (al : Int) + (e : Int) := by omega
  clear h hk e3 e4 hy c4 c6
  go_enter Tryz.func278, Tryz.ntmps278
  go_wp2_with fail
  refine HC2.out.mono ?_
  rintro e2 w2 ⟨rfl, k2⟩
  have HK2 := hid k2
  clear k2 c3 c11 lb
  go_wp2_with fail
  go_ret2
  exact ⟨rfl, HK2.out⟩
end
end Go.Proofs.Qxb6500574aGreatDoor
