/-
  THE WALKS of syntaxm: is, fail, deep, blockEnd, add.
-/
import Derived.Test.Qxb6500574aGreatDoorZQ1
namespace Go.Proofs.Qxb6500574aGreatDoor
open Go Go.RowKit
set_option linter.unusedVariables false
set_option linter.unusedSimpArgs false
section
variable {w w1 W : World} {A A1 : PzP} {d d1 : PzD} {T : List Tok} {s s' : PSt} {t : Tok} {q : Nat} {y : Nat × Nat}
theorem PzM.c3 (h : PzM w A d) : w.cell? ⟨A.b, 3, none⟩ = some (.int .i64 d.t.k) ∧ w.cell? ⟨A.b, 4, none⟩ = some (sv d.t.s) ∧ w.cell? ⟨A.b, 5, none⟩ = some (.int .u64 d.t.n) ∧ w.cell? ⟨A.b, 6, none⟩ = some (.int .i64 d.t.p) ∧ w.cell? ⟨A.b, 7, none⟩ = some (.int .i64 d.t.e) ∧ A.b < w.heap.size := ⟨h.c 3, h.c 4, h.c 5, h.c 6, h.c 7, h.lt⟩
theorem PzM.c9 (h : PzM w A d) : w.cell? ⟨A.b, 9, none⟩ = some (.int .i64 d.er) ∧ w.cell? ⟨A.b, 10, none⟩ = some (.int .i64 d.pl) ∧ w.cell? ⟨A.b, 11, none⟩ = some (.int .i64 d.al) ∧ w.cell? ⟨A.b, 12, none⟩ = some (.int .i64 d.lo) ∧ w.cell? ⟨A.b, 13, none⟩ = some (.int .i64 d.fu) := ⟨h.c 9, h.c 10, h.c 11, h.c 12, h.c 13⟩
set_option maxRecDepth 100000
set_option maxHeartbeats 1000000
theorem is_z (h : PzM w A d) (x : Bs) : Calls Tryz.prog 245 #[.pointer (some ⟨A.b, 0, none⟩), sv x] w fun e w' => e = .returned (.bool (d.t.k == 4 && d.t.s == x)) ∧ w' = w := by
  obtain ⟨c3, c4, _, _, _, lb⟩ := h.c3
  obtain ⟨⟨tk, ts, tn, tp, te⟩, HT⟩ : ∃ t, Hid (d.t = t) := ⟨_, rfl⟩
  rw [HT.out] at c3 c4 ⊢
  dsimp only at c3 c4 ⊢
  clear h HT
  by_cases h4 : tk = 4
  · subst h4
    by_cases hx : ts = x
    · subst hx
      go_enter Tryz.func245, Tryz.ntmps245
      go_wp2_with fail
      go_ret
      exact ⟨by simp, rfl⟩
    · have hb : (ts == x) = false := by simpa using hx
      go_enter Tryz.func245, Tryz.ntmps245
      go_wp2_with fail
      go_ret
      exact ⟨by simp [hb], rfl⟩
  · have hb : ((tk : Int) == 4) = false := by rw [beq_eq_false_iff_ne]; omega
    have hb2 : (tk == 4) = false := by rw [beq_eq_false_iff_ne]; omega
    go_enter Tryz.func245, Tryz.ntmps245
    go_wp2_with fail
    go_ret
    exact ⟨by simp [hb2], rfl⟩
/-- is the token at hand the sign k? -/
theorem PzK.is (h : PzK w A T s W) {k : Nat} (h5 : 5 ≤ k) (h46 : k ≤ 46) {x : Bs} (hx : x = symS k) : Calls Tryz.prog 245 #[.pointer (some ⟨A.b, 0, none⟩), sv x] W fun e w' => e = .returned (.bool (decide ((curT T s).k = k))) ∧ w' = W := by
  obtain ⟨A', q, g, S⟩ := h
  have := is_z g.m x
  have e : ((gd s (curT T s) q).t.k == 4 && (gd s (curT T s) q).t.s == x) = decide ((curT T s).k = k) := by
    rw [hx]
    exact is_tok h5 h46 g.k46.1
  rw [e, S.b] at this
  exact this
theorem PzB.is (h : PzB w A y W) (x : Bs) : ∃ b, Calls Tryz.prog 245 #[.pointer (some ⟨A.b, 0, none⟩), sv x] W fun e w' => e = .returned (.bool b) ∧ w' = W := by
  obtain ⟨h0, A', d, m, h1, h2, S⟩ := h
  have := is_z m x
  rw [S.b] at this
  exact ⟨_, this⟩
/-- a second error changes nothing -/
theorem fail_no (h : PzM w A d) (hd : d.er ≠ 0) (e : Int) : Calls Tryz.prog 107 #[.pointer (some ⟨A.b, 0, none⟩), .int .i64 e] w fun e w' => e = .returned (.tuple #[]) ∧ w' = w := by
  obtain ⟨c9, _⟩ := h.c9
  have lb := h.lt
  have hb : ((d.er : Int) != 0) = true := by rw [bne_iff_ne]; omega
  obtain ⟨er, HE⟩ : ∃ er : Nat, Hid (d.er = er) := ⟨_, rfl⟩
  rw [HE.out] at c9 hb
  clear h hd HE
  go_enter Tryz.func107, Tryz.ntmps107
  go_wp2_with fail
  refine bodyPost_ret (results_none rfl _ _ _) rfl ?_
  exact ⟨rfl, rfl⟩
theorem fail_yes (h : PzM w A d) (hd : d.er = 0) (e : Nat) {e' : Int} (he : e' = e) : Calls Tryz.prog 107 #[.pointer (some ⟨A.b, 0, none⟩), .int .i64 e'] w fun e1 w' => e1 = .returned (.tuple #[]) ∧ PzM w' A { d with er := if d.t.k = 5 then d.t.e else e, pl := d.t.p } ∧ PzS w A w' A := by
  subst he
  obtain ⟨de, ⟨tk, ts, tn, tp, te⟩, dN, der, dpl, dal, dlo, dfu⟩ := d
  dsimp only at hd ⊢
  subst hd
  obtain ⟨c9, c10, _⟩ := h.c9
  obtain ⟨c3, _, _, c6, c7, lb⟩ := h.c3
  have f9 := h.fz 9
  have f10 := h.fz 10
  have key : ∀ u : Nat, PzM ((w.setCell ⟨A.b, 9, none⟩ (.int .i64 u)).setCell ⟨A.b, 10, none⟩ (.int .i64 tp)) A ⟨de, ⟨tk, ts, tn, tp, te⟩, dN, u, tp, dal, dlo, dfu⟩ ∧ PzS w A ((w.setCell ⟨A.b, 9, none⟩ (.int .i64 u)).setCell ⟨A.b, 10, none⟩ (.int .i64 tp)) A := fun u => by
    obtain ⟨p1, p2⟩ := h.put 9 (.int .i64 u) (d' := ⟨de, ⟨tk, ts, tn, tp, te⟩, dN, u, dpl, dal, dlo, dfu⟩) rfl rfl h.pe
    obtain ⟨q1, q2⟩ := p1.put 10 (.int .i64 tp) (d' := ⟨de, ⟨tk, ts, tn, tp, te⟩, dN, u, tp, dal, dlo, dfu⟩) rfl rfl h.pe
    exact ⟨q1, p2.trans q2⟩
  have HK := hid key
  dsimp only at c3 c6 c7
  clear h key
  have c9 : w.cell? ⟨A.b, 9, none⟩ = some (.int .i64 0) := c9
  by_cases h5 : tk = 5
  · subst h5
    rw [if_pos rfl]
    have FIN := hid (HK.out te)
    obtain ⟨Q, HQ⟩ : ∃ Q : World → Prop, Hid ((fun w' => PzM w' A ⟨de, ⟨5, ts, tn, tp, te⟩, dN, te, tp, dal, dlo, dfu⟩ ∧ PzS w A w' A) = Q) := ⟨_, rfl⟩
    have FQ : Hid (Q ((w.setCell ⟨A.b, 9, none⟩ (.int .i64 te)).setCell ⟨A.b, 10, none⟩ (.int .i64 tp))) := by show Q _; rw [← HQ.out]; exact FIN.out
    suffices hh : Calls Tryz.prog 107 #[.pointer (some ⟨A.b, 0, none⟩), .int .i64 (e : Int)] w fun e1 w' => e1 = .returned (.tuple #[]) ∧ Q w' by
      refine hh.mono ?_
      rintro e1 w' ⟨h1, h2⟩
      rw [← HQ.out] at h2
      exact ⟨h1, h2⟩
    clear FIN HQ HK
    go_enter Tryz.func107, Tryz.ntmps107
    go_wp2_with fail
    go_end0
    exact ⟨rfl, FQ.out⟩
  · rw [if_neg h5]
    have hb : ((tk : Int) == 5) = false := by rw [beq_eq_false_iff_ne]; omega
    have FIN := hid (HK.out e)
    obtain ⟨Q, HQ⟩ : ∃ Q : World → Prop, Hid ((fun w' => PzM w' A ⟨de, ⟨tk, ts, tn, tp, te⟩, dN, e, tp, dal, dlo, dfu⟩ ∧ PzS w A w' A) = Q) := ⟨_, rfl⟩
    have FQ : Hid (Q ((w.setCell ⟨A.b, 9, none⟩ (.int .i64 e)).setCell ⟨A.b, 10, none⟩ (.int .i64 tp))) := by show Q _; rw [← HQ.out]; exact FIN.out
    suffices hh : Calls Tryz.prog 107 #[.pointer (some ⟨A.b, 0, none⟩), .int .i64 (e : Int)] w fun e1 w' => e1 = .returned (.tuple #[]) ∧ Q w' by
      refine hh.mono ?_
      rintro e1 w' ⟨h1, h2⟩
      rw [← HQ.out] at h2
      exact ⟨h1, h2⟩
    clear FIN HQ HK h5
    go_enter Tryz.func107, Tryz.ntmps107
    go_wp2_with fail
    go_end0
    exact ⟨rfl, FQ.out⟩
theorem tkc5 (t : Tok) : (tkc t).k = 5 ↔ t.k = 1 := by
  unfold tkc
  repeat' split
  all_goals first | (simp; omega) | simp_all
theorem PzK.fail (h : PzK w A T s W) {e : Nat} (h0 : e ≠ 0) {y : Nat × Nat} (hy : failP T s e = .inl y) {e' : Int} (he : e' = e) : Calls Tryz.prog 107 #[.pointer (some ⟨A.b, 0, none⟩), .int .i64 e'] W fun e1 w' => e1 = .returned (.tuple #[]) ∧ PzB w A y w' := by
  obtain ⟨A', q, g, S⟩ := h
  have C := fail_yes g.m rfl e he
  rw [S.b] at C
  refine C.mono ?_
  rintro e1 w' ⟨h1, h2, h3⟩
  refine ⟨h1, ?_, A', _, h2, ?_, ?_, S.trans h3⟩
  all_goals
    unfold failP at hy
    have hy := Sum.inl.inj hy
    rw [← hy]
  · dsimp only
    split
    · exact g.k46.2.2 ‹_›
    · exact h0
  · show (if (tkc (curT T s)).k = 5 then (tkc (curT T s)).e else e) = _
    by_cases h1 : (curT T s).k = 1
    · rw [if_pos ((tkc5 _).2 h1), if_pos h1]
      unfold tkc
      rw [if_neg (by omega), if_pos h1]
    · rw [if_neg (fun z => h1 ((tkc5 _).1 z)), if_neg h1]
  · exact tkc_p _
theorem PzB.fail (h : PzB w A y W) (e : Int) : Calls Tryz.prog 107 #[.pointer (some ⟨A.b, 0, none⟩), .int .i64 e] W fun e1 w' => e1 = .returned (.tuple #[]) ∧ w' = W := by
  obtain ⟨h0, A', d, m, h1, h2, S⟩ := h
  have C := fail_no m (by rw [h1]; exact h0) e
  rw [S.b] at C
  exact C
/-- too deep? -/
theorem deep_no (b : Nat) {lv' : Int} (hl : lv' ≤ 12) : Calls Tryz.prog 184 #[.pointer (some ⟨b, 0, none⟩), .int .i64 lv'] w fun e w' => e = .returned (.bool false) ∧ w' = w := by
  have h1 : ¬ (12 : Int) < lv' := by omega
  clear hl
  go_enter Tryz.func184, Tryz.ntmps184
  go_wp2_with fail
  go_ret
  exact ⟨rfl, rfl⟩
theorem PzK.deep (g : PzK w A T s W) {y : Nat × Nat} (hy : failP T s 16 = .inl y) {lv' : Int} (hl : lv' = 13) : Calls Tryz.prog 184 #[.pointer (some ⟨A.b, 0, none⟩), .int .i64 lv'] W fun e w' => e = .returned (.bool true) ∧ PzB w A y w' := by
  subst hl
  have C := g.fail (e := 16) (by omega) hy (e' := 16) rfl
  have HC := hid C
  clear C g hy
  go_enter Tryz.func184, Tryz.ntmps184
  go_wp2_with fail
  refine HC.out.mono ?_
  rintro e1 w1 ⟨rfl, q1⟩
  have HQ := hid q1
  clear q1
  go_wp2_with fail
  go_ret
  exact ⟨rfl, HQ.out⟩
end
end Go.Proofs.Qxb6500574aGreatDoor
