/-
  moon: ROUNDS AND STEPS MEET. Plain; no memory, no walk.
-/
import Derived.Test.Qxb6500574aGreatDoorZM41
namespace Go.Proofs.Qxb6500574aGreatDoor
set_option linter.unusedVariables false
set_option linter.unusedSimpArgs false
/-- what the interpreter's own values are where a loop goes on -/
def InH (M : MD) : Prop := M.done = none → ∀ k tl, M.th.tasks = k :: tl → (k.k = 17 → (M.topM 2).t = 2 ∧ (M.topM 0).t = 2) ∧ (k.k = 19 → (M.topM 1).t = 4 ∧ (M.tabs.getD (M.topM 1).n tab0).next (M.topM 0) ≠ none)
theorem stepsM_add (N : List Nd) (root : Nat) : ∀ (a b : Nat) (M : MD), stepsM N root b (stepsM N root a M) = stepsM N root (a + b) M
  | 0, b, M => by rw [Nat.zero_add]; rfl
  | a + 1, b, M => by
    rw [show a + 1 + b = (a + b) + 1 by omega]
    by_cases h : M.done.isSome
    · have e : ∀ n, stepsM N root n M = M := fun n => by
        cases n with
        | zero => rfl
        | succ n => unfold stepsM; rw [if_pos h]
      rw [e, e, e]
    · rw [show stepsM N root (a + 1) M = stepsM N root a (M.step N root) by rw [stepsM, if_neg h], show stepsM N root (a + b + 1) M = stepsM N root (a + b) (M.step N root) by rw [stepsM, if_neg h]]
      exact stepsM_add N root a b _
theorem stepsM_one {N : List Nd} {root : Nat} {M : MD} (h : M.done = none) : stepsM N root 1 M = M.step N root := by
  rw [stepsM, h]
  rfl
section
variable {N : List Nd} {root : Nat} {D : CmD} {S : Nat → Nat → Ty → Prop} {K : Cx} {m m1 : VMD} {fu s fu' s' : Nat} {M M' : MD} {P P' : List (Option Lc)} {i c : Nat} {t t' : ThD} {T T' : MTh} {f f' : FmD} {fs : List FmD} {F F' : FrIZ} {k : TkD} {tl : List TkD} {stk : List Nat}
/-- a statement, whichever -/
theorem Op.k1s (h : Op N root D S K m fu s M P i t T f fs F) (ht : T.tasks = k :: tl) (hk : k.k = 1) (hn : k.n ≠ 0) : PgZ N root D i M.stack s 1 m fu M := by
  have cb := h.cb ht
  unfold Cb at cb
  simp (config := { decide := true }) only [hk, if_true, if_false] at cb
  obtain ⟨ho, he, hb⟩ := cb
  have it := h.it ht
  unfold Itm at it
  simp (config := { decide := true }) only [hk, if_true, if_false] at it
  have it : Itm [] tl 0 0 := it.any
  obtain ⟨sa, L1, lp, lb, ex, hs⟩ := BlkC.open hn hb
  have hkd : 1 ≤ (N.getD k.n nd0).k ∧ (N.getD k.n nd0).k ≤ 11 := by
    have hy : Lay N D 0 ((gO m f, F.L) :: F.r) k.n f.pc sa L1 lb ex := hs.hy
    rcases hy.out with ⟨z, _⟩ | ⟨z, _⟩ | ⟨z, _⟩ | ⟨_, hy⟩
    · cases z
    · cases z
    · cases z
    rcases hy with g | g | g | g | g | g | g | g | g | g | g <;> (have z := g.1; constructor <;> omega)
  by_cases d1 : (N.getD k.n nd0).k = 1
  · exact h.s1 ht hk ho he it hs d1
  by_cases d2 : (N.getD k.n nd0).k = 2
  · exact h.s2 ht hk ho he it hs d2
  by_cases d3 : (N.getD k.n nd0).k = 3
  · exact h.s3 ht hk ho he it hs d3
  by_cases d4 : (N.getD k.n nd0).k = 4
  · exact h.s4 ht hk ho he it hs d4
  by_cases d5 : (N.getD k.n nd0).k = 5
  · exact h.s5 ht hk ho he it hs d5
  by_cases d6 : (N.getD k.n nd0).k = 6
  · exact h.s6 ht hk ho he it hs d6
  by_cases d7 : (N.getD k.n nd0).k = 7
  · exact h.s7 ht hk ho he it hs d7
  by_cases d8 : (N.getD k.n nd0).k = 8
  · exact h.s8 ht hk ho he it hs d8
  by_cases d9 : (N.getD k.n nd0).k = 9
  · exact h.s9 ht hk ho he it hs d9
  by_cases d10 : (N.getD k.n nd0).k = 10
  · exact h.s10 ht hk ho he it hs d10
  exact h.s11 ht hk ho he it hs (by omega)
/-- AT LEAST ONE ROUND, and they meet again -/
theorem burst : ∀ (n : Nat) {M : MD} {T : MTh} {F : FrIZ}, Op N root D S K m fu s M P i t T f fs F → T.tasks.length ≤ n → (∀ j, InH (stepsM N root j M)) → PgZ N root D i M.stack s 1 m fu M := by
  intro n
  induction n with
  | zero =>
    intro M T F h hl _
    exfalso
    have cb := h.fo.cb
    rw [List.eq_nil_of_length_eq_zero (Nat.le_zero.1 hl)] at cb
    exact cb
  | succ n ih =>
    intro M T F h hl hI
    cases ht : T.tasks with
    | nil =>
      exfalso
      have cb := h.fo.cb
      rw [ht] at cb
      exact cb
    | cons k tl =>
      have W := h.rel.w i
      have hth : M.th = T := by
        have := st_th (M := M) (T := T) h.cl
        rw [h.self] at this
        exact this
      have hI0 := hI 0 W.done k tl (by show M.th.tasks = _; rw [hth]; exact ht)
      have hI1 : M.step N root = M.st { T with tasks := tl } → ∀ j, InH (stepsM N root j (M.st { T with tasks := tl })) := fun e j => by
        have := hI (1 + j)
        rw [← stepsM_add, stepsM_one W.done, e] at this
        exact this
      have pop : M.step N root = M.st { T with tasks := tl } → ((∃ seg, Op N root D S K m fu s (M.st { T with tasks := tl }) P i t { T with tasks := tl } f fs { F with seg := seg }) ∨ PgZ N root D i M.stack s 1 m fu (M.st { T with tasks := tl })) → PgZ N root D i M.stack s 1 m fu M := fun e q => by
        refine PgZ.step W.done ?_
        rw [e]
        rcases q with ⟨seg, q⟩ | q
        · exact ih q (by rw [ht] at hl; simp at hl; exact hl) (hI1 e)
        · exact q
      by_cases k1 : k.k = 1
      · by_cases hn : k.n = 0
        · refine pop ?_ (h.k1e ht k1 hn)
          have hM := h.step ht
          unfold stK at hM
          simp (config := { decide := true }) only [k1, if_true, if_false] at hM
          rw [if_neg (by omega)] at hM
          exact hM
        · exact h.k1s ht k1 hn
      by_cases k2 : k.k = 2
      · exact h.k2 ht k2
      by_cases k3 : k.k = 3
      · exact h.k3 ht k3
      by_cases k4 : k.k = 4
      · refine pop ?_ (h.k4T ht k4)
        have hM := h.step ht
        unfold stK at hM
        simp (config := { decide := true }) only [k4, if_true, if_false] at hM
        exact hM
      by_cases k5 : k.k = 5
      · exact h.k5 ht k5
      by_cases k6 : k.k = 6
      · exact h.k6 ht k6
      by_cases k7 : k.k = 7
      · exact h.k7 ht k7
      by_cases k9 : k.k = 9
      · exact h.k9 ht k9
      by_cases k10 : k.k = 10
      · exact h.k10 ht k10
      by_cases k11 : k.k = 11
      · exact h.k11 ht k11
      by_cases k12 : k.k = 12
      · exact h.k12 ht k12
      by_cases k13 : k.k = 13
      · exact h.k13 ht k13
      by_cases k14 : k.k = 14
      · exact h.k14 ht k14
      by_cases k15 : k.k = 15
      · exact h.k15 ht k15
      by_cases k16 : k.k = 16
      · exact h.k16 ht k16
      by_cases k17 : k.k = 17
      · exact h.k17 ht k17 (hI0.1 k17)
      by_cases k18 : k.k = 18
      · exact h.k18 ht k18
      by_cases k19 : k.k = 19
      · exact h.k19 ht k19 (hI0.2 k19)
      by_cases k20 : k.k = 20
      · exact h.k20 ht k20
      by_cases k21 : k.k = 21
      · exact h.k21 ht k21
      by_cases k22 : k.k = 22
      · exact h.k22 ht k22
      by_cases k23 : k.k = 23
      · exact h.k23 ht k23
      by_cases k24 : k.k = 24
      · exact h.k24 ht k24
      by_cases k25 : k.k = 25
      · exact h.k25 ht k25
      by_cases k26 : k.k = 26 ∨ k.k = 27
      · exact h.k26 ht k26
      by_cases k28 : k.k = 28
      · exact h.k28 ht k28
      exfalso
      have cb := h.cb ht
      unfold Cb at cb
      dsimp only at cb
      rw [if_neg k3, if_neg k1, if_neg k2, if_neg k4, if_neg k5, if_neg k6, if_neg k7, if_neg k9, if_neg k10, if_neg k11, if_neg k12, if_neg k13, if_neg k14, if_neg k15, if_neg k16, if_neg k17, if_neg k18, if_neg k19, if_neg k20, if_neg k21, if_neg k22, if_neg k23, if_neg k24, if_neg k25, if_neg k26, if_neg k28] at cb
      exact cb
theorem rndsK_none : ∀ {k n fu : Nat} {m : VMD} {r : Nat × VMD}, rndsK k fu m i = some r → n ≤ k → roundsP n fu m i = none
  | _, 0, _, _, _, _, _ => rfl
  | 0, n + 1, _, _, _, _, h => by omega
  | k + 1, n + 1, fu, m, r, e, h => by
    unfold rndsK at e
    unfold roundsP
    cases hr : roundP fu m i with
    | inl q =>
      rw [hr] at e
      exact rndsK_none e (by omega)
    | inr q => rw [hr] at e; cases e
theorem rndsK_add : ∀ {k n fu : Nat} {m : VMD} {fu' : Nat} {m' : VMD}, rndsK k fu m i = some (fu', m') → roundsP (k + n) fu m i = roundsP n fu' m' i
  | 0, n, fu, m, fu', m', e => by cases e; rw [Nat.zero_add]
  | k + 1, n, fu, m, fu', m', e => by
    unfold rndsK at e
    rw [show k + 1 + n = (k + n) + 1 by omega]
    rw [roundsP]
    cases hr : roundP fu m i with
    | inl q =>
      rw [hr] at e
      exact rndsK_add e
    | inr q => rw [hr] at e; cases e
/-- THE ROUNDS OF A THREAD to its event -/
theorem rounds_sim : ∀ (n : Nat) {fu : Nat} {m : VMD} {M : MD} {P : List (Option Lc)} {ev : EvD} {fu1 : Nat} {m1 : VMD}, Rel N root D m fu s M P → M.cur = i → M.stack = stk → Gd1 S m i → (∀ j, InH (stepsM N root j M)) → roundsP n fu m i = some (ev, fu1, m1) → ∃ j, EvP N root D i stk s ev fu1 m1 (stepsM N root j M) := by
  intro n
  induction n using Nat.strongRecOn with
  | _ n ih =>
    intro fu m M P ev fu1 m1 R hc hs G hI e
    obtain ⟨K, t, T, f, fs, F, O⟩ := R.op hc G
    obtain ⟨j, k, hk, q⟩ := burst (n := T.tasks.length) O (Nat.le_refl _) hI
    rcases q with ⟨fu', m', P', q1, q2, q3, q4⟩ | ⟨ev', fu1', m1', q1, q2⟩
    · by_cases hn : n ≤ k
      · rw [rndsK_none q1 hn] at e
        cases e
      · have e2 : roundsP (n - k) fu' m' i = some (ev, fu1, m1) := by
          rw [← rndsK_add q1, show k + (n - k) = n by omega]
          exact e
        obtain ⟨j', r⟩ := ih (n - k) (by omega) q2 q3 (q4.trans hs) (G.rounds q1) (fun j' => by rw [stepsM_add]; exact hI _) e2
        exact ⟨j + j', by rw [← stepsM_add]; exact r⟩
    · have := roundsP_det q1 e
      cases this
      rw [hs] at q2
      exact ⟨j, q2⟩
end
end Go.Proofs.Qxb6500574aGreatDoor
