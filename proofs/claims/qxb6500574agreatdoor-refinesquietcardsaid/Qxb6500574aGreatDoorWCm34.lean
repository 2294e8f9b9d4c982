/-
  THE WALK of comp: every statement; every task, whatever its depth.
-/
import Derived.Test.Qxb6500574aGreatDoorWCm33
namespace Go.Proofs.Qxb6500574aGreatDoor
open Go Go.RowKit
set_option linter.unusedVariables false
set_option linter.unusedSimpArgs false
open Go.Lib
section
variable {w : World} {o : Nat → Nat} {C : CC} {N : List Nd} {c : CmD} {f n k a b lo : Nat} {L : List Bs} {r : En}
theorem stmt_w (A : CA N k) (W : CW N C k) (hN : N.length ≤ 1000) (h0 : (N.getD 0 nd0).k = 0) {al' lb : Nat} {lp : Bool} (h : Sh N 0 n lo a b 120 L.length al' lp) (B : CB w o C N f L r a (17 * (n - lo)) (n - lo) c) (hL : LpI lp lb L (c.fn f).loops) (hll : LpB lo (c.fn f).loops) (hk : 2 * n + 2 ≤ k + 1) :
    Calls Tryz.prog 102 #[fptr C.gF f, .int .i64 n] w (CQ w o C N (comN N (k + 1) 0 f n c)) := by
  obtain ⟨z1, z2, z3⟩ := h.out
  rcases z3 with ⟨e, _⟩ | ⟨_, z3⟩
  · cases e
  rcases z3 with ⟨e, g1, g2, g3, g4⟩ | ⟨e, g1, g2, g3, g4, g5, g6, g7, g8⟩ | ⟨e, g1, g2, g3, g4, g5, g6⟩ | ⟨e, g1, g2, g3, b1, g4, g5⟩ | ⟨e, g1, g2, g3, g4⟩ | ⟨e, g1, b1, l, h1, b2, l2, h2, x1, x2, g2, g3, g4, g5, g6, g7⟩ | ⟨e, g1, b1, l, h1, x1, g2, g3, g4, g5⟩ | ⟨e, g1, g2, g3, l0, h0', b0, l, h1, x1, g4, g5, g6, g7, g8, g9⟩ | ⟨e, g1, g2, g3, g4, g5, b0, l, h1, x1, g6, g7, g8, g9⟩ | ⟨e, g1, g2⟩ | ⟨e, g1, g2, rfl, g3⟩
  · rcases g4 with ⟨q1, q2, q3⟩ | ⟨q1, q2⟩
    · exact st_1 A W B z2 e h0 (D1 := 1) (Q1 := 0) (.inl ⟨q1, q3, rfl, rfl⟩) (by omega) ⟨by omega, by omega, by omega⟩
    · have := q2.lt
      exact st_1 A W B z2 e h0 (.inr ⟨q2, by omega, rfl, rfl⟩) (by omega) ⟨by omega, by omega, by omega⟩
  · exact st_2 A W B z2 e (by omega) g3 g4 g6 g7 g8 hk
  · exact st_3 A W B z2 e g4 g6 (by omega) hk
  · refine st_4 B z2 e fun w' o' B' => ?_
    obtain ⟨y1, y2, y3⟩ := g4.out
    rcases g3 with g3 | g3
    · have hz : b1 = a ∧ nmOk (N.getD (N.getD n nd0).a nd0).s := by
        rcases y3 with ⟨_, y3⟩ | ⟨e, _⟩
        · rcases y3 with q | q | q | q | q | q | q | q | q | q | q <;> first | omega | exact ⟨q.2.2.1, q.2.2.2.2⟩
        · cases e
      obtain ⟨rfl, hm⟩ := hz
      exact assign_n A W B' z2 e g2 g3 hm g5 g4.lt hk
    · have hz : ∃ b2, (N.getD n nd0).a = (N.getD (N.getD n nd0).a nd0).b + 1 ∧ Sh N 1 (N.getD (N.getD n nd0).a nd0).a lo a b2 110 0 0 false ∧ Sh N 1 (N.getD (N.getD n nd0).a nd0).b (N.getD (N.getD n nd0).a nd0).a b2 b1 109 0 0 false := by
        rcases y3 with ⟨_, y3⟩ | ⟨e, _⟩
        · rcases y3 with q | q | q | q | q | q | q | q | q | q | q <;> first | omega | (obtain ⟨_, _, q1, b2, q2, q3⟩ := q; exact ⟨b2, q1, q2, q3⟩)
        · cases e
      obtain ⟨b2, j1, j2, j3⟩ := hz
      exact assign_i A W B' z2 e g2 g3 j1 j2 j3 g5 hk
  · exact st_5 A W B z2 e g2 g4 g3 hk
  · exact st_6 B z2 e fun w' o' B' => test_w A W B' z2 e hL hll g2 g3 g4 g5 g6 g7 hk
  · exact st_7 B z2 e fun w' o' B' => while_w A W B' z2 e hN hll g2 g3 g4 g5 hk
  · refine st_8 B z2 e fun w' o' B' => ?_
    have hc0 := g5
    cases l0 with
    | nil => simp at g6
    | cons x1' l0 =>
      cases l0 with
      | nil => simp at g6
      | cons x2' l0 =>
        obtain ⟨c1, c2, c3⟩ := g5
        obtain ⟨c4, c5, c6⟩ := c3
        obtain ⟨b1, s1, b2, s2, s3⟩ := g7
        subst c1
        subst c4
        cases l0 with
        | nil =>
          obtain ⟨t1, t2⟩ := s3
          have c6 : (N.getD (N.getD (N.getD n nd0).a nd0).next nd0).next = 0 := c6
          subst t1
          subst t2
          exact count_2 A W B' z2 e hN hll (by omega) s1 s2 ⟨c6, rfl, rfl⟩ g4 g8 g9 hk
        | cons x3' l0 =>
          cases l0 with
          | cons x4' l0 => simp at g6
          | nil =>
            obtain ⟨b3, s3, t1, t2⟩ := s3
            obtain ⟨c7, c8, c9⟩ := c6
            subst c7
            subst t1
            subst t2
            exact count_3 A W B' z2 e hN hll (by omega) s1 s2 ⟨s3, rfl, c8⟩ g4 g8 g9 hk
  · exact st_9 B z2 e fun w' o' B' => walk_w A W B' z2 e hN hll (by omega) g3 g4 g6 g7 g8 g9 hk
  · have key : ∃ b1 lo2 D1 Q1 D2 Q2, (((N.getD n nd0).a = 0 ∧ b1 = a ∧ D1 = 1 ∧ Q1 = 0) ∨ (Sh N 1 (N.getD n nd0).a lo a b1 120 0 0 false ∧ 2 * (N.getD n nd0).a + 2 ≤ k ∧ D1 = 17 * ((N.getD n nd0).a - lo) ∧ Q1 = (N.getD n nd0).a - lo)) ∧ (((N.getD n nd0).b = 0 ∧ b = b1 ∧ D2 = 1 ∧ Q2 = 0) ∨ (Sh N 1 (N.getD n nd0).b lo2 b1 b 119 0 0 false ∧ 2 * (N.getD n nd0).b + 2 ≤ k ∧ D2 = 17 * ((N.getD n nd0).b - lo2) ∧ Q2 = (N.getD n nd0).b - lo2)) ∧ D1 + D2 + 1 ≤ 17 * (n - lo) ∧ Q1 + Q2 ≤ n - lo := by
      rcases g2 with ⟨e1, e2, e3, e4⟩ | ⟨e1, e2, e3⟩ | ⟨e1, b1, e2, e3⟩
      · exact ⟨a, 0, 1, 0, 1, 0, .inl ⟨e1, rfl, rfl, rfl⟩, .inl ⟨e2, e4, rfl, rfl⟩, by omega, by omega⟩
      · have := e3.lt
        exact ⟨b, 0, _, _, 1, 0, .inr ⟨e3, by omega, rfl, rfl⟩, .inl ⟨e1, rfl, rfl, rfl⟩, by omega, by omega⟩
      · have := e2.lt; have := e3.lt
        exact ⟨b1, (N.getD n nd0).a, _, _, _, _, .inr ⟨e2, by omega, rfl, rfl⟩, .inr ⟨e3, by omega, rfl, rfl⟩, by omega, by omega⟩
    obtain ⟨b1, lo2, D1, Q1, D2, Q2, k1, k2, k3, k4⟩ := key
    exact st_10 A W B z2 e h0 k1 k2 ⟨k3, k4, by omega⟩
  · obtain ⟨hb, l', br, hl⟩ := hL g3
    have h1 := hll.n
    have h2 := hll.b ⟨lb, br⟩ (by rw [hl]; simp)
    have h12 := B.I.l12
    rw [hl] at h1
    simp only [List.length_append, List.length_singleton] at h1 h2
    by_cases hc : lb < L.length
    · exact st_11y (l0 := ⟨lb, br⟩) B z2 e hl z1 (by omega) (by simp only; omega) hc (by simp only; omega)
    · exact st_11n (l0 := ⟨lb, br⟩) B z2 e hl z1 (by omega) (by simp only; omega) hc (by simp only; omega)
/-- every task -/
theorem CW.all (hN : N.length ≤ 1000) (h0 : (N.getD 0 nd0).k = 0) (hA : ∀ k, CA N k) : ∀ k, CW N C k := by
  intro k
  induction k with
  | zero => exact ⟨fun _ _ _ _ _ _ _ _ _ _ _ _ _ h => by omega, fun _ _ _ _ _ _ _ _ _ _ _ _ _ _ h => by omega, fun _ _ _ _ _ _ _ _ _ _ _ _ _ _ _ _ _ h => by omega, fun _ _ _ _ _ _ _ _ _ _ _ _ _ _ _ _ _ _ _ _ _ h => by omega⟩
  | succ k ih =>
    exact ⟨fun w o f L r lo a b n x c h B hk => expr_w (hA k) ih (by omega) h B hk, fun w o f L r lo a b n x c h hd B hk => call_w (hA k) ih (by omega) h hd B hk,
      fun w o f L r lo a b n al' lp lb c h B hL hll hk => stmt_w (hA k) ih hN h0 h B hL hll hk, fun w o f L r lo hi a b n l al' lp lb c hc hs hh B hL hll hk => block_w (hA k) ih (by omega) hc hs hh B hL hll hk⟩
end
end Go.Proofs.Qxb6500574aGreatDoor
