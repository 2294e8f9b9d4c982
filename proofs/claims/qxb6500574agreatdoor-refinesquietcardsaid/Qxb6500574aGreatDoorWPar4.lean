/-
  moon: WHAT THE PARSER LAYS: the law, task by task. Plain; no memory, no walk.
-/
import Derived.Test.Qxb6500574aGreatDoorWPar3
namespace Go.Proofs.Qxb6500574aGreatDoor
set_option linter.unusedVariables false
set_option linter.unusedSimpArgs false

/-- a block's statements were laid between s and s'; what was alive is alive -/
structure BlP (s s' : PSt) (al : Nat) (lp : Bool) (v : Nat) : Prop where
  kp : Kpt s s'
  av : s'.alive = s.alive
  ex : ∃ l al', Chain s'.nodes v l ∧ SeqS (fun x lo a b al al' => Sh s'.nodes 0 x lo a b 120 al al' lp) l (s.nodes.length - 1) (s'.nodes.length - 1) s.funcs s'.funcs al al'
/-- the law at n steps -/
structure PA (T : List Tok) (n : Nat) : Prop where
  p0 : ∀ room x s r, SOk s → parN T n 0 room x s = .inr r → 1 ≤ x.getD 0 0 → x.getD 0 0 ≤ 7 → room ≤ 12 → ExP s r.2 (wE room (x.getD 0 0)) (r.1.getD 0 0)
  p1 : ∀ room x s r s0, SOk s0 → ExP s0 s (wE room (x.getD 0 0)) (x.getD 1 0) → parN T n 1 room x s = .inr r → 1 ≤ x.getD 0 0 → x.getD 0 0 ≤ 7 → 1 ≤ room → room ≤ 12 → ExP s0 r.2 (wE room (x.getD 0 0)) (r.1.getD 0 0)
  p2 : ∀ room x s r, SOk s → parN T n 2 room x s = .inr r → room ≤ 12 → 1 ≤ room ∧ ExP s r.2 (6 * room + 2) (r.1.getD 0 0)
  p3 : ∀ room x s r, SOk s → parN T n 3 room x s = .inr r → room ≤ 12 → 1 ≤ room ∧ ExP s r.2 (6 * room + 2) (r.1.getD 0 0)
  p4 : ∀ room x s r s0, SOk s0 → ExP s0 s (6 * room + 2) (x.getD 0 0) → parN T n 4 room x s = .inr r → 1 ≤ room → room ≤ 12 → ExP s0 r.2 (6 * room + 2) (r.1.getD 0 0)
  p5 : ∀ room x s r, SOk s → parN T n 5 room x s = .inr r → 1 ≤ room → room ≤ 12 → ExP s r.2 (6 * room + 2) (r.1.getD 0 0)
  p6 : ∀ room x s r s0 l, SOk s0 → LiE s0 s (wE room 1) l (x.getD 3 0) → x.getD 2 0 = l.length → x.getD 4 0 = l.getLastD 0 → (x.getD 1 0 ≠ 0 → l.length + 1 ≤ x.getD 1 0) → parN T n 6 room x s = .inr r → room ≤ 12 → ∃ l', LiE s0 r.2 (wE room 1) l' (r.1.getD 0 0) ∧ (x.getD 1 0 ≠ 0 → l'.length + 1 ≤ x.getD 1 0)
  p7 : ∀ room x s r, SOk s → s.funcs < 12 → parN T n 7 room x s = .inr r → 1 ≤ room → room ≤ 12 → ExP s r.2 2 (r.1.getD 0 0) ∧ (r.2.nodes.getD (r.1.getD 0 0) nd0).k = 20
  p8 : ∀ room x s r s0 l, SOk s0 → LiN s0 s l (x.getD 1 0) → x.getD 0 0 = l.length → x.getD 2 0 = l.getLastD 0 → l.length ≤ 3 → parN T n 8 room x s = .inr r → ∃ l', LiN s0 r.2 l' (r.1.getD 0 0) ∧ r.1.getD 1 0 = l'.length ∧ l'.length ≤ 3
  p9 : ∀ room x s r, SOk s → parN T n 9 room x s = .inr r → room ≤ 12 → BlP s r.2 s.alive (decide (0 < s.loops)) (r.1.getD 0 0)
  p10 : ∀ room x s r s0 l, SOk s0 → LiS s0 s (decide (0 < s0.loops)) l (x.getD 1 0) → x.getD 2 0 = l.getLastD 0 → parN T n 10 room x s = .inr r → 1 ≤ room → room ≤ 12 → ∃ l', LiS s0 r.2 (decide (0 < s0.loops)) l' (r.1.getD 0 0)
  p11 : ∀ room x s r, SOk s → parN T n 11 room x s = .inr r → 1 ≤ room → room ≤ 12 → StP s r.2 (r.1.getD 0 0)
  p12 : ∀ room x s r, SOk s → parN T n 12 room x s = .inr r → 1 ≤ room → room ≤ 12 → StP s r.2 (r.1.getD 0 0)
  p13 : ∀ room x s r, SOk s → parN T n 13 room x s = .inr r → 1 ≤ room → room ≤ 12 → StP s r.2 (r.1.getD 0 0) ∧ r.2.alive = s.alive
  p14 : ∀ room x s r, SOk s → parN T n 14 room x s = .inr r → 1 ≤ room → room ≤ 12 → StP s r.2 (r.1.getD 0 0)
  p15 : ∀ room x s r, SOk s → s.alive + x.getD 0 0 ≤ 12 → parN T n 15 room x s = .inr r → 1 ≤ room → room ≤ 12 → BlP s r.2 (s.alive + x.getD 0 0) true (r.1.getD 0 0)
  p16 : ∀ room x s r, SOk s → parN T n 16 room x s = .inr r → 1 ≤ room → room ≤ 12 → StP s r.2 (r.1.getD 0 0)
theorem PA.zero (T : List Tok) : PA T 0 := by
  constructor <;> intros <;> (exfalso; have h := ‹parN T 0 _ _ _ _ = .inr _›; cases h)
end Go.Proofs.Qxb6500574aGreatDoor
