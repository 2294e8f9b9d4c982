/-
  moon: WHAT THE PARSER LAYS: the words of the law. Plain; no memory, no walk.
-/
import Derived.Test.Qxb6500574aGreatDoorWSh3
namespace Go.Proofs.Qxb6500574aGreatDoor
set_option linter.unusedVariables false
set_option linter.unusedSimpArgs false

/-- how many operands an expression takes that is read at this room with operators of this rank or tighter -/
def wE (room least : Nat) : Nat := 6 * room + 2 + (if least ≤ 3 then 3 else if least ≤ 5 then 2 else if least ≤ 6 then 1 else 0)
structure TOk (T : List Tok) : Prop where
  nm : ∀ i, (T.getD i tok0).k = 2 → nmOk (T.getD i tok0).s
  st : ∀ i, (T.getD i tok0).k = 4 → (T.getD i tok0).s.length ≤ 40
  nu : ∀ i, (T.getD i tok0).k = 3 → (T.getD i tok0).n < 18446744073709551616 ∧ isNan (T.getD i tok0).n = false
structure SOk (s : PSt) : Prop where
  n1 : 1 ≤ s.nodes.length
  fu : s.funcs ≤ 12
  al : s.alive ≤ 12
/-- what stood stands -/
structure Kpt (s s' : PSt) : Prop where
  le : s.nodes.length ≤ s'.nodes.length
  old : ∀ x, x < s.nodes.length → s'.nodes.getD x nd0 = s.nodes.getD x nd0
  fu : s.funcs ≤ s'.funcs
  f12 : s'.funcs ≤ 12
  lp : s'.loops = s.loops
theorem Kpt.trans {s s1 s2 : PSt} (h : Kpt s s1) (g : Kpt s1 s2) : Kpt s s2 := ⟨Nat.le_trans h.le g.le, fun x hx => (g.old x (Nat.lt_of_lt_of_le hx h.le)).trans (h.old x hx), Nat.le_trans h.fu g.fu, g.f12, g.lp.trans h.lp⟩
/-- an expression was laid between s and s', its root is v -/
structure ExP (s s' : PSt) (w v : Nat) : Prop where
  kp : Kpt s s'
  al : s'.alive = s.alive
  ve : v + 1 = s'.nodes.length
  nx : (s'.nodes.getD v nd0).next = 0
  sh : Sh s'.nodes 1 v (s.nodes.length - 1) s.funcs s'.funcs w 0 0 false
theorem getD_last (l : List Nd) (d : Nd) : (l ++ [d]).getD l.length nd0 = d := by simp
theorem getD_old {l : List Nd} {d : Nd} {x : Nat} (h : x < l.length) : (l ++ [d]).getD x nd0 = l.getD x nd0 := by
  rw [List.getD_eq_getElem?_getD, List.getElem?_append_left h, ← List.getD_eq_getElem?_getD]
/-- one more node -/
theorem Kpt.add {s : PSt} (h : SOk s) (d : Nd) : Kpt s (s.add d) := ⟨by simp [PSt.add], fun x hx => getD_old hx, Nat.le_refl _, h.fu, rfl⟩
theorem SOk.kp {s s' : PSt} (h : SOk s) (k : Kpt s s') (ha : s'.alive ≤ 12) : SOk s' := ⟨Nat.le_trans h.n1 k.le, k.f12, ha⟩
/-- an old shape in a grown arena -/
theorem Sh.kp {s s' : PSt} (k : Kpt s s') {task n lo a b w al al' : Nat} {lp : Bool} (h : Sh s.nodes task n lo a b w al al' lp) (hn : n < s.nodes.length) : Sh s'.nodes task n lo a b w al al' lp :=
  h.mono (fun x _ h2 => k.old x (by omega)) (NdE.of (k.old n hn)) (Nat.lt_of_lt_of_le hn k.le)
/-- a new root over what was laid since s: its shape by cases -/
theorem ExP.root {s s1 : PSt} {d : Nd} {w : Nat} (hs : SOk s) (k : Kpt s s1) (al : s1.alive = s.alive) (nx : d.next = 0)
    (h : ShB (s1.add d).nodes (Sh (s1.add d).nodes) d 1 s1.nodes.length (s.nodes.length - 1) s.funcs s1.funcs w 0 0 false) : ExP s (s1.add d) w s1.nodes.length := by
  have hs1 : SOk s1 := ⟨Nat.le_trans hs.n1 k.le, k.f12, by rw [al]; exact hs.al⟩
  refine ⟨k.trans (Kpt.add hs1 d), al, by simp [PSt.add], ?_, Sh.mk ?_⟩
  · simp only [PSt.add]; rw [getD_last]; exact nx
  · have : (s1.add d).nodes.getD s1.nodes.length nd0 = d := by simp only [PSt.add]; exact getD_last _ _
    rw [this]
    exact h
end Go.Proofs.Qxb6500574aGreatDoor
