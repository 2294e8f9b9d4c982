/-
  moon: WHAT THE PARSER LAYS: for; the whole law; the tokens; the tree. Plain; no memory, no walk.
-/
import Derived.Test.Qxb6500574aGreatDoorWPar8
namespace Go.Proofs.Qxb6500574aGreatDoor
set_option linter.unusedVariables false
set_option linter.unusedSimpArgs false
theorem SeqE.at120 {N : List Nd} : ∀ {l : List Nat} {lo hi a b w : Nat}, w ≤ 120 → SeqE (fun x lo a b w => Sh N 1 x lo a b w 0 0 false) 0 l lo hi a b w → SeqE (fun x lo a b w => Sh N 1 x lo a b 120 0 0 false) 0 l lo hi a b 120 := by
  intro l
  induction l with
  | nil => intro lo hi a b w _ h; exact h
  | cons x l ih => intro lo hi a b w hw h; obtain ⟨b1, h1, h2⟩ := h; exact ⟨b1, h1.wide hw, ih hw h2⟩
section
variable {T : List Tok} {n : Nat}
theorem for_root {s s1 s2 : PSt} {w first u p : Nat} {l0 : List Nat} {m : Bs} (hs : SOk s) (hw : w ≤ 120) (hm : nmOk m) (ha : s.alive + 4 ≤ 12) (g : LiE s s1 w l0 first) (hl : l0.length = 2 ∨ l0.length = 3) (q : BlP s1 s2 (s1.alive + 4) true u) : StP s (s2.add ⟨8, first, u, 0, 0, 0, m, p⟩) s2.nodes.length := by
  have n0 := hs.n1
  have hs1 := g.sok hs
  have hs2 := q.sok hs1
  have ea : s2.alive = s.alive := by rw [q.av, g.al]
  have e1 := g.kp.le
  have e2 := q.kp.le
  have kd := Kpt.add hs2 ⟨8, first, u, 0, 0, 0, m, p⟩
  obtain ⟨l, x1, c1, c2⟩ := q.up hs1 kd
  obtain ⟨u1, u2⟩ := g.up hs (q.kp.trans kd)
  rw [g.al] at c2
  have hin := SeqE.in_ Sh.ltE g.sq
  have hne : l0 ≠ [] := by intro e; subst e; simp at hl
  have := hin.2 _ (lastD_mem 0 hne)
  refine StP.root hs (g.kp.trans q.kp) hs2.al rfl ⟨by omega, by simp [PSt.add], .inr ⟨rfl, ?_⟩⟩
  exact .inr (.inr (.inr (.inr (.inr (.inr (.inr (.inl ⟨rfl, ea, ha, hm, l0, _, _, l, s2.nodes.length - 1, x1, by omega, u2, hl, u1.at120 hw, c1, c2⟩)))))))
theorem PA.s14 (A : PA T n) (ht : TOk T) (room : Nat) (x : List Nat) (s : PSt) (r : List Nat × PSt) (hs : SOk s) (h : parN T (n + 1) 14 room x s = .inr r) (r1 : 1 ≤ room) (hr : room ≤ 12) : StP s r.2 (r.1.getD 0 0) := by
  unfold parN at h
  simp (config := {decide := true}) only [if_true, if_false] at h
  have n0 := hs.n1
  obtain ⟨m1, m2, h⟩ := nameP_inr ht h
  have m2 : s.alive + 4 ≤ 12 := m2 (by decide)
  split at h
  · obtain ⟨m3, m4, h⟩ := nameP_inr ht h
    have h := expectP_inr h
    obtain ⟨v, s1, h1, h⟩ := PB_inr h
    obtain ⟨u, s2, h2, h⟩ := PB_inr h
    have an4 : Alike s s.nxt.nxt.nxt.nxt := ⟨rfl, rfl, rfl, rfl⟩
    have h4 := an4.sok hs
    have k1 := Kpt.add h4 ⟨17, 0, 0, 0, s.nodes.length + 1, 0, (curT T s).s, (curT T s).p⟩
    have h5 : SOk (s.nxt.nxt.nxt.nxt.add ⟨17, 0, 0, 0, s.nodes.length + 1, 0, (curT T s).s, (curT T s).p⟩) := h4.kp k1 h4.al
    have k2 := Kpt.add h5 ⟨17, 0, 0, 0, 0, 0, (curT T s.nxt.nxt).s, (curT T s.nxt.nxt).p⟩
    have h6 := h5.kp k2 h5.al
    have g := (A.p0 (room - 1) [1] _ _ h6 h1 (by decide) (by decide) (by omega)).wide (wE_120 (by omega) _)
    have hs1 := g.sok h6
    have ga : s1.alive = s.alive := g.al
    have gv : v.getD 0 0 + 1 = s1.nodes.length := g.ve
    have q := A.p15 room [4] _ _ hs1 (by show s1.alive + 4 ≤ 12; omega) h2 r1 hr
    have hs2 := q.sok hs1
    have qa : s2.alive = s1.alive := q.av
    have e2 : s1.nodes.length ≤ s2.nodes.length := q.kp.le
    have gl := g.sh.lt
    rw [add_len, add_len] at gl
    have gl : s.nodes.length + 1 + 1 - 1 < v.getD 0 0 := gl
    rw [okP_inr h]
    have kd := Kpt.add hs2 ⟨9, s.nodes.length, v.getD 0 0, u.getD 0 0, 0, 0, [], (curT T s).p⟩
    obtain ⟨q1, q2⟩ := two_names h4 m1 m3 (g.kp.trans (q.kp.trans kd))
    have q1 : _ = s.nodes.length - 1 + 2 := q1
    obtain ⟨l, x1, c1, c2⟩ := q.up hs1 kd
    have gu := g.up (q.kp.trans kd)
    rw [add_len, add_len] at gu
    rw [show s1.nodes.length - 1 = v.getD 0 0 by omega] at c2
    have ea : s1.alive + [4].getD 0 0 = s.alive + 4 := by show s1.alive + 4 = _; omega
    rw [ea] at c2
    refine StP.root hs ((k1.trans (k2.trans (g.kp.trans q.kp))).alike an4.symm (Alike.refl _)) hs2.al rfl ⟨by show _ < s2.nodes.length; omega, by simp [PSt.add], .inr ⟨rfl, ?_⟩⟩
    refine .inr (.inr (.inr (.inr (.inr (.inr (.inr (.inr (.inl ⟨rfl, by show s2.alive = _; omega, m2, by show s.nodes.length = _; omega, q1, q2, s1.funcs, l, s2.nodes.length - 1, x1, by show s2.nodes.length = _; omega, ?_, c1, c2⟩))))))))
    have e : s.nodes.length - 1 + 2 = s.nodes.length + 1 + 1 - 1 := by omega
    rw [e]
    exact gu
  · have h := expectP_inr h
    obtain ⟨v, s1, h1, h⟩ := PB_inr h
    have h := expectP_inr h
    obtain ⟨u, s2, h2, h⟩ := PB_inr h
    have an2 : Alike s s.nxt.nxt := ⟨rfl, rfl, rfl, rfl⟩
    have g := ((A.p0 (room - 1) [1] _ _ (an2.sok hs) h1 (by decide) (by decide) (by omega)).alike an2.symm (Alike.nxt s1))
    have hs1 := g.sok hs
    have L1 := (LiE.nil hs _).snoc hs rfl g
    have L1 : LiE s s1.nxt (wE (room - 1) 1) [v.getD 0 0] (v.getD 0 0) := L1
    have g2 := A.p0 (room - 1) [1] _ _ hs1 h2 (by decide) (by decide) (by omega)
    have hv : v.getD 0 0 ≠ 0 := by have := g.sh.lt; simp only at this; omega
    have L2 := L1.snoc hs (last := v.getD 0 0) rfl g2
    rw [if_neg hv] at L2
    have hs2 := L2.sok hs
    split at h
    · obtain ⟨z, s3, h3, h⟩ := PB_inr h
      obtain ⟨q, s4, h4, h⟩ := PB_inr h
      have L2 := L2.alike (Alike.refl _) (Alike.nxt _)
      have hs2 := L2.sok hs
      have g3 := A.p0 (room - 1) [1] _ _ hs2 h3 (by decide) (by decide) (by omega)
      have L3 := L2.snoc hs (last := u.getD 0 0) rfl g3
      have hu : u.getD 0 0 ≠ 0 := by have := g2.sh.lt; simp only at this; omega
      rw [if_neg hu] at L3
      have hs3 := L3.sok hs
      have B := A.p15 room [4] _ _ hs3 (by have := L3.al; rw [this]; exact m2) h4 r1 hr
      rw [okP_inr h]
      exact for_root hs (wE_120 (by omega) _) m1 m2 L3 (.inr rfl) B
    · obtain ⟨q, s4, h4, h⟩ := PB_inr h
      have B := A.p15 room [4] _ _ hs2 (by have := L2.al; rw [this]; exact m2) h4 r1 hr
      rw [okP_inr h]
      exact for_root hs (wE_120 (by omega) _) m1 m2 L2 (.inl rfl) B
/-- the law at every number of steps -/
theorem PA.all (ht : TOk T) : ∀ n, PA T n := by
  intro n
  induction n with
  | zero => exact PA.zero T
  | succ n A => exact ⟨A.s0, A.s1, A.s2, A.s3, A.s4 ht, A.s5 ht, A.s6, A.s7, A.s8 ht, A.s9, A.s10, A.s11, A.s12 ht, A.s13, A.s14 ht, A.s15, A.s16⟩
end
end Go.Proofs.Qxb6500574aGreatDoor
