/-
  moon: WHAT THE PARSER LAYS: local, branch, for. Plain; no memory, no walk.
-/
import Derived.Test.Qxb6500574aGreatDoorWPar7
namespace Go.Proofs.Qxb6500574aGreatDoor
set_option linter.unusedVariables false
set_option linter.unusedSimpArgs false
theorem wE_120 {room : Nat} (h : room ≤ 11) (k : Nat) : wE room k ≤ 120 := Nat.le_trans (wE_11 h k) (by decide)
/-- two names side by side -/
theorem two_names {s : PSt} (hs : SOk s) {m1 m2 : Bs} {p1 p2 : Nat} (h1 : nmOk m1) (h2 : nmOk m2) {s2 : PSt} (k : Kpt ((s.add ⟨17, 0, 0, 0, s.nodes.length + 1, 0, m1, p1⟩).add ⟨17, 0, 0, 0, 0, 0, m2, p2⟩) s2) :
    (s2.nodes.getD s.nodes.length nd0).next = s.nodes.length - 1 + 2 ∧ Names s2.nodes [s.nodes.length - 1 + 1, s.nodes.length - 1 + 2] (s.nodes.length - 1) (s.nodes.length - 1 + 2) := by
  have n0 := hs.n1
  have e1 : s2.nodes.getD s.nodes.length nd0 = ⟨17, 0, 0, 0, s.nodes.length + 1, 0, m1, p1⟩ := by
    rw [k.old _ (by rw [add_len, add_len]; omega)]
    simp only [PSt.add]
    rw [getD_old (by simp)]
    exact getD_last _ _
  have e2 : s2.nodes.getD (s.nodes.length + 1) nd0 = ⟨17, 0, 0, 0, 0, 0, m2, p2⟩ := by
    rw [k.old _ (by rw [add_len, add_len]; omega)]
    have := getD_last (s.add ⟨17, 0, 0, 0, s.nodes.length + 1, 0, m1, p1⟩).nodes ⟨17, 0, 0, 0, 0, 0, m2, p2⟩
    rw [add_len] at this
    exact this
  have hl := k.le
  rw [add_len, add_len] at hl
  rw [show s.nodes.length - 1 + 2 = s.nodes.length + 1 by omega, show s.nodes.length - 1 + 1 = s.nodes.length by omega]
  refine ⟨by rw [e1], by omega, by omega, by rw [e1], by rw [e1]; exact h1.1, by rw [e1]; exact h1.2, by omega, by omega, by rw [e2], by rw [e2]; exact h2.1, by rw [e2]; exact h2.2, by show s.nodes.length + 1 = _; omega⟩
section
variable {T : List Tok} {n : Nat}
theorem PA.s12 (A : PA T n) (ht : TOk T) (room : Nat) (x : List Nat) (s : PSt) (r : List Nat × PSt) (hs : SOk s) (h : parN T (n + 1) 12 room x s = .inr r) (r1 : 1 ≤ room) (hr : room ≤ 12) : StP s r.2 (r.1.getD 0 0) := by
  unfold parN at h
  simp (config := {decide := true}) only [if_true, if_false] at h
  have n0 := hs.n1
  split at h
  · split at h
    · exact (failP_inr h).elim
    · rename_i hf
      obtain ⟨m1, m2, h⟩ := nameP_inr ht h
      have m2 : s.alive + 1 ≤ 12 := m2 (by decide)
      obtain ⟨v, s1, h1, h⟩ := PB_inr h
      have ok : SOk { s.nxt.nxt with alive := s.nxt.nxt.alive + 1 } := ⟨hs.n1, hs.fu, m2⟩
      obtain ⟨g, gk⟩ := A.p7 room [(curT T s.nxt).p] _ _ ok (by show s.funcs < 12; omega) h1 r1 hr
      have hs1 := g.sok ok
      have gv : v.getD 0 0 + 1 = s1.nodes.length := g.ve
      have gl : s.nodes.length - 1 < v.getD 0 0 := g.sh.lt
      have ga : s1.alive = s.alive + 1 := g.al
      rw [okP_inr h]
      have kd := Kpt.add hs1 ⟨3, v.getD 0 0, 0, 0, 0, 0, (curT T s.nxt).s, (curT T s.nxt).p⟩
      refine StP.root hs ⟨g.kp.1, g.kp.2, g.kp.3, g.kp.4, g.kp.5⟩ hs1.al rfl ⟨by show _ < s1.nodes.length; omega, by simp [PSt.add], .inr ⟨rfl, ?_⟩⟩
      refine .inr (.inr (.inl ⟨rfl, m1, ga, hs1.al, gv.symm, ?_, (g.up kd).wide (by omega)⟩))
      exact (congrArg Nd.k (kd.old (v.getD 0 0) (by show _ < s1.nodes.length; omega))).trans gk
  · obtain ⟨m1, m2, h⟩ := nameP_inr ht h
    have m2 : s.alive + 1 ≤ 12 := m2 (by decide)
    have an := Alike.nxt s
    have hn := an.sok hs
    split at h
    · obtain ⟨m3, m4, h⟩ := nameP_inr ht h
      have h := expectP_inr h
      have m4 : s.alive + 2 ≤ 12 := m4 (by decide)
      obtain ⟨v, s1, h1, h⟩ := PB_inr h
      have an4 : Alike s s.nxt.nxt.nxt.nxt := ⟨rfl, rfl, rfl, rfl⟩
      have h4 := an4.sok hs
      have k1 := Kpt.add h4 ⟨17, 0, 0, 0, s.nodes.length + 1, 0, (curT T s).s, (curT T s).p⟩
      have h5 : SOk (s.nxt.nxt.nxt.nxt.add ⟨17, 0, 0, 0, s.nodes.length + 1, 0, (curT T s).s, (curT T s).p⟩) := h4.kp k1 h4.al
      have k2 := Kpt.add h5 ⟨17, 0, 0, 0, 0, 0, (curT T s.nxt.nxt).s, (curT T s.nxt.nxt).p⟩
      have h6 := h5.kp k2 h5.al
      have g := A.p0 (room - 1) [1] _ _ h6 h1 (by decide) (by decide) (by omega)
      have hs1 := g.sok h6
      split at h
      · exact (failP_inr h).elim
      · rename_i hd
        have hd : (s1.nodes.getD (v.getD 0 0) nd0).k = 19 := by omega
        rw [okP_inr h]
        have ga : s1.alive = s.alive := g.al
        have gv : v.getD 0 0 + 1 = s1.nodes.length := g.ve
        have gs := g.sh
        have gl := g.sh.lt
        rw [add_len, add_len] at gs gl
        have gl : s.nodes.length + 1 + 1 - 1 < v.getD 0 0 := gl
        have ok2 : SOk { s1 with alive := s1.alive + 2 } := ⟨hs1.n1, hs1.fu, by show s1.alive + 2 ≤ 12; omega⟩
        have kd := Kpt.add ok2 ⟨2, s.nodes.length, v.getD 0 0, 0, 0, 0, [], (curT T s).p⟩
        have kk := g.kp.trans (s2 := { s1 with alive := s1.alive + 2 }) ⟨Nat.le_refl _, fun _ _ => rfl, Nat.le_refl _, hs1.fu, rfl⟩
        have kall := kk.trans kd
        obtain ⟨q1, q2⟩ := two_names h4 m1 m3 kall
        have q1 : _ = s.nodes.length - 1 + 2 := q1
        refine StP.root hs ((k1.trans (k2.trans kk)).alike an4.symm (Alike.refl _)) (by show s1.alive + 2 ≤ 12; omega) rfl ⟨by show _ < s1.nodes.length; omega, by simp [PSt.add], .inr ⟨rfl, ?_⟩⟩
        have kq : Kpt s1 _ := Kpt.trans (s1 := { s1 with alive := s1.alive + 2 }) ⟨Nat.le_refl _, fun _ _ => rfl, Nat.le_refl _, hs1.fu, rfl⟩ kd
        have gu := (g.up kq).wide (wE_120 (by omega) _)
        rw [add_len, add_len] at gu
        refine .inr (.inl ⟨rfl, by show s1.alive + 2 = _; omega, by show s1.alive + 2 ≤ 12; omega, by show s.nodes.length = _; omega, q1, q2, gv.symm, ?_, ?_⟩)
        · exact (congrArg Nd.k (kd.old (v.getD 0 0) (by show _ < s1.nodes.length; omega))).trans hd
        · have e : s.nodes.length - 1 + 2 = s.nodes.length + 1 + 1 - 1 := by omega
          rw [e]
          exact gu
    split at h
    · obtain ⟨v, s1, h1, h⟩ := PB_inr h
      have an2 : Alike s s.nxt.nxt := ⟨rfl, rfl, rfl, rfl⟩
      have g := (A.p0 (room - 1) [1] _ _ (an2.sok hs) h1 (by decide) (by decide) (by omega)).alike an2.symm (Alike.refl _)
      have hs1 := g.sok hs
      rw [okP_inr h]
      have ga : s1.alive = s.alive := g.al
      have gv : v.getD 0 0 + 1 = s1.nodes.length := g.ve
      have gl : s.nodes.length - 1 < v.getD 0 0 := g.sh.lt
      have ok2 : SOk { s1 with alive := s1.alive + 1 } := ⟨hs1.n1, hs1.fu, by show s1.alive + 1 ≤ 12; omega⟩
      have kd := Kpt.add ok2 ⟨1, v.getD 0 0, 0, 0, 0, 0, (curT T s).s, (curT T s).p⟩
      have kk := g.kp.trans (s2 := { s1 with alive := s1.alive + 1 }) ⟨Nat.le_refl _, fun _ _ => rfl, Nat.le_refl _, hs1.fu, rfl⟩
      have kq : Kpt s1 _ := Kpt.trans (s1 := { s1 with alive := s1.alive + 1 }) ⟨Nat.le_refl _, fun _ _ => rfl, Nat.le_refl _, hs1.fu, rfl⟩ kd
      refine StP.root hs kk (by show s1.alive + 1 ≤ 12; omega) rfl ⟨by show _ < s1.nodes.length; omega, by simp [PSt.add], .inr ⟨rfl, ?_⟩⟩
      exact .inl ⟨rfl, m1, by show s1.alive + 1 = _; omega, by show s1.alive + 1 ≤ 12; omega, .inr ⟨gv.symm, (g.up kq).wide (wE_120 (by omega) _)⟩⟩
    · rw [okP_inr h]
      have ok2 : SOk { s.nxt with alive := s.nxt.alive + 1 } := ⟨hs.n1, hs.fu, m2⟩
      refine StP.root hs ⟨Nat.le_refl _, fun _ _ => rfl, Nat.le_refl _, hs.fu, rfl⟩ m2 rfl ⟨by show _ < s.nodes.length; omega, by simp [PSt.add], .inr ⟨rfl, ?_⟩⟩
      exact .inl ⟨rfl, m1, rfl, m2, .inl ⟨rfl, by show s.nodes.length = _; omega, rfl⟩⟩
/-- the branch: condition, block, else -/
theorem if_root {s s1 s2 s3 : PSt} {v u z p : Nat} (hs : SOk s) (g : ExP s s1 120 v) (q : BlP s1 s2 s1.alive (decide (0 < s1.loops)) u)
    (hz : Kpt s2 s3 ∧ s3.alive = s2.alive ∧ ∀ s4, Kpt s3 s4 → ∃ l x, Chain s4.nodes z l ∧ SeqS (fun x lo a b al al' => Sh s4.nodes 0 x lo a b 120 al al' (decide (0 < s.loops))) l (s2.nodes.length - 1) (s3.nodes.length - 1) s2.funcs s3.funcs s2.alive x) :
    StP s (s3.add ⟨6, v, u, z, 0, 0, [], p⟩) s3.nodes.length ∧ (s3.add ⟨6, v, u, z, 0, 0, [], p⟩).alive = s.alive := by
  have n0 := hs.n1
  have hs1 := g.sok hs
  have hs2 := q.sok hs1
  obtain ⟨z1, z2, z3⟩ := hz
  have hs3 : SOk s3 := hs2.kp z1 (by rw [z2]; exact hs2.al)
  have ea : s3.alive = s.alive := by rw [z2, q.av, g.al]
  have e1 := g.kp.le
  have e2 := q.kp.le
  have e3 := z1.le
  have gv := g.ve
  have gl := g.sh.lt
  have kd := Kpt.add hs3 ⟨6, v, u, z, 0, 0, [], p⟩
  obtain ⟨l2, x2, c3, c4⟩ := z3 _ kd
  obtain ⟨l, x1, c1, c2⟩ := q.up hs1 (z1.trans kd)
  have gu := g.up (q.kp.trans (z1.trans kd))
  rw [show s1.nodes.length - 1 = v by omega, g.al, g.kp.lp] at c2
  rw [q.av, g.al] at c4
  refine ⟨StP.root hs (g.kp.trans (q.kp.trans z1)) hs3.al rfl ⟨by omega, by simp [PSt.add], .inr ⟨rfl, ?_⟩⟩, ea⟩
  exact .inr (.inr (.inr (.inr (.inr (.inl ⟨rfl, ea, _, l, _, _, l2, s3.nodes.length - 1, x1, x2, by omega, gu, c1, c2, c3, c4⟩)))))
theorem PA.s13 (A : PA T n) (room : Nat) (x : List Nat) (s : PSt) (r : List Nat × PSt) (hs : SOk s) (h : parN T (n + 1) 13 room x s = .inr r) (r1 : 1 ≤ room) (hr : room ≤ 12) : StP s r.2 (r.1.getD 0 0) ∧ r.2.alive = s.alive := by
  unfold parN at h
  simp (config := {decide := true}) only [if_true, if_false] at h
  have n0 := hs.n1
  have an := Alike.nxt s
  have hn := an.sok hs
  obtain ⟨v, s1, h1, h⟩ := PB_inr h
  have h := expectP_inr h
  obtain ⟨u, s2, h2, h⟩ := PB_inr h
  have g := ((A.p0 (room - 1) [1] _ _ hn h1 (by decide) (by decide) (by omega)).alike an.symm (Alike.nxt s1)).wide (wE_120 (by omega) _)
  have hs1 := g.sok hs
  have q := A.p9 (room - 1) [] _ _ hs1 h2 (by omega)
  have hs2 := q.sok hs1
  have el : s2.loops = s.loops := q.kp.lp.trans g.kp.lp
  split at h
  · obtain ⟨z, s3, h3, h⟩ := PB_inr h
    rw [okP_inr h]
    have hr0 : 1 ≤ room - 1 := by
      refine Decidable.byContradiction fun e => ?_
      have e : room - 1 = 0 := by omega
      rw [e] at h2
      cases n with
      | zero => cases h2
      | succ m =>
        unfold parN at h2
        simp (config := {decide := true}) only [if_true, if_false] at h2
        exact failP_inr h2
    obtain ⟨y, ya⟩ := A.p13 (room - 1) [] _ _ hs2 h3 hr0 (by omega)
    refine if_root hs g q ⟨y.kp, ya, fun s4 k4 => ⟨[z.getD 0 0], s3.alive, ⟨rfl, ?_, ?_⟩, ?_⟩⟩
    · have := y.sh.lt; intro e; rw [show ((z, s3) : List Nat × PSt).1 = z from rfl] at this; omega
    · have := y.ve
      rw [k4.old _ (by show _ < s3.nodes.length; simp only at this; omega)]
      exact y.nx
    · have yv : z.getD 0 0 + 1 = s3.nodes.length := y.ve
      have ys := y.sh
      rw [el] at ys
      exact ⟨s3.funcs, s3.alive, ys.kp k4 (by show z.getD 0 0 < s3.nodes.length; omega), by show s3.nodes.length - 1 = z.getD 0 0; omega, rfl, rfl⟩
  split at h
  · obtain ⟨z, s3, h3, h⟩ := PB_inr h
    have h := expectP_inr h
    rw [okP_inr h]
    have an2 := Alike.nxt s2
    have y := (A.p9 (room - 1) [] _ _ (an2.sok hs2) h3 (by omega)).alike an2.symm (Alike.nxt s3)
    refine if_root hs g q ⟨y.kp, y.av, fun s4 k4 => ?_⟩
    obtain ⟨l, al', c1, c2⟩ := y.up hs2 k4
    refine ⟨l, al', c1, ?_⟩
    have e : decide (0 < s2.nxt.loops) = decide (0 < s.loops) := by show decide (0 < s2.loops) = _; rw [el]
    rw [e] at c2
    exact c2
  · have h := expectP_inr h
    rw [okP_inr h]
    exact if_root (s3 := s2.nxt) (z := 0) hs g q ⟨(Kpt.refl hs2).alike (Alike.refl _) (Alike.nxt s2), rfl, fun s4 k4 => ⟨[], s2.alive, rfl, rfl, rfl, rfl⟩⟩
end
end Go.Proofs.Qxb6500574aGreatDoor
