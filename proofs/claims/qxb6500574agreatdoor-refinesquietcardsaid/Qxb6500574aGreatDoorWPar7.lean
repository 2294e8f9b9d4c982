/-
  moon: WHAT THE PARSER LAYS: the steps of the statements. Plain; no memory, no walk.
-/
import Derived.Test.Qxb6500574aGreatDoorWPar6
namespace Go.Proofs.Qxb6500574aGreatDoor
set_option linter.unusedVariables false
set_option linter.unusedSimpArgs false
theorem StP.root {s s1 : PSt} {d : Nd} (hs : SOk s) (k : Kpt s s1) (al : s1.alive ≤ 12) (nx : d.next = 0)
    (h : ShB (s1.add d).nodes (Sh (s1.add d).nodes) d 0 s1.nodes.length (s.nodes.length - 1) s.funcs s1.funcs 120 s.alive s1.alive (decide (0 < s.loops))) : StP s (s1.add d) s1.nodes.length := by
  have hs1 : SOk s1 := ⟨Nat.le_trans hs.n1 k.le, k.f12, al⟩
  refine ⟨k.trans (Kpt.add hs1 d), al, by simp [PSt.add], ?_, Sh.mk ?_⟩
  · simp only [PSt.add]; rw [getD_last]; exact nx
  · have : (s1.add d).nodes.getD s1.nodes.length nd0 = d := by simp only [PSt.add]; exact getD_last _ _
    rw [this]
    exact h
theorem wE_11 {room : Nat} (h : room ≤ 11) (k : Nat) : wE room k ≤ 110 := by
  unfold wE
  repeat' split
  all_goals omega
theorem add_len (s : PSt) (d : Nd) : (s.add d).nodes.length = s.nodes.length + 1 := by simp [PSt.add]
theorem BlP.sok {s s' : PSt} {al v : Nat} {lp : Bool} (hs : SOk s) (h : BlP s s' al lp v) : SOk s' := hs.kp h.kp (by rw [h.av]; exact hs.al)
section
variable {T : List Tok} {n : Nat}
theorem PA.s11 (A : PA T n) (room : Nat) (x : List Nat) (s : PSt) (r : List Nat × PSt) (hs : SOk s) (h : parN T (n + 1) 11 room x s = .inr r) (r1 : 1 ≤ room) (hr : room ≤ 12) : StP s r.2 (r.1.getD 0 0) := by
  unfold parN at h
  simp (config := {decide := true}) only [if_true, if_false] at h
  have an := Alike.nxt s
  have hn := an.sok hs
  have n0 := hs.n1
  split at h
  · exact (A.p12 _ _ _ _ hn h r1 hr).alike an.symm (Alike.refl _)
  split at h
  · exact (A.p13 _ _ _ _ hs h r1 hr).1
  split at h
  · exact (A.p14 _ _ _ _ hn h r1 hr).alike an.symm (Alike.refl _)
  split at h
  · obtain ⟨v, s1, h1, h⟩ := PB_inr h
    obtain ⟨u, s2, h2, h⟩ := PB_inr h
    have g := (A.p0 _ [1] _ _ hn h1 (by decide) (by decide) (by omega)).alike an.symm (Alike.refl _)
    have hs1 := g.sok hs
    have q := A.p15 room [0] _ _ hs1 (by show s1.alive + 0 ≤ 12; exact hs1.al) h2 r1 hr
    have hs2 := q.sok hs1
    rw [okP_inr h]
    have k := g.kp.trans q.kp
    have ea : s2.alive = s.alive := q.av.trans g.al
    have e1 : s.nodes.length ≤ s1.nodes.length := g.kp.le
    have e2 : s1.nodes.length ≤ s2.nodes.length := q.kp.le
    have gv : v.getD 0 0 + 1 = s1.nodes.length := g.ve
    refine StP.root hs k (by show s2.alive ≤ 12; rw [ea]; exact hs.al) rfl ⟨by show _ < s2.nodes.length; omega, by simp [PSt.add], .inr ⟨rfl, ?_⟩⟩
    obtain ⟨l, x1, c1, c2⟩ := q.up hs1 (Kpt.add hs2 ⟨7, v.getD 0 0, u.getD 0 0, 0, 0, 0, [], (curT T s).p⟩)
    have g1 := (g.up (q.kp.trans (Kpt.add hs2 ⟨7, v.getD 0 0, u.getD 0 0, 0, 0, 0, [], (curT T s).p⟩))).wide (Nat.le_trans (wE_11 (by omega) _) (by decide : 110 ≤ 120))
    rw [show s1.nodes.length - 1 = v.getD 0 0 by omega] at c2
    have ga : s1.alive = s.alive := g.al
    rw [show s1.alive + [0].getD 0 0 = s.alive by simp [ga]] at c2
    exact .inr (.inr (.inr (.inr (.inr (.inr (.inl ⟨rfl, ea, _, l, s2.nodes.length - 1, x1, by show s2.nodes.length = _; omega, g1, c1, c2⟩))))))
  split at h
  · split at h
    · exact (failP_inr h).elim
    · rw [okP_inr h]
      refine (StP.root hn (Kpt.refl hn) hn.al rfl ⟨by show _ < s.nodes.length; show s.nodes.length - 1 < _; omega, by simp [PSt.add], .inr ⟨rfl, ?_⟩⟩).alike an.symm (Alike.refl _)
      refine .inr (.inr (.inr (.inr (.inr (.inr (.inr (.inr (.inr (.inr ⟨rfl, rfl, by show s.nodes.length = s.nodes.length - 1 + 1; omega, rfl, ?_⟩)))))))))
      show decide (0 < s.loops) = true
      simp; omega
  split at h
  · exact (A.p16 _ _ _ _ hn h r1 hr).alike an.symm (Alike.refl _)
  obtain ⟨v, s1, h1, h⟩ := PB_inr h
  obtain ⟨r2, g⟩ := A.p3 (room - 1) [] _ _ hs h1 (by omega)
  have hs1 := g.sok hs
  have e1 : s.nodes.length ≤ s1.nodes.length := g.kp.le
  have gv : v.getD 0 0 + 1 = s1.nodes.length := g.ve
  have gl := g.sh.lt
  have ga : s1.alive = s.alive := g.al
  split at h
  · split at h
    · rename_i hd
      rw [okP_inr h]
      refine StP.root hs g.kp hs1.al rfl ⟨by show _ < s1.nodes.length; omega, by simp [PSt.add], .inr ⟨rfl, ?_⟩⟩
      have kd := Kpt.add hs1 ⟨5, v.getD 0 0, 0, 0, 0, 0, [], (s1.nodes.getD (v.getD 0 0) nd0).p⟩
      refine .inr (.inr (.inr (.inr (.inl ⟨rfl, ga, gv.symm, ?_, (g.up kd).wide (by omega)⟩))))
      exact (congrArg Nd.k (kd.old (v.getD 0 0) (by show _ < s1.nodes.length; omega))).trans hd
    · exact (failP_inr h).elim
  · split at h
    · exact (failP_inr h).elim
    · rename_i hd
      obtain ⟨u, s2, h2, h⟩ := PB_inr h
      have an1 := Alike.nxt s1
      have q := (A.p0 (room - 1) [1] _ _ (an1.sok hs1) h2 (by decide) (by decide) (by omega)).alike an1.symm (Alike.refl _)
      have hs2 := q.sok hs1
      have e2 : s1.nodes.length ≤ s2.nodes.length := q.kp.le
      have qv : u.getD 0 0 + 1 = s2.nodes.length := q.ve
      have qa : s2.alive = s1.alive := q.al
      rw [okP_inr h]
      refine StP.root hs (g.kp.trans q.kp) hs2.al rfl ⟨by show _ < s2.nodes.length; omega, by simp [PSt.add], .inr ⟨rfl, ?_⟩⟩
      have kd := Kpt.add hs2 ⟨4, v.getD 0 0, u.getD 0 0, 0, 0, 0, [], (curT T s1).p⟩
      have q2 := q.up kd
      rw [show s1.nodes.length - 1 = v.getD 0 0 by omega] at q2
      have ek : ((s2.add ⟨4, v.getD 0 0, u.getD 0 0, 0, 0, 0, [], (curT T s1).p⟩).nodes.getD (v.getD 0 0) nd0).k = (s1.nodes.getD (v.getD 0 0) nd0).k := congrArg Nd.k ((q.kp.trans kd).old (v.getD 0 0) (by omega))
      refine .inr (.inr (.inr (.inl ⟨rfl, qa.trans ga, qv.symm, ?_, _, (g.up (q.kp.trans kd)).wide (by omega), q2.wide (wE_11 (by omega) _)⟩)))
      rw [ek]
      omega
theorem PA.s16 (A : PA T n) (room : Nat) (x : List Nat) (s : PSt) (r : List Nat × PSt) (hs : SOk s) (h : parN T (n + 1) 16 room x s = .inr r) (r1 : 1 ≤ room) (hr : room ≤ 12) : StP s r.2 (r.1.getD 0 0) := by
  unfold parN at h
  simp (config := {decide := true}) only [if_true, if_false] at h
  have n0 := hs.n1
  split at h
  · rw [okP_inr h]
    refine StP.root hs (Kpt.refl hs) hs.al rfl ⟨by show _ < s.nodes.length; omega, by simp [PSt.add], .inr ⟨rfl, ?_⟩⟩
    exact .inr (.inr (.inr (.inr (.inr (.inr (.inr (.inr (.inr (.inl ⟨rfl, rfl, .inl ⟨rfl, rfl, by show s.nodes.length = _; omega, rfl⟩⟩)))))))))
  · obtain ⟨v, s1, h1, h⟩ := PB_inr h
    have g := A.p0 (room - 1) [1] _ _ hs h1 (by decide) (by decide) (by omega)
    have hs1 := g.sok hs
    have e1 : s.nodes.length ≤ s1.nodes.length := g.kp.le
    have gv : v.getD 0 0 + 1 = s1.nodes.length := g.ve
    have gl := g.sh.lt
    have ga : s1.alive = s.alive := g.al
    split at h
    · obtain ⟨u, s2, h2, h⟩ := PB_inr h
      have an1 := Alike.nxt s1
      have q := (A.p0 (room - 1) [1] _ _ (an1.sok hs1) h2 (by decide) (by decide) (by omega)).alike an1.symm (Alike.refl _)
      have hs2 := q.sok hs1
      have e2 : s1.nodes.length ≤ s2.nodes.length := q.kp.le
      have qv : u.getD 0 0 + 1 = s2.nodes.length := q.ve
      have qa : s2.alive = s1.alive := q.al
      rw [okP_inr h]
      refine StP.root hs (g.kp.trans q.kp) hs2.al rfl ⟨by show _ < s2.nodes.length; omega, by simp [PSt.add], .inr ⟨rfl, ?_⟩⟩
      have kd := Kpt.add hs2 ⟨10, v.getD 0 0, u.getD 0 0, 0, 0, 0, [], x.getD 0 0⟩
      have q2 := q.up kd
      rw [show s1.nodes.length - 1 = v.getD 0 0 by omega] at q2
      exact .inr (.inr (.inr (.inr (.inr (.inr (.inr (.inr (.inr (.inl ⟨rfl, qa.trans ga, .inr (.inr ⟨qv.symm, _, (g.up (q.kp.trans kd)).wide (Nat.le_trans (wE_11 (by omega) _) (by decide : 110 ≤ 120)), q2.wide (Nat.le_trans (wE_11 (by omega) _) (by decide : 110 ≤ 119))⟩)⟩)))))))))
    · rw [okP_inr h]
      refine StP.root hs g.kp hs1.al rfl ⟨by show _ < s1.nodes.length; omega, by simp [PSt.add], .inr ⟨rfl, ?_⟩⟩
      have kd := Kpt.add hs1 ⟨10, v.getD 0 0, 0, 0, 0, 0, [], x.getD 0 0⟩
      exact .inr (.inr (.inr (.inr (.inr (.inr (.inr (.inr (.inr (.inl ⟨rfl, ga, .inr (.inl ⟨rfl, gv.symm, (g.up kd).wide (Nat.le_trans (wE_11 (by omega) _) (by decide : 110 ≤ 120))⟩)⟩)))))))))
theorem PA.s15 (A : PA T n) (room : Nat) (x : List Nat) (s : PSt) (r : List Nat × PSt) (hs : SOk s) (ha : s.alive + x.getD 0 0 ≤ 12) (h : parN T (n + 1) 15 room x s = .inr r) (r1 : 1 ≤ room) (hr : room ≤ 12) : BlP s r.2 (s.alive + x.getD 0 0) true (r.1.getD 0 0) := by
  unfold parN at h
  simp (config := {decide := true}) only [if_true, if_false] at h
  have h := expectP_inr h
  obtain ⟨v, s1, h1, h⟩ := PB_inr h
  have h := expectP_inr h
  have ok : SOk { s.nxt with alive := s.nxt.alive + x.getD 0 0, loops := s.nxt.loops + 1 } := ⟨hs.n1, hs.fu, ha⟩
  have q := A.p9 (room - 1) [] _ _ ok h1 (by omega)
  cases h
  have qa : s1.alive = s.alive + x.getD 0 0 := q.av
  have ql : s1.loops = s.loops + 1 := q.kp.lp
  obtain ⟨l, al', c1, c2⟩ := q.ex
  refine ⟨⟨q.kp.1, q.kp.2, q.kp.3, q.kp.4, ?_⟩, ?_, l, al', c1, ?_⟩
  · show s1.loops - 1 = s.loops; omega
  · show s1.alive - x.getD 0 0 = s.alive; omega
  · have e : decide (0 < s.nxt.loops + 1) = true := by simp
    rw [e] at c2
    exact c2
end
end Go.Proofs.Qxb6500574aGreatDoor
