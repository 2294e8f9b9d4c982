/-
  moon: WHAT THE PARSER LAYS: the steps of prim, list, literal, params, block. Plain; no memory, no walk.
-/
import Derived.Test.Qxb6500574aGreatDoorWPar5
namespace Go.Proofs.Qxb6500574aGreatDoor
set_option linter.unusedVariables false
set_option linter.unusedSimpArgs false
section
variable {T : List Tok} {n : Nat}
theorem PA.s5 (A : PA T n) (ht : TOk T) (room : Nat) (x : List Nat) (s : PSt) (r : List Nat × PSt) (hs : SOk s) (h : parN T (n + 1) 5 room x s = .inr r) (r1 : 1 ≤ room) (hr : room ≤ 12) : ExP s r.2 (6 * room + 2) (r.1.getD 0 0) := by
  unfold parN at h
  simp (config := {decide := true}) only [if_true, if_false] at h
  have an := Alike.nxt s
  have hn := an.sok hs
  split at h
  · rename_i hk
    rw [okP_inr h]
    exact (ExP.leaf hn (by omega) rfl (.inr (.inl ⟨rfl, ht.nu _ hk⟩))).alike an.symm (Alike.refl _)
  split at h
  · rename_i hk
    rw [okP_inr h]
    exact (ExP.leaf hn (by omega) rfl (.inr (.inr (.inl ⟨rfl, ht.st _ hk⟩)))).alike an.symm (Alike.refl _)
  split at h
  · rename_i hk
    rw [okP_inr h]
    exact (ExP.leaf hn (by omega) rfl (.inr (.inr (.inr ⟨rfl, ht.nm _ hk⟩)))).alike an.symm (Alike.refl _)
  split at h
  · rw [okP_inr h]
    exact (ExP.leaf hn (by omega) rfl (.inl (.inl rfl))).alike an.symm (Alike.refl _)
  split at h
  · rw [okP_inr h]
    exact (ExP.leaf hn (by omega) rfl (.inl (.inr (.inl rfl)))).alike an.symm (Alike.refl _)
  split at h
  · rw [okP_inr h]
    exact (ExP.leaf hn (by omega) rfl (.inl (.inr (.inr rfl)))).alike an.symm (Alike.refl _)
  split at h
  · obtain ⟨v, s2, h1, h2⟩ := PB_inr h
    have h2 := expectP_inr h2
    have g := A.p0 _ [1] _ _ hn h1 (by decide) (by decide) (by omega)
    cases h2
    exact (g.alike an.symm (Alike.nxt s2)).wide (by simp [wE]; omega)
  split at h
  · split at h
    · exact (failP_inr h).elim
    · exact ((A.p7 _ _ _ _ hn (by show s.funcs < 12; omega) h r1 hr).1.alike an.symm (Alike.refl _)).wide (by omega)
  split at h
  · obtain ⟨v, s2, h1, h2⟩ := PB_inr h
    obtain ⟨l, g, gl⟩ := A.p6 (room - 1) [42, 0, 0, 0, 0] _ _ s.nxt [] hn (LiE.nil hn _) rfl rfl (by simp) h1 (by omega)
    have g := g.alike an.symm (Alike.refl _)
    rw [okP_inr h2]
    have hs2 := g.sok hs
    have k2 := Kpt.add hs2 ⟨21, v.getD 0 0, 0, 0, 0, 0, [], (curT T s).p⟩
    obtain ⟨u1, u2⟩ := g.up hs k2
    have e2 : s.nodes.length ≤ s2.nodes.length := g.kp.le
    have e3 := hs.n1
    refine ExP.root hs g.kp g.al rfl ⟨by omega, by simp [PSt.add], .inl ⟨rfl, ?_⟩⟩
    refine .inr (.inr (.inr (.inr (.inr (.inr (.inr (.inl ⟨rfl, by omega, l, s2.nodes.length - 1, by omega, u2, SeqE.wide (fun _ _ _ _ _ _ hw g => g.wide hw) ?_ u1⟩)))))))
    simp [wE]; omega
  exact (failP_inr h).elim
theorem PA.s6 (A : PA T n) (room : Nat) (x : List Nat) (s : PSt) (r : List Nat × PSt) (s0 : PSt) (l : List Nat) (hs : SOk s0) (hl : LiE s0 s (wE room 1) l (x.getD 3 0)) (x2 : x.getD 2 0 = l.length) (x4 : x.getD 4 0 = l.getLastD 0) (x1 : x.getD 1 0 ≠ 0 → l.length + 1 ≤ x.getD 1 0) (h : parN T (n + 1) 6 room x s = .inr r) (hr : room ≤ 12) : ∃ l', LiE s0 r.2 (wE room 1) l' (r.1.getD 0 0) ∧ (x.getD 1 0 ≠ 0 → l'.length + 1 ≤ x.getD 1 0) := by
  unfold parN at h
  simp (config := {decide := true}) only [if_true, if_false] at h
  split at h
  · cases h
    exact ⟨l, hl.alike (Alike.refl _) (Alike.nxt s), x1⟩
  · have key : ∀ t, Alike s t → (if x.getD 1 0 ≠ 0 ∧ x.getD 2 0 + 1 = x.getD 1 0 then failP T t 19 else PBd (parN T n 0 room [1] t) fun v s =>
          parN T n 6 room [x.getD 0 0, x.getD 1 0, x.getD 2 0 + 1, if x.getD 4 0 = 0 then v.getD 0 0 else x.getD 3 0, v.getD 0 0] (s.link (x.getD 4 0) (v.getD 0 0))) = .inr r → ∃ l', LiE s0 r.2 (wE room 1) l' (r.1.getD 0 0) ∧ (x.getD 1 0 ≠ 0 → l'.length + 1 ≤ x.getD 1 0) := by
      intro t ha h
      split at h
      · exact (failP_inr h).elim
      · rename_i hb
        obtain ⟨v, s2, h1, h2⟩ := PB_inr h
        have hl := hl.alike (Alike.refl _) ha
        have g := A.p0 _ [1] _ _ (hl.sok hs) h1 (by decide) (by decide) hr
        have q := hl.snoc hs x4 g
        have := A.p6 room [x.getD 0 0, x.getD 1 0, x.getD 2 0 + 1, if x.getD 4 0 = 0 then v.getD 0 0 else x.getD 3 0, v.getD 0 0] _ _ s0 (l ++ [v.getD 0 0]) hs q (by rw [List.length_append]; exact congrArg (· + 1) x2) (by simp) (fun e => by have e : x.getD 1 0 ≠ 0 := e; have := x1 e; rw [List.length_append]; show l.length + 1 + 1 ≤ x.getD 1 0; omega) h2 hr
        exact this
    split at h
    · exact key _ (Alike.nxt s) (expectP_inr h)
    · exact key _ (Alike.refl s) h
theorem LiN.nil {s : PSt} (hs : SOk s) : LiN s s [] 0 := ⟨Kpt.refl hs, rfl, rfl, rfl, rfl⟩
theorem LiN.sok {s s' : PSt} {v : Nat} {l : List Nat} (hs : SOk s) (h : LiN s s' l v) : SOk s' := hs.kp h.kp (by rw [h.al]; exact hs.al)
theorem PA.s8 (A : PA T n) (ht : TOk T) (room : Nat) (x : List Nat) (s : PSt) (r : List Nat × PSt) (s0 : PSt) (l : List Nat) (hs : SOk s0) (hl : LiN s0 s l (x.getD 1 0)) (x0 : x.getD 0 0 = l.length) (x2 : x.getD 2 0 = l.getLastD 0) (l3 : l.length ≤ 3) (h : parN T (n + 1) 8 room x s = .inr r) : ∃ l', LiN s0 r.2 l' (r.1.getD 0 0) ∧ r.1.getD 1 0 = l'.length ∧ l'.length ≤ 3 := by
  unfold parN at h
  simp (config := {decide := true}) only [if_true, if_false] at h
  split at h
  · cases h
    exact ⟨l, hl.alike (Alike.refl _) (Alike.nxt s), x0, l3⟩
  · have key : ∀ t, Alike s t → (if x.getD 0 0 = 3 then failP T t 19 else nameP T t 0 fun m s =>
          parN T n 8 room [x.getD 0 0 + 1, if x.getD 2 0 = 0 then s.nodes.length else x.getD 1 0, s.nodes.length] ((s.add ⟨17, 0, 0, 0, 0, 0, m.s, m.p⟩).link (x.getD 2 0) s.nodes.length)) = .inr r → ∃ l', LiN s0 r.2 l' (r.1.getD 0 0) ∧ r.1.getD 1 0 = l'.length ∧ l'.length ≤ 3 := by
      intro t ha h
      split at h
      · exact (failP_inr h).elim
      · rename_i hb
        obtain ⟨h1, h2, h3⟩ := nameP_inr ht h
        have hl := hl.alike (Alike.refl _) (t' := t.nxt) ⟨ha.1, ha.2, ha.3, ha.4⟩
        have q := hl.snoc (p := (curT T t).p) hs x2 h1
        exact A.p8 room [x.getD 0 0 + 1, if x.getD 2 0 = 0 then t.nxt.nodes.length else x.getD 1 0, t.nxt.nodes.length] _ _ s0 (l ++ [t.nxt.nodes.length]) hs q (by rw [List.length_append]; exact congrArg (· + 1) x0) (by simp) (by rw [List.length_append]; show l.length + 1 ≤ 3; omega) h3
    split at h
    · exact key _ (Alike.nxt s) (expectP_inr h)
    · exact key _ (Alike.refl s) h
theorem LiS.nil {s : PSt} (hs : SOk s) (lp : Bool) : LiS s s lp [] 0 := ⟨Kpt.refl hs, hs.al, ⟨rfl, rfl, rfl⟩, rfl⟩
theorem PA.s9 (A : PA T n) (room : Nat) (x : List Nat) (s : PSt) (r : List Nat × PSt) (hs : SOk s) (h : parN T (n + 1) 9 room x s = .inr r) (hr : room ≤ 12) : BlP s r.2 s.alive (decide (0 < s.loops)) (r.1.getD 0 0) := by
  unfold parN at h
  simp (config := {decide := true}) only [if_true, if_false] at h
  split at h
  · exact (failP_inr h).elim
  · obtain ⟨v, s2, h1, h2⟩ := PB_inr h
    obtain ⟨l, g⟩ := A.p10 room [0, 0, 0] _ _ s [] hs (LiS.nil hs _) rfl h1 (by omega) hr
    cases h2
    exact ⟨⟨g.kp.1, g.kp.2, g.kp.3, g.kp.4, g.kp.5⟩, rfl, l, s2.alive, g.ch, g.sq⟩
theorem PA.s10 (A : PA T n) (room : Nat) (x : List Nat) (s : PSt) (r : List Nat × PSt) (s0 : PSt) (l : List Nat) (hs : SOk s0) (hl : LiS s0 s (decide (0 < s0.loops)) l (x.getD 1 0)) (x2 : x.getD 2 0 = l.getLastD 0) (h : parN T (n + 1) 10 room x s = .inr r) (r1 : 1 ≤ room) (hr : room ≤ 12) : ∃ l', LiS s0 r.2 (decide (0 < s0.loops)) l' (r.1.getD 0 0) := by
  unfold parN at h
  simp (config := {decide := true}) only [if_true, if_false] at h
  split at h
  · cases h; exact ⟨l, hl⟩
  · split at h
    · exact (failP_inr h).elim
    · obtain ⟨v, s2, h1, h2⟩ := PB_inr h
      have g := A.p11 _ _ _ _ (hs.kp hl.kp hl.al) h1 r1 hr
      have q := hl.snoc hs (by rw [hl.kp.lp]) x2 g
      exact A.p10 room [if (s2.nodes.getD (v.getD 0 0) nd0).k = 10 ∨ (s2.nodes.getD (v.getD 0 0) nd0).k = 11 then 1 else 0, if x.getD 2 0 = 0 then v.getD 0 0 else x.getD 1 0, v.getD 0 0] _ _ s0 (l ++ [v.getD 0 0]) hs q (by simp) h2 r1 hr
/-- names in a grown arena -/
theorem LiN.up {s s1 s2 : PSt} {v : Nat} {l : List Nat} (hs : SOk s) (h : LiN s s1 l v) (k : Kpt s1 s2) : Names s2.nodes l (s.nodes.length - 1) (s1.nodes.length - 1) ∧ Chain s2.nodes v l := by
  have hin := h.nm.in_
  have := hs.n1
  have := h.kp.le
  exact ⟨h.nm.mono fun x hx => ⟨k.old x (by have := hin.2 x hx; omega), by have := hin.2 x hx; have := k.le; omega⟩, h.ch.mono fun x hx => k.old x (by have := hin.2 x hx; omega)⟩
/-- a block in a grown arena -/
theorem BlP.up {s s1 s2 : PSt} {al v : Nat} {lp : Bool} (hs : SOk s) (h : BlP s s1 al lp v) (k : Kpt s1 s2) : ∃ l al', Chain s2.nodes v l ∧ SeqS (fun x lo a b al al' => Sh s2.nodes 0 x lo a b 120 al al' lp) l (s.nodes.length - 1) (s1.nodes.length - 1) s.funcs s1.funcs al al' := by
  obtain ⟨l, al', h1, h2⟩ := h.ex
  have hin := SeqS.in_ Sh.ltS h2
  have := hs.n1
  have := h.kp.le
  exact ⟨l, al', h1.mono fun x hx => k.old x (by have := hin.2 x hx; omega), SeqS.impIn (L := 0) (H := s1.nodes.length - 1) Sh.ltS (fun x lo a b al al' _ hx g => g.kp k (by omega)) (Nat.zero_le _) (Nat.le_refl _) h2⟩
theorem PA.s7 (A : PA T n) (room : Nat) (x : List Nat) (s : PSt) (r : List Nat × PSt) (hs : SOk s) (hf : s.funcs < 12) (h : parN T (n + 1) 7 room x s = .inr r) (r1 : 1 ≤ room) (hr : room ≤ 12) : ExP s r.2 2 (r.1.getD 0 0) ∧ (r.2.nodes.getD (r.1.getD 0 0) nd0).k = 20 := by
  unfold parN at h
  simp (config := {decide := true}) only [if_true, if_false] at h
  have h := expectP_inr h
  obtain ⟨v, s1, h1, h⟩ := PB_inr h
  obtain ⟨u, s2, h2, h⟩ := PB_inr h
  have h3 := expectP_inr h
  have ok1 : SOk { s.nxt with funcs := s.nxt.funcs + 1 } := ⟨hs.n1, hf, hs.al⟩
  obtain ⟨l, g, gl, g3⟩ := A.p8 room [0, 0, 0] _ _ { s.nxt with funcs := s.nxt.funcs + 1 } [] ok1 (LiN.nil ok1) rfl rfl (by simp) h1
  have gl : v.getD 1 0 = l.length := gl
  have ok2 : SOk { s1 with alive := v.getD 1 0, loops := 0 } := ⟨(g.sok ok1).n1, (g.sok ok1).fu, by show v.getD 1 0 ≤ 12; omega⟩
  have q := A.p9 (room - 1) [] _ _ ok2 h2 (by omega)
  rw [okP_inr h3]
  simp only [List.getD_cons_zero]
  have e1 : s.nodes.length ≤ s1.nodes.length := g.kp.le
  have e2 : s1.nodes.length ≤ s2.nodes.length := q.kp.le
  have e3 := hs.n1
  have f1 : s1.funcs = s.funcs + 1 := g.fu
  have f2 : s1.funcs ≤ s2.funcs := q.kp.fu
  have f3 : s2.funcs ≤ 12 := q.kp.f12
  have k12 : Kpt s { s2.nxt with alive := s.nxt.alive, loops := s.nxt.loops } := ⟨Nat.le_trans e1 e2, fun x hx => (q.kp.old x (Nat.lt_of_lt_of_le hx e1)).trans (g.kp.old x hx), by show s.funcs ≤ s2.funcs; omega, f3, rfl⟩
  refine ⟨ExP.root hs k12 rfl rfl ⟨by show _ < s2.nodes.length; omega, by simp [PSt.add], .inl ⟨rfl, ?_⟩⟩, by simp [PSt.add]⟩
  have kd := Kpt.add (s := { s2.nxt with alive := s.nxt.alive, loops := s.nxt.loops }) ⟨by show 1 ≤ s2.nodes.length; omega, f3, hs.al⟩ ⟨20, v.getD 0 0, u.getD 0 0, 0, 0, s.nxt.funcs + 1, [], x.getD 0 0⟩
  have k2d : Kpt { s1 with alive := v.getD 1 0, loops := 0 } { ({ s2.nxt with alive := s.nxt.alive, loops := s.nxt.loops } : PSt).add ⟨20, v.getD 0 0, u.getD 0 0, 0, 0, s.nxt.funcs + 1, [], x.getD 0 0⟩ with loops := 0 } := ⟨Nat.le_trans e2 kd.le, fun x hx => (kd.old x (Nat.lt_of_lt_of_le hx e2)).trans (q.kp.old x hx), f2, f3, rfl⟩
  obtain ⟨n1, n2⟩ := g.up ok1 (s2 := { ({ s2.nxt with alive := s.nxt.alive, loops := s.nxt.loops } : PSt).add ⟨20, v.getD 0 0, u.getD 0 0, 0, 0, s.nxt.funcs + 1, [], x.getD 0 0⟩ with loops := s1.loops }) ⟨k2d.1, k2d.2, k2d.3, k2d.4, rfl⟩
  obtain ⟨l2, al2, c1, c2⟩ := q.up ok2 (s2 := { ({ s2.nxt with alive := s.nxt.alive, loops := s.nxt.loops } : PSt).add ⟨20, v.getD 0 0, u.getD 0 0, 0, 0, s.nxt.funcs + 1, [], x.getD 0 0⟩ with loops := s2.loops }) ⟨kd.1, kd.2, kd.3, kd.4, rfl⟩
  refine .inr (.inr (.inr (.inr (.inr (.inr (.inl ⟨rfl, by omega, rfl, hf, l, s1.nodes.length - 1, l2, s2.nodes.length - 1, al2, ?_, n2, g3, n1, c1, ?_⟩))))))
  · show s2.nodes.length = _; omega
  · have c2 : SeqS _ l2 (s1.nodes.length - 1) (s2.nodes.length - 1) s1.funcs s2.funcs (v.getD 1 0) al2 := c2
    rw [f1, gl] at c2
    exact c2
end
end Go.Proofs.Qxb6500574aGreatDoor
