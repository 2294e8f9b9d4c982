/-
  moon: WHAT THE PARSER LAYS: the steps. Plain; no memory, no walk.
-/
import Derived.Test.Qxb6500574aGreatDoorWPar4
namespace Go.Proofs.Qxb6500574aGreatDoor
set_option linter.unusedVariables false
set_option linter.unusedSimpArgs false
theorem PB_inr {r : PR} {f : List Nat → PSt → PR} {x : List Nat × PSt} (h : PBd r f = .inr x) : ∃ v s, r = .inr (v, s) ∧ f v s = .inr x := by
  cases r with
  | inl e => cases h
  | inr y => exact ⟨y.1, y.2, rfl, h⟩
theorem failP_inr {T : List Tok} {s : PSt} {e : Nat} {x : List Nat × PSt} (h : failP T s e = .inr x) : False := by cases h
theorem expectP_inr {T : List Tok} {s : PSt} {k : Nat} {f : PSt → PR} {x : List Nat × PSt} (h : expectP T s k f = .inr x) : f s.nxt = .inr x := by
  unfold expectP at h
  split at h
  · exact h
  · exact (failP_inr h).elim
theorem nameP_inr {T : List Tok} (ht : TOk T) {s : PSt} {e : Nat} {f : Tok → PSt → PR} {x : List Nat × PSt} (h : nameP T s e f = .inr x) : nmOk (curT T s).s ∧ (0 < e → s.alive + e ≤ 12) ∧ f (curT T s) s.nxt = .inr x := by
  unfold nameP at h
  split at h
  · exact (failP_inr h).elim
  · split at h
    · exact (failP_inr h).elim
    · exact ⟨ht.nm s.i (by simp only [curT] at *; omega), by omega, h⟩
theorem okP_inr {s : PSt} {d : Nd} {x : List Nat × PSt} (h : okP s d = .inr x) : x = ([s.nodes.length], s.add d) := by cases h; rfl
/-- states that differ in the place of reading only -/
structure Alike (s t : PSt) : Prop where
  n : t.nodes = s.nodes
  f : t.funcs = s.funcs
  l : t.loops = s.loops
  a : t.alive = s.alive
theorem Alike.nxt (s : PSt) : Alike s s.nxt := ⟨rfl, rfl, rfl, rfl⟩
theorem Kpt.alike {s t s' t' : PSt} (a : Alike s t) (b : Alike s' t') (h : Kpt s s') : Kpt t t' := by
  obtain ⟨a1, a2, a3, a4⟩ := a
  obtain ⟨b1, b2, b3, b4⟩ := b
  obtain ⟨h1, h2, h3, h4, h5⟩ := h
  constructor <;> simp only [a1, a2, a3, b1, b2, b3] <;> assumption
theorem Alike.refl (s : PSt) : Alike s s := ⟨rfl, rfl, rfl, rfl⟩
theorem Alike.symm {s t : PSt} (h : Alike s t) : Alike t s := ⟨h.1.symm, h.2.symm, h.3.symm, h.4.symm⟩
theorem Alike.sok {s t : PSt} (h : Alike s t) (g : SOk s) : SOk t := ⟨by rw [h.n]; exact g.1, by rw [h.f]; exact g.2, by rw [h.a]; exact g.3⟩
theorem ExP.alike {s t s' t' : PSt} {w v : Nat} (a : Alike s t) (b : Alike s' t') (h : ExP s s' w v) : ExP t t' w v := by
  obtain ⟨h1, h2, h3, h4, h5⟩ := h
  refine ⟨h1.alike a b, by rw [a.a, b.a]; exact h2, by rw [b.n]; exact h3, by rw [b.n]; exact h4, by rw [b.n, a.n, a.f, b.f]; exact h5⟩
theorem StP.alike {s t s' t' : PSt} {v : Nat} (a : Alike s t) (b : Alike s' t') (h : StP s s' v) : StP t t' v := by
  obtain ⟨h1, h2, h3, h4, h5⟩ := h
  refine ⟨h1.alike a b, by rw [b.a]; exact h2, by rw [b.n]; exact h3, by rw [b.n]; exact h4, by rw [b.n, a.n, a.f, b.f, a.a, b.a, a.l]; exact h5⟩
theorem LiE.alike {s t s' t' : PSt} {w v : Nat} {l : List Nat} (a : Alike s t) (b : Alike s' t') (h : LiE s s' w l v) : LiE t t' w l v := by
  obtain ⟨h1, h2, h3, h4⟩ := h
  refine ⟨h1.alike a b, by rw [a.a, b.a]; exact h2, by rw [b.n, a.n, a.f, b.f]; exact h3, by rw [b.n]; exact h4⟩
theorem LiN.alike {s t s' t' : PSt} {v : Nat} {l : List Nat} (a : Alike s t) (b : Alike s' t') (h : LiN s s' l v) : LiN t t' l v := by
  obtain ⟨h1, h2, h3, h4, h5⟩ := h
  refine ⟨h1.alike a b, by rw [a.a, b.a]; exact h2, by rw [a.f, b.f]; exact h3, by rw [b.n, a.n]; exact h4, by rw [b.n]; exact h5⟩
theorem LiS.alike {s t s' t' : PSt} {v : Nat} {lp : Bool} {l : List Nat} (a : Alike s t) (b : Alike s' t') (h : LiS s s' lp l v) : LiS t t' lp l v := by
  obtain ⟨h1, h2, h3, h4⟩ := h
  refine ⟨h1.alike a b, by rw [b.a]; exact h2, by rw [b.n, a.n, a.f, b.f, a.a, b.a]; exact h3, by rw [b.n]; exact h4⟩
theorem BlP.alike {s t s' t' : PSt} {al v : Nat} {lp : Bool} (a : Alike s t) (b : Alike s' t') (h : BlP s s' al lp v) : BlP t t' al lp v := by
  obtain ⟨h1, h2, h3⟩ := h
  refine ⟨h1.alike a b, by rw [a.a, b.a]; exact h2, by rw [b.n, a.n, a.f, b.f]; exact h3⟩
theorem ExP.sok {s s' : PSt} {w v : Nat} (hs : SOk s) (h : ExP s s' w v) : SOk s' := hs.kp h.kp (by rw [h.al]; exact hs.al)
theorem ExP.wide {s s' : PSt} {w w' v : Nat} (h : ExP s s' w v) (hw : w ≤ w') : ExP s s' w' v := ⟨h.kp, h.al, h.ve, h.nx, h.sh.wide hw⟩
theorem Kpt.refl {s : PSt} (h : SOk s) : Kpt s s := ⟨Nat.le_refl _, fun _ _ => rfl, Nat.le_refl _, h.fu, rfl⟩
/-- a leaf -/
theorem ExP.leaf {s : PSt} (hs : SOk s) {d : Nd} {w : Nat} (hw : 1 ≤ w) (nx : d.next = 0) (h : (d.k = 12 ∨ d.k = 13 ∨ d.k = 14) ∨ (d.k = 15 ∧ d.n < 18446744073709551616 ∧ isNan d.n = false) ∨ (d.k = 16 ∧ d.s.length ≤ 40) ∨ (d.k = 17 ∧ nmOk d.s)) : ExP s (s.add d) w s.nodes.length := by
  have h1 := hs.n1
  refine ExP.root hs (Kpt.refl hs) rfl nx ⟨by omega, by simp [PSt.add], .inl ⟨rfl, ?_⟩⟩
  rcases h with h | ⟨h, g1, g2⟩ | ⟨h, g⟩ | ⟨h, g⟩
  · exact .inl ⟨h, by omega, rfl, hw⟩
  · exact .inr (.inl ⟨h, by omega, rfl, hw, g1, g2⟩)
  · exact .inr (.inr (.inl ⟨h, by omega, rfl, hw, g⟩))
  · exact .inr (.inr (.inr (.inl ⟨h, by omega, rfl, hw, g⟩)))
/-- what was laid first, in the arena with one node more -/
theorem ExP.up {s s1 s2 : PSt} {w v : Nat} (h : ExP s s1 w v) (k : Kpt s1 s2) : Sh s2.nodes 1 v (s.nodes.length - 1) s.funcs s1.funcs w 0 0 false := h.sh.kp k (by have := h.ve; omega)
/-- two expressions and their root -/
theorem ExP.bin {s s1 s2 : PSt} {d : Nd} {w w2 v u : Nat} (hs : SOk s) (h1 : ExP s s1 w v) (h2 : ExP s1 s2 w2 u) (nx : d.next = 0) (ha : d.a = v) (hb : d.b = u)
    (h : ((d.k = 18 ∨ (d.k = 22 ∧ opB d.n)) ∧ 2 ≤ w ∧ w2 ≤ w - 1) ∨ ((d.k = 24 ∨ d.k = 25) ∧ w2 ≤ w)) : ExP s (s2.add d) w s2.nodes.length := by
  have hs1 := h1.sok hs
  have hs2 := h2.sok hs1
  have k2 := Kpt.add hs2 d
  have g1 := h1.up (h2.kp.trans k2)
  have g2 := h2.up k2
  have e1 := h1.ve
  have e2 := h2.ve
  have n0 := hs.n1
  have n1 := h1.kp.le
  have n2 := h2.kp.le
  subst ha hb
  rw [show s1.nodes.length - 1 = d.a by omega] at g2
  refine ExP.root hs (h1.kp.trans h2.kp) (by rw [h2.al, h1.al]) nx ⟨by have := h1.sh.lt; omega, by simp [PSt.add], .inl ⟨rfl, ?_⟩⟩
  rcases h with ⟨h, w1, w2⟩ | ⟨h, w2⟩
  · rcases h with h | ⟨h, ho⟩
    · exact .inr (.inr (.inr (.inr (.inl ⟨h, w1, by omega, _, g1, g2.wide w2⟩))))
    · exact .inr (.inr (.inr (.inr (.inr (.inr (.inr (.inr (.inl ⟨h, w1, ho, by omega, _, g1, g2.wide w2⟩))))))))
  · exact .inr (.inr (.inr (.inr (.inr (.inr (.inr (.inr (.inr (.inr ⟨h, by omega, _, g1, g2.wide w2⟩)))))))))
theorem bindL_ok : ∀ j, j < 15 → (((bindL.getD j (0, 0, 0)).2.1 = 25 ∧ (bindL.getD j (0, 0, 0)).1 = 1) ∨ ((bindL.getD j (0, 0, 0)).2.1 = 24 ∧ (bindL.getD j (0, 0, 0)).1 = 2) ∨ ((bindL.getD j (0, 0, 0)).2.1 = 22 ∧ ((1 ≤ (bindL.getD j (0, 0, 0)).2.2 ∧ (bindL.getD j (0, 0, 0)).2.2 ≤ 6) ∨ (11 ≤ (bindL.getD j (0, 0, 0)).2.2 ∧ (bindL.getD j (0, 0, 0)).2.2 ≤ 16) ∨ (bindL.getD j (0, 0, 0)).2.2 = 20) ∧ 3 ≤ (bindL.getD j (0, 0, 0)).1 ∧ (bindL.getD j (0, 0, 0)).1 ≤ 6)) := by decide
section
variable {T : List Tok} {n : Nat}
theorem PA.s0 (A : PA T n) (room : Nat) (x : List Nat) (s : PSt) (r : List Nat × PSt) (hs : SOk s) (h : parN T (n + 1) 0 room x s = .inr r) (x1 : 1 ≤ x.getD 0 0) (x7 : x.getD 0 0 ≤ 7) (hr : room ≤ 12) : ExP s r.2 (wE room (x.getD 0 0)) (r.1.getD 0 0) := by
  unfold parN at h
  simp (config := {decide := true}) only [if_true, if_false] at h
  obtain ⟨v, s1, h1, h2⟩ := PB_inr h
  obtain ⟨r1, g⟩ := A.p2 _ _ _ _ hs h1 hr
  exact A.p1 _ [x.getD 0 0, v.getD 0 0] _ _ s hs (g.wide (by unfold wE; omega)) h2 x1 x7 r1 hr
theorem PA.s1 (A : PA T n) (room : Nat) (x : List Nat) (s : PSt) (r : List Nat × PSt) (s0 : PSt) (hs : SOk s0) (he : ExP s0 s (wE room (x.getD 0 0)) (x.getD 1 0)) (h : parN T (n + 1) 1 room x s = .inr r) (x1 : 1 ≤ x.getD 0 0) (x7 : x.getD 0 0 ≤ 7) (r1 : 1 ≤ room) (hr : room ≤ 12) : ExP s0 r.2 (wE room (x.getD 0 0)) (r.1.getD 0 0) := by
  unfold parN at h
  simp (config := {decide := true}) only [if_true, if_false] at h
  split at h
  · cases h; exact he
  · rename_i hk
    split at h
    · cases h; exact he
    · rename_i hb
      obtain ⟨v, s2, h1, h2⟩ := PB_inr h
      have hs1 := he.sok hs
      have hbl := bindL_ok ((curT T s).k - 22) (by omega)
      generalize bindL.getD ((curT T s).k - 22) (0, 0, 0) = B at *
      have hw : ∃ w2, ExP s s2 w2 (v.getD 0 0) ∧ (((B.2.1 = 18 ∨ (B.2.1 = 22 ∧ opB B.2.2)) ∧ 2 ≤ wE room (x.getD 0 0) ∧ w2 ≤ wE room (x.getD 0 0) - 1) ∨ ((B.2.1 = 24 ∨ B.2.1 = 25) ∧ w2 ≤ wE room (x.getD 0 0))) := by
        split at h1
        · rename_i h4
          have g := A.p0 _ [4] _ _ ((Alike.nxt s).sok hs1) h1 (by decide) (by decide) (by omega)
          refine ⟨_, g.alike (Alike.nxt s).symm (Alike.refl _), .inl ⟨.inr ⟨by omega, by unfold opB; omega⟩, by unfold wE; omega, ?_⟩⟩
          simp only [List.getD_cons_zero]
          unfold wE
          repeat' split
          all_goals omega
        · rename_i h4
          have g := A.p0 _ [B.1 + 1] _ _ ((Alike.nxt s).sok hs1) h1 (by simp) (by simp; omega) hr
          refine ⟨_, g.alike (Alike.nxt s).symm (Alike.refl _), ?_⟩
          simp only [List.getD_cons_zero]
          rcases hbl with ⟨e1, e2⟩ | ⟨e1, e2⟩ | ⟨e1, e2, e3, e4⟩
          · refine .inr ⟨.inr e1, ?_⟩
            unfold wE; repeat' split
            all_goals omega
          · refine .inr ⟨.inl e1, ?_⟩
            unfold wE; repeat' split
            all_goals omega
          · refine .inl ⟨.inr ⟨e1, e2⟩, by unfold wE; omega, ?_⟩
            unfold wE; repeat' split
            all_goals omega
      obtain ⟨w2, g, gw⟩ := hw
      exact A.p1 _ [x.getD 0 0, s2.nodes.length] _ _ s0 hs (he.bin hs g rfl rfl rfl gw) h2 x1 x7 r1 hr
theorem PA.s2 (A : PA T n) (room : Nat) (x : List Nat) (s : PSt) (r : List Nat × PSt) (hs : SOk s) (h : parN T (n + 1) 2 room x s = .inr r) (hr : room ≤ 12) : 1 ≤ room ∧ ExP s r.2 (6 * room + 2) (r.1.getD 0 0) := by
  unfold parN at h
  simp (config := {decide := true}) only [if_true, if_false] at h
  split at h
  · exact (failP_inr h).elim
  · rename_i h0
    refine ⟨by omega, ?_⟩
    split at h
    · rename_i hk
      obtain ⟨v, s2, h1, h2⟩ := PB_inr h
      obtain ⟨_, g⟩ := A.p2 _ _ _ _ ((Alike.nxt s).sok hs) h1 (by omega)
      have g := g.alike (Alike.nxt s).symm (Alike.refl _)
      have hs2 := g.sok hs
      rw [okP_inr h2]
      refine ExP.root hs g.kp g.al rfl ⟨by have := g.sh.lt; have := g.ve; simp only at *; omega, by simp [PSt.add], .inl ⟨rfl, ?_⟩⟩
      refine .inr (.inr (.inr (.inr (.inr (.inr (.inr (.inr (.inr (.inl ⟨rfl, ?_, g.ve.symm, (g.up (Kpt.add hs2 _)).wide (by omega)⟩)))))))))
      simp only
      split
      · decide
      · split <;> decide
    · exact (A.p3 _ _ _ _ hs h hr).2
theorem PA.s3 (A : PA T n) (room : Nat) (x : List Nat) (s : PSt) (r : List Nat × PSt) (hs : SOk s) (h : parN T (n + 1) 3 room x s = .inr r) (hr : room ≤ 12) : 1 ≤ room ∧ ExP s r.2 (6 * room + 2) (r.1.getD 0 0) := by
  unfold parN at h
  simp (config := {decide := true}) only [if_true, if_false] at h
  split at h
  · exact (failP_inr h).elim
  · rename_i h0
    refine ⟨by omega, ?_⟩
    obtain ⟨v, s2, h1, h2⟩ := PB_inr h
    have g := A.p5 _ _ _ _ hs h1 (by omega) hr
    exact A.p4 _ [v.getD 0 0] _ _ s hs g h2 (by omega) hr
theorem LiE.nil {s : PSt} (hs : SOk s) (w : Nat) : LiE s s w [] 0 := ⟨Kpt.refl hs, rfl, ⟨rfl, rfl⟩, rfl⟩
theorem LiE.sok {s s' : PSt} {w v : Nat} {l : List Nat} (hs : SOk s) (h : LiE s s' w l v) : SOk s' := hs.kp h.kp (by rw [h.al]; exact hs.al)
/-- a list in the arena with one node more -/
theorem LiE.up {s s1 s2 : PSt} {w v : Nat} {l : List Nat} (hs : SOk s) (h : LiE s s1 w l v) (k : Kpt s1 s2) : SeqE (fun x lo a b w => Sh s2.nodes 1 x lo a b w 0 0 false) 0 l (s.nodes.length - 1) (s1.nodes.length - 1) s.funcs s1.funcs w ∧ Chain s2.nodes v l := by
  have hin := SeqE.in_ Sh.ltE h.sq
  have := hs.n1
  have := h.kp.le
  exact ⟨SeqE.impIn (L := 0) (H := s1.nodes.length - 1) Sh.ltE (fun x lo a b w _ hx g => g.kp k (by omega)) (Nat.zero_le _) (Nat.le_refl _) h.sq, h.ch.mono fun x hx => k.old x (by have := hin.2 x hx; omega)⟩
theorem PA.s4 (A : PA T n) (ht : TOk T) (room : Nat) (x : List Nat) (s : PSt) (r : List Nat × PSt) (s0 : PSt) (hs : SOk s0) (he : ExP s0 s (6 * room + 2) (x.getD 0 0)) (h : parN T (n + 1) 4 room x s = .inr r) (r1 : 1 ≤ room) (hr : room ≤ 12) : ExP s0 r.2 (6 * room + 2) (r.1.getD 0 0) := by
  unfold parN at h
  simp (config := {decide := true}) only [if_true, if_false] at h
  have hs1 := he.sok hs
  split at h
  · obtain ⟨n1, n2, h1⟩ := nameP_inr ht h
    have e1 : Alike s s.nxt.nxt := ⟨rfl, rfl, rfl, rfl⟩
    have g := ExP.leaf (d := ⟨16, 0, 0, 0, 0, 0, (curT T s.nxt).s, (curT T s.nxt).p⟩) (w := 6 * room + 1) (e1.sok hs1) (by omega) rfl (.inr (.inr (.inl ⟨rfl, n1.2⟩)))
    have g := g.alike e1.symm (Alike.refl _)
    refine A.p4 _ [s.nodes.length + 1] _ _ s0 hs ?_ h1 r1 hr
    have q := ExP.bin (d := ⟨18, x.getD 0 0, s.nodes.length, 0, 0, 0, [], (curT T s).p⟩) hs he g rfl rfl rfl (.inl ⟨.inl rfl, by omega, by omega⟩)
    have hl : (s.nxt.nxt.add ⟨16, 0, 0, 0, 0, 0, (curT T s.nxt).s, (curT T s.nxt).p⟩).nodes.length = s.nodes.length + 1 := by simp [PSt.add, PSt.nxt]
    rw [hl] at q
    exact q
  · split at h
    · obtain ⟨v, s2, h1, h2⟩ := PB_inr h
      have h2 := expectP_inr h2
      have g := A.p0 _ [1] _ _ ((Alike.nxt s).sok hs1) h1 (by decide) (by decide) (by omega)
      have g := g.alike (Alike.nxt s).symm (Alike.nxt s2)
      refine A.p4 _ [s2.nodes.length] _ _ s0 hs ?_ h2 r1 hr
      exact ExP.bin hs he g rfl rfl rfl (.inl ⟨.inl rfl, by omega, by simp [wE]; omega⟩)
    · split at h
      · obtain ⟨v, s2, h1, h2⟩ := PB_inr h
        obtain ⟨l, g, gl⟩ := A.p6 (room - 1) [40, 4, 0, 0, 0] _ _ s.nxt [] ((Alike.nxt s).sok hs1) (LiE.nil ((Alike.nxt s).sok hs1) _) rfl rfl (by simp) h1 (by omega)
        have g := g.alike (Alike.nxt s).symm (Alike.refl _)
        have gl : l.length ≤ 3 := by have := gl (by simp); simp at this; omega
        refine A.p4 _ [s2.nodes.length] _ _ s0 hs ?_ h2 r1 hr
        have hs2 := g.sok hs1
        have k2 := Kpt.add hs2 ⟨19, x.getD 0 0, v.getD 0 0, 0, 0, 0, [], (curT T s).p⟩
        obtain ⟨u1, u2⟩ := g.up hs1 k2
        have u3 := he.up (g.kp.trans k2)
        have e1 := he.ve
        have e2 : s.nodes.length ≤ s2.nodes.length := g.kp.le
        have e3 := hs1.n1
        rw [show s.nodes.length - 1 = x.getD 0 0 by omega] at u1
        refine ExP.root hs (he.kp.trans g.kp) (by rw [g.al, he.al]) rfl ⟨by have := he.sh.lt; omega, by simp [PSt.add], .inl ⟨rfl, ?_⟩⟩
        refine .inr (.inr (.inr (.inr (.inr (.inl ⟨rfl, by omega, l, s2.nodes.length - 1, _, by omega, u3, u2, gl, SeqE.dec1 (fun _ _ _ _ _ _ hw g => g.wide hw) ?_ u1⟩)))))
        simp [wE]; omega
      · cases h; exact he
end
end Go.Proofs.Qxb6500574aGreatDoor
