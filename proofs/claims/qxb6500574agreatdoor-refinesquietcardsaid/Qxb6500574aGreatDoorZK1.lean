/-
  moon: THE ARENA's LINKS AND ITS SIZE, as the model reads. Plain; no memory, no walk.
-/
import Derived.Test.Qxb6500574aGreatDoorWNk3
import Derived.Test.Qxb6500574aGreatDoorZP1
namespace Go.Proofs.Qxb6500574aGreatDoor
set_option linter.unusedVariables false
set_option linter.unusedSimpArgs false
structure NM (T : List Tok) (n : Nat) : Prop where
  p0 : ∀ {room x s v s'}, NK s.nodes → parM T n 0 room x s = .inr (v, s') → NR s s' (qC s' (v.getD 0 0)) ∧ s.nodes.length ≤ v.getD 0 0 ∧ v.getD 0 0 < s'.nodes.length
  p1 : ∀ {room x s v s'}, NK s.nodes → x.getD 1 0 < s.nodes.length → parM T n 1 room x s = .inr (v, s') → NR s s' (qC s' (v.getD 0 0) - qC s (x.getD 1 0)) ∧ x.getD 1 0 ≤ v.getD 0 0 ∧ v.getD 0 0 < s'.nodes.length
  p2 : ∀ {room x s v s'}, NK s.nodes → parM T n 2 room x s = .inr (v, s') → NR s s' (qC s' (v.getD 0 0)) ∧ s.nodes.length ≤ v.getD 0 0 ∧ v.getD 0 0 < s'.nodes.length
  p3 : ∀ {room x s v s'}, NK s.nodes → parM T n 3 room x s = .inr (v, s') → NR s s' (qC s' (v.getD 0 0)) ∧ s.nodes.length ≤ v.getD 0 0 ∧ v.getD 0 0 < s'.nodes.length
  p4 : ∀ {room x s v s'}, NK s.nodes → x.getD 0 0 < s.nodes.length → parM T n 4 room x s = .inr (v, s') → NR s s' (qC s' (v.getD 0 0) - qC s (x.getD 0 0)) ∧ x.getD 0 0 ≤ v.getD 0 0 ∧ v.getD 0 0 < s'.nodes.length
  p5 : ∀ {room x s v s'}, NK s.nodes → parM T n 5 room x s = .inr (v, s') → NR s s' (qC s' (v.getD 0 0)) ∧ s.nodes.length ≤ v.getD 0 0 ∧ v.getD 0 0 < s'.nodes.length
  p6 : ∀ {room x s v s'}, NK s.nodes → x.getD 3 0 < s.nodes.length → x.getD 4 0 < s.nodes.length → parM T n 6 room x s = .inr (v, s') → NR s s' 1 ∧ v.getD 0 0 < s'.nodes.length
  p7 : ∀ {room x s v s'}, NK s.nodes → parM T n 7 room x s = .inr (v, s') → NR s s' 0 ∧ s.nodes.length ≤ v.getD 0 0 ∧ v.getD 0 0 < s'.nodes.length ∧ qC s' (v.getD 0 0) = 0
  p8 : ∀ {room x s v s'}, NK s.nodes → x.getD 1 0 < s.nodes.length → x.getD 2 0 < s.nodes.length → parM T n 8 room x s = .inr (v, s') → NR s s' 1 ∧ v.getD 0 0 < s'.nodes.length
  p9 : ∀ {room x s v s'}, NK s.nodes → parM T n 9 room x s = .inr (v, s') → NR s s' 0 ∧ v.getD 0 0 < s'.nodes.length
  p10 : ∀ {room x s v s'}, NK s.nodes → x.getD 1 0 < s.nodes.length → x.getD 2 0 < s.nodes.length → parM T n 10 room x s = .inr (v, s') → NR s s' 0 ∧ v.getD 0 0 < s'.nodes.length
  p11 : ∀ {room x s v s'}, NK s.nodes → parM T n 11 room x s = .inr (v, s') → NR s s' 0 ∧ s.nodes.length ≤ v.getD 0 0 ∧ v.getD 0 0 < s'.nodes.length
  p12 : ∀ {room x s v s'}, NK s.nodes → parM T n 12 room x s = .inr (v, s') → NR s s' 0 ∧ s.nodes.length ≤ v.getD 0 0 ∧ v.getD 0 0 < s'.nodes.length
  p13 : ∀ {room x s v s'}, NK s.nodes → parM T n 13 room x s = .inr (v, s') → NR s s' 0 ∧ s.nodes.length ≤ v.getD 0 0 ∧ v.getD 0 0 < s'.nodes.length
  p14 : ∀ {room x s v s'}, NK s.nodes → parM T n 14 room x s = .inr (v, s') → NR s s' 0 ∧ s.nodes.length ≤ v.getD 0 0 ∧ v.getD 0 0 < s'.nodes.length
  p15 : ∀ {room x s v s'}, NK s.nodes → parM T n 15 room x s = .inr (v, s') → NR s s' 0 ∧ v.getD 0 0 < s'.nodes.length
  p16 : ∀ {room x s v s'}, NK s.nodes → parM T n 16 room x s = .inr (v, s') → NR s s' (-1) ∧ s.nodes.length ≤ v.getD 0 0 ∧ v.getD 0 0 < s'.nodes.length
theorem NM.zero (T : List Tok) : NM T 0 := by
  constructor <;> intros <;> (exfalso; have h := ‹parM T 0 _ _ _ _ = .inr _›; cases h)
section
variable {T : List Tok} {n room : Nat} {x : List Nat} {s s' : PSt} {v : List Nat}
theorem op_k (t : Tok) {a b : Nat} : (opN t a b).k ≠ 19 := by
  show (bindL.getD (t.k - 22) (0, 0, 0)).2.1 ≠ 19
  have : ∀ i, (bindL.getD i (0, 0, 0)).2.1 ≠ 19 := by
    intro i
    by_cases hi : i < 15
    · have : ∀ j, j < 15 → (bindL.getD j (0, 0, 0)).2.1 ≠ 19 := by decide
      exact this i hi
    · rw [List.getD_eq_getElem?_getD, List.getElem?_eq_none (by simp [bindL]; omega)]
      decide
  exact this _
theorem NM.s0 (C : NM T n) (hk : NK s.nodes) (h : parM T (n + 1) 0 room x s = .inr (v, s')) : NR s s' (qC s' (v.getD 0 0)) ∧ s.nodes.length ≤ v.getD 0 0 ∧ v.getD 0 0 < s'.nodes.length := by
  unfold parM at h
  simp (config := {decide := true}) only [if_true, if_false] at h
  split at h
  · obtain ⟨u, s1, h1, h2⟩ := PB_inr h
    obtain ⟨a1, a2, a3⟩ := C.p0 hk h1
    split at h2
    · obtain ⟨u2, s2, h3, h4⟩ := PB_inr h2
      obtain ⟨b1, b2, b3⟩ := C.p0 (s := s1.nxt) a1.k h3
      have q0 := qC_pos s1 (u.getD 0 0)
      have q1 := qC_pos s2 (u2.getD 0 0)
      have l1 := b1.le
      rw [nl_nxt] at l1
      obtain ⟨c1, c2, c3, c4⟩ := ok_end (E := 0) h4 ((a1.trans (NR.nxt a1.k)).trans b1) (by omega) (by show u.getD 0 0 < _; omega) b3 (by show 0 < _; omega) rfl (op_k _)
      exact ⟨c1.le' (by omega), c2, c3⟩
    · cases h2
      exact ⟨a1, a2, a3⟩
  · split at h
    · obtain ⟨u, s1, h1, h2⟩ := PB_inr h
      cases h2
      have z := C.p2 hk h1
      exact z
    · obtain ⟨u, s1, h1, h2⟩ := PB_inr h
      obtain ⟨a1, a2, a3⟩ := C.p0 hk h1
      obtain ⟨b1, b2, b3⟩ := C.p1 a1.k (by exact a3) h2
      refine ⟨(a1.trans b1).le' ?_, ?_, b3⟩
      · show _ ≤ qC s1 (u.getD 0 0) + (_ - qC s1 (u.getD 0 0))
        omega
      · have : u.getD 0 0 ≤ v.getD 0 0 := b2
        omega
theorem NM.s1 (C : NM T n) (hk : NK s.nodes) (hx : x.getD 1 0 < s.nodes.length) (h : parM T (n + 1) 1 room x s = .inr (v, s')) : NR s s' (qC s' (v.getD 0 0) - qC s (x.getD 1 0)) ∧ x.getD 1 0 ≤ v.getD 0 0 ∧ v.getD 0 0 < s'.nodes.length := by
  unfold parM at h
  simp (config := {decide := true}) only [if_true, if_false] at h
  split at h
  · obtain ⟨u, s2, h1, h2⟩ := PB_inr h
    obtain ⟨a1, a2, a3⟩ := C.p0 (s := s.nxt) hk h1
    have l1 := a1.le
    rw [nl_nxt] at l1 a2
    have r2 := ((NR.nxt hk).trans a1).add (d := opN (curT T s) (x.getD 1 0) (u.getD 0 0)) (by show x.getD 1 0 < _; omega) a3 (by show 0 < _; omega) rfl
    obtain ⟨b1, b2, b3⟩ := C.p1 r2.k (by show s2.nodes.length < _; rw [nl_add]; omega) h2
    have q0 := qC_pos s2 (u.getD 0 0)
    have q1 := qC_pos s (x.getD 1 0)
    refine ⟨(r2.trans b1).le' ?_, ?_, b3⟩
    · have : qC (s2.add (opN (curT T s) (x.getD 1 0) (u.getD 0 0))) s2.nodes.length = 0 := qC_add _ _ (op_k _)
      show _ ≤ 1 + qC s2 (u.getD 0 0) - 1 + (qC s' (v.getD 0 0) - qC _ s2.nodes.length)
      rw [this]
      omega
    · have : s2.nodes.length ≤ v.getD 0 0 := b2
      omega
  · cases h
    exact ⟨(NR.refl hk).le' (by show qC s (x.getD 1 0) - _ ≤ _; omega), Nat.le_refl _, hx⟩
theorem NM.s2 (C : NM T n) (hk : NK s.nodes) (h : parM T (n + 1) 2 room x s = .inr (v, s')) : NR s s' (qC s' (v.getD 0 0)) ∧ s.nodes.length ≤ v.getD 0 0 ∧ v.getD 0 0 < s'.nodes.length := by
  unfold parM at h
  simp (config := {decide := true}) only [if_true, if_false] at h
  split at h
  · exact (failP_inr h).elim
  · split at h
    · obtain ⟨u, s2, h1, h2⟩ := PB_inr h
      obtain ⟨a1, a2, a3⟩ := C.p2 (s := s.nxt) hk h1
      have q0 := qC_pos s2 (u.getD 0 0)
      obtain ⟨b1, b2, b3, b4⟩ := ok_end (E := 0) h2 ((NR.nxt hk).trans a1) (by omega) a3 (by show 0 < _; omega) (by show 0 < _; omega) rfl (by simp)
      exact ⟨b1.le' (by omega), b2, b3⟩
    · exact C.p3 hk h
theorem NM.s3 (C : NM T n) (hk : NK s.nodes) (h : parM T (n + 1) 3 room x s = .inr (v, s')) : NR s s' (qC s' (v.getD 0 0)) ∧ s.nodes.length ≤ v.getD 0 0 ∧ v.getD 0 0 < s'.nodes.length := by
  unfold parM at h
  simp (config := {decide := true}) only [if_true, if_false] at h
  split at h
  · exact (failP_inr h).elim
  · obtain ⟨u, s1, h1, h2⟩ := PB_inr h
    obtain ⟨a1, a2, a3⟩ := C.p5 hk h1
    obtain ⟨b1, b2, b3⟩ := C.p4 (x := [u.getD 0 0]) a1.k a3 h2
    refine ⟨(a1.trans b1).le' ?_, ?_, b3⟩
    · show _ ≤ qC s1 (u.getD 0 0) + (_ - qC s1 (u.getD 0 0))
      omega
    · have : u.getD 0 0 ≤ v.getD 0 0 := b2
      omega
theorem NM.s4 (C : NM T n) (hk : NK s.nodes) (hx : x.getD 0 0 < s.nodes.length) (h : parM T (n + 1) 4 room x s = .inr (v, s')) : NR s s' (qC s' (v.getD 0 0) - qC s (x.getD 0 0)) ∧ x.getD 0 0 ≤ v.getD 0 0 ∧ v.getD 0 0 < s'.nodes.length := by
  unfold parM at h
  simp (config := {decide := true}) only [if_true, if_false] at h
  have q1 := qC_pos s (x.getD 0 0)
  have q2 := qC_pos s' (v.getD 0 0)
  split at h
  · obtain ⟨_, h2⟩ := nameP_out h
    have r0 : NR s s.nxt.nxt 2 := (NR.nxt hk).trans (NR.nxt (s := s.nxt) hk)
    have r1 := r0.add (d := ⟨16, 0, 0, 0, 0, 0, (curT T s.nxt).s, (curT T s.nxt).p⟩) (by show 0 < s.nodes.length; omega) (by show 0 < s.nodes.length; omega) (by show 0 < s.nodes.length; omega) rfl
    have r2 := r1.add (d := ⟨18, x.getD 0 0, s.nodes.length, 0, 0, 0, [], (curT T s).p⟩) (by rw [nl_add]; show x.getD 0 0 < s.nodes.length + 1; omega) (by rw [nl_add]; show s.nodes.length < s.nodes.length + 1; omega) (by rw [nl_add]; show 0 < s.nodes.length + 1; omega) rfl
    obtain ⟨b1, b2, b3⟩ := C.p4 r2.k (by show s.nodes.length + 1 < _; rw [nl_add, nl_add]; show _ < s.nodes.length + 1 + 1; omega) h2
    have b2' : s.nodes.length + 1 ≤ v.getD 0 0 := b2
    refine ⟨(r2.trans b1).le' ?_, by omega, b3⟩
    have : qC ((s.nxt.nxt.add ⟨16, 0, 0, 0, 0, 0, (curT T s.nxt).s, (curT T s.nxt).p⟩).add ⟨18, x.getD 0 0, s.nodes.length, 0, 0, 0, [], (curT T s).p⟩) (s.nodes.length + 1) = 0 := by
      have := qC_add (s.nxt.nxt.add ⟨16, 0, 0, 0, 0, 0, (curT T s.nxt).s, (curT T s.nxt).p⟩) ⟨18, x.getD 0 0, s.nodes.length, 0, 0, 0, [], (curT T s).p⟩ (by simp)
      rw [nl_add] at this
      exact this
    show _ ≤ 2 - 1 - 1 + (qC s' (v.getD 0 0) - qC _ (s.nodes.length + 1))
    rw [this]
    omega
  · split at h
    · obtain ⟨u, s1, h1, h2⟩ := PB_inr h
      obtain ⟨_, h2⟩ := expectP_out h2
      obtain ⟨a1, a2, a3⟩ := C.p0 (s := s.nxt) hk h1
      have l1 := a1.le
      rw [nl_nxt] at l1 a2
      have q0 := qC_pos s1 (u.getD 0 0)
      have r2 := (((NR.nxt hk).trans a1).trans (NR.nxt a1.k)).add (d := ⟨18, x.getD 0 0, u.getD 0 0, 0, 0, 0, [], (curT T s).p⟩) (by show x.getD 0 0 < s1.nodes.length; omega) a3 (by show 0 < s1.nodes.length; omega) rfl
      obtain ⟨b1, b2, b3⟩ := C.p4 r2.k (by show s1.nodes.length < _; rw [nl_add]; show _ < s1.nodes.length + 1; omega) h2
      have b2' : s1.nodes.length ≤ v.getD 0 0 := b2
      refine ⟨(r2.trans b1).le' ?_, by omega, b3⟩
      have : qC (s1.nxt.add ⟨18, x.getD 0 0, u.getD 0 0, 0, 0, 0, [], (curT T s).p⟩) s1.nodes.length = 0 := qC_add s1.nxt _ (by simp)
      show _ ≤ 1 + qC s1 (u.getD 0 0) + 1 - 1 + (qC s' (v.getD 0 0) - qC _ s1.nodes.length)
      rw [this]
      omega
    · split at h
      · obtain ⟨u, s1, h1, h2⟩ := PB_inr h
        obtain ⟨a1, a3⟩ := C.p6 (s := s.nxt) hk (by show 0 < s.nodes.length; omega) (by show 0 < s.nodes.length; omega) h1
        have l1 := a1.le
        rw [nl_nxt] at l1
        have r2 := ((NR.nxt hk).trans a1).add (d := ⟨19, x.getD 0 0, u.getD 0 0, 0, 0, 0, [], (curT T s).p⟩) (by show x.getD 0 0 < s1.nodes.length; omega) a3 (by show 0 < s1.nodes.length; omega) rfl
        obtain ⟨b1, b2, b3⟩ := C.p4 r2.k (by show s1.nodes.length < _; rw [nl_add]; omega) h2
        have b2' : s1.nodes.length ≤ v.getD 0 0 := b2
        refine ⟨(r2.trans b1).le' ?_, by omega, b3⟩
        have := qC_pos (s1.add ⟨19, x.getD 0 0, u.getD 0 0, 0, 0, 0, [], (curT T s).p⟩) s1.nodes.length
        show _ ≤ 1 + 1 - 1 + (qC s' (v.getD 0 0) - qC _ s1.nodes.length)
        omega
      · cases h
        refine ⟨(NR.refl hk).le' (by show qC s (x.getD 0 0) - _ ≤ _; omega), Nat.le_refl _, hx⟩
theorem NM.s5 (C : NM T n) (hk : NK s.nodes) (h : parM T (n + 1) 5 room x s = .inr (v, s')) : NR s s' (qC s' (v.getD 0 0)) ∧ s.nodes.length ≤ v.getD 0 0 ∧ v.getD 0 0 < s'.nodes.length := by
  unfold parM at h
  simp (config := {decide := true}) only [if_true, if_false] at h
  have n1 := hk.n1
  have leaf : ∀ {d : Nd}, okP s.nxt d = .inr (v, s') → d.a = 0 ∧ d.b = 0 ∧ d.c = 0 ∧ d.next = 0 ∧ d.k ≠ 19 → NR s s' (qC s' (v.getD 0 0)) ∧ s.nodes.length ≤ v.getD 0 0 ∧ v.getD 0 0 < s'.nodes.length := by
    intro d h ⟨e1, e2, e3, e4, e5⟩
    obtain ⟨b1, b2, b3, b4⟩ := ok_end (E := 0) h (NR.nxt hk) (by omega) (by rw [e1]; exact n1) (by rw [e2]; exact n1) (by rw [e3]; exact n1) e4 e5
    exact ⟨b1.le' (by omega), b2, b3⟩
  split at h
  · exact leaf h ⟨rfl, rfl, rfl, rfl, by simp⟩
  · split at h
    · exact leaf h ⟨rfl, rfl, rfl, rfl, by simp⟩
    · split at h
      · exact leaf h ⟨rfl, rfl, rfl, rfl, by simp⟩
      · split at h
        · exact leaf h ⟨rfl, rfl, rfl, rfl, by simp⟩
        · split at h
          · exact leaf h ⟨rfl, rfl, rfl, rfl, by simp⟩
          · split at h
            · exact leaf h ⟨rfl, rfl, rfl, rfl, by simp⟩
            · split at h
              · obtain ⟨u, s1, h1, h2⟩ := PB_inr h
                obtain ⟨_, h2⟩ := expectP_out h2
                obtain ⟨a1, a2, a3⟩ := C.p0 (s := s.nxt) hk h1
                cases h2
                exact ⟨(((NR.nxt hk).trans a1).trans (NR.nxt a1.k)).le' (by show qC s1 _ ≤ _; omega), a2, a3⟩
              · split at h
                · split at h
                  · exact (failP_inr h).elim
                  · obtain ⟨a1, a2, a3, a4⟩ := C.p7 (s := s.nxt) hk h
                    exact ⟨((NR.nxt hk).trans a1).le' (by omega), a2, a3⟩
                · split at h
                  · obtain ⟨u, s1, h1, h2⟩ := PB_inr h
                    obtain ⟨a1, a3⟩ := C.p6 (s := s.nxt) hk (by show 0 < s.nodes.length; omega) (by show 0 < s.nodes.length; omega) h1
                    obtain ⟨b1, b2, b3, b4⟩ := ok_end (E := 0) h2 ((NR.nxt hk).trans a1) (by omega) a3 (by show 0 < _; omega) (by show 0 < _; omega) rfl (by simp)
                    exact ⟨b1.le' (by omega), b2, b3⟩
                  · exact (failP_inr h).elim
end
section
variable {T : List Tok} {n room : Nat} {x : List Nat} {s s' : PSt} {v : List Nat}
theorem NM.s6 (C : NM T n) (hk : NK s.nodes) (h3 : x.getD 3 0 < s.nodes.length) (h4 : x.getD 4 0 < s.nodes.length) (h : parM T (n + 1) 6 room x s = .inr (v, s')) : NR s s' 1 ∧ v.getD 0 0 < s'.nodes.length := by
  unfold parM at h
  simp (config := {decide := true}) only [if_true, if_false] at h
  have go : ∀ s0 : PSt, NR s s0 0 → (if x.getD 1 0 ≠ 0 ∧ x.getD 2 0 + 1 = x.getD 1 0 then failP T s0 19 else PBd (parM T n 0 room [1] s0) fun v s => parM T n 6 room [x.getD 0 0, x.getD 1 0, x.getD 2 0 + 1, if x.getD 4 0 = 0 then v.getD 0 0 else x.getD 3 0, v.getD 0 0] (s.link (x.getD 4 0) (v.getD 0 0))) = .inr (v, s') → NR s s' 1 ∧ v.getD 0 0 < s'.nodes.length := by
    intro s0 r0 h
    split at h
    · exact (failP_inr h).elim
    · obtain ⟨u, s1, h1, h2⟩ := PB_inr h
      obtain ⟨a1, a2, a3⟩ := C.p0 r0.k h1
      have l0 := r0.le
      have l1 := a1.le
      have q0 := qC_pos s1 (u.getD 0 0)
      have r2 := (r0.trans a1).link (l := x.getD 4 0) (x := u.getD 0 0) (by omega) a3
      have ll : (s1.link (x.getD 4 0) (u.getD 0 0)).nodes.length = s1.nodes.length := link_len _ _ _
      obtain ⟨b1, b2⟩ := C.p6 r2.k (by show (if x.getD 4 0 = 0 then u.getD 0 0 else x.getD 3 0) < _; rw [ll]; split <;> omega) (by show u.getD 0 0 < _; rw [ll]; exact a3) h2
      exact ⟨(r2.trans b1).le' (by omega), b2⟩
  split at h
  · cases h
    exact ⟨NR.nxt hk, h3⟩
  · split at h
    · obtain ⟨_, h2⟩ := expectP_out h
      exact go s.nxt ((NR.nxt hk).le' (by omega)) h2
    · exact go s (NR.refl hk) h
theorem NM.s8 (C : NM T n) (hk : NK s.nodes) (h3 : x.getD 1 0 < s.nodes.length) (h4 : x.getD 2 0 < s.nodes.length) (h : parM T (n + 1) 8 room x s = .inr (v, s')) : NR s s' 1 ∧ v.getD 0 0 < s'.nodes.length := by
  unfold parM at h
  simp (config := {decide := true}) only [if_true, if_false] at h
  have go : ∀ s0 : PSt, NR s s0 0 → s0.nodes.length = s.nodes.length → (if x.getD 0 0 = 3 then failP T s0 19 else nameP T s0 0 fun m s => parM T n 8 room [x.getD 0 0 + 1, if x.getD 2 0 = 0 then s.nodes.length else x.getD 1 0, s.nodes.length] ((s.add ⟨17, 0, 0, 0, 0, 0, m.s, m.p⟩).link (x.getD 2 0) s.nodes.length)) = .inr (v, s') → NR s s' 1 ∧ v.getD 0 0 < s'.nodes.length := by
    intro s0 r0 e0 h
    split at h
    · exact (failP_inr h).elim
    · obtain ⟨_, h2⟩ := nameP_out h
      have r1 := (r0.trans (NR.nxt r0.k)).add (d := ⟨17, 0, 0, 0, 0, 0, (curT T s0).s, (curT T s0).p⟩) (by show 0 < s0.nodes.length; omega) (by show 0 < s0.nodes.length; omega) (by show 0 < s0.nodes.length; omega) rfl
      have r2 := r1.link (l := x.getD 2 0) (x := s0.nodes.length) (by omega) (by rw [nl_add]; show _ < s0.nodes.length + 1; omega)
      have ll : ((s0.nxt.add ⟨17, 0, 0, 0, 0, 0, (curT T s0).s, (curT T s0).p⟩).link (x.getD 2 0) s0.nodes.length).nodes.length = s0.nodes.length + 1 := (link_len _ _ _).trans (nl_add _ _)
      obtain ⟨b1, b2⟩ := C.p8 r2.k (by show (if x.getD 2 0 = 0 then s0.nodes.length else x.getD 1 0) < _; rw [ll]; split <;> omega) (by show s0.nodes.length < _; rw [ll]; omega) h2
      exact ⟨(r2.trans b1).le' (by omega), b2⟩
  split at h
  · cases h
    exact ⟨NR.nxt hk, h3⟩
  · split at h
    · obtain ⟨_, h2⟩ := expectP_out h
      exact go s.nxt ((NR.nxt hk).le' (by omega)) rfl h2
    · exact go s (NR.refl hk) rfl h
theorem NM.s7 (C : NM T n) (hk : NK s.nodes) (h : parM T (n + 1) 7 room x s = .inr (v, s')) : NR s s' 0 ∧ s.nodes.length ≤ v.getD 0 0 ∧ v.getD 0 0 < s'.nodes.length ∧ qC s' (v.getD 0 0) = 0 := by
  unfold parM at h
  simp (config := {decide := true}) only [if_true, if_false] at h
  obtain ⟨_, h⟩ := expectP_out h
  obtain ⟨u, s1, h1, h2⟩ := PB_inr h
  have n1 := hk.n1
  obtain ⟨a1, a2⟩ := C.p8 (s := { s.nxt with funcs := s.nxt.funcs + 1 }) hk (by show 0 < s.nodes.length; omega) (by show 0 < s.nodes.length; omega) h1
  have r1 : NR s s1 2 := ((NR.nxt hk).trans (a1.from (s2 := s.nxt) rfl rfl)).le' (by omega)
  obtain ⟨u2, s2, h3, h4⟩ := PB_inr h2
  obtain ⟨b1, b2⟩ := C.p9 (s := { s1 with alive := u.getD 1 0, loops := 0 }) r1.k h3
  have r2 : NR s s2 2 := (r1.trans (b1.from (s2 := s1) rfl rfl)).le' (by omega)
  obtain ⟨_, h4⟩ := expectP_out h4
  have l2 : s1.nodes.length ≤ s2.nodes.length := b1.le
  have r3 : NR s ({ s2.nxt with alive := s.alive, loops := s.loops } : PSt) 3 := (r2.trans (NR.nxt r2.k)).as rfl rfl
  exact ok_end (E := 0) h4 r3 (by omega) (by show u.getD 0 0 < s2.nodes.length; omega) b2 (by show 0 < s2.nodes.length; omega) rfl (by simp)
theorem NM.s9 (C : NM T n) (hk : NK s.nodes) (h : parM T (n + 1) 9 room x s = .inr (v, s')) : NR s s' 0 ∧ v.getD 0 0 < s'.nodes.length := by
  unfold parM at h
  simp (config := {decide := true}) only [if_true, if_false] at h
  split at h
  · exact (failP_inr h).elim
  · obtain ⟨u, s1, h1, h2⟩ := PB_inr h
    have n1 := hk.n1
    obtain ⟨a1, a2⟩ := C.p10 hk (by show 0 < s.nodes.length; omega) (by show 0 < s.nodes.length; omega) h1
    cases h2
    exact ⟨a1.as rfl rfl, a2⟩
theorem NM.s10 (C : NM T n) (hk : NK s.nodes) (h3 : x.getD 1 0 < s.nodes.length) (h4 : x.getD 2 0 < s.nodes.length) (h : parM T (n + 1) 10 room x s = .inr (v, s')) : NR s s' 0 ∧ v.getD 0 0 < s'.nodes.length := by
  unfold parM at h
  simp (config := {decide := true}) only [if_true, if_false] at h
  split at h
  · cases h
    exact ⟨NR.refl hk, h3⟩
  · split at h
    · exact (failP_inr h).elim
    · obtain ⟨u, s1, h1, h2⟩ := PB_inr h
      obtain ⟨a1, a2, a3⟩ := C.p11 hk h1
      have l1 := a1.le
      have r2 := a1.link (l := x.getD 2 0) (x := u.getD 0 0) (by omega) a3
      have ll : (s1.link (x.getD 2 0) (u.getD 0 0)).nodes.length = s1.nodes.length := link_len _ _ _
      obtain ⟨b1, b2⟩ := C.p10 r2.k (by show (if x.getD 2 0 = 0 then u.getD 0 0 else x.getD 1 0) < _; rw [ll]; split <;> omega) (by show u.getD 0 0 < _; rw [ll]; exact a3) h2
      exact ⟨(r2.trans b1).le' (by omega), b2⟩
theorem NM.s15 (C : NM T n) (hk : NK s.nodes) (h : parM T (n + 1) 15 room x s = .inr (v, s')) : NR s s' 0 ∧ v.getD 0 0 < s'.nodes.length := by
  unfold parM at h
  simp (config := {decide := true}) only [if_true, if_false] at h
  obtain ⟨_, h⟩ := expectP_out h
  obtain ⟨u, s1, h1, h2⟩ := PB_inr h
  obtain ⟨a1, a2⟩ := C.p9 (s := { s.nxt with alive := s.nxt.alive + x.getD 0 0, loops := s.nxt.loops + 1 }) hk h1
  obtain ⟨_, h2⟩ := expectP_out h2
  cases h2
  have r1 : NR s s1 1 := ((NR.nxt hk).trans (a1.from (s2 := s.nxt) rfl rfl)).le' (by omega)
  exact ⟨((r1.trans (NR.nxt r1.k)).le' (E := 0) (by omega)).as rfl rfl, a2⟩
theorem NM.s16 (C : NM T n) (hk : NK s.nodes) (h : parM T (n + 1) 16 room x s = .inr (v, s')) : NR s s' (-1) ∧ s.nodes.length ≤ v.getD 0 0 ∧ v.getD 0 0 < s'.nodes.length := by
  unfold parM at h
  simp (config := {decide := true}) only [if_true, if_false] at h
  have n1 := hk.n1
  split at h
  · obtain ⟨b1, b2, b3, _⟩ := ok_end (E := -1) h (NR.refl hk) (by omega) (by show 0 < s.nodes.length; omega) (by show 0 < s.nodes.length; omega) (by show 0 < s.nodes.length; omega) rfl (by simp)
    exact ⟨b1, b2, b3⟩
  · obtain ⟨u, s1, h1, h2⟩ := PB_inr h
    obtain ⟨a1, a2, a3⟩ := C.p0 hk h1
    have q1 := qC_pos s1 (u.getD 0 0)
    split at h2
    · obtain ⟨u2, s2, h3, h4⟩ := PB_inr h2
      obtain ⟨c1, c2, c3⟩ := C.p0 (s := s1.nxt) a1.k h3
      have q2 := qC_pos s2 (u2.getD 0 0)
      have l2 : s1.nodes.length ≤ s2.nodes.length := c1.le
      obtain ⟨b1, b2, b3, _⟩ := ok_end (E := -1) h4 ((a1.trans (NR.nxt a1.k)).trans c1) (by omega) (by show u.getD 0 0 < _; omega) c3 (by show 0 < _; omega) rfl (by simp)
      exact ⟨b1, b2, b3⟩
    · obtain ⟨b1, b2, b3, _⟩ := ok_end (E := -1) h2 a1 (by omega) a3 (by show 0 < _; omega) (by show 0 < _; omega) rfl (by simp)
      exact ⟨b1, b2, b3⟩
theorem NM.s13 (C : NM T n) (hk : NK s.nodes) (h : parM T (n + 1) 13 room x s = .inr (v, s')) : NR s s' 0 ∧ s.nodes.length ≤ v.getD 0 0 ∧ v.getD 0 0 < s'.nodes.length := by
  unfold parM at h
  simp (config := {decide := true}) only [if_true, if_false] at h
  obtain ⟨u, s1, h1, h2⟩ := PB_inr h
  obtain ⟨a1, a2, a3⟩ := C.p0 (s := s.nxt) hk h1
  have q1 := qC_pos s1 (u.getD 0 0)
  have r1 := (NR.nxt hk).trans a1
  obtain ⟨_, h2⟩ := expectP_out h2
  obtain ⟨u2, s2, h3, h4⟩ := PB_inr h2
  obtain ⟨c1, c2⟩ := C.p9 (s := s1.nxt) a1.k h3
  have r2 := (r1.trans (NR.nxt a1.k)).trans c1
  have l1 : s1.nodes.length ≤ s2.nodes.length := c1.le
  split at h4
  · obtain ⟨u3, s3, h5, h6⟩ := PB_inr h4
    obtain ⟨d1, d2, d3⟩ := C.p13 c1.k h5
    have l2 := d1.le
    obtain ⟨b1, b2, b3, _⟩ := ok_end (E := 0) h6 (r2.trans d1) (by omega) (by show u.getD 0 0 < _; omega) (by show u2.getD 0 0 < _; omega) d3 rfl (by simp)
    exact ⟨b1, b2, b3⟩
  · split at h4
    · obtain ⟨u3, s3, h5, h6⟩ := PB_inr h4
      obtain ⟨_, h6⟩ := expectP_out h6
      obtain ⟨d1, d3⟩ := C.p9 (s := s2.nxt) c1.k h5
      have l2 : s2.nodes.length ≤ s3.nodes.length := d1.le
      obtain ⟨b1, b2, b3, _⟩ := ok_end (E := 0) h6 (((r2.trans (NR.nxt c1.k)).trans d1).trans (NR.nxt d1.k)) (by omega) (by show u.getD 0 0 < s3.nodes.length; omega) (by show u2.getD 0 0 < s3.nodes.length; omega) d3 rfl (by simp)
      exact ⟨b1, b2, b3⟩
    · obtain ⟨_, h6⟩ := expectP_out h4
      obtain ⟨b1, b2, b3, _⟩ := ok_end (E := 0) h6 (r2.trans (NR.nxt c1.k)) (by omega) (by show u.getD 0 0 < s2.nodes.length; omega) c2 (by show 0 < s2.nodes.length; omega) rfl (by simp)
      exact ⟨b1, b2, b3⟩
theorem NM.s11 (C : NM T n) (hk : NK s.nodes) (h : parM T (n + 1) 11 room x s = .inr (v, s')) : NR s s' 0 ∧ s.nodes.length ≤ v.getD 0 0 ∧ v.getD 0 0 < s'.nodes.length := by
  unfold parM at h
  simp (config := {decide := true}) only [if_true, if_false] at h
  have n1 := hk.n1
  split at h
  · obtain ⟨a1, a2, a3⟩ := C.p12 (s := s.nxt) hk h
    exact ⟨((NR.nxt hk).trans a1).le' (by omega), a2, a3⟩
  · split at h
    · exact C.p13 hk h
    · split at h
      · obtain ⟨a1, a2, a3⟩ := C.p14 (s := s.nxt) hk h
        exact ⟨((NR.nxt hk).trans a1).le' (by omega), a2, a3⟩
      · split at h
        · obtain ⟨u, s1, h1, h2⟩ := PB_inr h
          obtain ⟨a1, a2, a3⟩ := C.p0 (s := s.nxt) hk h1
          have q1 := qC_pos s1 (u.getD 0 0)
          obtain ⟨u2, s2, h3, h4⟩ := PB_inr h2
          obtain ⟨c1, c2⟩ := C.p15 a1.k h3
          have l1 := c1.le
          obtain ⟨b1, b2, b3, _⟩ := ok_end (E := 0) h4 (((NR.nxt hk).trans a1).trans c1) (by omega) (by show u.getD 0 0 < _; omega) c2 (by show 0 < _; omega) rfl (by simp)
          exact ⟨b1, b2, b3⟩
        · split at h
          · split at h
            · exact (failP_inr h).elim
            · obtain ⟨b1, b2, b3, _⟩ := ok_end (E := 0) h (NR.nxt hk) (by omega) (by show 0 < s.nodes.length; omega) (by show 0 < s.nodes.length; omega) (by show 0 < s.nodes.length; omega) rfl (by simp)
              exact ⟨b1, b2, b3⟩
          · split at h
            · obtain ⟨a1, a2, a3⟩ := C.p16 (s := s.nxt) hk h
              exact ⟨((NR.nxt hk).trans a1).le' (by omega), a2, a3⟩
            · obtain ⟨u, s1, h1, h2⟩ := PB_inr h
              obtain ⟨a1, a2, a3⟩ := C.p3 hk h1
              split at h2
              · split at h2
                · rename_i h19
                  have e1 : qC s1 (u.getD 0 0) = 1 := by unfold qC; rw [if_pos h19]
                  rw [e1] at a1
                  obtain ⟨b1, b2, b3, _⟩ := ok_end (E := 0) h2 a1 (by omega) a3 (by show 0 < _; omega) (by show 0 < _; omega) rfl (by simp)
                  exact ⟨b1, b2, b3⟩
                · exact (failP_inr h2).elim
              · split at h2
                · exact (failP_inr h2).elim
                · obtain ⟨u2, s2, h3, h4⟩ := PB_inr h2
                  obtain ⟨c1, c2, c3⟩ := C.p0 (s := s1.nxt) a1.k h3
                  have q1 := qC_pos s1 (u.getD 0 0)
                  have q2 := qC_pos s2 (u2.getD 0 0)
                  have l1 : s1.nodes.length ≤ s2.nodes.length := c1.le
                  obtain ⟨b1, b2, b3, _⟩ := ok_end (E := 0) h4 ((a1.trans (NR.nxt a1.k)).trans c1) (by omega) (by show u.getD 0 0 < _; omega) c3 (by show 0 < _; omega) rfl (by simp)
                  exact ⟨b1, b2, b3⟩
/-- two names and a tree -/
theorem NM.s12 (C : NM T n) (hk : NK s.nodes) (h : parM T (n + 1) 12 room x s = .inr (v, s')) : NR s s' 0 ∧ s.nodes.length ≤ v.getD 0 0 ∧ v.getD 0 0 < s'.nodes.length := by
  unfold parM at h
  simp (config := {decide := true}) only [if_true, if_false] at h
  have n1 := hk.n1
  split at h
  · split at h
    · exact (failP_inr h).elim
    · obtain ⟨_, h⟩ := nameP_out h
      obtain ⟨u, s1, h1, h2⟩ := PB_inr h
      obtain ⟨a1, a2, a3, a4⟩ := C.p7 (s := { s.nxt.nxt with alive := s.nxt.nxt.alive + 1 }) hk h1
      have r1 : NR s s1 2 := (((NR.nxt hk).trans (NR.nxt (s := s.nxt) hk)).trans (a1.from (s2 := s.nxt.nxt) rfl rfl)).le' (by omega)
      obtain ⟨b1, b2, b3, _⟩ := ok_end (E := 0) h2 r1 (by omega) a3 (by show 0 < _; omega) (by show 0 < _; omega) rfl (by simp)
      exact ⟨b1, b2, b3⟩
  · obtain ⟨_, h⟩ := nameP_out h
    have r0 : NR s s.nxt 1 := NR.nxt hk
    split at h
    · obtain ⟨_, h⟩ := nameP_out h
      obtain ⟨_, h⟩ := expectP_out h
      have r4 : NR s s.nxt.nxt.nxt.nxt 4 := ((r0.trans (NR.nxt (s := s.nxt) hk)).trans (NR.nxt (s := s.nxt.nxt) hk)).trans (NR.nxt (s := s.nxt.nxt.nxt) hk)
      have r5 := r4.names (x1 := (curT T s).s) (x2 := (curT T s.nxt.nxt).s) (p1 := (curT T s).p) (p2 := (curT T s.nxt.nxt).p)
      obtain ⟨u, s1, h1, h2⟩ := PB_inr h
      obtain ⟨a1, a2, a3⟩ := C.p0 r5.k h1
      have q1 := qC_pos s1 (u.getD 0 0)
      have l1 := a1.le
      rw [nl_add, nl_add] at l1
      have l2 : s.nodes.length + 2 ≤ s1.nodes.length := l1
      split at h2
      · exact (failP_inr h2).elim
      · have r6 : NR s ({ s1 with alive := s1.alive + 2 } : PSt) (4 - 2 + qC s1 (u.getD 0 0)) := (r5.trans a1).as rfl rfl
        obtain ⟨b1, b2, b3, _⟩ := ok_end (E := 0) h2 r6 (by omega) (by show s.nodes.length < s1.nodes.length; omega) a3 (by show 0 < s1.nodes.length; omega) rfl (by simp)
        exact ⟨b1, b2, b3⟩
    · split at h
      · obtain ⟨u, s1, h1, h2⟩ := PB_inr h
        obtain ⟨a1, a2, a3⟩ := C.p0 (s := s.nxt.nxt) hk h1
        have q1 := qC_pos s1 (u.getD 0 0)
        have r6 : NR s ({ s1 with alive := s1.alive + 1 } : PSt) (2 + qC s1 (u.getD 0 0)) := ((r0.trans (NR.nxt (s := s.nxt) hk)).trans a1).as rfl rfl
        obtain ⟨b1, b2, b3, _⟩ := ok_end (E := 0) h2 r6 (by omega) a3 (by show 0 < s1.nodes.length; omega) (by show 0 < s1.nodes.length; omega) rfl (by simp)
        exact ⟨b1, b2, b3⟩
      · have r6 : NR s ({ s.nxt with alive := s.nxt.alive + 1 } : PSt) 1 := r0.as rfl rfl
        obtain ⟨b1, b2, b3, _⟩ := ok_end (E := 0) h r6 (by omega) (by show 0 < s.nodes.length; omega) (by show 0 < s.nodes.length; omega) (by show 0 < s.nodes.length; omega) rfl (by simp)
        exact ⟨b1, b2, b3⟩
theorem NM.s14 (C : NM T n) (hk : NK s.nodes) (h : parM T (n + 1) 14 room x s = .inr (v, s')) : NR s s' 0 ∧ s.nodes.length ≤ v.getD 0 0 ∧ v.getD 0 0 < s'.nodes.length := by
  unfold parM at h
  simp (config := {decide := true}) only [if_true, if_false] at h
  have n1 := hk.n1
  obtain ⟨_, h⟩ := nameP_out h
  have r0 : NR s s.nxt 1 := NR.nxt hk
  split at h
  · obtain ⟨_, h⟩ := nameP_out h
    obtain ⟨_, h⟩ := expectP_out h
    have r4 : NR s s.nxt.nxt.nxt.nxt 4 := ((r0.trans (NR.nxt (s := s.nxt) hk)).trans (NR.nxt (s := s.nxt.nxt) hk)).trans (NR.nxt (s := s.nxt.nxt.nxt) hk)
    have r5 := r4.names (x1 := (curT T s).s) (x2 := (curT T s.nxt.nxt).s) (p1 := (curT T s).p) (p2 := (curT T s.nxt.nxt).p)
    obtain ⟨u, s1, h1, h2⟩ := PB_inr h
    obtain ⟨a1, a2, a3⟩ := C.p0 r5.k h1
    have q1 := qC_pos s1 (u.getD 0 0)
    have l1 := a1.le
    rw [nl_add, nl_add] at l1
    have l2 : s.nodes.length + 2 ≤ s1.nodes.length := l1
    obtain ⟨u2, s2, h3, h4⟩ := PB_inr h2
    obtain ⟨c1, c2⟩ := C.p15 a1.k h3
    have l3 := c1.le
    obtain ⟨b1, b2, b3, _⟩ := ok_end (E := 0) h4 ((r5.trans a1).trans c1) (by omega) (by show s.nodes.length < _; omega) (by show u.getD 0 0 < _; omega) c2 rfl (by simp)
    exact ⟨b1, b2, b3⟩
  · obtain ⟨_, h⟩ := expectP_out h
    obtain ⟨u, s1, h1, h2⟩ := PB_inr h
    obtain ⟨a1, a2, a3⟩ := C.p0 (s := s.nxt.nxt) hk h1
    have q1 := qC_pos s1 (u.getD 0 0)
    have r1 := (r0.trans (NR.nxt (s := s.nxt) hk)).trans a1
    obtain ⟨_, h2⟩ := expectP_out h2
    obtain ⟨u2, s2, h3, h4⟩ := PB_inr h2
    obtain ⟨c1, c2, c3⟩ := C.p0 (s := s1.nxt) a1.k h3
    have q2 := qC_pos s2 (u2.getD 0 0)
    have l1 : s1.nodes.length ≤ s2.nodes.length := c1.le
    have c2' : s1.nodes.length ≤ u2.getD 0 0 := c2
    have r2 := ((r1.trans (NR.nxt a1.k)).trans c1).link (l := u.getD 0 0) (x := u2.getD 0 0) (by omega) c3
    have ll : (s2.link (u.getD 0 0) (u2.getD 0 0)).nodes.length = s2.nodes.length := link_len _ _ _
    split at h4
    · obtain ⟨u3, s3, h5, h6⟩ := PB_inr h4
      obtain ⟨d1, d2, d3⟩ := C.p0 (s := (s2.link (u.getD 0 0) (u2.getD 0 0)).nxt) r2.k h5
      have q3 := qC_pos s3 (u3.getD 0 0)
      have l2 : (s2.link (u.getD 0 0) (u2.getD 0 0)).nodes.length ≤ s3.nodes.length := d1.le
      have d2' : (s2.link (u.getD 0 0) (u2.getD 0 0)).nodes.length ≤ u3.getD 0 0 := d2
      rw [ll] at l2 d2'
      have r3 := ((r2.trans (NR.nxt r2.k)).trans d1).link (l := u2.getD 0 0) (x := u3.getD 0 0) (by omega) d3
      have ll3 : (s3.link (u2.getD 0 0) (u3.getD 0 0)).nodes.length = s3.nodes.length := link_len _ _ _
      obtain ⟨u4, s4, h7, h8⟩ := PB_inr h6
      obtain ⟨e1, e2⟩ := C.p15 r3.k h7
      have l4 := e1.le
      rw [ll3] at l4
      obtain ⟨b1, b2, b3, _⟩ := ok_end (E := 0) h8 (r3.trans e1) (by omega) (by show u.getD 0 0 < _; omega) e2 (by show 0 < _; omega) rfl (by simp)
      exact ⟨b1, b2, b3⟩
    · obtain ⟨u4, s4, h7, h8⟩ := PB_inr h4
      obtain ⟨e1, e2⟩ := C.p15 r2.k h7
      have l4 := e1.le
      rw [ll] at l4
      obtain ⟨b1, b2, b3, _⟩ := ok_end (E := 0) h8 (r2.trans e1) (by omega) (by show u.getD 0 0 < _; omega) e2 (by show 0 < _; omega) rfl (by simp)
      exact ⟨b1, b2, b3⟩
theorem NM.all (T : List Tok) : ∀ n, NM T n
  | 0 => NM.zero T
  | n + 1 =>
    have C := NM.all T n
    { p0 := fun a b => C.s0 a b, p1 := fun a b c => C.s1 a b c, p2 := fun a b => C.s2 a b, p3 := fun a b => C.s3 a b, p4 := fun a b c => C.s4 a b c, p5 := fun a b => C.s5 a b, p6 := fun a b c d => C.s6 a b c d, p7 := fun a b => C.s7 a b, p8 := fun a b c d => C.s8 a b c d, p9 := fun a b => C.s9 a b, p10 := fun a b c d => C.s10 a b c d, p11 := fun a b => C.s11 a b, p12 := fun a b => C.s12 a b, p13 := fun a b => C.s13 a b, p14 := fun a b => C.s14 a b, p15 := fun a b => C.s15 a b, p16 := fun a b => C.s16 a b }
end
end Go.Proofs.Qxb6500574aGreatDoor
