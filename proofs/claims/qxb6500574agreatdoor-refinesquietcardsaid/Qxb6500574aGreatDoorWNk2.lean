/-
  moon: THE ARENA's LINKS AND ITS SIZE: the step. Plain; no memory, no walk.
-/
import Derived.Test.Qxb6500574aGreatDoorWNk
namespace Go.Proofs.Qxb6500574aGreatDoor
set_option linter.unusedVariables false
set_option linter.unusedSimpArgs false
section
variable {T : List Tok} {n room : Nat} {x : List Nat} {s s' : PSt} {v : List Nat}
theorem nl_add (s : PSt) (d : Nd) : (s.add d).nodes.length = s.nodes.length + 1 := add_len s d
theorem nl_nxt (s : PSt) : s.nxt.nodes.length = s.nodes.length := rfl
theorem NA.s0 (C : NA T n) (hk : NK s.nodes) (h : parN T (n + 1) 0 room x s = .inr (v, s')) : NR s s' (qC s' (v.getD 0 0)) ∧ s.nodes.length ≤ v.getD 0 0 ∧ v.getD 0 0 < s'.nodes.length := by
  unfold parN at h
  simp (config := {decide := true}) only [if_true, if_false] at h
  obtain ⟨u, s1, h1, h2⟩ := PB_inr h
  obtain ⟨a1, a2, a3⟩ := C.p2 hk h1
  obtain ⟨b1, b2, b3⟩ := C.p1 a1.k a3 h2
  refine ⟨(a1.trans b1).le' ?_, ?_, b3⟩
  · show _ ≤ qC s1 (u.getD 0 0) + (_ - qC s1 (u.getD 0 0))
    omega
  · have : u.getD 0 0 ≤ v.getD 0 0 := b2
    omega
theorem NA.s1 (C : NA T n) (hk : NK s.nodes) (hx : x.getD 1 0 < s.nodes.length) (h : parN T (n + 1) 1 room x s = .inr (v, s')) : NR s s' (qC s' (v.getD 0 0) - qC s (x.getD 1 0)) ∧ x.getD 1 0 ≤ v.getD 0 0 ∧ v.getD 0 0 < s'.nodes.length := by
  unfold parN at h
  simp (config := {decide := true}) only [if_true, if_false] at h
  have stay : ∀ {w : List Nat × PSt}, Sum.inr (α := Nat × Nat) ([x.getD 1 0], s) = .inr w → w = (v, s') → NR s s' (qC s' (v.getD 0 0) - qC s (x.getD 1 0)) ∧ x.getD 1 0 ≤ v.getD 0 0 ∧ v.getD 0 0 < s'.nodes.length := by
    intro w e e'
    cases e
    simp only [Prod.mk.injEq] at e'
    obtain ⟨rfl, rfl⟩ := e'
    exact ⟨(NR.refl hk).le' (by show qC s (x.getD 1 0) - _ ≤ _; omega), Nat.le_refl _, hx⟩
  split at h
  · exact stay h rfl
  · split at h
    · exact stay h rfl
    · rename_i hr1 hr2
      obtain ⟨u, s2, h1, h2⟩ := PB_inr h
      have hu : NR s.nxt s2 (qC s2 (u.getD 0 0)) ∧ s.nxt.nodes.length ≤ u.getD 0 0 ∧ u.getD 0 0 < s2.nodes.length := by
        split at h1
        · exact C.p0 (s := s.nxt) hk h1
        · exact C.p0 (s := s.nxt) hk h1
      obtain ⟨a1, a2, a3⟩ := hu
      have l1 := a1.le
      rw [nl_nxt] at l1 a2
      have hkk : (bindL.getD ((curT T s).k - 22) (0, 0, 0)).2.1 ≠ 19 := by
        have : ∀ i, (bindL.getD i (0, 0, 0)).2.1 ≠ 19 := by
          intro i
          by_cases hi : i < 15
          · have : ∀ j, j < 15 → (bindL.getD j (0, 0, 0)).2.1 ≠ 19 := by decide
            exact this i hi
          · rw [List.getD_eq_getElem?_getD, List.getElem?_eq_none (by simp [bindL]; omega)]
            decide
        exact this _
      have r2 := ((NR.nxt hk).trans a1).add (d := ⟨(bindL.getD ((curT T s).k - 22) (0, 0, 0)).2.1, x.getD 1 0, u.getD 0 0, 0, 0, (bindL.getD ((curT T s).k - 22) (0, 0, 0)).2.2, [], (curT T s).p⟩) (by show x.getD 1 0 < _; omega) a3 (by show 0 < _; omega) rfl
      obtain ⟨b1, b2, b3⟩ := C.p1 r2.k (by show s2.nodes.length < _; rw [nl_add]; omega) h2
      have q0 := qC_pos s2 (u.getD 0 0)
      have q1 := qC_pos s (x.getD 1 0)
      refine ⟨(r2.trans b1).le' ?_, ?_, b3⟩
      · have : qC (s2.add ⟨(bindL.getD ((curT T s).k - 22) (0, 0, 0)).2.1, x.getD 1 0, u.getD 0 0, 0, 0, (bindL.getD ((curT T s).k - 22) (0, 0, 0)).2.2, [], (curT T s).p⟩) s2.nodes.length = 0 := qC_add _ _ hkk
        show _ ≤ 1 + qC s2 (u.getD 0 0) - 1 + (qC s' (v.getD 0 0) - qC _ s2.nodes.length)
        rw [this]
        omega
      · have : s2.nodes.length ≤ v.getD 0 0 := b2
        omega
theorem NA.s2 (C : NA T n) (hk : NK s.nodes) (h : parN T (n + 1) 2 room x s = .inr (v, s')) : NR s s' (qC s' (v.getD 0 0)) ∧ s.nodes.length ≤ v.getD 0 0 ∧ v.getD 0 0 < s'.nodes.length := by
  unfold parN at h
  simp (config := {decide := true}) only [if_true, if_false] at h
  split at h
  · exact (failP_inr h).elim
  · split at h
    · obtain ⟨u, s2, h1, h2⟩ := PB_inr h
      obtain ⟨a1, a2, a3⟩ := C.p2 (s := s.nxt) hk h1
      have q0 := qC_pos s2 (u.getD 0 0)
      obtain ⟨b1, b2, b3, b4⟩ := ok_end (E := 0) h2 ((NR.nxt hk).trans a1) (by omega) a3 (by show 0 < _; omega) (by show 0 < _; omega) rfl (by simp)
      exact ⟨b1.le' (by omega), b2, b3⟩
    · exact C.p3 hk h
theorem NA.s3 (C : NA T n) (hk : NK s.nodes) (h : parN T (n + 1) 3 room x s = .inr (v, s')) : NR s s' (qC s' (v.getD 0 0)) ∧ s.nodes.length ≤ v.getD 0 0 ∧ v.getD 0 0 < s'.nodes.length := by
  unfold parN at h
  simp (config := {decide := true}) only [if_true, if_false] at h
  split at h
  · exact (failP_inr h).elim
  · obtain ⟨u, s1, h1, h2⟩ := PB_inr h
    obtain ⟨a1, a2, a3⟩ := C.p5 hk h1
    obtain ⟨b1, b2, b3⟩ := C.p4 (x := [u.getD 0 0]) a1.k a3 h2
    refine ⟨(a1.trans b1).le' ?_, ?_, b3⟩
    · show _ ≤ qC s1 (u.getD 0 0) + (_ - qC s1 (u.getD 0 0))
      omega
    · have : u.getD 0 0 ≤ v.getD 0 0 := b2
      omega
theorem NA.s4 (C : NA T n) (hk : NK s.nodes) (hx : x.getD 0 0 < s.nodes.length) (h : parN T (n + 1) 4 room x s = .inr (v, s')) : NR s s' (qC s' (v.getD 0 0) - qC s (x.getD 0 0)) ∧ x.getD 0 0 ≤ v.getD 0 0 ∧ v.getD 0 0 < s'.nodes.length := by
  unfold parN at h
  simp (config := {decide := true}) only [if_true, if_false] at h
  have q1 := qC_pos s (x.getD 0 0)
  have q2 := qC_pos s' (v.getD 0 0)
  split at h
  · obtain ⟨_, h2⟩ := nameP_out h
    have r0 : NR s s.nxt.nxt 2 := (NR.nxt hk).trans (NR.nxt (s := s.nxt) hk)
    have r1 := r0.add (d := ⟨16, 0, 0, 0, 0, 0, (curT T s.nxt).s, (curT T s.nxt).p⟩) (by show 0 < s.nodes.length; omega) (by show 0 < s.nodes.length; omega) (by show 0 < s.nodes.length; omega) rfl
    have r2 := r1.add (d := ⟨18, x.getD 0 0, s.nodes.length, 0, 0, 0, [], (curT T s).p⟩) (by rw [nl_add]; show x.getD 0 0 < s.nodes.length + 1; omega) (by rw [nl_add]; show s.nodes.length < s.nodes.length + 1; omega) (by rw [nl_add]; show 0 < s.nodes.length + 1; omega) rfl
    obtain ⟨b1, b2, b3⟩ := C.p4 r2.k (by show s.nodes.length + 1 < _; rw [nl_add, nl_add]; show _ < s.nodes.length + 1 + 1; omega) h2
    have b2' : s.nodes.length + 1 ≤ v.getD 0 0 := b2
    refine ⟨(r2.trans b1).le' ?_, by omega, b3⟩
    have : qC ((s.nxt.nxt.add ⟨16, 0, 0, 0, 0, 0, (curT T s.nxt).s, (curT T s.nxt).p⟩).add ⟨18, x.getD 0 0, s.nodes.length, 0, 0, 0, [], (curT T s).p⟩) (s.nodes.length + 1) = 0 := by
      have := qC_add (s.nxt.nxt.add ⟨16, 0, 0, 0, 0, 0, (curT T s.nxt).s, (curT T s.nxt).p⟩) ⟨18, x.getD 0 0, s.nodes.length, 0, 0, 0, [], (curT T s).p⟩ (by simp)
      rw [nl_add] at this
      exact this
    show _ ≤ 2 - 1 - 1 + (qC s' (v.getD 0 0) - qC _ (s.nodes.length + 1))
    rw [this]
    omega
  · split at h
    · obtain ⟨u, s1, h1, h2⟩ := PB_inr h
      obtain ⟨_, h2⟩ := expectP_out h2
      obtain ⟨a1, a2, a3⟩ := C.p0 (s := s.nxt) hk h1
      have l1 := a1.le
      rw [nl_nxt] at l1 a2
      have q0 := qC_pos s1 (u.getD 0 0)
      have r2 := (((NR.nxt hk).trans a1).trans (NR.nxt a1.k)).add (d := ⟨18, x.getD 0 0, u.getD 0 0, 0, 0, 0, [], (curT T s).p⟩) (by show x.getD 0 0 < s1.nodes.length; omega) a3 (by show 0 < s1.nodes.length; omega) rfl
      obtain ⟨b1, b2, b3⟩ := C.p4 r2.k (by show s1.nodes.length < _; rw [nl_add]; show _ < s1.nodes.length + 1; omega) h2
      have b2' : s1.nodes.length ≤ v.getD 0 0 := b2
      refine ⟨(r2.trans b1).le' ?_, by omega, b3⟩
      have : qC (s1.nxt.add ⟨18, x.getD 0 0, u.getD 0 0, 0, 0, 0, [], (curT T s).p⟩) s1.nodes.length = 0 := qC_add s1.nxt _ (by simp)
      show _ ≤ 1 + qC s1 (u.getD 0 0) + 1 - 1 + (qC s' (v.getD 0 0) - qC _ s1.nodes.length)
      rw [this]
      omega
    · split at h
      · obtain ⟨u, s1, h1, h2⟩ := PB_inr h
        obtain ⟨a1, a3⟩ := C.p6 (s := s.nxt) hk (by show 0 < s.nodes.length; omega) (by show 0 < s.nodes.length; omega) h1
        have l1 := a1.le
        rw [nl_nxt] at l1
        have r2 := ((NR.nxt hk).trans a1).add (d := ⟨19, x.getD 0 0, u.getD 0 0, 0, 0, 0, [], (curT T s).p⟩) (by show x.getD 0 0 < s1.nodes.length; omega) a3 (by show 0 < s1.nodes.length; omega) rfl
        obtain ⟨b1, b2, b3⟩ := C.p4 r2.k (by show s1.nodes.length < _; rw [nl_add]; omega) h2
        have b2' : s1.nodes.length ≤ v.getD 0 0 := b2
        refine ⟨(r2.trans b1).le' ?_, by omega, b3⟩
        have := qC_pos (s1.add ⟨19, x.getD 0 0, u.getD 0 0, 0, 0, 0, [], (curT T s).p⟩) s1.nodes.length
        show _ ≤ 1 + 1 - 1 + (qC s' (v.getD 0 0) - qC _ s1.nodes.length)
        omega
      · cases h
        refine ⟨(NR.refl hk).le' (by show qC s (x.getD 0 0) - _ ≤ _; omega), Nat.le_refl _, hx⟩
theorem NA.s5 (C : NA T n) (hk : NK s.nodes) (h : parN T (n + 1) 5 room x s = .inr (v, s')) : NR s s' (qC s' (v.getD 0 0)) ∧ s.nodes.length ≤ v.getD 0 0 ∧ v.getD 0 0 < s'.nodes.length := by
  unfold parN at h
  simp (config := {decide := true}) only [if_true, if_false] at h
  have n1 := hk.n1
  have leaf : ∀ {d : Nd}, okP s.nxt d = .inr (v, s') → d.a = 0 ∧ d.b = 0 ∧ d.c = 0 ∧ d.next = 0 ∧ d.k ≠ 19 → NR s s' (qC s' (v.getD 0 0)) ∧ s.nodes.length ≤ v.getD 0 0 ∧ v.getD 0 0 < s'.nodes.length := by
    intro d h ⟨e1, e2, e3, e4, e5⟩
    obtain ⟨b1, b2, b3, b4⟩ := ok_end (E := 0) h (NR.nxt hk) (by omega) (by rw [e1]; exact n1) (by rw [e2]; exact n1) (by rw [e3]; exact n1) e4 e5
    exact ⟨b1.le' (by omega), b2, b3⟩
  split at h
  · exact leaf h ⟨rfl, rfl, rfl, rfl, by simp⟩
  · split at h
    · exact leaf h ⟨rfl, rfl, rfl, rfl, by simp⟩
    · split at h
      · exact leaf h ⟨rfl, rfl, rfl, rfl, by simp⟩
      · split at h
        · exact leaf h ⟨rfl, rfl, rfl, rfl, by simp⟩
        · split at h
          · exact leaf h ⟨rfl, rfl, rfl, rfl, by simp⟩
          · split at h
            · exact leaf h ⟨rfl, rfl, rfl, rfl, by simp⟩
            · split at h
              · obtain ⟨u, s1, h1, h2⟩ := PB_inr h
                obtain ⟨_, h2⟩ := expectP_out h2
                obtain ⟨a1, a2, a3⟩ := C.p0 (s := s.nxt) hk h1
                cases h2
                exact ⟨(((NR.nxt hk).trans a1).trans (NR.nxt a1.k)).le' (by show qC s1 _ ≤ _; omega), a2, a3⟩
              · split at h
                · split at h
                  · exact (failP_inr h).elim
                  · obtain ⟨a1, a2, a3, a4⟩ := C.p7 (s := s.nxt) hk h
                    exact ⟨((NR.nxt hk).trans a1).le' (by omega), a2, a3⟩
                · split at h
                  · obtain ⟨u, s1, h1, h2⟩ := PB_inr h
                    obtain ⟨a1, a3⟩ := C.p6 (s := s.nxt) hk (by show 0 < s.nodes.length; omega) (by show 0 < s.nodes.length; omega) h1
                    obtain ⟨b1, b2, b3, b4⟩ := ok_end (E := 0) h2 ((NR.nxt hk).trans a1) (by omega) a3 (by show 0 < _; omega) (by show 0 < _; omega) rfl (by simp)
                    exact ⟨b1.le' (by omega), b2, b3⟩
                  · exact (failP_inr h).elim
end
end Go.Proofs.Qxb6500574aGreatDoor
