/-
  moon: THE ARENA's LINKS AND ITS SIZE: every node is paid by a token. Plain; no memory, no walk.
-/
import Derived.Test.Qxb6500574aGreatDoorWNe
namespace Go.Proofs.Qxb6500574aGreatDoor
set_option linter.unusedVariables false
set_option linter.unusedSimpArgs false
/-- links -/
structure NK (N : List Nd) : Prop where
  n1 : 1 ≤ N.length
  all : ∀ i, i < N.length → (N.getD i nd0).a ≤ i - 1 ∧ (N.getD i nd0).b ≤ i - 1 ∧ (N.getD i nd0).c ≤ i - 1 ∧ ((N.getD i nd0).next = 0 ∨ (i < (N.getD i nd0).next ∧ (N.getD i nd0).next < N.length))
theorem NK.add {N : List Nd} {d : Nd} (h : NK N) (ha : d.a < N.length) (hb : d.b < N.length) (hc : d.c < N.length) (hn : d.next = 0) : NK (N ++ [d]) := by
  refine ⟨by simp, fun i hi => ?_⟩
  by_cases e : i < N.length
  · rw [getD_old e]
    obtain ⟨h1, h2, h3, h4⟩ := h.all i e
    refine ⟨h1, h2, h3, h4.imp_right fun h => ⟨h.1, ?_⟩⟩
    rw [List.length_append]
    exact Nat.lt_add_right _ h.2
  · have : i = N.length := by simp at hi; omega
    subst this
    rw [getD_last]
    exact ⟨by omega, by omega, by omega, .inl hn⟩
/-- two names -/
theorem NK.add2 {N : List Nd} {d d' : Nd} (h : NK N) (ha : d.a = 0 ∧ d.b = 0 ∧ d.c = 0) (hn : d.next = N.length + 1) (ha' : d'.a = 0 ∧ d'.b = 0 ∧ d'.c = 0) (hn' : d'.next = 0) : NK ((N ++ [d]) ++ [d']) := by
  refine ⟨by simp, fun i hi => ?_⟩
  have ln : ((N ++ [d]) ++ [d']).length = N.length + 2 := by simp
  have l1 : (N ++ [d]).length = N.length + 1 := by simp
  by_cases e : i < N.length
  · rw [getD_old (by rw [l1]; omega), getD_old e]
    obtain ⟨h1, h2, h3, h4⟩ := h.all i e
    exact ⟨h1, h2, h3, h4.imp_right fun h => ⟨h.1, by omega⟩⟩
  · by_cases e2 : i = N.length
    · subst e2
      rw [getD_old (by rw [l1]; omega), getD_last]
      exact ⟨by omega, by omega, by omega, .inr ⟨by omega, by omega⟩⟩
    · have : i = (N ++ [d]).length := by omega
      rw [this, getD_last]
      exact ⟨by omega, by omega, by omega, .inl hn'⟩
theorem NK.link {s : PSt} {l x : Nat} (h : NK s.nodes) (hl : l < x) (hx : x < s.nodes.length) : NK (s.link l x).nodes := by
  unfold PSt.link
  split
  · exact h
  · refine ⟨by simp; exact h.n1, fun i hi => ?_⟩
    simp only [List.length_set] at hi ⊢
    by_cases e : l = i
    · subst e
      rw [List.getD_eq_getElem?_getD, List.getElem?_set_self hi]
      obtain ⟨h1, h2, h3, _⟩ := h.all l hi
      exact ⟨h1, h2, h3, .inr ⟨hl, hx⟩⟩
    · rw [List.getD_eq_getElem?_getD, List.getElem?_set_ne e, ← List.getD_eq_getElem?_getD]
      exact h.all i hi
structure NR (s s' : PSt) (D : Int) : Prop where
  k : NK s'.nodes
  le : s.nodes.length ≤ s'.nodes.length
  bk : (s.i : Int) - s.nodes.length + D ≤ (s'.i : Int) - s'.nodes.length
theorem NR.trans {s s1 s2 : PSt} {D E : Int} (h : NR s s1 D) (g : NR s1 s2 E) : NR s s2 (D + E) := ⟨g.k, Nat.le_trans h.le g.le, by have := h.bk; have := g.bk; omega⟩
theorem NR.le' {s s' : PSt} {D E : Int} (h : NR s s' D) (e : E ≤ D) : NR s s' E := ⟨h.k, h.le, by have := h.bk; omega⟩
theorem NR.refl {s : PSt} (h : NK s.nodes) : NR s s 0 := ⟨h, Nat.le_refl _, by omega⟩
theorem NR.nxt {s : PSt} (h : NK s.nodes) : NR s s.nxt 1 := ⟨h, Nat.le_refl _, by show _ ≤ ((s.i + 1 : Nat) : Int) - (s.nodes.length : Int); omega⟩
theorem NR.add {s s' : PSt} {D : Int} {d : Nd} (h : NR s s' D) (ha : d.a < s'.nodes.length) (hb : d.b < s'.nodes.length) (hc : d.c < s'.nodes.length) (hn : d.next = 0) : NR s (s'.add d) (D - 1) :=
  ⟨h.k.add ha hb hc hn, by rw [add_len]; have := h.le; omega, by rw [add_len]; have := h.bk; show _ ≤ (s'.i : Int) - _; omega⟩
theorem NR.link {s s' : PSt} {D : Int} {l x : Nat} (h : NR s s' D) (hl : l < x) (hx : x < s'.nodes.length) : NR s (s'.link l x) D :=
  ⟨h.k.link hl hx, by rw [link_len]; exact h.le, by rw [link_len, (link_same s' l x).1]; exact h.bk⟩
/-- the same nodes, the same place -/
theorem NR.as {s s' s2 : PSt} {D : Int} (h : NR s s' D) (hn : s2.nodes = s'.nodes) (hi : s2.i = s'.i) : NR s s2 D := ⟨by rw [hn]; exact h.k, by rw [hn]; exact h.le, by rw [hn, hi]; exact h.bk⟩
theorem NR.from {s s' s2 : PSt} {D : Int} (h : NR s s' D) (hn : s2.nodes = s.nodes) (hi : s2.i = s.i) : NR s2 s' D := ⟨h.k, by rw [hn]; exact h.le, by rw [hn, hi]; exact h.bk⟩
/-- a call is worth one -/
def qC (s : PSt) (v : Nat) : Int := if (s.nodes.getD v nd0).k = 19 then 1 else 0
theorem qC_pos (s : PSt) (v : Nat) : 0 ≤ qC s v ∧ qC s v ≤ 1 := by unfold qC; split <;> omega
theorem qC_add (s : PSt) (d : Nd) (h : d.k ≠ 19) : qC (s.add d) s.nodes.length = 0 := by
  unfold qC PSt.add
  rw [getD_last, if_neg h]
theorem qC_call (s : PSt) (d : Nd) : qC (s.add d) s.nodes.length ≤ 1 := (qC_pos _ _).2
structure NA (T : List Tok) (n : Nat) : Prop where
  p0 : ∀ {room x s v s'}, NK s.nodes → parN T n 0 room x s = .inr (v, s') → NR s s' (qC s' (v.getD 0 0)) ∧ s.nodes.length ≤ v.getD 0 0 ∧ v.getD 0 0 < s'.nodes.length
  p1 : ∀ {room x s v s'}, NK s.nodes → x.getD 1 0 < s.nodes.length → parN T n 1 room x s = .inr (v, s') → NR s s' (qC s' (v.getD 0 0) - qC s (x.getD 1 0)) ∧ x.getD 1 0 ≤ v.getD 0 0 ∧ v.getD 0 0 < s'.nodes.length
  p2 : ∀ {room x s v s'}, NK s.nodes → parN T n 2 room x s = .inr (v, s') → NR s s' (qC s' (v.getD 0 0)) ∧ s.nodes.length ≤ v.getD 0 0 ∧ v.getD 0 0 < s'.nodes.length
  p3 : ∀ {room x s v s'}, NK s.nodes → parN T n 3 room x s = .inr (v, s') → NR s s' (qC s' (v.getD 0 0)) ∧ s.nodes.length ≤ v.getD 0 0 ∧ v.getD 0 0 < s'.nodes.length
  p4 : ∀ {room x s v s'}, NK s.nodes → x.getD 0 0 < s.nodes.length → parN T n 4 room x s = .inr (v, s') → NR s s' (qC s' (v.getD 0 0) - qC s (x.getD 0 0)) ∧ x.getD 0 0 ≤ v.getD 0 0 ∧ v.getD 0 0 < s'.nodes.length
  p5 : ∀ {room x s v s'}, NK s.nodes → parN T n 5 room x s = .inr (v, s') → NR s s' (qC s' (v.getD 0 0)) ∧ s.nodes.length ≤ v.getD 0 0 ∧ v.getD 0 0 < s'.nodes.length
  p6 : ∀ {room x s v s'}, NK s.nodes → x.getD 3 0 < s.nodes.length → x.getD 4 0 < s.nodes.length → parN T n 6 room x s = .inr (v, s') → NR s s' 1 ∧ v.getD 0 0 < s'.nodes.length
  p7 : ∀ {room x s v s'}, NK s.nodes → parN T n 7 room x s = .inr (v, s') → NR s s' 0 ∧ s.nodes.length ≤ v.getD 0 0 ∧ v.getD 0 0 < s'.nodes.length ∧ qC s' (v.getD 0 0) = 0
  p8 : ∀ {room x s v s'}, NK s.nodes → x.getD 1 0 < s.nodes.length → x.getD 2 0 < s.nodes.length → parN T n 8 room x s = .inr (v, s') → NR s s' 1 ∧ v.getD 0 0 < s'.nodes.length
  p9 : ∀ {room x s v s'}, NK s.nodes → parN T n 9 room x s = .inr (v, s') → NR s s' 0 ∧ v.getD 0 0 < s'.nodes.length
  p10 : ∀ {room x s v s'}, NK s.nodes → x.getD 1 0 < s.nodes.length → x.getD 2 0 < s.nodes.length → parN T n 10 room x s = .inr (v, s') → NR s s' 0 ∧ v.getD 0 0 < s'.nodes.length
  p11 : ∀ {room x s v s'}, NK s.nodes → parN T n 11 room x s = .inr (v, s') → NR s s' 0 ∧ s.nodes.length ≤ v.getD 0 0 ∧ v.getD 0 0 < s'.nodes.length
  p12 : ∀ {room x s v s'}, NK s.nodes → parN T n 12 room x s = .inr (v, s') → NR s s' 0 ∧ s.nodes.length ≤ v.getD 0 0 ∧ v.getD 0 0 < s'.nodes.length
  p13 : ∀ {room x s v s'}, NK s.nodes → parN T n 13 room x s = .inr (v, s') → NR s s' 0 ∧ s.nodes.length ≤ v.getD 0 0 ∧ v.getD 0 0 < s'.nodes.length
  p14 : ∀ {room x s v s'}, NK s.nodes → parN T n 14 room x s = .inr (v, s') → NR s s' 0 ∧ s.nodes.length ≤ v.getD 0 0 ∧ v.getD 0 0 < s'.nodes.length
  p15 : ∀ {room x s v s'}, NK s.nodes → parN T n 15 room x s = .inr (v, s') → NR s s' 0 ∧ v.getD 0 0 < s'.nodes.length
  p16 : ∀ {room x s v s'}, NK s.nodes → parN T n 16 room x s = .inr (v, s') → NR s s' (-1) ∧ s.nodes.length ≤ v.getD 0 0 ∧ v.getD 0 0 < s'.nodes.length
theorem NA.zero (T : List Tok) : NA T 0 := by
  constructor <;> intros <;> (exfalso; have h := ‹parN T 0 _ _ _ _ = .inr _›; cases h)
section
variable {T : List Tok} {n room : Nat} {x : List Nat} {s s' : PSt} {v : List Nat}
/-- one more node: the end of a task -/
theorem ok_end {d : Nd} {s0 s1 : PSt} {D E : Int} (h : okP s1 d = .inr (v, s')) (r : NR s0 s1 D) (hE : E + 1 ≤ D) (ha : d.a < s1.nodes.length) (hb : d.b < s1.nodes.length) (hc : d.c < s1.nodes.length) (hn : d.next = 0) (hk : d.k ≠ 19) : NR s0 s' E ∧ s0.nodes.length ≤ v.getD 0 0 ∧ v.getD 0 0 < s'.nodes.length ∧ qC s' (v.getD 0 0) = 0 := by
  have e := okP_inr h
  simp only [Prod.mk.injEq] at e
  obtain ⟨rfl, rfl⟩ := e
  exact ⟨(r.add ha hb hc hn).le' (by omega), r.le, by rw [add_len]; exact Nat.lt_succ_self _, qC_add _ _ hk⟩
end
end Go.Proofs.Qxb6500574aGreatDoor
