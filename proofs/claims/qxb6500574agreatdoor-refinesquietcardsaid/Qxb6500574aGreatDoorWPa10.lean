/-
  THE WALK of the parser layer: the parser: a list that grows.
-/
import Derived.Test.Qxb6500574aGreatDoorWPa9
namespace Go.Proofs.Qxb6500574aGreatDoor
open Go Go.RowKit
set_option linter.unusedVariables false
set_option linter.unusedSimpArgs false
open Go.Lib
theorem row_list : IsRow Tryz.prog 148 206 .nilIface 1 16 := ⟨by kernel_rfl, by kernel_rfl, rfl, by decide⟩
theorem link_at (s : PSt) (l x i : Nat) : (s.link l x).nodes.getD i nd0 = if i = l ∧ l ≠ 0 ∧ l < s.nodes.length then { s.nodes.getD l nd0 with next := x } else s.nodes.getD i nd0 := by
  unfold PSt.link
  by_cases h0 : l = 0
  · rw [if_pos h0, if_neg (by omega)]
  · rw [if_neg h0]
    show (s.nodes.set l _).getD i nd0 = _
    by_cases hc : i = l ∧ l ≠ 0 ∧ l < s.nodes.length
    · rw [if_pos hc]
      obtain ⟨rfl, _, hl⟩ := hc
      rw [List.getD_eq_getElem?_getD, List.getElem?_set_self hl]
      rfl
    · rw [if_neg hc]
      by_cases hi : l = i
      · subst hi
        have hl : ¬ l < s.nodes.length := fun x => hc ⟨rfl, h0, x⟩
        rw [List.set_eq_of_length_le (by omega)]
      · rw [List.getD_eq_getElem?_getD, List.getElem?_set_ne hi, List.getD_eq_getElem?_getD]
/-- a list under way -/
structure LsI (w w1 : World) (s s1 : PSt) (sl2 : Sl) (ms : List Mb) (first last : Nat) : Prop where
  own : w1.ownsRow 0 206 1 (sl2.v ms.length) ms.length (ms.map fun x => x.2.2)
  fz : ∀ g, (sl2.v ms.length).ownBlock = some g → w.heap.size ≤ g
  e0 : ms = [] → sl2 = sl0
  l : Lst s1.nodes (s.nodes.length - 1) (s1.nodes.length - 1) first ms
  la : (ms = [] → last = 0) ∧ (ms ≠ [] → last = s1.nodes.length - 1)
  t : ∀ x ∈ ms, TrA w1 (fun k => Fz w.heap.size w1.heap.size k ∧ (sl2.v ms.length).ownBlock ≠ some k) s1.nodes x.1 x.2.1 x.2.2
  kp : Kpt s s1
  ok : SOk s1
  n1 : 1 ≤ s.nodes.length
section
variable {w w1 w2 : World} {o : Nat → Nat} {bp : Nat} {sl sl2 : Sl} {T : List Tok} {s s1 s2 : PSt} {n room : Nat} {ms : List Mb} {first last : Nat}
theorem LsI.nil (k : SOk s) : LsI w w1 s s sl0 [] 0 0 :=
  ⟨⟨rfl, .inl ⟨rfl, rfl⟩⟩, (fun g hg => by simp [sl0, Sl.v, Value.ownBlock] at hg), fun _ => rfl, ⟨rfl, rfl⟩, ⟨fun _ => rfl, fun h => absurd rfl h⟩, (fun x hx => by cases hx), Kpt.refl k, k, k.n1⟩
theorem LsI.stp (h : LsI w w1 s s1 sl2 ms first last) (t : Stp (fun l => l = 1043) w1 o w2 o) (ow : Ow w o) (al : Alike s1 s2) : LsI w w2 s s2 sl2 ms first last := by
  refine ⟨owns_fr h.own t.fr (fun g hg => by rw [ow g (h.fz g hg)]; decide), h.fz, h.e0, by rw [al.n]; exact h.l, by rw [al.n]; exact h.la, fun x hx => ?_, h.kp.alike (Alike.refl _) al, al.sok h.ok, h.n1⟩
  rw [al.n]
  refine (h.t x hx).up (fun k hk => ⟨⟨⟨hk.1.1, Nat.lt_of_lt_of_le hk.1.2 t.fr.size⟩, hk.2⟩, t.fr.block k hk.1.2 ?_⟩) (fun _ _ _ => rfl) rfl
  rw [ow k hk.1.1]
  decide
/-- one more member -/
theorem LsI.snoc {w4 w5 w6 : World} {s4 s5 : PSt} {v g cap : Nat} {V : Value} {b : Obj} (h : LsI w w4 s s4 sl2 ms first last) (hw : w.heap.size ≤ w4.heap.size) (X : ExS w4 o bp T sl s4 s5 v w5 V) (t : Stp (fun l => l = 1043) w4 o w5 o) (ow : Ow w o)
    (q1 : w6.ownsRow 0 206 1 (.slice (some ⟨g, 0, none⟩) (ms.length + 1) cap) (ms.length + 1) ((ms.map fun x => x.2.2) ++ [V])) (q2 : Fr (fun k => (sl2.v ms.length).ownBlock = some k) (w5.alloc b) w6) (q3 : (sl2.v ms.length).ownBlock = some g ∨ g = w5.heap.size + 1) (q4 : g < w6.heap.size) :
    LsI w w6 s (s5.link last v) ⟨some ⟨g, 0, none⟩, cap⟩ (ms ++ [(s4.nodes.length - 1, v, V)]) (if last = 0 then v else first) v := by
  have h5 := h.stp (s2 := s4) t ow (Alike.refl _)
  have f := X.f
  have k1 := h.kp.le
  have n1 := h.n1
  have n4 := h.ok.n1
  have lt5 := f.lt
  have ve5 := f.ve
  have z5 := t.fr.size
  have z6 : w5.heap.size + 1 ≤ w6.heap.size := by
    have := q2.size
    simpa using this
  have hlast : last = 0 ∨ last = s4.nodes.length - 1 := by
    by_cases hm : ms = []
    · exact .inl (h.la.1 hm)
    · exact .inr (h.la.2 hm)
  have hfresh : ∀ k, w.heap.size ≤ k → k < w5.heap.size → (sl2.v ms.length).ownBlock ≠ some k → (Value.slice (some ⟨g, 0, none⟩) (ms.length + 1) cap).ownBlock ≠ some k ∧ w6.heap[k]? = w5.heap[k]? := by
    intro k k1 k2 k3
    refine ⟨fun e => ?_, ?_⟩
    · simp [Value.ownBlock] at e
      subst e
      rcases q3 with q3 | q3
      · exact k3 q3
      · omega
    · rw [q2.block k (by simp; omega) k3]
      exact heap_old w5 b k2
  have hold : ∀ i, i < s4.nodes.length → (last = 0 ∨ i ≠ last) → (s5.link last v).nodes.getD i nd0 = s4.nodes.getD i nd0 := fun i hi hne => by
    rw [link_at, if_neg (by omega)]
    exact f.kp.old i hi
  have hcut : ∀ i, i < s4.nodes.length → ((s5.link last v).nodes.getD i nd0).cut = (s4.nodes.getD i nd0).cut := fun i hi => by
    rw [link_at]
    split
    · rename_i e
      obtain ⟨e1, _, _⟩ := e
      subst e1
      rw [f.kp.old i hi]
      rfl
    · rw [f.kp.old i hi]
  have hv : (s5.link last v).nodes.getD v nd0 = s5.nodes.getD v nd0 := by rw [link_at, if_neg (by omega)]
  have hll : (s5.link last v).nodes.length = s5.nodes.length := link_len s5 last v
  have hlen : (ms ++ [(s4.nodes.length - 1, v, V)]).length = ms.length + 1 := by simp
  refine ⟨?_, fun g' hg' => ?_, fun e => by simp at e, ?_, ⟨fun e => by simp at e, fun _ => by rw [hll]; omega⟩, fun x hx => ?_, ?_, ?_, n1⟩
  · rw [hlen, List.map_append]
    exact q1
  · simp [Sl.v, Value.ownBlock] at hg'
    subst hg'
    rcases q3 with q3 | q3
    · exact h.fz g q3
    · omega
  · rw [hll, show s5.nodes.length - 1 = v by omega]
    have := Lst.snoc (N' := (s5.link last v).nodes) (x := (s4.nodes.length - 1, v, V)) h.l rfl (by dsimp only; omega) (by dsimp only; rw [hv]; exact f.nx) (fun i a1 a2 => hold i (by omega) (by omega)) (fun a1 => by
      have hm : ms ≠ [] := fun e => by
        have := h.l
        rw [e] at this
        have := this.1
        omega
      have hl := h.la.2 hm
      rw [← hl, link_at, if_pos ⟨rfl, by omega, by have := f.kp.le; omega⟩])
    have e : (if ms = [] then v else first) = (if last = 0 then v else first) := by
      by_cases hm : ms = []
      · rw [if_pos hm, if_pos (h.la.1 hm)]
      · have hl := h.la.2 hm
        have hne : last ≠ 0 := by
          intro e0
          have := h.l
          cases ms with
          | nil => exact hm rfl
          | cons y r =>
            have g1 := this.2.1
            have g2 := Lst.le this.2.2.2
            omega
        rw [if_neg hm, if_neg hne]
    rw [← e]
    exact this
  · rw [hlen]
    rcases List.mem_append.1 hx with hx | hx
    · have hm := h.l.mem x hx
      refine (h5.t x hx).up (fun k hk => ?_) (fun i a1 a2 => ?_) ?_
      · obtain ⟨a1, a2⟩ := hfresh k hk.1.1 hk.1.2 hk.2
        exact ⟨⟨⟨hk.1.1, by have := hk.1.2; omega⟩, a1⟩, a2⟩
      · exact hold i (by omega) (by omega)
      · exact hcut _ (by omega)
    · rcases List.mem_singleton.1 hx with rfl
      refine X.t.up (fun k hk => ?_) (fun i a1 a2 => ?_) (by rw [hv])
      · obtain ⟨a1, a2⟩ := hfresh k (Nat.le_trans hw hk.1) hk.2 (fun e => by
          have := owns_lt h.own k e
          have := hk.1
          omega)
        exact ⟨⟨⟨Nat.le_trans hw hk.1, by have := hk.2; omega⟩, a1⟩, a2⟩
      · rw [link_at, if_neg (by omega)]
  · have ks := h.kp.trans f.kp
    obtain ⟨c1, c2, c3, c4⟩ := link_same s5 last v
    refine ⟨by rw [hll]; exact ks.le, fun i hi => ?_, by rw [c4]; exact ks.fu, by rw [c4]; exact ks.f12, by rw [c3]; exact ks.lp⟩
    rw [← h.kp.old i hi]
    refine hold i (by omega) ?_
    by_cases hm : ms = []
    · exact .inl (h.la.1 hm)
    · right
      intro e
      have hl := h.la.2 hm
      have := h.l
      cases ms with
      | nil => exact hm rfl
      | cons y r =>
        have g1 := this.2.1
        have g2 := Lst.le this.2.2.2
        omega
  · obtain ⟨c1, c2, c3, c4⟩ := link_same s5 last v
    exact ⟨by rw [hll]; exact f.ok.n1, by rw [c4]; exact f.ok.fu, by rw [c2]; exact f.ok.al⟩
/-- the finished list -/
theorem LsI.fin (h : LsI w w1 s s1 sl2 ms first last) (r : PRep w1 o bp T sl s1) (al : s1.alive = s.alive) : ∃ m, LsS w o bp T sl s s1 first w1 (sl2.v ms.length) ms m := by
  by_cases hm : ms = []
  · subst hm
    have := h.e0 rfl
    subst this
    exact ⟨[], r, ⟨h.kp, h.ok, al⟩, h.l, (fun x hx => by cases hx), .inl ⟨rfl, rfl, rfl⟩, Mm.nil _ _⟩
  · have hp : 0 < ms.length := List.length_pos_iff.2 hm
    obtain ⟨g, ha, hc⟩ := owns_some h.own hp
    have hg : (sl2.v ms.length).ownBlock = some g := by
      unfold Sl.v
      rw [ha]
      rfl
    obtain ⟨cs, hcs⟩ := owns_typed h.own hg
    refine ⟨[(g, cs, 206)], r, ⟨h.kp, h.ok, al⟩, h.l, fun x hx => (h.t x hx).up (fun k hk => ⟨hk.1, rfl⟩) (fun _ _ _ => rfl) rfl, .inr ⟨g, sl2.c, cs, ?_, hm, ?_, fun i x hx => ?_, rfl⟩, Mm.cons ⟨h.fz g hg, hcs.lt⟩ hcs (Mm.nil _ _)⟩
    · unfold Sl.v
      rw [ha]
    · rcases owns_form h.own with ⟨_, h0, _⟩ | ⟨_, _, h1⟩
      · omega
      · exact h1
    · have hi := (List.getElem?_eq_some_iff.1 hx).1
      have e1 := hc i (by omega)
      rw [hcs.cell, List.getElem?_map, hx] at e1
      exact e1
end
end Go.Proofs.Qxb6500574aGreatDoor
