import Derived.Test.Qxb6500575aGreatDoorTurn
namespace Go.Proofs.Qxb6500575aGreatDoor
open Go Go.RowKit
set_option linter.unusedVariables false
set_option linter.unusedSimpArgs false

theorem Ck.jump_opn_len (s : Ck) (op : Int) (l : Nat) : (s.jump op l).1.opn.length = s.opn.length := by
  unfold Ck.jump
  split
  · rfl
  · simp only; split <;> simp
theorem Ck.jump_st (s : Ck) (op : Int) (l : Nat) : (s.jump op l).1.st = s.st := by
  unfold Ck.jump
  split <;> rfl
theorem Ck.jump_code_len (s : Ck) (op : Int) (l : Nat) (h : l < s.opn.length) : (s.jump op l).1.code.length = s.code.length + 1 := by
  unfold Ck.jump
  rw [List.getElem?_eq_getElem h]
  simp
theorem Ck.jump_at (s : Ck) (op : Int) (l i : Nat) {b : Blk} (hb : s.opn[i]? = some b) : ∃ b', (s.jump op l).1.opn[i]? = some b' ∧ b'.res = b.res ∧ b'.carry = b.carry ∧ b'.height = b.height ∧ b'.head = b.head ∧ b'.dead = b.dead ∧ b'.alt = b.alt ∧ b'.wait.length ≤ b.wait.length + 1 := by
  unfold Ck.jump
  split
  · exact ⟨b, hb, rfl, rfl, rfl, rfl, rfl, rfl, Nat.le_succ _⟩
  · rename_i bl hbl
    simp only
    split
    · rw [List.getElem?_set]
      split
      · rename_i hil
        subst hil
        obtain rfl : b = bl := by have := hb.symm.trans hbl; simpa using this
        have : l < s.opn.length := (List.getElem?_eq_some_iff.1 hb).1
        simp only [this, if_true]
        exact ⟨_, rfl, rfl, rfl, rfl, rfl, rfl, rfl, by simp⟩
      · exact ⟨b, hb, rfl, rfl, rfl, rfl, rfl, rfl, Nat.le_succ _⟩
    · exact ⟨b, hb, rfl, rfl, rfl, rfl, rfl, rfl, Nat.le_succ _⟩
theorem Ck.jump_top {s : Ck} {b : Blk} {r : List Blk} (h : s.Top b r) (op : Int) (l : Nat) : ∃ b' r', (s.jump op l).1.Top b' r' ∧ r'.length = r.length ∧ b'.height = b.height ∧ b'.res = b.res := by
  obtain ⟨b', hb', h1, _, h3, _⟩ := s.jump_at op l 0 (b := b) (by rw [h.opn]; rfl)
  have hlen := s.jump_opn_len op l
  cases ho : (s.jump op l).1.opn with
  | nil => rw [ho] at hb'; simp at hb'
  | cons x xs =>
    rw [ho] at hb' hlen
    simp at hb'
    subst hb'
    refine ⟨x, xs, ⟨ho, ?_⟩, ?_, h3, h1⟩
    · rw [s.jump_st, h3]; exact h.fl
    · rw [h.opn] at hlen; simpa using hlen
/-- what a jump carries -/
theorem Ck.jump_carry (s : Ck) (op : Int) (l : Nat) {b : Blk} (h : s.opn[l]? = some b) : (s.jump op l).2 = b.carry := by
  unfold Ck.jump; rw [h]

def Ck.branch (s : Ck) (op : Int) (j : Nat) : Ck × Int :=
  if s.opn.length ≤ j then (s, 5) else
  if op = 6 then (s.jump op j).1.leaves (s.jump op j).2 else (s.jump op j).1.swap ((s.jump op j).2 ++ [105]) (s.jump op j).2

set_option maxHeartbeats 1000000 in
theorem branch_any (B bk : Nat) (fx : CkF) (L : CkL) (s : Ck) (op : Int) (j : Nat) (w : World) (h : CkRep B w bk fx L s) {b : Blk} {r : List Blk} (ht : s.Top b r) (hr : r.length ≤ 900) (hs : s.st.length ≤ 1000) (hc : s.code.length ≤ 900) (hw : ∀ b ∈ s.opn, b.wait.length ≤ 900) (hcr : ∀ b ∈ s.opn, b.carry.length ≤ 900) :
    Calls Tryz.prog 122 #[.pointer (some ⟨bk, 0, none⟩), .agg #[.int .i64 op, .int .i64 j, sv []]] w fun e w' => e = .returned (.int .i64 (s.branch op j).2) ∧ ∃ L', CkRep B w' bk fx L' (s.branch op j).1 ∧ CkStep w w' bk L L' := by
  have c3 := h.here.cell 3
  simp at c3
  have hb := h.here.lt
  have hb1 : bk < w.heap.size + 1 := by omega
  have hol : s.opn.length ≤ 1000 := by rw [ht.opn]; simp; omega
  by_cases hj : s.opn.length ≤ j
  · have e0 : s.branch op j = (s, 5) := by unfold Ck.branch; rw [if_pos hj]
    rw [e0]
    clear e0
    have H : Hid (CkRep B w bk fx L s) := h
    clear h ht hw hcr
    go_enter Tryz.func122, Tryz.ntmps122
    go_wp2
    go_quiet (fail)
    go_wp2
    go_ret
    exact ⟨rfl, L, (H.out.alloc _).drewN _, ((CkStep.refl _ _ _).alloc _).drewN _⟩
  · have hj' : j < s.opn.length := by omega
    have hbl : s.opn[j]? = some s.opn[j] := List.getElem?_eq_getElem hj'
    have hmem : s.opn[j] ∈ s.opn := List.getElem_mem hj'
    have HJ : Hid (∀ w', CkRep B w' bk fx L s → _) := fun w' h' => jump_any B bk fx L s op j w' h' hbl (by omega) hol (by have := hw _ hmem; omega)
    have hcl : (s.jump op j).2.length ≤ 900 := by rw [s.jump_carry op j hbl]; exact hcr _ hmem
    obtain ⟨b', r', ht', hr', _⟩ := Ck.jump_top ht op j
    have hst := s.jump_st op j
    have H : Hid (CkRep B w bk fx L s) := h
    by_cases h6 : op = 6
    · have e0 : s.branch op j = (s.jump op j).1.leaves (s.jump op j).2 := by unfold Ck.branch; rw [if_neg hj, if_pos h6]
      rw [e0]
      clear e0
      generalize s.jump op j = p at *
      obtain ⟨s1, carry⟩ := p
      simp only at HJ hcl ht' hst ⊢
      subst h6
      have HT' : Hid (s1.Top b' r') := ht'
      have HST : Hid (s1.st = s.st) := hst
      clear ht' hst h ht hw hcr hbl hmem
      go_enter Tryz.func122, Tryz.ntmps122
      go_wp2
      go_quiet (fail)
      go_wp2_with fail
      refine (HJ.out _ ((H.out.alloc _).drewN _)).mono ?_
      rintro e w1 ⟨rfl, ca, cc, ls, g1, g2⟩
      have G2 : Hid (CkStep w w1 bk L { L with ca := ca, cc := cc, ls := ls }) := (((CkStep.refl w bk L).alloc _).drewN _).trans g2
      have F0 := (((Has.new w #[.int .i64 6, .int .i64 j, sv []] 67)).drewN _).fr g2.fr (H.out.new (Nat.le_refl _))
      have d0 := F0.cell 0
      simp at d0
      have l0 := F0.lt
      have G1 : Hid (CkRep B w1 bk fx { L with ca := ca, cc := cc, ls := ls } s1) := g1
      clear g1 g2 HJ H F0
      go_wp2_with fail
      refine (leaves_any B bk fx _ s1 carry w1 G1.out HT'.out (by omega) (by rw [HST.out]; exact hs) (by omega)).mono ?_
      rintro e w2 ⟨rfl, g1, g2⟩
      have FIN : Hid (_ ∧ _) := And.intro g1 (G2.out.trans g2)
      clear g1 g2 G1 G2
      go_wp2
      go_ret
      exact ⟨rfl, _, FIN.out⟩
    · have h6' : (op == 6) = false := by rw [beq_eq_false_iff_ne]; exact h6
      have e0 : s.branch op j = (s.jump op j).1.swap ((s.jump op j).2 ++ [105]) (s.jump op j).2 := by unfold Ck.branch; rw [if_neg hj, if_neg h6]
      rw [e0]
      clear e0
      generalize s.jump op j = p at *
      obtain ⟨s1, carry⟩ := p
      simp only at HJ hcl ht' hst ⊢
      have HT' : Hid (s1.Top b' r') := ht'
      have HST : Hid (s1.st = s.st) := hst
      clear ht' hst h ht hw hcr hbl hmem
      go_enter Tryz.func122, Tryz.ntmps122
      go_wp2
      go_quiet (fail)
      go_wp2_with fail
      refine (HJ.out _ ((H.out.alloc _).drewN _)).mono ?_
      rintro e w1 ⟨rfl, ca, cc, ls, g1, g2⟩
      have G2 : Hid (CkStep w w1 bk L { L with ca := ca, cc := cc, ls := ls }) := (((CkStep.refl w bk L).alloc _).drewN _).trans g2
      have F0 := (((Has.new w #[.int .i64 op, .int .i64 j, sv []] 67)).drewN _).fr g2.fr (H.out.new (Nat.le_refl _))
      have d0 := F0.cell 0
      simp at d0
      have l0 := F0.lt
      have G1 : Hid (CkRep B w1 bk fx { L with ca := ca, cc := cc, ls := ls } s1) := g1
      clear g1 g2 HJ H F0
      go_wp2_with fail
      refine (swap_any B bk fx _ s1 (carry ++ [105]) carry w1 G1.out HT'.out (by omega) (by rw [HST.out]; exact hs) (by simp; omega) (by omega)).mono ?_
      rintro e w2 ⟨sa, sc, rfl, g1, g2⟩
      have FIN : Hid (_ ∧ _) := And.intro g1 (G2.out.trans g2)
      clear g1 g2 G1 G2
      go_wp2
      go_ret
      exact ⟨rfl, _, FIN.out⟩
end Go.Proofs.Qxb6500575aGreatDoor
