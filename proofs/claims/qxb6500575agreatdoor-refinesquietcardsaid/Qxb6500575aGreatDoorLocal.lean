import Derived.Test.Qxb6500575aGreatDoorCall
namespace Go.Proofs.Qxb6500575aGreatDoor
open Go Go.RowKit
set_option linter.unusedVariables false
set_option linter.unusedSimpArgs false

theorem ext_one (l : List UInt8) (j : Nat) (t : UInt8) (h : l[j]? = some t) : l.extract j (j + 1) = [t] := by
  have hj : j < l.length := (List.getElem?_eq_some_iff.1 h).1
  have ht : l[j] = t := (List.getElem?_eq_some_iff.1 h).2
  rw [List.extract_eq_take_drop, List.drop_eq_getElem_cons hj, ht]
  simp
theorem sv_ext (ps ls : List UInt8) (j : Nat) (t : UInt8) (h : (ps ++ ls)[j]? = some t) : Value.string (((⟨ps.toArray⟩ : ByteArray) ++ ⟨ls.toArray⟩).extract j (j + 1)) = sv [t] := by
  congr 1
  apply ByteArray.ext
  rw [ByteArray.data_extract, ByteArray.data_append]
  apply Array.toList_inj.1
  simp only [Array.toList_extract, Array.toList_append]
  exact ext_one _ _ _ (by simpa using h)

def Ck.local (s : Ck) (all : List UInt8) (op : Int) (j : Nat) : Ck × Int :=
  match all[j]? with
  | none => (s, 5)
  | some t => if op = 14 then s.pops [t] else s.swap [] [t]

set_option maxHeartbeats 1000000 in
theorem local_any (B bk : Nat) (fx : CkF) (L : CkL) (s : Ck) (op : Int) (j : Nat) (w : World) (h : CkRep B w bk fx L s) {b : Blk} {r : List Blk} (ht : s.Top b r) (hr : r.length ≤ 900) (hs : s.st.length ≤ 1000)
    {g f : Nat} {ps ls : List UInt8} (hu : fx.u = .pointer (some ⟨g, f * 4, none⟩)) (d0 : w.cell? ⟨g, f * 4, none⟩ = some (sv ps)) (d2 : w.cell? ⟨g, f * 4 + 2, none⟩ = some (sv ls)) (hgl : g < w.heap.size) (hpl : ps.length ≤ 500) (hll : ls.length ≤ 500) :
    Calls Tryz.prog 118 #[.pointer (some ⟨bk, 0, none⟩), .agg #[.int .i64 op, .int .i64 j, sv []]] w fun e w' => e = .returned (.int .i64 (s.local (ps ++ ls) op j).2) ∧ ∃ L', CkRep B w' bk fx L' (s.local (ps ++ ls) op j).1 ∧ CkStep w w' bk L L' := by
  have c1 := h.here.cell 1
  simp [hu] at c1
  have hb := h.here.lt
  have hb1 : bk < w.heap.size + 1 := by omega
  have hgl1 : g < w.heap.size + 1 := by omega
  have H : Hid (CkRep B w bk fx L s) := h
  have hal : (ps ++ ls).length = ps.length + ls.length := by simp
  by_cases hj : (ps ++ ls).length ≤ j
  · have e0 : s.local (ps ++ ls) op j = (s, 5) := by unfold Ck.local; rw [List.getElem?_eq_none hj]
    rw [e0]
    clear e0 h ht
    go_enter Tryz.func118, Tryz.ntmps118
    go_wp2
    go_quiet (fail)
    go_wp2
    go_ret
    exact ⟨rfl, L, (H.out.alloc _).drewN _, ((CkStep.refl _ _ _).alloc _).drewN _⟩
  · have hj' : j < (ps ++ ls).length := by omega
    obtain ⟨t, htt⟩ : ∃ t, (ps ++ ls)[j]? = some t := ⟨_, List.getElem?_eq_getElem hj'⟩
    by_cases h14 : op = 14
    · have e0 : s.local (ps ++ ls) op j = s.pops [t] := by unfold Ck.local; rw [htt]; simp only; rw [if_pos h14]
      rw [e0]
      have HC : Hid (∀ w', CkRep B w' bk fx L s → _) := fun w' h' => pops_any B bk fx L s [t] w' h' ht (by omega) hs (by simp)
      clear e0 h ht
      subst h14
      go_enter Tryz.func118, Tryz.ntmps118
      go_wp2
      go_quiet (fail)
      go_wp2_with fail
      rw [sv_ext ps ls j t htt]
      refine (HC.out _ ((H.out.alloc _).drewN _)).mono ?_
      rintro e w1 ⟨rfl, g1, g2⟩
      have FIN : Hid (_ ∧ _) := And.intro g1 ((((CkStep.refl w bk L).alloc _).drewN _).trans g2)
      clear g1 g2 HC H
      go_wp2
      go_ret
      exact ⟨rfl, _, FIN.out⟩
    · have h14' : (op == 14) = false := by rw [beq_eq_false_iff_ne]; exact h14
      have e0 : s.local (ps ++ ls) op j = s.swap [] [t] := by unfold Ck.local; rw [htt]; simp only; rw [if_neg h14]
      rw [e0]
      have HC : Hid (∀ w', CkRep B w' bk fx L s → _) := fun w' h' => swap_any B bk fx L s [] [t] w' h' ht (by omega) hs (by simp) (by simp)
      clear e0 h ht
      go_enter Tryz.func118, Tryz.ntmps118
      go_wp2
      go_quiet (fail)
      go_wp2_with fail
      rw [sv_ext ps ls j t htt]
      refine (HC.out _ ((H.out.alloc _).drewN _)).mono ?_
      rintro e w1 ⟨sa, sc, rfl, g1, g2⟩
      have FIN : Hid (_ ∧ _) := And.intro g1 ((((CkStep.refl w bk L).alloc _).drewN _).trans g2)
      clear g1 g2 HC H
      go_wp2
      go_ret
      exact ⟨rfl, _, FIN.out⟩
end Go.Proofs.Qxb6500575aGreatDoor
