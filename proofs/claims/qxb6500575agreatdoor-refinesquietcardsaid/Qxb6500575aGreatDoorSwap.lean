import Derived.Test.Qxb6500575aGreatDoorPops
import Derived.Test.Qxb6500575aGreatDoorMem2
import Derived.Test.Qxb6500575aGreatDoorCk2
namespace Go.Proofs.Qxb6500575aGreatDoor
open Go Go.RowKit
set_option linter.unusedVariables false
set_option linter.unusedSimpArgs false
theorem rowByte : IsRow Tryz.prog 134 5 (.int .u8 0) 1 1 := ⟨by kernel_rfl, by kernel_rfl, rfl, by decide⟩

set_option maxHeartbeats 1000000 in
theorem swap_any (B bk : Nat) (fx : CkF) (L : CkL) (s : Ck) (i o : List UInt8) (w : World) (h : CkRep B w bk fx L s) {b : Blk} {r : List Blk} (ht : s.Top b r) (hr : r.length ≤ 1000) (hs : s.st.length ≤ 1000) (hi : i.length ≤ 1000) (ho : o.length ≤ 1000) :
    Calls Tryz.prog 125 #[.pointer (some ⟨bk, 0, none⟩), sv i, sv o] w fun e w' => ∃ sa sc, e = .returned (.int .i64 (s.swap i o).2) ∧ CkRep B w' bk fx { L with sa := sa, sc := sc } (s.swap i o).1 ∧ CkStep w w' bk L { L with sa := sa, sc := sc } := by
  go_enter Tryz.func125, Tryz.ntmps125
  go_wp2_with fail
  refine (pops_any B bk fx L s i w h ht hr hs hi).mono ?_
  rintro e w1 ⟨rfl, g1, g2⟩
  have hl := s.pops_len i
  have c2 := g1.here.cell 2
  simp at c2
  have f2 := g1.here.frozen 2
  go_wp2_with (at_builtin; refine wpList_appStr rowByte (by kernel_rfl) _ rfl (.tmp 15) (.tmp 16) rfl _ _ _ rfl g1.st o rfl (by omega) ?go)
  case go =>
    intro sa sc w2 q1 q2 q3
    have hne := owns_ne g1.st g1.here (by decide)
    have hH2 : Has w2 bk _ _ := g1.here.fr q2 hne
    have c2' := hH2.cell 2
    simp at c2'
    have f2' := hH2.frozen 2
    have hbs : (Value.slice sa ((s.pops i).1.st.length + o.length) sc).ownBlock ≠ some bk := owns_ne q1 hH2 (by decide)
    have fin := g1.putSt (o.reverse ++ (s.pops i).1.st) (w2 := w2.setCell ⟨bk, 2, none⟩ (.slice sa ((s.pops i).1.st.length + o.length) sc)) (sa2 := sa) (sc2 := sc)
      ((q2.weaken (S' := fun k => (L.stV (s.pops i).1).ownBlock = some k ∨ k = bk) (fun _ _ => .inl)).setCell (p := ⟨bk, 2, none⟩) (.inl (.inr rfl)) _)
      (by have := hH2.put 2 (.slice sa ((s.pops i).1.st.length + o.length) sc); rw [show (o.reverse ++ (s.pops i).1.st).length = (s.pops i).1.st.length + o.length by simp; omega]; exact this)
      (by
        rw [show (o.reverse ++ (s.pops i).1.st).length = (s.pops i).1.st.length + o.length by simp; omega]
        refine owns_other ?_ hbs _
        simpa [byteCells] using q1)
      (fun g hg => by
        rw [show (o.reverse ++ (s.pops i).1.st).length = (s.pops i).1.st.length + o.length by simp; omega] at hg
        exact q3 g hg)
    have FIN : Hid (_ ∧ _) := ⟨fin.1, g2.trans fin.2⟩
    clear fin q1 q2 q3 hne hH2 hbs g1 g2
    go_wp2
    go_ret
    exact ⟨sa, sc, rfl, FIN.out⟩
/-- the stack cut down: what lies in memory -/
theorem cut_rev (n : Nat) (st : List UInt8) (h : n ≤ st.length) : byteCells (cut n st).reverse = List.take (n * 1) (byteCells st.reverse) := by
  simp only [byteCells, cut, Nat.mul_one, ← List.map_take]
  congr 1
  rw [List.reverse_drop, Nat.sub_sub_self h]

/-- 'k.st = k.st[:n]' -/
theorem CkRep.cutSt {B : Nat} {w : World} {bk : Nat} {fx : CkF} {L : CkL} {s : Ck} (h : CkRep B w bk fx L s) (n : Nat) (hn : n ≤ s.st.length) :
    CkRep B (w.setCell ⟨bk, 2, none⟩ (.slice L.sa n L.sc)) bk fx L { s with st := cut n s.st } ∧ CkStep w (w.setCell ⟨bk, 2, none⟩ (.slice L.sa n L.sc)) bk L L := by
  have hot := owns_take h.st n hn
  have hbs : (Value.slice L.sa n L.sc).ownBlock ≠ some bk := owns_ne hot h.here (by decide)
  have := h.putSt (cut n s.st) (w2 := w.setCell ⟨bk, 2, none⟩ (.slice L.sa n L.sc)) (sa2 := L.sa) (sc2 := L.sc)
    (Fr.setCell (S := fun k => (L.stV s).ownBlock = some k ∨ k = bk) (Fr.refl _ _) (p := ⟨bk, 2, none⟩) (.inl (.inr rfl)) _) (by rw [cut_len hn]; exact h.here.put 2 _)
    (by rw [cut_len hn, cut_rev n s.st hn]; exact owns_other hot hbs _)
    (fun g hg => .inl (by rw [ownBlock_any _ _ _ s.st.length L.sc] at hg; exact hg))
  exact this

set_option maxHeartbeats 1000000 in
theorem leaves_any (B bk : Nat) (fx : CkF) (L : CkL) (s : Ck) (carry : List UInt8) (w : World) (h : CkRep B w bk fx L s) {b : Blk} {r : List Blk} (ht : s.Top b r) (hr : r.length ≤ 1000) (hs : s.st.length ≤ 1000) (hi : carry.length ≤ 1000) :
    Calls Tryz.prog 112 #[.pointer (some ⟨bk, 0, none⟩), sv carry] w fun e w' => e = .returned (.int .i64 (s.leaves carry).2) ∧ CkRep B w' bk fx L (s.leaves carry).1 ∧ CkStep w w' bk L L := by
  have hcall := pops_any B bk fx L s carry w h ht hr hs hi
  have ht1 := Ck.pops_top ht carry
  have hl1 := s.pops_len carry
  have e0 : s.leaves carry = ({ (s.pops carry).1 with st := cut b.height (s.pops carry).1.st, opn := { b with dead := true } :: r }, (s.pops carry).2) := by
    unfold Ck.leaves; rw [ht1.opn]
  rw [e0]
  clear e0
  generalize s.pops carry = p at *
  obtain ⟨s1, er⟩ := p
  simp only at hcall ht1 hl1 ⊢
  clear h ht
  go_enter Tryz.func112, Tryz.ntmps112
  go_wp2_with fail
  refine hcall.mono ?_
  clear hcall
  rintro e w1 ⟨rfl, g1, g2⟩
  obtain ⟨go, l, ha, hl, hc, hf, hlt, hbo⟩ := g1.at 0 (b := b) (by rw [ht1.opn]; rfl)
  have hol : s1.opn.length = r.length + 1 := by rw [ht1.opn]; rfl
  have fin : ∀ n v, v = Value.slice L.sa b.height L.sc → CkRep B (((w1.drewN n).setCell ⟨bk, 2, none⟩ v).setCell ⟨go, r.length * 7 + 4, none⟩ (.bool true)) bk fx L { s1 with st := cut b.height s1.st, opn := { b with dead := true } :: r } ∧
      CkStep w (((w1.drewN n).setCell ⟨bk, 2, none⟩ v).setCell ⟨go, r.length * 7 + 4, none⟩ (.bool true)) bk L L := by
    rintro n v rfl
    have q1 := (g1.drewN n).cutSt b.height ht1.fl
    have q2 := q1.1.setBlk 0 4 (b := b) (l := l) (go := go) (by simp [ht1.opn]) ha hl { b with dead := true } l (.bool true) (by decide) rfl rfl rfl (by
      obtain ⟨hA, _⟩ := q1.1.blk 0 b l (by simp [ht1.opn]) hl
      exact hA)
    have e1 : s1.opn.length - 1 - 0 = r.length := by omega
    have e2 : L.ls.set 0 l = L.ls := by
      cases hls : L.ls with
      | nil => rfl
      | cons x xs => rw [hls] at hl; simp at hl; simp [hl]
    have e3 : s1.opn.set 0 { b with dead := true } = { b with dead := true } :: r := by rw [ht1.opn]; rfl
    simp only [e1, e2, e3] at q2
    exact ⟨q2.1, (g2.drewN n).trans (q1.2.trans q2.2)⟩
  have FIN : Hid (∀ n, _) := fin
  clear fin
  have c2 := g1.here.cell 2
  have c3 := g1.here.cell 3
  have hh := hc 2 (by omega)
  have hd := hc 4 (by omega)
  rw [hol] at hh hd c3
  simp [blkCells, ha] at c2 c3 hh hd
  have f2 := g1.here.frozen 2
  have f4 := hf (r.length * 7 + 4)
  have hfl : b.height ≤ s1.st.length := ht1.fl
  rcases owns_form g1.st with ⟨n1, n2, n3⟩ | ⟨gs, n1, n2⟩
  · have hb0 : b.height = 0 := by omega
    have HV : Hid (Value.slice none 0 0 = .slice L.sa b.height L.sc) := by show _ = _; rw [n1, n3, hb0]
    rw [n1, n2, n3] at c2
    rw [hb0] at hh
    clear hb0 hfl n1 n2 n3
    clear g1 g2 hc hf ha
    go_wp2
    go_quiet (fail)
    go_wp2
    refine wp_region_tailA 11 1 (by kernel_rfl) (by kernel_rfl) (fun _ _ _ _ _ h => h) _ rfl ?_
    simp only [List.take_succ_cons, List.take_zero, List.drop_succ_cons, List.drop_zero, List.eraseIdx_cons_succ, List.eraseIdx_cons_zero]
    repeat go_big_quiet_step (fail)
    refine wpQuiet_nil ?_
    go_wp2
    go_ret
    exact ⟨rfl, FIN.out _ _ HV.out⟩
  · have HV : Hid (Value.slice (some ⟨gs, 0, none⟩) b.height L.sc = .slice L.sa b.height L.sc) := by show _ = _; rw [n1]
    rw [n1] at c2
    clear g1 g2 hc hf ha
    go_wp2
    go_quiet (fail)
    go_wp2
    refine wp_region_tailA 11 1 (by kernel_rfl) (by kernel_rfl) (fun _ _ _ _ _ h => h) _ rfl ?_
    simp only [List.take_succ_cons, List.take_zero, List.drop_succ_cons, List.drop_zero, List.eraseIdx_cons_succ, List.eraseIdx_cons_zero]
    repeat go_big_quiet_step (fail)
    refine wpQuiet_nil ?_
    go_wp2
    go_ret
    exact ⟨rfl, FIN.out _ _ HV.out⟩
end Go.Proofs.Qxb6500575aGreatDoor
