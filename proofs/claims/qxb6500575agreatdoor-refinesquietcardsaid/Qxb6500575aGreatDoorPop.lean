import Derived.Test.Qxb6500575aGreatDoorProg
import Derived.Test.Qxb6500575aGreatDoorPlain2
import Derived.Test.Qxb6500575aGreatDoorRegApp
namespace Go.Proofs.Qxb6500575aGreatDoor
open Go Go.RowKit
set_option linter.unusedVariables false
set_option linter.unusedSimpArgs false

set_option maxHeartbeats 1000000 in
theorem pop_any (B bk : Nat) (fx : CkF) (L : CkL) (s : Ck) (want : UInt8) (w : World) (h : CkRep B w bk fx L s) {b : Blk} {r : List Blk} (ht : s.Top b r) (hr : r.length ≤ 1000) (hs : s.st.length ≤ 1000) :
    Calls Tryz.prog 135 #[.pointer (some ⟨bk, 0, none⟩), .int .u8 want.toNat] w fun e w' => e = .returned (.tuple #[.int .u8 (s.pop want).2.1.toNat, .bool (s.pop want).2.2]) ∧ CkRep B w' bk fx L (s.pop want).1 ∧ CkStep w w' bk L L := by
  obtain ⟨go, l, ha, hl, hc, hf, hlt, hbo⟩ := h.at 0 (b := b) (by rw [ht.opn]; rfl)
  have hol : s.opn.length = r.length + 1 := by rw [ht.opn]; rfl
  have c2 := h.here.cell 2
  have c3 := h.here.cell 3
  have hh := hc 2 (by omega)
  have hd := hc 4 (by omega)
  rw [hol] at hh hd c3
  simp [blkCells, ha] at c2 c3 hh hd
  have f2 := h.here.frozen 2
  by_cases hq : s.st.length = b.height
  · have e0 : s.pop want = (s, want, b.dead) := by simp [Ck.pop, ht.opn, hq]
    rw [e0]
    rw [← hq] at hh
    go_enter Tryz.func135, Tryz.ntmps135
    go_wp2
    go_quiet (fail)
    go_wp2
    go_quiet (fail)
    go_wp2
    go_quiet (fail)
    go_wp2
    go_ret2
    exact ⟨rfl, (((h.drewN _).drewN _).drewN _), ((((CkStep.refl _ _ _).drewN _).drewN _).drewN _)⟩
  · have hne : s.st ≠ [] := by intro e; have := ht.fl; rw [e] at this hq; simp at this hq; omega
    obtain ⟨t, st', hst⟩ := List.exists_cons_of_ne_nil hne
    have hsl : s.st.length = st'.length + 1 := by rw [hst]; rfl
    obtain ⟨gs, hsa, hct⟩ := h.stTop hst
    have hqn : ((st'.length + 1 : Nat) : Int) ≠ (b.height : Int) := by omega
    have hcap : st'.length + 1 ≤ L.sc := by
      rcases owns_form h.st with ⟨_, h1, _⟩ | ⟨_, _, h1⟩ <;> omega
    rw [hsl, hsa] at c2
    -- what is left behind the store
    have fin : ∀ n, CkRep B ((w.drewN n).setCell ⟨bk, 2, none⟩ (.slice (some ⟨gs, 0, none⟩) st'.length L.sc)) bk fx L { s with st := st' } ∧ CkStep w ((w.drewN n).setCell ⟨bk, 2, none⟩ (.slice (some ⟨gs, 0, none⟩) st'.length L.sc)) bk L L := by
      intro n
      have h' := h.drewN n
      have hot := owns_take h'.st st'.length (by omega)
      rw [hsa] at hot
      have hbs : (Value.slice (some ⟨gs, 0, none⟩) st'.length L.sc).ownBlock ≠ some bk := owns_ne hot h'.here (by decide)
      have := h'.putSt st' (w2 := (w.drewN n).setCell ⟨bk, 2, none⟩ (.slice (some ⟨gs, 0, none⟩) st'.length L.sc)) (sa2 := some ⟨gs, 0, none⟩) (sc2 := L.sc)
        (Fr.setCell (S := fun k => (L.stV s).ownBlock = some k ∨ k = bk) (Fr.refl _ _) (p := ⟨bk, 2, none⟩) (.inl (.inr rfl)) _) (h'.here.put 2 _)
        (owns_other (by
          have e : byteCells st'.reverse = List.take (st'.length * 1) (byteCells s.st.reverse) := by rw [hst]; simp [byteCells]
          rw [e]; exact hot) hbs _)
        (fun g hg => .inl (by rw [CkL.stV, hsa]; exact hg))
      have hL : { L with sa := some ⟨gs, 0, none⟩, sc := L.sc } = L := by cases L; simp at hsa; simp [hsa]
      rw [hL] at this
      exact ⟨this.1, (((CkStep.refl w bk L).drewN n)).trans this.2⟩
    have FIN : Hid (∀ n, _) := fin
    clear fin
    by_cases h0 : t = 0
    · have e0 : s.pop want = ({ s with st := st' }, want, true) := by simp [Ck.pop, ht.opn, hst, h0]; intro e; rw [hst] at hq; simp at hq; omega
      rw [e0]
      subst h0
      go_enter Tryz.func135, Tryz.ntmps135
      go_wp2
      go_quiet (fail)
      go_wp2
      go_quiet (fail)
      go_wp2
      go_quiet (fail)
      go_wp2
      refine wp_region_tail 12 (by kernel_rfl) (by kernel_rfl) (fun _ _ _ _ _ h => h) ?_
      simp only [List.take_succ_cons, List.take_zero, List.drop_succ_cons, List.drop_zero]
      repeat go_big_quiet_step (fail)
      refine wpQuiet_nil ?_
      go_wp2
      go_ret2
      exact ⟨rfl, FIN.out _⟩
    · have e0 : s.pop want = ({ s with st := st' }, t, want == 0 || t == want) := by simp [Ck.pop, ht.opn, hst, h0]; intro e; rw [hst] at hq; simp at hq; omega
      rw [e0]
      have t0 : ((t.toNat : Int) == 0) = false := by
        rw [beq_eq_false_iff_ne]; intro e; apply h0; rw [← UInt8.toNat_inj]; simpa using e
      by_cases hw : want = 0
      · subst hw
        go_enter Tryz.func135, Tryz.ntmps135
        go_wp2
        go_quiet (fail)
        go_wp2
        go_quiet (fail)
        go_wp2
        go_quiet (fail)
        go_wp2
        refine wp_region_tail 12 (by kernel_rfl) (by kernel_rfl) (fun _ _ _ _ _ h => h) ?_
        simp only [List.take_succ_cons, List.take_zero, List.drop_succ_cons, List.drop_zero]
        repeat go_big_quiet_step (fail)
        refine wpQuiet_nil ?_
        go_wp2
        go_ret2
        exact ⟨rfl, FIN.out _⟩
      · have w0 : ((want.toNat : Int) == 0) = false := by
          rw [beq_eq_false_iff_ne]; intro e; apply hw; rw [← UInt8.toNat_inj]; simpa using e
        have e1 : (want == 0 || t == want) = ((t.toNat : Int) == (want.toNat : Int)) := by
          rw [Bool.eq_iff_iff]; simp [hw, ← UInt8.toNat_inj]; omega
        rw [e1]
        go_enter Tryz.func135, Tryz.ntmps135
        go_wp2
        go_quiet (fail)
        go_wp2
        go_quiet (fail)
        go_wp2
        go_quiet (fail)
        go_wp2
        refine wp_region_tail 12 (by kernel_rfl) (by kernel_rfl) (fun _ _ _ _ _ h => h) ?_
        simp only [List.take_succ_cons, List.take_zero, List.drop_succ_cons, List.drop_zero]
        repeat go_big_quiet_step (fail)
        refine wpQuiet_nil ?_
        go_wp2
        go_ret2
        exact ⟨rfl, FIN.out _⟩
end Go.Proofs.Qxb6500575aGreatDoor
