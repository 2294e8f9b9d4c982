import Derived.Test.Qxb6500575aGreatDoorSwap
namespace Go.Proofs.Qxb6500575aGreatDoor
open Go Go.RowKit
set_option linter.unusedVariables false
set_option linter.unusedSimpArgs false

set_option maxHeartbeats 1000000 in
theorem closes_any (B bk : Nat) (fx : CkF) (L : CkL) (s : Ck) (w : World) (h : CkRep B w bk fx L s) {b : Blk} {r : List Blk} (ht : s.Top b r) (hr : r.length ≤ 1000) (hs : s.st.length ≤ 1000) (hi : b.res.length ≤ 1000) :
    Calls Tryz.prog 137 #[.pointer (some ⟨bk, 0, none⟩)] w fun e w' => e = .returned (.int .i64 s.closes.2) ∧ CkRep B w' bk fx L s.closes.1 ∧ CkStep w w' bk L L := by
  have hcall := fun n => pops_any B bk fx L s b.res (w.drewN n) (h.drewN n) ht hr hs hi
  have ht1 := Ck.pops_top ht b.res
  have e0 : s.closes = ((s.pops b.res).1, if (s.pops b.res).1.st.length ≠ b.height then 6 else (s.pops b.res).2) := by
    unfold Ck.closes; rw [ht.opn]
  rw [e0]
  clear e0
  generalize s.pops b.res = p at *
  obtain ⟨s1, er⟩ := p
  simp only at hcall ht1 ⊢
  obtain ⟨go, l, ha, hl, hc, hf, hlt, hbo⟩ := h.at 0 (b := b) (by rw [ht.opn]; rfl)
  have hol : s.opn.length = r.length + 1 := by rw [ht.opn]; rfl
  have c3 := h.here.cell 3
  have hres := hc 0 (by omega)
  rw [hol] at hres c3
  simp [blkCells, ha] at c3 hres
  have HC : Hid (∀ n : Nat, _) := hcall
  have H : Hid (CkRep B w bk fx L s) := h
  have HA : Hid (L.oa = some ⟨go, 0, none⟩) := ha
  clear hcall hc h hl hf ha
  by_cases hq : s1.st.length = b.height
  · rw [if_neg (by simp [hq])]
    go_enter Tryz.func137, Tryz.ntmps137
    go_wp2
    go_quiet (fail)
    go_wp2_with fail
    refine (HC.out _).mono ?_
    rintro e w1 ⟨rfl, g1, g2⟩
    obtain ⟨go', l', ha', hl', hc', hf', hlt', hbo'⟩ := g1.at 0 (b := b) (by rw [ht1.opn]; rfl)
    obtain rfl : go = go' := by have := HA.out.symm.trans ha'; simpa using this
    have hol1 : s1.opn.length = r.length + 1 := by rw [ht1.opn]; rfl
    have d2 := g1.here.cell 2
    have hh := hc' 2 (by omega)
    rw [hol1] at hh
    simp [blkCells] at d2 hh
    rw [← hq] at hh
    have G1 : Hid (CkRep B w1 bk fx L s1) := g1
    have G2 : Hid (CkStep w w1 bk L L) := ((CkStep.refl w bk L).drewN _).trans g2
    clear g1 g2 hc' hf'
    go_wp2
    go_quiet (fail)
    go_wp2
    go_ret
    exact ⟨rfl, G1.out.drewN _, G2.out.drewN _⟩
  · rw [if_pos hq]
    go_enter Tryz.func137, Tryz.ntmps137
    go_wp2
    go_quiet (fail)
    go_wp2_with fail
    refine (HC.out _).mono ?_
    rintro e w1 ⟨rfl, g1, g2⟩
    obtain ⟨go', l', ha', hl', hc', hf', hlt', hbo'⟩ := g1.at 0 (b := b) (by rw [ht1.opn]; rfl)
    obtain rfl : go = go' := by have := HA.out.symm.trans ha'; simpa using this
    have hol1 : s1.opn.length = r.length + 1 := by rw [ht1.opn]; rfl
    have d2 := g1.here.cell 2
    have hh := hc' 2 (by omega)
    rw [hol1] at hh
    simp [blkCells] at d2 hh
    have hq' : ((s1.st.length : Int) != (b.height : Int)) = true := by rw [bne_iff_ne]; omega
    have G1 : Hid (CkRep B w1 bk fx L s1) := g1
    have G2 : Hid (CkStep w w1 bk L L) := ((CkStep.refl w bk L).drewN _).trans g2
    clear g1 g2 hc' hf'
    go_wp2
    go_quiet (fail)
    go_wp2
    go_ret
    exact ⟨rfl, G1.out.drewN _, G2.out.drewN _⟩
end Go.Proofs.Qxb6500575aGreatDoor
