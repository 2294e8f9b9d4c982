/-
  THE WALKS of prepm.chk: pop, pops, swap, dead, closes.
-/
import Derived.Test.Qxb6500575aGreatDoorMScan
import Derived.Test.Qxb6500575aGreatDoorSwap
namespace Go.Proofs.Qxb6500575aGreatDoor
open Go Go.RowKit
set_option linter.unusedVariables false
set_option linter.unusedSimpArgs false

theorem zeroCtl (w : World) : (Instr.alloc 132 true (.tuple #[])).run Tryz.prog w = .ok (.pointer (some ⟨w.heap.size, 0, none⟩)) (w.alloc (.cells #[.int .i64 0, .int .i64 0, .int .i64 0, .int .i64 0, .bool false] 132)) := by kernel_rfl

/-- what the copy of the innermost block brings -/
abbrev ctlObj (c : Ctl) : Obj := .cells #[.int .i64 c.op, .int .i64 c.bt, .int .i64 c.height, .int .i64 c.at_, .bool c.dead] 132

set_option maxRecDepth 100000 in
set_option maxHeartbeats 2000000 in
theorem mpop_any (bk : Nat) (L : MkL) (s : Mk) (want : UInt8) (w : World) (h : MkRep w bk L s) {c : Ctl} {r : List Ctl} (ht : s.Top c r) (hr : r.length ≤ 1000) (hs : s.st.length ≤ 1000) :
    Calls Tryz.prog 85 #[.pointer (some ⟨bk, 0, none⟩), .int .u8 want.toNat] w fun e w' => e = .returned (.tuple #[.int .u8 (s.pop want).2.1.toNat, .bool (s.pop want).2.2]) ∧ MkRep w' bk L (s.pop want).1 ∧ MkStep w w' bk L L := by
  obtain ⟨go, ha, hc, hf, hlt, hbo⟩ := h.at 0 (c := c) (by rw [ht.cs]; rfl)
  have hol : s.cs.length = r.length + 1 := by rw [ht.cs]; rfl
  have hml : s.cs.length - 1 - 0 = r.length := by omega
  have c0 := h.here.cell 0
  have c1 := h.here.cell 1
  have k0 := hc 0 (by omega)
  have k1 := hc 1 (by omega)
  have k2 := hc 2 (by omega)
  have k3 := hc 3 (by omega)
  have k4 := hc 4 (by omega)
  rw [hml] at k0 k1 k2 k3 k4
  rw [hol] at c1
  simp [ctlCells, ha] at c0 c1 k0 k1 k2 k3 k4
  have f0 := h.here.frozen 0
  have hb := h.here.lt
  have hb1 : bk < w.heap.size + 1 := by omega
  have hne0 : bk ≠ w.heap.size := by omega
  have hzb := zeroCtl
  have hto := ht.ck.opn
  have hcko : s.ck.st = s.st := rfl
  by_cases hq : s.st.length = c.height
  · have e0 : s.pop want = (s, want, c.dead) := by
      have : s.ck.pop want = (s.ck, want, c.dead) := by
        have hq2 : s.ck.st.length = c.blk.height := hq
        simp [Ck.pop, hto, hq2]
        rfl
      unfold Mk.pop; rw [this]; rfl
    rw [e0]
    rw [← hq] at k2
    have FIN : Hid (∀ n m, MkRep (((w.alloc (ctlObj c)).drew.drewN n).drewN m) bk L s ∧ MkStep w (((w.alloc (ctlObj c)).drew.drewN n).drewN m) bk L L) := fun n m => ⟨(((h.alloc _).drew).drewN _).drewN _, ((((MkStep.refl _ _ _).alloc _).drew).drewN _).drewN _⟩
    clear h hc hf ha hol hml e0
    go_enter Tryz.func85, Tryz.ntmps85
    go_wp2
    refine wp_region_head 12 1 (fun x => x = w.drew ∨ x = (w.alloc (.cells #[.int .i64 0, .int .i64 0, .int .i64 0, .int .i64 0, .bool false] 132)).drew) (by kernel_rfl) (by kernel_rfl) (fun _ _ _ _ _ h => h) (.inl rfl) ?_
    simp only [List.take_succ_cons, List.take_zero, List.drop_succ_cons, List.drop_zero]
    repeat go_big_quiet_step (fail)
    refine wpQuiet_nil ?_
    unfold wpChain
    go_wp2
    refine ⟨by simp, ?_⟩
    rw [wpChain_zero]
    go_wp2
    go_quiet (fail)
    go_wp2
    go_quiet (fail)
    go_wp2
    go_ret2
    refine ⟨rfl, ?_⟩
    exact FIN.out _ _
  · have hne : s.st ≠ [] := by intro e; have := ht.fl; rw [e] at this hq; simp at this hq; omega
    obtain ⟨t, st', hst⟩ := List.exists_cons_of_ne_nil hne
    have hsl : s.st.length = st'.length + 1 := by rw [hst]; rfl
    obtain ⟨gs, hsa, hct⟩ := h.stTop hst
    have hqn : ((st'.length + 1 : Nat) : Int) ≠ (c.height : Int) := by omega
    have hcap : st'.length + 1 ≤ L.sc := by
      rcases owns_form h.st with ⟨_, h1, _⟩ | ⟨_, _, h1⟩ <;> omega
    rw [hsl, hsa] at c0
    have hgsl : gs < w.heap.size := owns_lt h.st gs (by unfold MkL.stV; rw [hsa]; rfl)
    have hgs1 : gs < w.heap.size + 1 := by omega
    -- what is left behind the store
    have fin : ∀ n, MkRep (((w.alloc (ctlObj c)).drewN n).setCell ⟨bk, 0, none⟩ (.slice (some ⟨gs, 0, none⟩) st'.length L.sc)) bk L { s with st := st' } ∧ MkStep w (((w.alloc (ctlObj c)).drewN n).setCell ⟨bk, 0, none⟩ (.slice (some ⟨gs, 0, none⟩) st'.length L.sc)) bk L L := by
      intro n
      have q := ((h.alloc (ctlObj c)).drewN n).cutSt st'.length (by omega)
      have e : cut st'.length s.st = st' := by rw [hst]; simp [cut]
      rw [e, hsa] at q
      exact ⟨q.1, (((MkStep.refl _ _ _).alloc _).drewN _).trans q.2⟩
    have FIN : Hid (∀ n : Nat, _) := fin
    clear fin
    have hckp : s.ck.pop want = if t = 0 then ({ s.ck with st := st' }, want, true) else ({ s.ck with st := st' }, t, want == 0 || t == want) := by
      have hq2 : ¬ s.ck.st.length = c.blk.height := hq
      have hst2 : s.ck.st = t :: st' := hst
      unfold Ck.pop
      rw [hto]
      simp only
      rw [if_neg hq2, hst2]
      simp only [hto]
    clear h hc hf ha hol hml hto hcko hne
    by_cases h0 : t = 0
    · have e0 : s.pop want = ({ s with st := st' }, want, true) := by
        rw [if_pos h0] at hckp
        unfold Mk.pop; rw [hckp]
      rw [e0]
      subst h0
      clear hckp e0
      go_enter Tryz.func85, Tryz.ntmps85
      go_wp2
      refine wp_region_head 12 1 (fun x => x = w.drew ∨ x = (w.alloc (.cells #[.int .i64 0, .int .i64 0, .int .i64 0, .int .i64 0, .bool false] 132)).drew) (by kernel_rfl) (by kernel_rfl) (fun _ _ _ _ _ h => h) (.inl rfl) ?_
      simp only [List.take_succ_cons, List.take_zero, List.drop_succ_cons, List.drop_zero]
      repeat go_big_quiet_step (fail)
      refine wpQuiet_nil ?_
      unfold wpChain
      go_wp2
      refine ⟨by simp, ?_⟩
      rw [wpChain_zero]
      go_wp2
      go_quiet (fail)
      go_wp2
      go_quiet (fail)
      go_wp2
      refine wp_region_tail 12 (by kernel_rfl) (by kernel_rfl) (fun _ _ _ _ _ h => h) ?_
      simp only [List.take_succ_cons, List.take_zero, List.drop_succ_cons, List.drop_zero]
      repeat go_big_quiet_step (fail)
      refine wpQuiet_nil ?_
      go_wp2
      go_ret2
      refine ⟨rfl, ?_⟩
      exact FIN.out _
    · have e0 : s.pop want = ({ s with st := st' }, t, want == 0 || t == want) := by
        rw [if_neg h0] at hckp
        unfold Mk.pop; rw [hckp]
      rw [e0]
      have t0 : ((t.toNat : Int) == 0) = false := by
        rw [beq_eq_false_iff_ne]; intro e; apply h0; rw [← UInt8.toNat_inj]; simpa using e
      clear hckp e0
      by_cases hw : want = 0
      · subst hw
        go_enter Tryz.func85, Tryz.ntmps85
        go_wp2
        refine wp_region_head 12 1 (fun x => x = w.drew ∨ x = (w.alloc (.cells #[.int .i64 0, .int .i64 0, .int .i64 0, .int .i64 0, .bool false] 132)).drew) (by kernel_rfl) (by kernel_rfl) (fun _ _ _ _ _ h => h) (.inl rfl) ?_
        simp only [List.take_succ_cons, List.take_zero, List.drop_succ_cons, List.drop_zero]
        repeat go_big_quiet_step (fail)
        refine wpQuiet_nil ?_
        unfold wpChain
        go_wp2
        refine ⟨by simp, ?_⟩
        rw [wpChain_zero]
        go_wp2
        go_quiet (fail)
        go_wp2
        go_quiet (fail)
        go_wp2
        refine wp_region_tail 12 (by kernel_rfl) (by kernel_rfl) (fun _ _ _ _ _ h => h) ?_
        simp only [List.take_succ_cons, List.take_zero, List.drop_succ_cons, List.drop_zero]
        repeat go_big_quiet_step (fail)
        refine wpQuiet_nil ?_
        go_wp2
        go_ret2
        refine ⟨rfl, ?_⟩
        exact FIN.out _
      · have w0 : ((want.toNat : Int) == 0) = false := by
          rw [beq_eq_false_iff_ne]; intro e; apply hw; rw [← UInt8.toNat_inj]; simpa using e
        have e1 : (want == 0 || t == want) = ((t.toNat : Int) == (want.toNat : Int)) := by
          rw [Bool.eq_iff_iff]; simp [hw, ← UInt8.toNat_inj]; omega
        rw [e1]
        go_enter Tryz.func85, Tryz.ntmps85
        go_wp2
        refine wp_region_head 12 1 (fun x => x = w.drew ∨ x = (w.alloc (.cells #[.int .i64 0, .int .i64 0, .int .i64 0, .int .i64 0, .bool false] 132)).drew) (by kernel_rfl) (by kernel_rfl) (fun _ _ _ _ _ h => h) (.inl rfl) ?_
        simp only [List.take_succ_cons, List.take_zero, List.drop_succ_cons, List.drop_zero]
        repeat go_big_quiet_step (fail)
        refine wpQuiet_nil ?_
        unfold wpChain
        go_wp2
        refine ⟨by simp, ?_⟩
        rw [wpChain_zero]
        go_wp2
        go_quiet (fail)
        go_wp2
        go_quiet (fail)
        go_wp2
        refine wp_region_tail 12 (by kernel_rfl) (by kernel_rfl) (fun _ _ _ _ _ h => h) ?_
        simp only [List.take_succ_cons, List.take_zero, List.drop_succ_cons, List.drop_zero]
        repeat go_big_quiet_step (fail)
        refine wpQuiet_nil ?_
        go_wp2
        go_ret2
        refine ⟨rfl, ?_⟩
        exact FIN.out _
end Go.Proofs.Qxb6500575aGreatDoor
