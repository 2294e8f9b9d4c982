import Derived.Test.Qxb6500575aGreatDoorProg
import Derived.Test.Qxb6500575aGreatDoorCk
import Derived.Test.Qxb6500575aGreatDoorRegApp
namespace Go.Proofs.Qxb6500575aGreatDoor
open Go Go.RowKit
set_option linter.unusedVariables false
set_option linter.unusedSimpArgs false
theorem rowFlat : IsRow Tryz.prog 103 176 (.agg #[.int .i64 0, .int .i64 0, .int .i64 0, .int .i64 0]) 4 32 := ⟨by kernel_rfl, by kernel_rfl, rfl, by decide⟩

set_option maxHeartbeats 1000000 in
theorem hole_any (B bk : Nat) (fx : CkF) (L : CkL) (s : Ck) (c : Flat) (w : World) (h : CkRep B w bk fx L s) (hn : s.code.length ≤ 1000) :
    Calls Tryz.prog 136 #[.pointer (some ⟨bk, 0, none⟩), .agg #[.int .i64 c.op, .int .i64 c.imm, .int .i64 c.keep, .int .i64 c.cut]] w fun e w' => ∃ v ca cc, e = .returned v ∧ HoleV w' bk v s.code.length ∧ CkRep B w' bk fx { L with ca := ca, cc := cc } { s with code := s.code ++ [c] } ∧ CkStep w w' bk L { L with ca := ca, cc := cc } := by
  have c4 := h.here.cell 4
  simp at c4
  have f4 := h.here.frozen 4
  have hb := h.here.lt
  go_enter Tryz.func136, Tryz.ntmps136
  go_wp2
  obtain ⟨W, hW⟩ : ∃ W, W = (((w.alloc (.cells #[.pointer (some ⟨bk, 0, none⟩)] 189)).alloc (.cells #[.int .i64 c.op, .int .i64 c.imm, .int .i64 c.keep, .int .i64 c.cut] 176)).alloc (.cells #[.int .i64 s.code.length] 3)) := ⟨_, rfl⟩
  rw [← hW]
  have r0 : CkRep B W bk fx L s := by rw [hW]; exact ((h.alloc _).alloc _).alloc _
  have s0 : CkStep w W bk L L := by rw [hW]; exact (((CkStep.refl _ _ _).alloc _).alloc _).alloc _
  have k0 : Has W w.heap.size #[.pointer (some ⟨bk, 0, none⟩)] 189 := by rw [hW]; exact ((Has.new w _ _).alloc _).alloc _
  have k1 : Has W (w.heap.size + 1) #[.int .i64 c.op, .int .i64 c.imm, .int .i64 c.keep, .int .i64 c.cut] 176 := by rw [hW]; have := (Has.new (w.alloc (.cells #[.pointer (some ⟨bk, 0, none⟩)] 189)) #[.int .i64 c.op, .int .i64 c.imm, .int .i64 c.keep, .int .i64 c.cut] 176).alloc (.cells #[.int .i64 s.code.length] 3); simpa using this
  have k2 : Has W (w.heap.size + 1 + 1) #[.int .i64 s.code.length] 3 := by rw [hW]; have := (Has.new ((w.alloc (.cells #[.pointer (some ⟨bk, 0, none⟩)] 189)).alloc (.cells #[.int .i64 c.op, .int .i64 c.imm, .int .i64 c.keep, .int .i64 c.cut] 176)) #[.int .i64 s.code.length] 3); simpa using this
  clear hW
  have d0 := k0.cell 0
  have d1 := k1.cell 0
  have d2 := k1.cell 1
  have d3 := k1.cell 2
  have d4 := k1.cell 3
  have d5 := r0.here.cell 4
  simp at d0 d1 d2 d3 d4 d5
  have l0 := k0.lt
  have l1 := k1.lt
  have l2 := r0.here.lt
  have hne := owns_ne r0.code r0.here (by decide)
  have hne0 := owns_ne r0.code k0 (by decide)
  have hne1 : (L.codeV s).ownBlock ≠ some (w.heap.size + 1) := fun hh => h.new (k := w.heap.size + 1) (by omega) (.inr (.inr (.inr (.inl (by rw [ownBlock_any]; exact hh)))))
  refine wp_region_app rowFlat 6 (by kernel_rfl) (by kernel_rfl) (fun _ _ _ _ _ h => h) _ _ _ rfl (.tmp 16) (.tmp 15) 17 18 rfl rfl rfl rfl rfl rfl _ _ _ r0.code (.agg #[.int .i64 c.op, .int .i64 c.imm, .int .i64 c.keep, .int .i64 c.cut]) rfl (by decide) (by simp [Value.cells, Value.oneCell']) (by omega) ?_
  intro g cap w2 q1 q2 q3 q4
  have k0' : Has w2 w.heap.size _ _ := (k0.alloc _).fr q2 hne0
  have k1' : Has w2 (w.heap.size + 1) _ _ := (k1.alloc _).fr q2 hne1
  have hH' : Has w2 bk _ _ := (r0.here.alloc _).fr q2 hne
  have d0' := k0'.cell 0
  have d1' := k1'.cell 0
  have d2' := k1'.cell 1
  have d3' := k1'.cell 2
  have d4' := k1'.cell 3
  have d5' := hH'.cell 4
  have e5' := hH'.frozen 4
  simp at d0' d1' d2' d3' d4' d5'
  have hlk : HoleV w2 bk (.func (.func 144) #[] #[.pointer (some ⟨w.heap.size, 0, none⟩), .pointer (some ⟨w.heap.size + 1 + 1, 0, none⟩)]) s.code.length := ⟨_, _, rfl, k0', (k2.alloc _).fr q2 (owns_ne r0.code k2 (by decide))⟩
  obtain ⟨n1, n2, n3, n4, n5⟩ := app_net r0.here hne q2 q1 (by decide) q3 q4 4
  have fin := r0.putCode (s.code ++ [c]) (ca2 := some ⟨g, 0, none⟩) (cc2 := cap) n1 (by simpa using n2) (by rw [flatCells_snoc]; simpa [Flat.cells, Value.cells] using n3) (fun k hk => by simp [Value.ownBlock] at hk; subst hk; exact n4)
  have hol : HoleV (w2.setCell ⟨bk, 4, none⟩ (.slice (some ⟨g, 0, none⟩) (s.code.length + 1) cap)) bk (.func (.func 144) #[] #[.pointer (some ⟨w.heap.size, 0, none⟩), .pointer (some ⟨w.heap.size + 1 + 1, 0, none⟩)]) s.code.length := by
    obtain ⟨b1, b2, e0, h1, h2⟩ := hlk
    simp at e0
    obtain ⟨rfl, rfl⟩ := e0
    exact ⟨_, _, rfl, h1.other (h1.ne hH' (by decide)) _, h2.other (h2.ne hH' (by decide)) _⟩
  have FIN : Hid (_ ∧ _ ∧ _) := ⟨hol, fin.1, s0.trans fin.2⟩
  clear n1 n2 n3 n4 n5 fin hol hlk q1 q2 q3 q4 hne hne0 hne1 r0 s0 h k0 k1 k2 k0' k1' hH'
  simp only [List.take_succ_cons, List.take_zero]
  repeat go_big_quiet_step (fail)
  refine wpQuiet_nil ⟨rfl, rfl, by simp, rfl, ?_⟩
  go_wp2
  go_ret
  exact ⟨_, _, _, rfl, FIN.out⟩
end Go.Proofs.Qxb6500575aGreatDoor
