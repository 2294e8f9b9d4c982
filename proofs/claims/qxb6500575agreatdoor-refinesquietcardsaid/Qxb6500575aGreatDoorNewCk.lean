import Derived.Test.Qxb6500575aGreatDoorMapOn
import Derived.Test.Qxb6500575aGreatDoorNewReg
import Derived.Test.Qxb6500575aGreatDoorEnter
namespace Go.Proofs.Qxb6500575aGreatDoor
open Go Go.RowKit
set_option linter.unusedVariables false
set_option linter.unusedSimpArgs false

/-- the checker at its start -/
def Ck.start (res : List UInt8) : Ck := { st := [], opn := [{ res := res, carry := res, height := 0, head := -1, dead := false, alt := none, wait := [] }], code := [] }

theorem nck_build (w : World) (bp g f b : Nat) : (Instr.build 195 #[(0, .pointer (some ⟨bp, 0, none⟩)), (1, .pointer (some ⟨g, f, none⟩)), (3, .slice (some ⟨b, 0, none⟩) 1 1)]).run Tryz.prog w =
    .ok (.agg #[.pointer (some ⟨bp, 0, none⟩), .pointer (some ⟨g, f, none⟩), .slice none 0 0, .slice (some ⟨b, 0, none⟩) 1 1, .slice none 0 0, .map none]) w := by kernel_rfl
theorem nck_box (w : World) (bp g f b : Nat) : (Instr.box 195 (.agg #[.pointer (some ⟨bp, 0, none⟩), .pointer (some ⟨g, f, none⟩), .slice none 0 0, .slice (some ⟨b, 0, none⟩) 1 1, .slice none 0 0, .map none])).run Tryz.prog w =
    .ok (.pointer (some ⟨w.heap.size, 0, none⟩)) (w.alloc (.cells #[.pointer (some ⟨bp, 0, none⟩), .pointer (some ⟨g, f, none⟩), .slice none 0 0, .slice (some ⟨b, 0, none⟩) 1 1, .slice none 0 0, .map none] 195)) := by kernel_rfl

set_option maxRecDepth 100000 in
set_option maxHeartbeats 4000000 in
theorem newChecker_any (w : World) (bp g f : Nat) (res : List UInt8) (hbp : bp < w.heap.size) (hg : g < w.heap.size) (hres : w.cell? ⟨g, f + 1, none⟩ = some (sv res)) :
    Calls Tryz.prog 87 #[.pointer (some ⟨bp, 0, none⟩), .pointer (some ⟨g, f, none⟩)] w fun e w' => ∃ bk m bA b3 L, e = .returned (.pointer (some ⟨bk, 0, none⟩)) ∧
      CkRep w.heap.size w' bk ⟨.pointer (some ⟨bp, 0, none⟩), .pointer (some ⟨g, f, none⟩), m⟩ L (Ck.start res) ∧ OnAt w' m bk (.pointer (some ⟨g, f, none⟩)) bA b3 ∧ Fr (fun _ => False) w w' := by
  go_enter Tryz.func87, Tryz.ntmps87
  go_wp2
  refine wp_region_make 11 (by kernel_rfl) (by kernel_rfl) (fun _ _ _ _ _ h => h) _ _ _ _ _ rfl 17 18 19 5 rfl rfl rfl rfl (by decide) (by decide) (by decide) (by decide) (by decide) (by decide) rfl rfl rfl rfl
    #[sv res, sv res, .int .i64 0, .int .i64 (-1), .bool false, .nilFunc, .slice none 0 0] 226 (fun b => #[.pointer (some ⟨bp, 0, none⟩), .pointer (some ⟨g, f, none⟩), .slice none 0 0, .slice (some ⟨b, 0, none⟩) 1 1, .slice none 0 0, .map none]) 195 #[.pointer none] 189
    (fun b => .agg #[.pointer (some ⟨bp, 0, none⟩), .pointer (some ⟨g, f, none⟩), .slice none 0 0, .slice (some ⟨b, 0, none⟩) 1 1, .slice none 0 0, .map none])
    (fun a => a.eval (.tmp 16) = .agg #[sv res, sv res, .int .i64 0, .int .i64 (-1), .bool false, .nilFunc, .slice none 0 0] ∧ a.eval (.tmp 6) = .pointer (some ⟨bp, 0, none⟩) ∧ a.eval (.tmp 7) = .pointer (some ⟨g, f, none⟩)) ?hokp ?r0 ?r1 ?r2 ?r3 ?h
  case hokp =>
    rintro a d v (rfl | rfl | rfl | rfl) ⟨h1, h2, h3⟩ <;> exact ⟨by rw [eval_put_ne _ _ _ (by decide)]; exact h1, by rw [eval_put_ne _ _ _ (by decide)]; exact h2, by rw [eval_put_ne _ _ _ (by decide)]; exact h3⟩
  case r0 =>
    rintro a w ⟨h1, _, _⟩
    have := run_build1 rowBlk w (.agg #[sv res, sv res, .int .i64 0, .int .i64 (-1), .bool false, .nilFunc, .slice none 0 0]) rfl (by decide)
    simp only [execOp, List.map_toArray, List.map_cons, List.map_nil, h1, Sem.run_bind, this, Result.andThen_ok, Sem.run_pure]
    rfl
  case r1 =>
    rintro a w b ⟨_, h2, h3⟩ h4
    simp only [execOp, List.map_toArray, List.map_cons, List.map_nil, h2, h3, h4, Sem.run_bind, nck_build, Result.andThen_ok, Sem.run_pure]
  case r2 =>
    rintro a w b _ h4
    simp only [execOp, h4, Sem.run_bind, nck_box, Result.andThen_ok, Sem.run_pure]
  case r3 =>
    rintro a w _
    simp only [execOp]
    kernel_rfl
  case h =>
    have hc3 : ∀ x : World, Fr (fun _ => False) (w.alloc (.cells #[.pointer (some ⟨g, f, none⟩)] 102)) x → x.cell? ⟨w.heap.size, 0, none⟩ = some (.pointer (some ⟨g, f, none⟩)) := fun x hx => by
      have := ((Has.new w #[.pointer (some ⟨g, f, none⟩)] 102).fr hx id).cell 0
      simpa using this
    have hcr : ∀ x : World, Fr (fun _ => False) (w.alloc (.cells #[.pointer (some ⟨g, f, none⟩)] 102)) x → x.cell? ⟨g, f + 1, none⟩ = some (sv res) := fun x hx => by
      have F0 : Fr (fun _ => False) w x := ((Fr.refl (fun _ => False) w).alloc _).trans hx (fun _ _ h => h)
      rw [← hres]
      unfold World.cell?
      simp only [F0.block g hg id]
    simp only [List.take_succ_cons, List.take_zero]
    repeat (first | go_big_quiet_step (fail) | (refine wpQuiet_step (fun K hK => ?_); go_simp; refine ⟨_, fun _ _ => rfl, hK _ ?_⟩; clear hK K))
    refine wpQ_load rfl (.tmp 3) _ _ rfl rfl (by kernel_rfl) hc3 ?_
    simp only [Act.put, List.setIfInBounds_toArray, List.set_cons_succ, List.set_cons_zero]
    repeat (first | go_big_quiet_step (fail) | (refine wpQuiet_step (fun K hK => ?_); go_simp; refine ⟨_, fun _ _ => rfl, hK _ ?_⟩; clear hK K))
    refine wpQ_load rfl (.tmp 3) _ _ rfl rfl (by kernel_rfl) hc3 ?_
    simp only [Act.put, List.setIfInBounds_toArray, List.set_cons_succ, List.set_cons_zero]
    repeat (first | go_big_quiet_step (fail) | (refine wpQuiet_step (fun K hK => ?_); go_simp; refine ⟨_, fun _ _ => rfl, hK _ ?_⟩; clear hK K))
    refine wpQ_load rfl (.tmp 10) _ _ rfl rfl (by kernel_rfl) hcr ?_
    simp only [Act.put, List.setIfInBounds_toArray, List.set_cons_succ, List.set_cons_zero]
    repeat (first | go_big_quiet_step (fail) | (refine wpQuiet_step (fun K hK => ?_); go_simp; refine ⟨_, fun _ _ => rfl, hK _ ?_⟩; clear hK K))
    refine wpQ_load rfl (.tmp 3) _ _ rfl rfl (by kernel_rfl) hc3 ?_
    simp only [Act.put, List.setIfInBounds_toArray, List.set_cons_succ, List.set_cons_zero]
    repeat (first | go_big_quiet_step (fail) | (refine wpQuiet_step (fun K hK => ?_); go_simp; refine ⟨_, fun _ _ => rfl, hK _ ?_⟩; clear hK K))
    refine wpQ_load rfl (.tmp 14) _ _ rfl rfl (by kernel_rfl) hcr ?_
    simp only [Act.put, List.setIfInBounds_toArray, List.set_cons_succ, List.set_cons_zero]
    repeat (first | go_big_quiet_step (fail) | (refine wpQuiet_step (fun K hK => ?_); go_simp; refine ⟨_, fun _ _ => rfl, hK _ ?_⟩; clear hK K))
    refine wpQuiet_nil ⟨⟨rfl, rfl, rfl⟩, by simp, by simp, ?_⟩
    intro bA bB bC W HM
    have HMD : Hid (Made _ W _ _ _ _ _ _ bA bB bC) := HM
    have cA := HM.a.cell 0
    have fA := HM.a.frozen 0
    have lA := HM.a.lt
    simp at cA
    have aA := HM.a.put 0 (.pointer (some ⟨bC, 0, none⟩))
    have nAB := HM.a.ne HM.b (by decide)
    have nAC := HM.a.ne HM.c (by decide)
    have aB := HM.b.other (p := ⟨bA, 0, none⟩) (Ne.symm nAB) (.pointer (some ⟨bC, 0, none⟩))
    have aC := HM.c.other (p := ⟨bA, 0, none⟩) (Ne.symm nAC) (.pointer (some ⟨bC, 0, none⟩))
    have FW : Fr (fun _ => False) w (W.setCell ⟨bA, 0, none⟩ (.pointer (some ⟨bC, 0, none⟩))) := by
      have f1 : Fr (fun _ => False) w W := ((Fr.refl (fun _ => False) w).alloc _).trans HM.fr (fun _ _ h => h)
      refine f1.setCell (p := ⟨bA, 0, none⟩) (.inr ?_) _
      have := HM.ga
      simp at this
      show w.heap.size ≤ bA
      omega
    have a3 : Has (W.setCell ⟨bA, 0, none⟩ (.pointer (some ⟨bC, 0, none⟩))) w.heap.size #[.pointer (some ⟨g, f, none⟩)] 102 := by
      have := (Has.new w #[.pointer (some ⟨g, f, none⟩)] 102).fr HM.fr id
      exact this.other (p := ⟨bA, 0, none⟩) (by have := HM.ga; simp at this; simp; omega) _
    have gA := HM.ga
    have gB := HM.gb
    have gC := HM.gc
    simp at gA gB gC aA
    clear HM hc3 hcr
    go_wp2
    obtain ⟨W1, hW1⟩ : ∃ W1, W1 = W.setCell ⟨bA, 0, none⟩ (.pointer (some ⟨bC, 0, none⟩)) := ⟨_, rfl⟩
    rw [← hW1] at aA aB aC FW a3 ⊢
    clear hW1 HMD cA fA lA
    have cA := aA.cell 0
    have cC := aC.cell 5
    have fC := aC.frozen 5
    have lA := aA.lt
    have lC := aC.lt
    simp at cA cC
    have hmk : (Instr.makeMap 193 none).run Tryz.prog W1 = .ok (.map (some W1.heap.size)) (W1.alloc (.map #[] 0)) := rfl
    have hins0 : ∀ v0, (Instr.mapUpdate 193 (.map (some W1.heap.size)) (.int .i64 0) v0).run Tryz.prog (W1.alloc (.map #[] 0)) = .ok () (W1.alloc (.map #[⟨.int .i64 0, v0, 0⟩] 1)) := fun v0 => run_put W1 _ _ _ _ _ rfl rfl
    have hins1 : ∀ v0 v1, (Instr.mapUpdate 193 (.map (some W1.heap.size)) (.int .i64 9) v1).run Tryz.prog (W1.alloc (.map #[⟨.int .i64 0, v0, 0⟩] 1)) = .ok () (W1.alloc (.map #[⟨.int .i64 0, v0, 0⟩, ⟨.int .i64 9, v1, 1⟩] 2)) := fun v0 v1 => run_put W1 _ _ _ _ _ rfl rfl
    have hins2 : ∀ v0 v1 v2, (Instr.mapUpdate 193 (.map (some W1.heap.size)) (.int .i64 11) v2).run Tryz.prog (W1.alloc (.map #[⟨.int .i64 0, v0, 0⟩, ⟨.int .i64 9, v1, 1⟩] 2)) = .ok () (W1.alloc (.map #[⟨.int .i64 0, v0, 0⟩, ⟨.int .i64 9, v1, 1⟩, ⟨.int .i64 11, v2, 2⟩] 3)) := fun v0 v1 v2 => run_put W1 _ _ _ _ _ rfl rfl
    have hins3 : ∀ v0 v1 v2 v3, (Instr.mapUpdate 193 (.map (some W1.heap.size)) (.int .i64 10) v3).run Tryz.prog (W1.alloc (.map #[⟨.int .i64 0, v0, 0⟩, ⟨.int .i64 9, v1, 1⟩, ⟨.int .i64 11, v2, 2⟩] 3)) = .ok () (W1.alloc (.map #[⟨.int .i64 0, v0, 0⟩, ⟨.int .i64 9, v1, 1⟩, ⟨.int .i64 11, v2, 2⟩, ⟨.int .i64 10, v3, 3⟩] 4)) := fun v0 v1 v2 v3 => run_put W1 _ _ _ _ _ rfl rfl
    have hins4 : ∀ v0 v1 v2 v3 v4, (Instr.mapUpdate 193 (.map (some W1.heap.size)) (.int .i64 12) v4).run Tryz.prog (W1.alloc (.map #[⟨.int .i64 0, v0, 0⟩, ⟨.int .i64 9, v1, 1⟩, ⟨.int .i64 11, v2, 2⟩, ⟨.int .i64 10, v3, 3⟩] 4)) = .ok () (W1.alloc (.map #[⟨.int .i64 0, v0, 0⟩, ⟨.int .i64 9, v1, 1⟩, ⟨.int .i64 11, v2, 2⟩, ⟨.int .i64 10, v3, 3⟩, ⟨.int .i64 12, v4, 4⟩] 5)) := fun v0 v1 v2 v3 v4 => run_put W1 _ _ _ _ _ rfl rfl
    have hins5 : ∀ v0 v1 v2 v3 v4 v5, (Instr.mapUpdate 193 (.map (some W1.heap.size)) (.int .i64 13) v5).run Tryz.prog (W1.alloc (.map #[⟨.int .i64 0, v0, 0⟩, ⟨.int .i64 9, v1, 1⟩, ⟨.int .i64 11, v2, 2⟩, ⟨.int .i64 10, v3, 3⟩, ⟨.int .i64 12, v4, 4⟩] 5)) = .ok () (W1.alloc (.map #[⟨.int .i64 0, v0, 0⟩, ⟨.int .i64 9, v1, 1⟩, ⟨.int .i64 11, v2, 2⟩, ⟨.int .i64 10, v3, 3⟩, ⟨.int .i64 12, v4, 4⟩, ⟨.int .i64 13, v5, 5⟩] 6)) := fun v0 v1 v2 v3 v4 v5 => run_put W1 _ _ _ _ _ rfl rfl
    have hins6 : ∀ v0 v1 v2 v3 v4 v5 v6, (Instr.mapUpdate 193 (.map (some W1.heap.size)) (.int .i64 14) v6).run Tryz.prog (W1.alloc (.map #[⟨.int .i64 0, v0, 0⟩, ⟨.int .i64 9, v1, 1⟩, ⟨.int .i64 11, v2, 2⟩, ⟨.int .i64 10, v3, 3⟩, ⟨.int .i64 12, v4, 4⟩, ⟨.int .i64 13, v5, 5⟩] 6)) = .ok () (W1.alloc (.map #[⟨.int .i64 0, v0, 0⟩, ⟨.int .i64 9, v1, 1⟩, ⟨.int .i64 11, v2, 2⟩, ⟨.int .i64 10, v3, 3⟩, ⟨.int .i64 12, v4, 4⟩, ⟨.int .i64 13, v5, 5⟩, ⟨.int .i64 14, v6, 6⟩] 7)) := fun v0 v1 v2 v3 v4 v5 v6 => run_put W1 _ _ _ _ _ rfl rfl
    have HA : Hid (Has W1 _ _ _) := aA
    have HB : Hid (Has W1 _ _ _) := aB
    have HC : Hid (Has W1 _ _ _) := aC
    have H3 : Hid (Has W1 _ _ _) := a3
    have HFW : Hid (Fr _ w W1) := FW
    clear aA aB aC a3 FW
    simp only [hmk]
    go_wp2
    go_ret
    obtain ⟨X, hX⟩ : ∃ X, X = (W1.setCell ⟨bC, 5, none⟩ (.map (some W1.heap.size))).alloc (.map (onEs bC bA w.heap.size) 7) := ⟨_, rfl⟩
    have hsz : (W1.setCell ⟨bC, 5, none⟩ (.map (some W1.heap.size))).heap.size = W1.heap.size := by simp [World.setCell]
    have xC := ((HC.out.put 5 (.map (some W1.heap.size)))).alloc (.map (onEs bC bA w.heap.size) 7)
    rw [← hX] at xC
    have xB := ((HB.out.other (p := ⟨bC, 5, none⟩) (HB.out.ne HC.out (by decide)) (.map (some W1.heap.size)))).alloc (.map (onEs bC bA w.heap.size) 7)
    rw [← hX] at xB
    have xA := ((HA.out.other (p := ⟨bC, 5, none⟩) nAC (.map (some W1.heap.size)))).alloc (.map (onEs bC bA w.heap.size) 7)
    rw [← hX] at xA
    have x3 := ((H3.out.other (p := ⟨bC, 5, none⟩) (H3.out.ne HC.out (by decide)) (.map (some W1.heap.size)))).alloc (.map (onEs bC bA w.heap.size) 7)
    rw [← hX] at x3
    have xM : X.heap[W1.heap.size]? = some (.map (onEs bC bA w.heap.size) 7) := by
      have := (MapKept.heap_alloc (W1.setCell ⟨bC, 5, none⟩ (.map (some W1.heap.size))) (.map (onEs bC bA w.heap.size) 7)).1
      rw [hsz, ← hX] at this
      exact this
    have xF : Fr (fun _ => False) w X := by
      rw [hX]
      exact (HFW.out.setCell (p := ⟨bC, 5, none⟩) (.inr (show w.heap.size ≤ bC by omega)) _).alloc _
    refine ⟨bC, W1.heap.size, bA, w.heap.size, { sa := none, oa := some ⟨bB, 0, none⟩, ca := none, sc := 0, oc := 1, cc := 0, ls := [(.nilFunc, .slice none 0 0)] }, rfl, ?_⟩
    have goal : CkRep w.heap.size X bC ⟨.pointer (some ⟨bp, 0, none⟩), .pointer (some ⟨g, f, none⟩), W1.heap.size⟩ { sa := none, oa := some ⟨bB, 0, none⟩, ca := none, sc := 0, oc := 1, cc := 0, ls := [(.nilFunc, .slice none 0 0)] } (Ck.start res) ∧ OnAt X W1.heap.size bC (.pointer (some ⟨g, f, none⟩)) bA w.heap.size ∧ Fr (fun _ => False) w X := by
      refine ⟨?_, ⟨xM, xA, x3⟩, xF⟩
      exact {
        here := by simpa [Ck.start] using xC
        st := ⟨rfl, .inl ⟨rfl, rfl⟩⟩
        opn := ⟨rfl, .inr ⟨bB, 1, _, rfl, Nat.zero_le _, xB, Nat.le_refl _, by decide, rfl, rfl⟩⟩
        code := ⟨rfl, .inl ⟨rfl, rfl⟩⟩
        lsl := rfl
        blk := fun i b l hb hl => by
          cases i with
          | zero =>
            simp [Ck.start] at hb hl
            subst hb; subst hl
            exact ⟨rfl, [], ⟨rfl, .inl ⟨rfl, rfl⟩⟩, fun i v a hi => by simp at hi⟩
          | succ i => simp [Ck.start] at hb
        apart := fun i j l l' hi hj hne k hk => by
          cases i with
          | zero => simp at hi; subst hi; simp [Value.ownBlock] at hk
          | succ i => simp at hi
        base := by omega
        baseS := fun k hk => by simp [Value.ownBlock] at hk
        baseO := fun k hk => by simp [Value.ownBlock] at hk; omega
        baseC := fun k hk => by simp [Value.ownBlock] at hk
        baseW := fun i l hl k hk => by
          cases i with
          | zero => simp at hl; subst hl; simp [Value.ownBlock] at hk
          | succ i => simp at hl }
    rw [hX] at goal
    exact goal
end Go.Proofs.Qxb6500575aGreatDoor
