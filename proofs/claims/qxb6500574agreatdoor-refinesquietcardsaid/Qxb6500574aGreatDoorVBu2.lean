/-
  THE WALK of vm: the builtins tonumber and next.
-/
import Derived.Test.Qxb6500574aGreatDoorVBu
import Derived.Test.Qxb6500574aGreatDoorVFor2
import Derived.Test.Qxb6500574aGreatDoorVParse
namespace Go.Proofs.Qxb6500574aGreatDoor
open Go Go.RowKit
set_option linter.unusedVariables false
set_option linter.unusedSimpArgs false
section
variable {w : World} {A : VL} {m : VMD} {f e B d : Nat} {a0 a1 : Vl} {K : Cx}
set_option maxRecDepth 100000
set_option maxHeartbeats 800000
theorem bToNumber_any (h : VRep w A m f e) (ha : Ar w B d a0 a1) (hl : a0.s.length ≤ 100) : Calls Tryz.prog 288 #[.pointer (some ⟨A.b, 0, none⟩), .pointer (some ⟨B, d, none⟩)] w (BuPost (builtinP m 3 a0 a1) w A f e) := by
  obtain ⟨Q, HQ⟩ : ∃ Q : Ending → World → Prop, Hid (BuPost (builtinP m 3 a0 a1) w A f e = Q) := ⟨_, rfl⟩
  rw [HQ.out]
  have HR : Hid (VRep w A m f e) := h
  have hf2 : Fr (fun _ => False) w ((w.alloc (.cells #[.int .i64 0, .int .u64 0, sv []] 68)).alloc (.cells #[.int .i64 0, .int .u64 0, sv []] 68)) := ((Fr.refl _ w).alloc _).alloc _
  have z0 : A.o w.heap.size = 0 := h.own _ (Nat.le_refl _)
  have z1 : A.o (w.heap.size + 1) = 0 := h.own _ (Nat.le_succ _)
  have HZ : Hid (A.o w.heap.size = 0 ∧ A.o (w.heap.size + 1) = 0) := ⟨z0, z1⟩
  have HA : Hid (Ar w B d a0 a1) := ha
  have hbl := h.bl
  obtain ⟨c0, c1, c2, c3, c4, c5, cl⟩ := ha
  obtain ⟨t0, n0, s0⟩ := a0
  dsimp only at c0 c1 c2
  clear h z0 z1
  have hop : builtinP m 3 ⟨t0, n0, s0⟩ a1 = (.inr ((if t0 = 2 then ⟨t0, n0, s0⟩ else if t0 = 3 then (match parseN s0 with | some x => numV x | none => nilV) else nilV), nilV), m) := by
    unfold builtinP
    simp (config := { decide := true }) only [if_true, if_false]
    rfl
  have HOP : Hid (builtinP m 3 ⟨t0, n0, s0⟩ a1 = _) := hop
  clear hop
  by_cases h2 : t0 = 2
  · rw [if_pos h2] at HOP
    subst h2
    go_enter Tryz.func288, Tryz.ntmps288
    go_wp2_with fail
    refine bodyPost_ret (res_cell2 isVal isVal rfl rfl ((Has.new w _ _).alloc _) rfl rfl (Has.newC _ _ _ (by simp)) rfl) rfl ?_
    rw [← HQ.out, HOP.out]
    exact ⟨rfl, A, HR.out.fresh (((Fr.refl _ w).alloc _).alloc _), VSt.fresh (((Fr.refl _ w).alloc _).alloc _)⟩
  · rw [if_neg h2] at HOP
    have b2 : (t0 == 2) = false := by simpa using h2
    by_cases h3 : t0 = 3
    · subst h3
      rw [if_pos rfl] at HOP
      have n00 := HR.out.cell0 0
      simp only [vmCells, List.getElem?_toArray, List.getElem?_cons_succ, List.getElem?_cons_zero] at n00
      have HW2 : Hid (Fr (fun _ => False) w ((w.alloc (.cells #[.int .i64 0, .int .u64 0, sv []] 68)).alloc (.cells #[.int .i64 0, .int .u64 0, sv []] 68))) := hf2
      have g0 := fun s : WS ((w.alloc (.cells #[.int .i64 0, .int .u64 0, sv []] 68)).alloc (.cells #[.int .i64 0, .int .u64 0, sv []] 68)) => s.f.cell (hf2.cell n00)
      have g2 := fun s : WS ((w.alloc (.cells #[.int .i64 0, .int .u64 0, sv []] 68)).alloc (.cells #[.int .i64 0, .int .u64 0, sv []] 68)) => s.f.cell (hf2.cell c2)
      have HNE : Nonempty (WS ((w.alloc (.cells #[.int .i64 0, .int .u64 0, sv []] 68)).alloc (.cells #[.int .i64 0, .int .u64 0, sv []] 68))) := WS.non _
      go_enter Tryz.func288, Tryz.ntmps288
      go_wp2_with fail
      refine wp_region_plan [0, 1, 2, 3, 4, 5, 6, 7, 8] (.one 9 (.quiet [10, 11, 12] .done)) 13 (fun x => ∃ s : WS ((w.alloc (.cells #[.int .i64 0, .int .u64 0, sv []] 68)).alloc (.cells #[.int .i64 0, .int .u64 0, sv []] 68)), x = s.y) (by kernel_rfl) (by kernel_rfl) (fun _ _ _ _ _ h => h) ⟨⟨_, (Fr.refl _ _).drew⟩, rfl⟩ [_, _, _, _, _, _, _, _, _] rfl _ rfl ?_
      simp only [List.getElem_toArray, List.getElem_cons_succ, List.getElem_cons_zero, List.drop_succ_cons, List.drop_zero, List.length_cons, List.length_nil, Nat.zero_add]
      repeat go_big_quiet_step (fail)
      refine wpQuiet_nil ?_
      clear g0 g2
      refine ⟨fun a' a W => ∃ (u : Nat) (k : Nat), a = ((((a'.put (some 32) (.tuple #[.int .u64 u, .int .i64 k])).put (some 22) (.tuple #[.int .u64 u, .int .i64 k])).put (some 33) (.int .u64 u)).put (some 34) (.int .i64 k)) ∧ Fr (fun _ => False) ((w.alloc (.cells #[.int .i64 0, .int .u64 0, sv []] 68)).alloc (.cells #[.int .i64 0, .int .u64 0, sv []] 68)) W ∧ ((k = 0 ∧ parseN s0 = some u) ∨ (k ≠ 0 ∧ parseN s0 = none)), ?_, ?_⟩
      · rintro a W hSW ⟨u, k, rfl, f4, hk⟩
        clear hSW HNE
        have HFW : Hid (Fr (fun _ => False) w W) := HW2.out.trans f4 (fun _ _ x => x)
        have HF4 : Hid (Fr (fun _ => False) _ W) := f4
        have r2 : R2 W w.heap.size nilV nilV := (R2.new w).fr f4
        have HR2 : Hid (R2 W w.heap.size nilV nilV) := r2
        clear f4 r2
        simp only [Act.put, List.setIfInBounds_toArray, List.set_cons_succ, List.set_cons_zero]
        unfold wpChain
        go_wp2
        refine ⟨⟨⟨_, HF4.out⟩, rfl⟩, ?_⟩
        unfold wpChain
        go_wp2
        refine ⟨⟨⟨_, HF4.out⟩, rfl⟩, ?_⟩
        rw [wpChain_zero]
        have r2 := HR2.out
        rcases hk with ⟨rfl, hk⟩ | ⟨hk0, hk⟩
        · obtain ⟨q1, q2⟩ := bu_end (R := builtinP m 3 ⟨3, n0, s0⟩ a1) (p := (numV u, nilV)) (by rw [HOP.out, hk]) (HR.out.fresh HFW.out) (VSt.fresh HFW.out) ⟨_, _, r2⟩ HZ.out.1 HZ.out.2
          rw [HQ.out] at q1
          have HQ1 : Hid (Q _ _) := q1
          have HQ2 : Hid (R2 _ _ _ _) := q2
          obtain ⟨e0, e1, e2⟩ := Has.cells3 (v := nilV) r2.h4
          obtain ⟨e3, e4, e5⟩ := r2.h4.frz3
          obtain ⟨d0, d1, d2⟩ := Has.cells3 (v := nilV) r2.h5
          obtain ⟨d3, d4, d5⟩ := r2.h5.frz3
          dsimp only [nilV] at e0 e1 e2 d0 d1 d2
          have l4 := r2.h4.lt
          have l5 := r2.h5.lt
          clear q1 q2 r2
          go_wp2_with fail
          refine bodyPost_ret (res_cell2 isVal isVal rfl rfl HQ2.out.h4 rfl rfl HQ2.out.h5 rfl) rfl ?_
          exact HQ1.out
        · have hk1 : ¬ ((k : Int) = 0) := by omega
          have hk2 : ((k : Int) == 0) = false := by simpa using hk1
          obtain ⟨q1, q2⟩ := bu_end (R := builtinP m 3 ⟨3, n0, s0⟩ a1) (p := (nilV, nilV)) (by rw [HOP.out, hk]) (HR.out.fresh HFW.out) (VSt.fresh HFW.out) ⟨_, _, r2⟩ HZ.out.1 HZ.out.2
          rw [HQ.out] at q1
          have HQ1 : Hid (Q _ _) := q1
          have HQ2 : Hid (R2 _ _ _ _) := q2
          obtain ⟨e0, e1, e2⟩ := Has.cells3 (v := nilV) r2.h4
          obtain ⟨e3, e4, e5⟩ := r2.h4.frz3
          obtain ⟨d0, d1, d2⟩ := Has.cells3 (v := nilV) r2.h5
          obtain ⟨d3, d4, d5⟩ := r2.h5.frz3
          dsimp only [nilV] at e0 e1 e2 d0 d1 d2
          have l4 := r2.h4.lt
          have l5 := r2.h5.lt
          clear q1 q2 r2
          go_wp2_with fail
          refine bodyPost_ret (res_cell2 isVal isVal rfl rfl HQ2.out.h4 rfl rfl HQ2.out.h5 rfl) rfl ?_
          exact HQ1.out
      · intro G HG
        refine ⟨_, rfl, ?_⟩
        go_wp2_with fail
        refine (parse_any (s := s0) _ hl).mono ?_
        intro e' w5 hp
        have hp2 : ∃ (u : Nat) (k : Nat), e' = .returned (.tuple #[.int .u64 u, .int .i64 k]) ∧ Fr (fun _ => False) ((w.alloc (.cells #[.int .i64 0, .int .u64 0, sv []] 68)).alloc (.cells #[.int .i64 0, .int .u64 0, sv []] 68)).drew w5 ∧ ((k = 0 ∧ parseN s0 = some u) ∨ (k ≠ 0 ∧ parseN s0 = none)) := by
          unfold ParsePost at hp
          cases hm : parseN s0 with
          | none => rw [hm] at hp; obtain ⟨⟨k, h1, h2⟩, h3⟩ := hp; exact ⟨0, k, h2, h3, .inr ⟨h1, rfl⟩⟩
          | some x => rw [hm] at hp; exact ⟨x, 0, hp.1, hp.2, .inl ⟨rfl, rfl⟩⟩
        obtain ⟨u, k, rfl, f5, hk⟩ := hp2
        have HKK : Hid (_ ∨ _) := hk
        have f6 : Fr (fun _ => False) ((w.alloc (.cells #[.int .i64 0, .int .u64 0, sv []] 68)).alloc (.cells #[.int .i64 0, .int .u64 0, sv []] 68)) w5 := ((Fr.refl _ ((w.alloc (.cells #[.int .i64 0, .int .u64 0, sv []] 68)).alloc (.cells #[.int .i64 0, .int .u64 0, sv []] 68))).drew).trans f5 (fun _ _ x => x)
        clear f5 hp hk
        go_wp2_with fail
        refine ⟨⟨⟨_, f6⟩, rfl⟩, [_, _, _], rfl, ?_⟩
        simp only [List.getElem_toArray, List.getElem_cons_succ, List.getElem_cons_zero]
        repeat go_big_quiet_step (fail)
        refine wpQuiet_nil ?_
        show G _ _
        rw [HG.out]
        exact ⟨u, k, by kernel_rfl, f6, HKK.out⟩
    · rw [if_neg h3] at HOP
      have b3 : (t0 == 3) = false := by simpa using h3
      go_enter Tryz.func288, Tryz.ntmps288
      go_wp2_with fail
      refine bodyPost_ret (res_cell2 isVal isVal rfl rfl ((Has.new w _ _).alloc _) rfl rfl (Has.newC _ _ _ (by simp)) rfl) rfl ?_
      rw [← HQ.out, HOP.out]
      exact ⟨rfl, A, HR.out.fresh (((Fr.refl _ w).alloc _).alloc _), VSt.fresh (((Fr.refl _ w).alloc _).alloc _)⟩
theorem bNext_any (h : VRep w A m f e) (ha : Ar w B d a0 a1) (ht : a0.t = 4 → ∃ td, m.tabs[a0.n]? = some td ∧ TFit td) (h12 : m.tabs.length ≤ 12) (hv1 : VOk K a1) : Calls Tryz.prog 291 #[.pointer (some ⟨A.b, 0, none⟩), .pointer (some ⟨B, d, none⟩)] w (BuPost (builtinP m 7 a0 a1) w A f e) := by
  obtain ⟨Q, HQ⟩ : ∃ Q : Ending → World → Prop, Hid (BuPost (builtinP m 7 a0 a1) w A f e = Q) := ⟨_, rfl⟩
  rw [HQ.out]
  have HR : Hid (VRep w A m f e) := h
  have hf2 : Fr (fun _ => False) w ((w.alloc (.cells #[.int .i64 0, .int .u64 0, sv []] 68)).alloc (.cells #[.int .i64 0, .int .u64 0, sv []] 68)) := ((Fr.refl _ w).alloc _).alloc _
  have z0 : A.o w.heap.size = 0 := h.own _ (Nat.le_refl _)
  have z1 : A.o (w.heap.size + 1) = 0 := h.own _ (Nat.le_succ _)
  have HZ : Hid (A.o w.heap.size = 0 ∧ A.o (w.heap.size + 1) = 0) := ⟨z0, z1⟩
  have HA : Hid (Ar w B d a0 a1) := ha
  have hbl := h.bl
  obtain ⟨c0, c1, c2, c3, c4, c5, cl⟩ := ha
  obtain ⟨t0, n0, s0⟩ := a0
  dsimp only at c0 c1 c2
  clear h z0 z1
  have hop : builtinP m 7 ⟨t0, n0, s0⟩ a1 = (if t0 ≠ 4 then thrR mNext m else match (m.tabs.getD n0 tab0).next a1 with | none => thrR mNext m | some r => (.inr r, m)) := by
    unfold builtinP
    simp (config := { decide := true }) only [if_true, if_false]
    rfl
  have HOP : Hid (builtinP m 7 ⟨t0, n0, s0⟩ a1 = _) := hop
  clear hop
  obtain ⟨t1, n1, s1⟩ := a1
  dsimp only at c3 c4 c5
  by_cases h4 : t0 = 4
  · subst h4
    rw [if_neg (by simp)] at HOP
    obtain ⟨td, htd, htf⟩ := ht rfl
    dsimp only at htd
    rw [show m.tabs.getD n0 tab0 = td by simp [htd]] at HOP
    have HTF : Hid (TFit td) := htf
    have HTD : Hid (m.tabs[n0]? = some td) := htd
    have hn12 : n0 < 12 := by have := (List.getElem?_eq_some_iff.1 htd).1; omega
    have n1v := HR.out.cell0 1
    simp only [vmCells, List.getElem?_toArray, List.getElem?_cons_succ, List.getElem?_cons_zero] at n1v
    clear htd htf ht
    go_enter Tryz.func291, Tryz.ntmps291
    go_wp2_with fail
    refine (tabOf_ok n0 (by omega) s0 mNext).mono ?_
    rintro e' w3 ⟨rfl, f3⟩
    have FF : Fr (fun _ => False) w w3 := hf2.trans f3 (fun _ _ x => x)
    have HF3 : Hid (Fr (fun _ => False) w w3) := FF
    have HR3 : Hid (R2 w3 w.heap.size nilV nilV) := (R2.new w).fr f3
    have cs1 := fun s : WS w3 => s.f.cell (FF.cell n1v)
    have d0 := fun s : WS w3 => s.f.cell (FF.cell c3)
    have d1 := fun s : WS w3 => s.f.cell (FF.cell c4)
    have d2 := fun s : WS w3 => s.f.cell (FF.cell c5)
    obtain ⟨nx, HNX⟩ : ∃ nx, Hid (td.next ⟨t1, n1, s1⟩ = nx) := ⟨_, rfl⟩
    rw [HNX.out] at HOP
    obtain ⟨⟨⟨gt, gn, gz⟩, ⟨ht, hn, hz⟩, er⟩, HNV⟩ : ∃ v, Hid (nxV nx = v) := ⟨_, rfl⟩
    have NXT : Hid (∀ W, Fr (fun _ => False) w3 W → Calls Tryz.prog 307 #[.pointer (some ⟨A.bt, 0, none⟩), .int .i64 n0, (⟨t1, n1, s1⟩ : Vl).val] W fun e w' => e = .returned (.tuple #[.agg #[.int .i64 gt, .int .u64 gn, sv gz], .agg #[.int .i64 ht, .int .u64 hn, sv hz], .int .i64 er]) ∧ Fr (fun _ => False) W w') := fun W hW => (next_vm ((HR.out.fresh HF3.out).fresh hW) HTD.out HTF.out h12 hv1.w (fun _ => hv1.b)).mono (fun e w' hz => by
      have h2 := hz.is
      rw [HNX.out, HNV.out] at h2
      exact h2)
    clear f3 FF n1v c0 c1 c2 c3 c4 c5 hf2
    go_wp2_with fail
    have HNE : Nonempty (WS w3) := WS.non w3
    refine wp_region_plan [0, 1, 2, 3, 4, 5, 6, 7, 8] (.three 9 (.quiet [10, 11, 12, 13] (.two 14 (.one 15 .done) 15 (.one 14 .done))) 14 (.two 9 (.quiet [10, 11, 12, 13] (.one 15 .done)) 15 (.one 9 (.quiet [10, 11, 12, 13] .done))) 15 (.two 9 (.quiet [10, 11, 12, 13] (.one 14 .done)) 14 (.one 9 (.quiet [10, 11, 12, 13] .done)))) 16 (fun x => ∃ s : WS w3, x = s.y) (by kernel_rfl) (by kernel_rfl) (fun _ _ _ _ _ h => h) ⟨⟨w3.drew, (Fr.refl _ _).drew⟩, rfl⟩ [_, _, _, _, _, _, _, _, _] rfl _ rfl ?_
    simp only [List.getElem_toArray, List.getElem_cons_succ, List.getElem_cons_zero, List.drop_succ_cons, List.drop_zero, List.length_cons, List.length_nil, Nat.zero_add]
    repeat go_big_quiet_step (fail)
    refine wpQuiet_nil ?_
    clear cs1 d0 d1 d2
    refine ⟨fun a' a W => ∃ B C, a = (((((((a'.put (some 25) (.tuple #[.agg #[.int .i64 gt, .int .u64 gn, sv gz], .agg #[.int .i64 ht, .int .u64 hn, sv hz], .int .i64 er])).put (some 15) (.tuple #[.agg #[.int .i64 gt, .int .u64 gn, sv gz], .agg #[.int .i64 ht, .int .u64 hn, sv hz], .int .i64 er])).put (some 26) (.agg #[.int .i64 gt, .int .u64 gn, sv gz])).put (some 27) (.agg #[.int .i64 ht, .int .u64 hn, sv hz])).put (some 28) (.int .i64 er)).put (some 7) (.pointer (some ⟨B, 0, none⟩))).put (some 8) (.pointer (some ⟨C, 0, none⟩))) ∧ Fr (fun _ => False) w3 W ∧ Has W B #[.int .i64 0, .int .u64 0, sv []] 68 ∧ Has W C #[.int .i64 0, .int .u64 0, sv []] 68 ∧ w3.heap.size ≤ B ∧ w3.heap.size ≤ C ∧ B ≠ C, ?_, ?_⟩
    · rintro a W hSW ⟨B, C, rfl, f4, h4, h5, l4, l5, ne⟩
      clear hSW HNE
      simp only [Act.put, List.setIfInBounds_toArray, List.set_cons_succ, List.set_cons_zero]
      obtain ⟨e0, e1, e2⟩ := Has.cells3 (v := nilV) h4
      obtain ⟨d0, d1, d2⟩ := Has.cells3 (v := nilV) h5
      dsimp only [nilV] at e0 e1 e2 d0 d1 d2
      obtain ⟨e3, e4, e5⟩ := h4.frz3
      obtain ⟨d3, d4, d5⟩ := h5.frz3
      have hl4 := h4.lt
      have hl5 := h5.lt
      have F1 : Fr (fun _ => False) w3 (((W.setCell ⟨B, 0, none⟩ (.int .i64 gt)).setCell ⟨B, 1, none⟩ (.int .u64 gn)).setCell ⟨B, 2, none⟩ (sv gz)) := ((f4.setCell (p := ⟨B, 0, none⟩) (.inr l4) _).setCell (p := ⟨B, 1, none⟩) (.inr l4) _).setCell (p := ⟨B, 2, none⟩) (.inr l4) _
      have HF1 : Hid (Fr (fun _ => False) w3 (((W.setCell ⟨B, 0, none⟩ (.int .i64 gt)).setCell ⟨B, 1, none⟩ (.int .u64 gn)).setCell ⟨B, 2, none⟩ (sv gz))) := F1
      have HF2 : Hid (Fr (fun _ => False) w3 ((((((W.setCell ⟨B, 0, none⟩ (.int .i64 gt)).setCell ⟨B, 1, none⟩ (.int .u64 gn)).setCell ⟨B, 2, none⟩ (sv gz)).setCell ⟨C, 0, none⟩ (.int .i64 ht)).setCell ⟨C, 1, none⟩ (.int .u64 hn)).setCell ⟨C, 2, none⟩ (sv hz))) := ((F1.setCell (p := ⟨C, 0, none⟩) (.inr l5) _).setCell (p := ⟨C, 1, none⟩) (.inr l5) _).setCell (p := ⟨C, 2, none⟩) (.inr l5) _
      have hB1 : Has (((W.setCell ⟨B, 0, none⟩ (.int .i64 gt)).setCell ⟨B, 1, none⟩ (.int .u64 gn)).setCell ⟨B, 2, none⟩ (sv gz)) B #[.int .i64 gt, .int .u64 gn, sv gz] 68 := h4.put3 _ _ _
      have hC1 : Has (((W.setCell ⟨B, 0, none⟩ (.int .i64 gt)).setCell ⟨B, 1, none⟩ (.int .u64 gn)).setCell ⟨B, 2, none⟩ (sv gz)) C #[.int .i64 0, .int .u64 0, sv []] 68 := ((h5.other (p := ⟨B, 0, none⟩) (by simpa using ne.symm) _).other (p := ⟨B, 1, none⟩) (by simpa using ne.symm) _).other (p := ⟨B, 2, none⟩) (by simpa using ne.symm) _
      have HB2 : Hid (Has ((((((W.setCell ⟨B, 0, none⟩ (.int .i64 gt)).setCell ⟨B, 1, none⟩ (.int .u64 gn)).setCell ⟨B, 2, none⟩ (sv gz)).setCell ⟨C, 0, none⟩ (.int .i64 ht)).setCell ⟨C, 1, none⟩ (.int .u64 hn)).setCell ⟨C, 2, none⟩ (sv hz)) B #[.int .i64 gt, .int .u64 gn, sv gz] 68) := ((hB1.other (p := ⟨C, 0, none⟩) (by simpa using ne) _).other (p := ⟨C, 1, none⟩) (by simpa using ne) _).other (p := ⟨C, 2, none⟩) (by simpa using ne) _
      have HC2 : Hid (Has ((((((W.setCell ⟨B, 0, none⟩ (.int .i64 gt)).setCell ⟨B, 1, none⟩ (.int .u64 gn)).setCell ⟨B, 2, none⟩ (sv gz)).setCell ⟨C, 0, none⟩ (.int .i64 ht)).setCell ⟨C, 1, none⟩ (.int .u64 hn)).setCell ⟨C, 2, none⟩ (sv hz)) C #[.int .i64 ht, .int .u64 hn, sv hz] 68) := hC1.put3 _ _ _
      have hne2 : C ≠ B := fun e => ne e.symm
      clear F1 hB1 hC1 h4 h5 f4 NXT
      unfold wpChain
      go_wp2
      refine ⟨⟨⟨_, HF1.out⟩, rfl⟩, ?_⟩
      unfold wpChain
      go_wp2
      refine ⟨⟨⟨_, HF2.out⟩, rfl⟩, ?_⟩
      unfold wpChain
      go_wp2
      refine ⟨⟨⟨_, HF2.out⟩, rfl⟩, ?_⟩
      rw [wpChain_zero]
      obtain ⟨w6, HW6⟩ : ∃ w6, Hid (((((((W.setCell ⟨B, 0, none⟩ (.int .i64 gt)).setCell ⟨B, 1, none⟩ (.int .u64 gn)).setCell ⟨B, 2, none⟩ (sv gz)).setCell ⟨C, 0, none⟩ (.int .i64 ht)).setCell ⟨C, 1, none⟩ (.int .u64 hn)).setCell ⟨C, 2, none⟩ (sv hz)) = w6) := ⟨_, rfl⟩
      rw [HW6.out] at HF2 HB2 HC2
      have e6 : ((((((W.setCell ⟨B, 0, none⟩ (.int .i64 gt)).setCell ⟨B, 1, none⟩ (.int .u64 gn)).setCell ⟨B, 2, none⟩ (.string ⟨gz.toArray⟩)).setCell ⟨C, 0, none⟩ (.int .i64 ht)).setCell ⟨C, 1, none⟩ (.int .u64 hn)).setCell ⟨C, 2, none⟩ (.string ⟨hz.toArray⟩)) = w6 := HW6.out
      rw [e6]
      have HLB : Hid (w3.heap.size ≤ B ∧ w3.heap.size ≤ C ∧ B ≠ C) := ⟨l4, l5, ne⟩
      clear e0 e1 e2 e3 e4 e5 d0 d1 d2 d3 d4 d5 hl4 hl5 HW6 e6 HF1 ne hne2 l4 l5 W
      cases nx with
      | none =>
        have hv : nxV none = (⟨gt, gn, gz⟩, ⟨ht, hn, hz⟩, er) := HNV.out
        dsimp only [nxV, nilV] at hv
        cases hv
        dsimp only at HOP
        clear HNV
        go_wp2_with fail
        refine (raise_any mNext).mono ?_
        rintro e' w7 ⟨⟨b, rfl, hb, hbl2⟩, f7⟩
        have FIN : Hid (Q (.panicked (thrE b)) w7) := by
          rw [← HQ.out, HOP.out]
          exact ⟨⟨b, rfl, hb, by have := HF3.out.size; have := HF2.out.size; omega⟩, A, HR.out.fresh ((HF3.out.trans HF2.out (fun _ _ x => x)).trans f7 (fun _ _ x => x)), VSt.fresh ((HF3.out.trans HF2.out (fun _ _ x => x)).trans f7 (fun _ _ x => x))⟩
        exact ⟨rfl, FIN.out⟩
      | some kv =>
        have hv : nxV (some kv) = (⟨gt, gn, gz⟩, ⟨ht, hn, hz⟩, er) := HNV.out
        obtain ⟨kv1, kv2⟩ := kv
        dsimp only [nxV] at hv
        cases hv
        dsimp only at HOP
        clear HNV
        obtain ⟨B1, hB1⟩ : ∃ B1, B = B1 := ⟨_, rfl⟩
        obtain ⟨C1, hC1⟩ : ∃ C1, C = C1 := ⟨_, rfl⟩
        rw [hB1] at HB2 HLB
        rw [hC1] at HC2 HLB
        rw [hB1, hC1]
        clear hB1 hC1
        go_wp2_with fail
        have HNE : Nonempty (W2 B1 C1 ⟨gt, gn, gz⟩ ⟨ht, hn, hz⟩) := ⟨⟨w6, HB2.out, HC2.out⟩⟩
        have c0 : ∀ s : W2 B1 C1 ⟨gt, gn, gz⟩ ⟨ht, hn, hz⟩, s.y.cell? ⟨B1, 0, none⟩ = some (.int .i64 gt) := fun s => by have := s.hb.cell 0; simpa using this
        have c1 : ∀ s : W2 B1 C1 ⟨gt, gn, gz⟩ ⟨ht, hn, hz⟩, s.y.cell? ⟨B1, 1, none⟩ = some (.int .u64 gn) := fun s => by have := s.hb.cell 1; simpa using this
        have c2 : ∀ s : W2 B1 C1 ⟨gt, gn, gz⟩ ⟨ht, hn, hz⟩, s.y.cell? ⟨B1, 2, none⟩ = some (sv gz) := fun s => by have := s.hb.cell 2; simpa using this
        have c3 : ∀ s : W2 B1 C1 ⟨gt, gn, gz⟩ ⟨ht, hn, hz⟩, s.y.cell? ⟨C1, 0, none⟩ = some (.int .i64 ht) := fun s => by have := s.hc.cell 0; simpa using this
        have c4 : ∀ s : W2 B1 C1 ⟨gt, gn, gz⟩ ⟨ht, hn, hz⟩, s.y.cell? ⟨C1, 1, none⟩ = some (.int .u64 hn) := fun s => by have := s.hc.cell 1; simpa using this
        have c5 : ∀ s : W2 B1 C1 ⟨gt, gn, gz⟩ ⟨ht, hn, hz⟩, s.y.cell? ⟨C1, 2, none⟩ = some (sv hz) := fun s => by have := s.hc.cell 2; simpa using this
        refine wp_region_plan [0, 1] .done 2 (fun x => ∃ s : W2 B1 C1 ⟨gt, gn, gz⟩ ⟨ht, hn, hz⟩, x = s.y) (by kernel_rfl) (by kernel_rfl) (fun _ _ _ _ _ h => h) ⟨⟨w6.drew, HB2.out.drew, HC2.out.drew⟩, rfl⟩ [_, _] rfl _ rfl ?_
        simp only [List.getElem_toArray, List.getElem_cons_succ, List.getElem_cons_zero, List.drop_succ_cons, List.drop_zero, List.length_cons, List.length_nil, Nat.zero_add]
        repeat go_big_quiet_step (fail)
        refine wpQuiet_nil ?_
        clear c0 c1 c2 c3 c4 c5
        obtain ⟨wd, HWD⟩ : ∃ wd, Hid (w6.drew = wd) := ⟨_, rfl⟩
        have HF6 : Hid (Fr (fun _ => False) w3 wd) := by rw [← HWD.out]; exact HF2.out.drew
        have HBD : Hid (Has wd B1 #[.int .i64 gt, .int .u64 gn, sv gz] 68) := by rw [← HWD.out]; exact HB2.out.drew
        have HCD : Hid (Has wd C1 #[.int .i64 ht, .int .u64 hn, sv hz] 68) := by rw [← HWD.out]; exact HC2.out.drew
        have r2 : R2 wd w.heap.size nilV nilV := HR3.out.fr HF6.out
        have HR4 : Hid (R2 wd w.heap.size nilV nilV) := r2
        have hlt5 := HR3.out.h5.lt
        clear r2
        have HGB : Hid (w.heap.size ≠ B1 ∧ w.heap.size ≠ C1 ∧ w.heap.size + 1 ≠ B1 ∧ w.heap.size + 1 ≠ C1) := by
          have := HLB.out
          exact ⟨by omega, by omega, by omega, by omega⟩
        refine ⟨fun a' a Wz => a = a' ∧ Wz = wd, ?_, ?_⟩
        · rintro a Wz hSW ⟨rfl, hWz⟩
          rw [hWz]
          clear hSW HNE hWz Wz
          have r2 := HR4.out
          have HA1 : Hid (Has (((wd.setCell ⟨w.heap.size, 0, none⟩ (.int .i64 gt)).setCell ⟨w.heap.size, 1, none⟩ (.int .u64 gn)).setCell ⟨w.heap.size, 2, none⟩ (sv gz)) B1 #[.int .i64 gt, .int .u64 gn, sv gz] 68 ∧ Has (((wd.setCell ⟨w.heap.size, 0, none⟩ (.int .i64 gt)).setCell ⟨w.heap.size, 1, none⟩ (.int .u64 gn)).setCell ⟨w.heap.size, 2, none⟩ (sv gz)) C1 #[.int .i64 ht, .int .u64 hn, sv hz] 68) := ⟨((HBD.out.other (p := ⟨w.heap.size, 0, none⟩) (by simpa using HGB.out.1.symm) _).other (p := ⟨w.heap.size, 1, none⟩) (by simpa using HGB.out.1.symm) _).other (p := ⟨w.heap.size, 2, none⟩) (by simpa using HGB.out.1.symm) _, ((HCD.out.other (p := ⟨w.heap.size, 0, none⟩) (by simpa using HGB.out.2.1.symm) _).other (p := ⟨w.heap.size, 1, none⟩) (by simpa using HGB.out.2.1.symm) _).other (p := ⟨w.heap.size, 2, none⟩) (by simpa using HGB.out.2.1.symm) _⟩
          have HA2 : Hid (Has (set6 wd w.heap.size ⟨gt, gn, gz⟩ ⟨ht, hn, hz⟩) B1 #[.int .i64 gt, .int .u64 gn, sv gz] 68 ∧ Has (set6 wd w.heap.size ⟨gt, gn, gz⟩ ⟨ht, hn, hz⟩) C1 #[.int .i64 ht, .int .u64 hn, sv hz] 68) := ⟨((HA1.out.1.other (p := ⟨w.heap.size + 1, 0, none⟩) (by simpa using HGB.out.2.2.1.symm) _).other (p := ⟨w.heap.size + 1, 1, none⟩) (by simpa using HGB.out.2.2.1.symm) _).other (p := ⟨w.heap.size + 1, 2, none⟩) (by simpa using HGB.out.2.2.1.symm) _, ((HA1.out.2.other (p := ⟨w.heap.size + 1, 0, none⟩) (by simpa using HGB.out.2.2.2.symm) _).other (p := ⟨w.heap.size + 1, 1, none⟩) (by simpa using HGB.out.2.2.2.symm) _).other (p := ⟨w.heap.size + 1, 2, none⟩) (by simpa using HGB.out.2.2.2.symm) _⟩
          obtain ⟨q1, q2⟩ := bu_end (R := builtinP m 7 ⟨4, n0, s0⟩ ⟨t1, n1, s1⟩) (p := (⟨gt, gn, gz⟩, ⟨ht, hn, hz⟩)) HOP.out (HR.out.fresh (HF3.out.trans HF6.out (fun _ _ x => x))) (VSt.fresh (HF3.out.trans HF6.out (fun _ _ x => x))) ⟨_, _, r2⟩ HZ.out.1 HZ.out.2
          rw [HQ.out] at q1
          have HQ1 : Hid (Q _ _) := q1
          have HQ2 : Hid (R2 _ _ _ _) := q2
          obtain ⟨e0, e1, e2⟩ := Has.cells3 (v := nilV) r2.h4
          obtain ⟨e3, e4, e5⟩ := r2.h4.frz3
          obtain ⟨d0, d1, d2⟩ := Has.cells3 (v := nilV) r2.h5
          obtain ⟨d3, d4, d5⟩ := r2.h5.frz3
          dsimp only [nilV] at e0 e1 e2 d0 d1 d2
          have l4 := r2.h4.lt
          have l5 := r2.h5.lt
          clear q1 q2 r2
          unfold wpChain
          go_wp2
          refine ⟨⟨⟨_, HA1.out.1, HA1.out.2⟩, rfl⟩, ?_⟩
          unfold wpChain
          go_wp2
          refine ⟨⟨⟨_, HA2.out.1, HA2.out.2⟩, rfl⟩, ?_⟩
          rw [wpChain_zero]
          go_wp2_with fail
          refine bodyPost_ret (res_cell2 isVal isVal rfl rfl HQ2.out.h4 rfl rfl HQ2.out.h5 rfl) rfl ?_
          exact HQ1.out
        · rintro G HG
          show G _ _
          rw [HG.out]
          exact ⟨rfl, HWD.out⟩
    · intro G HG
      refine ⟨⟨_, rfl, ?_⟩, ⟨_, rfl, ?_⟩, ⟨_, rfl, ?_⟩⟩
      · go_wp2_with fail
        refine (NXT.out _ (((Fr.refl _ w3).drew))).mono ?_
        rintro e' w5 ⟨rfl, f5⟩
        go_wp2_with fail
        have f6 : Fr (fun _ => False) w3 w5 := ((Fr.refl _ w3).drew).trans f5 (fun _ _ x => x)
        clear f5
        refine ⟨⟨⟨_, f6⟩, rfl⟩, [_, _, _, _], rfl, ?_⟩
        simp only [List.getElem_toArray, List.getElem_cons_succ, List.getElem_cons_zero]
        repeat go_big_quiet_step (fail)
        refine wpQuiet_nil ?_
        refine ⟨⟨_, rfl, ?_⟩, ⟨_, rfl, ?_⟩⟩
        · go_wp2_with fail
          refine ⟨⟨⟨_, f6.alloc _⟩, rfl⟩, _, rfl, ?_⟩
          go_wp2_with fail
          refine ⟨⟨⟨_, (f6.alloc _).alloc _⟩, rfl⟩, ?_⟩
          show G _ _
          rw [HG.out]
          exact ⟨w5.heap.size, w5.heap.size + 1, by kernel_rfl, (f6.alloc _).alloc _, (Has.new _ _ _).alloc _, Has.newC _ _ _ (by simp), f6.size, (by have := f6.size; omega), (by omega)⟩
        · go_wp2_with fail
          refine ⟨⟨⟨_, f6.alloc _⟩, rfl⟩, _, rfl, ?_⟩
          go_wp2_with fail
          refine ⟨⟨⟨_, (f6.alloc _).alloc _⟩, rfl⟩, ?_⟩
          show G _ _
          rw [HG.out]
          exact ⟨w5.heap.size + 1, w5.heap.size, by kernel_rfl, (f6.alloc _).alloc _, Has.newC _ _ _ (by simp), (Has.new _ _ _).alloc _, (by have := f6.size; omega), f6.size, (by omega)⟩
      · go_wp2_with fail
        refine ⟨⟨⟨_, (((Fr.refl _ w3).drew).alloc _)⟩, rfl⟩, ⟨_, rfl, ?_⟩, ⟨_, rfl, ?_⟩⟩
        · go_wp2_with fail
          refine (NXT.out _ ((((Fr.refl _ w3).drew).alloc _))).mono ?_
          rintro e' w5 ⟨rfl, f5⟩
          go_wp2_with fail
          have f6 : Fr (fun _ => False) w3 w5 := (((Fr.refl _ w3).drew).alloc _).trans f5 (fun _ _ x => x)
          have h6 : Has w5 w3.heap.size #[.int .i64 0, .int .u64 0, sv []] 68 := (Has.newC w3.drew _ _ rfl).fr f5 (fun x => x)
          have hs6 := h6.lt
          clear f5
          refine ⟨⟨⟨_, f6⟩, rfl⟩, [_, _, _, _], rfl, ?_⟩
          simp only [List.getElem_toArray, List.getElem_cons_succ, List.getElem_cons_zero]
          repeat go_big_quiet_step (fail)
          refine wpQuiet_nil ?_
          refine ⟨_, rfl, ?_⟩
          go_wp2_with fail
          refine ⟨⟨⟨_, f6.alloc _⟩, rfl⟩, ?_⟩
          show G _ _
          rw [HG.out]
          exact ⟨w3.heap.size, w5.heap.size, by kernel_rfl, f6.alloc _, h6.alloc _, Has.new _ _ _, Nat.le_refl _, f6.size, (by omega)⟩
        · go_wp2_with fail
          refine ⟨⟨⟨_, ((((Fr.refl _ w3).drew).alloc _).alloc _)⟩, rfl⟩, _, rfl, ?_⟩
          go_wp2_with fail
          refine (NXT.out _ (((((Fr.refl _ w3).drew).alloc _).alloc _))).mono ?_
          rintro e' w5 ⟨rfl, f5⟩
          go_wp2_with fail
          have f6 : Fr (fun _ => False) w3 w5 := ((((Fr.refl _ w3).drew).alloc _).alloc _).trans f5 (fun _ _ x => x)
          have h6 : Has w5 w3.heap.size #[.int .i64 0, .int .u64 0, sv []] 68 := ((Has.newC w3.drew _ _ rfl).alloc _).fr f5 (fun x => x)
          have h7 : Has w5 (w3.heap.size + 1) #[.int .i64 0, .int .u64 0, sv []] 68 := (Has.newC _ _ _ (by rw [World.size_alloc]; rfl)).fr f5 (fun x => x)
          clear f5
          refine ⟨⟨⟨_, f6⟩, rfl⟩, [_, _, _, _], rfl, ?_⟩
          simp only [List.getElem_toArray, List.getElem_cons_succ, List.getElem_cons_zero]
          repeat go_big_quiet_step (fail)
          refine wpQuiet_nil ?_
          show G _ _
          rw [HG.out]
          exact ⟨w3.heap.size, w3.heap.size + 1, by kernel_rfl, f6, h6, h7, Nat.le_refl _, Nat.le_succ _, (by omega)⟩
      · go_wp2_with fail
        refine ⟨⟨⟨_, (((Fr.refl _ w3).drew).alloc _)⟩, rfl⟩, ⟨_, rfl, ?_⟩, ⟨_, rfl, ?_⟩⟩
        · go_wp2_with fail
          refine (NXT.out _ ((((Fr.refl _ w3).drew).alloc _))).mono ?_
          rintro e' w5 ⟨rfl, f5⟩
          go_wp2_with fail
          have f6 : Fr (fun _ => False) w3 w5 := (((Fr.refl _ w3).drew).alloc _).trans f5 (fun _ _ x => x)
          have h6 : Has w5 w3.heap.size #[.int .i64 0, .int .u64 0, sv []] 68 := (Has.newC w3.drew _ _ rfl).fr f5 (fun x => x)
          have hs6 := h6.lt
          clear f5
          refine ⟨⟨⟨_, f6⟩, rfl⟩, [_, _, _, _], rfl, ?_⟩
          simp only [List.getElem_toArray, List.getElem_cons_succ, List.getElem_cons_zero]
          repeat go_big_quiet_step (fail)
          refine wpQuiet_nil ?_
          refine ⟨_, rfl, ?_⟩
          go_wp2_with fail
          refine ⟨⟨⟨_, f6.alloc _⟩, rfl⟩, ?_⟩
          show G _ _
          rw [HG.out]
          exact ⟨w5.heap.size, w3.heap.size, by kernel_rfl, f6.alloc _, Has.new _ _ _, h6.alloc _, f6.size, Nat.le_refl _, (by omega)⟩
        · go_wp2_with fail
          refine ⟨⟨⟨_, ((((Fr.refl _ w3).drew).alloc _).alloc _)⟩, rfl⟩, _, rfl, ?_⟩
          go_wp2_with fail
          refine (NXT.out _ (((((Fr.refl _ w3).drew).alloc _).alloc _))).mono ?_
          rintro e' w5 ⟨rfl, f5⟩
          go_wp2_with fail
          have f6 : Fr (fun _ => False) w3 w5 := ((((Fr.refl _ w3).drew).alloc _).alloc _).trans f5 (fun _ _ x => x)
          have h6 : Has w5 w3.heap.size #[.int .i64 0, .int .u64 0, sv []] 68 := ((Has.newC w3.drew _ _ rfl).alloc _).fr f5 (fun x => x)
          have h7 : Has w5 (w3.heap.size + 1) #[.int .i64 0, .int .u64 0, sv []] 68 := (Has.newC _ _ _ (by rw [World.size_alloc]; rfl)).fr f5 (fun x => x)
          clear f5
          refine ⟨⟨⟨_, f6⟩, rfl⟩, [_, _, _, _], rfl, ?_⟩
          simp only [List.getElem_toArray, List.getElem_cons_succ, List.getElem_cons_zero]
          repeat go_big_quiet_step (fail)
          refine wpQuiet_nil ?_
          show G _ _
          rw [HG.out]
          exact ⟨w3.heap.size + 1, w3.heap.size, by kernel_rfl, f6, h7, h6, Nat.le_succ _, Nat.le_refl _, (by omega)⟩
  · rw [if_pos h4] at HOP
    go_enter Tryz.func291, Tryz.ntmps291
    go_wp2_with fail
    refine (tabOf_no ⟨t0, n0, s0⟩ h4 mNext).mono ?_
    rintro e' w3 ⟨⟨b, rfl, hb, hbl2⟩, f3⟩
    have FIN : Hid (Q (.panicked (thrE b)) w3) := by
      rw [← HQ.out, HOP.out]
      exact ⟨⟨b, rfl, hb, by simp at hbl2; omega⟩, A, HR.out.fresh (hf2.trans f3 (fun _ _ x => x)), VSt.fresh (hf2.trans f3 (fun _ _ x => x))⟩
    exact ⟨rfl, FIN.out⟩
end
end Go.Proofs.Qxb6500574aGreatDoor
