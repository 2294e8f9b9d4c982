/-
  THE WALK of vm: forOp: the next pair of a table.
-/
import Derived.Test.Qxb6500574aGreatDoorVFor
namespace Go.Proofs.Qxb6500574aGreatDoor
open Go Go.RowKit
set_option linter.unusedVariables false
set_option linter.unusedSimpArgs false
theorem next_vm {w : World} {A : VL} {m : VMD} {f e h : Nat} {td : TabD} (r : VRep w A m f e) (ht : m.tabs[h]? = some td) (hf : TFit td) (h12 : m.tabs.length ≤ 12) {k : Vl} (hk : wellV k = true) (hkn : k.t = 2 → k.n < 18446744073709551616) :
    Calls Tryz.prog 307 #[.pointer (some ⟨A.bt, 0, none⟩), .int .i64 h, k.val] w (NextPost (td.next k) w) := by
  obtain ⟨kk, l, g, h1, h2, h3, h4⟩ := r.tabAt ht
  exact next_any h2 h3 hf (List.getElem?_eq_some_iff.1 ht).1 h12 k hk hkn
/-- what Next answers: the pair, the error -/
def nxV (o : Option (Vl × Vl)) : Vl × Vl × Nat := match o with | none => (nilV, nilV, 7) | some kv => (kv.1, kv.2, 0)
theorem NextPost.is {o : Option (Vl × Vl)} {w w' : World} {e : Ending} (h : NextPost o w e w') : e = .returned (.tuple #[(nxV o).1.val, (nxV o).2.1.val, .int .i64 (nxV o).2.2]) ∧ Fr (fun _ => False) w w' := by
  cases o with
  | none => exact h
  | some kv => exact h
/-- a world in which two blocks are known -/
structure W2 (b c : Nat) (k v : Vl) where
  y : World
  hb : Has y b #[.int .i64 k.t, .int .u64 k.n, sv k.s] 68
  hc : Has y c #[.int .i64 v.t, .int .u64 v.n, sv v.s] 68
section
variable {w : World} {A : VL} {m : VMD} {f e i gs x0 cap : Nat} {t : ThD} {l : ThL} {K : Cx} {s0 s1 s2 s3 : Vl}
set_option maxRecDepth 100000
set_option maxHeartbeats 1600000
theorem for_32 (h : Fo w A m f e i t l gs x0 K s0 s1 s2 s3) (hc : 4 ≤ cap) : Calls Tryz.prog 300 #[.pointer (some ⟨A.b, 0, none⟩), .pointer (some ⟨A.bT, i * 5, none⟩), .slice (some ⟨gs, x0 * 3, none⟩) 4 cap, .int .u8 32] w (PlPost (forP m i 32 x0) w A f e i) := by
  have hop : forP m i 32 x0 = (if s0.t ≠ 4 then thrR mFor m else match (m.tabs.getD s0.n tab0).next s1 with | none => thrR mNext m | some kv => (.inr (), push (m.setTh i { m.th i with stack := (((m.th i).stack.set (x0 + 1) kv.1).set (x0 + 2) kv.1).set (x0 + 3) kv.2 }) i [boolV (kv.1.t ≠ 0)])) := by
    obtain ⟨e1, e2, e3, e4⟩ := forP_st h.hi h.a0 h.a1 h.a2
    unfold forP
    simp only [e2, e3, e4]
    simp (config := { decide := true }) only [if_true, if_false]
    rfl
  obtain ⟨Q, HQ⟩ : ∃ Q : Ending → World → Prop, Hid (PlPost (forP m i 32 x0) w A f e i = Q) := ⟨_, rfl⟩
  rw [HQ.out]
  have HOP : Hid (forP m i 32 x0 = _) := hop
  clear hop
  have HB : Hid (Fo w A m f e i t l gs x0 K s0 s1 s2 s3) := h
  obtain ⟨c00, c01, c02, gl, gf⟩ := h.cells 0 s0 h.a0
  obtain ⟨c10, c11, c12, _, _⟩ := h.cells 1 s1 h.a1
  obtain ⟨c20, c21, c22, _, _⟩ := h.cells 2 s2 h.a2
  obtain ⟨c30, c31, c32, _, _⟩ := h.cells 3 s3 h.a3
  simp only [Nat.zero_mul, Nat.add_zero, Nat.one_mul] at c00 c01 c02 c10 c11 c12
  have hx0 : x0 ≤ 1120 := by have := (List.getElem?_eq_some_iff.1 h.a0).1; have := h.sn; omega
  have n0 := h.rep.cell0 0
  have n1 := h.rep.cell0 1
  simp only [vmCells, List.getElem?_toArray, List.getElem?_cons_succ, List.getElem?_cons_zero] at n0 n1
  have hbl := h.rep.bl
  obtain ⟨t0, u0, z0⟩ := s0
  obtain ⟨t1, u1, z1⟩ := s1
  obtain ⟨t2, u2, z2⟩ := s2
  obtain ⟨t3, u3, z3⟩ := s3
  dsimp only at c00 c01 c02 c10 c11 c12 c20 c21 c22 c30 c31 c32 HOP
  clear h
  by_cases h0 : t0 = 4
  · subst h0
    rw [if_neg (by simp)] at HOP
    have hnt := HB.out.v0.t rfl
    have hkt := HB.out.vi.kt
    have hkn := HB.out.vi.tn
    dsimp only at hnt
    obtain ⟨td, htd⟩ : ∃ td, m.tabs[u0]? = some td := ⟨m.tabs[u0]'(by omega), by simp⟩
    rw [show m.tabs.getD u0 tab0 = td by simp [htd]] at HOP
    have HTF : Hid (TFit td) := (HB.out.vi.tb td (List.mem_of_getElem? htd)).1
    have HTD : Hid (m.tabs[u0]? = some td) := htd
    clear htd
    go_enter Tryz.func300, Tryz.ntmps300
    go_wp2_with fail
    refine (tabOf_ok u0 (by omega) z0 mFor).mono ?_
    rintro e' w3 ⟨rfl, f3⟩
    have HF3 : Hid (Fr (fun _ => False) w w3) := f3
    have cs1 := fun s : WS w3 => s.f.cell (f3.cell n1)
    have d0 := fun s : WS w3 => s.f.cell (f3.cell c10)
    have d1 := fun s : WS w3 => s.f.cell (f3.cell c11)
    have d2 := fun s : WS w3 => s.f.cell (f3.cell c12)
    obtain ⟨nx, HNX⟩ : ∃ nx, Hid (td.next ⟨t1, u1, z1⟩ = nx) := ⟨_, rfl⟩
    rw [HNX.out] at HOP
    obtain ⟨⟨⟨gt, gn, gz⟩, ⟨ht, hn, hz⟩, er⟩, HNV⟩ : ∃ v, Hid (nxV nx = v) := ⟨_, rfl⟩
    have NXT : Hid (∀ W, Fr (fun _ => False) w3 W → Calls Tryz.prog 307 #[.pointer (some ⟨A.bt, 0, none⟩), .int .i64 u0, (⟨t1, u1, z1⟩ : Vl).val] W fun e w' => e = .returned (.tuple #[.agg #[.int .i64 gt, .int .u64 gn, sv gz], .agg #[.int .i64 ht, .int .u64 hn, sv hz], .int .i64 er]) ∧ Fr (fun _ => False) W w') := fun W hW => (next_vm ((HB.out.rep.fresh HF3.out).fresh hW) HTD.out HTF.out (by omega) HB.out.v1.w (fun _ => HB.out.v1.b)).mono (fun e w' hz => by
      have h2 := hz.is
      rw [HNX.out, HNV.out] at h2
      exact h2)
    clear f3 n0 n1 c00 c01 c02 c10 c11 c12 c20 c21 c22 c30 c31 c32 gf
    go_wp2_with fail
    have HNE : Nonempty (WS w3) := WS.non w3
    refine wp_region_plan [0, 1, 2, 3, 4, 5, 6, 7] (.three 8 (.quiet [9, 10, 11, 12] (.two 13 (.one 14 .done) 14 (.one 13 .done))) 13 (.two 8 (.quiet [9, 10, 11, 12] (.one 14 .done)) 14 (.one 8 (.quiet [9, 10, 11, 12] .done))) 14 (.two 8 (.quiet [9, 10, 11, 12] (.one 13 .done)) 13 (.one 8 (.quiet [9, 10, 11, 12] .done)))) 15 (fun x => ∃ s : WS w3, x = s.y) (by kernel_rfl) (by kernel_rfl) (fun _ _ _ _ _ h => h) ⟨⟨w3.drew, (Fr.refl _ _).drew⟩, rfl⟩ [_, _, _, _, _, _, _, _] rfl _ rfl ?_
    simp only [List.getElem_toArray, List.getElem_cons_succ, List.getElem_cons_zero, List.drop_succ_cons, List.drop_zero, List.length_cons, List.length_nil, Nat.zero_add]
    repeat go_big_quiet_step (fail)
    refine wpQuiet_nil ?_
    clear cs1 d0 d1 d2
    refine ⟨fun a' a W => ∃ B C, a = (((((((a'.put (some 116) (.tuple #[.agg #[.int .i64 gt, .int .u64 gn, sv gz], .agg #[.int .i64 ht, .int .u64 hn, sv hz], .int .i64 er])).put (some 107) (.tuple #[.agg #[.int .i64 gt, .int .u64 gn, sv gz], .agg #[.int .i64 ht, .int .u64 hn, sv hz], .int .i64 er])).put (some 117) (.agg #[.int .i64 gt, .int .u64 gn, sv gz])).put (some 118) (.agg #[.int .i64 ht, .int .u64 hn, sv hz])).put (some 119) (.int .i64 er)).put (some 15) (.pointer (some ⟨B, 0, none⟩))).put (some 16) (.pointer (some ⟨C, 0, none⟩))) ∧ Fr (fun _ => False) w3 W ∧ Has W B #[.int .i64 0, .int .u64 0, sv []] 68 ∧ Has W C #[.int .i64 0, .int .u64 0, sv []] 68 ∧ w3.heap.size ≤ B ∧ w3.heap.size ≤ C ∧ B ≠ C, ?_, ?_⟩
    · rintro a W hSW ⟨B, C, rfl, f4, h4, h5, l4, l5, ne⟩
      clear hSW HNE
      simp only [Act.put, List.setIfInBounds_toArray, List.set_cons_succ, List.set_cons_zero]
      obtain ⟨e0, e1, e2⟩ := Has.cells3 (v := nilV) h4
      obtain ⟨d0, d1, d2⟩ := Has.cells3 (v := nilV) h5
      dsimp only [nilV] at e0 e1 e2 d0 d1 d2
      obtain ⟨e3, e4, e5⟩ := h4.frz3
      obtain ⟨d3, d4, d5⟩ := h5.frz3
      have hl4 := h4.lt
      have hl5 := h5.lt
      have F1 : Fr (fun _ => False) w3 (((W.setCell ⟨B, 0, none⟩ (.int .i64 gt)).setCell ⟨B, 1, none⟩ (.int .u64 gn)).setCell ⟨B, 2, none⟩ (sv gz)) := ((f4.setCell (p := ⟨B, 0, none⟩) (.inr l4) _).setCell (p := ⟨B, 1, none⟩) (.inr l4) _).setCell (p := ⟨B, 2, none⟩) (.inr l4) _
      have HF1 : Hid (Fr (fun _ => False) w3 (((W.setCell ⟨B, 0, none⟩ (.int .i64 gt)).setCell ⟨B, 1, none⟩ (.int .u64 gn)).setCell ⟨B, 2, none⟩ (sv gz))) := F1
      have HF2 : Hid (Fr (fun _ => False) w3 ((((((W.setCell ⟨B, 0, none⟩ (.int .i64 gt)).setCell ⟨B, 1, none⟩ (.int .u64 gn)).setCell ⟨B, 2, none⟩ (sv gz)).setCell ⟨C, 0, none⟩ (.int .i64 ht)).setCell ⟨C, 1, none⟩ (.int .u64 hn)).setCell ⟨C, 2, none⟩ (sv hz))) := ((F1.setCell (p := ⟨C, 0, none⟩) (.inr l5) _).setCell (p := ⟨C, 1, none⟩) (.inr l5) _).setCell (p := ⟨C, 2, none⟩) (.inr l5) _
      have hB1 : Has (((W.setCell ⟨B, 0, none⟩ (.int .i64 gt)).setCell ⟨B, 1, none⟩ (.int .u64 gn)).setCell ⟨B, 2, none⟩ (sv gz)) B #[.int .i64 gt, .int .u64 gn, sv gz] 68 := h4.put3 _ _ _
      have hC1 : Has (((W.setCell ⟨B, 0, none⟩ (.int .i64 gt)).setCell ⟨B, 1, none⟩ (.int .u64 gn)).setCell ⟨B, 2, none⟩ (sv gz)) C #[.int .i64 0, .int .u64 0, sv []] 68 := ((h5.other (p := ⟨B, 0, none⟩) (by simpa using ne.symm) _).other (p := ⟨B, 1, none⟩) (by simpa using ne.symm) _).other (p := ⟨B, 2, none⟩) (by simpa using ne.symm) _
      have HB2 : Hid (Has ((((((W.setCell ⟨B, 0, none⟩ (.int .i64 gt)).setCell ⟨B, 1, none⟩ (.int .u64 gn)).setCell ⟨B, 2, none⟩ (sv gz)).setCell ⟨C, 0, none⟩ (.int .i64 ht)).setCell ⟨C, 1, none⟩ (.int .u64 hn)).setCell ⟨C, 2, none⟩ (sv hz)) B #[.int .i64 gt, .int .u64 gn, sv gz] 68) := ((hB1.other (p := ⟨C, 0, none⟩) (by simpa using ne) _).other (p := ⟨C, 1, none⟩) (by simpa using ne) _).other (p := ⟨C, 2, none⟩) (by simpa using ne) _
      have HC2 : Hid (Has ((((((W.setCell ⟨B, 0, none⟩ (.int .i64 gt)).setCell ⟨B, 1, none⟩ (.int .u64 gn)).setCell ⟨B, 2, none⟩ (sv gz)).setCell ⟨C, 0, none⟩ (.int .i64 ht)).setCell ⟨C, 1, none⟩ (.int .u64 hn)).setCell ⟨C, 2, none⟩ (sv hz)) C #[.int .i64 ht, .int .u64 hn, sv hz] 68) := hC1.put3 _ _ _
      have hne2 : C ≠ B := fun e => ne e.symm
      clear F1 hB1 hC1 h4 h5 f4 NXT
      unfold wpChain
      go_wp2
      refine ⟨⟨⟨_, HF1.out⟩, rfl⟩, ?_⟩
      unfold wpChain
      go_wp2
      refine ⟨⟨⟨_, HF2.out⟩, rfl⟩, ?_⟩
      unfold wpChain
      go_wp2
      refine ⟨⟨⟨_, HF2.out⟩, rfl⟩, ?_⟩
      rw [wpChain_zero]
      obtain ⟨w6, HW6⟩ : ∃ w6, Hid (((((((W.setCell ⟨B, 0, none⟩ (.int .i64 gt)).setCell ⟨B, 1, none⟩ (.int .u64 gn)).setCell ⟨B, 2, none⟩ (sv gz)).setCell ⟨C, 0, none⟩ (.int .i64 ht)).setCell ⟨C, 1, none⟩ (.int .u64 hn)).setCell ⟨C, 2, none⟩ (sv hz)) = w6) := ⟨_, rfl⟩
      rw [HW6.out] at HF2 HB2 HC2
      have e6 : ((((((W.setCell ⟨B, 0, none⟩ (.int .i64 gt)).setCell ⟨B, 1, none⟩ (.int .u64 gn)).setCell ⟨B, 2, none⟩ (.string ⟨gz.toArray⟩)).setCell ⟨C, 0, none⟩ (.int .i64 ht)).setCell ⟨C, 1, none⟩ (.int .u64 hn)).setCell ⟨C, 2, none⟩ (.string ⟨hz.toArray⟩)) = w6 := HW6.out
      rw [e6]
      have HLB : Hid (w3.heap.size ≤ B ∧ w3.heap.size ≤ C ∧ B ≠ C) := ⟨l4, l5, ne⟩
      clear e0 e1 e2 e3 e4 e5 d0 d1 d2 d3 d4 d5 hl4 hl5 HW6 e6 HF1 ne hne2 l4 l5 W
      cases nx with
      | none =>
        have hv : nxV none = (⟨gt, gn, gz⟩, ⟨ht, hn, hz⟩, er) := HNV.out
        dsimp only [nxV, nilV] at hv
        cases hv
        dsimp only at HOP
        clear HNV
        go_wp2_with fail
        refine (raise_any mNext).mono ?_
        rintro e' w3 ⟨⟨b, rfl, hb, hbl⟩, f3⟩
        have FIN : Hid (Q (.panicked (thrE b)) w3) := by
          rw [← HQ.out, HOP.out]
          exact ⟨⟨b, rfl, hb, by have := HF3.out.size; have := HF2.out.size; omega⟩, A, HB.out.rep.fresh (((HF3.out.trans HF2.out (fun _ _ x => x))).trans f3 (fun _ _ x => x)), VSt.fresh (((HF3.out.trans HF2.out (fun _ _ x => x))).trans f3 (fun _ _ x => x))⟩
        exact ⟨rfl, FIN.out⟩
      | some kv =>
        have hv : nxV (some kv) = (⟨gt, gn, gz⟩, ⟨ht, hn, hz⟩, er) := HNV.out
        obtain ⟨kv1, kv2⟩ := kv
        dsimp only [nxV] at hv
        cases hv
        dsimp only at HOP
        clear HNV
        go_wp2_with fail
        have HNE : Nonempty (W2 B C ⟨gt, gn, gz⟩ ⟨ht, hn, hz⟩) := ⟨⟨w6, HB2.out, HC2.out⟩⟩
        have c0 : ∀ s : W2 B C ⟨gt, gn, gz⟩ ⟨ht, hn, hz⟩, s.y.cell? ⟨B, 0, none⟩ = some (.int .i64 gt) := fun s => by have := s.hb.cell 0; simpa using this
        have c1 : ∀ s : W2 B C ⟨gt, gn, gz⟩ ⟨ht, hn, hz⟩, s.y.cell? ⟨B, 1, none⟩ = some (.int .u64 gn) := fun s => by have := s.hb.cell 1; simpa using this
        have c2 : ∀ s : W2 B C ⟨gt, gn, gz⟩ ⟨ht, hn, hz⟩, s.y.cell? ⟨B, 2, none⟩ = some (sv gz) := fun s => by have := s.hb.cell 2; simpa using this
        have c3 : ∀ s : W2 B C ⟨gt, gn, gz⟩ ⟨ht, hn, hz⟩, s.y.cell? ⟨C, 0, none⟩ = some (.int .i64 ht) := fun s => by have := s.hc.cell 0; simpa using this
        have c4 : ∀ s : W2 B C ⟨gt, gn, gz⟩ ⟨ht, hn, hz⟩, s.y.cell? ⟨C, 1, none⟩ = some (.int .u64 hn) := fun s => by have := s.hc.cell 1; simpa using this
        have c5 : ∀ s : W2 B C ⟨gt, gn, gz⟩ ⟨ht, hn, hz⟩, s.y.cell? ⟨C, 2, none⟩ = some (sv hz) := fun s => by have := s.hc.cell 2; simpa using this
        refine wp_region_plan [0, 1, 2, 3, 4, 5, 6] .done 7 (fun x => ∃ s : W2 B C ⟨gt, gn, gz⟩ ⟨ht, hn, hz⟩, x = s.y) (by kernel_rfl) (by kernel_rfl) (fun _ _ _ _ _ h => h) ⟨⟨w6.drew, HB2.out.drew, HC2.out.drew⟩, rfl⟩ [_, _, _, _, _, _, _] rfl _ rfl ?_
        simp only [List.getElem_toArray, List.getElem_cons_succ, List.getElem_cons_zero, List.drop_succ_cons, List.drop_zero, List.length_cons, List.length_nil, Nat.zero_add]
        repeat go_big_quiet_step (fail)
        refine wpQuiet_nil ?_
        clear c0 c1 c2 c3 c4 c5
        obtain ⟨wd, HWD⟩ : ∃ wd, Hid (w6.drew = wd) := ⟨_, rfl⟩
        have hfd : Fr (fun _ => False) w wd := by rw [← HWD.out]; exact (HF3.out.trans HF2.out (fun _ _ x => x)).drew
        have HFD : Hid (Fr (fun _ => False) w wd) := hfd
        have HBD : Hid (Has wd B #[.int .i64 gt, .int .u64 gn, sv gz] 68) := by rw [← HWD.out]; exact HB2.out.drew
        have HCD : Hid (Has wd C #[.int .i64 ht, .int .u64 hn, sv hz] 68) := by rw [← HWD.out]; exact HC2.out.drew
        have HGB : Hid (gs ≠ B ∧ gs ≠ C) := by
          have := HF3.out.size
          have := HLB.out
          exact ⟨by omega, by omega⟩
        refine ⟨fun a' a Wz => a = a' ∧ Wz = wd, ?_, ?_⟩
        · rintro a Wz hSW ⟨rfl, hWz⟩
          rw [hWz]
          clear hSW HNE hWz Wz
          obtain ⟨y0, y1, y2, gl2, gf2⟩ := (HB.out.fresh hfd).cells 1 _ HB.out.a1
          obtain ⟨y3, y4, y5, _, _⟩ := (HB.out.fresh hfd).cells 2 _ HB.out.a2
          obtain ⟨y6, y7, y8, _, _⟩ := (HB.out.fresh hfd).cells 3 _ HB.out.a3
          simp only [Nat.one_mul, Nat.reduceMul] at y0 y1 y2 y3 y4 y5 y6 y7 y8
          have z0 := gf2 (x0 * 3 + 3)
          have z1 := gf2 (x0 * 3 + 3 + 1)
          have z2 := gf2 (x0 * 3 + 3 + 2)
          have z3 := gf2 (x0 * 3 + 6)
          have z4 := gf2 (x0 * 3 + 6 + 1)
          have z5 := gf2 (x0 * 3 + 6 + 2)
          have z6 := gf2 (x0 * 3 + 9)
          have z7 := gf2 (x0 * 3 + 9 + 1)
          have z8 := gf2 (x0 * 3 + 9 + 2)
          have HA : Hid (Has (((wd.setCell ⟨gs, x0 * 3 + 3, none⟩ (.int .i64 gt)).setCell ⟨gs, x0 * 3 + 3 + 1, none⟩ (.int .u64 gn)).setCell ⟨gs, x0 * 3 + 3 + 2, none⟩ (sv gz)) B #[.int .i64 gt, .int .u64 gn, sv gz] 68 ∧ Has (((wd.setCell ⟨gs, x0 * 3 + 3, none⟩ (.int .i64 gt)).setCell ⟨gs, x0 * 3 + 3 + 1, none⟩ (.int .u64 gn)).setCell ⟨gs, x0 * 3 + 3 + 2, none⟩ (sv gz)) C #[.int .i64 ht, .int .u64 hn, sv hz] 68) := ⟨((HBD.out.other (p := ⟨gs, _, none⟩) (by simpa using HGB.out.1.symm) _).other (p := ⟨gs, _, none⟩) (by simpa using HGB.out.1.symm) _).other (p := ⟨gs, _, none⟩) (by simpa using HGB.out.1.symm) _, ((HCD.out.other (p := ⟨gs, _, none⟩) (by simpa using HGB.out.2.symm) _).other (p := ⟨gs, _, none⟩) (by simpa using HGB.out.2.symm) _).other (p := ⟨gs, _, none⟩) (by simpa using HGB.out.2.symm) _⟩
          have HA2 : Hid (Has ((((((wd.setCell ⟨gs, x0 * 3 + 3, none⟩ (.int .i64 gt)).setCell ⟨gs, x0 * 3 + 3 + 1, none⟩ (.int .u64 gn)).setCell ⟨gs, x0 * 3 + 3 + 2, none⟩ (sv gz)).setCell ⟨gs, x0 * 3 + 6, none⟩ (.int .i64 gt)).setCell ⟨gs, x0 * 3 + 6 + 1, none⟩ (.int .u64 gn)).setCell ⟨gs, x0 * 3 + 6 + 2, none⟩ (sv gz)) B #[.int .i64 gt, .int .u64 gn, sv gz] 68 ∧ Has ((((((wd.setCell ⟨gs, x0 * 3 + 3, none⟩ (.int .i64 gt)).setCell ⟨gs, x0 * 3 + 3 + 1, none⟩ (.int .u64 gn)).setCell ⟨gs, x0 * 3 + 3 + 2, none⟩ (sv gz)).setCell ⟨gs, x0 * 3 + 6, none⟩ (.int .i64 gt)).setCell ⟨gs, x0 * 3 + 6 + 1, none⟩ (.int .u64 gn)).setCell ⟨gs, x0 * 3 + 6 + 2, none⟩ (sv gz)) C #[.int .i64 ht, .int .u64 hn, sv hz] 68) := ⟨((HA.out.1.other (p := ⟨gs, _, none⟩) (by simpa using HGB.out.1.symm) _).other (p := ⟨gs, _, none⟩) (by simpa using HGB.out.1.symm) _).other (p := ⟨gs, _, none⟩) (by simpa using HGB.out.1.symm) _, ((HA.out.2.other (p := ⟨gs, _, none⟩) (by simpa using HGB.out.2.symm) _).other (p := ⟨gs, _, none⟩) (by simpa using HGB.out.2.symm) _).other (p := ⟨gs, _, none⟩) (by simpa using HGB.out.2.symm) _⟩
          have HA3 : Hid (Has (((((((((wd.setCell ⟨gs, x0 * 3 + 3, none⟩ (.int .i64 gt)).setCell ⟨gs, x0 * 3 + 3 + 1, none⟩ (.int .u64 gn)).setCell ⟨gs, x0 * 3 + 3 + 2, none⟩ (sv gz)).setCell ⟨gs, x0 * 3 + 6, none⟩ (.int .i64 gt)).setCell ⟨gs, x0 * 3 + 6 + 1, none⟩ (.int .u64 gn)).setCell ⟨gs, x0 * 3 + 6 + 2, none⟩ (sv gz)).setCell ⟨gs, x0 * 3 + 9, none⟩ (.int .i64 ht)).setCell ⟨gs, x0 * 3 + 9 + 1, none⟩ (.int .u64 hn)).setCell ⟨gs, x0 * 3 + 9 + 2, none⟩ (sv hz)) B #[.int .i64 gt, .int .u64 gn, sv gz] 68 ∧ Has (((((((((wd.setCell ⟨gs, x0 * 3 + 3, none⟩ (.int .i64 gt)).setCell ⟨gs, x0 * 3 + 3 + 1, none⟩ (.int .u64 gn)).setCell ⟨gs, x0 * 3 + 3 + 2, none⟩ (sv gz)).setCell ⟨gs, x0 * 3 + 6, none⟩ (.int .i64 gt)).setCell ⟨gs, x0 * 3 + 6 + 1, none⟩ (.int .u64 gn)).setCell ⟨gs, x0 * 3 + 6 + 2, none⟩ (sv gz)).setCell ⟨gs, x0 * 3 + 9, none⟩ (.int .i64 ht)).setCell ⟨gs, x0 * 3 + 9 + 1, none⟩ (.int .u64 hn)).setCell ⟨gs, x0 * 3 + 9 + 2, none⟩ (sv hz)) C #[.int .i64 ht, .int .u64 hn, sv hz] 68) := ⟨((HA2.out.1.other (p := ⟨gs, _, none⟩) (by simpa using HGB.out.1.symm) _).other (p := ⟨gs, _, none⟩) (by simpa using HGB.out.1.symm) _).other (p := ⟨gs, _, none⟩) (by simpa using HGB.out.1.symm) _, ((HA2.out.2.other (p := ⟨gs, _, none⟩) (by simpa using HGB.out.2.symm) _).other (p := ⟨gs, _, none⟩) (by simpa using HGB.out.2.symm) _).other (p := ⟨gs, _, none⟩) (by simpa using HGB.out.2.symm) _⟩
          obtain ⟨v1, u1v⟩ := (HB.out.fresh hfd).rep.setVal HB.out.hi HB.out.hx HB.out.sa HB.out.a1 ⟨gt, gn, gz⟩
          obtain ⟨v2, u2v⟩ := v1.setVal (setTh_at HB.out.hi) HB.out.hx HB.out.sa (j := x0 + 2) (u := _) (by simp; exact HB.out.a2) ⟨gt, gn, gz⟩
          rw [setTh_set] at v2
          obtain ⟨v3, u3v⟩ := v2.setVal (setTh_at HB.out.hi) HB.out.hx HB.out.sa (j := x0 + 3) (u := _) (by simp; exact HB.out.a3) ⟨ht, hn, hz⟩
          rw [setTh_set] at v3
          simp only [show (x0 + 1) * 3 = x0 * 3 + 3 by omega, show (x0 + 2) * 3 = x0 * 3 + 6 by omega, show (x0 + 3) * 3 = x0 * 3 + 9 by omega] at v3 u1v u2v u3v
          have HV : Hid (VRep (((((((((wd.setCell ⟨gs, x0 * 3 + 3, none⟩ (.int .i64 gt)).setCell ⟨gs, x0 * 3 + 3 + 1, none⟩ (.int .u64 gn)).setCell ⟨gs, x0 * 3 + 3 + 2, none⟩ (sv gz)).setCell ⟨gs, x0 * 3 + 6, none⟩ (.int .i64 gt)).setCell ⟨gs, x0 * 3 + 6 + 1, none⟩ (.int .u64 gn)).setCell ⟨gs, x0 * 3 + 6 + 2, none⟩ (sv gz)).setCell ⟨gs, x0 * 3 + 9, none⟩ (.int .i64 ht)).setCell ⟨gs, x0 * 3 + 9 + 1, none⟩ (.int .u64 hn)).setCell ⟨gs, x0 * 3 + 9 + 2, none⟩ (sv hz)) A (m.setTh i { t with stack := ((t.stack.set (x0 + 1) ⟨gt, gn, gz⟩).set (x0 + 2) ⟨gt, gn, gz⟩).set (x0 + 3) ⟨ht, hn, hz⟩ }) f e) := v3
          have HSV : Hid (VSt (isT i) w A (((((((((wd.setCell ⟨gs, x0 * 3 + 3, none⟩ (.int .i64 gt)).setCell ⟨gs, x0 * 3 + 3 + 1, none⟩ (.int .u64 gn)).setCell ⟨gs, x0 * 3 + 3 + 2, none⟩ (sv gz)).setCell ⟨gs, x0 * 3 + 6, none⟩ (.int .i64 gt)).setCell ⟨gs, x0 * 3 + 6 + 1, none⟩ (.int .u64 gn)).setCell ⟨gs, x0 * 3 + 6 + 2, none⟩ (sv gz)).setCell ⟨gs, x0 * 3 + 9, none⟩ (.int .i64 ht)).setCell ⟨gs, x0 * 3 + 9 + 1, none⟩ (.int .u64 hn)).setCell ⟨gs, x0 * 3 + 9 + 2, none⟩ (sv hz)) A) := (((VSt.fresh hfd).trans u1v).trans u2v).trans u3v
          clear v1 v2 v3 u1v u2v u3v hfd gf2
          unfold wpChain
          go_wp2
          refine ⟨⟨⟨_, HA.out.1, HA.out.2⟩, rfl⟩, ?_⟩
          unfold wpChain
          go_wp2
          refine ⟨⟨⟨_, HA.out.1, HA.out.2⟩, rfl⟩, ?_⟩
          unfold wpChain
          go_wp2
          refine ⟨⟨⟨_, HA2.out.1, HA2.out.2⟩, rfl⟩, ?_⟩
          unfold wpChain
          go_wp2
          refine ⟨⟨⟨_, HA2.out.1, HA2.out.2⟩, rfl⟩, ?_⟩
          unfold wpChain
          go_wp2
          refine ⟨⟨⟨_, HA3.out.1, HA3.out.2⟩, rfl⟩, ?_⟩
          rw [wpChain_zero]
          obtain ⟨w7, HW7⟩ : ∃ w7, Hid ((((((((((wd.setCell ⟨gs, x0 * 3 + 3, none⟩ (.int .i64 gt)).setCell ⟨gs, x0 * 3 + 3 + 1, none⟩ (.int .u64 gn)).setCell ⟨gs, x0 * 3 + 3 + 2, none⟩ (sv gz)).setCell ⟨gs, x0 * 3 + 6, none⟩ (.int .i64 gt)).setCell ⟨gs, x0 * 3 + 6 + 1, none⟩ (.int .u64 gn)).setCell ⟨gs, x0 * 3 + 6 + 2, none⟩ (sv gz)).setCell ⟨gs, x0 * 3 + 9, none⟩ (.int .i64 ht)).setCell ⟨gs, x0 * 3 + 9 + 1, none⟩ (.int .u64 hn)).setCell ⟨gs, x0 * 3 + 9 + 2, none⟩ (sv hz)) = w7) := ⟨_, rfl⟩
          have e7 : (((((((((wd.setCell ⟨gs, x0 * 3 + 3, none⟩ (.int .i64 gt)).setCell ⟨gs, x0 * 3 + 3 + 1, none⟩ (.int .u64 gn)).setCell ⟨gs, x0 * 3 + 3 + 2, none⟩ (.string ⟨gz.toArray⟩)).setCell ⟨gs, x0 * 3 + 6, none⟩ (.int .i64 gt)).setCell ⟨gs, x0 * 3 + 6 + 1, none⟩ (.int .u64 gn)).setCell ⟨gs, x0 * 3 + 6 + 2, none⟩ (.string ⟨gz.toArray⟩)).setCell ⟨gs, x0 * 3 + 9, none⟩ (.int .i64 ht)).setCell ⟨gs, x0 * 3 + 9 + 1, none⟩ (.int .u64 hn)).setCell ⟨gs, x0 * 3 + 9 + 2, none⟩ (.string ⟨hz.toArray⟩)) = w7 := HW7.out
          rw [e7]
          rw [HW7.out] at HV HSV HA3
          have HR7 : Hid (VRep w7 A _ f e) := HV
          have HS7 : Hid (VSt (isT i) w A w7 A) := HSV
          have q0 := HA3.out.1.cell 0
          simp at q0
          have ql := HA3.out.1.lt
          clear e7 HW7 HA HA2 HV HSV z0 z1 z2 z3 z4 z5 z6 z7 z8 y0 y1 y2 y3 y4 y5 y6 y7 y8
          obtain ⟨⟨bt, bn, bs⟩, HBV⟩ : ∃ bv, Hid (boolV (gt != 0) = bv) := ⟨_, rfl⟩
          have HOP2 : Hid (forP m i 32 x0 = (.inr (), m.setTh i { t with stack := (((t.stack.set (x0 + 1) ⟨gt, gn, gz⟩).set (x0 + 2) ⟨gt, gn, gz⟩).set (x0 + 3) ⟨ht, hn, hz⟩) ++ [⟨bt, bn, bs⟩] })) := by
            show _ = _
            rw [HOP.out, push_is (setTh_at HB.out.hi), setTh_set, th_get HB.out.hi, ← HBV.out]
            have e : decide (gt ≠ 0) = (gt != 0) := by by_cases hz : gt = 0 <;> simp [hz]
            rw [e]
          clear HOP
          go_wp2_with fail
          refine (bool_any (gt != 0)).mono ?_
          rintro e' w8 ⟨rfl, f8⟩
          have HF8 : Hid (Fr (fun _ => False) w7 w8) := f8
          clear f8
          rw [HBV.out]
          clear HBV
          go_wp2_with fail
          have PU := vpush_fk (c := 1) (HR7.out.fresh ((HF8.out.alloc (.cells #[.int .i64 bt, .int .u64 bn, sv bs] 68)).alloc (.cells #[.int .i64 bt, .int .u64 bn, sv bs] 68))) (setTh_at HB.out.hi) [⟨bt, bn, bs⟩] (by simp) (by have := HB.out.sn; simp; omega) (B := w8.heap.size + 1) (Has.newC _ _ _ (by simp))
          refine PU.mono ?_
          clear PU
          rintro e' wz ⟨rfl, A', z1, z2, z3⟩
          have FIN : Hid (Q (.returned (.tuple #[])) wz) := by
            rw [← HQ.out, HOP2.out]
            rw [setTh_set] at z1
            exact ⟨rfl, A', z1, ((HS7.out.trans (VSt.fresh ((HF8.out.alloc _).alloc _))).trans z2).weaken (fun k hk => by unfold isVM; unfold isT at hk; omega), z3⟩
          clear z1 z2 z3
          go_wp2_with fail
          go_end0
          exact FIN.out
        · rintro G HG
          show G _ _
          rw [HG.out]
          exact ⟨rfl, HWD.out⟩
    · intro G HG
      refine ⟨⟨_, rfl, ?_⟩, ⟨_, rfl, ?_⟩, ⟨_, rfl, ?_⟩⟩
      · go_wp2_with fail
        refine (NXT.out _ (((Fr.refl _ w3).drew))).mono ?_
        rintro e' w5 ⟨rfl, f5⟩
        go_wp2_with fail
        have f6 : Fr (fun _ => False) w3 w5 := ((Fr.refl _ w3).drew).trans f5 (fun _ _ x => x)
        clear f5
        refine ⟨⟨⟨_, f6⟩, rfl⟩, [_, _, _, _], rfl, ?_⟩
        simp only [List.getElem_toArray, List.getElem_cons_succ, List.getElem_cons_zero]
        repeat go_big_quiet_step (fail)
        refine wpQuiet_nil ?_
        refine ⟨⟨_, rfl, ?_⟩, ⟨_, rfl, ?_⟩⟩
        · go_wp2_with fail
          refine ⟨⟨⟨_, f6.alloc _⟩, rfl⟩, _, rfl, ?_⟩
          go_wp2_with fail
          refine ⟨⟨⟨_, (f6.alloc _).alloc _⟩, rfl⟩, ?_⟩
          show G _ _
          rw [HG.out]
          exact ⟨w5.heap.size, w5.heap.size + 1, by kernel_rfl, (f6.alloc _).alloc _, (Has.new _ _ _).alloc _, Has.newC _ _ _ (by simp), f6.size, (by have := f6.size; omega), (by omega)⟩
        · go_wp2_with fail
          refine ⟨⟨⟨_, f6.alloc _⟩, rfl⟩, _, rfl, ?_⟩
          go_wp2_with fail
          refine ⟨⟨⟨_, (f6.alloc _).alloc _⟩, rfl⟩, ?_⟩
          show G _ _
          rw [HG.out]
          exact ⟨w5.heap.size + 1, w5.heap.size, by kernel_rfl, (f6.alloc _).alloc _, Has.newC _ _ _ (by simp), (Has.new _ _ _).alloc _, (by have := f6.size; omega), f6.size, (by omega)⟩
      · go_wp2_with fail
        refine ⟨⟨⟨_, (((Fr.refl _ w3).drew).alloc _)⟩, rfl⟩, ⟨_, rfl, ?_⟩, ⟨_, rfl, ?_⟩⟩
        · go_wp2_with fail
          refine (NXT.out _ ((((Fr.refl _ w3).drew).alloc _))).mono ?_
          rintro e' w5 ⟨rfl, f5⟩
          go_wp2_with fail
          have f6 : Fr (fun _ => False) w3 w5 := (((Fr.refl _ w3).drew).alloc _).trans f5 (fun _ _ x => x)
          have h6 : Has w5 w3.heap.size #[.int .i64 0, .int .u64 0, sv []] 68 := (Has.newC w3.drew _ _ rfl).fr f5 (fun x => x)
          have hs6 := h6.lt
          clear f5
          refine ⟨⟨⟨_, f6⟩, rfl⟩, [_, _, _, _], rfl, ?_⟩
          simp only [List.getElem_toArray, List.getElem_cons_succ, List.getElem_cons_zero]
          repeat go_big_quiet_step (fail)
          refine wpQuiet_nil ?_
          refine ⟨_, rfl, ?_⟩
          go_wp2_with fail
          refine ⟨⟨⟨_, f6.alloc _⟩, rfl⟩, ?_⟩
          show G _ _
          rw [HG.out]
          exact ⟨w3.heap.size, w5.heap.size, by kernel_rfl, f6.alloc _, h6.alloc _, Has.new _ _ _, Nat.le_refl _, f6.size, (by omega)⟩
        · go_wp2_with fail
          refine ⟨⟨⟨_, ((((Fr.refl _ w3).drew).alloc _).alloc _)⟩, rfl⟩, _, rfl, ?_⟩
          go_wp2_with fail
          refine (NXT.out _ (((((Fr.refl _ w3).drew).alloc _).alloc _))).mono ?_
          rintro e' w5 ⟨rfl, f5⟩
          go_wp2_with fail
          have f6 : Fr (fun _ => False) w3 w5 := ((((Fr.refl _ w3).drew).alloc _).alloc _).trans f5 (fun _ _ x => x)
          have h6 : Has w5 w3.heap.size #[.int .i64 0, .int .u64 0, sv []] 68 := ((Has.newC w3.drew _ _ rfl).alloc _).fr f5 (fun x => x)
          have h7 : Has w5 (w3.heap.size + 1) #[.int .i64 0, .int .u64 0, sv []] 68 := (Has.newC _ _ _ (by rw [World.size_alloc]; rfl)).fr f5 (fun x => x)
          clear f5
          refine ⟨⟨⟨_, f6⟩, rfl⟩, [_, _, _, _], rfl, ?_⟩
          simp only [List.getElem_toArray, List.getElem_cons_succ, List.getElem_cons_zero]
          repeat go_big_quiet_step (fail)
          refine wpQuiet_nil ?_
          show G _ _
          rw [HG.out]
          exact ⟨w3.heap.size, w3.heap.size + 1, by kernel_rfl, f6, h6, h7, Nat.le_refl _, Nat.le_succ _, (by omega)⟩
      · go_wp2_with fail
        refine ⟨⟨⟨_, (((Fr.refl _ w3).drew).alloc _)⟩, rfl⟩, ⟨_, rfl, ?_⟩, ⟨_, rfl, ?_⟩⟩
        · go_wp2_with fail
          refine (NXT.out _ ((((Fr.refl _ w3).drew).alloc _))).mono ?_
          rintro e' w5 ⟨rfl, f5⟩
          go_wp2_with fail
          have f6 : Fr (fun _ => False) w3 w5 := (((Fr.refl _ w3).drew).alloc _).trans f5 (fun _ _ x => x)
          have h6 : Has w5 w3.heap.size #[.int .i64 0, .int .u64 0, sv []] 68 := (Has.newC w3.drew _ _ rfl).fr f5 (fun x => x)
          have hs6 := h6.lt
          clear f5
          refine ⟨⟨⟨_, f6⟩, rfl⟩, [_, _, _, _], rfl, ?_⟩
          simp only [List.getElem_toArray, List.getElem_cons_succ, List.getElem_cons_zero]
          repeat go_big_quiet_step (fail)
          refine wpQuiet_nil ?_
          refine ⟨_, rfl, ?_⟩
          go_wp2_with fail
          refine ⟨⟨⟨_, f6.alloc _⟩, rfl⟩, ?_⟩
          show G _ _
          rw [HG.out]
          exact ⟨w5.heap.size, w3.heap.size, by kernel_rfl, f6.alloc _, Has.new _ _ _, h6.alloc _, f6.size, Nat.le_refl _, (by omega)⟩
        · go_wp2_with fail
          refine ⟨⟨⟨_, ((((Fr.refl _ w3).drew).alloc _).alloc _)⟩, rfl⟩, _, rfl, ?_⟩
          go_wp2_with fail
          refine (NXT.out _ (((((Fr.refl _ w3).drew).alloc _).alloc _))).mono ?_
          rintro e' w5 ⟨rfl, f5⟩
          go_wp2_with fail
          have f6 : Fr (fun _ => False) w3 w5 := ((((Fr.refl _ w3).drew).alloc _).alloc _).trans f5 (fun _ _ x => x)
          have h6 : Has w5 w3.heap.size #[.int .i64 0, .int .u64 0, sv []] 68 := ((Has.newC w3.drew _ _ rfl).alloc _).fr f5 (fun x => x)
          have h7 : Has w5 (w3.heap.size + 1) #[.int .i64 0, .int .u64 0, sv []] 68 := (Has.newC _ _ _ (by rw [World.size_alloc]; rfl)).fr f5 (fun x => x)
          clear f5
          refine ⟨⟨⟨_, f6⟩, rfl⟩, [_, _, _, _], rfl, ?_⟩
          simp only [List.getElem_toArray, List.getElem_cons_succ, List.getElem_cons_zero]
          repeat go_big_quiet_step (fail)
          refine wpQuiet_nil ?_
          show G _ _
          rw [HG.out]
          exact ⟨w3.heap.size + 1, w3.heap.size, by kernel_rfl, f6, h7, h6, Nat.le_succ _, Nat.le_refl _, (by omega)⟩
  · rw [if_pos h0] at HOP
    go_enter Tryz.func300, Tryz.ntmps300
    go_wp2_with fail
    refine (tabOf_no ⟨t0, u0, z0⟩ h0 mFor).mono ?_
    rintro e' w3 ⟨⟨b, rfl, hb, hbl⟩, f3⟩
    have FIN : Hid (Q (.panicked (thrE b)) w3) := by
      rw [← HQ.out, HOP.out]
      exact ⟨⟨b, rfl, hb, hbl⟩, A, HB.out.rep.fresh f3, VSt.fresh f3⟩
    exact ⟨rfl, FIN.out⟩
end
end Go.Proofs.Qxb6500574aGreatDoor
