/-
  THE WALK of runm.take.
-/
import Derived.Test.Qxb6500575aGreatDoorYCut2
namespace Go.Proofs.Qxb6500575aGreatDoor
open Go Go.RowKit
set_option linter.unusedVariables false
set_option linter.unusedSimpArgs false

section
variable {w : World} {bn : Nat} {q : NF} {L : NL} {x : ND}
set_option maxRecDepth 100000
set_option maxHeartbeats 400000
theorem ytake_any (h : NRep w bn q L x) {args rest : List V} (hs : x.st = args ++ rest) {ts : List UInt8} (hty : args.map V.ty = ts.reverse) (hm : ts.length ≤ 7) (hl : x.st.length ≤ 1000) : Calls Tryz.prog 132 #[.pointer (some ⟨bn, 0, none⟩), sv ts] w fun e w' => ∃ ga gc, e = .returned (.tuple #[.slice ga args.length gc, .bool true]) ∧ NRep w' bn q L { x with st := rest } ∧ NStep w w' bn L L ∧ w'.ownsRow 0 70 2 (.slice ga args.length gc) args.length (stCells args) ∧ ∀ k, (Value.slice ga 0 0).ownBlock = some k → w.heap.size ≤ k := by
  have hsl : x.st.length = args.length + rest.length := by rw [hs]; simp
  have hal : args.length = ts.length := by have := congrArg List.length hty; simpa using this
  obtain ⟨ti, hti, hz, hsz, hby⟩ := info_parts rowVals2.hi
  have c3 := h.here.cell 3
  have f3 := h.here.frozen 3
  have hblt := h.here.lt
  simp at c3
  have H : Hid (NRep w bn q L x) := h
  have HS : Hid (x.st = args ++ rest) := hs
  have HTY : Hid (args.map V.ty = ts.reverse) := hty
  obtain ⟨m, HM⟩ : ∃ m, Hid (args.length = m) := ⟨_, rfl⟩
  have HTL : Hid (ts.length = m) := by show _ = _; rw [← hal]; exact HM.out
  obtain ⟨n, HN⟩ : ∃ n, Hid (rest.length = n) := ⟨_, rfl⟩
  rw [hsl, HM.out, HN.out] at c3
  rw [HM.out]
  have hm7 : m ≤ 7 := by rw [← HTL.out]; exact hm
  have hn1 : m + n ≤ 1000 := by rw [← HM.out, ← HN.out, ← hsl]; exact hl
  have htsI : (ts.length : Int) = m := by rw [HTL.out]
  have hmn : (m : Int) + n - m = n := by omega
  clear h hs hty hsl hal hm hl
  go_enter Tryz.func132, Tryz.ntmps132
  go_wp2_with (at_make; go_must (refine wpList_make_full _ rfl _ _ 37 rfl 0 70 ti (.agg #[.int .u8 0, .int .i64 0]) 2 rowVals2.ht hti hz hsz .i64 .i64 _ _ m rfl rfl (by simp [htsI]) (by simp [htsI]) (by rw [hby]; omega) (by unfold maxLen; omega) (Nat.zero_le _) ?mk))
  case mk =>
    intro w2 hown hgrow
    have F2 : Fr (fun _ => False) w w2 := (Fr.of_grown hgrow).weaken (fun k _ h => by cases h)
    obtain ⟨g4, HG4⟩ : ∃ g4, Hid (g4 = w.heap.size) := ⟨_, rfl⟩
    rw [← HG4.out] at hown ⊢
    have h2 := H.out.fresh F2
    have d3 := h2.here.cell 3
    simp at d3
    rw [show x.st.length = m + n by rw [HS.out, ← HM.out, ← HN.out]; simp] at d3
    have e3 := h2.here.frozen 3
    have l3 := h2.here.lt
    have h4n : g4 ≠ bn := by rw [HG4.out]; omega
    have HF2 : Hid (Fr (fun _ => False) w w2) := F2
    have HH2 : Hid (NRep w2 bn q L x) := h2
    -- behind the copy: the row is the arguments
    obtain ⟨w3, HW3, hrun⟩ : ∃ w3, Hid (Fr (fun k => k = g4) w2 w3 ∧ w3.ownsRow 0 70 2 (.slice (some ⟨g4, 0, none⟩) m m) m (stCells args)) ∧ ∀ sp sc, (0 < m → ∃ gs, L.sa = some ⟨gs, 0, none⟩ ∧ sp = some ⟨gs, n * 2, none⟩) → (Builtin.copy_ #[37, 37] 3 #[.slice (some ⟨g4, 0, none⟩) m m, .slice sp m sc]).run Tryz.prog w2 = .ok (.int .i64 m) w3 := by
      by_cases hm0 : m = 0
      · subst hm0
        have ha : args = [] := List.eq_nil_of_length_eq_zero HM.out
        refine ⟨w2, ⟨Fr.refl _ _, ?_⟩, fun sp sc _ => ?_⟩
        · rw [ha]
          have e : (madeCells (Value.agg #[.int .u8 0, .int .i64 0]).cells (0 * 2)).toList = stCells [] := by
            apply List.eq_nil_of_length_eq_zero
            simp [madeCells]
          rw [← e]
          exact hown
        · exact run_copy_zero w2 _ _ _ 70 2 _ _ _ _ _ _ (by kernel_rfl) (by kernel_rfl) (by simp)
      · obtain ⟨gs, hsa, _⟩ := owns_some HH2.out.st (by rw [HS.out, List.length_append, HM.out]; omega)
        obtain ⟨cur, hcur, hfit, hbg, hcap, hcell, _, _⟩ := HH2.out.cutRow (xs := args) (ys := []) (zs := rest) (by rw [HS.out]; rfl) hsa
        rcases hown.2 with ⟨h1, _⟩ | ⟨g', cap', cu, hv, hb, hcu, hnc, hcm, hcs, htake⟩
        · cases h1
        simp at hv
        obtain ⟨rfl, rfl⟩ := hv
        have hcs' : cu.size = m * 2 := hcs
        refine ⟨w2.setRow g4 (cu.toList.take 0 ++ stCells args ++ cu.toList.drop (0 + m * 2)).toArray, ⟨⟨rfl, rfl, rfl, by simp [World.setRow], fun j _ hj => setRow_other _ g4 j _ hj⟩, ?_⟩, fun sp sc hsp => ?_⟩
        · have e : cu.toList.take 0 ++ stCells args ++ cu.toList.drop (0 + m * 2) = stCells args := by
            rw [List.drop_eq_nil_of_le (by simp; omega)]
            simp
          rw [e]
          refine ⟨by rw [stCells_len, HM.out], .inr ⟨g4, m, _, rfl, hb, setRow_heap _ g4 cu _ _ _ hcu, Nat.le_refl _, hcm, ?_, ?_⟩⟩
          · simp [stCells_len, HM.out]
          · exact List.take_of_length_le (by rw [List.size_toArray] at *; simp [stCells_len, HM.out])
        · obtain ⟨gs', h1, rfl⟩ := hsp (by omega)
          rw [hsa] at h1
          simp at h1
          subst h1
          refine run_copy_size w2 _ _ _ 70 2 (by kernel_rfl) (by kernel_rfl) g4 0 m m gs (n * 2) m sc cu 70 hcu (stCells args) m (by simp) (by rw [stCells_len, HM.out]) (fun j v hj => ?_) (stCells_one args) (by omega)
          have := hcell j v hj
          simpa [HN.out] using this
    have h3 : NRep w3 bn q L x := HH2.out.fr HW3.out.1 (fun k hk e => by
      have := H.out.lt hk
      rw [e, HG4.out] at this
      omega)
    have x3 := h3.here.cell 3
    simp at x3
    rw [show x.st.length = m + n by rw [HS.out, ← HM.out, ← HN.out]; simp] at x3
    have y3 := h3.here.frozen 3
    have z3 := h3.here.lt
    have FIN : Hid (∀ W, Fr (fun _ => False) w3 W → ∃ ga gc, Value.tuple #[.slice (some ⟨g4, 0, none⟩) m m, .bool true] = Value.tuple #[.slice ga m gc, .bool true] ∧ NRep (W.setCell ⟨bn, 3, none⟩ (.slice L.sa n L.sc)) bn q L { x with st := rest } ∧ NStep w (W.setCell ⟨bn, 3, none⟩ (.slice L.sa n L.sc)) bn L L ∧ (W.setCell ⟨bn, 3, none⟩ (.slice L.sa n L.sc)).ownsRow 0 70 2 (.slice ga m gc) m (stCells args) ∧ ∀ k, (Value.slice ga 0 0).ownBlock = some k → w.heap.size ≤ k) := by
      intro W hW
      have h4 := h3.fresh hW
      obtain ⟨r1, r2⟩ := h4.cutSt args rest HS.out
      rw [HN.out] at r1 r2
      have hFw3 : Fr (NS bn L) w w3 := (HF2.out.weaken (fun _ _ h => h.elim)).trans HW3.out.1 (fun j hj e => by rw [e, HG4.out] at hj; omega)
      refine ⟨some ⟨g4, 0, none⟩, m, rfl, r1, (NStep.mk (L' := L) (hFw3.trans hW (fun _ _ h => h.elim)) (fun _ _ h => h)).trans r2, ?_, fun k hk => ?_⟩
      · exact owns_other (owns_fr HW3.out.2 hW (fun _ _ h => h)) (p := ⟨bn, 3, none⟩) (fun e => h4n (by simpa [Value.ownBlock] using e)) _
      · simp [Value.ownBlock] at hk
        rw [← hk, HG4.out]
        exact Nat.le_refl _
    have HO3 : Hid (World.ownsRow w3 0 70 2 (.slice (some ⟨g4, 0, none⟩) m m) m (stCells args)) := HW3.out.2
    have lg4 := owns_lt HO3.out g4 rfl
    clear hown hgrow F2 h2 h3
    by_cases hm0 : m = 0
    · have hcp : ∀ sp sc, (Builtin.copy_ #[37, 37] 3 #[.slice (some ⟨g4, 0, none⟩) m m, .slice sp m sc]).run Tryz.prog w2 = .ok (.int .i64 m) w3 := fun sp sc => hrun sp sc (fun h => by omega)
      clear hrun
      subst hm0
      simp only [Nat.zero_add] at d3 x3
      rcases owns_form H.out.st with ⟨n1, n2, n3⟩ | ⟨gs, n1, n2⟩
      · have hn0 : n = 0 := by
          rw [HS.out, List.length_append, HN.out] at n2
          omega
        subst hn0
        rw [n1, n3] at d3 x3 FIN ⊢
        go_wp2
        go_loopw [8] (fun t wr => t = .int .i64 0 ∧ Hid (Fr (fun _ => False) w3 wr)) (fun _ _ => 0)
        case atStart => exact ⟨rfl, Fr.refl _ _⟩
        case round =>
          obtain ⟨rfl, HF⟩ := hrel
          have hbk := HF.out.block bn z3 (fun h => h)
          have x4 : wr.cell? ⟨bn, 3, none⟩ = _ := (World.cell?_of_block hbk).trans x3
          have y4 : wr.frozen? ⟨bn, 3, none⟩ = false := (World.frozen?_of_block hbk).trans y3
          have z4 : bn < wr.heap.size := Nat.lt_of_lt_of_le z3 HF.out.size
          clear hbk
          go_wp2
          go_ret2
          obtain ⟨ga, gc, e1, r1, r2, r3, r4⟩ := FIN.out wr HF.out
          exact ⟨ga, gc, congrArg Ending.returned e1, r1, r2, r3, r4⟩
      · have hnc : n ≤ L.sc := by
          rw [HS.out, List.length_append, HN.out] at n2
          omega
        rw [n1] at d3 x3 FIN ⊢
        clear n1 n2
        by_cases hsc : L.sc = n
        · rw [hsc] at d3 x3 FIN ⊢
          go_wp2
          go_loopw [8] (fun t wr => t = .int .i64 0 ∧ Hid (Fr (fun _ => False) w3 wr)) (fun _ _ => 0)
          case atStart => exact ⟨rfl, Fr.refl _ _⟩
          case round =>
            obtain ⟨rfl, HF⟩ := hrel
            have hbk := HF.out.block bn z3 (fun h => h)
            have x4 : wr.cell? ⟨bn, 3, none⟩ = _ := (World.cell?_of_block hbk).trans x3
            have y4 : wr.frozen? ⟨bn, 3, none⟩ = false := (World.frozen?_of_block hbk).trans y3
            have z4 : bn < wr.heap.size := Nat.lt_of_lt_of_le z3 HF.out.size
            clear hbk
            go_wp2
            go_ret2
            obtain ⟨ga, gc, e1, r1, r2, r3, r4⟩ := FIN.out wr HF.out
            exact ⟨ga, gc, congrArg Ending.returned e1, r1, r2, r3, r4⟩
        · have hsc' : ¬ L.sc = n := hsc
          go_wp2
          go_loopw [8] (fun t wr => t = .int .i64 0 ∧ Hid (Fr (fun _ => False) w3 wr)) (fun _ _ => 0)
          case atStart => exact ⟨rfl, Fr.refl _ _⟩
          case round =>
            obtain ⟨rfl, HF⟩ := hrel
            have hbk := HF.out.block bn z3 (fun h => h)
            have x4 : wr.cell? ⟨bn, 3, none⟩ = _ := (World.cell?_of_block hbk).trans x3
            have y4 : wr.frozen? ⟨bn, 3, none⟩ = false := (World.frozen?_of_block hbk).trans y3
            have z4 : bn < wr.heap.size := Nat.lt_of_lt_of_le z3 HF.out.size
            clear hbk
            go_wp2
            go_ret2
            obtain ⟨ga, gc, e1, r1, r2, r3, r4⟩ := FIN.out wr HF.out
            exact ⟨ga, gc, congrArg Ending.returned e1, r1, r2, r3, r4⟩
    · obtain ⟨gs, n1, _⟩ := owns_some H.out.st (by rw [HS.out, List.length_append, HM.out]; omega)
      have hnc : m + n ≤ L.sc := by
        rcases owns_form H.out.st with ⟨h1, _⟩ | ⟨_, _, h1⟩
        · rw [n1] at h1; cases h1
        · rw [HS.out, List.length_append, HM.out, HN.out] at h1; exact h1
      have hcp := hrun (some ⟨gs, n * 2, none⟩) (L.sc - n) (fun _ => ⟨gs, n1, rfl⟩)
      have hsc : ¬ L.sc = n := by omega
      have e1 : m + n - n = m := by omega
      rw [n1] at d3 x3 FIN ⊢
      clear hrun n1
      go_wp2
      go_loopw [8] (fun t wr => ∃ j : Nat, j ≤ m ∧ t = .int .i64 j ∧ Hid (Fr (fun _ => False) w3 wr)) (fun t _ => m - (intOf t).toNat)
      case atStart => exact ⟨0, Nat.zero_le _, rfl, Fr.refl _ _⟩
      case round =>
        obtain ⟨j, hj, rfl, HF⟩ := hrel
        by_cases hlt : j < m
        · obtain ⟨v, hv⟩ : ∃ v, args.reverse[j]? = some v := ⟨_, List.getElem?_eq_getElem (by rw [List.length_reverse, HM.out]; exact hlt)⟩
          have hts : ts[j]? = some v.ty := by
            have e := congrArg List.reverse HTY.out
            rw [List.reverse_reverse, ← List.map_reverse] at e
            rw [← e, List.getElem?_map, hv]
            rfl
          have O4 := owns_fr HO3.out HF.out (fun _ _ h => h)
          have a0 := O4.cellAt (j * 2) (by omega)
          rw [show (stCells args)[j * 2]? = some (.int .u8 v.ty.toNat) from (bvCells_at (args.reverse.map V.bv) j v.bv (by rw [List.getElem?_map, hv]; rfl)).1] at a0
          have gl := owns_lt O4 g4 rfl
          have hb : ∀ h, (((⟨ts.toArray⟩ : ByteArray)[j]'h).toNat : Int) = v.ty.toNat := fun h => by
            show (ts[j].toNat : Int) = _
            rw [(List.getElem?_eq_some_iff.1 hts).2]
          have hjl : (j : Int) < ts.length := by rw [HTL.out]; omega
          obtain ⟨vt, HVT⟩ : ∃ vt : Int, Hid (vt = v.ty.toNat) := ⟨_, rfl⟩
          rw [← HVT.out] at a0 hb
          clear O4 hv hts
          go_wp2
          refine wp_region_quiet_lit (by kernel_rfl) (by kernel_rfl) ?_
          repeat go_big_quiet_step (fail)
          refine wpQuiet_nil ?_
          rintro w' ⟨nq, rfl⟩
          go_wp2
          go_roundw
          case rel => exact ⟨j + 1, by omega, by go_num, HF.out.drewN nq⟩
          case measure => simp [intOf]; omega
        · obtain rfl : j = m := by omega
          have hbk := HF.out.block bn z3 (fun h => h)
          have x4 : wr.cell? ⟨bn, 3, none⟩ = _ := (World.cell?_of_block hbk).trans x3
          have y4 : wr.frozen? ⟨bn, 3, none⟩ = false := (World.frozen?_of_block hbk).trans y3
          have z4 : bn < wr.heap.size := Nat.lt_of_lt_of_le z3 HF.out.size
          have hnl : ¬ (j : Int) < (j : Int) := by omega
          clear hbk
          go_wp2
          go_ret2
          obtain ⟨ga, gc, e1, r1, r2, r3, r4⟩ := FIN.out wr HF.out
          exact ⟨ga, gc, congrArg Ending.returned e1, r1, r2, r3, r4⟩
end
end Go.Proofs.Qxb6500575aGreatDoor
