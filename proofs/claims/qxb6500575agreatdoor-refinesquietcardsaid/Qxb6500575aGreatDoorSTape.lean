/-
  THE WALK of runlaw.Tape.Call.
-/
import Derived.Test.Qxb6500575aGreatDoorRTapeM
import Derived.Test.Qxb6500575aGreatDoorSAsk0
import Derived.Test.Qxb6500575aGreatDoorReg3
namespace Go.Proofs.Qxb6500575aGreatDoor
open Go Go.RowKit
set_option linter.unusedVariables false
set_option linter.unusedSimpArgs false

theorem rowKept : IsRow Tryz.prog 86 37 (.slice none 0 0) 1 24 := ⟨by kernel_rfl, by kernel_rfl, rfl, by decide⟩
theorem bv_set : ∀ (l : List BV) (j : Nat) (x : BV), j < l.length → ((bvCells l).set (j * 2) (.int .u8 x.t.toNat)).set (j * 2 + 1) (.int .i64 x.v) = bvCells (l.set j x)
  | [], j, x, h => by simp at h
  | a :: l, 0, x, h => rfl
  | a :: l, j + 1, x, h => by
    have := bv_set l j x (by simpa using h)
    have e1 : (j + 1) * 2 = j * 2 + 1 + 1 := by omega
    rw [e1]
    exact congrArg (fun y => Value.int .u8 a.t.toNat :: Value.int .i64 a.v :: y) this
theorem bang_step (args : List BV) (j : Nat) (h : j < args.length) : (bang j ++ args.drop j).set j ⟨33, -7⟩ = bang (j + 1) ++ args.drop (j + 1) := by
  rw [List.set_append_right _ _ (by simp [bang])]
  simp only [bang, List.length_replicate, Nat.sub_self]
  rw [List.drop_eq_getElem_cons h, List.set_cons_zero, List.replicate_succ', List.append_assoc]
  rfl
set_option maxRecDepth 100000
set_option maxHeartbeats 400000
theorem tcall_nil (imp : Int) (va : Value) (w : World) : Calls Tryz.prog 180 #[.pointer none, .int .i64 imp, va] w fun e w' => HostX ([], 15) e w' ∧ w' = w := by
  go_enter Tryz.func180, Tryz.ntmps180
  go_wp2
  go_ret2
  exact ⟨HostX.err rfl (by decide) (.inr ⟨.inl rfl, rfl⟩), rfl⟩
section
variable {bt : Nat} {w : World} {s : TapeD}
theorem tcall_done (h : TapeRep bt w s) (hk : s.k = 7) (imp : Int) (va : Value) : Calls Tryz.prog 180 #[.pointer (some ⟨bt, 0, none⟩), .int .i64 imp, va] w fun e w' => HostX ([], 16) e w' ∧ w' = w := by
  have c2 := h.here.cell 2
  simp [hk] at c2
  go_enter Tryz.func180, Tryz.ntmps180
  go_wp2
  go_ret2
  exact ⟨HostX.err rfl (by decide) (.inl ⟨16, rfl, .inl ⟨by decide, by decide, rfl⟩⟩), rfl⟩
theorem answer_tv {tape : List UInt8} {k : Nat} {t b : UInt8} {bs : List BV} {er : Int} (hd : ¬ (6 ≤ k ∨ tape.length ≤ 2 * k + 1)) (ht : tape[2 * k]? = some t) (hb : tape[2 * k + 1]? = some b) (h : answerP tape k = (bs, er)) (h0 : er ≠ 0) : (t = 84 → (11 ≤ sx b ∧ sx b < 18 ∧ er = sx b) ∨ (¬ (11 ≤ sx b ∧ sx b < 18) ∧ er = 15)) ∧ (t ≠ 84 → er = 15) := by
  unfold answerP at h
  rw [if_neg hd] at h
  simp only [List.getD_eq_getElem?_getD, ht, hb, Option.getD_some] at h
  split at h
  · simp at h; omega
  split at h
  · simp at h; omega
  split at h
  · simp at h; omega
  split at h
  · simp at h; omega
  split at h
  · rename_i h84
    refine ⟨fun _ => ?_, fun hn => absurd h84 hn⟩
    split at h
    · simp at h
      rename_i hr
      exact .inl ⟨hr.1, hr.2, h.2.symm⟩
    · simp at h
      rename_i hr
      exact .inr ⟨hr, h.2.symm⟩
  · rename_i h84
    refine ⟨fun hn => absurd hn h84, fun _ => ?_⟩
    split at h
    · simp at h; omega
    · simp at h; omega
theorem tcall_on (h : TapeRep bt w s) (ok : TapeOk s) (hk : s.k ≤ 6) (imp : Int) (args : List BV) (hal : args.length ≤ 3) (aa : Option Addr) (ac : Nat) (hown : w.ownsRow 0 70 2 (.slice aa args.length ac) args.length (bvCells args)) (hap : ∀ g, (Value.slice aa args.length ac).ownBlock = some g → ¬ TS bt s g) :
    Calls Tryz.prog 180 #[.pointer (some ⟨bt, 0, none⟩), .int .i64 imp, .slice aa args.length ac] w fun e w' => ∃ s', TapeRep bt w' s' ∧ TapeOk s' ∧ Fr (fun k => TS bt s k ∨ (Value.slice aa args.length ac).ownBlock = some k) w w' ∧ (∀ k, k < w.heap.size → TS bt s' k → TS bt s k ∨ (Value.slice aa args.length ac).ownBlock = some k) ∧ (s'.tape = s.tape ∧ s'.k = s.k + 1 ∧ s'.trace = s.trace ++ [104] ++ numT imp ++ valsT args) ∧ HostX (answerP s.tape s.k) e w' := by
  have c1 := h.here.cell 1
  have c2 := h.here.cell 2
  have c3 := h.here.cell 3
  simp at c1 c2 c3
  have hkl := ok.klen
  have htr := ok.tr
  have hkk : s.kept.length ≤ 7 := by omega
  have H : Hid (TapeRep bt w s) := h
  have OK : Hid (TapeOk s) := ok
  have HO : Hid (w.ownsRow 0 70 2 (.slice aa args.length ac) args.length (bvCells args)) := hown
  have HAP : Hid (∀ g, (Value.slice aa args.length ac).ownBlock = some g → ¬ TS bt s g) := hap
  obtain ⟨st, sr, sk, ka, kc, kept⟩ := s
  simp only at c1 c2 c3 hkl htr hk hkk
  obtain ⟨n, HN⟩ : ∃ n, Hid (n = args.length) := ⟨_, rfl⟩
  obtain ⟨m, HM⟩ : ∃ m, Hid (m = kept.length) := ⟨_, rfl⟩
  rw [← HM.out] at c3
  have hm7 : m ≤ 7 := by rw [HM.out]; exact hkk
  have hn3 : n ≤ 3 := by rw [HN.out]; exact hal
  rw [← HN.out]
  have f1 := h.here.frozen 1
  have k1 := h.here.lt
  clear h ok hown hap hkl hkk hal
  go_enter Tryz.func180, Tryz.ntmps180
  go_wp2
  go_loopw [8] (fun t wr => ∃ i : Nat, i ≤ m ∧ t = .int .i64 i ∧ wr = w) (fun t _ => m - (intOf t).toNat)
  case atStart => exact ⟨0, Nat.zero_le _, rfl, rfl⟩
  case round =>
    obtain ⟨i, hi, rfl, rfl⟩ := hrel
    by_cases hlt : i < m
    · obtain ⟨gk, hgk, hck⟩ := owns_some H.out.row (by simp only; rw [← HM.out]; omega)
      simp only at hgk
      subst hgk
      obtain ⟨v, hv⟩ : ∃ v, kept[i]? = some v := ⟨_, List.getElem?_eq_getElem (by rw [← HM.out]; exact hlt)⟩
      have ci := hck i (by simp only; rw [← HM.out]; omega)
      simp only at ci
      rw [hv] at ci
      obtain ⟨av, nv, cv, hnv, rfl, hov⟩ := H.out.each v (List.mem_of_getElem? hv)
      have hkc : m ≤ kc := by
        rcases owns_form H.out.row with ⟨h, _⟩ | ⟨_, _, h⟩
        · cases h
        · rw [HM.out]; exact h
      have HOV : Hid (World.ownsRow _ 0 70 2 (.slice av nv cv) nv (bvCells (bang nv))) := hov
      clear hck hov hv
      obtain ⟨w0, hw0⟩ : ∃ w0, w0 = wr := ⟨_, rfl⟩
      subst hw0
      go_wp2
      go_loopw [9] (fun t wr => ∃ j : Nat, j ≤ nv ∧ t = .int .i64 j ∧ wr = w0) (fun t _ => nv - (intOf t).toNat)
      case atStart => exact ⟨0, Nat.zero_le _, rfl, rfl⟩
      case round =>
        obtain ⟨j, hj, rfl, rfl⟩ := hrel
        by_cases hjl : j < nv
        · obtain ⟨gv, hgv, hcv⟩ := owns_some HOV.out (by omega)
          subst hgv
          have cj := hcv (j * 2) (by omega)
          rw [(bvCells_at (bang nv) j ⟨33, -7⟩ (by simp [bang, List.getElem?_replicate, hjl])).1] at cj
          have hcv2 : nv ≤ cv := by
            rcases owns_form HOV.out with ⟨h, _⟩ | ⟨_, _, h⟩
            · cases h
            · exact h
          simp only [show ((33 : UInt8).toNat : Int) = 33 from rfl] at cj
          clear hcv
          go_wp2
          go_roundw
          case rel => exact ⟨j + 1, by omega, by go_num, trivial⟩
          case measure => simp [intOf]; omega
        · go_wp2
          go_roundw
          case rel => exact ⟨i + 1, by omega, by go_num, trivial⟩
          case measure => simp [intOf]; omega
    · obtain ⟨Y, HY, hYl⟩ : ∃ Y : List UInt8, Hid (Y = sr ++ [104]) ∧ Y.length ≤ 601 := ⟨sr ++ [104], rfl, by simp; omega⟩
      have hcat : (⟨sr.toArray⟩ : ByteArray) ++ ⟨[104].toArray⟩ = ⟨Y.toArray⟩ := by rw [ba_app, HY.out]
      have N1 : Hid (Calls _ _ _ _ _) := num_name Y imp wr (by omega)
      go_wp2_with fail
      refine N1.out.mono ?_
      rintro e w1 ⟨z1, rfl, Z1, hl1, g1⟩
      have hap1 : ∀ (x : World) (v : Value) (k : Nat) (xs : List Value), TapeRep bt x ⟨st, sr, sk, ka, kc, kept⟩ → x.ownsRow 0 70 2 v k xs → ∀ u : Value, (x.setCell ⟨bt, 1, none⟩ u).ownsRow 0 70 2 v k xs := fun x v k xs hx ho u => owns_other ho (p := ⟨bt, 1, none⟩) (owns_ne ho hx.here (by decide)) u
      have H1 := H.out.fresh g1
      have HT1 : TapeRep bt (w1.setCell ⟨bt, 1, none⟩ (sv z1)) ⟨st, z1, sk, ka, kc, kept⟩ := H1.field 1 (sv z1) rfl rfl rfl rfl
      have HO1 := hap1 w1 _ _ _ H1 (owns_fr HO.out g1 (fun _ _ h => h)) (sv z1)
      have V1 : Hid (Calls _ _ _ _ _) := vals_any z1 (by omega) args (by rw [← HN.out]; exact hn3) aa ac HO1
      rw [← HN.out] at V1
      have d1 := H1.here.cell 1
      have f1 := H1.here.frozen 1
      have k1 := H1.here.lt
      simp at d1
      have T1 : Hid (TapeRep _ _ _) := HT1
      have O1 : Hid (World.ownsRow _ _ _ _ _ _ _) := HO1
      have F1 : Hid (Fr (fun k => k = bt) wr (w1.setCell ⟨bt, 1, none⟩ (sv z1))) := Fr.setCell (S := fun k => k = bt) (g1.weaken (fun _ _ h => h.elim)) (p := ⟨bt, 1, none⟩) (.inl rfl) _
      clear N1 g1 H1 HT1 HO1 hap1 c1 c2 c3
      go_wp2_with fail
      refine V1.out.mono ?_
      rintro e w2 ⟨z2, rfl, Z2, hl2, g2⟩
      have H2 := T1.out.fresh g2
      have HT2 : TapeRep bt (w2.setCell ⟨bt, 1, none⟩ (sv z2)) ⟨st, z2, sk, ka, kc, kept⟩ := H2.field 1 (sv z2) rfl rfl rfl rfl
      have HO2 := owns_other (owns_fr O1.out g2 (fun _ _ h => h)) (p := ⟨bt, 1, none⟩) (owns_ne (owns_fr O1.out g2 (fun _ _ h => h)) H2.here (by decide)) (sv z2)
      have d1 := H2.here.cell 1
      have f1 := H2.here.frozen 1
      have k1 := H2.here.lt
      simp at d1
      have T2 : Hid (TapeRep _ _ _) := HT2
      have O2 : Hid (World.ownsRow _ _ _ _ _ _ _) := HO2
      have F2 : Hid (Fr (fun k => k = bt) wr (w2.setCell ⟨bt, 1, none⟩ (sv z2))) := Fr.setCell (S := fun k => k = bt) (F1.out.trans g2 (fun _ _ h => h.elim)) (p := ⟨bt, 1, none⟩) (.inl rfl) _
      have hz2 : z2.length ≤ 100 * (sk + 1) := by
        have e1 := congrArg List.length HY.out
        simp at e1
        have e2 := HN.out
        omega
      have HZT : Hid (z2 = sr ++ [104] ++ numT imp ++ valsT args) := by
        show _ = _
        rw [Z2.out, Z1.out, HY.out]
      clear V1 g2 H2 HT2 HO2 T1 O1 F1
      obtain ⟨w0, hw0⟩ : ∃ w0, w0 = wr := ⟨_, rfl⟩
      subst hw0
      go_wp2
      go_loopw [10] (fun t wr => ∃ j : Nat, j ≤ n ∧ t = .int .i64 j ∧ Hid (TapeRep bt wr ⟨st, z2, sk, ka, kc, kept⟩) ∧ Hid (wr.ownsRow 0 70 2 (.slice aa n ac) n (bvCells (bang j ++ args.drop j))) ∧ Hid (Fr (fun k => k = bt ∨ (Value.slice aa n ac).ownBlock = some k) w0 wr)) (fun t _ => n - (intOf t).toNat)
      case atStart =>
        refine ⟨0, Nat.zero_le _, rfl, T2, ?_, F2.out.weaken (fun _ _ h => .inl h)⟩
        have := O2.out
        rw [← HN.out] at this
        exact this
      case round =>
        obtain ⟨j, hj, rfl, T3, O3, F3⟩ := hrel
        clear T2 O2 F2
        by_cases hjl : j < n
        · obtain ⟨ga, rfl, hca⟩ := owns_some O3.out (by omega)
          obtain ⟨x, hx⟩ : ∃ x, args[j]? = some x := ⟨_, List.getElem?_eq_getElem (by rw [← HN.out]; exact hjl)⟩
          have hbx := bvCells_at (bang j ++ args.drop j) j x (by rw [List.getElem?_append_right (by simp [bang])]; simpa [bang] using hx)
          have a0 := hca (j * 2) (by omega)
          have a1 := hca (j * 2 + 1) (by omega)
          rw [hbx.1] at a0
          rw [hbx.2] at a1
          have hlt2 := owns_lt O3.out ga rfl
          have hf0 := O3.out.frozenAt (j * 2)
          have hf1 := O3.out.frozenAt (j * 2 + 1)
          have hac : n ≤ ac := by
            rcases owns_form O3.out with ⟨h, _⟩ | ⟨_, _, h⟩
            · cases h
            · exact h
          clear hca hbx hx
          go_wp2
          go_roundw
          case rel =>
            have hna : ¬ TS bt ⟨st, z2, sk, ka, kc, kept⟩ ga := fun h => HAP.out ga rfl h
            have hFa : Fr (fun k => k = ga) wr ((wr.setCell ⟨ga, j * 2, none⟩ (.int .u8 33)).setCell ⟨ga, j * 2 + 1, none⟩ (.int .i64 (-7))) := Fr.setCell (S := fun k => k = ga) (Fr.setCell (S := fun k => k = ga) (Fr.refl _ _) (p := ⟨ga, j * 2, none⟩) (.inl rfl) _) (p := ⟨ga, j * 2 + 1, none⟩) (.inl rfl) _
            refine ⟨j + 1, by omega, by go_num, T3.out.fr hFa (fun k hk e => hna (e ▸ hk)), ?_, F3.out.trans hFa (fun k _ e => .inr (by rw [e]; rfl))⟩
            have := ((O3.out.stored (j * 2) (.int .u8 33)).1.stored (j * 2 + 1) (.int .i64 (-7))).1
            have e1 := bv_set (bang j ++ args.drop j) j ⟨33, -7⟩ (by simp [bang]; rw [← HN.out]; omega)
            rw [bang_step args j (by rw [← HN.out]; exact hjl)] at e1
            rw [← e1]
            exact this
          case measure => simp [intOf]; omega
        · obtain rfl : j = n := by omega
          have O4 : Hid (World.ownsRow wr 0 70 2 (.slice aa j ac) j (bvCells (bang j))) := by
            have := O3.out
            rw [List.drop_eq_nil_of_le (by rw [← HN.out]; exact Nat.le_refl _), List.append_nil] at this
            exact this
          have c3 := T3.out.here.cell 3
          have f3 := T3.out.here.frozen 3
          have k3 := T3.out.here.lt
          simp at c3
          clear O3
          go_wp2_with (at_builtin; go_must (refine wpList_app rowKept _ rfl (.tmp 97) (.tmp 99) rfl _ _ _ rfl (owns_alloc T3.out.row _) _ [.slice aa j ac] rfl (Has.new _ _ _) rfl ?one ?bd ?go))
          case one => intro u hu; simp at hu; subst hu; rfl
          case bd => rw [← HM.out]; omega
          case go =>
            intro g cap w3 q1 q2 q3 q4
            obtain ⟨r1, r2, r3⟩ := T3.out.keep hn3 O4.out q1 q2 q3 q4
            have hH : Has w3 bt _ _ := (T3.out.here.alloc _).fr q2 (owns_ne T3.out.row T3.out.here (by decide))
            have d3 := hH.cell 3
            have e3 := hH.frozen 3
            have l3 := hH.lt
            simp at d3
            have c0 := r1.here.cell 0
            have c2 := r1.here.cell 2
            simp at c0 c2
            have R1 : Hid (TapeRep _ _ _) := r1
            have R2 : Hid (Fr _ _ _) := r2
            have R3 : Hid (∀ k, _ → _ → _) := r3
            clear q1 q2 q3 q4 hH r1 r2 r3 T3 c3 f3 k3
            obtain ⟨W, HW⟩ : ∃ W, Hid (W = w3.setCell ⟨bt, 3, none⟩ (.slice (some ⟨g, 0, none⟩) (kept.length + 1) cap)) := ⟨_, rfl⟩
            go_wp2
            rw [← HW.out] at R1 R2 c0 c2 ⊢
            refine wp_region_two [0, 1, 2, 3, 4, 5, 6, 7] 8 [9, 10, 11, 12, 13] 14 (fun y => y.cell? ⟨bt, 0, none⟩ = some (sv st) ∧ y.cell? ⟨bt, 2, none⟩ = some (.int .i64 sk)) (by kernel_rfl) (by kernel_rfl) (fun _ _ _ _ _ h => h) ⟨c0, c2⟩ [_, _, _, _, _, _, _, _] rfl _ rfl [_, _, _, _, _] rfl ?_
            refine wpQ_move rfl (.tmp 0) (.pointer (some ⟨bt, 0, none⟩)) rfl (by kernel_rfl) ?_
            simp only [Act.put, List.setIfInBounds_toArray, List.set_cons_succ, List.set_cons_zero]
            refine wpQ_nilCheck rfl (.tmp 106) ⟨bt, 0, none⟩ rfl (by kernel_rfl) ?_
            simp only [Act.put, List.setIfInBounds_toArray, List.set_cons_succ, List.set_cons_zero]
            refine wpQ_fieldAddr rfl (.tmp 107) 0 ⟨bt, 0, none⟩ ⟨bt, 0, none⟩ rfl (by kernel_rfl) (fun w => by kernel_rfl) ?_
            simp only [Act.put, List.setIfInBounds_toArray, List.set_cons_succ, List.set_cons_zero]
            refine wpQ_load1 rfl (.tmp 108) ⟨bt, 0, none⟩ (sv st) rfl (by kernel_rfl) (by kernel_rfl) (fun _ h => h.1) ?_
            simp only [Act.put, List.setIfInBounds_toArray, List.set_cons_succ, List.set_cons_zero]
            refine wpQ_move rfl (.tmp 0) (.pointer (some ⟨bt, 0, none⟩)) rfl (by kernel_rfl) ?_
            simp only [Act.put, List.setIfInBounds_toArray, List.set_cons_succ, List.set_cons_zero]
            refine wpQ_nilCheck rfl (.tmp 110) ⟨bt, 0, none⟩ rfl (by kernel_rfl) ?_
            simp only [Act.put, List.setIfInBounds_toArray, List.set_cons_succ, List.set_cons_zero]
            refine wpQ_fieldAddr rfl (.tmp 111) 2 ⟨bt, 0, none⟩ ⟨bt, 2, none⟩ rfl (by kernel_rfl) (fun w => by kernel_rfl) ?_
            simp only [Act.put, List.setIfInBounds_toArray, List.set_cons_succ, List.set_cons_zero]
            refine wpQ_load1 rfl (.tmp 112) ⟨bt, 2, none⟩ (.int .i64 sk) rfl (by kernel_rfl) (by kernel_rfl) (fun _ h => h.2) ?_
            simp only [Act.put, List.setIfInBounds_toArray, List.set_cons_succ, List.set_cons_zero]
            refine wpQuiet_nil ?_
            go_wp2_with fail
            refine (answer_any st sk (by omega) _).mono ?_
            rintro e w4 ⟨v, rfl, ho, hfre, f4, hnil⟩
            obtain ⟨bs, er, HAN⟩ : ∃ bs er, Hid (answerP st sk = (bs, er)) := ⟨_, _, rfl⟩
            have hbl := answer_len st sk
            have hbf := answer_fits st sk
            rw [HAN.out] at ho hnil hbl hbf ⊢
            have HDN : Hid (6 ≤ sk ∨ st.length ≤ 2 * sk + 1 → er = 16) := by
              intro hd
              have := HAN.out
              unfold answerP at this
              rw [if_pos hd] at this
              simp at this
              omega
            simp only at ho hnil hbl hbf ⊢
            have HBF : Hid (∀ b ∈ bs, I64 b.v) := hbf
            clear hbf
            have T4 := (R1.out.fresh (Fr.refl _ W).drew).fresh f4
            have f2 := T4.here.frozen 2
            have k4 := T4.here.lt
            have d0 := T4.here.cell 0
            have d2 := T4.here.cell 2
            simp at d0 d2
            have HT5 : TapeRep bt (w4.setCell ⟨bt, 2, none⟩ (.int .i64 ((sk : Int) + 1))) ⟨st, z2, sk + 1, some ⟨g, 0, none⟩, cap, kept ++ [.slice aa j ac]⟩ := T4.field 2 _ (by simp) rfl rfl rfl
            have HO5 : Hid (World.ownsRow (w4.setCell ⟨bt, 2, none⟩ (.int .i64 ((sk : Int) + 1))) 0 70 2 v bs.length (bvCells bs)) := owns_other ho (p := ⟨bt, 2, none⟩) (owns_ne ho T4.here (by decide)) _
            have c0' := HT5.here.cell 0
            have c2' := HT5.here.cell 2
            simp at c0' c2'
            have F5 : Fr (fun k => TS bt ⟨st, sr, sk, ka, kc, kept⟩ k ∨ (Value.slice aa j ac).ownBlock = some k) w0 (w4.setCell ⟨bt, 2, none⟩ (.int .i64 ((sk : Int) + 1))) := by
              refine Fr.setCell (S := fun k => TS bt ⟨st, sr, sk, ka, kc, kept⟩ k ∨ (Value.slice aa j ac).ownBlock = some k) ?_ (p := ⟨bt, 2, none⟩) (.inl (.inl (.inl rfl))) _
              refine Fr.trans ?_ f4 (fun _ _ h => h.elim)
              refine Fr.drew ?_
              refine Fr.trans (F3.out.weaken (fun k _ h => ?_)) R2.out (fun k _ h => .inl h)
              rcases h with rfl | h
              · exact .inl (.inl rfl)
              · exact .inr h
            have FIN : Hid (∀ W', Fr (fun _ => False) (w4.setCell ⟨bt, 2, none⟩ (.int .i64 ((sk : Int) + 1))) W' → ∃ s', TapeRep bt W' s' ∧ TapeOk s' ∧ Fr (fun k => TS bt ⟨st, sr, sk, ka, kc, kept⟩ k ∨ (Value.slice aa j ac).ownBlock = some k) w0 W' ∧ (∀ k, k < w0.heap.size → TS bt s' k → TS bt ⟨st, sr, sk, ka, kc, kept⟩ k ∨ (Value.slice aa j ac).ownBlock = some k) ∧ (s'.tape = st ∧ s'.k = sk + 1 ∧ s'.trace = sr ++ [104] ++ numT imp ++ valsT args)) := fun W' hW => by
              refine ⟨_, HT5.fresh hW, ⟨by simp only; omega, ?_, hz2⟩, F5.trans hW (fun _ _ h => h.elim), fun k hk hS => R3.out k (Nat.lt_of_lt_of_le hk F3.out.size) hS, ⟨rfl, rfl, HZT.out⟩⟩
              have := OK.out.klen
              simp only at this
              simp [this]
            clear T4 HT5 F5 R1 R2 R3 F3 ho f4
            go_wp2
            refine ⟨⟨d0, d2⟩, ?_⟩
            refine wpQ_move rfl (.tmp 114) (.tuple #[v, .int .i64 er]) rfl (by kernel_rfl) ?_
            simp only [Act.put, List.setIfInBounds_toArray, List.set_cons_succ, List.set_cons_zero]
            refine wpQ_pure rfl v (fun w => by kernel_rfl) ?_
            simp only [Act.put, List.setIfInBounds_toArray, List.set_cons_succ, List.set_cons_zero]
            refine wpQ_pure rfl (.int .i64 er) (fun w => by kernel_rfl) ?_
            simp only [Act.put, List.setIfInBounds_toArray, List.set_cons_succ, List.set_cons_zero]
            refine wpQ_pure rfl v (fun w => by kernel_rfl) ?_
            simp only [Act.put, List.setIfInBounds_toArray, List.set_cons_succ, List.set_cons_zero]
            refine wpQ_pure rfl (.int .i64 er) (fun w => by kernel_rfl) ?_
            simp only [Act.put, List.setIfInBounds_toArray, List.set_cons_succ, List.set_cons_zero]
            refine wpQuiet_nil ?_
            show wpList _ _ _ [] _ _
            by_cases he0 : er = 0
            · subst he0
              go_wp2
              go_ret2
              obtain ⟨s', r1, r2, r3, r4, r5⟩ := FIN.out _ (Fr.refl _ _)
              exact ⟨s', r1, r2, r3, r4, r5, HostX.val HAN.out hbl HBF.out HO5.out⟩
            have hne0 : (er == 0) = false := beq_eq_false_iff_ne.2 he0
            by_cases hd : 6 ≤ sk ∨ st.length ≤ 2 * sk + 1
            · have h16 := HDN.out hd
              subst h16
              by_cases h6 : 6 ≤ sk
              · have hgA : (6 : Int) < (sk : Int) + 1 := by omega
                go_wp2
                refine wp_region_quiet_lit (by kernel_rfl) (by kernel_rfl) ?_
                repeat go_big_quiet_step (fail)
                refine wpQuiet_nil ?_
                rintro w' ⟨nq, rfl⟩
                go_wp2
                go_ret2
                obtain ⟨s', r1, r2, r3, r4, r5⟩ := FIN.out _ ((Fr.refl _ _).drewN nq)
                exact ⟨s', r1, r2, r3, r4, r5, HostX.err HAN.out (by decide) (.inl ⟨16, rfl, .inl ⟨by decide, by decide, rfl⟩⟩)⟩
              · have hgA : decide ((6 : Int) < (sk : Int) + 1) = false := decide_eq_false (by omega)
                have hlB : (st.length : Int) < 2 * ((sk : Int) + 1) := by omega
                go_wp2
                refine wp_region_quiet_lit (by kernel_rfl) (by kernel_rfl) ?_
                repeat go_big_quiet_step (fail)
                refine wpQuiet_nil ?_
                rintro w' ⟨nq, rfl⟩
                go_wp2
                go_ret2
                obtain ⟨s', r1, r2, r3, r4, r5⟩ := FIN.out _ ((Fr.refl _ _).drewN nq)
                exact ⟨s', r1, r2, r3, r4, r5, HostX.err HAN.out (by decide) (.inl ⟨16, rfl, .inl ⟨by decide, by decide, rfl⟩⟩)⟩
            · have hgA : decide ((6 : Int) < (sk : Int) + 1) = false := decide_eq_false (by omega)
              have hlB : decide ((st.length : Int) < 2 * ((sk : Int) + 1)) = false := decide_eq_false (by omega)
              obtain ⟨t, ht⟩ : ∃ t, st[2 * sk]? = some t := ⟨_, List.getElem?_eq_getElem (by omega)⟩
              obtain ⟨b, hb⟩ : ∃ b, st[2 * sk + 1]? = some b := ⟨_, List.getElem?_eq_getElem (by omega)⟩
              have HT : Hid (st[2 * sk]? = some t) := ht
              have HBB : Hid (st[2 * sk + 1]? = some b) := hb
              have HTV : Hid ((t = 84 → (11 ≤ sx b ∧ sx b < 18 ∧ er = sx b) ∨ (¬ (11 ≤ sx b ∧ sx b < 18) ∧ er = 15)) ∧ (t ≠ 84 → er = 15)) := answer_tv hd ht hb HAN.out he0
              clear ht hb
              by_cases h16 : er = 16
              · subst h16
                go_wp2
                refine wp_region_quiet_lit (by kernel_rfl) (by kernel_rfl) ?_
                repeat go_big_quiet_step (fail)
                refine wpQuiet_nil ?_
                rintro w' ⟨nq, rfl⟩
                have z0 : ((w4.setCell ⟨bt, 2, none⟩ (.int .i64 ((sk : Int) + 1))).drewN nq).cell? ⟨bt, 0, none⟩ = some (sv st) := c0'
                have z2 : ((w4.setCell ⟨bt, 2, none⟩ (.int .i64 ((sk : Int) + 1))).drewN nq).cell? ⟨bt, 2, none⟩ = some (.int .i64 ((sk : Int) + 1)) := c2'
                have FIN2 : Hid (∀ W', Fr (fun _ => False) ((w4.setCell ⟨bt, 2, none⟩ (.int .i64 ((sk : Int) + 1))).drewN nq) W' → _) := fun W' hW => FIN.out W' (((Fr.refl _ _).drewN nq).trans hW (fun _ _ h => h))
                obtain ⟨W5, HW5⟩ : ∃ W5, Hid (W5 = (w4.setCell ⟨bt, 2, none⟩ (.int .i64 ((sk : Int) + 1))).drewN nq) := ⟨_, rfl⟩
                rw [← HW5.out] at z0 z2 FIN2 ⊢
                go_wp2
                refine wp_region_quiet_lit (by kernel_rfl) (by kernel_rfl) ?_
                repeat go_big_quiet_step (fail)
                refine wpQ_index rfl (.tmp 154) (.tmp 160) st _ (2 * sk) t rfl rfl rfl (by omega) HT.out ?_
                simp only [Act.put, List.setIfInBounds_toArray, List.set_cons_succ, List.set_cons_zero]
                refine wpQuiet_nil ?_
                rintro w' ⟨nq2, rfl⟩
                by_cases h84 : t = 84
                · subst h84
                  go_wp2
                  refine wp_region_quiet_lit (by kernel_rfl) (by kernel_rfl) ?_
                  repeat go_big_quiet_step (fail)
                  refine wpQ_index rfl (.tmp 167) (.tmp 173) st _ (2 * sk + 1) b rfl rfl rfl (by omega) HBB.out ?_
                  simp only [Act.put, List.setIfInBounds_toArray, List.set_cons_succ, List.set_cons_zero]
                  repeat go_big_quiet_step (fail)
                  refine wpQuiet_nil ?_
                  rintro w' ⟨nq3, rfl⟩
                  go_wp2
                  go_ret2
                  obtain ⟨s', r1, r2, r3, r4, r5⟩ := FIN2.out _ (((Fr.refl _ _).drewN nq2).drewN nq3)
                  exact ⟨s', r1, r2, r3, r4, r5, HostX.err HAN.out he0 (.inl ⟨_, rfl, (by have q := HTV.out.1; have e : wrap64 (IntKind.i8.wrap (b.toNat : Int)) = sx b := (by have := sx_le b; exact w64 (x := sx b) (by unfold I64; omega)); rw [e]; simpa using q)⟩)⟩
                have n84 : ((t.toNat : Int) == 84) = false := by simpa using ne_code 84 h84
                by_cases h87 : t = 87
                · subst h87
                  go_wp2
                  go_ret2
                  obtain ⟨s', r1, r2, r3, r4, r5⟩ := FIN2.out _ ((Fr.refl _ _).drewN nq2)
                  exact ⟨s', r1, r2, r3, r4, r5, HostX.err HAN.out he0 (.inr ⟨.inr rfl, HTV.out.2 (by decide)⟩)⟩
                have n87 : ((t.toNat : Int) == 87) = false := by simpa using ne_code 87 h87
                go_wp2
                go_ret2
                obtain ⟨s', r1, r2, r3, r4, r5⟩ := FIN2.out _ ((Fr.refl _ _).drewN nq2)
                exact ⟨s', r1, r2, r3, r4, r5, HostX.err HAN.out he0 (.inr ⟨.inl rfl, HTV.out.2 h84⟩)⟩
              · have hn16 : (er == 16) = false := beq_eq_false_iff_ne.2 h16
                go_wp2
                refine wp_region_quiet_lit (by kernel_rfl) (by kernel_rfl) ?_
                repeat go_big_quiet_step (fail)
                refine wpQuiet_nil ?_
                rintro w' ⟨nq, rfl⟩
                have z0 : ((w4.setCell ⟨bt, 2, none⟩ (.int .i64 ((sk : Int) + 1))).drewN nq).cell? ⟨bt, 0, none⟩ = some (sv st) := c0'
                have z2 : ((w4.setCell ⟨bt, 2, none⟩ (.int .i64 ((sk : Int) + 1))).drewN nq).cell? ⟨bt, 2, none⟩ = some (.int .i64 ((sk : Int) + 1)) := c2'
                have FIN2 : Hid (∀ W', Fr (fun _ => False) ((w4.setCell ⟨bt, 2, none⟩ (.int .i64 ((sk : Int) + 1))).drewN nq) W' → _) := fun W' hW => FIN.out W' (((Fr.refl _ _).drewN nq).trans hW (fun _ _ h => h))
                obtain ⟨W5, HW5⟩ : ∃ W5, Hid (W5 = (w4.setCell ⟨bt, 2, none⟩ (.int .i64 ((sk : Int) + 1))).drewN nq) := ⟨_, rfl⟩
                rw [← HW5.out] at z0 z2 FIN2 ⊢
                go_wp2
                refine wp_region_quiet_lit (by kernel_rfl) (by kernel_rfl) ?_
                repeat go_big_quiet_step (fail)
                refine wpQ_index rfl (.tmp 154) (.tmp 160) st _ (2 * sk) t rfl rfl rfl (by omega) HT.out ?_
                simp only [Act.put, List.setIfInBounds_toArray, List.set_cons_succ, List.set_cons_zero]
                refine wpQuiet_nil ?_
                rintro w' ⟨nq2, rfl⟩
                by_cases h84 : t = 84
                · subst h84
                  go_wp2
                  refine wp_region_quiet_lit (by kernel_rfl) (by kernel_rfl) ?_
                  repeat go_big_quiet_step (fail)
                  refine wpQ_index rfl (.tmp 167) (.tmp 173) st _ (2 * sk + 1) b rfl rfl rfl (by omega) HBB.out ?_
                  simp only [Act.put, List.setIfInBounds_toArray, List.set_cons_succ, List.set_cons_zero]
                  repeat go_big_quiet_step (fail)
                  refine wpQuiet_nil ?_
                  rintro w' ⟨nq3, rfl⟩
                  go_wp2
                  go_ret2
                  obtain ⟨s', r1, r2, r3, r4, r5⟩ := FIN2.out _ (((Fr.refl _ _).drewN nq2).drewN nq3)
                  exact ⟨s', r1, r2, r3, r4, r5, HostX.err HAN.out he0 (.inl ⟨_, rfl, (by have q := HTV.out.1; have e : wrap64 (IntKind.i8.wrap (b.toNat : Int)) = sx b := (by have := sx_le b; exact w64 (x := sx b) (by unfold I64; omega)); rw [e]; simpa using q)⟩)⟩
                have n84 : ((t.toNat : Int) == 84) = false := by simpa using ne_code 84 h84
                by_cases h87 : t = 87
                · subst h87
                  go_wp2
                  go_ret2
                  obtain ⟨s', r1, r2, r3, r4, r5⟩ := FIN2.out _ ((Fr.refl _ _).drewN nq2)
                  exact ⟨s', r1, r2, r3, r4, r5, HostX.err HAN.out he0 (.inr ⟨.inr rfl, HTV.out.2 (by decide)⟩)⟩
                have n87 : ((t.toNat : Int) == 87) = false := by simpa using ne_code 87 h87
                go_wp2
                go_ret2
                obtain ⟨s', r1, r2, r3, r4, r5⟩ := FIN2.out _ ((Fr.refl _ _).drewN nq2)
                exact ⟨s', r1, r2, r3, r4, r5, HostX.err HAN.out he0 (.inr ⟨.inl rfl, HTV.out.2 h84⟩)⟩
end
end Go.Proofs.Qxb6500575aGreatDoor
