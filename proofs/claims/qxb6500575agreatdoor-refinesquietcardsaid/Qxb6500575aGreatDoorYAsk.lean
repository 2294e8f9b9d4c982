/-
  THE WALK of runm.ask.
-/
import Derived.Test.Qxb6500575aGreatDoorYTake
import Derived.Test.Qxb6500575aGreatDoorYFits
import Derived.Test.Qxb6500575aGreatDoorSAnsw
import Derived.Test.Qxb6500575aGreatDoorMProgOps0
import Derived.Test.Qxb6500575aGreatDoorPStr
namespace Go.Proofs.Qxb6500575aGreatDoor
open Go Go.RowKit
set_option linter.unusedVariables false
set_option linter.unusedSimpArgs false

section
variable {w : World} {bn : Nat} {q : NF} {L : NL} {x : ND}
/-- a field is written -/
theorem NRep.setTrace (h : NRep w bn q L x) (z : List UInt8) : NRep (w.setCell ⟨bn, 10, none⟩ (sv z)) bn q L { x with trace := z } ∧ NStep w (w.setCell ⟨bn, 10, none⟩ (sv z)) bn L L := h.field 10 (sv z) rfl rfl
theorem NRep.setAsked (h : NRep w bn q L x) (k : Nat) : NRep (w.setCell ⟨bn, 7, none⟩ (.int .i64 k)) bn q L { x with asked := k } ∧ NStep w (w.setCell ⟨bn, 7, none⟩ (.int .i64 k)) bn L L := h.field 7 (.int .i64 k) rfl rfl
set_option maxRecDepth 100000
set_option maxHeartbeats 400000
theorem yask_any {S : Nat → Prop} {bpm : Nat} {LM : MPL} {P : ProgD} {srcs : List (List Ins)} (h : NRep w bn q L x) (hq : q.p = .pointer (some ⟨bpm, 0, none⟩)) (hp : MProg S w bpm LM P srcs) (hpl : P.funs.length ≤ 1000) (g : Nat) {up ur ul : List UInt8} (hu : P.funs[g]? = some ⟨up, ur, ul⟩) (hp3 : up.length ≤ 3) (hr1 : ur.length ≤ 1) (htr : TyL ur)
    {args rest : List V} (hs : x.st = args ++ rest) (hty : args.map V.ty = up.reverse) (hl : x.st.length ≤ 900) (hk : x.asked ≤ 6) (htl : x.trace.length ≤ 90000) (H : HF TSem) (hH : (x.host = false ∧ H = noHost) ∨ (x.host = true ∧ H = hostF P tapeAsk)) :
    Calls Tryz.prog 147 #[.pointer (some ⟨bn, 0, none⟩), .int .i64 g] w fun e w' => e = .returned (.int .i64 (H x.hs g args.reverse).2.1) ∧ ∃ L', NRep w' bn q L' { (x.to (H x.hs g args.reverse).1) with st := (H x.hs g args.reverse).2.2.reverse ++ rest } ∧ NStep w w' bn L L' := by
  have hsig : P.sig g = (⟨up, ur, ul⟩, true) := by unfold ProgD.sig; rw [if_neg (by omega)]; simp [hu]
  have SIG : Hid (Calls _ _ _ _ _) := msig_any S bpm LM P srcs w g hp hpl
  rw [hsig] at SIG
  simp only at SIG
  have c0 := h.here.cell 0
  simp at c0
  rw [hq] at c0
  have HN : Hid (NRep w bn q L x) := h
  have HS : Hid (x.st = args ++ rest) := hs
  have HTY : Hid (args.map V.ty = up.reverse) := hty
  obtain ⟨r, HR⟩ : ∃ r, Hid (r = H x.hs g args.reverse) := ⟨_, rfl⟩
  rw [← HR.out]
  obtain ⟨rs, re, rv⟩ := r
  simp only
  clear h hs hty hp hsig
  go_enter Tryz.func147, Tryz.ntmps147
  go_wp2_with fail
  refine SIG.out.mono ?_
  rintro e w1 ⟨rfl, n1, rfl⟩
  clear SIG
  have TK : Hid (Calls _ _ _ _ _) := ytake_any (HN.out.fresh ((Fr.refl _ _).drewN n1)) HS.out HTY.out (by omega) (by omega)
  go_wp2_with fail
  refine TK.out.mono ?_
  rintro e w2 ⟨ga, gc, rfl, hn2, hs2, ho2, hg2⟩
  have S2 : Hid (NStep w w2 bn L L) := (NStep.fresh ((Fr.refl _ _).drewN n1)).trans hs2
  have N2 : Hid (NRep w2 bn q L { x with st := rest }) := hn2
  have O2 : Hid (World.ownsRow w2 0 70 2 (.slice ga args.length gc) args.length (stCells args)) := ho2
  have c8 := hn2.here.cell 8
  have c10 := hn2.here.cell 10
  simp at c8 c10
  clear TK hn2 hs2 ho2 hg2
  rcases hH with ⟨hh, rfl⟩ | ⟨hh, rfl⟩
  · rw [hh] at c8
    have hr := HR.out
    unfold noHost at hr
    simp only [Prod.mk.injEq] at hr
    obtain ⟨rfl, rfl, rfl⟩ := hr
    go_wp2
    go_ret
    exact ⟨rfl, L, N2.out, S2.out⟩
  · rw [hh] at c8
    obtain ⟨bvs, HB⟩ : ∃ bvs, Hid (bvs = args.reverse.map V.bv) := ⟨_, rfl⟩
    have hbl : bvs.length = args.length := by rw [HB.out]; simp
    have hal : args.length = up.length := by have := congrArg List.length HTY.out; simpa using this
    obtain ⟨m, HM⟩ : ∃ m, Hid (args.length = m) := ⟨_, rfl⟩
    have hm3 : m ≤ 3 := by rw [← HM.out, hal]; exact hp3
    have O3 : Hid (World.ownsRow w2 0 70 2 (.slice ga m gc) m (bvCells bvs)) := by
      have := O2.out
      rw [HM.out] at this
      unfold stCells at this
      rw [HB.out]
      exact this
    rw [HM.out]
    obtain ⟨Y, HY, hYl⟩ : ∃ Y : List UInt8, Hid (Y = x.trace ++ [104]) ∧ Y.length ≤ 90001 := ⟨x.trace ++ [104], rfl, by simp; omega⟩
    have hcat : (⟨x.trace.toArray⟩ : ByteArray) ++ ⟨[104].toArray⟩ = ⟨Y.toArray⟩ := by rw [ba_app, HY.out]
    have hYs : x.trace.length + 1 ≤ 1000000 := by omega
    have N1 : Hid (Calls _ _ _ _ _) := num_name Y g w2 (by omega)
    have HRR : Hid ((rs, re, rv) = hostR ur (x.tape, x.asked + 1, Y ++ numT g ++ valsT bvs) (answerP x.tape x.asked)) := by
      show _ = _
      rw [HR.out]
      unfold hostF tapeAsk ND.hs
      simp only
      rw [if_neg (by omega), Int.toNat_natCast, hu, ← HB.out, HY.out]
      rfl
    clear O2 HR
    go_wp2_with fail
    refine N1.out.mono ?_
    rintro e w3 ⟨z1, rfl, Z1, hl1, g1⟩
    obtain ⟨r3, s3⟩ := (N2.out.fresh g1).setTrace z1
    have f10 := (N2.out.fresh g1).here.frozen 10
    have d10 := (N2.out.fresh g1).here.cell 10
    have k10 := (N2.out.fresh g1).here.lt
    simp at d10
    have o3 := owns_fr O3.out g1 (fun _ _ h => h)
    have o4 : (w3.setCell ⟨bn, 10, none⟩ (sv z1)).ownsRow 0 70 2 (.slice ga m gc) m (bvCells bvs) := owns_other o3 (p := ⟨bn, 10, none⟩) (owns_ne o3 (N2.out.fresh g1).here (by decide)) _
    have V1 : Hid (Calls _ _ _ _ _) := vals_any z1 (by omega) bvs (by rw [hbl, HM.out]; exact hm3) ga gc (by rw [hbl, HM.out]; exact o4)
    rw [hbl, HM.out] at V1
    have R3 : Hid (NRep _ _ _ _ _) := r3
    have S3 : Hid (NStep w _ bn L L) := (S2.out.trans (NStep.fresh g1)).trans s3
    have O4 : Hid (World.ownsRow _ _ _ _ _ _ _) := o4
    clear N1 g1 r3 s3 o3 o4
    go_wp2_with fail
    refine V1.out.mono ?_
    rintro e w4 ⟨z2, rfl, Z2, hl2, g2⟩
    obtain ⟨r4, s4⟩ := (R3.out.fresh g2).setTrace z2
    have f10 := (R3.out.fresh g2).here.frozen 10
    have d10 := (R3.out.fresh g2).here.cell 10
    have k10 := (R3.out.fresh g2).here.lt
    simp at d10
    have a9 := r4.here.cell 9
    have a7 := r4.here.cell 7
    simp at a9 a7
    have HZ : Hid (z2 = Y ++ numT g ++ valsT bvs) := by
      show _ = _
      rw [Z2.out, Z1.out]
    have R4 : Hid (NRep _ _ _ _ _) := r4
    have S4 : Hid (NStep w _ bn L L) := (S3.out.trans (NStep.fresh g2)).trans s4
    clear V1 g2 r4 s4 Z1 Z2 R3 S3 O4 O3
    obtain ⟨W, HW⟩ : ∃ W, Hid (W = w4.setCell ⟨bn, 10, none⟩ (sv z2)) := ⟨_, rfl⟩
    rw [← HW.out] at a9 a7 R4 S4
    go_wp2
    rw [← HW.out]
    refine wp_region_two [0, 1, 2, 3, 4, 5, 6, 7] 8 [9, 10, 11, 12, 13] 14 (fun y => y.cell? ⟨bn, 9, none⟩ = some (sv x.tape) ∧ y.cell? ⟨bn, 7, none⟩ = some (.int .i64 x.asked)) (by kernel_rfl) (by kernel_rfl) (fun _ _ _ _ _ h => h) ⟨a9, a7⟩ [_, _, _, _, _, _, _, _] rfl _ rfl [_, _, _, _, _] rfl ?_
    refine wpQ_move rfl (.tmp 0) (.pointer (some ⟨bn, 0, none⟩)) rfl (by kernel_rfl) ?_
    simp only [Act.put, List.setIfInBounds_toArray, List.set_cons_succ, List.set_cons_zero]
    refine wpQ_nilCheck rfl (.tmp 58) ⟨bn, 0, none⟩ rfl (by kernel_rfl) ?_
    simp only [Act.put, List.setIfInBounds_toArray, List.set_cons_succ, List.set_cons_zero]
    refine wpQ_fieldAddr rfl (.tmp 59) 9 ⟨bn, 0, none⟩ ⟨bn, 9, none⟩ rfl (by kernel_rfl) (fun w => by kernel_rfl) ?_
    simp only [Act.put, List.setIfInBounds_toArray, List.set_cons_succ, List.set_cons_zero]
    refine wpQ_load1 rfl (.tmp 60) ⟨bn, 9, none⟩ (sv x.tape) rfl (by kernel_rfl) (by kernel_rfl) (fun _ h => h.1) ?_
    simp only [Act.put, List.setIfInBounds_toArray, List.set_cons_succ, List.set_cons_zero]
    refine wpQ_move rfl (.tmp 0) (.pointer (some ⟨bn, 0, none⟩)) rfl (by kernel_rfl) ?_
    simp only [Act.put, List.setIfInBounds_toArray, List.set_cons_succ, List.set_cons_zero]
    refine wpQ_nilCheck rfl (.tmp 62) ⟨bn, 0, none⟩ rfl (by kernel_rfl) ?_
    simp only [Act.put, List.setIfInBounds_toArray, List.set_cons_succ, List.set_cons_zero]
    refine wpQ_fieldAddr rfl (.tmp 63) 7 ⟨bn, 0, none⟩ ⟨bn, 7, none⟩ rfl (by kernel_rfl) (fun w => by kernel_rfl) ?_
    simp only [Act.put, List.setIfInBounds_toArray, List.set_cons_succ, List.set_cons_zero]
    refine wpQ_load1 rfl (.tmp 64) ⟨bn, 7, none⟩ (.int .i64 x.asked) rfl (by kernel_rfl) (by kernel_rfl) (fun _ h => h.2) ?_
    simp only [Act.put, List.setIfInBounds_toArray, List.set_cons_succ, List.set_cons_zero]
    refine wpQuiet_nil ?_
    go_wp2_with fail
    refine (answer_any x.tape x.asked (by omega) _).mono ?_
    rintro e w5 ⟨v, rfl, ho5, hfre, f5, hnil⟩
    obtain ⟨bs, er, HAN⟩ : ∃ bs er, Hid (answerP x.tape x.asked = (bs, er)) := ⟨_, _, rfl⟩
    rw [HAN.out] at ho5 hnil HRR ⊢
    have hb2 := answer_len x.tape x.asked
    have hbf := answer_fits x.tape x.asked
    rw [HAN.out] at hb2 hbf
    simp only at ho5 hnil hb2 hbf ⊢
    have r5 := (R4.out.fresh ((Fr.refl _ W).drew)).fresh f5
    have b9 := r5.here.cell 9
    have b7 := r5.here.cell 7
    simp at b9 b7
    have g7 := r5.here.frozen 7
    have k7 := r5.here.lt
    obtain ⟨r6, s6⟩ := r5.setAsked (x.asked + 1)
    have R6 : Hid (NRep _ _ _ _ _) := r6
    have S6 : Hid (NStep w _ bn L L) := ((S4.out.trans (NStep.fresh ((Fr.refl _ W).drew))).trans (NStep.fresh f5)).trans s6
    have O6 : Hid (World.ownsRow (w5.setCell ⟨bn, 7, none⟩ (.int .i64 (x.asked + 1 : Nat))) 0 70 2 v bs.length (bvCells bs)) := owns_other ho5 (p := ⟨bn, 7, none⟩) (owns_ne ho5 r5.here (by decide)) _
    have HBF : Hid (∀ b ∈ bs, I64 b.v) := hbf
    have HSEP : Hid (∀ k, NS bn L k → v.ownBlock ≠ some k) := fun k hk e => by
      have h1 := R4.out.lt hk
      have h2 := hfre k e
      have h3 : W.drew.heap.size = W.heap.size := rfl
      omega
    clear r5 r6 s6 ho5 f5 R4 S4 hbf
    go_wp2
    refine wpQ_move rfl (.tmp 66) (.tuple #[v, .int .i64 er]) rfl (by kernel_rfl) ?_
    simp only [Act.put, List.setIfInBounds_toArray, List.set_cons_succ, List.set_cons_zero]
    refine wpQ_pure rfl v (fun w => by kernel_rfl) ?_
    simp only [Act.put, List.setIfInBounds_toArray, List.set_cons_succ, List.set_cons_zero]
    refine wpQ_pure rfl (.int .i64 er) (fun w => by kernel_rfl) ?_
    simp only [Act.put, List.setIfInBounds_toArray, List.set_cons_succ, List.set_cons_zero]
    refine wpQ_pure rfl v (fun w => by kernel_rfl) ?_
    simp only [Act.put, List.setIfInBounds_toArray, List.set_cons_succ, List.set_cons_zero]
    refine wpQ_pure rfl (.int .i64 er) (fun w => by kernel_rfl) ?_
    simp only [Act.put, List.setIfInBounds_toArray, List.set_cons_succ, List.set_cons_zero]
    refine wpQuiet_nil ?_
    show wpList _ _ _ [] _ _
    by_cases he0 : er = 0
    · subst he0
      have hvf : ∃ va vc, v = .slice va bs.length vc := by
        rcases O6.out.2 with ⟨h0, h1⟩ | ⟨g', cap, cur, hv, _⟩
        · exact ⟨none, 0, by rw [h0, h1]⟩
        · exact ⟨_, cap, hv⟩
      obtain ⟨va, vc, rfl⟩ := hvf
      by_cases hlen : bs.length = ur.length
      · cases bs with
        | nil =>
          have hur : ur = [] := List.eq_nil_of_length_eq_zero (by simpa using hlen.symm)
          subst hur
          simp only [List.length_nil] at *
          go_wp2
          refine wp_loop_rounds 1 ?_
          rw [rounds_succ]
          go_wp2
          go_ret
          have hr : (rs, re, rv) = ((x.tape, x.asked + 1, Y ++ numT g ++ valsT bvs), (0 : Int), ([] : List V)) := HRR.out
          simp only [Prod.mk.injEq] at hr
          obtain ⟨rfl, rfl, rfl⟩ := hr
          have r := R6.out
          rw [HZ.out] at r
          exact ⟨rfl, L, r, S6.out⟩
        | cons b bs' =>
          have hb1 : bs' = [] := List.eq_nil_of_length_eq_zero (by simp at hlen; omega)
          subst hb1
          obtain ⟨t, rfl⟩ : ∃ t, ur = [t] := by
            cases ur with
            | nil => simp at hlen
            | cons t l => exact ⟨t, by rw [List.eq_nil_of_length_eq_zero (l := l) (by simp only [List.length_cons] at hr1; omega)]⟩
          obtain ⟨gv, hgv, hcv⟩ := owns_some O6.out (by simp)
          subst hgv
          have b0 := O6.out.cellAt 0 (by simp)
          have b1 := O6.out.cellAt 1 (by simp)
          simp [bvCells] at b0 b1
          have hvc : 1 ≤ vc := by
            rcases owns_form O6.out with ⟨h, _⟩ | ⟨_, _, h⟩
            · cases h
            · simpa using h
          simp only [List.length_cons, List.length_nil, Nat.zero_add] at *
          obtain ⟨btt, bvv⟩ := b
          simp only at b0 b1
          clear hcv
          obtain ⟨W7, HW7⟩ : ∃ W7, Hid (W7 = w5.setCell ⟨bn, 7, none⟩ (.int .i64 (x.asked + 1 : Nat))) := ⟨_, rfl⟩
          rw [← HW7.out] at O6 R6 S6
          have HW7' : Hid (w5.setCell ⟨bn, 7, none⟩ (.int .i64 ((x.asked : Int) + 1)) = W7) := by
            show _ = _
            rw [HW7.out]
            rfl
          rw [HW7'.out] at b0 b1
          have hgvl := owns_lt O6.out gv rfl
          clear HW7
          go_wp2
          rw [HW7'.out]
          refine wp_loop_rounds 2 ?_
          rw [rounds_succ]
          go_wp2
          refine wp_region_tail 7 (by kernel_rfl) (by kernel_rfl) (fun _ _ _ _ _ h => h) ?_
          simp only [List.take_succ_cons, List.take_zero, List.drop_succ_cons, List.drop_zero]
          repeat go_big_quiet_step (fail)
          refine wpQuiet_nil ?_
          go_wp2_with fail
          refine (yfits_any ⟨btt, bvv⟩ t _).mono ?_
          rintro e w8 ⟨rfl, f8⟩
          have R8 : Hid (NRep w8 bn q L _) := (R6.out.fresh ((Fr.refl _ W7).drew)).fresh f8
          have S8 : Hid (NStep w w8 bn L L) := (S6.out.trans (NStep.fresh ((Fr.refl _ W7).drew))).trans (NStep.fresh f8)
          have O8 : Hid (World.ownsRow w8 0 70 2 (.slice (some ⟨gv, 0, none⟩) 1 vc) 1 (bvCells [⟨btt, bvv⟩])) := owns_fr (owns_fr O6.out ((Fr.refl _ W7).drew) (fun _ _ h => h)) f8 (fun _ _ h => h)
          clear f8 b0 b1
          have hr := HRR.out
          unfold hostR at hr
          have hzip : ([(⟨btt, bvv⟩ : BV)].zip [t]).all (fun p => fitsB p.1 p.2) = fitsB ⟨btt, bvv⟩ t := by simp
          have HSEP' : Hid (¬ (Value.slice L.sa rest.length L.sc).ownBlock = some gv) := fun e => HSEP.out gv (.inr (by rw [ownBlock_any]; exact e)) rfl
          by_cases hfb : fitsB ⟨btt, bvv⟩ t = true
          · rw [if_pos rfl, if_pos ⟨rfl, by rw [hzip]; exact hfb⟩] at hr
            simp only [Prod.mk.injEq, List.map_cons, List.map_nil] at hr
            obtain ⟨rfl, rfl, rfl⟩ := hr
            have htt := htr t (by simp)
            obtain ⟨hw1, hw2, hw3⟩ := fits_word htt hfb (HBF.out _ (by simp))
            simp only at hw1 hw3
            have hbt : btt = t := by
              have := hfb
              rw [fitsB_of] at this
              simp at this
              exact this.1
            subst hbt
            rw [hfb]
            have b0 := O8.out.cellAt 0 (by simp)
            have b1 := O8.out.cellAt 1 (by simp)
            simp [bvCells] at b0 b1
            have d3 := R8.out.here.cell 3
            simp at d3
            have k3 := R8.out.here.lt
            have kv := owns_lt O8.out gv rfl
            have HL9 : Hid (rest.length ≤ 900) := by
              have := hl
              rw [HS.out] at this
              simp at this
              show _ ≤ _
              omega
            go_wp2
            refine wp_region_app rowVals2 9 (by kernel_rfl) (by kernel_rfl) (fun _ _ _ _ _ h => h) _ _ _ rfl (.tmp 107) (.tmp 103) 108 109 rfl rfl rfl rfl rfl rfl _ _ _ R8.out.st (.agg #[.int .u8 btt.toNat, .int .i64 bvv]) rfl (by decide) (by simp [Value.cells, Value.oneCell']) (by have := HL9.out; show (rest.length + 1) * _ ≤ _; omega) ?_
            intro g1 cap w9 q1 q2 q3 q4
            have hq3 : (L.stV { x with st := rest }).ownBlock = some g1 ∨ w8.heap.size ≤ g1 := by
              rcases q3 with q3 | q3
              · exact .inl q3
              · right; omega
            obtain ⟨hh, r9, s9⟩ := R8.out.pushed (word btt bvv) ((Fr.refl _ _).alloc _) (by rw [hw1, hw3]; exact q1) q2 hq3
            have HC0 : Hid (Has w9 bn _ _) := hh
            have o9 : w9.ownsRow 0 70 2 (.slice (some ⟨gv, 0, none⟩) 1 vc) 1 (bvCells [⟨btt, bvv⟩]) := owns_fr (owns_alloc O8.out _) q2 (fun k hk e => by
              simp [Value.ownBlock] at hk
              subst hk
              exact HSEP'.out e)
            have b0' := o9.cellAt 0 (by simp)
            have b1' := o9.cellAt 1 (by simp)
            simp [bvCells] at b0' b1'
            have d3' := hh.cell 3
            have f3' := hh.frozen 3
            have l3' := hh.lt
            simp at d3'
            have R9 : Hid (NRep _ _ _ _ _) := r9
            have S9 : Hid (NStep w _ bn L _) := S8.out.trans s9
            clear q1 q2 q3 q4 hq3 hh r9 s9 o9
            simp only [List.take_succ_cons, List.take_zero]
            repeat go_big_quiet_step (fail)
            refine wpQuiet_nil ⟨rfl, rfl, by simp, rfl, ?_⟩
            go_wp2
            rw [rounds_succ]
            go_wp2
            go_ret
            have r := R9.out
            rw [HZ.out] at r
            exact ⟨rfl, _, r, S9.out⟩
          · have hfb' : fitsB ⟨btt, bvv⟩ t = false := by simpa using hfb
            rw [if_pos rfl, if_neg (fun h => hfb (by rw [← hzip]; exact h.2))] at hr
            simp only [Prod.mk.injEq] at hr
            obtain ⟨rfl, rfl, rfl⟩ := hr
            rw [hfb']
            go_wp2
            go_ret
            have r := R8.out
            rw [HZ.out] at r
            exact ⟨rfl, L, r, S8.out⟩
      · have hcl : ((bs.length : Int) != (ur.length : Int)) = true := by rw [bne_iff_ne]; omega
        go_wp2
        go_ret
        have hr := HRR.out
        unfold hostR at hr
        rw [if_pos rfl, if_neg (fun h => hlen h.1)] at hr
        simp only [Prod.mk.injEq] at hr
        obtain ⟨rfl, rfl, rfl⟩ := hr
        have r := R6.out
        rw [HZ.out] at r
        exact ⟨rfl, L, r, S6.out⟩
    · have hne0 : (er != 0) = true := by rw [bne_iff_ne]; exact he0
      go_wp2
      go_ret
      have hr := HRR.out
      unfold hostR at hr
      rw [if_neg he0] at hr
      simp only [Prod.mk.injEq] at hr
      obtain ⟨rfl, rfl, rfl⟩ := hr
      have r := R6.out
      rw [HZ.out] at r
      exact ⟨rfl, L, r, S6.out⟩
end
end Go.Proofs.Qxb6500575aGreatDoor
