import Derived.Test.Qxb6500575aGreatDoorLoadS
namespace Go.Proofs.Qxb6500575aGreatDoor
open Go Go.RowKit
set_option linter.unusedVariables false
set_option linter.unusedSimpArgs false

set_option maxRecDepth 100000 in
set_option maxHeartbeats 4000000 in
theorem load_any (S : Nat → Prop) (bm bp : Nat) (Lm : ModL) (m : ModD) (w : World) (h : ModRep S w bm Lm m) (hS : ∀ k, S k → k < w.heap.size) (hok : ModOk m) (hbp : Has w bp #[.int .i64 0, .int .i64 0, .int .i64 0, .int .i64 0, .slice none 0 0] 101) (hnS : ¬ S bp)
    (hbody : ∀ f, m.imports.length ≤ f → f < m.nall → m.badSig 0 m.nall = none → BodyOk (m.env f) (m.body f)) :
    Calls Tryz.prog 59 #[.pointer (some ⟨bp, 0, none⟩), .pointer (some ⟨bm, 0, none⟩)] w fun e w' => e = .returned (.tuple #[.int .i64 m.load.1, .int .i64 m.load.2.1, .int .i64 m.load.2.2]) ∧ Fr (fun k => k = bp) w w' ∧
      (m.load.2.2 = 0 → ∃ Lp, ProgRep (fun k => k = bp ∨ w.heap.size ≤ k) w' bp Lp { nimp := m.imports.length, min := m.min, max := m.max, steps := 0, funs := m.sigs, codes := (List.range m.nall).map m.code }) := by
  have HM : Hid (∀ X, Fr (fun k => k = bp) w X → ModRep S X bm Lm m) := fun X hX => h.fr hX (fun k hk e => by subst e; exact hnS hk)
  have c0 := hbp.cell 0
  have c1 := hbp.cell 1
  have c2 := hbp.cell 2
  simp at c0 c1 c2
  have f0 := hbp.frozen 0
  have f1 := hbp.frozen 1
  have f2 := hbp.frozen 2
  have lb := hbp.lt
  have hi2 := hok.ni
  have hf4 := hok.nf
  have hp4 := hok.np
  have P0 : ProgRep (fun k => k = bp ∨ w.heap.size ≤ k) w bp { fa := none, fc := 0, cvs := [] } { nimp := 0, min := 0, max := 0, steps := 0, funs := [], codes := [] } :=
    { funs := ⟨hbp, ⟨rfl, .inl ⟨rfl, rfl⟩⟩, rfl⟩, codes := fun f v c hv => by simp at hv, clen := rfl, own := .inl rfl, ownF := fun g hg => by simp [Value.ownBlock] at hg, ownC := fun f v hv => by simp at hv }
  have HP0 : Hid (ProgRep _ w bp _ _) := P0
  clear h P0 hbp
  go_enter Tryz.func59, Tryz.ntmps59
  go_wp2_with fail
  refine (nimports_any S bm Lm m _ (HM.out _ (Fr.refl _ _))).mono ?_
  rintro e w1 ⟨rfl, hw1⟩
  obtain rfl := hw1.symm
  clear hw1
  go_wp2_with fail
  refine (mem_any S bm Lm m _ (HM.out _ (Fr.setCell (S := fun k => k = bp) (Fr.refl _ _) (p := ⟨bp, 0, none⟩) (.inl rfl) _))).mono ?_
  rintro e w1 ⟨rfl, n1, rfl⟩
  go_wp2_with fail
  obtain ⟨W0, hW0⟩ : ∃ W0, W0 = (((w.setCell ⟨bp, 0, none⟩ (.int .i64 m.imports.length)).drewN n1).setCell ⟨bp, 1, none⟩ (.int .i64 m.min)).setCell ⟨bp, 2, none⟩ (.int .i64 m.max) := ⟨_, rfl⟩
  rw [← hW0]
  have Q1 := HP0.out.putHead 0 (.int .i64 m.imports.length) (p' := { nimp := m.imports.length, min := 0, max := 0, steps := 0, funs := [], codes := [] }) (by omega) rfl rfl rfl
  have Q2 := (Q1.1.fresh ((Fr.refl _ _).drewN n1)).putHead 1 (.int .i64 m.min) (p' := { nimp := m.imports.length, min := m.min, max := 0, steps := 0, funs := [], codes := [] }) (by omega) rfl rfl rfl
  have Q3 := Q2.1.putHead 2 (.int .i64 m.max) (p' := { nimp := m.imports.length, min := m.min, max := m.max, steps := 0, funs := [], codes := [] }) (by omega) rfl rfl rfl
  have F3 : Fr (fun k => k = bp) w W0 := by
    rw [hW0]
    exact ((((Fr.refl (fun k => k = bp) w).setCell (p := ⟨bp, 0, none⟩) (.inl rfl) _).drewN n1).setCell (p := ⟨bp, 1, none⟩) (.inl rfl) _).setCell (p := ⟨bp, 2, none⟩) (.inl rfl) _
  have Q4 := Q3.1
  rw [← hW0] at Q4
  have HP3 : Hid (ProgRep _ W0 bp _ _) := Q4
  have HF3 : Hid (Fr (fun k => k = bp) w W0) := F3
  clear hW0 Q1 Q2 Q3 Q4 F3 HP0 c0 c1 c2 f0 f1 f2
  refine (ntypes_any S bm Lm m _ (HM.out _ HF3.out)).mono ?_
  rintro e w1 ⟨rfl, hw1⟩
  obtain rfl := hw1.symm
  clear hw1
  go_wp2_with fail
  refine (nfuncs_any S bm Lm m _ (HM.out _ HF3.out)).mono ?_
  rintro e w1 ⟨rfl, hw1⟩
  obtain rfl := hw1.symm
  clear hw1
  have c0 := HP3.out.funs.here.cell 0
  simp at c0
  have lb0 := HP3.out.funs.here.lt
  obtain ⟨ti, hti, hz, hsz, hby⟩ := info_parts rowInt.hi
  obtain ⟨n, hn⟩ : ∃ n : Nat, n = m.nall := ⟨_, rfl⟩
  have HN : Hid (n = m.nall) := hn
  have HNN : Hid (n = m.imports.length + m.funcs.length) := hn
  have hnI : (m.imports.length : Int) + (m.funcs.length : Int) = (n : Int) := by rw [hn]; unfold ModD.nall; omega
  have hn6 : n ≤ 6 := by rw [hn]; unfold ModD.nall; omega
  clear hn
  go_wp2_with (at_make; refine wpList_make_full _ rfl _ _ 110 rfl 0 3 ti (.int .i64 0) 1 rowInt.ht hti hz hsz .i64 .i64 _ _ n rfl rfl (by omega) (by omega) (by rw [hby]; omega) (by unfold maxLen; omega) (Nat.zero_le _) ?mk)
  case mk =>
    intro w3 hown hgrow
    have FG : Fr (fun _ => False) W0 w3 := (Fr.of_grown hgrow).weaken (fun k _ h => by cases h)
    rw [made_ints, sizes_zero n m.sizeOf] at hown
    have LS : LoadS S w bm bp W0.heap.size n Lm m w3.heap.size w3 { fa := none, fc := 0, cvs := [] } { nimp := m.imports.length, min := m.min, max := m.max, steps := 0, funs := (List.range 0).map m.funD, codes := List.replicate 0 [] } ((List.range n).map (fun f => if f < 0 then m.sizeOf f else 0)) :=
      { mod := HM.out _ (HF3.out.trans FG (fun _ _ h => h.elim)), prog := (HP3.out.fresh FG).sub (fun k hk h => ⟨h, hk⟩), fr := HF3.out.trans FG (fun _ _ h => h.elim), sz := hown, gs0 := HF3.out.size, gsT := owns_lt hown _ rfl, w0T := Nat.le_trans HF3.out.size FG.size, topW := Nat.le_refl _ }
    have HLS : Hid (LoadS S w bm bp W0.heap.size n Lm m w3.heap.size w3 _ _ _) := LS
    generalize W0.heap.size = gs at *
    clear LS FG hown hgrow HP3 HF3 HM c0 lb0 hti hz hsz hby lb
    go_wp2
    go_loopw [49] (fun t wr => ∃ (i top : Nat) (Lp : ProgL), i ≤ n ∧ t = .int .i64 i ∧ Hid (LoadS S w bm bp gs n Lm m top wr Lp { nimp := m.imports.length, min := m.min, max := m.max, steps := 0, funs := (List.range i).map m.funD, codes := List.replicate i [] } ((List.range n).map (fun f => if f < i then m.sizeOf f else 0))) ∧ Hid (∀ f, f < i → m.typOf f < (m.params.length : Int))) (fun t _ => n - (intOf t).toNat)
    case atStart => exact ⟨0, _, _, Nat.zero_le _, rfl, HLS, fun f hf => by omega⟩
    case round =>
      obtain ⟨i, top, Lp, hi, rfl, G1, G2⟩ := hrel
      have LS0 := G1.out.raise
      have c0 := LS0.prog.funs.here.cell 0
      simp at c0
      have lbp := LS0.prog.funs.here.lt
      have lbp1 : bp < wr.heap.size + 1 := by omega
      have HLS0 : Hid (LoadS S w bm bp gs n Lm m wr.heap.size wr _ _ _) := LS0
      clear G1 LS0
      by_cases hlt : i < n
      · by_cases hni : i < m.imports.length
        · -- an import
          obtain ⟨ty, hty⟩ : ∃ ty, m.importAt i = ty := ⟨_, rfl⟩
          have hI := import_any S bm Lm m i wr HLS0.out.mod (by omega)
          rw [hty] at hI
          have HTY : Hid (m.typOf i = ty) := by show _ = _; unfold ModD.typOf; rw [if_pos hni]; exact hty
          have HI : Hid (Calls _ _ _ _ _) := hI
          clear hI hty
          go_wp2_with fail
          refine HI.out.mono ?_
          rintro e w4 ⟨rfl, hw4⟩
          obtain rfl := hw4.symm
          clear hw4 HI
          by_cases hbad : (m.params.length : Int) ≤ ty
          · go_wp2
            go_ret3
            have hload : m.load = ((i : Int), -1, 5) := by
              unfold ModD.load
              rw [badSig_at m.nall 0 i (Nat.zero_le _) (by have := HN.out; omega) (fun j _ hj => G2.out j hj) (by rw [HTY.out]; exact hbad)]
            rw [hload]
            exact ⟨rfl, HLS0.out.fr.alloc _, fun h => by simp at h⟩
          · have LSX : LoadS S w bm bp gs n Lm m wr.heap.size (wr.alloc (.cells #[.string ⟨#[]⟩, .string ⟨#[]⟩, .string ⟨#[]⟩, .slice none 0 0] 105)) _ _ _ := HLS0.out.keep hS ((Fr.refl (fun _ => False) _).alloc _) (fun _ h => h.elim)
            go_wp2_with fail
            refine (type_any S bm Lm m ty _ LSX.mod (by omega) hok.nr).mono ?_
            rintro e w5 ⟨rfl, n5, rfl⟩
            obtain ⟨tp, tr, htt⟩ : ∃ tp tr, m.typeAt ty = (tp, tr) := ⟨_, _, rfl⟩
            rw [htt]
            simp only
            go_wp2
            obtain ⟨W5, hW5⟩ : ∃ W5, W5 = ((((wr.alloc (.cells #[.string ⟨#[]⟩, .string ⟨#[]⟩, .string ⟨#[]⟩, .slice none 0 0] 105)).drewN n5).setCell ⟨wr.heap.size, 0, none⟩ (sv tp)).setCell ⟨wr.heap.size, 1, none⟩ (sv tr)) := ⟨_, rfl⟩
            rw [← hW5]
            obtain ⟨bt, hbte⟩ : ∃ bt, bt = wr.heap.size := ⟨_, rfl⟩
            obtain ⟨lo, hlo⟩ : ∃ lo : List UInt8, lo = [] := ⟨_, rfl⟩
            have hT5 : Has W5 bt #[sv tp, sv tr, sv lo, .slice none 0 0] 105 := by
              rw [hW5, hbte, hlo]
              have := (((Has.new wr #[.string ⟨#[]⟩, .string ⟨#[]⟩, .string ⟨#[]⟩, .slice none 0 0] 105).drewN n5).put 0 (sv tp)).put 1 (sv tr)
              simpa using this
            have K5 := HLS0.out.keep hS (((((Fr.refl (fun k => k = wr.heap.size) wr).alloc (.cells #[.string ⟨#[]⟩, .string ⟨#[]⟩, .string ⟨#[]⟩, .slice none 0 0] 105)).drewN n5).setCell (p := ⟨wr.heap.size, 0, none⟩) (.inl rfl) (sv tp)).setCell (p := ⟨wr.heap.size, 1, none⟩) (.inl rfl) (sv tr)) (fun k hk => by omega)
            rw [← hW5, ← hbte] at K5
            have LS5 : Hid (LoadS S w bm bp gs n Lm m bt W5 _ _ _) := K5
            clear K5
            have HTT : Hid (m.typeAt ty = (tp, tr)) := htt
            have HLO : Hid (m.locOf i = lo) := by show _ = _; unfold ModD.locOf; rw [if_pos hni, hlo]
            have HSZ : Hid (m.sizeOf i = 0) := by show _ = _; unfold ModD.sizeOf; rw [if_pos hni]
            rw [← hbte]
            clear hW5 htt LSX HLS0 lbp lbp1 c0 hlo hbte
            have hbt := hT5.lt
            have t0 := hT5.cell 0
            have t1 := hT5.cell 1
            have t2 := hT5.cell 2
            have t3 := hT5.cell 3
            have c4 := LS5.out.prog.funs.here.cell 4
            simp at t0 t1 t2 t3 c4
            have l4 := LS5.out.prog.funs.here.lt
            have hne := owns_ne LS5.out.prog.funs.row LS5.out.prog.funs.here (by decide)
            have hneT : (Value.slice Lp.fa i Lp.fc).ownBlock ≠ some bt := fun e => by
              have := (LS5.out.prog.ownF bt (by rw [ownBlock_any _ _ _ i Lp.fc]; exact e)).2
              omega
            have hrow := LS5.out.prog.funs.row
            simp only [List.length_map, List.length_range] at hrow hne
            refine wp_region_app rowFun 6 (by kernel_rfl) (by kernel_rfl) (fun _ _ _ _ _ h => h) _ _ _ rfl (.tmp 95) (.tmp 94) 96 97 rfl rfl rfl rfl rfl rfl _ _ _ hrow (.agg #[sv tp, sv tr, sv lo, .slice none 0 0]) rfl (by decide) (by simp [Value.cells, Value.oneCell']) (by omega) ?_
            intro gg cap w6 q1 q2 q3 q4
            have hT6 : Has w6 bt _ _ := (hT5.alloc _).fr q2 hneT
            have hH6 : Has w6 bp _ _ := (LS5.out.prog.funs.here.alloc _).fr q2 hne
            have s0 := hT6.cell 0
            have s1 := hT6.cell 1
            have s2 := hT6.cell 2
            have s3 := hT6.cell 3
            have d4 := hH6.cell 4
            have e4 := hH6.frozen 4
            simp at s0 s1 s2 s3 d4
            have l6 := hH6.lt
            have l7 := hT6.lt
            obtain ⟨m1, m2, m3, m4, m5⟩ := app_net LS5.out.prog.funs.here hne q2 q1 (by decide) q3 q4 4
            have hfd : m.funD i = { params := tp, results := tr, locals := lo } := by
              unfold ModD.funD
              rw [HTY.out, HTT.out, HLO.out]
            have fin := LS5.out.push hS hnS (m.funD i) (gg := gg) (cap := cap) (by simpa using m1) (by simpa using m2) (by rw [hfd]; simpa [funCells, Value.cells] using m3) (by simpa using m4) m5
            have e1 : (List.range i).map m.funD ++ [m.funD i] = (List.range (i + 1)).map m.funD := by rw [List.range_succ, List.map_append]; rfl
            have e2 : List.replicate i ([] : List Flat) ++ [[]] = List.replicate (i + 1) [] := List.replicate_succ'.symm
            simp only at fin
            rw [e1, e2, sizes_same n i m.sizeOf HSZ.out] at fin
            have NX : Hid _ := fin
            have N2 : Hid (∀ f, f < i + 1 → m.typOf f < (m.params.length : Int)) := by
              intro f hf
              by_cases hfi : f = i
              · subst hfi; rw [HTY.out]; omega
              · exact G2.out f (by omega)
            clear m1 m2 m3 m4 m5 fin q1 q2 q3 q4 hne hneT hrow hT6 hH6 LS5 hT5 hfd e1 e2
            simp only [List.take_succ_cons, List.take_zero]
            repeat go_big_quiet_step (fail)
            refine wpQuiet_nil ⟨rfl, rfl, by simp, rfl, ?_⟩
            go_wp2
            go_roundw
            case rel => exact ⟨i + 1, _, _, by omega, by go_num, NX, N2⟩
            case measure => simp [intOf]; omega
        · -- a defined function
          obtain ⟨j, hj⟩ : ∃ j : Nat, i = m.imports.length + j := ⟨i - m.imports.length, by omega⟩
          have hij : (i : Int) - (m.imports.length : Int) = (j : Int) := by omega
          obtain ⟨fn, hfn⟩ : ∃ fn, m.funcs[j]? = some fn := ⟨_, List.getElem?_eq_getElem (by have := HNN.out; omega)⟩
          obtain ⟨ty, lo, sz, hfa⟩ : ∃ ty lo sz, m.funcAt j = (ty, lo, sz) := ⟨_, _, _, rfl⟩
          have hI := import_any S bm Lm m i wr HLS0.out.mod (by omega)
          obtain ⟨ty0, hty0⟩ : ∃ ty0, m.importAt i = ty0 := ⟨_, rfl⟩
          rw [hty0] at hI
          have HI : Hid (Calls _ _ _ _ _) := hI
          have HTY : Hid (m.typOf i = ty) := by show _ = _; unfold ModD.typOf; rw [if_neg hni, hij, hfa]
          have HLO : Hid (m.locOf i = lo) := by show _ = _; unfold ModD.locOf; rw [if_neg hni, hij, hfa]
          have HSZ : Hid (m.sizeOf i = sz) := by show _ = _; unfold ModD.sizeOf; rw [if_neg hni, hij, hfa]
          have KX := HLS0.out.keep hS ((Fr.refl (fun _ => False) wr).alloc (.cells #[.string ⟨#[]⟩, .string ⟨#[]⟩, .string ⟨#[]⟩, .slice none 0 0] 105)) (fun _ h => h.elim)
          have hF := func_any S bm Lm m j _ KX.mod (by omega)
          rw [hfa] at hF
          simp only at hF
          have HF : Hid (Calls _ _ _ _ _) := hF
          obtain ⟨cur, hcur, hcc⟩ := owns_has HLS0.out.sz
          have gc := hcur.cell i
          rw [hcc i (by omega)] at gc
          simp [intCells, hlt] at gc
          have gf := hcur.frozen i
          have gl := hcur.lt
          have gl1 : gs < wr.heap.size + 1 := by omega
          clear hI hty0 hfn hF KX hcur hcc hj hfa
          go_wp2_with fail
          refine HI.out.mono ?_
          rintro e w4 ⟨rfl, hw4⟩
          obtain rfl := hw4.symm
          clear hw4 HI
          go_wp2_with fail
          refine HF.out.mono ?_
          rintro e w5 ⟨rfl, n4, rfl⟩
          clear HF
          obtain ⟨X2, hX2⟩ : ∃ X2, X2 = (((wr.alloc (.cells #[.string ⟨#[]⟩, .string ⟨#[]⟩, .string ⟨#[]⟩, .slice none 0 0] 105)).drewN n4).setCell ⟨wr.heap.size, 2, none⟩ (sv lo)).setCell ⟨gs, i, none⟩ (.int .i64 sz) := ⟨_, rfl⟩
          have K5 := (HLS0.out.keep hS ((((Fr.refl (fun k => k = wr.heap.size) wr).alloc (.cells #[.string ⟨#[]⟩, .string ⟨#[]⟩, .string ⟨#[]⟩, .slice none 0 0] 105)).drewN n4).setCell (p := ⟨wr.heap.size, 2, none⟩) (.inl rfl) (sv lo)) (fun k hk => by omega)).setSize hS i sz
          have T2 := (((Has.new wr #[.string ⟨#[]⟩, .string ⟨#[]⟩, .string ⟨#[]⟩, .slice none 0 0] 105).drewN n4).put 2 (sv lo)).other (p := ⟨gs, i, none⟩) (by show wr.heap.size ≠ gs; omega) (.int .i64 sz)
          rw [← hX2] at K5 T2
          obtain ⟨bt, hbte⟩ : ∃ bt, bt = wr.heap.size := ⟨_, rfl⟩
          rw [← hbte] at K5 T2
          simp at T2
          have HK5 : Hid (LoadS S w bm bp gs n Lm m bt X2 _ _ _) := K5
          have tl := T2.lt
          have u0 := T2.cell 0
          have u1 := T2.cell 1
          have uf0 := T2.frozen 0
          have uf1 := T2.frozen 1
          simp at u0 u1
          have HT2 : Hid (Has X2 bt _ _) := T2
          clear K5 T2
          by_cases hbad : (m.params.length : Int) ≤ ty
          · go_wp2
            go_ret3
            have hload : m.load = ((i : Int), -1, 5) := by
              unfold ModD.load
              rw [badSig_at m.nall 0 i (Nat.zero_le _) (by have := HN.out; omega) (fun j _ hj => G2.out j hj) (by rw [HTY.out]; exact hbad)]
            rw [hload]
            have hfr := HK5.out.fr
            rw [hX2] at hfr
            exact ⟨rfl, hfr, fun h => by simp at h⟩
          · go_wp2_with fail
            rw [← hX2, ← hbte]
            clear hX2 hbte c0 lbp lbp1 gc gf gl gl1
            refine (type_any S bm Lm m ty _ HK5.out.mod (by omega) hok.nr).mono ?_
            rintro e w5 ⟨rfl, n5, rfl⟩
            obtain ⟨tp, tr, htt⟩ : ∃ tp tr, m.typeAt ty = (tp, tr) := ⟨_, _, rfl⟩
            rw [htt]
            simp only
            go_wp2
            obtain ⟨W5, hW5⟩ : ∃ W5, W5 = ((X2.drewN n5).setCell ⟨bt, 0, none⟩ (sv tp)).setCell ⟨bt, 1, none⟩ (sv tr) := ⟨_, rfl⟩
            rw [← hW5]
            have hT5 : Has W5 bt #[sv tp, sv tr, sv lo, .slice none 0 0] 105 := by
              rw [hW5]
              have := ((HT2.out.drewN n5).put 0 (sv tp)).put 1 (sv tr)
              simpa using this
            have K5 := HK5.out.keep hS ((((Fr.refl (fun k => k = bt) X2).drewN n5).setCell (p := ⟨bt, 0, none⟩) (.inl rfl) (sv tp)).setCell (p := ⟨bt, 1, none⟩) (.inl rfl) (sv tr)) (fun k hk => by omega)
            rw [← hW5] at K5
            have LS5 : Hid (LoadS S w bm bp gs n Lm m bt W5 _ _ _) := K5
            have HTT : Hid (m.typeAt ty = (tp, tr)) := htt
            clear K5 hW5 htt HLS0 HK5 HT2 u0 u1 uf0 uf1 tl
            have hbt := hT5.lt
            have t0 := hT5.cell 0
            have t1 := hT5.cell 1
            have t2 := hT5.cell 2
            have t3 := hT5.cell 3
            have c4 := LS5.out.prog.funs.here.cell 4
            simp at t0 t1 t2 t3 c4
            have l4 := LS5.out.prog.funs.here.lt
            have hne := owns_ne LS5.out.prog.funs.row LS5.out.prog.funs.here (by decide)
            have hneT : (Value.slice Lp.fa i Lp.fc).ownBlock ≠ some bt := fun e => by
              have := (LS5.out.prog.ownF bt (by rw [ownBlock_any _ _ _ i Lp.fc]; exact e)).2
              omega
            have hrow := LS5.out.prog.funs.row
            simp only [List.length_map, List.length_range] at hrow hne
            refine wp_region_app rowFun 6 (by kernel_rfl) (by kernel_rfl) (fun _ _ _ _ _ h => h) _ _ _ rfl (.tmp 95) (.tmp 94) 96 97 rfl rfl rfl rfl rfl rfl _ _ _ hrow (.agg #[sv tp, sv tr, sv lo, .slice none 0 0]) rfl (by decide) (by simp [Value.cells, Value.oneCell']) (by omega) ?_
            intro gg cap w6 q1 q2 q3 q4
            have hT6 : Has w6 bt _ _ := (hT5.alloc _).fr q2 hneT
            have hH6 : Has w6 bp _ _ := (LS5.out.prog.funs.here.alloc _).fr q2 hne
            have s0 := hT6.cell 0
            have s1 := hT6.cell 1
            have s2 := hT6.cell 2
            have s3 := hT6.cell 3
            have d4 := hH6.cell 4
            have e4 := hH6.frozen 4
            simp at s0 s1 s2 s3 d4
            have l6 := hH6.lt
            have l7 := hT6.lt
            obtain ⟨m1, m2, m3, m4, m5⟩ := app_net LS5.out.prog.funs.here hne q2 q1 (by decide) q3 q4 4
            have hfd : m.funD i = { params := tp, results := tr, locals := lo } := by
              unfold ModD.funD
              rw [HTY.out, HTT.out, HLO.out]
            have fin := LS5.out.push hS hnS (m.funD i) (gg := gg) (cap := cap) (by simpa using m1) (by simpa using m2) (by rw [hfd]; simpa [funCells, Value.cells] using m3) (by simpa using m4) m5
            have e1 : (List.range i).map m.funD ++ [m.funD i] = (List.range (i + 1)).map m.funD := by rw [List.range_succ, List.map_append]; rfl
            have e2 : List.replicate i ([] : List Flat) ++ [[]] = List.replicate (i + 1) [] := List.replicate_succ'.symm
            simp only at fin
            rw [e1, e2, ← HSZ.out, sizes_set n i m.sizeOf] at fin
            have NX : Hid _ := fin
            have N2 : Hid (∀ f, f < i + 1 → m.typOf f < (m.params.length : Int)) := by
              intro f hf
              by_cases hfi : f = i
              · subst hfi; rw [HTY.out]; omega
              · exact G2.out f (by omega)
            clear m1 m2 m3 m4 m5 fin q1 q2 q3 q4 hne hneT hrow hT6 hH6 LS5 hT5 hfd e1 e2
            simp only [List.take_succ_cons, List.take_zero]
            repeat go_big_quiet_step (fail)
            refine wpQuiet_nil ⟨rfl, rfl, by simp, rfl, ?_⟩
            go_wp2
            go_roundw
            case rel => exact ⟨i + 1, _, _, by omega, by go_num, NX, N2⟩
            case measure => simp [intOf]; omega
      · have hie : i = n := by omega
        have K1 := HLS0.out
        rw [hie, codes_start n HN.out, sizes_full] at K1
        have e1 : (List.range n).map m.funD = m.sigs := by rw [HN.out]; rfl
        rw [e1] at K1
        have HK1 : Hid (LoadS S w bm bp gs n Lm m wr.heap.size wr _ _ _) := K1
        have HBS : Hid (m.badSig 0 m.nall = none) := badSig_none _ _ (fun j _ hj => G2.out j (by have := HN.out; omega))
        have HSL : Hid (m.sigs.length = n) := by show _ = _; rw [← e1]; simp
        have hin : m.imports.length ≤ n := by have := HNN.out; omega
        clear K1 e1 hie G2 HLS0 lbp1
        go_wp2
        go_loopw [13] (fun t wr => ∃ (i top : Nat) (Lp : ProgL), m.imports.length ≤ i ∧ i ≤ n ∧ t = .int .i64 i ∧ Hid (LoadS S w bm bp gs n Lm m top wr Lp { nimp := m.imports.length, min := m.min, max := m.max, steps := 0, funs := m.sigs, codes := (List.range n).map (fun f => if f < i then m.code f else []) } ((List.range n).map m.sizeOf)) ∧ Hid (∀ f, m.imports.length ≤ f → f < i → (m.chk f).1 = none)) (fun t _ => n - (intOf t).toNat)
        case atStart => exact ⟨m.imports.length, _, _, Nat.le_refl _, hin, rfl, HK1, fun f h1 h2 => by omega⟩
        case round =>
          obtain ⟨i, top, Lp, hni, hi, rfl, G1, G2⟩ := hrel
          obtain ⟨wB, hwB⟩ : ∃ wB, wB = wr := ⟨_, rfl⟩
          subst hwB
          have LS0 := G1.out.raise
          have c4 := LS0.prog.funs.here.cell 4
          simp at c4
          rw [HSL.out] at c4
          have lbp := LS0.prog.funs.here.lt
          have HLS0 : Hid (LoadS S w bm bp gs n Lm m wB.heap.size wB _ _ _) := LS0
          clear G1 LS0 HK1
          by_cases hlt : i < n
          · obtain ⟨j, hj⟩ : ∃ j : Nat, i = m.imports.length + j := ⟨i - m.imports.length, by omega⟩
            have hij : (i : Int) - (m.imports.length : Int) = (j : Int) := by omega
            have hjl : j < m.funcs.length := by have := HNN.out; omega
            obtain ⟨fn, hfn⟩ : ∃ fn, m.funcs[j]? = some fn := ⟨_, List.getElem?_eq_getElem hjl⟩
            have hbd : m.body i = fn.code := ModD.body_in hni (by rw [show i - m.imports.length = j by omega]; exact hfn)
            have hsz : m.sizeOf i = (fn.code.length : Int) := by unfold ModD.sizeOf; rw [if_neg (by omega), hij, ModD.funcAt_in hfn]
            have hcl := hok.fc fn (List.mem_of_getElem? hfn)
            have hat : m.sigs[i]? = some (m.funD i) := by
              unfold ModD.sigs
              rw [List.getElem?_map, List.getElem?_range (by have := HN.out; omega)]
              rfl
            obtain ⟨g, cv, hfa, hcv, _, d1, _, _⟩ := HLS0.out.prog.funs.at hat
            have hgl := owns_lt HLS0.out.prog.funs.row g (by rw [hfa]; rfl)
            rw [hfa] at c4
            have hB := hbody i hni (by have := HN.out; omega) HBS.out
            rw [hbd] at hB
            have HB : Hid (BodyOk (m.env i) fn.code) := hB
            have HBD : Hid (m.body i = fn.code) := hbd
            have HSZ : Hid (m.sizeOf i = (fn.code.length : Int)) := hsz
            have HFN : Hid (m.funcs[j]? = some fn) := hfn
            have HFA : Hid (Lp.fa = some ⟨g, 0, none⟩) := hfa
            have HAT : Hid (m.sigs[i]? = some (m.funD i)) := hat
            have HNC : Hid (Calls _ _ _ _ _) := newChecker_any wB bp g (i * 4) (m.funD i).results lbp hgl d1
            clear hB hbd hsz hfn hfa hat hcv hj d1
            go_wp2_with fail
            refine HNC.out.mono ?_
            rintro e w4 ⟨bk, on, bA, b3, L0, rfl, r1, on1, fr1⟩
            have K4 := HLS0.out.keep hS fr1 (fun _ h => h.elim)
            have HF4 : Hid (Fr (fun k => wB.heap.size ≤ k) wB w4) := fr1.weaken (fun k _ h => h.elim)
            obtain ⟨fx, hfx⟩ : ∃ fx : CkF, fx = ⟨.pointer (some ⟨bp, 0, none⟩), .pointer (some ⟨g, i * 4, none⟩), on⟩ := ⟨_, rfl⟩
            rw [← hfx] at r1
            have hfuns := K4.prog.funs
            rw [HFA.out] at hfuns
            have env1 : EnvAt wB.heap.size w4 bk fx (m.env i) bp _ _ _ _ g Lp.fc i Lp.cvs bA b3 :=
              { funs := hfuns, p := by rw [hfx], u := by rw [hfx], at_ := HAT.out, on := by rw [hfx]; exact on1, bpB := lbp, gB := hgl }
            have HR1 : Hid (CkRep wB.heap.size w4 bk fx L0 (Ck.start (m.funD i).results)) := r1
            have HEN1 : Hid (EnvAt wB.heap.size w4 bk fx (m.env i) bp _ _ _ _ g Lp.fc i Lp.cvs bA b3) := env1
            obtain ⟨cur, hcur, hcc⟩ := owns_has K4.sz
            have gc := hcur.cell i
            rw [hcc i (by omega)] at gc
            simp [intCells, hlt] at gc
            rw [HSZ.out] at gc
            have gl := hcur.lt
            clear K4 fr1 hfx r1 on1 hfuns env1 hcur hcc HNC
            go_wp2
            go_loopw [126] (fun t wr => ∃ (k : Nat) (s : Ck) (L : CkL), k ≤ fn.code.length ∧ t = .int .i64 k ∧ Hid (stateAt (m.env i) fn.code k = some s) ∧ Hid (CkRep wB.heap.size wr bk fx L s) ∧ Hid (Fr (fun j => wB.heap.size ≤ j) wB wr) ∧ Hid (EnvAt wB.heap.size wr bk fx (m.env i) bp (.int .i64 m.imports.length) (.int .i64 m.min) (.int .i64 m.max) (.int .i64 0) g Lp.fc i Lp.cvs bA b3)) (fun t _ => fn.code.length - (intOf t).toNat)
            case atStart => exact ⟨0, _, L0, Nat.zero_le _, rfl, rfl, HR1, HF4, HEN1⟩
            case round =>
              obtain ⟨k, s, L, hk, rfl, G3, G4, G5, G6⟩ := hrel
              have LSX := HLS0.out.keep hS G5.out (fun _ h => h)
              have x0 := LSX.prog.funs.here.cell 0
              simp at x0
              have lx := LSX.prog.funs.here.lt
              by_cases hkl : k < fn.code.length
              · obtain ⟨c, hc⟩ : ∃ c, fn.code[k]? = some c := ⟨_, List.getElem?_eq_getElem hkl⟩
                obtain ⟨hwell, hfit, b, r, htop, hal⟩ := HB.out k s c G3.out hc
                have hA := insAt_any S bm Lm m j k wr LSX.mod (by omega) (fun f hf => by have := hok.fc f hf; omega)
                rw [ModD.insAt_in HFN.out hc] at hA
                have HA : Hid (Calls _ _ _ _ _) := hA
                have HONE : Hid (∀ X, CkRep wB.heap.size X bk fx L s → EnvAt wB.heap.size X bk fx (m.env i) bp (.int .i64 m.imports.length) (.int .i64 m.min) (.int .i64 m.max) (.int .i64 0) g Lp.fc i Lp.cvs bA b3 → _) := fun X hX hEX => one_any wB.heap.size bk fx L s (m.env i) X hX hfit htop hEX (hok.envOk i) c hwell hal
                have HST : Hid (∀ s2, ((s.one (m.env i) c).2 = 0) → s2 = (s.one (m.env i) c).1 → stateAt (m.env i) fn.code (k + 1) = some s2) := by
                  intro s2 h0 hs2
                  simp only [stateAt, G3.out, hc]
                  rw [if_pos h0, hs2]
                have HRN : Hid ((s.one (m.env i) c).2 ≠ 0 → (m.chk i).1 = some (k, (s.one (m.env i) c).2)) := by
                  intro h0
                  unfold ModD.chk
                  rw [HBD.out, show (m.funD i).results = (m.env i).me.results from rfl, runCk_at (m.env i) fn.code k s G3.out, List.drop_eq_getElem_cons hkl, (List.getElem?_eq_some_iff.1 hc).2]
                  simp only [runCk]
                  rw [if_neg h0]
                clear hA hwell hfit htop hal LSX hc G3
                generalize s.one (m.env i) c = pp at *
                obtain ⟨s2, er⟩ := pp
                simp only at HONE HST HRN
                obtain ⟨cop, cimm, ctab⟩ := c
                simp only at HA HONE
                go_wp2_with fail
                refine HA.out.mono ?_
                rintro e w5 ⟨rfl, o, rfl⟩
                clear HA
                go_wp2_with fail
                refine (HONE.out _ ((G4.out.alloc _).alloc _) ((G6.out.alloc _).alloc _)).mono ?_
                rintro e w6 ⟨rfl, L2, q1, q2⟩
                have F6 : Hid (Fr (fun j => wB.heap.size ≤ j) wB w6) := by
                  have f1 : Fr (fun j => wB.heap.size ≤ j) wB ((wr.alloc o).alloc (.cells #[.int .i64 cop, .int .i64 cimm, sv ctab] 67)) := (G5.out.alloc _).alloc _
                  exact f1.trans q2.fr (fun j hj hS => G4.out.ge hS)
                have E6 : Hid (EnvAt wB.heap.size w6 bk fx (m.env i) bp (.int .i64 m.imports.length) (.int .i64 m.min) (.int .i64 m.max) (.int .i64 0) g Lp.fc i Lp.cvs bA b3) := ((G6.out.alloc _).alloc _).step ((G4.out.alloc _).alloc _) q2
                have R6 : Hid (CkRep wB.heap.size w6 bk fx L2 s2) := q1
                clear q1 q2 G4 G5 G6 HONE
                by_cases her : er = 0
                · subst her
                  have N0 : Hid (stateAt (m.env i) fn.code (k + 1) = some s2) := HST.out s2 rfl rfl
                  clear HST HRN
                  go_wp2
                  go_roundw
                  case rel => exact ⟨k + 1, s2, L2, by omega, by go_num, N0, R6, F6, E6⟩
                  case measure => simp [intOf]; omega
                · have her1 : (er != 0) = true := by rw [bne_iff_ne]; exact her
                  go_wp2
                  go_ret3
                  have hload : m.load = ((i : Int), (k : Int), er) := by
                    unfold ModD.load
                    rw [HBS.out]
                    simp only
                    rw [badBody_at m.funcs.length m.imports.length i k er hni (by have := HNN.out; omega) (fun f h1 h2 => G2.out f h1 h2) (HRN.out her)]
                  rw [hload]
                  exact ⟨rfl, (HLS0.out.keep hS F6.out (fun _ h => h)).fr, fun h => absurd h her⟩
              · -- the body is through
                have hke : k = fn.code.length := by omega
                have hchk : m.chk i = (none, s) := by
                  unfold ModD.chk
                  rw [HBD.out, show (m.funD i).results = (m.env i).me.results from rfl, runCk_at (m.env i) fn.code k s G3.out, hke, List.drop_length]
                  rfl
                have LSR := LSX.raise
                have hsl : i < m.sigs.length := by rw [HSL.out]; exact hlt
                have hmc : m.code i = s.code := by unfold ModD.code; rw [if_neg (by omega), hchk]
                have fin0 := LSR.setCode hS hnS i g s.code (.slice L.ca s.code.length L.cc) hsl HFA.out G4.out.code (fun k hk => by
                  have h1 := G4.out.baseC k hk
                  have h2 := owns_lt G4.out.code k hk
                  have h3 := HLS0.out.w0T
                  exact ⟨by omega, h2⟩)
                have fin := fin0.keep hS ((Fr.refl (fun _ => False) (wr.setCell ⟨g, i * 4 + 3, none⟩ (.slice L.ca s.code.length L.cc))).drew) (fun _ h => h.elim)
                simp only at fin
                have e9 : ((List.range n).map (fun f => if f < i then m.code f else [])).set i s.code = (List.range n).map (fun f => if f < i + 1 then m.code f else []) := by rw [← hmc]; exact codes_set n i m.code hlt
                rw [e9] at fin
                have NX : Hid _ := fin
                have N2 : Hid (∀ f, m.imports.length ≤ f → f < i + 1 → (m.chk f).1 = none) := by
                  intro f h1 h2
                  by_cases hfi : f = i
                  · subst hfi; rw [hchk]
                  · exact G2.out f h1 (by omega)
                have x4 := LSX.prog.funs.here.cell 4
                have y4 := G4.out.here.cell 4
                simp at x4 y4
                rw [HSL.out, HFA.out] at x4
                have ly := G4.out.here.lt
                have hrow := LSX.prog.funs.row
                rw [HFA.out] at hrow
                obtain ⟨cur2, hcur2, hcc2⟩ := owns_has hrow
                have z3 := hcur2.cell (i * 4 + 3)
                have hz3 : ∃ v3, cur2[i * 4 + 3]? = some v3 := by
                  obtain ⟨g', cv', hg', _, _, _, _, d3⟩ := LSX.prog.funs.at HAT.out
                  rw [HFA.out] at hg'
                  simp at hg'
                  subst hg'
                  rw [hcur2.cell] at d3
                  exact ⟨_, d3⟩
                obtain ⟨v3, hv3⟩ := hz3
                rw [hv3] at z3
                have zf := hcur2.frozen (i * 4 + 3)
                have zl := hcur2.lt
                clear fin fin0 e9 hrow hcur2 hcc2 hv3 hchk LSR LSX hmc G3 G4 G5 G6 hsl HB HR1 HF4 HEN1
                go_wp2
                refine wp_region_tail 9 (by kernel_rfl) (by kernel_rfl) (fun _ _ _ _ _ h => h) ?_
                simp only [List.take_succ_cons, List.take_zero, List.drop_succ_cons, List.drop_zero]
                repeat go_big_quiet_step (fail)
                refine wpQuiet_nil ?_
                go_wp2
                go_roundw
                case rel => exact ⟨i + 1, _, _, by omega, by omega, by go_num, NX, N2⟩
                case measure => simp [intOf]; omega
          · -- all bodies are through
            have hie : i = n := by omega
            have K1 := HLS0.out.prog
            rw [hie, codes_full] at K1
            have FR := HLS0.out.fr
            have hload : m.load = (0, 0, 0) := by
              unfold ModD.load
              rw [HBS.out]
              simp only
              rw [badBody_none _ _ (fun f h1 h2 => G2.out f h1 (by have := HNN.out; omega))]
            have HK1 : Hid (ProgRep _ wB bp _ _) := K1.sub (fun k _ hk => hk.1)
            have HFR : Hid (Fr _ w wB) := FR
            have HLD : Hid (m.load = (0, 0, 0)) := hload
            clear K1 FR hload HLS0
            go_wp2
            go_ret3
            rw [HLD.out]
            refine ⟨rfl, HFR.out, fun _ => ⟨Lp, ?_⟩⟩
            rw [← HN.out]
            exact HK1.out
end Go.Proofs.Qxb6500575aGreatDoor
