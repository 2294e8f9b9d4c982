/-
  THE WALK of co: run.
-/
import Derived.Test.Qxb6500574aGreatDoorVCo3
namespace Go.Proofs.Qxb6500574aGreatDoor
open Go Go.RowKit
set_option linter.unusedVariables false
set_option linter.unusedSimpArgs false
section
variable {bc : Nat}
set_option maxRecDepth 100000
set_option maxHeartbeats 2000000
theorem coRun_any {N : Nat} (IH : ∀ k, k < N → CoW bc k) : CoW bc N := by
  intro w A m f i s dp t a b K r R S fu hi hst va vb hco hoc hd1 hd2 hbs hrun
  have il : i < m.ths.length := (List.getElem?_eq_some_iff.1 hi).1
  have hi5 : i < 5 := by have := R.len5; omega
  have c2 := hco.cell 2
  have z2 := hco.frozen 2
  have cl := hco.lt
  simp only [List.getElem?_toArray, List.getElem?_cons_succ, List.getElem?_cons_zero] at c2
  obtain ⟨at0, an0, as0⟩ := a
  obtain ⟨bt0, bn0, bs0⟩ := b
  obtain ⟨W0, HW0⟩ : ∃ W, Hid ((((w.alloc (.cells #[.int .i64 at0, .int .u64 an0, sv as0] 68)).alloc (.cells #[.int .i64 bt0, .int .u64 bn0, sv bs0] 68)).alloc (.cells (bkCells bk0) 128)).setCell ⟨bc, 2, none⟩ (.int .i64 (wrap64 (dp + 1))) = W) := ⟨_, Eq.refl _⟩
  obtain ⟨ba, HBA⟩ : ∃ b, Hid (w.heap.size = b) := ⟨_, rfl⟩
  obtain ⟨bb, HBB⟩ : ∃ b, Hid (w.heap.size + 1 = b) := ⟨_, rfl⟩
  obtain ⟨br, HBR⟩ : ∃ b, Hid (w.heap.size + 1 + 1 = b) := ⟨_, rfl⟩
  have cl1 : bc < w.heap.size + 1 := by omega
  have cl2 : bc < w.heap.size + 1 + 1 := by omega
  have FA : Fr (fun _ => False) w (((w.alloc (.cells #[.int .i64 at0, .int .u64 an0, sv as0] 68)).alloc (.cells #[.int .i64 bt0, .int .u64 bn0, sv bs0] 68)).alloc (.cells (bkCells bk0) 128)) := (((Fr.refl _ _).alloc _).alloc _).alloc _
  have HI0 : Hid (CI bc i ba bb br dp w A f r N W0 A m f s t ⟨at0, an0, as0⟩ ⟨bt0, bn0, bs0⟩ K) := by
    have hh1 := hco.fr FA (fun x => x)
    have hh2 := hh1.put 2 (.int .i64 (wrap64 (dp + 1)))
    simp only [List.setIfInBounds_toArray, List.set_cons_succ, List.set_cons_zero] at hh2
    have g1 := HBA.out
    have g2 := HBB.out
    have g3 := HBR.out
    have z1 : Stp (fun l => l = 0) _ A.o _ A.o := (Stp.refl _ (((w.alloc (.cells #[.int .i64 at0, .int .u64 an0, sv as0] 68)).alloc (.cells #[.int .i64 bt0, .int .u64 bn0, sv bs0] 68)).alloc (.cells (bkCells bk0) 128)) A.o).setCell (p := ⟨bc, 2, none⟩) hoc (.int .i64 (wrap64 (dp + 1)))
    have ha : Has _ ba #[.int .i64 at0, .int .u64 an0, sv as0] 68 := (((Has.newC w _ _ HBA.out.symm).alloc (.cells #[.int .i64 bt0, .int .u64 bn0, sv bs0] 68)).alloc (.cells (bkCells bk0) 128)).other (p := ⟨bc, 2, none⟩) (by show ba ≠ bc; omega) (.int .i64 (wrap64 (dp + 1)))
    have hb : Has _ bb #[.int .i64 bt0, .int .u64 bn0, sv bs0] 68 := ((Has.newC (w.alloc (.cells #[.int .i64 at0, .int .u64 an0, sv as0] 68)) _ _ (by simp; omega)).alloc (.cells (bkCells bk0) 128)).other (p := ⟨bc, 2, none⟩) (by show bb ≠ bc; omega) (.int .i64 (wrap64 (dp + 1)))
    have hr : Has _ br (bkCells bk0) 128 := (Has.newC ((w.alloc (.cells #[.int .i64 at0, .int .u64 an0, sv as0] 68)).alloc (.cells #[.int .i64 bt0, .int .u64 bn0, sv bs0] 68)) _ _ (by simp; omega)).other (p := ⟨bc, 2, none⟩) (by show br ≠ bc; omega) (.int .i64 (wrap64 (dp + 1)))
    rw [HW0.out] at hh2 ha hb hr
    have R0 := (R.fresh FA).zero z1
    have C0 := (CSt.fresh (bc := bc) (A := A) FA).set (p := ⟨bc, 2, none⟩) (.inl rfl) (.int .i64 (wrap64 (dp + 1)))
    rw [HW0.out] at R0 C0
    exact ⟨R0, S, Nat.le_refl _, hi, hst, va, vb, hh2, hoc, ha, hb, hr, R.own _ (by omega), R.own _ (by omega), R.own _ (by omega), hbs, hrun, C0⟩
  have e0 : (((w.alloc (.cells #[.int .i64 at0, .int .u64 an0, sv as0] 68)).alloc (.cells #[.int .i64 bt0, .int .u64 bn0, sv bs0] 68)).alloc (.cells #[.int .i64 0, .int .i64 0, .int .u64 0, sv [], .int .i64 0] 128)).setCell ⟨bc, 2, none⟩ (.int .i64 (wrap64 (dp + 1))) = W0 := HW0.out
  have hbrw : w.heap.size ≤ br := by rw [← HBR.out]; omega
  have nba : ba ≠ bc ∧ bb ≠ bc ∧ br ≠ bc := by
    have := HBA.out
    have := HBB.out
    have := HBR.out
    omega
  have HIH : Hid (∀ k, k < N → CoW bc k) := IH
  have nab : ba ≠ bb ∧ ba ≠ br ∧ bb ≠ br := by
    have := HBA.out
    have := HBB.out
    have := HBR.out
    omega
  clear R S hi hst va vb hco hbs hrun FA IH HW0
  go_enter Tryz.func55, Tryz.ntmps55
  go_wp2_with fail
  rw [HBR.out, HBB.out, HBA.out]
  clear e0 c2 z2 cl cl1 cl2 hoc il
  go_loopg [] N (fun n wr => ∃ (Ak : VL) (m : VMD) (f' s : Nat) (t : ThD) (a b : Vl) (K : Cx), n ≤ N ∧ Hid (CI bc i ba bb br dp w A f r n wr Ak m f' s t a b K))
  case atStart => exact ⟨A, m, f, s, t, _, _, K, Nat.le_refl _, HI0.out⟩
  case round =>
    clear HI0
    obtain ⟨Ak, m', f', s', t', a', b', K', hgn, HI⟩ := hrel
    cases gk with
    | zero => exact absurd HI.out.run (by simp [coP])
    | succ k =>
      obtain ⟨ev, f1, m1, HRD, HCS⟩ : ∃ ev f1 m1, Hid (roundsP k f' (startP m' i a' b') i = some (ev, f1, m1)) ∧ Hid ((if ev.k = 4 then
          match coP k ev.th ev.v nilV f1 m1 (if (m1.th ev.th).st = 1 then s' + 1 else s') with
          | none => none
          | some (r, fu2, m2, s2) => if r.how = 3 then some (r, fu2, m2, s2) else coP k i (boolV (r.how = 1)) r.v fu2 m2 s2
        else if ev.k = 3 ∨ ev.k = 1 then some (⟨1, ev.v, 0⟩, f1, m1, s')
        else if ev.k = 2 then some (⟨2, ev.v, 0⟩, f1, m1, s')
        else if ev.k = 5 then some (⟨3, nilV, ev.e⟩, f1, m1, s')
        else some (⟨3, nilV, 21⟩, f1, m1, s')) = some r) := by
        have h := HI.out.run
        unfold coP at h
        split at h
        · cases h
        · rename_i ev f1 m1 he
          exact ⟨ev, f1, m1, he, h⟩
      obtain ⟨K1, CS⟩ := co_step HI.out.slp HI.out.hi HI.out.st HI.out.va HI.out.vb HRD.out
      dsimp only at CS
      have HCO : Hid (CoStep K' m' i t' f' ev f1 m1 K1) := CS
      have hk1 := CS.k1
      have hk5 := CS.k5
      clear CS
      have EX : Hid (∀ w0, Fr (fun _ => False) wr w0 → Calls Tryz.prog 84 #[.pointer (some ⟨A.b, 0, none⟩), .int .i64 i, a'.val, b'.val] w0 fun e' w' => e' = .returned ev.val ∧ ∃ A5 m9 e9, VRep w' A5 m9 f1 e9 ∧ TrapM m9 e9 (ev, f1, m1) ∧ (ev.k ≠ 5 → m9 = m1 ∧ e9 = 0) ∧ VSt isVM w0 Ak w' A5) := fun w0 hw => HI.out.ex fu HRD.out hw
      have lc := HI.out.co.lt
      have la := HI.out.ha.lt
      have lb := HI.out.hb.lt
      have lr := HI.out.hr.lt
      have hrd0 : RdP bc ba bb A.b a' b' wr := ⟨HI.out.co.cell 0, ⟨HI.out.ha.cell 0, HI.out.ha.cell 1, HI.out.ha.cell 2⟩, ⟨HI.out.hb.cell 0, HI.out.hb.cell 1, HI.out.hb.cell 2⟩⟩
      obtain ⟨at1, an1, as1⟩ := a'
      obtain ⟨bt1, bn1, bs1⟩ := b'
      obtain ⟨PW, HPW⟩ : ∃ P, Hid (RdP bc ba bb A.b ⟨at1, an1, as1⟩ ⟨bt1, bn1, bs1⟩ = P) := ⟨_, rfl⟩
      have o9 : Hid (∀ q, PW q → RdP bc ba bb A.b ⟨at1, an1, as1⟩ ⟨bt1, bn1, bs1⟩ q) := by
        intro q h
        rw [HPW.out]
        exact h
      have i9 : Hid (∀ q, RdP bc ba bb A.b ⟨at1, an1, as1⟩ ⟨bt1, bn1, bs1⟩ q → PW q) := by
        intro q h
        rw [← HPW.out]
        exact h
      clear HPW
      have k0 : ∀ s : WC PW, s.y.cell? ⟨bc, 0, none⟩ = some (.pointer (some ⟨A.b, 0, none⟩)) := fun s => (o9.out s.y s.f).1
      have k1 : ∀ s : WC PW, s.y.cell? ⟨ba, 0, none⟩ = some (.int .i64 at1) := fun s => (o9.out s.y s.f).2.1.1
      have k2 : ∀ s : WC PW, s.y.cell? ⟨ba, 1, none⟩ = some (.int .u64 an1) := fun s => (o9.out s.y s.f).2.1.2.1
      have k3 : ∀ s : WC PW, s.y.cell? ⟨ba, 2, none⟩ = some (sv as1) := fun s => (o9.out s.y s.f).2.1.2.2
      have k4 : ∀ s : WC PW, s.y.cell? ⟨bb, 0, none⟩ = some (.int .i64 bt1) := fun s => (o9.out s.y s.f).2.2.1
      have k5 : ∀ s : WC PW, s.y.cell? ⟨bb, 1, none⟩ = some (.int .u64 bn1) := fun s => (o9.out s.y s.f).2.2.2.1
      have k6 : ∀ s : WC PW, s.y.cell? ⟨bb, 2, none⟩ = some (sv bs1) := fun s => (o9.out s.y s.f).2.2.2.2
      have HNE : Nonempty (WC PW) := WC.non (i9.out wr hrd0)
      go_wp2_with fail
      refine wp_region_plan [0, 1, 2, 3, 4, 5, 6] (.two 7 (.one 8 .done) 8 (.one 7 .done)) 9 (fun x => ∃ s : WC PW, x = s.y) (by kernel_rfl) (by kernel_rfl) (fun _ _ _ _ _ h => h) ⟨⟨wr.drew, i9.out _ hrd0⟩, rfl⟩ [_, _, _, _, _, _, _] rfl _ rfl ?_
      simp only [List.getElem_toArray, List.getElem_cons_succ, List.getElem_cons_zero, List.drop_succ_cons, List.drop_zero, List.length_cons, List.length_nil, Nat.zero_add]
      repeat go_big_quiet_step (fail)
      refine wpQuiet_nil ?_
      clear k0 k1 k2 k3 k4 k5 k6 HNE
      obtain ⟨ek, eth, ee, ⟨vt, vn, vs⟩, ⟨wt, wn, ws⟩⟩ := ev
      dsimp only at hk1 hk5
      refine ⟨fun a' a W => ∃ B A5 m9 e9, a = (a'.put (some 26) (EvD.val ⟨ek, eth, ee, ⟨vt, vn, vs⟩, ⟨wt, wn, ws⟩⟩)).put (some 9) (.pointer (some ⟨B, 0, none⟩)) ∧ AfEx bc ba bb br A.b s' dp wr Ak ⟨at1, an1, as1⟩ ⟨bt1, bn1, bs1⟩ ⟨ek, eth, ee, ⟨vt, vn, vs⟩, ⟨wt, wn, ws⟩⟩ f1 m1 B W A5 m9 e9 ev0, ?_, ?_⟩
      · rintro a W hSW ⟨B, A5, m9, e9, rfl, AF0⟩
        clear hSW
        simp only [Act.put, List.setIfInBounds_toArray, List.set_cons_succ, List.set_cons_zero]
        have AF1 := AF0.put lc la lb lr ⟨ek, eth, ee, ⟨vt, vn, vs⟩, ⟨wt, wn, ws⟩⟩
        have HAF : Hid (AfEx bc ba bb br A.b s' dp wr Ak ⟨at1, an1, as1⟩ ⟨bt1, bn1, bs1⟩ ⟨ek, eth, ee, ⟨vt, vn, vs⟩, ⟨wt, wn, ws⟩⟩ f1 m1 B (set9 W B ⟨ek, eth, ee, ⟨vt, vn, vs⟩, ⟨wt, wn, ws⟩⟩) A5 m9 e9 ⟨ek, eth, ee, ⟨vt, vn, vs⟩, ⟨wt, wn, ws⟩⟩) := AF1
        obtain ⟨x0, x1, x2, x3, x4, x5, x6, x7, x8⟩ := AF0.hB.ev
        dsimp only [ev0, nilV] at x0 x1 x2 x3 x4 x5 x6 x7 x8
        have hz := AF0.hB.frozen
        have hz0 := hz 0
        have hz1 := hz 1
        have hz2 := hz 2
        have hz3 := hz 3
        have hz4 := hz 4
        have hz5 := hz 5
        have hz6 := hz 6
        have hz7 := hz 7
        have hz8 := hz 8
        have hbl := AF0.hB.lt
        have HRD2 : Hid (PW (set9 W B ⟨ek, eth, ee, ⟨vt, vn, vs⟩, ⟨wt, wn, ws⟩⟩)) := i9.out _ AF1.rd
        clear AF0 AF1 hz EX i9 o9
        unfold wpChain
        go_wp2_with fail
        refine ⟨⟨⟨_, HRD2.out⟩, rfl⟩, ?_⟩
        rw [wpChain_zero]
        clear x0 x1 x2 x3 x4 x5 x6 x7 x8 hz0 hz1 hz2 hz3 hz4 hz5 hz6 hz7 hz8 hbl HRD2
        obtain ⟨W1, HW1⟩ : ∃ W1, Hid (set9 W B ⟨ek, eth, ee, ⟨vt, vn, vs⟩, ⟨wt, wn, ws⟩⟩ = W1) := ⟨_, rfl⟩
        rw [HW1.out] at HAF
        have eW : set9 W B ⟨ek, eth, ee, ⟨vt, vn, vs⟩, ⟨wt, wn, ws⟩⟩ = W1 := HW1.out
        unfold set9 at eW
        dsimp only at eW
        rw [eW]
        clear eW HW1 W
        obtain ⟨y0, y1, y2, y3, y4, y5, y6, y7, y8⟩ := HAF.out.hB.ev
        dsimp only at y0 y1 y2 y3 y4 y5
        have yl := HAF.out.hB.lt
        have c0 := HAF.out.co.1.cell 0
        have c1 := HAF.out.co.1.cell 1
        have c2 := HAF.out.co.1.cell 2
        have z1 := HAF.out.co.1.frozen 1
        have z2 := HAF.out.co.1.frozen 2
        have cl := HAF.out.co.1.lt
        simp only [List.getElem?_toArray, List.getElem?_cons_succ, List.getElem?_cons_zero] at c0 c1 c2
        obtain ⟨d1, HD1⟩ : ∃ d1, Hid (wrap64 (dp + 1) = d1) := ⟨_, rfl⟩
        rw [HD1.out] at c2
        obtain ⟨b0, b1, b2, b3, b4⟩ := HAF.out.hr.1.bk
        dsimp only [bk0, nilV] at b0 b1 b2 b3 b4
        have bz := HAF.out.hr.1.frozen
        have bz0 := bz 0
        have bz1 := bz 1
        have bz2 := bz 2
        have bz3 := bz 3
        have bz4 := bz 4
        have bl := HAF.out.hr.1.lt
        clear bz y6 y7 y8
        have nbr := nba.2.2
        have nBc : B ≠ bc := by have := HAF.out.nB; omega
        by_cases h4 : ek = 4
        · have HC4 : Hid ((match coP k eth ⟨vt, vn, vs⟩ nilV f1 m1 (if (m1.th eth).st = 1 then s' + 1 else s') with
            | none => none
            | some (r, fu2, m2, s2) => if r.how = 3 then some (r, fu2, m2, s2) else coP k i (boolV (r.how = 1)) r.v fu2 m2 s2) = some r) := by
            have h := HCS.out
            rw [if_pos h4] at h
            exact h
          clear HCS
          subst h4
          have hnr := HCO.out.r4 rfl
          obtain ⟨hlt4, ⟨t2, ht2, hs3⟩, hne, u, hu, hus0⟩ := hnr
          dsimp only at hu hne
          have HU : Hid (m1.ths[eth]? = some u) := hu
          have HT2 : Hid (m1.ths[i]? = some t2 ∧ t2.st = 3 ∧ eth ≠ i) := ⟨ht2, hs3, hne⟩
          have hbsy := HCO.out.bs
          have HBS : Hid (s' ≤ busy m1 ∧ busy m1 ≤ 5) := ⟨by have := HI.out.bs; omega, busy_le (HCO.out.slp (by simp)).1.vi⟩
          have hs7 : s' ≤ 5 := by have := HBS.out; omega
          have AR0 := HAF.out.toR (by simp) HI.out.cst.b
          rw [HD1.out] at AR0
          have AR1 := AR0.fresh ((Fr.refl _ W1).drew)
          have ST := status_any AR1.rep hu
          rw [AR1.b5] at ST
          have HAR1 : Hid (AfR bc ba bb br A.b s' d1 wr Ak ⟨at1, an1, as1⟩ ⟨bt1, bn1, bs1⟩ ⟨4, eth, ee, ⟨vt, vn, vs⟩, ⟨wt, wn, ws⟩⟩ f1 m1 B W1.drew A5) := AR1
          clear AR0 AR1 hu ht2 hs3 hlt4 hbsy
          go_wp2_with fail
          refine wp_region_tail 6 (by kernel_rfl) (by kernel_rfl) (fun _ _ _ _ _ h => h) ?_
          simp only [List.take_succ_cons, List.take_zero, List.drop_succ_cons, List.drop_zero]
          repeat go_big_quiet_step (fail)
          refine wpQuiet_nil ?_
          go_wp2_with fail
          refine ST.mono ?_
          rintro e' w2 ⟨rfl, rfl⟩
          clear ST
          rcases hus0 with hus | hus
          · rw [hus]
            have HAR2 : Hid (AfR bc ba bb br A.b (s' + 1) d1 wr Ak ⟨at1, an1, as1⟩ ⟨bt1, bn1, bs1⟩ ⟨4, eth, ee, ⟨vt, vn, vs⟩, ⟨wt, wn, ws⟩⟩ f1 m1 B (W1.drew.setCell ⟨bc, 1, none⟩ (.int .i64 ((s' + 1 : Nat) : Int))) A5) := HAR1.out.started nba.1 nba.2.1 nba.2.2 nBc
            obtain ⟨W2, HW2⟩ : ∃ W2, Hid (W1.drew.setCell ⟨bc, 1, none⟩ (.int .i64 ((s' + 1 : Nat) : Int)) = W2) := ⟨_, rfl⟩
            rw [HW2.out] at HAR2
            have e2 : W1.drew.setCell ⟨bc, 1, none⟩ (.int .i64 ((s' : Int) + 1)) = W2 := by rw [← HW2.out]; rfl
            clear HAR1 HW2
            have hs2 : (s' + 1) ≤ 7 := by omega
            obtain ⟨rb, fu2, m2, s2, HC2, HCR⟩ : ∃ rb fu2 m2 s2, Hid (coP k eth ⟨vt, vn, vs⟩ nilV f1 m1 (s' + 1) = some (rb, fu2, m2, s2)) ∧ Hid ((if rb.how = 3 then some (rb, fu2, m2, s2) else coP k i (boolV (rb.how = 1)) rb.v fu2 m2 s2) = some r) := by
              have h := HC4.out
              rw [th_get HU.out, hus, if_pos rfl] at h
              split at h
              · cases h
              · rename_i rb fu2 m2 s2 he
                exact ⟨rb, fu2, m2, s2, he, h⟩
            have hdd := wrap_in (dp + 1)
            rw [HD1.out] at hdd
            have SL := HCO.out.slp (by simp)
            have fl : f1 < 9223372036854775808 := by have := HCO.out.ful; have := HI.out.fu; omega
            have REC := HAR2.out.rec' nba.1 nba.2.1 nba.2.2 (HIH.out k (by omega)) SL.1 SL.2 fl HU.out (by omega) hdd.1 hdd.2 (by have := HBS.out; simp [hus]; try omega) HC2.out
            have CP := co_post SL.1 HU.out (by omega) SL.2 (VOk.nil K1) HC2.out
            have HCP : Hid (CoPost K1 m1 eth (s' + 1) (rb, fu2, m2, s2)) := CP
            have hhw := CP.hw
            have hfl := coP_fall HC2.out
            dsimp only at hhw hfl
            obtain ⟨v0, v1, v2, v3, v4, v5, _, _, _⟩ := HAR2.out.hB.ev
            dsimp only at v0 v1 v2 v3 v4 v5
            have vl := HAR2.out.hB.lt
            have HREC : Hid (Calls Tryz.prog 55 #[.pointer (some ⟨bc, 0, none⟩), .int .i64 eth, .agg #[.int .i64 vt, .int .u64 vn, sv vs], .agg #[.int .i64 0, .int .u64 0, sv []]] W2 fun e' w6 => e' = .returned (.agg (bkCells rb)) ∧ ∃ A6 m6 e6, AfC bc ba bb br A.b d1 wr Ak ⟨at1, an1, as1⟩ ⟨bt1, bn1, bs1⟩ rb fu2 m2 s2 w6 A6 m6 e6) := REC
            clear REC CP SL HAR2 HC4 HRD b0 b1 b2 b3 b4 bz0 bz1 bz2 bz3 bz4 bl HC2
            go_wp2_with fail
            refine HREC.out.mono ?_
            rintro e' w6 ⟨rfl, A6, m6, e6, AC⟩
            clear HREC v0 v1 v2 v3 v4 v5 vl y0 y1 y2 y3 y4 y5 yl c0 c1 c2 z1 z2 cl e2
            obtain ⟨rh, ⟨rvt, rvn, rvs⟩, re⟩ := rb
            dsimp only at hhw
            have AC1 := AC.fresh ((Fr.refl _ w6).alloc (.cells #[.int .i64 rh, .int .i64 rvt, .int .u64 rvn, sv rvs, .int .i64 re] 128))
            obtain ⟨W7, HW7⟩ : ∃ W7, Hid (w6.alloc (.cells #[.int .i64 rh, .int .i64 rvt, .int .u64 rvn, sv rvs, .int .i64 re] 128) = W7) := ⟨_, Eq.refl _⟩
            rw [HW7.out] at AC1
            have hC : Has W7 w6.heap.size #[.int .i64 rh, .int .i64 rvt, .int .u64 rvn, sv rvs, .int .i64 re] 128 := by rw [← HW7.out]; exact Has.new _ _ _
            have e7 : w6.alloc (.cells #[.int .i64 rh, .int .i64 rvt, .int .u64 rvn, sv rvs, .int .i64 re] 128) = W7 := HW7.out
            obtain ⟨CC, hcc⟩ : ∃ CC, w6.heap.size = CC := ⟨_, rfl⟩
            have HCC : Hid (w6.heap.size = CC) := hcc
            rw [hcc] at hC
            have ltc := AC.co.1.lt
            have ltr := AC.hr.1.lt
            have lta := AC.ha.1.lt
            have ltb := AC.hb.1.lt
            have nCC : CC ≠ bc ∧ CC ≠ br ∧ CC ≠ ba ∧ CC ≠ bb := by have := HCC.out; omega
            have HAC : Hid (AfC bc ba bb br A.b d1 wr Ak ⟨at1, an1, as1⟩ ⟨bt1, bn1, bs1⟩ ⟨rh, ⟨rvt, rvn, rvs⟩, re⟩ fu2 m2 s2 W7 A6 m6 e6) := AC1
            obtain ⟨q0, q1, q2, q3, q4⟩ := Has.bk (x := ⟨rh, ⟨rvt, rvn, rvs⟩, re⟩) hC
            dsimp only at q0 q1 q2 q3 q4
            have ql := hC.lt
            have c2 := AC1.co.1.cell 2
            have z2 := AC1.co.1.frozen 2
            have cl := AC1.co.1.lt
            simp only [List.getElem?_toArray, List.getElem?_cons_succ, List.getElem?_cons_zero] at c2
            obtain ⟨b0, b1, b2, b3, b4⟩ := AC1.hr.1.bk
            dsimp only [bk0, nilV] at b0 b1 b2 b3 b4
            have bz := AC1.hr.1.frozen
            have bz0 := bz 0
            have bz1 := bz 1
            have bz2 := bz 2
            have bz3 := bz 3
            have bz4 := bz 4
            have bl := AC1.hr.1.lt
            obtain ⟨a0, a1, a2⟩ := Has.cells3 (v := ⟨at1, an1, as1⟩) AC1.ha.1
            obtain ⟨az0, az1, az2⟩ := AC1.ha.1.frz3
            obtain ⟨g0, g1, g2⟩ := Has.cells3 (v := ⟨bt1, bn1, bs1⟩) AC1.hb.1
            obtain ⟨gz0, gz1, gz2⟩ := AC1.hb.1.frz3
            have al := AC1.ha.1.lt
            have gl := AC1.hb.1.lt
            dsimp only at a0 a1 a2 g0 g1 g2
            clear AC AC1 hC bz ltc ltr lta ltb
            by_cases h3 : rh = 3
            · have h3' : ((rh : Int) == 3) = true := by simp [h3]
              have HR : Hid (r = (⟨rh, ⟨rvt, rvn, rvs⟩, re⟩, fu2, m2, s2)) := by
                have h := HCR.out
                rw [if_pos h3] at h
                exact (Option.some.inj h).symm
              have HF : Hid (CoRP bc dp w A r (.returned (.agg #[.int .i64 rh, .int .i64 rvt, .int .u64 rvn, sv rvs, .int .i64 re])) ((((((W7.setCell ⟨bc, 2, none⟩ (.int .i64 (wrap64 (d1 - 1)))).setCell ⟨br, 0, none⟩ (.int .i64 rh)).setCell ⟨br, 1, none⟩ (.int .i64 rvt)).setCell ⟨br, 2, none⟩ (.int .u64 rvn)).setCell ⟨br, 3, none⟩ (sv rvs)).setCell ⟨br, 4, none⟩ (.int .i64 re)) ∧ Has ((((((W7.setCell ⟨bc, 2, none⟩ (.int .i64 (wrap64 (d1 - 1)))).setCell ⟨br, 0, none⟩ (.int .i64 rh)).setCell ⟨br, 1, none⟩ (.int .i64 rvt)).setCell ⟨br, 2, none⟩ (.int .u64 rvn)).setCell ⟨br, 3, none⟩ (sv rvs)).setCell ⟨br, 4, none⟩ (.int .i64 re)) br #[.int .i64 rh, .int .i64 rvt, .int .u64 rvn, sv rvs, .int .i64 re] 128) := by
                rw [← HD1.out]
                have hc := HAC.out.co.1
                rw [← HD1.out] at hc
                exact HI.out.fin hd1 hd2 hbrw HAC.out.rep HAC.out.cst hc HAC.out.co.2 HAC.out.hr.1 HAC.out.hr.2 HAC.out.out (rb := ⟨rh, ⟨rvt, rvn, rvs⟩, re⟩) (fun h => absurd h3 h) HR.out
              clear h3 HCR HI HCO HAF HIH HD1 HAC HCP a0 a1 a2 az0 az1 az2 g0 g1 g2 gz0 gz1 gz2 al gl
              obtain ⟨nC1, nC2, _, _⟩ := nCC
              go_wp2_with fail
              exact bodyPost_ret (res_cell isBack rfl rfl HF.out.2 rfl) rfl HF.out.1
            · have h3' : ((rh : Int) == 3) = false := by rw [beq_eq_false_iff_ne]; omega
              by_cases h12 : rh = 1
              · have hdec : decide (rh = 1) = true := by simp [h12]
                have h1' : ((rh : Int) == 1) = true := by simp [h12]
                have HR : Hid (coP k i (boolV true) ⟨rvt, rvn, rvs⟩ fu2 m2 s2 = some r) := by
                  have h := HCR.out
                  rw [if_neg h3] at h
                  dsimp only at h
                  rw [hdec] at h
                  exact h
                have HNX : Hid (∀ w8, Fr (fun _ => False) W7 w8 → ∃ t9 K9, CI bc i ba bb br dp w A f r k (set3 (set3 w8 ba (boolV true)) bb ⟨rvt, rvn, rvs⟩) A6 m2 fu2 s2 t9 (boolV true) ⟨rvt, rvn, rvs⟩ K9) := by
                  intro w8 f8
                  obtain ⟨K2, _, _, hx⟩ := HCP.out.vi
                  obtain ⟨S9, v9⟩ := hx h3
                  obtain ⟨t9, ht9, hs9⟩ := HCP.out.nm h3 i t2 (Ne.symm HT2.out.2.2) HT2.out.1 HT2.out.2.1
                  have hq := HCP.out.bs
                  dsimp only at hq
                  rw [th_get HU.out, hus] at hq
                  have hac := HAC.out.fresh f8
                  rw [← HD1.out] at hac
                  exact ⟨t9, K2, hac.next HI.out h3 nba.1 nba.2.1 nab.1 nab.2.1 nab.2.2 (by rw [← HBA.out]; exact Nat.le_refl _) (by rw [← HBB.out]; omega) S9 (VOk.bool _ _) v9 ht9 hs9 (by have := HI.out.fu; have := HCO.out.ful; omega) (by have := HBS.out; simp at hq; omega) HR.out⟩
                have BA : ∀ w, Calls Tryz.prog 86 #[.bool true] w fun e w' => e = .returned (.agg #[.int .i64 1, .int .u64 1, sv []]) ∧ Fr (fun _ => False) w w' := fun w => bool_any (w := w) true
                clear hdec h12 hhw HCR HI HCO HAF HIH HD1 HAC HCP b0 b1 b2 b3 b4 bz0 bz1 bz2 bz3 bz4 bl c2 z2 cl HR
                obtain ⟨_, _, nC3, nC4⟩ := nCC
                go_wp2_with fail
                refine (BA _).mono ?_
                rintro e' w8 ⟨rfl, f8⟩
                have q1 := f8.cell q1
                have q2 := f8.cell q2
                have q3 := f8.cell q3
                have ql : CC < w8.heap.size := Nat.lt_of_lt_of_le ql f8.size
                have a0 := f8.cell a0
                have a1 := f8.cell a1
                have a2 := f8.cell a2
                have g0 := f8.cell g0
                have g1 := f8.cell g1
                have g2 := f8.cell g2
                have az0 : w8.frozen? ⟨ba, 0, none⟩ = false := by rw [f8.frz al]; exact az0
                have az1 : w8.frozen? ⟨ba, 1, none⟩ = false := by rw [f8.frz al]; exact az1
                have az2 : w8.frozen? ⟨ba, 2, none⟩ = false := by rw [f8.frz al]; exact az2
                have gz0 : w8.frozen? ⟨bb, 0, none⟩ = false := by rw [f8.frz gl]; exact gz0
                have gz1 : w8.frozen? ⟨bb, 1, none⟩ = false := by rw [f8.frz gl]; exact gz1
                have gz2 : w8.frozen? ⟨bb, 2, none⟩ = false := by rw [f8.frz gl]; exact gz2
                have al : ba < w8.heap.size := Nat.lt_of_lt_of_le al f8.size
                have gl : bb < w8.heap.size := Nat.lt_of_lt_of_le gl f8.size
                obtain ⟨t9, K9, hci⟩ := HNX.out w8 f8
                have HN9 : Hid (CI bc i ba bb br dp w A f r k ((((((w8.setCell ⟨ba, 0, none⟩ (.int .i64 1)).setCell ⟨ba, 1, none⟩ (.int .u64 1)).setCell ⟨ba, 2, none⟩ (sv [])).setCell ⟨bb, 0, none⟩ (.int .i64 rvt)).setCell ⟨bb, 1, none⟩ (.int .u64 rvn)).setCell ⟨bb, 2, none⟩ (sv rvs)) A6 m2 fu2 s2 t9 (boolV true) ⟨rvt, rvn, rvs⟩ K9) := hci
                clear hci HNX f8 BA
                have nab1 := nab.1
                go_wp2_with fail
                go_roundg k
                case measure => exact Nat.lt_succ_self _
                case rel => exact ⟨A6, m2, fu2, s2, t9, _, _, K9, by omega, HN9.out⟩
              · have h12 : rh = 2 := by omega
                have hdec : decide (rh = 1) = false := by simp [h12]
                have h1' : ((rh : Int) == 1) = false := by simp [h12]
                have HR : Hid (coP k i (boolV false) ⟨rvt, rvn, rvs⟩ fu2 m2 s2 = some r) := by
                  have h := HCR.out
                  rw [if_neg h3] at h
                  dsimp only at h
                  rw [hdec] at h
                  exact h
                have HNX : Hid (∀ w8, Fr (fun _ => False) W7 w8 → ∃ t9 K9, CI bc i ba bb br dp w A f r k (set3 (set3 w8 ba (boolV false)) bb ⟨rvt, rvn, rvs⟩) A6 m2 fu2 s2 t9 (boolV false) ⟨rvt, rvn, rvs⟩ K9) := by
                  intro w8 f8
                  obtain ⟨K2, _, _, hx⟩ := HCP.out.vi
                  obtain ⟨S9, v9⟩ := hx h3
                  obtain ⟨t9, ht9, hs9⟩ := HCP.out.nm h3 i t2 (Ne.symm HT2.out.2.2) HT2.out.1 HT2.out.2.1
                  have hq := HCP.out.bs
                  dsimp only at hq
                  rw [th_get HU.out, hus] at hq
                  have hac := HAC.out.fresh f8
                  rw [← HD1.out] at hac
                  exact ⟨t9, K2, hac.next HI.out h3 nba.1 nba.2.1 nab.1 nab.2.1 nab.2.2 (by rw [← HBA.out]; exact Nat.le_refl _) (by rw [← HBB.out]; omega) S9 (VOk.bool _ _) v9 ht9 hs9 (by have := HI.out.fu; have := HCO.out.ful; omega) (by have := HBS.out; simp at hq; omega) HR.out⟩
                have BA : ∀ w, Calls Tryz.prog 86 #[.bool false] w fun e w' => e = .returned (.agg #[.int .i64 1, .int .u64 0, sv []]) ∧ Fr (fun _ => False) w w' := fun w => bool_any (w := w) false
                clear hdec h12 hhw HCR HI HCO HAF HIH HD1 HAC HCP b0 b1 b2 b3 b4 bz0 bz1 bz2 bz3 bz4 bl c2 z2 cl HR
                obtain ⟨_, _, nC3, nC4⟩ := nCC
                go_wp2_with fail
                refine (BA _).mono ?_
                rintro e' w8 ⟨rfl, f8⟩
                have q1 := f8.cell q1
                have q2 := f8.cell q2
                have q3 := f8.cell q3
                have ql : CC < w8.heap.size := Nat.lt_of_lt_of_le ql f8.size
                have a0 := f8.cell a0
                have a1 := f8.cell a1
                have a2 := f8.cell a2
                have g0 := f8.cell g0
                have g1 := f8.cell g1
                have g2 := f8.cell g2
                have az0 : w8.frozen? ⟨ba, 0, none⟩ = false := by rw [f8.frz al]; exact az0
                have az1 : w8.frozen? ⟨ba, 1, none⟩ = false := by rw [f8.frz al]; exact az1
                have az2 : w8.frozen? ⟨ba, 2, none⟩ = false := by rw [f8.frz al]; exact az2
                have gz0 : w8.frozen? ⟨bb, 0, none⟩ = false := by rw [f8.frz gl]; exact gz0
                have gz1 : w8.frozen? ⟨bb, 1, none⟩ = false := by rw [f8.frz gl]; exact gz1
                have gz2 : w8.frozen? ⟨bb, 2, none⟩ = false := by rw [f8.frz gl]; exact gz2
                have al : ba < w8.heap.size := Nat.lt_of_lt_of_le al f8.size
                have gl : bb < w8.heap.size := Nat.lt_of_lt_of_le gl f8.size
                obtain ⟨t9, K9, hci⟩ := HNX.out w8 f8
                have HN9 : Hid (CI bc i ba bb br dp w A f r k ((((((w8.setCell ⟨ba, 0, none⟩ (.int .i64 1)).setCell ⟨ba, 1, none⟩ (.int .u64 0)).setCell ⟨ba, 2, none⟩ (sv [])).setCell ⟨bb, 0, none⟩ (.int .i64 rvt)).setCell ⟨bb, 1, none⟩ (.int .u64 rvn)).setCell ⟨bb, 2, none⟩ (sv rvs)) A6 m2 fu2 s2 t9 (boolV false) ⟨rvt, rvn, rvs⟩ K9) := hci
                clear hci HNX f8 BA
                have nab1 := nab.1
                go_wp2_with fail
                go_roundg k
                case measure => exact Nat.lt_succ_self _
                case rel => exact ⟨A6, m2, fu2, s2, t9, _, _, K9, by omega, HN9.out⟩
          · rw [hus]
            obtain ⟨W2, HW2⟩ : ∃ W2, W2 = W1.drew := ⟨_, rfl⟩
            have HAR2 : Hid (AfR bc ba bb br A.b s' d1 wr Ak ⟨at1, an1, as1⟩ ⟨bt1, bn1, bs1⟩ ⟨4, eth, ee, ⟨vt, vn, vs⟩, ⟨wt, wn, ws⟩⟩ f1 m1 B W2 A5) := by rw [HW2]; exact HAR1.out
            have e2 : W1.drew = W2 := HW2.symm
            clear HAR1 HW2
            have hs2 : s' ≤ 7 := by omega
            obtain ⟨rb, fu2, m2, s2, HC2, HCR⟩ : ∃ rb fu2 m2 s2, Hid (coP k eth ⟨vt, vn, vs⟩ nilV f1 m1 s' = some (rb, fu2, m2, s2)) ∧ Hid ((if rb.how = 3 then some (rb, fu2, m2, s2) else coP k i (boolV (rb.how = 1)) rb.v fu2 m2 s2) = some r) := by
              have h := HC4.out
              rw [th_get HU.out, hus, if_neg (by decide)] at h
              split at h
              · cases h
              · rename_i rb fu2 m2 s2 he
                exact ⟨rb, fu2, m2, s2, he, h⟩
            have hdd := wrap_in (dp + 1)
            rw [HD1.out] at hdd
            have SL := HCO.out.slp (by simp)
            have fl : f1 < 9223372036854775808 := by have := HCO.out.ful; have := HI.out.fu; omega
            have REC := HAR2.out.rec' nba.1 nba.2.1 nba.2.2 (HIH.out k (by omega)) SL.1 SL.2 fl HU.out (by omega) hdd.1 hdd.2 (by have := HBS.out; simp [hus]; try omega) HC2.out
            have CP := co_post SL.1 HU.out (by omega) SL.2 (VOk.nil K1) HC2.out
            have HCP : Hid (CoPost K1 m1 eth s' (rb, fu2, m2, s2)) := CP
            have hhw := CP.hw
            have hfl := coP_fall HC2.out
            dsimp only at hhw hfl
            obtain ⟨v0, v1, v2, v3, v4, v5, _, _, _⟩ := HAR2.out.hB.ev
            dsimp only at v0 v1 v2 v3 v4 v5
            have vl := HAR2.out.hB.lt
            have HREC : Hid (Calls Tryz.prog 55 #[.pointer (some ⟨bc, 0, none⟩), .int .i64 eth, .agg #[.int .i64 vt, .int .u64 vn, sv vs], .agg #[.int .i64 0, .int .u64 0, sv []]] W2 fun e' w6 => e' = .returned (.agg (bkCells rb)) ∧ ∃ A6 m6 e6, AfC bc ba bb br A.b d1 wr Ak ⟨at1, an1, as1⟩ ⟨bt1, bn1, bs1⟩ rb fu2 m2 s2 w6 A6 m6 e6) := REC
            clear REC CP SL HAR2 HC4 HRD b0 b1 b2 b3 b4 bz0 bz1 bz2 bz3 bz4 bl HC2
            go_wp2_with fail
            refine HREC.out.mono ?_
            rintro e' w6 ⟨rfl, A6, m6, e6, AC⟩
            clear HREC v0 v1 v2 v3 v4 v5 vl y0 y1 y2 y3 y4 y5 yl c0 c1 c2 z1 z2 cl e2
            obtain ⟨rh, ⟨rvt, rvn, rvs⟩, re⟩ := rb
            dsimp only at hhw
            have AC1 := AC.fresh ((Fr.refl _ w6).alloc (.cells #[.int .i64 rh, .int .i64 rvt, .int .u64 rvn, sv rvs, .int .i64 re] 128))
            obtain ⟨W7, HW7⟩ : ∃ W7, Hid (w6.alloc (.cells #[.int .i64 rh, .int .i64 rvt, .int .u64 rvn, sv rvs, .int .i64 re] 128) = W7) := ⟨_, Eq.refl _⟩
            rw [HW7.out] at AC1
            have hC : Has W7 w6.heap.size #[.int .i64 rh, .int .i64 rvt, .int .u64 rvn, sv rvs, .int .i64 re] 128 := by rw [← HW7.out]; exact Has.new _ _ _
            have e7 : w6.alloc (.cells #[.int .i64 rh, .int .i64 rvt, .int .u64 rvn, sv rvs, .int .i64 re] 128) = W7 := HW7.out
            obtain ⟨CC, hcc⟩ : ∃ CC, w6.heap.size = CC := ⟨_, rfl⟩
            have HCC : Hid (w6.heap.size = CC) := hcc
            rw [hcc] at hC
            have ltc := AC.co.1.lt
            have ltr := AC.hr.1.lt
            have lta := AC.ha.1.lt
            have ltb := AC.hb.1.lt
            have nCC : CC ≠ bc ∧ CC ≠ br ∧ CC ≠ ba ∧ CC ≠ bb := by have := HCC.out; omega
            have HAC : Hid (AfC bc ba bb br A.b d1 wr Ak ⟨at1, an1, as1⟩ ⟨bt1, bn1, bs1⟩ ⟨rh, ⟨rvt, rvn, rvs⟩, re⟩ fu2 m2 s2 W7 A6 m6 e6) := AC1
            obtain ⟨q0, q1, q2, q3, q4⟩ := Has.bk (x := ⟨rh, ⟨rvt, rvn, rvs⟩, re⟩) hC
            dsimp only at q0 q1 q2 q3 q4
            have ql := hC.lt
            have c2 := AC1.co.1.cell 2
            have z2 := AC1.co.1.frozen 2
            have cl := AC1.co.1.lt
            simp only [List.getElem?_toArray, List.getElem?_cons_succ, List.getElem?_cons_zero] at c2
            obtain ⟨b0, b1, b2, b3, b4⟩ := AC1.hr.1.bk
            dsimp only [bk0, nilV] at b0 b1 b2 b3 b4
            have bz := AC1.hr.1.frozen
            have bz0 := bz 0
            have bz1 := bz 1
            have bz2 := bz 2
            have bz3 := bz 3
            have bz4 := bz 4
            have bl := AC1.hr.1.lt
            obtain ⟨a0, a1, a2⟩ := Has.cells3 (v := ⟨at1, an1, as1⟩) AC1.ha.1
            obtain ⟨az0, az1, az2⟩ := AC1.ha.1.frz3
            obtain ⟨g0, g1, g2⟩ := Has.cells3 (v := ⟨bt1, bn1, bs1⟩) AC1.hb.1
            obtain ⟨gz0, gz1, gz2⟩ := AC1.hb.1.frz3
            have al := AC1.ha.1.lt
            have gl := AC1.hb.1.lt
            dsimp only at a0 a1 a2 g0 g1 g2
            clear AC AC1 hC bz ltc ltr lta ltb
            by_cases h3 : rh = 3
            · have h3' : ((rh : Int) == 3) = true := by simp [h3]
              have HR : Hid (r = (⟨rh, ⟨rvt, rvn, rvs⟩, re⟩, fu2, m2, s2)) := by
                have h := HCR.out
                rw [if_pos h3] at h
                exact (Option.some.inj h).symm
              have HF : Hid (CoRP bc dp w A r (.returned (.agg #[.int .i64 rh, .int .i64 rvt, .int .u64 rvn, sv rvs, .int .i64 re])) ((((((W7.setCell ⟨bc, 2, none⟩ (.int .i64 (wrap64 (d1 - 1)))).setCell ⟨br, 0, none⟩ (.int .i64 rh)).setCell ⟨br, 1, none⟩ (.int .i64 rvt)).setCell ⟨br, 2, none⟩ (.int .u64 rvn)).setCell ⟨br, 3, none⟩ (sv rvs)).setCell ⟨br, 4, none⟩ (.int .i64 re)) ∧ Has ((((((W7.setCell ⟨bc, 2, none⟩ (.int .i64 (wrap64 (d1 - 1)))).setCell ⟨br, 0, none⟩ (.int .i64 rh)).setCell ⟨br, 1, none⟩ (.int .i64 rvt)).setCell ⟨br, 2, none⟩ (.int .u64 rvn)).setCell ⟨br, 3, none⟩ (sv rvs)).setCell ⟨br, 4, none⟩ (.int .i64 re)) br #[.int .i64 rh, .int .i64 rvt, .int .u64 rvn, sv rvs, .int .i64 re] 128) := by
                rw [← HD1.out]
                have hc := HAC.out.co.1
                rw [← HD1.out] at hc
                exact HI.out.fin hd1 hd2 hbrw HAC.out.rep HAC.out.cst hc HAC.out.co.2 HAC.out.hr.1 HAC.out.hr.2 HAC.out.out (rb := ⟨rh, ⟨rvt, rvn, rvs⟩, re⟩) (fun h => absurd h3 h) HR.out
              clear h3 HCR HI HCO HAF HIH HD1 HAC HCP a0 a1 a2 az0 az1 az2 g0 g1 g2 gz0 gz1 gz2 al gl
              obtain ⟨nC1, nC2, _, _⟩ := nCC
              go_wp2_with fail
              exact bodyPost_ret (res_cell isBack rfl rfl HF.out.2 rfl) rfl HF.out.1
            · have h3' : ((rh : Int) == 3) = false := by rw [beq_eq_false_iff_ne]; omega
              by_cases h12 : rh = 1
              · have hdec : decide (rh = 1) = true := by simp [h12]
                have h1' : ((rh : Int) == 1) = true := by simp [h12]
                have HR : Hid (coP k i (boolV true) ⟨rvt, rvn, rvs⟩ fu2 m2 s2 = some r) := by
                  have h := HCR.out
                  rw [if_neg h3] at h
                  dsimp only at h
                  rw [hdec] at h
                  exact h
                have HNX : Hid (∀ w8, Fr (fun _ => False) W7 w8 → ∃ t9 K9, CI bc i ba bb br dp w A f r k (set3 (set3 w8 ba (boolV true)) bb ⟨rvt, rvn, rvs⟩) A6 m2 fu2 s2 t9 (boolV true) ⟨rvt, rvn, rvs⟩ K9) := by
                  intro w8 f8
                  obtain ⟨K2, _, _, hx⟩ := HCP.out.vi
                  obtain ⟨S9, v9⟩ := hx h3
                  obtain ⟨t9, ht9, hs9⟩ := HCP.out.nm h3 i t2 (Ne.symm HT2.out.2.2) HT2.out.1 HT2.out.2.1
                  have hq := HCP.out.bs
                  dsimp only at hq
                  rw [th_get HU.out, hus] at hq
                  have hac := HAC.out.fresh f8
                  rw [← HD1.out] at hac
                  exact ⟨t9, K2, hac.next HI.out h3 nba.1 nba.2.1 nab.1 nab.2.1 nab.2.2 (by rw [← HBA.out]; exact Nat.le_refl _) (by rw [← HBB.out]; omega) S9 (VOk.bool _ _) v9 ht9 hs9 (by have := HI.out.fu; have := HCO.out.ful; omega) (by have := HBS.out; simp at hq; omega) HR.out⟩
                have BA : ∀ w, Calls Tryz.prog 86 #[.bool true] w fun e w' => e = .returned (.agg #[.int .i64 1, .int .u64 1, sv []]) ∧ Fr (fun _ => False) w w' := fun w => bool_any (w := w) true
                clear hdec h12 hhw HCR HI HCO HAF HIH HD1 HAC HCP b0 b1 b2 b3 b4 bz0 bz1 bz2 bz3 bz4 bl c2 z2 cl HR
                obtain ⟨_, _, nC3, nC4⟩ := nCC
                go_wp2_with fail
                refine (BA _).mono ?_
                rintro e' w8 ⟨rfl, f8⟩
                have q1 := f8.cell q1
                have q2 := f8.cell q2
                have q3 := f8.cell q3
                have ql : CC < w8.heap.size := Nat.lt_of_lt_of_le ql f8.size
                have a0 := f8.cell a0
                have a1 := f8.cell a1
                have a2 := f8.cell a2
                have g0 := f8.cell g0
                have g1 := f8.cell g1
                have g2 := f8.cell g2
                have az0 : w8.frozen? ⟨ba, 0, none⟩ = false := by rw [f8.frz al]; exact az0
                have az1 : w8.frozen? ⟨ba, 1, none⟩ = false := by rw [f8.frz al]; exact az1
                have az2 : w8.frozen? ⟨ba, 2, none⟩ = false := by rw [f8.frz al]; exact az2
                have gz0 : w8.frozen? ⟨bb, 0, none⟩ = false := by rw [f8.frz gl]; exact gz0
                have gz1 : w8.frozen? ⟨bb, 1, none⟩ = false := by rw [f8.frz gl]; exact gz1
                have gz2 : w8.frozen? ⟨bb, 2, none⟩ = false := by rw [f8.frz gl]; exact gz2
                have al : ba < w8.heap.size := Nat.lt_of_lt_of_le al f8.size
                have gl : bb < w8.heap.size := Nat.lt_of_lt_of_le gl f8.size
                obtain ⟨t9, K9, hci⟩ := HNX.out w8 f8
                have HN9 : Hid (CI bc i ba bb br dp w A f r k ((((((w8.setCell ⟨ba, 0, none⟩ (.int .i64 1)).setCell ⟨ba, 1, none⟩ (.int .u64 1)).setCell ⟨ba, 2, none⟩ (sv [])).setCell ⟨bb, 0, none⟩ (.int .i64 rvt)).setCell ⟨bb, 1, none⟩ (.int .u64 rvn)).setCell ⟨bb, 2, none⟩ (sv rvs)) A6 m2 fu2 s2 t9 (boolV true) ⟨rvt, rvn, rvs⟩ K9) := hci
                clear hci HNX f8 BA
                have nab1 := nab.1
                go_wp2_with fail
                go_roundg k
                case measure => exact Nat.lt_succ_self _
                case rel => exact ⟨A6, m2, fu2, s2, t9, _, _, K9, by omega, HN9.out⟩
              · have h12 : rh = 2 := by omega
                have hdec : decide (rh = 1) = false := by simp [h12]
                have h1' : ((rh : Int) == 1) = false := by simp [h12]
                have HR : Hid (coP k i (boolV false) ⟨rvt, rvn, rvs⟩ fu2 m2 s2 = some r) := by
                  have h := HCR.out
                  rw [if_neg h3] at h
                  dsimp only at h
                  rw [hdec] at h
                  exact h
                have HNX : Hid (∀ w8, Fr (fun _ => False) W7 w8 → ∃ t9 K9, CI bc i ba bb br dp w A f r k (set3 (set3 w8 ba (boolV false)) bb ⟨rvt, rvn, rvs⟩) A6 m2 fu2 s2 t9 (boolV false) ⟨rvt, rvn, rvs⟩ K9) := by
                  intro w8 f8
                  obtain ⟨K2, _, _, hx⟩ := HCP.out.vi
                  obtain ⟨S9, v9⟩ := hx h3
                  obtain ⟨t9, ht9, hs9⟩ := HCP.out.nm h3 i t2 (Ne.symm HT2.out.2.2) HT2.out.1 HT2.out.2.1
                  have hq := HCP.out.bs
                  dsimp only at hq
                  rw [th_get HU.out, hus] at hq
                  have hac := HAC.out.fresh f8
                  rw [← HD1.out] at hac
                  exact ⟨t9, K2, hac.next HI.out h3 nba.1 nba.2.1 nab.1 nab.2.1 nab.2.2 (by rw [← HBA.out]; exact Nat.le_refl _) (by rw [← HBB.out]; omega) S9 (VOk.bool _ _) v9 ht9 hs9 (by have := HI.out.fu; have := HCO.out.ful; omega) (by have := HBS.out; simp at hq; omega) HR.out⟩
                have BA : ∀ w, Calls Tryz.prog 86 #[.bool false] w fun e w' => e = .returned (.agg #[.int .i64 1, .int .u64 0, sv []]) ∧ Fr (fun _ => False) w w' := fun w => bool_any (w := w) false
                clear hdec h12 hhw HCR HI HCO HAF HIH HD1 HAC HCP b0 b1 b2 b3 b4 bz0 bz1 bz2 bz3 bz4 bl c2 z2 cl HR
                obtain ⟨_, _, nC3, nC4⟩ := nCC
                go_wp2_with fail
                refine (BA _).mono ?_
                rintro e' w8 ⟨rfl, f8⟩
                have q1 := f8.cell q1
                have q2 := f8.cell q2
                have q3 := f8.cell q3
                have ql : CC < w8.heap.size := Nat.lt_of_lt_of_le ql f8.size
                have a0 := f8.cell a0
                have a1 := f8.cell a1
                have a2 := f8.cell a2
                have g0 := f8.cell g0
                have g1 := f8.cell g1
                have g2 := f8.cell g2
                have az0 : w8.frozen? ⟨ba, 0, none⟩ = false := by rw [f8.frz al]; exact az0
                have az1 : w8.frozen? ⟨ba, 1, none⟩ = false := by rw [f8.frz al]; exact az1
                have az2 : w8.frozen? ⟨ba, 2, none⟩ = false := by rw [f8.frz al]; exact az2
                have gz0 : w8.frozen? ⟨bb, 0, none⟩ = false := by rw [f8.frz gl]; exact gz0
                have gz1 : w8.frozen? ⟨bb, 1, none⟩ = false := by rw [f8.frz gl]; exact gz1
                have gz2 : w8.frozen? ⟨bb, 2, none⟩ = false := by rw [f8.frz gl]; exact gz2
                have al : ba < w8.heap.size := Nat.lt_of_lt_of_le al f8.size
                have gl : bb < w8.heap.size := Nat.lt_of_lt_of_le gl f8.size
                obtain ⟨t9, K9, hci⟩ := HNX.out w8 f8
                have HN9 : Hid (CI bc i ba bb br dp w A f r k ((((((w8.setCell ⟨ba, 0, none⟩ (.int .i64 1)).setCell ⟨ba, 1, none⟩ (.int .u64 0)).setCell ⟨ba, 2, none⟩ (sv [])).setCell ⟨bb, 0, none⟩ (.int .i64 rvt)).setCell ⟨bb, 1, none⟩ (.int .u64 rvn)).setCell ⟨bb, 2, none⟩ (sv rvs)) A6 m2 fu2 s2 t9 (boolV false) ⟨rvt, rvn, rvs⟩ K9) := hci
                clear hci HNX f8 BA
                have nab1 := nab.1
                go_wp2_with fail
                go_roundg k
                case measure => exact Nat.lt_succ_self _
                case rel => exact ⟨A6, m2, fu2, s2, t9, _, _, K9, by omega, HN9.out⟩
        have h4' : ((ek : Int) == 4) = false := by rw [beq_eq_false_iff_ne]; omega
        by_cases h31 : ek = 3 ∨ ek = 1
        · have HR : Hid (r = (⟨1, ⟨vt, vn, vs⟩, 0⟩, f1, m1, s')) := by
            have h := HCS.out
            rw [if_neg h4, if_pos h31] at h
            exact (Option.some.inj h).symm
          rcases h31 with rfl | rfl
          · have HF : Hid (CoRP bc dp w A r (.returned (.agg #[.int .i64 1, .int .i64 vt, .int .u64 vn, sv vs, .int .i64 0])) ((((((W1.setCell ⟨bc, 2, none⟩ (.int .i64 (wrap64 (d1 - 1)))).setCell ⟨br, 0, none⟩ (.int .i64 1)).setCell ⟨br, 1, none⟩ (.int .i64 vt)).setCell ⟨br, 2, none⟩ (.int .u64 vn)).setCell ⟨br, 3, none⟩ (sv vs)).setCell ⟨br, 4, none⟩ (.int .i64 0)) ∧ Has ((((((W1.setCell ⟨bc, 2, none⟩ (.int .i64 (wrap64 (d1 - 1)))).setCell ⟨br, 0, none⟩ (.int .i64 1)).setCell ⟨br, 1, none⟩ (.int .i64 vt)).setCell ⟨br, 2, none⟩ (.int .u64 vn)).setCell ⟨br, 3, none⟩ (sv vs)).setCell ⟨br, 4, none⟩ (.int .i64 0)) br #[.int .i64 1, .int .i64 vt, .int .u64 vn, sv vs, .int .i64 0] 128) := by
              rw [← HD1.out]
              exact HI.out.fin hd1 hd2 hbrw HAF.out.rep (CSt.of HAF.out.st) HAF.out.co.1 HAF.out.co.2 HAF.out.hr.1 HAF.out.hr.2 (rb := ⟨1, ⟨vt, vn, vs⟩, 0⟩) ⟨HAF.out.out.1, fun h => by cases h⟩ (fun _ => HAF.out.k5 (by simp)) HR.out
            clear HCS HRD HI HCO HAF HIH HD1
            go_wp2_with fail
            exact bodyPost_ret (res_cell isBack rfl rfl HF.out.2 rfl) rfl HF.out.1
          · have HF : Hid (CoRP bc dp w A r (.returned (.agg #[.int .i64 1, .int .i64 vt, .int .u64 vn, sv vs, .int .i64 0])) ((((((W1.setCell ⟨bc, 2, none⟩ (.int .i64 (wrap64 (d1 - 1)))).setCell ⟨br, 0, none⟩ (.int .i64 1)).setCell ⟨br, 1, none⟩ (.int .i64 vt)).setCell ⟨br, 2, none⟩ (.int .u64 vn)).setCell ⟨br, 3, none⟩ (sv vs)).setCell ⟨br, 4, none⟩ (.int .i64 0)) ∧ Has ((((((W1.setCell ⟨bc, 2, none⟩ (.int .i64 (wrap64 (d1 - 1)))).setCell ⟨br, 0, none⟩ (.int .i64 1)).setCell ⟨br, 1, none⟩ (.int .i64 vt)).setCell ⟨br, 2, none⟩ (.int .u64 vn)).setCell ⟨br, 3, none⟩ (sv vs)).setCell ⟨br, 4, none⟩ (.int .i64 0)) br #[.int .i64 1, .int .i64 vt, .int .u64 vn, sv vs, .int .i64 0] 128) := by
              rw [← HD1.out]
              exact HI.out.fin hd1 hd2 hbrw HAF.out.rep (CSt.of HAF.out.st) HAF.out.co.1 HAF.out.co.2 HAF.out.hr.1 HAF.out.hr.2 (rb := ⟨1, ⟨vt, vn, vs⟩, 0⟩) ⟨HAF.out.out.1, fun h => by cases h⟩ (fun _ => HAF.out.k5 (by simp)) HR.out
            clear HCS HRD HI HCO HAF HIH HD1
            go_wp2_with fail
            exact bodyPost_ret (res_cell isBack rfl rfl HF.out.2 rfl) rfl HF.out.1
        have h3' : ((ek : Int) == 3) = false := by rw [beq_eq_false_iff_ne]; omega
        have h1' : ((ek : Int) == 1) = false := by rw [beq_eq_false_iff_ne]; omega
        by_cases h2 : ek = 2
        · have HR : Hid (r = (⟨2, ⟨vt, vn, vs⟩, 0⟩, f1, m1, s')) := by
            have h := HCS.out
            rw [if_neg h4, if_neg h31, if_pos h2] at h
            exact (Option.some.inj h).symm
          subst h2
          have HF : Hid (CoRP bc dp w A r (.returned (.agg #[.int .i64 2, .int .i64 vt, .int .u64 vn, sv vs, .int .i64 0])) ((((((W1.setCell ⟨bc, 2, none⟩ (.int .i64 (wrap64 (d1 - 1)))).setCell ⟨br, 0, none⟩ (.int .i64 2)).setCell ⟨br, 1, none⟩ (.int .i64 vt)).setCell ⟨br, 2, none⟩ (.int .u64 vn)).setCell ⟨br, 3, none⟩ (sv vs)).setCell ⟨br, 4, none⟩ (.int .i64 0)) ∧ Has ((((((W1.setCell ⟨bc, 2, none⟩ (.int .i64 (wrap64 (d1 - 1)))).setCell ⟨br, 0, none⟩ (.int .i64 2)).setCell ⟨br, 1, none⟩ (.int .i64 vt)).setCell ⟨br, 2, none⟩ (.int .u64 vn)).setCell ⟨br, 3, none⟩ (sv vs)).setCell ⟨br, 4, none⟩ (.int .i64 0)) br #[.int .i64 2, .int .i64 vt, .int .u64 vn, sv vs, .int .i64 0] 128) := by
            rw [← HD1.out]
            exact HI.out.fin hd1 hd2 hbrw HAF.out.rep (CSt.of HAF.out.st) HAF.out.co.1 HAF.out.co.2 HAF.out.hr.1 HAF.out.hr.2 (rb := ⟨2, ⟨vt, vn, vs⟩, 0⟩) ⟨HAF.out.out.1, fun h => by cases h⟩ (fun _ => HAF.out.k5 (by simp)) HR.out
          clear HCS HRD HI HCO HAF HIH HD1
          go_wp2_with fail
          exact bodyPost_ret (res_cell isBack rfl rfl HF.out.2 rfl) rfl HF.out.1
        obtain rfl : ek = 5 := by omega
        clear h4' h3' h1'
        have HR : Hid (r = (⟨3, nilV, ee⟩, f1, m1, s')) := by
          have h := HCS.out
          rw [if_neg h4, if_neg h31, if_neg h2, if_pos rfl] at h
          exact (Option.some.inj h).symm
        have HF : Hid (CoRP bc dp w A r (.returned (.agg #[.int .i64 3, .int .i64 0, .int .u64 0, sv [], .int .i64 ee])) ((((((W1.setCell ⟨bc, 2, none⟩ (.int .i64 (wrap64 (d1 - 1)))).setCell ⟨br, 0, none⟩ (.int .i64 3)).setCell ⟨br, 1, none⟩ (.int .i64 0)).setCell ⟨br, 2, none⟩ (.int .u64 0)).setCell ⟨br, 3, none⟩ (sv [])).setCell ⟨br, 4, none⟩ (.int .i64 ee)) ∧ Has ((((((W1.setCell ⟨bc, 2, none⟩ (.int .i64 (wrap64 (d1 - 1)))).setCell ⟨br, 0, none⟩ (.int .i64 3)).setCell ⟨br, 1, none⟩ (.int .i64 0)).setCell ⟨br, 2, none⟩ (.int .u64 0)).setCell ⟨br, 3, none⟩ (sv [])).setCell ⟨br, 4, none⟩ (.int .i64 ee)) br #[.int .i64 3, .int .i64 0, .int .u64 0, sv [], .int .i64 ee] 128) := by
          rw [← HD1.out]
          exact HI.out.fin hd1 hd2 hbrw HAF.out.rep (CSt.of HAF.out.st) HAF.out.co.1 HAF.out.co.2 HAF.out.hr.1 HAF.out.hr.2 (rb := ⟨3, nilV, ee⟩) ⟨HAF.out.out.1, fun _ => HAF.out.out.2 rfl⟩ (fun h => absurd rfl h) HR.out
        clear HCS HRD HI HCO HAF HIH HD1
        go_wp2_with fail
        exact bodyPost_ret (res_cell isBack rfl rfl HF.out.2 rfl) rfl HF.out.1
      · intro G HG
        refine ⟨⟨_, rfl, ?_⟩, ⟨_, rfl, ?_⟩⟩
        · go_wp2_with fail
          refine (EX.out _ ((Fr.refl _ wr).drew)).mono ?_
          rintro e' w5 ⟨rfl, A5, m9, e9, q1, q2, q3, q4⟩
          have q4 := (VSt.fresh ((Fr.refl _ wr).drew)).trans q4
          have fa : Fr (fun _ => False) w5 (w5.alloc (.cells (evCells ev0) 190)) := (Fr.refl _ _).alloc _
          have AF := HI.out.af (ev := ⟨ek, eth, ee, ⟨vt, vn, vs⟩, ⟨wt, wn, ws⟩⟩) (q1.fresh fa) q2 q3 (q4.trans (VSt.fresh fa)) (B := w5.heap.size) (Has.new _ _ _) (q1.own _ (Nat.le_refl _)) q4.st.fr.size
          have AF5 : RdP bc ba bb A.b ⟨at1, an1, as1⟩ ⟨bt1, bn1, bs1⟩ w5 := by
            obtain ⟨h1, _⟩ := q4.keep0 notVM0 HI.out.co HI.out.oc
            obtain ⟨h2, _⟩ := q4.keep0 notVM0 HI.out.ha HI.out.oa
            obtain ⟨h3, _⟩ := q4.keep0 notVM0 HI.out.hb HI.out.ob
            exact ⟨h1.cell 0, ⟨h2.cell 0, h2.cell 1, h2.cell 2⟩, ⟨h3.cell 0, h3.cell 1, h3.cell 2⟩⟩
          have HAF : Hid (AfEx bc ba bb br A.b s' dp wr Ak ⟨at1, an1, as1⟩ ⟨bt1, bn1, bs1⟩ ⟨ek, eth, ee, ⟨vt, vn, vs⟩, ⟨wt, wn, ws⟩⟩ f1 m1 w5.heap.size (w5.alloc (.cells (evCells ev0) 190)) A5 m9 e9 ev0) := AF
          have HA5 : Hid (PW w5) := i9.out _ AF5
          have HA6 : Hid (PW (w5.alloc (.cells (evCells ev0) 190))) := i9.out _ AF.rd
          clear AF AF5 q1 q2 q3 q4 fa EX
          go_wp2_with fail
          refine ⟨⟨⟨_, HA5.out⟩, rfl⟩, _, rfl, ?_⟩
          go_wp2_with fail
          refine ⟨⟨⟨_, HA6.out⟩, rfl⟩, ?_⟩
          show G _ _
          rw [HG.out]
          exact ⟨w5.heap.size, A5, m9, e9, by kernel_rfl, HAF.out⟩
        · have fb : Fr (fun _ => False) wr (wr.drew.alloc (.cells (evCells ev0) 190)) := ((Fr.refl _ _).drew).alloc _
          have HB0 : Has (wr.drew.alloc (.cells (evCells ev0) 190)) wr.heap.size (evCells ev0) 190 := Has.new _ _ _
          have HA6 : Hid (PW (wr.drew.alloc (.cells (evCells ev0) 190))) := i9.out _ ⟨fb.cell hrd0.1, ⟨fb.cell hrd0.2.1.1, fb.cell hrd0.2.1.2.1, fb.cell hrd0.2.1.2.2⟩, ⟨fb.cell hrd0.2.2.1, fb.cell hrd0.2.2.2.1, fb.cell hrd0.2.2.2.2⟩⟩
          have EX2 := EX.out _ fb
          go_wp2_with fail
          refine ⟨⟨⟨_, HA6.out⟩, rfl⟩, _, rfl, ?_⟩
          go_wp2_with fail
          refine EX2.mono ?_
          rintro e' w5 ⟨rfl, A5, m9, e9, q1, q2, q3, q4⟩
          obtain ⟨hB, oB⟩ := q4.keep0 notVM0 HB0 (HI.out.rep.own _ (Nat.le_refl _))
          have q4 := (VSt.fresh fb).trans q4
          have AF := HI.out.af (ev := ⟨ek, eth, ee, ⟨vt, vn, vs⟩, ⟨wt, wn, ws⟩⟩) q1 q2 q3 q4 (B := wr.heap.size) hB oB (Nat.le_refl _)
          have HAF : Hid (AfEx bc ba bb br A.b s' dp wr Ak ⟨at1, an1, as1⟩ ⟨bt1, bn1, bs1⟩ ⟨ek, eth, ee, ⟨vt, vn, vs⟩, ⟨wt, wn, ws⟩⟩ f1 m1 wr.heap.size w5 A5 m9 e9 ev0) := AF
          have HA5 : Hid (PW w5) := i9.out _ AF.rd
          clear AF q1 q2 q3 q4 EX hB oB HB0 fb EX2
          go_wp2_with fail
          refine ⟨⟨⟨_, HA5.out⟩, rfl⟩, ?_⟩
          show G _ _
          rw [HG.out]
          exact ⟨wr.heap.size, A5, m9, e9, by kernel_rfl, HAF.out⟩
end
end Go.Proofs.Qxb6500574aGreatDoor
