/-
  THE WALK of runm.seq.
-/
import Derived.Test.Qxb6500575aGreatDoorYSeq0
import Derived.Test.Qxb6500575aGreatDoorMScan
import Derived.Deep.LoopGhost
namespace Go.Proofs.Qxb6500575aGreatDoor
open Go Go.RowKit
set_option linter.unusedVariables false
set_option linter.unusedSimpArgs false

/-- block, at one instruction -/
def BlkW (R : MP) (H : HF HS) (n : Nat) : Prop := ∀ (t : Tk) (c : Ins) (m : MS) (o : Ot), t.src[t.i]? = some c → (c.op = 1 ∨ c.op = 2 ∨ c.op = 3) → okS c t.loc R.max m = true → sins R.P H R.max (srun R.P R.srcs H R.max n) t c m = some o → ∀ (w : World) (L : NL) (K : ML) (la : Option Addr) (ln lc f : Nat) (sa : Option Addr) (sc : Nat), R.LS.vs[f]? = some (.slice sa t.src.length sc) → R.srcs[f]? = some t.src → 0 ≤ t.depth → t.depth ≤ 10 → HostOk R H m → MW R w L K m → LocAt R w L (.slice la ln lc) t.loc →
  Calls Tryz.prog 142 #[.pointer (some ⟨R.bn, 0, none⟩), .slice sa t.src.length sc, .int .i64 t.i, .slice la ln lc, .int .i64 t.depth] w (RunPost R H (.slice la ln lc) o w L K)
/-- the state of a run, at a world -/
structure RunW2 (R : MP) (H : HF HS) (lv : Value) (w0 w : World) (L0 L : NL) (K0 K : ML) (m : MS) (loc : List V) : Prop where
  ho : HostOk R H m
  mw : MW R w L K m
  loc : LocAt R w L lv loc
  step : MStep R lv w0 w L0 L K0 K
section
variable {R : MP} {H : HF HS} {lv : Value} {w0 w w1 : World} {L0 L L1 : NL} {K0 K K1 : ML} {m : MS} {loc : List V}
theorem RunW2.fresh (h : RunW2 R H lv w0 w L0 L K0 K m loc) (hf : Fr (fun _ => False) w w1) : RunW2 R H lv w0 w1 L0 L K0 K m loc := ⟨h.ho, h.mw.fresh hf, h.loc.fresh hf, h.step.trans (MStep.fresh hf)⟩
theorem RunW2.stepN (h : RunW2 R H lv w0 w L0 L K0 K m loc) {x' : ND} (h1 : NRep w1 R.bn R.q L1 x') (h2 : NStep w w1 R.bn L L1) (hh : x'.host = m.x.host) : RunW2 R H lv w0 w1 L0 L1 K0 K { m with x := x' } loc := ⟨h.ho.same hh, h.mw.stepN h1 h2, h.loc.stepN h2, h.step.trans (MStep.ofN h2)⟩
theorem RunW2.post (h : RunW2 R H lv w0 w L0 L K0 K m loc) {br e : Int} (hbr : -9223372036854775808 ≤ br ∧ br < 9223372036854775808) : RunPost R H lv ⟨br, e, loc, m⟩ w0 L0 K0 (.returned (.tuple #[.int .i64 br, .int .i64 e])) w := ⟨L, K, rfl, hbr, h.ho, h.mw, h.loc, h.step⟩
theorem RunW2.bump (h : RunW2 R H lv w0 w L0 L K0 K m loc) : RunW2 R H lv w0 (w.setCell ⟨R.bn, 6, none⟩ (.int .i64 (wrap64 (m.x.n + 1)))) L0 L K0 K m.bump loc := by
  obtain ⟨r1, r2⟩ := h.mw.inst.setN (wrap64 (m.x.n + 1))
  exact h.stepN r1 r2 rfl
end
section
variable {R : MP} {H : HF HS}
set_option maxRecDepth 100000
set_option maxHeartbeats 1000000
theorem yseq_any (hM : MOk R) {n : Nat} (hB : ∀ g, g < n → BlkW R H g ∧ InvW R H g) : SeqW R H n := by
  intro t m o hk hrun w L K la ln lc f sa sc hsv hsr hd0 hd1 hO hW hL
  have hlen : t.src.length ≤ 1000 := hM.src _ (List.mem_of_getElem? hsr)
  have HB : Hid (∀ g, g < n → BlkW R H g ∧ InvW R H g) := hB
  have HRUN : Hid (srun R.P R.srcs H R.max n t m = some o) := hrun
  have HI : Hid (RunW2 R H (.slice la ln lc) w w L L K K m t.loc) := ⟨hO, hW, hL, MStep.refl⟩
  have HSV : Hid (R.LS.vs[f]? = some (.slice sa t.src.length sc) ∧ R.srcs[f]? = some t.src) := ⟨hsv, hsr⟩
  have HK : Hid (t.k = 0) := hk
  have HD : Hid (0 ≤ t.depth ∧ t.depth ≤ 10) := ⟨hd0, hd1⟩
  obtain ⟨dp, HDP⟩ : ∃ dp, Hid (t.depth = dp) := ⟨_, rfl⟩
  rw [HDP.out]
  obtain ⟨sl, HSL⟩ : ∃ sl, Hid (t.src.length = sl) := ⟨_, rfl⟩
  rw [HSL.out] at hlen ⊢
  obtain ⟨i0, HI0⟩ : ∃ i0, Hid (t.i = i0) := ⟨_, rfl⟩
  rw [HI0.out]
  clear hB hrun hO hW hL hsv hsr hk hd0 hd1
  go_enter Tryz.func133, Tryz.ntmps133
  go_wp2
  go_loopg [2] n (fun g ti wr => ∃ (i : Nat) (m' : MS) (loc' : List V) (L' : NL) (K' : ML), g ≤ n ∧ ti = .int .i64 i ∧ Hid (srun R.P R.srcs H R.max g { t with i := i, loc := loc' } m' = some o) ∧ Hid (RunW2 R H (.slice la ln lc) w wr L L' K K' m' loc'))
  case atStart => exact ⟨i0, m, t.loc, L, K, Nat.le_refl _, rfl, by rw [← HI0.out]; exact HRUN.out, HI.out⟩
  case round =>
    obtain ⟨i, m', loc', L', K', hgn, rfl, HR, HS⟩ := hrel
    clear HRUN HI HI0
    cases gk with
    | zero => exact absurd HR.out (by simp [srun])
    | succ g =>
      obtain ⟨c, hc, HQ⟩ : ∃ c, t.src[i]? = some c ∧ Hid ((if c.op = 5 then some ⟨-1, 0, loc', m'⟩ else if c.op = 4 then some ⟨-1, 0, loc', m'.bump⟩ else if okS c loc' R.max m' = false then none else match sins R.P H R.max (srun R.P R.srcs H R.max g) { t with i := i, loc := loc' } c m' with | none => none | some o' => if o'.e ≠ 0 ∨ o'.br ≠ -1 then some o' else srun R.P R.srcs H R.max g { t with loc := o'.loc, i := (if c.op = 1 ∨ c.op = 2 ∨ c.op = 3 then (endsM t.src i).2.toNat else i) + 1 } o'.m) = some o) := by
        have h := HR.out
        rw [srun, if_pos HK.out] at h
        unfold sseq at h
        simp only at h
        cases hc : t.src[i]? with
        | none => rw [hc] at h; cases h
        | some c => rw [hc] at h; exact ⟨c, rfl, h⟩
      clear HR
      have hlt : i < sl := by rw [← HSL.out]; exact (List.getElem?_eq_some_iff.1 hc).1
      have hltI : (i : Int) < sl := Int.ofNat_lt.2 hlt
      have HO : Hid (World.ownsRow wr 0 67 3 (.slice sa t.src.length sc) t.src.length (insCells t.src)) := (HS.out.mw.src.src f _ _ HSV.out.1 HSV.out.2).2
      obtain ⟨gs, hgs, hcc⟩ := owns_some HO.out (by rw [HSL.out]; omega)
      subst hgs
      have q0 := hcc (i * 3 + 0) (by rw [HSL.out]; omega)
      have q1 := hcc (i * 3 + 1) (by rw [HSL.out]; omega)
      have q2 := hcc (i * 3 + 2) (by rw [HSL.out]; omega)
      rw [insCells_at _ _ _ c hc (by omega)] at q0 q1 q2
      simp [Ins.cells] at q0 q1 q2
      have hgl : gs < wr.heap.size := owns_lt HO.out gs rfl
      have HC : Hid (t.src[i]? = some c) := hc
      clear hcc hc
      obtain ⟨cop, cimm, ctab⟩ := c
      simp only at q0 q1 q2
      by_cases h5 : cop = 5
      · subst h5
        have ho := HQ.out
        rw [if_pos rfl] at ho
        have HOO : Hid (o = ⟨-1, 0, loc', m'⟩) := (Option.some.inj ho).symm
        clear ho HQ
        go_wp2
        go_ret2
        rw [HOO.out]
        exact (HS.out.fresh ((Fr.refl _ _).alloc _)).post ⟨by omega, by omega⟩
      have b5 : (cop == 5) = false := beq_eq_false_iff_ne.2 h5
      by_cases h4 : cop = 4
      · subst h4
        have ho := HQ.out
        rw [if_neg (by simp), if_pos rfl] at ho
        have HOO : Hid (o = ⟨-1, 0, loc', m'.bump⟩) := (Option.some.inj ho).symm
        obtain ⟨xn, HXN⟩ : ∃ xn, Hid (m'.x.n = xn) := ⟨_, rfl⟩
        have c6 := HS.out.mw.inst.here.cell 6
        have f6 := HS.out.mw.inst.here.frozen 6
        have l6 := HS.out.mw.inst.here.lt
        simp at c6
        rw [HXN.out] at c6
        clear ho HQ
        go_wp2
        go_ret2
        rw [HOO.out]
        have hb := HS.out.bump
        rw [HXN.out] at hb
        exact (hb.fresh ((Fr.refl _ _).alloc _)).post ⟨by omega, by omega⟩
      have b4 : (cop == 4) = false := beq_eq_false_iff_ne.2 h4
      obtain ⟨w1, HW1⟩ : ∃ w1, Hid (w1 = wr.alloc (.cells #[.int .i64 cop, .int .i64 cimm, .string ⟨ctab.toArray⟩] 67)) := ⟨_, rfl⟩
      have F1 : Fr (fun _ => False) wr w1 := by rw [HW1.out]; exact (Fr.refl _ _).alloc _
      have P1 : Hid (RunW2 R H (.slice la ln lc) w w1 L L' K K' m' loc') := HS.out.fresh F1
      obtain ⟨o', HQ1, HQ2⟩ : ∃ o', Hid (okS ⟨cop, cimm, ctab⟩ loc' R.max m' = true ∧ sins R.P H R.max (srun R.P R.srcs H R.max g) { t with i := i, loc := loc' } ⟨cop, cimm, ctab⟩ m' = some o') ∧ Hid ((if o'.e ≠ 0 ∨ o'.br ≠ -1 then some o' else srun R.P R.srcs H R.max g { t with loc := o'.loc, i := (if cop = 1 ∨ cop = 2 ∨ cop = 3 then (endsM t.src i).2.toNat else i) + 1 } o'.m) = some o) := by
        have h := HQ.out
        simp only at h
        rw [if_neg h5, if_neg h4] at h
        by_cases hok : okS ⟨cop, cimm, ctab⟩ loc' R.max m' = false
        · rw [if_pos hok] at h; cases h
        rw [if_neg hok] at h
        split at h
        · cases h
        · rename_i o' ho'
          exact ⟨o', ⟨by simpa using hok, ho'⟩, h⟩
      obtain ⟨obr, HBR⟩ : ∃ x, Hid (o'.br = x) := ⟨_, rfl⟩
      obtain ⟨oe, HOE⟩ : ∃ x, Hid (o'.e = x) := ⟨_, rfl⟩
      by_cases h3 : cop = 1 ∨ cop = 2 ∨ cop = 3
      · have BLK : Hid (Calls _ _ _ _ _) := (HB.out g (by omega)).1 { t with i := i, loc := loc' } ⟨cop, cimm, ctab⟩ m' o' HC.out h3 HQ1.out.1 HQ1.out.2 w1 L' K' la ln lc f (some ⟨gs, 0, none⟩) sc HSV.out.1 HSV.out.2 HD.out.1 HD.out.2 P1.out.ho P1.out.mw P1.out.loc
        simp only [HSL.out, HDP.out] at BLK
        have hx := endsR_range (t.src.drop (i + 1)) ((i : Int) + 1) (-1) 0 (by omega) (by omega) (by omega)
        have hEn : 0 ≤ (endsM t.src i).2 ∧ (endsM t.src i).2 ≤ 100000 := by
          have hd : ((t.src.drop (i + 1)).length : Int) ≤ 1000 := by rw [List.length_drop, HSL.out]; omega
          have h1 : (i : Int) + 1 - 1 ≤ (endsM t.src i).2 := hx.2.1
          have h2 : (endsM t.src i).2 ≤ (i : Int) + 1 + (t.src.drop (i + 1)).length - 1 := hx.2.2
          omega
        have ENDS : Hid (∀ W L2 K2 m2, MW R W L2 K2 m2 → Calls Tryz.prog 76 #[.slice (some ⟨gs, 0, none⟩) sl sc, .int .i64 i] W fun e w' => e = .returned (.tuple #[.int .i64 (endsM t.src i).1, .int .i64 (endsM t.src i).2]) ∧ w' = W) := fun W L2 K2 m2 h => by
          have := ends_any t.src (some ⟨gs, 0, none⟩) sc i W (h.src.src f _ _ HSV.out.1 HSV.out.2).2 (by rw [HSL.out]; exact hlen) (by rw [HSL.out]; exact hlt)
          rw [HSL.out] at this
          exact this
        obtain ⟨en1, HEN1⟩ : ∃ x, Hid ((endsM t.src i).1 = x) := ⟨_, rfl⟩
        obtain ⟨en, HEN⟩ : ∃ x, Hid ((endsM t.src i).2 = x) := ⟨_, rfl⟩
        rw [HEN1.out, HEN.out] at ENDS
        rw [HEN.out] at hEn
        have b123 : ((cop == 1) = true) ∨ ((cop == 1) = false ∧ (cop == 2) = true) ∨ ((cop == 1) = false ∧ (cop == 2) = false ∧ (cop == 3) = true) := by
          rcases h3 with rfl | rfl | rfl
          · exact .inl rfl
          · exact .inr (.inl ⟨rfl, rfl⟩)
          · exact .inr (.inr ⟨rfl, rfl, rfl⟩)
        have HNEXT : Hid (¬ (oe ≠ 0 ∨ obr ≠ -1) → srun R.P R.srcs H R.max g { t with loc := o'.loc, i := en.toNat + 1 } o'.m = some o) := fun hn => by
          have h := HQ2.out
          rw [HBR.out, HOE.out, if_neg hn, if_pos h3, HEN.out] at h
          exact h
        have HSTOP : Hid ((oe ≠ 0 ∨ obr ≠ -1) → o' = o) := fun hn => by
          have h := HQ2.out
          rw [HBR.out, HOE.out, if_pos hn] at h
          exact Option.some.inj h
        clear HQ HQ1 HQ2 hx F1 HO HS
        rcases b123 with b1 | ⟨b1, b2⟩ | ⟨b1, b2, b3⟩
        all_goals
          go_wp2_with fail
          rw [← HW1.out]
          refine BLK.out.mono ?_
          rintro e w2 ⟨L2, K2, rfl, hbr, ho2, mw2, loc2, step2⟩
          have P2 : Hid (RunW2 R H (.slice la ln lc) w w2 L L2 K K2 o'.m o'.loc) := ⟨ho2, mw2, loc2, P1.out.step.trans step2⟩
          have FIN : Hid (RunPost R H (.slice la ln lc) o' w L K (.returned (.tuple #[.int .i64 obr, .int .i64 oe])) w2) := ⟨L2, K2, by rw [HBR.out, HOE.out], hbr, ho2, mw2, loc2, P1.out.step.trans step2⟩
          rw [HBR.out, HOE.out]
          clear ho2 mw2 loc2 step2 BLK P1 hbr
          go_wp2_with fail
          refine (ENDS.out w2 L2 K2 o'.m P2.out.mw).mono ?_
          rintro e w3 ⟨rfl, hw3⟩
          rw [hw3]
          clear hw3 w3 ENDS
          by_cases he : oe = 0
          · by_cases hb : obr = -1
            · subst he
              subst hb
              go_wp2
              go_roundg g
              case measure => omega
              case rel => exact ⟨en.toNat + 1, o'.m, o'.loc, L2, K2, by omega, by congr 1; omega, HNEXT.out (by simp), P2.out⟩
            · have hb' : (obr != -1) = true := by simpa using hb
              subst he
              go_wp2
              go_ret2
              rw [← HSTOP.out (.inr hb)]
              exact FIN.out
          · have he' : (oe != 0) = true := by simpa using he
            go_wp2
            go_ret2
            rw [← HSTOP.out (.inl he)]
            exact FIN.out
      · have b1 : (cop == 1) = false := beq_eq_false_iff_ne.2 (by omega)
        have b2 : (cop == 2) = false := beq_eq_false_iff_ne.2 (by omega)
        have b3 : (cop == 3) = false := beq_eq_false_iff_ne.2 (by omega)
        have STEP : Hid (Calls _ _ _ _ _) := ystep_any (t := { t with i := i, loc := loc' }) hM (HB.out g (by omega)).2 P1.out.ho P1.out.mw P1.out.loc HQ1.out.1 ⟨by simp only; omega, by simp only; omega, by simp only; omega, h4, h5⟩ HD.out.1 HQ1.out.2
        simp only [HDP.out] at STEP
        have HNEXT : Hid (¬ (oe ≠ 0 ∨ obr ≠ -1) → srun R.P R.srcs H R.max g { t with loc := o'.loc, i := i + 1 } o'.m = some o) := fun hn => by
          have h := HQ2.out
          rw [HBR.out, HOE.out, if_neg hn, if_neg h3] at h
          exact h
        have HSTOP : Hid ((oe ≠ 0 ∨ obr ≠ -1) → o' = o) := fun hn => by
          have h := HQ2.out
          rw [HBR.out, HOE.out, if_pos hn] at h
          exact Option.some.inj h
        clear HQ HQ1 HQ2 F1 HO HS h3
        go_wp2_with fail
        rw [← HW1.out]
        refine STEP.out.mono ?_
        rintro e w2 ⟨L2, K2, rfl, hbr, ho2, mw2, loc2, step2⟩
        have P2 : Hid (RunW2 R H (.slice la ln lc) w w2 L L2 K K2 o'.m o'.loc) := ⟨ho2, mw2, loc2, P1.out.step.trans step2⟩
        have FIN : Hid (RunPost R H (.slice la ln lc) o' w L K (.returned (.tuple #[.int .i64 obr, .int .i64 oe])) w2) := ⟨L2, K2, by rw [HBR.out, HOE.out], hbr, ho2, mw2, loc2, P1.out.step.trans step2⟩
        rw [HBR.out, HOE.out]
        clear ho2 mw2 loc2 step2 STEP P1 hbr
        by_cases he : oe = 0
        · by_cases hb : obr = -1
          · subst he
            subst hb
            go_wp2
            go_roundg g
            case measure => omega
            case rel => exact ⟨i + 1, o'.m, o'.loc, L2, K2, by omega, by congr 1, HNEXT.out (by simp), P2.out⟩
          · have hb' : (obr != -1) = true := by simpa using hb
            subst he
            go_wp2
            go_ret2
            rw [← HSTOP.out (.inr hb)]
            exact FIN.out
        · have he' : (oe != 0) = true := by simpa using he
          go_wp2
          go_ret2
          rw [← HSTOP.out (.inl he)]
          exact FIN.out
end
end Go.Proofs.Qxb6500575aGreatDoor
