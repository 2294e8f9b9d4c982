/-
  THE WALK of runm.block. Written by tools/gen_yblk.py.
-/
import Derived.Test.Qxb6500575aGreatDoorYSeq
namespace Go.Proofs.Qxb6500575aGreatDoor
open Go Go.RowKit
set_option linter.unusedVariables false
set_option linter.unusedSimpArgs false

section
variable {R : MP} {lv : Value} {w0 w w1 : World} {L0 L L1 : NL} {K0 K K1 : ML} {m m1 : MS} {loc loc1 : List V} {bx : Nat} {c : Ins}
theorem StW.stepM (h : StW R lv loc w0 w L0 L K0 K m bx c) (hm : MW R w1 L1 K1 m1) (hl : LocAt R w1 L1 lv loc1) (hs : MStep R lv w w1 L L1 K K1) : StW R lv loc1 w0 w1 L0 L1 K0 K1 m1 bx c :=
  { mw := hm
    loc := hl
    box := h.box.fr hs.fr (fun hS => by
      rcases hS with (hS | hS) | hS
      · exact h.own.1 hS
      · exact h.own.2.1 hS
      · exact h.own.2.2 hS)
    step := h.step.trans hs
    own := ⟨fun hS => h.own.1 (hs.subN bx h.box.lt hS), fun hS => h.own.2.1 (hs.subK bx h.box.lt hS), h.own.2.2⟩ }
end
theorem cut_parts {h keep : Nat} {st s : List V} (hc : cutV h keep st = some s) : ∃ xs ys zs, st = xs ++ (ys ++ zs) ∧ xs.length = keep ∧ zs.length = h ∧ s = xs ++ zs ∧ st.length ≤ 900 := by
  unfold cutV at hc
  split at hc
  · rename_i hl
    simp at hc
    refine ⟨st.take keep, (st.drop keep).take (st.length - h - keep), st.drop (st.length - h), ?_, by simp; omega, by simp; omega, hc.symm, hl.2⟩
    have e : st.drop (st.length - h) = (st.drop keep).drop (st.length - h - keep) := by
      rw [List.drop_drop]; congr 1; omega
    rw [e, List.take_append_drop, List.take_append_drop]
  · cases hc
section
variable {R : MP} {H : HF HS}
set_option maxRecDepth 100000
set_option maxHeartbeats 1500000
theorem yblk_any (hM : MOk R) {n : Nat} (hS : ∀ g, g < n → SeqW R H g) : BlkW R H n := by
  intro t c m o hc hop hok hs w L K la ln lc f sa sc hsv hsr hd0 hd1 hO hW hL
  obtain ⟨k1, k2, k3, hu, hf, hw, himm, hst, hll, hm8, hmx, hmax⟩ := okS_parts hok
  have hlen : t.src.length ≤ 1000 := hM.src _ (List.mem_of_getElem? hsr)
  have HSW : Hid (∀ g, g < n → SeqW R H g) := hS
  have HSV : Hid (R.LS.vs[f]? = some (.slice sa t.src.length sc) ∧ R.srcs[f]? = some t.src) := ⟨hsv, hsr⟩
  have HD : Hid (0 ≤ t.depth ∧ t.depth ≤ 10) := ⟨hd0, hd1⟩
  have HSINS : Hid (sins R.P H R.max (srun R.P R.srcs H R.max n) t c m = some o) := hs
  have HO : Hid (HostOk R H m) := hO
  have HWW : Hid (MW R w L K m) := hW
  have HTY : Hid (tyS c m.x.st t.loc = true ∧ m.x.st.length ≤ 200) := ⟨k1, hst⟩
  have hlt : t.i < t.src.length := (List.getElem?_eq_some_iff.1 hc).1
  obtain ⟨gs, hgs, hcc⟩ := owns_some (hW.src.src f _ _ hsv hsr).2 (by omega)
  subst hgs
  have q0 := hcc (t.i * 3 + 0) (by omega)
  have q1 := hcc (t.i * 3 + 1) (by omega)
  have q2 := hcc (t.i * 3 + 2) (by omega)
  rw [insCells_at _ _ _ c hc (by omega)] at q0 q1 q2
  simp [Ins.cells] at q0 q1 q2
  have hgl : gs < w.heap.size := owns_lt (hW.src.src f _ _ hsv hsr).2 gs rfl
  have HC : Hid (t.src[t.i]? = some c) := hc
  obtain ⟨w0, HW0⟩ : ∃ w0, Hid (w0 = w.alloc (.cells #[.int .i64 c.op, .int .i64 c.imm, .string ⟨c.tab.toArray⟩] 67)) := ⟨_, rfl⟩
  obtain ⟨bx, HBX⟩ : ∃ bx, Hid (bx = w.heap.size) := ⟨_, rfl⟩
  have P0 : Hid (StW R (.slice la ln lc) t.loc w w0 L L K K m bx c) := by
    show StW _ _ _ _ _ _ _ _ _ _ _ _
    rw [HW0.out, HBX.out]
    exact StW.first hW hL c
  obtain ⟨dp, HDP⟩ : ∃ dp, Hid (t.depth = dp) := ⟨_, rfl⟩
  obtain ⟨sl, HSL⟩ : ∃ sl, Hid (t.src.length = sl) := ⟨_, rfl⟩
  obtain ⟨i, HI⟩ : ∃ i, Hid (t.i = i) := ⟨_, rfl⟩
  rw [HDP.out, HSL.out, HI.out]
  rw [HSL.out] at hlen hlt
  rw [HI.out] at hlt q0 q1 q2
  have hltI : (i : Int) < sl := Int.ofNat_lt.2 hlt
  obtain ⟨cop, cimm, ctab⟩ := c
  simp only at q0 q1 q2 HW0 hop himm
  have hw64 : wrap64 ((i : Int) + 1) = ((i + 1 : Nat) : Int) := by unfold wrap64; omega
  have HB2 : Hid (0 ≤ m.x.used ∧ m.x.fuel ≤ 9223372036854775807) := ⟨hu, hf⟩
  clear hc hs hsv hsr hd0 hd1 hO hW hL hok k1 k2 k3 hu hf hw hst hll hm8 hmx hmax hcc hS himm
  have case_block_z : cop = 1 → cimm = 0 → Calls Tryz.prog 142 #[.pointer (some ⟨R.bn, 0, none⟩), .slice (some ⟨gs, 0, none⟩) sl sc, .int .i64 i, .slice la ln lc, .int .i64 dp] w (RunPost R H (.slice la ln lc) o w L K) := by
    intro hcop himm
    subst hcop
    subst himm
    have hop2 : (1 : Int) ≠ 2 := by decide
    have HTK : Hid (srun R.P R.srcs H R.max n { t with k := 1, i := i + 1, op := 1, h := m.x.st.length, keep := 0 } m = some o) := by
      have h := HSINS.out
      unfold sins at h
      rw [if_pos (by simp), HI.out] at h
      simp at h
      exact h
    have HOA : Hid (HostOk R H m) := HO.out
    clear HSINS
    go_enter Tryz.func142, Tryz.ntmps142
    obtain ⟨hh, HHH⟩ : ∃ hh, Hid ((m).x.st.length = hh) := ⟨_, rfl⟩
    have c3 := HWW.out.inst.here.cell 3
    simp only [List.getElem?_toArray, List.getElem?_cons_succ, List.getElem?_cons_zero] at c3
    rw [HHH.out] at c3
    have l3 := HWW.out.inst.here.lt
    skip
    skip
    skip
    skip
    rw [HHH.out] at HTK
    go_wp2
    rw [← HW0.out, ← HBX.out]
    clear c3 l3
    go_loopg [21] n (fun g ti wr => ∃ (m' : MS) (loc' : List V) (L' : NL) (K' : ML), g ≤ n ∧ Hid (srun R.P R.srcs H R.max g { t with k := 1, i := i + 1, op := 1, h := hh, keep := 0, loc := loc' } m' = some o) ∧ Hid (StW R (.slice la ln lc) loc' w wr L L' K K' m' bx ⟨1, 0, ctab⟩ ∧ HostOk R H m'))
    case atStart => exact ⟨m, t.loc, L, K, Nat.le_refl _, HTK.out, P0.out, HOA.out⟩
    case round =>
      obtain ⟨m', loc', L', K', hgn, HR, HP⟩ := hrel
      clear HTK P0 HOA HHH
      cases gk with
      | zero => exact absurd HR.out (by simp [srun])
      | succ g =>
        obtain ⟨o1, HQ1, HQ2⟩ : ∃ o1, Hid (srun R.P R.srcs H R.max g { t with k := 0, i := i + 1, op := 1, h := hh, keep := 0, loc := loc' } m' = some o1) ∧ Hid ((if o1.e ≠ 0 ∨ o1.br < 0 then some o1 else if 0 < o1.br then some { o1 with br := o1.br - 1 } else match cutV hh 0 o1.m.x.st with | none => none | some s => if (1 : Int) ≠ 2 then some ⟨-1, 0, o1.loc, o1.m.st s⟩ else srun R.P R.srcs H R.max g { t with k := 1, i := i + 1, op := 1, h := hh, keep := 0, loc := o1.loc } (o1.m.st s)) = some o) := by
          have h := HR.out
          rw [srun, if_neg (by simp), if_pos rfl] at h
          unfold sround at h
          split at h
          · cases h
          · rename_i o1 ho1
            exact ⟨o1, ho1, h⟩
        clear HR
        have SEQ : Hid (Calls _ _ _ _ _) := HSW.out g (by omega) { t with k := 0, i := i + 1, op := 1, h := hh, keep := 0, loc := loc' } m' o1 rfl HQ1.out wr L' K' la ln lc f (some ⟨gs, 0, none⟩) sc HSV.out.1 HSV.out.2 HD.out.1 HD.out.2 HP.out.2 HP.out.1.mw HP.out.1.loc
        simp only [HSL.out, HDP.out] at SEQ
        push_cast at SEQ
        obtain ⟨obr, HBR⟩ : ∃ x, Hid (o1.br = x) := ⟨_, rfl⟩
        obtain ⟨oe, HOE⟩ : ∃ x, Hid (o1.e = x) := ⟨_, rfl⟩
        clear HQ1
        go_wp2_with fail
        refine SEQ.out.mono ?_
        rintro e w2 ⟨L2, K2, rfl, hbr, ho2, mw2, loc2, step2⟩
        have P2 : Hid (StW R (.slice la ln lc) o1.loc w w2 L L2 K K2 o1.m bx ⟨1, 0, ctab⟩) := HP.out.1.stepM mw2 loc2 step2
        have HO2 : Hid (HostOk R H o1.m) := ho2
        have HBRR : Hid (-9223372036854775808 ≤ obr ∧ obr < 9223372036854775808) := by rw [← HBR.out]; exact hbr
        have hbr2 := HBRR.out
        have FIN : Hid (RunPost R H (.slice la ln lc) o1 w L K (.returned (.tuple #[.int .i64 obr, .int .i64 oe])) w2) := ⟨L2, K2, by rw [HBR.out, HOE.out], hbr, ho2, mw2, loc2, P2.out.step⟩
        rw [HBR.out, HOE.out]
        rw [HBR.out, HOE.out] at HQ2
        clear ho2 mw2 loc2 step2 hbr SEQ HP
        by_cases he : oe = 0
        · subst he
          by_cases hb : obr < 0
          · have HOO : Hid (o1 = o) := by
              have h := HQ2.out
              rw [if_pos (.inr hb)] at h
              exact Option.some.inj h
            clear HQ2
            go_wp2
            go_ret2
            rw [← HOO.out]
            exact FIN.out
          · by_cases hb0 : 0 < obr
            · have HOO : Hid (⟨obr - 1, 0, o1.loc, o1.m⟩ = o) := by
                have h := HQ2.out
                rw [if_neg (by omega), if_pos hb0] at h
                exact Option.some.inj h
              clear HQ2
              go_wp2
              go_ret2
              rw [← HOO.out]
              exact P2.out.post HO2.out (by have := HBRR.out; omega)
            · obtain rfl : obr = 0 := by omega
              obtain ⟨s, hcut, HQ3⟩ : ∃ s, cutV hh 0 o1.m.x.st = some s ∧ Hid ((if (1 : Int) ≠ 2 then some ⟨-1, 0, o1.loc, o1.m.st s⟩ else srun R.P R.srcs H R.max g { t with k := 1, i := i + 1, op := 1, h := hh, keep := 0, loc := o1.loc } (o1.m.st s)) = some o) := by
                have h := HQ2.out
                rw [if_neg (by simp), if_neg (by simp)] at h
                split at h
                · cases h
                · rename_i s hs
                  exact ⟨s, hs, h⟩
              obtain ⟨xs, ys, zs, e1, e2, e3, e4, e5⟩ := cut_parts hcut
              have CUT : Hid (Calls _ _ _ _ _) := ycut_any P2.out.mw.inst (xs := xs) (ys := ys) (zs := zs) e1 (by omega)
              rw [e2, e3] at CUT
              have HE4 : Hid (s = xs ++ zs) := e4
              clear HQ2 hcut e1 e2 e3 e4 e5
              go_wp2_with fail
              refine CUT.out.mono ?_
              rintro e w3 ⟨rfl, n3, s3⟩
              rw [← HE4.out] at n3
              have P3 : Hid (StW R (.slice la ln lc) o1.loc w w3 L L2 K K2 (o1.m.st s) bx ⟨1, 0, ctab⟩) := P2.out.stepN n3 s3
              have b0 := P3.out.box.cell 0
              simp at b0
              have bl := P3.out.box.lt
              clear n3 s3 CUT P2
              have HOO : Hid (⟨-1, 0, o1.loc, o1.m.st s⟩ = o) := by
                have h := HQ3.out
                rw [if_pos hop2] at h
                exact Option.some.inj h
              clear HQ3
              go_wp2
              go_ret2
              rw [← HOO.out]
              exact P3.out.post (HO2.out.same rfl) ⟨by omega, by omega⟩
        · have HOO : Hid (o1 = o) := by
            have h := HQ2.out
            rw [if_pos (.inl he)] at h
            exact Option.some.inj h
          have he' : (oe != 0) = true := by simpa using he
          clear HQ2
          go_wp2
          go_ret2
          rw [← HOO.out]
          exact FIN.out
  have case_block_n : cop = 1 → ¬ cimm = 0 → Calls Tryz.prog 142 #[.pointer (some ⟨R.bn, 0, none⟩), .slice (some ⟨gs, 0, none⟩) sl sc, .int .i64 i, .slice la ln lc, .int .i64 dp] w (RunPost R H (.slice la ln lc) o w L K) := by
    intro hcop himm
    subst hcop
    have himm2 : (cimm == 0) = false := beq_eq_false_iff_ne.2 himm
    have hop2 : (1 : Int) ≠ 2 := by decide
    have HTK : Hid (srun R.P R.srcs H R.max n { t with k := 1, i := i + 1, op := 1, h := m.x.st.length, keep := 1 } m = some o) := by
      have h := HSINS.out
      unfold sins at h
      rw [if_pos (by simp), HI.out] at h
      simp [himm] at h
      exact h
    have HOA : Hid (HostOk R H m) := HO.out
    clear HSINS
    go_enter Tryz.func142, Tryz.ntmps142
    obtain ⟨hh, HHH⟩ : ∃ hh, Hid ((m).x.st.length = hh) := ⟨_, rfl⟩
    have c3 := HWW.out.inst.here.cell 3
    simp only [List.getElem?_toArray, List.getElem?_cons_succ, List.getElem?_cons_zero] at c3
    rw [HHH.out] at c3
    have l3 := HWW.out.inst.here.lt
    skip
    skip
    skip
    skip
    rw [HHH.out] at HTK
    go_wp2
    rw [← HW0.out, ← HBX.out]
    clear c3 l3
    go_loopg [21] n (fun g ti wr => ∃ (m' : MS) (loc' : List V) (L' : NL) (K' : ML), g ≤ n ∧ Hid (srun R.P R.srcs H R.max g { t with k := 1, i := i + 1, op := 1, h := hh, keep := 1, loc := loc' } m' = some o) ∧ Hid (StW R (.slice la ln lc) loc' w wr L L' K K' m' bx ⟨1, cimm, ctab⟩ ∧ HostOk R H m'))
    case atStart => exact ⟨m, t.loc, L, K, Nat.le_refl _, HTK.out, P0.out, HOA.out⟩
    case round =>
      obtain ⟨m', loc', L', K', hgn, HR, HP⟩ := hrel
      clear HTK P0 HOA HHH
      cases gk with
      | zero => exact absurd HR.out (by simp [srun])
      | succ g =>
        obtain ⟨o1, HQ1, HQ2⟩ : ∃ o1, Hid (srun R.P R.srcs H R.max g { t with k := 0, i := i + 1, op := 1, h := hh, keep := 1, loc := loc' } m' = some o1) ∧ Hid ((if o1.e ≠ 0 ∨ o1.br < 0 then some o1 else if 0 < o1.br then some { o1 with br := o1.br - 1 } else match cutV hh 1 o1.m.x.st with | none => none | some s => if (1 : Int) ≠ 2 then some ⟨-1, 0, o1.loc, o1.m.st s⟩ else srun R.P R.srcs H R.max g { t with k := 1, i := i + 1, op := 1, h := hh, keep := 1, loc := o1.loc } (o1.m.st s)) = some o) := by
          have h := HR.out
          rw [srun, if_neg (by simp), if_pos rfl] at h
          unfold sround at h
          split at h
          · cases h
          · rename_i o1 ho1
            exact ⟨o1, ho1, h⟩
        clear HR
        have SEQ : Hid (Calls _ _ _ _ _) := HSW.out g (by omega) { t with k := 0, i := i + 1, op := 1, h := hh, keep := 1, loc := loc' } m' o1 rfl HQ1.out wr L' K' la ln lc f (some ⟨gs, 0, none⟩) sc HSV.out.1 HSV.out.2 HD.out.1 HD.out.2 HP.out.2 HP.out.1.mw HP.out.1.loc
        simp only [HSL.out, HDP.out] at SEQ
        push_cast at SEQ
        obtain ⟨obr, HBR⟩ : ∃ x, Hid (o1.br = x) := ⟨_, rfl⟩
        obtain ⟨oe, HOE⟩ : ∃ x, Hid (o1.e = x) := ⟨_, rfl⟩
        clear HQ1
        go_wp2_with fail
        refine SEQ.out.mono ?_
        rintro e w2 ⟨L2, K2, rfl, hbr, ho2, mw2, loc2, step2⟩
        have P2 : Hid (StW R (.slice la ln lc) o1.loc w w2 L L2 K K2 o1.m bx ⟨1, cimm, ctab⟩) := HP.out.1.stepM mw2 loc2 step2
        have HO2 : Hid (HostOk R H o1.m) := ho2
        have HBRR : Hid (-9223372036854775808 ≤ obr ∧ obr < 9223372036854775808) := by rw [← HBR.out]; exact hbr
        have hbr2 := HBRR.out
        have FIN : Hid (RunPost R H (.slice la ln lc) o1 w L K (.returned (.tuple #[.int .i64 obr, .int .i64 oe])) w2) := ⟨L2, K2, by rw [HBR.out, HOE.out], hbr, ho2, mw2, loc2, P2.out.step⟩
        rw [HBR.out, HOE.out]
        rw [HBR.out, HOE.out] at HQ2
        clear ho2 mw2 loc2 step2 hbr SEQ HP
        by_cases he : oe = 0
        · subst he
          by_cases hb : obr < 0
          · have HOO : Hid (o1 = o) := by
              have h := HQ2.out
              rw [if_pos (.inr hb)] at h
              exact Option.some.inj h
            clear HQ2
            go_wp2
            go_ret2
            rw [← HOO.out]
            exact FIN.out
          · by_cases hb0 : 0 < obr
            · have HOO : Hid (⟨obr - 1, 0, o1.loc, o1.m⟩ = o) := by
                have h := HQ2.out
                rw [if_neg (by omega), if_pos hb0] at h
                exact Option.some.inj h
              clear HQ2
              go_wp2
              go_ret2
              rw [← HOO.out]
              exact P2.out.post HO2.out (by have := HBRR.out; omega)
            · obtain rfl : obr = 0 := by omega
              obtain ⟨s, hcut, HQ3⟩ : ∃ s, cutV hh 1 o1.m.x.st = some s ∧ Hid ((if (1 : Int) ≠ 2 then some ⟨-1, 0, o1.loc, o1.m.st s⟩ else srun R.P R.srcs H R.max g { t with k := 1, i := i + 1, op := 1, h := hh, keep := 1, loc := o1.loc } (o1.m.st s)) = some o) := by
                have h := HQ2.out
                rw [if_neg (by simp), if_neg (by simp)] at h
                split at h
                · cases h
                · rename_i s hs
                  exact ⟨s, hs, h⟩
              obtain ⟨xs, ys, zs, e1, e2, e3, e4, e5⟩ := cut_parts hcut
              have CUT : Hid (Calls _ _ _ _ _) := ycut_any P2.out.mw.inst (xs := xs) (ys := ys) (zs := zs) e1 (by omega)
              rw [e2, e3] at CUT
              have HE4 : Hid (s = xs ++ zs) := e4
              clear HQ2 hcut e1 e2 e3 e4 e5
              go_wp2_with fail
              refine CUT.out.mono ?_
              rintro e w3 ⟨rfl, n3, s3⟩
              rw [← HE4.out] at n3
              have P3 : Hid (StW R (.slice la ln lc) o1.loc w w3 L L2 K K2 (o1.m.st s) bx ⟨1, cimm, ctab⟩) := P2.out.stepN n3 s3
              have b0 := P3.out.box.cell 0
              simp at b0
              have bl := P3.out.box.lt
              clear n3 s3 CUT P2
              have HOO : Hid (⟨-1, 0, o1.loc, o1.m.st s⟩ = o) := by
                have h := HQ3.out
                rw [if_pos hop2] at h
                exact Option.some.inj h
              clear HQ3
              go_wp2
              go_ret2
              rw [← HOO.out]
              exact P3.out.post (HO2.out.same rfl) ⟨by omega, by omega⟩
        · have HOO : Hid (o1 = o) := by
            have h := HQ2.out
            rw [if_pos (.inl he)] at h
            exact Option.some.inj h
          have he' : (oe != 0) = true := by simpa using he
          clear HQ2
          go_wp2
          go_ret2
          rw [← HOO.out]
          exact FIN.out
  have case_loop_z : cop = 2 → cimm = 0 → Calls Tryz.prog 142 #[.pointer (some ⟨R.bn, 0, none⟩), .slice (some ⟨gs, 0, none⟩) sl sc, .int .i64 i, .slice la ln lc, .int .i64 dp] w (RunPost R H (.slice la ln lc) o w L K) := by
    intro hcop himm
    subst hcop
    subst himm
    skip
    have HTK : Hid (srun R.P R.srcs H R.max n { t with k := 1, i := i + 1, op := 2, h := m.x.st.length, keep := 0 } m = some o) := by
      have h := HSINS.out
      unfold sins at h
      rw [if_pos (by simp), HI.out] at h
      simp at h
      exact h
    have HOA : Hid (HostOk R H m) := HO.out
    clear HSINS
    go_enter Tryz.func142, Tryz.ntmps142
    obtain ⟨hh, HHH⟩ : ∃ hh, Hid ((m).x.st.length = hh) := ⟨_, rfl⟩
    have c3 := HWW.out.inst.here.cell 3
    simp only [List.getElem?_toArray, List.getElem?_cons_succ, List.getElem?_cons_zero] at c3
    rw [HHH.out] at c3
    have l3 := HWW.out.inst.here.lt
    skip
    skip
    skip
    skip
    rw [HHH.out] at HTK
    go_wp2
    rw [← HW0.out, ← HBX.out]
    clear c3 l3
    go_loopg [21] n (fun g ti wr => ∃ (m' : MS) (loc' : List V) (L' : NL) (K' : ML), g ≤ n ∧ Hid (srun R.P R.srcs H R.max g { t with k := 1, i := i + 1, op := 2, h := hh, keep := 0, loc := loc' } m' = some o) ∧ Hid (StW R (.slice la ln lc) loc' w wr L L' K K' m' bx ⟨2, 0, ctab⟩ ∧ HostOk R H m'))
    case atStart => exact ⟨m, t.loc, L, K, Nat.le_refl _, HTK.out, P0.out, HOA.out⟩
    case round =>
      obtain ⟨m', loc', L', K', hgn, HR, HP⟩ := hrel
      clear HTK P0 HOA HHH
      cases gk with
      | zero => exact absurd HR.out (by simp [srun])
      | succ g =>
        obtain ⟨o1, HQ1, HQ2⟩ : ∃ o1, Hid (srun R.P R.srcs H R.max g { t with k := 0, i := i + 1, op := 2, h := hh, keep := 0, loc := loc' } m' = some o1) ∧ Hid ((if o1.e ≠ 0 ∨ o1.br < 0 then some o1 else if 0 < o1.br then some { o1 with br := o1.br - 1 } else match cutV hh 0 o1.m.x.st with | none => none | some s => if (2 : Int) ≠ 2 then some ⟨-1, 0, o1.loc, o1.m.st s⟩ else srun R.P R.srcs H R.max g { t with k := 1, i := i + 1, op := 2, h := hh, keep := 0, loc := o1.loc } (o1.m.st s)) = some o) := by
          have h := HR.out
          rw [srun, if_neg (by simp), if_pos rfl] at h
          unfold sround at h
          split at h
          · cases h
          · rename_i o1 ho1
            exact ⟨o1, ho1, h⟩
        clear HR
        have SEQ : Hid (Calls _ _ _ _ _) := HSW.out g (by omega) { t with k := 0, i := i + 1, op := 2, h := hh, keep := 0, loc := loc' } m' o1 rfl HQ1.out wr L' K' la ln lc f (some ⟨gs, 0, none⟩) sc HSV.out.1 HSV.out.2 HD.out.1 HD.out.2 HP.out.2 HP.out.1.mw HP.out.1.loc
        simp only [HSL.out, HDP.out] at SEQ
        push_cast at SEQ
        obtain ⟨obr, HBR⟩ : ∃ x, Hid (o1.br = x) := ⟨_, rfl⟩
        obtain ⟨oe, HOE⟩ : ∃ x, Hid (o1.e = x) := ⟨_, rfl⟩
        clear HQ1
        go_wp2_with fail
        refine SEQ.out.mono ?_
        rintro e w2 ⟨L2, K2, rfl, hbr, ho2, mw2, loc2, step2⟩
        have P2 : Hid (StW R (.slice la ln lc) o1.loc w w2 L L2 K K2 o1.m bx ⟨2, 0, ctab⟩) := HP.out.1.stepM mw2 loc2 step2
        have HO2 : Hid (HostOk R H o1.m) := ho2
        have HBRR : Hid (-9223372036854775808 ≤ obr ∧ obr < 9223372036854775808) := by rw [← HBR.out]; exact hbr
        have hbr2 := HBRR.out
        have FIN : Hid (RunPost R H (.slice la ln lc) o1 w L K (.returned (.tuple #[.int .i64 obr, .int .i64 oe])) w2) := ⟨L2, K2, by rw [HBR.out, HOE.out], hbr, ho2, mw2, loc2, P2.out.step⟩
        rw [HBR.out, HOE.out]
        rw [HBR.out, HOE.out] at HQ2
        clear ho2 mw2 loc2 step2 hbr SEQ HP
        by_cases he : oe = 0
        · subst he
          by_cases hb : obr < 0
          · have HOO : Hid (o1 = o) := by
              have h := HQ2.out
              rw [if_pos (.inr hb)] at h
              exact Option.some.inj h
            clear HQ2
            go_wp2
            go_ret2
            rw [← HOO.out]
            exact FIN.out
          · by_cases hb0 : 0 < obr
            · have HOO : Hid (⟨obr - 1, 0, o1.loc, o1.m⟩ = o) := by
                have h := HQ2.out
                rw [if_neg (by omega), if_pos hb0] at h
                exact Option.some.inj h
              clear HQ2
              go_wp2
              go_ret2
              rw [← HOO.out]
              exact P2.out.post HO2.out (by have := HBRR.out; omega)
            · obtain rfl : obr = 0 := by omega
              obtain ⟨s, hcut, HQ3⟩ : ∃ s, cutV hh 0 o1.m.x.st = some s ∧ Hid ((if (2 : Int) ≠ 2 then some ⟨-1, 0, o1.loc, o1.m.st s⟩ else srun R.P R.srcs H R.max g { t with k := 1, i := i + 1, op := 2, h := hh, keep := 0, loc := o1.loc } (o1.m.st s)) = some o) := by
                have h := HQ2.out
                rw [if_neg (by simp), if_neg (by simp)] at h
                split at h
                · cases h
                · rename_i s hs
                  exact ⟨s, hs, h⟩
              obtain ⟨xs, ys, zs, e1, e2, e3, e4, e5⟩ := cut_parts hcut
              have CUT : Hid (Calls _ _ _ _ _) := ycut_any P2.out.mw.inst (xs := xs) (ys := ys) (zs := zs) e1 (by omega)
              rw [e2, e3] at CUT
              have HE4 : Hid (s = xs ++ zs) := e4
              clear HQ2 hcut e1 e2 e3 e4 e5
              go_wp2_with fail
              refine CUT.out.mono ?_
              rintro e w3 ⟨rfl, n3, s3⟩
              rw [← HE4.out] at n3
              have P3 : Hid (StW R (.slice la ln lc) o1.loc w w3 L L2 K K2 (o1.m.st s) bx ⟨2, 0, ctab⟩) := P2.out.stepN n3 s3
              have b0 := P3.out.box.cell 0
              simp at b0
              have bl := P3.out.box.lt
              clear n3 s3 CUT P2
              have HQ4 : Hid (srun R.P R.srcs H R.max g { t with k := 1, i := i + 1, op := 2, h := hh, keep := 0, loc := o1.loc } (o1.m.st s) = some o) := by
                have h := HQ3.out
                rw [if_neg (by simp)] at h
                exact h
              clear HQ3
              go_wp2
              go_roundg g
              case measure => omega
              case rel => exact ⟨o1.m.st s, o1.loc, L2, K2, by omega, HQ4.out, P3.out, HO2.out.same rfl⟩
        · have HOO : Hid (o1 = o) := by
            have h := HQ2.out
            rw [if_pos (.inl he)] at h
            exact Option.some.inj h
          have he' : (oe != 0) = true := by simpa using he
          clear HQ2
          go_wp2
          go_ret2
          rw [← HOO.out]
          exact FIN.out
  have case_loop_n : cop = 2 → ¬ cimm = 0 → Calls Tryz.prog 142 #[.pointer (some ⟨R.bn, 0, none⟩), .slice (some ⟨gs, 0, none⟩) sl sc, .int .i64 i, .slice la ln lc, .int .i64 dp] w (RunPost R H (.slice la ln lc) o w L K) := by
    intro hcop himm
    subst hcop
    have himm2 : (cimm == 0) = false := beq_eq_false_iff_ne.2 himm
    skip
    have HTK : Hid (srun R.P R.srcs H R.max n { t with k := 1, i := i + 1, op := 2, h := m.x.st.length, keep := 0 } m = some o) := by
      have h := HSINS.out
      unfold sins at h
      rw [if_pos (by simp), HI.out] at h
      simp [himm] at h
      exact h
    have HOA : Hid (HostOk R H m) := HO.out
    clear HSINS
    go_enter Tryz.func142, Tryz.ntmps142
    obtain ⟨hh, HHH⟩ : ∃ hh, Hid ((m).x.st.length = hh) := ⟨_, rfl⟩
    have c3 := HWW.out.inst.here.cell 3
    simp only [List.getElem?_toArray, List.getElem?_cons_succ, List.getElem?_cons_zero] at c3
    rw [HHH.out] at c3
    have l3 := HWW.out.inst.here.lt
    skip
    skip
    skip
    skip
    rw [HHH.out] at HTK
    go_wp2
    rw [← HW0.out, ← HBX.out]
    clear c3 l3
    go_loopg [21] n (fun g ti wr => ∃ (m' : MS) (loc' : List V) (L' : NL) (K' : ML), g ≤ n ∧ Hid (srun R.P R.srcs H R.max g { t with k := 1, i := i + 1, op := 2, h := hh, keep := 0, loc := loc' } m' = some o) ∧ Hid (StW R (.slice la ln lc) loc' w wr L L' K K' m' bx ⟨2, cimm, ctab⟩ ∧ HostOk R H m'))
    case atStart => exact ⟨m, t.loc, L, K, Nat.le_refl _, HTK.out, P0.out, HOA.out⟩
    case round =>
      obtain ⟨m', loc', L', K', hgn, HR, HP⟩ := hrel
      clear HTK P0 HOA HHH
      cases gk with
      | zero => exact absurd HR.out (by simp [srun])
      | succ g =>
        obtain ⟨o1, HQ1, HQ2⟩ : ∃ o1, Hid (srun R.P R.srcs H R.max g { t with k := 0, i := i + 1, op := 2, h := hh, keep := 0, loc := loc' } m' = some o1) ∧ Hid ((if o1.e ≠ 0 ∨ o1.br < 0 then some o1 else if 0 < o1.br then some { o1 with br := o1.br - 1 } else match cutV hh 0 o1.m.x.st with | none => none | some s => if (2 : Int) ≠ 2 then some ⟨-1, 0, o1.loc, o1.m.st s⟩ else srun R.P R.srcs H R.max g { t with k := 1, i := i + 1, op := 2, h := hh, keep := 0, loc := o1.loc } (o1.m.st s)) = some o) := by
          have h := HR.out
          rw [srun, if_neg (by simp), if_pos rfl] at h
          unfold sround at h
          split at h
          · cases h
          · rename_i o1 ho1
            exact ⟨o1, ho1, h⟩
        clear HR
        have SEQ : Hid (Calls _ _ _ _ _) := HSW.out g (by omega) { t with k := 0, i := i + 1, op := 2, h := hh, keep := 0, loc := loc' } m' o1 rfl HQ1.out wr L' K' la ln lc f (some ⟨gs, 0, none⟩) sc HSV.out.1 HSV.out.2 HD.out.1 HD.out.2 HP.out.2 HP.out.1.mw HP.out.1.loc
        simp only [HSL.out, HDP.out] at SEQ
        push_cast at SEQ
        obtain ⟨obr, HBR⟩ : ∃ x, Hid (o1.br = x) := ⟨_, rfl⟩
        obtain ⟨oe, HOE⟩ : ∃ x, Hid (o1.e = x) := ⟨_, rfl⟩
        clear HQ1
        go_wp2_with fail
        refine SEQ.out.mono ?_
        rintro e w2 ⟨L2, K2, rfl, hbr, ho2, mw2, loc2, step2⟩
        have P2 : Hid (StW R (.slice la ln lc) o1.loc w w2 L L2 K K2 o1.m bx ⟨2, cimm, ctab⟩) := HP.out.1.stepM mw2 loc2 step2
        have HO2 : Hid (HostOk R H o1.m) := ho2
        have HBRR : Hid (-9223372036854775808 ≤ obr ∧ obr < 9223372036854775808) := by rw [← HBR.out]; exact hbr
        have hbr2 := HBRR.out
        have FIN : Hid (RunPost R H (.slice la ln lc) o1 w L K (.returned (.tuple #[.int .i64 obr, .int .i64 oe])) w2) := ⟨L2, K2, by rw [HBR.out, HOE.out], hbr, ho2, mw2, loc2, P2.out.step⟩
        rw [HBR.out, HOE.out]
        rw [HBR.out, HOE.out] at HQ2
        clear ho2 mw2 loc2 step2 hbr SEQ HP
        by_cases he : oe = 0
        · subst he
          by_cases hb : obr < 0
          · have HOO : Hid (o1 = o) := by
              have h := HQ2.out
              rw [if_pos (.inr hb)] at h
              exact Option.some.inj h
            clear HQ2
            go_wp2
            go_ret2
            rw [← HOO.out]
            exact FIN.out
          · by_cases hb0 : 0 < obr
            · have HOO : Hid (⟨obr - 1, 0, o1.loc, o1.m⟩ = o) := by
                have h := HQ2.out
                rw [if_neg (by omega), if_pos hb0] at h
                exact Option.some.inj h
              clear HQ2
              go_wp2
              go_ret2
              rw [← HOO.out]
              exact P2.out.post HO2.out (by have := HBRR.out; omega)
            · obtain rfl : obr = 0 := by omega
              obtain ⟨s, hcut, HQ3⟩ : ∃ s, cutV hh 0 o1.m.x.st = some s ∧ Hid ((if (2 : Int) ≠ 2 then some ⟨-1, 0, o1.loc, o1.m.st s⟩ else srun R.P R.srcs H R.max g { t with k := 1, i := i + 1, op := 2, h := hh, keep := 0, loc := o1.loc } (o1.m.st s)) = some o) := by
                have h := HQ2.out
                rw [if_neg (by simp), if_neg (by simp)] at h
                split at h
                · cases h
                · rename_i s hs
                  exact ⟨s, hs, h⟩
              obtain ⟨xs, ys, zs, e1, e2, e3, e4, e5⟩ := cut_parts hcut
              have CUT : Hid (Calls _ _ _ _ _) := ycut_any P2.out.mw.inst (xs := xs) (ys := ys) (zs := zs) e1 (by omega)
              rw [e2, e3] at CUT
              have HE4 : Hid (s = xs ++ zs) := e4
              clear HQ2 hcut e1 e2 e3 e4 e5
              go_wp2_with fail
              refine CUT.out.mono ?_
              rintro e w3 ⟨rfl, n3, s3⟩
              rw [← HE4.out] at n3
              have P3 : Hid (StW R (.slice la ln lc) o1.loc w w3 L L2 K K2 (o1.m.st s) bx ⟨2, cimm, ctab⟩) := P2.out.stepN n3 s3
              have b0 := P3.out.box.cell 0
              simp at b0
              have bl := P3.out.box.lt
              clear n3 s3 CUT P2
              have HQ4 : Hid (srun R.P R.srcs H R.max g { t with k := 1, i := i + 1, op := 2, h := hh, keep := 0, loc := o1.loc } (o1.m.st s) = some o) := by
                have h := HQ3.out
                rw [if_neg (by simp)] at h
                exact h
              clear HQ3
              go_wp2
              go_roundg g
              case measure => omega
              case rel => exact ⟨o1.m.st s, o1.loc, L2, K2, by omega, HQ4.out, P3.out, HO2.out.same rfl⟩
        · have HOO : Hid (o1 = o) := by
            have h := HQ2.out
            rw [if_pos (.inl he)] at h
            exact Option.some.inj h
          have he' : (oe != 0) = true := by simpa using he
          clear HQ2
          go_wp2
          go_ret2
          rw [← HOO.out]
          exact FIN.out
  have case_if : cop = 3 → Calls Tryz.prog 142 #[.pointer (some ⟨R.bn, 0, none⟩), .slice (some ⟨gs, 0, none⟩) sl sc, .int .i64 i, .slice la ln lc, .int .i64 dp] w (RunPost R H (.slice la ln lc) o w L K) := by
    intro hcop
    subst hcop
    have hop2 : (3 : Int) ≠ 2 := by decide
    by_cases hp : m.x.pay.2 = 0
    · obtain ⟨v, r, hst, hv5⟩ : ∃ v r, m.x.st = v :: r ∧ v.ty = 105 := by
        have h := HTY.out.1
        unfold tyS at h
        rw [if_pos (by simp)] at h
        cases hs0 : m.x.st with
        | nil => rw [hs0] at h; simp at h
        | cons v r => rw [hs0] at h; simp at h; exact ⟨v, r, rfl, h⟩
      have hrl : r.length ≤ 200 := by have := HTY.out.2; rw [hst] at this; simp at this; omega
      have HSI2 : Hid ((if v.num = 0 then (if (endsM t.src i).1 < 0 then some ⟨-1, 0, t.loc, m.pd.st r⟩ else srun R.P R.srcs H R.max n { t with k := 1, i := ((endsM t.src i).1 + 1).toNat, op := 3, h := r.length, keep := if cimm ≠ 0 then 1 else 0 } (m.pd.st r)) else srun R.P R.srcs H R.max n { t with k := 1, i := i + 1, op := 3, h := r.length, keep := if cimm ≠ 0 then 1 else 0 } (m.pd.st r)) = some o) := by
        have h := HSINS.out
        unfold sins at h
        rw [if_neg (by simp), if_neg (by rw [hp]; simp), if_pos rfl, show m.x.pay.1.st = v :: r from (pay_st m.x).trans hst, HI.out] at h
        simp at h
        simp
        exact h
      have HST : Hid (m.x.st = v :: r) := hst
      have HOA : Hid (HostOk R H (m.pd.st r)) := HO.out.pay.same rfl
      obtain ⟨vn, HVN⟩ : ∃ vn, Hid (v.num = vn) := ⟨_, rfl⟩
      have hx := endsR_range (t.src.drop (i + 1)) ((i : Int) + 1) (-1) 0 (by omega) (by omega) (by omega)
      have hE1 : -1 ≤ (endsM t.src i).1 ∧ (endsM t.src i).1 ≤ 100000 := by
        have hd : ((t.src.drop (i + 1)).length : Int) ≤ 1000 := by rw [List.length_drop, HSL.out]; omega
        have h1 : -1 ≤ (endsM t.src i).1 := hx.1.1
        have h2 : (endsM t.src i).1 ≤ (i : Int) + 1 + (t.src.drop (i + 1)).length := hx.1.2
        omega
      have ENDS : Hid (∀ W L2 K2 m2, MW R W L2 K2 m2 → Calls Tryz.prog 76 #[.slice (some ⟨gs, 0, none⟩) sl sc, .int .i64 i] W fun e w' => e = .returned (.tuple #[.int .i64 (endsM t.src i).1, .int .i64 (endsM t.src i).2]) ∧ w' = W) := fun W L2 K2 m2 h => by
        have := ends_any t.src (some ⟨gs, 0, none⟩) sc i W (h.src.src f _ _ HSV.out.1 HSV.out.2).2 (by rw [HSL.out]; exact hlen) (by rw [HSL.out]; exact hlt)
        rw [HSL.out] at this
        exact this
      obtain ⟨en1, HEN1⟩ : ∃ x, Hid ((endsM t.src i).1 = x) := ⟨_, rfl⟩
      obtain ⟨en, HEN⟩ : ∃ x, Hid ((endsM t.src i).2 = x) := ⟨_, rfl⟩
      rw [HEN1.out, HEN.out] at ENDS
      rw [HEN1.out] at hE1 HSI2
      rw [HVN.out] at HSI2
      clear HSINS hx hst
      by_cases hv : vn = 0
      · rw [if_pos hv] at HSI2
        subst hv
        by_cases hel : en1 < 0
        · rw [if_pos hel] at HSI2
          have HOO : Hid (⟨-1, 0, t.loc, m.pd.st r⟩ = o) := Option.some.inj HSI2.out
          clear HSI2
          go_enter Tryz.func142, Tryz.ntmps142
          go_wp2_with fail
          rw [← HW0.out, ← HBX.out]
          refine (payed P0.out.mw HB2.out.1 HB2.out.2 hp).mono ?_
          rintro e w1 ⟨rfl, m1, s1⟩
          have P1 : Hid (StW R (.slice la ln lc) t.loc w w1 L L K K m.pd bx ⟨3, cimm, ctab⟩) := P0.out.stepN m1.inst s1
          clear m1 s1 P0
          go_wp2_with fail
          refine (ypop_any P1.out.mw.inst (show m.pd.x.st = v :: r from (pay_st m.x).trans HST.out) (by omega) hv5).mono ?_
          rintro e w2 ⟨rfl, n2, s2⟩
          have P2 : Hid (StW R (.slice la ln lc) t.loc w w2 L L K K (m.pd.st r) bx ⟨3, cimm, ctab⟩) := P1.out.stepN n2 s2
          rw [HVN.out]
          clear n2 s2 P1
          go_wp2_with fail
          refine (ENDS.out w2 L K _ P2.out.mw).mono ?_
          rintro e w3 ⟨rfl, hw3⟩
          rw [hw3]
          clear hw3 w3 ENDS
          go_wp2
          go_ret2
          rw [← HOO.out]
          exact P2.out.post HOA.out ⟨by omega, by omega⟩
        · rw [if_neg hel] at HSI2
          obtain ⟨iA, HIA⟩ : ∃ iA : Nat, Hid (en1 + 1 = iA) := ⟨(en1 + 1).toNat, by show _ = _; omega⟩
          have HSI3 : Hid (srun R.P R.srcs H R.max n { t with k := 1, i := iA, op := 3, h := r.length, keep := if cimm ≠ 0 then 1 else 0 } (m.pd.st r) = some o) := by
            have h := HSI2.out
            rw [HIA.out, Int.toNat_natCast] at h
            exact h
          have hia : en1 + 1 = (iA : Int) := HIA.out
          clear HSI2
          by_cases himm : cimm = 0
          · have HTK : Hid (srun R.P R.srcs H R.max n { t with k := 1, i := iA, op := 3, h := (m.pd.st r).x.st.length, keep := 0 } (m.pd.st r) = some o) := by
              have h := HSI3.out
              rw [if_neg (by simp [himm])] at h
              exact h
            subst himm
            clear HSI3
            go_enter Tryz.func142, Tryz.ntmps142
            go_wp2_with fail
            rw [← HW0.out, ← HBX.out]
            refine (payed P0.out.mw HB2.out.1 HB2.out.2 hp).mono ?_
            rintro e w1 ⟨rfl, m1, s1⟩
            have P1 : Hid (StW R (.slice la ln lc) t.loc w w1 L L K K m.pd bx ⟨3, 0, ctab⟩) := P0.out.stepN m1.inst s1
            clear m1 s1 P0
            go_wp2_with fail
            refine (ypop_any P1.out.mw.inst (show m.pd.x.st = v :: r from (pay_st m.x).trans HST.out) (by omega) hv5).mono ?_
            rintro e w2 ⟨rfl, n2, s2⟩
            have P2 : Hid (StW R (.slice la ln lc) t.loc w w2 L L K K (m.pd.st r) bx ⟨3, 0, ctab⟩) := P1.out.stepN n2 s2
            rw [HVN.out]
            clear n2 s2 P1
            go_wp2_with fail
            refine (ENDS.out w2 L K _ P2.out.mw).mono ?_
            rintro e w3 ⟨rfl, hw3⟩
            rw [hw3]
            clear hw3 w3 ENDS
            obtain ⟨hh, HHH⟩ : ∃ hh, Hid (((m.pd.st r)).x.st.length = hh) := ⟨_, rfl⟩
            have c3 := P2.out.mw.inst.here.cell 3
            simp only [List.getElem?_toArray, List.getElem?_cons_succ, List.getElem?_cons_zero] at c3
            rw [HHH.out] at c3
            have l3 := P2.out.mw.inst.here.lt
            have b0 := P2.out.box.cell 0
            have b1 := P2.out.box.cell 1
            simp at b0 b1
            have bl := P2.out.box.lt
            rw [HHH.out] at HTK
            go_wp2
            clear b0 b1 bl
            clear c3 l3
            go_loopg [21] n (fun g ti wr => ∃ (m' : MS) (loc' : List V) (L' : NL) (K' : ML), g ≤ n ∧ Hid (srun R.P R.srcs H R.max g { t with k := 1, i := iA, op := 3, h := hh, keep := 0, loc := loc' } m' = some o) ∧ Hid (StW R (.slice la ln lc) loc' w wr L L' K K' m' bx ⟨3, 0, ctab⟩ ∧ HostOk R H m'))
            case atStart => exact ⟨(m.pd.st r), t.loc, L, K, Nat.le_refl _, HTK.out, P2.out, HOA.out⟩
            case round =>
              obtain ⟨m', loc', L', K', hgn, HR, HP⟩ := hrel
              clear HTK P2 HOA HHH
              cases gk with
              | zero => exact absurd HR.out (by simp [srun])
              | succ g =>
                obtain ⟨o1, HQ1, HQ2⟩ : ∃ o1, Hid (srun R.P R.srcs H R.max g { t with k := 0, i := iA, op := 3, h := hh, keep := 0, loc := loc' } m' = some o1) ∧ Hid ((if o1.e ≠ 0 ∨ o1.br < 0 then some o1 else if 0 < o1.br then some { o1 with br := o1.br - 1 } else match cutV hh 0 o1.m.x.st with | none => none | some s => if (3 : Int) ≠ 2 then some ⟨-1, 0, o1.loc, o1.m.st s⟩ else srun R.P R.srcs H R.max g { t with k := 1, i := iA, op := 3, h := hh, keep := 0, loc := o1.loc } (o1.m.st s)) = some o) := by
                  have h := HR.out
                  rw [srun, if_neg (by simp), if_pos rfl] at h
                  unfold sround at h
                  split at h
                  · cases h
                  · rename_i o1 ho1
                    exact ⟨o1, ho1, h⟩
                clear HR
                have SEQ : Hid (Calls _ _ _ _ _) := HSW.out g (by omega) { t with k := 0, i := iA, op := 3, h := hh, keep := 0, loc := loc' } m' o1 rfl HQ1.out wr L' K' la ln lc f (some ⟨gs, 0, none⟩) sc HSV.out.1 HSV.out.2 HD.out.1 HD.out.2 HP.out.2 HP.out.1.mw HP.out.1.loc
                simp only [HSL.out, HDP.out] at SEQ
                push_cast at SEQ
                obtain ⟨obr, HBR⟩ : ∃ x, Hid (o1.br = x) := ⟨_, rfl⟩
                obtain ⟨oe, HOE⟩ : ∃ x, Hid (o1.e = x) := ⟨_, rfl⟩
                clear HQ1
                go_wp2_with fail
                refine SEQ.out.mono ?_
                rintro e w2 ⟨L2, K2, rfl, hbr, ho2, mw2, loc2, step2⟩
                have P2 : Hid (StW R (.slice la ln lc) o1.loc w w2 L L2 K K2 o1.m bx ⟨3, 0, ctab⟩) := HP.out.1.stepM mw2 loc2 step2
                have HO2 : Hid (HostOk R H o1.m) := ho2
                have HBRR : Hid (-9223372036854775808 ≤ obr ∧ obr < 9223372036854775808) := by rw [← HBR.out]; exact hbr
                have hbr2 := HBRR.out
                have FIN : Hid (RunPost R H (.slice la ln lc) o1 w L K (.returned (.tuple #[.int .i64 obr, .int .i64 oe])) w2) := ⟨L2, K2, by rw [HBR.out, HOE.out], hbr, ho2, mw2, loc2, P2.out.step⟩
                rw [HBR.out, HOE.out]
                rw [HBR.out, HOE.out] at HQ2
                clear ho2 mw2 loc2 step2 hbr SEQ HP
                by_cases he : oe = 0
                · subst he
                  by_cases hb : obr < 0
                  · have HOO : Hid (o1 = o) := by
                      have h := HQ2.out
                      rw [if_pos (.inr hb)] at h
                      exact Option.some.inj h
                    clear HQ2
                    go_wp2
                    go_ret2
                    rw [← HOO.out]
                    exact FIN.out
                  · by_cases hb0 : 0 < obr
                    · have HOO : Hid (⟨obr - 1, 0, o1.loc, o1.m⟩ = o) := by
                        have h := HQ2.out
                        rw [if_neg (by omega), if_pos hb0] at h
                        exact Option.some.inj h
                      clear HQ2
                      go_wp2
                      go_ret2
                      rw [← HOO.out]
                      exact P2.out.post HO2.out (by have := HBRR.out; omega)
                    · obtain rfl : obr = 0 := by omega
                      obtain ⟨s, hcut, HQ3⟩ : ∃ s, cutV hh 0 o1.m.x.st = some s ∧ Hid ((if (3 : Int) ≠ 2 then some ⟨-1, 0, o1.loc, o1.m.st s⟩ else srun R.P R.srcs H R.max g { t with k := 1, i := iA, op := 3, h := hh, keep := 0, loc := o1.loc } (o1.m.st s)) = some o) := by
                        have h := HQ2.out
                        rw [if_neg (by simp), if_neg (by simp)] at h
                        split at h
                        · cases h
                        · rename_i s hs
                          exact ⟨s, hs, h⟩
                      obtain ⟨xs, ys, zs, e1, e2, e3, e4, e5⟩ := cut_parts hcut
                      have CUT : Hid (Calls _ _ _ _ _) := ycut_any P2.out.mw.inst (xs := xs) (ys := ys) (zs := zs) e1 (by omega)
                      rw [e2, e3] at CUT
                      have HE4 : Hid (s = xs ++ zs) := e4
                      clear HQ2 hcut e1 e2 e3 e4 e5
                      go_wp2_with fail
                      refine CUT.out.mono ?_
                      rintro e w3 ⟨rfl, n3, s3⟩
                      rw [← HE4.out] at n3
                      have P3 : Hid (StW R (.slice la ln lc) o1.loc w w3 L L2 K K2 (o1.m.st s) bx ⟨3, 0, ctab⟩) := P2.out.stepN n3 s3
                      have b0 := P3.out.box.cell 0
                      simp at b0
                      have bl := P3.out.box.lt
                      clear n3 s3 CUT P2
                      have HOO : Hid (⟨-1, 0, o1.loc, o1.m.st s⟩ = o) := by
                        have h := HQ3.out
                        rw [if_pos hop2] at h
                        exact Option.some.inj h
                      clear HQ3
                      go_wp2
                      go_ret2
                      rw [← HOO.out]
                      exact P3.out.post (HO2.out.same rfl) ⟨by omega, by omega⟩
                · have HOO : Hid (o1 = o) := by
                    have h := HQ2.out
                    rw [if_pos (.inl he)] at h
                    exact Option.some.inj h
                  have he' : (oe != 0) = true := by simpa using he
                  clear HQ2
                  go_wp2
                  go_ret2
                  rw [← HOO.out]
                  exact FIN.out
          · have himm2 : (cimm == 0) = false := beq_eq_false_iff_ne.2 himm
            have HTK : Hid (srun R.P R.srcs H R.max n { t with k := 1, i := iA, op := 3, h := (m.pd.st r).x.st.length, keep := 1 } (m.pd.st r) = some o) := by
              have h := HSI3.out
              rw [if_pos himm] at h
              exact h
            clear HSI3
            go_enter Tryz.func142, Tryz.ntmps142
            go_wp2_with fail
            rw [← HW0.out, ← HBX.out]
            refine (payed P0.out.mw HB2.out.1 HB2.out.2 hp).mono ?_
            rintro e w1 ⟨rfl, m1, s1⟩
            have P1 : Hid (StW R (.slice la ln lc) t.loc w w1 L L K K m.pd bx ⟨3, cimm, ctab⟩) := P0.out.stepN m1.inst s1
            clear m1 s1 P0
            go_wp2_with fail
            refine (ypop_any P1.out.mw.inst (show m.pd.x.st = v :: r from (pay_st m.x).trans HST.out) (by omega) hv5).mono ?_
            rintro e w2 ⟨rfl, n2, s2⟩
            have P2 : Hid (StW R (.slice la ln lc) t.loc w w2 L L K K (m.pd.st r) bx ⟨3, cimm, ctab⟩) := P1.out.stepN n2 s2
            rw [HVN.out]
            clear n2 s2 P1
            go_wp2_with fail
            refine (ENDS.out w2 L K _ P2.out.mw).mono ?_
            rintro e w3 ⟨rfl, hw3⟩
            rw [hw3]
            clear hw3 w3 ENDS
            obtain ⟨hh, HHH⟩ : ∃ hh, Hid (((m.pd.st r)).x.st.length = hh) := ⟨_, rfl⟩
            have c3 := P2.out.mw.inst.here.cell 3
            simp only [List.getElem?_toArray, List.getElem?_cons_succ, List.getElem?_cons_zero] at c3
            rw [HHH.out] at c3
            have l3 := P2.out.mw.inst.here.lt
            have b0 := P2.out.box.cell 0
            have b1 := P2.out.box.cell 1
            simp at b0 b1
            have bl := P2.out.box.lt
            rw [HHH.out] at HTK
            go_wp2
            clear b0 b1 bl
            clear c3 l3
            go_loopg [21] n (fun g ti wr => ∃ (m' : MS) (loc' : List V) (L' : NL) (K' : ML), g ≤ n ∧ Hid (srun R.P R.srcs H R.max g { t with k := 1, i := iA, op := 3, h := hh, keep := 1, loc := loc' } m' = some o) ∧ Hid (StW R (.slice la ln lc) loc' w wr L L' K K' m' bx ⟨3, cimm, ctab⟩ ∧ HostOk R H m'))
            case atStart => exact ⟨(m.pd.st r), t.loc, L, K, Nat.le_refl _, HTK.out, P2.out, HOA.out⟩
            case round =>
              obtain ⟨m', loc', L', K', hgn, HR, HP⟩ := hrel
              clear HTK P2 HOA HHH
              cases gk with
              | zero => exact absurd HR.out (by simp [srun])
              | succ g =>
                obtain ⟨o1, HQ1, HQ2⟩ : ∃ o1, Hid (srun R.P R.srcs H R.max g { t with k := 0, i := iA, op := 3, h := hh, keep := 1, loc := loc' } m' = some o1) ∧ Hid ((if o1.e ≠ 0 ∨ o1.br < 0 then some o1 else if 0 < o1.br then some { o1 with br := o1.br - 1 } else match cutV hh 1 o1.m.x.st with | none => none | some s => if (3 : Int) ≠ 2 then some ⟨-1, 0, o1.loc, o1.m.st s⟩ else srun R.P R.srcs H R.max g { t with k := 1, i := iA, op := 3, h := hh, keep := 1, loc := o1.loc } (o1.m.st s)) = some o) := by
                  have h := HR.out
                  rw [srun, if_neg (by simp), if_pos rfl] at h
                  unfold sround at h
                  split at h
                  · cases h
                  · rename_i o1 ho1
                    exact ⟨o1, ho1, h⟩
                clear HR
                have SEQ : Hid (Calls _ _ _ _ _) := HSW.out g (by omega) { t with k := 0, i := iA, op := 3, h := hh, keep := 1, loc := loc' } m' o1 rfl HQ1.out wr L' K' la ln lc f (some ⟨gs, 0, none⟩) sc HSV.out.1 HSV.out.2 HD.out.1 HD.out.2 HP.out.2 HP.out.1.mw HP.out.1.loc
                simp only [HSL.out, HDP.out] at SEQ
                push_cast at SEQ
                obtain ⟨obr, HBR⟩ : ∃ x, Hid (o1.br = x) := ⟨_, rfl⟩
                obtain ⟨oe, HOE⟩ : ∃ x, Hid (o1.e = x) := ⟨_, rfl⟩
                clear HQ1
                go_wp2_with fail
                refine SEQ.out.mono ?_
                rintro e w2 ⟨L2, K2, rfl, hbr, ho2, mw2, loc2, step2⟩
                have P2 : Hid (StW R (.slice la ln lc) o1.loc w w2 L L2 K K2 o1.m bx ⟨3, cimm, ctab⟩) := HP.out.1.stepM mw2 loc2 step2
                have HO2 : Hid (HostOk R H o1.m) := ho2
                have HBRR : Hid (-9223372036854775808 ≤ obr ∧ obr < 9223372036854775808) := by rw [← HBR.out]; exact hbr
                have hbr2 := HBRR.out
                have FIN : Hid (RunPost R H (.slice la ln lc) o1 w L K (.returned (.tuple #[.int .i64 obr, .int .i64 oe])) w2) := ⟨L2, K2, by rw [HBR.out, HOE.out], hbr, ho2, mw2, loc2, P2.out.step⟩
                rw [HBR.out, HOE.out]
                rw [HBR.out, HOE.out] at HQ2
                clear ho2 mw2 loc2 step2 hbr SEQ HP
                by_cases he : oe = 0
                · subst he
                  by_cases hb : obr < 0
                  · have HOO : Hid (o1 = o) := by
                      have h := HQ2.out
                      rw [if_pos (.inr hb)] at h
                      exact Option.some.inj h
                    clear HQ2
                    go_wp2
                    go_ret2
                    rw [← HOO.out]
                    exact FIN.out
                  · by_cases hb0 : 0 < obr
                    · have HOO : Hid (⟨obr - 1, 0, o1.loc, o1.m⟩ = o) := by
                        have h := HQ2.out
                        rw [if_neg (by omega), if_pos hb0] at h
                        exact Option.some.inj h
                      clear HQ2
                      go_wp2
                      go_ret2
                      rw [← HOO.out]
                      exact P2.out.post HO2.out (by have := HBRR.out; omega)
                    · obtain rfl : obr = 0 := by omega
                      obtain ⟨s, hcut, HQ3⟩ : ∃ s, cutV hh 1 o1.m.x.st = some s ∧ Hid ((if (3 : Int) ≠ 2 then some ⟨-1, 0, o1.loc, o1.m.st s⟩ else srun R.P R.srcs H R.max g { t with k := 1, i := iA, op := 3, h := hh, keep := 1, loc := o1.loc } (o1.m.st s)) = some o) := by
                        have h := HQ2.out
                        rw [if_neg (by simp), if_neg (by simp)] at h
                        split at h
                        · cases h
                        · rename_i s hs
                          exact ⟨s, hs, h⟩
                      obtain ⟨xs, ys, zs, e1, e2, e3, e4, e5⟩ := cut_parts hcut
                      have CUT : Hid (Calls _ _ _ _ _) := ycut_any P2.out.mw.inst (xs := xs) (ys := ys) (zs := zs) e1 (by omega)
                      rw [e2, e3] at CUT
                      have HE4 : Hid (s = xs ++ zs) := e4
                      clear HQ2 hcut e1 e2 e3 e4 e5
                      go_wp2_with fail
                      refine CUT.out.mono ?_
                      rintro e w3 ⟨rfl, n3, s3⟩
                      rw [← HE4.out] at n3
                      have P3 : Hid (StW R (.slice la ln lc) o1.loc w w3 L L2 K K2 (o1.m.st s) bx ⟨3, cimm, ctab⟩) := P2.out.stepN n3 s3
                      have b0 := P3.out.box.cell 0
                      simp at b0
                      have bl := P3.out.box.lt
                      clear n3 s3 CUT P2
                      have HOO : Hid (⟨-1, 0, o1.loc, o1.m.st s⟩ = o) := by
                        have h := HQ3.out
                        rw [if_pos hop2] at h
                        exact Option.some.inj h
                      clear HQ3
                      go_wp2
                      go_ret2
                      rw [← HOO.out]
                      exact P3.out.post (HO2.out.same rfl) ⟨by omega, by omega⟩
                · have HOO : Hid (o1 = o) := by
                    have h := HQ2.out
                    rw [if_pos (.inl he)] at h
                    exact Option.some.inj h
                  have he' : (oe != 0) = true := by simpa using he
                  clear HQ2
                  go_wp2
                  go_ret2
                  rw [← HOO.out]
                  exact FIN.out
      · rw [if_neg hv] at HSI2
        clear ENDS
        by_cases himm : cimm = 0
        · have HTK : Hid (srun R.P R.srcs H R.max n { t with k := 1, i := i + 1, op := 3, h := (m.pd.st r).x.st.length, keep := 0 } (m.pd.st r) = some o) := by
            have h := HSI2.out
            rw [if_neg (by simp [himm])] at h
            exact h
          subst himm
          clear HSI2
          go_enter Tryz.func142, Tryz.ntmps142
          go_wp2_with fail
          rw [← HW0.out, ← HBX.out]
          refine (payed P0.out.mw HB2.out.1 HB2.out.2 hp).mono ?_
          rintro e w1 ⟨rfl, m1, s1⟩
          have P1 : Hid (StW R (.slice la ln lc) t.loc w w1 L L K K m.pd bx ⟨3, 0, ctab⟩) := P0.out.stepN m1.inst s1
          clear m1 s1 P0
          go_wp2_with fail
          refine (ypop_any P1.out.mw.inst (show m.pd.x.st = v :: r from (pay_st m.x).trans HST.out) (by omega) hv5).mono ?_
          rintro e w2 ⟨rfl, n2, s2⟩
          have P2 : Hid (StW R (.slice la ln lc) t.loc w w2 L L K K (m.pd.st r) bx ⟨3, 0, ctab⟩) := P1.out.stepN n2 s2
          rw [HVN.out]
          clear n2 s2 P1
          obtain ⟨hh, HHH⟩ : ∃ hh, Hid (((m.pd.st r)).x.st.length = hh) := ⟨_, rfl⟩
          have c3 := P2.out.mw.inst.here.cell 3
          simp only [List.getElem?_toArray, List.getElem?_cons_succ, List.getElem?_cons_zero] at c3
          rw [HHH.out] at c3
          have l3 := P2.out.mw.inst.here.lt
          have b0 := P2.out.box.cell 0
          have b1 := P2.out.box.cell 1
          simp at b0 b1
          have bl := P2.out.box.lt
          rw [HHH.out] at HTK
          go_wp2
          clear b0 b1 bl
          clear c3 l3
          go_loopg [21] n (fun g ti wr => ∃ (m' : MS) (loc' : List V) (L' : NL) (K' : ML), g ≤ n ∧ Hid (srun R.P R.srcs H R.max g { t with k := 1, i := i + 1, op := 3, h := hh, keep := 0, loc := loc' } m' = some o) ∧ Hid (StW R (.slice la ln lc) loc' w wr L L' K K' m' bx ⟨3, 0, ctab⟩ ∧ HostOk R H m'))
          case atStart => exact ⟨(m.pd.st r), t.loc, L, K, Nat.le_refl _, HTK.out, P2.out, HOA.out⟩
          case round =>
            obtain ⟨m', loc', L', K', hgn, HR, HP⟩ := hrel
            clear HTK P2 HOA HHH
            cases gk with
            | zero => exact absurd HR.out (by simp [srun])
            | succ g =>
              obtain ⟨o1, HQ1, HQ2⟩ : ∃ o1, Hid (srun R.P R.srcs H R.max g { t with k := 0, i := i + 1, op := 3, h := hh, keep := 0, loc := loc' } m' = some o1) ∧ Hid ((if o1.e ≠ 0 ∨ o1.br < 0 then some o1 else if 0 < o1.br then some { o1 with br := o1.br - 1 } else match cutV hh 0 o1.m.x.st with | none => none | some s => if (3 : Int) ≠ 2 then some ⟨-1, 0, o1.loc, o1.m.st s⟩ else srun R.P R.srcs H R.max g { t with k := 1, i := i + 1, op := 3, h := hh, keep := 0, loc := o1.loc } (o1.m.st s)) = some o) := by
                have h := HR.out
                rw [srun, if_neg (by simp), if_pos rfl] at h
                unfold sround at h
                split at h
                · cases h
                · rename_i o1 ho1
                  exact ⟨o1, ho1, h⟩
              clear HR
              have SEQ : Hid (Calls _ _ _ _ _) := HSW.out g (by omega) { t with k := 0, i := i + 1, op := 3, h := hh, keep := 0, loc := loc' } m' o1 rfl HQ1.out wr L' K' la ln lc f (some ⟨gs, 0, none⟩) sc HSV.out.1 HSV.out.2 HD.out.1 HD.out.2 HP.out.2 HP.out.1.mw HP.out.1.loc
              simp only [HSL.out, HDP.out] at SEQ
              push_cast at SEQ
              obtain ⟨obr, HBR⟩ : ∃ x, Hid (o1.br = x) := ⟨_, rfl⟩
              obtain ⟨oe, HOE⟩ : ∃ x, Hid (o1.e = x) := ⟨_, rfl⟩
              clear HQ1
              go_wp2_with fail
              refine SEQ.out.mono ?_
              rintro e w2 ⟨L2, K2, rfl, hbr, ho2, mw2, loc2, step2⟩
              have P2 : Hid (StW R (.slice la ln lc) o1.loc w w2 L L2 K K2 o1.m bx ⟨3, 0, ctab⟩) := HP.out.1.stepM mw2 loc2 step2
              have HO2 : Hid (HostOk R H o1.m) := ho2
              have HBRR : Hid (-9223372036854775808 ≤ obr ∧ obr < 9223372036854775808) := by rw [← HBR.out]; exact hbr
              have hbr2 := HBRR.out
              have FIN : Hid (RunPost R H (.slice la ln lc) o1 w L K (.returned (.tuple #[.int .i64 obr, .int .i64 oe])) w2) := ⟨L2, K2, by rw [HBR.out, HOE.out], hbr, ho2, mw2, loc2, P2.out.step⟩
              rw [HBR.out, HOE.out]
              rw [HBR.out, HOE.out] at HQ2
              clear ho2 mw2 loc2 step2 hbr SEQ HP
              by_cases he : oe = 0
              · subst he
                by_cases hb : obr < 0
                · have HOO : Hid (o1 = o) := by
                    have h := HQ2.out
                    rw [if_pos (.inr hb)] at h
                    exact Option.some.inj h
                  clear HQ2
                  go_wp2
                  go_ret2
                  rw [← HOO.out]
                  exact FIN.out
                · by_cases hb0 : 0 < obr
                  · have HOO : Hid (⟨obr - 1, 0, o1.loc, o1.m⟩ = o) := by
                      have h := HQ2.out
                      rw [if_neg (by omega), if_pos hb0] at h
                      exact Option.some.inj h
                    clear HQ2
                    go_wp2
                    go_ret2
                    rw [← HOO.out]
                    exact P2.out.post HO2.out (by have := HBRR.out; omega)
                  · obtain rfl : obr = 0 := by omega
                    obtain ⟨s, hcut, HQ3⟩ : ∃ s, cutV hh 0 o1.m.x.st = some s ∧ Hid ((if (3 : Int) ≠ 2 then some ⟨-1, 0, o1.loc, o1.m.st s⟩ else srun R.P R.srcs H R.max g { t with k := 1, i := i + 1, op := 3, h := hh, keep := 0, loc := o1.loc } (o1.m.st s)) = some o) := by
                      have h := HQ2.out
                      rw [if_neg (by simp), if_neg (by simp)] at h
                      split at h
                      · cases h
                      · rename_i s hs
                        exact ⟨s, hs, h⟩
                    obtain ⟨xs, ys, zs, e1, e2, e3, e4, e5⟩ := cut_parts hcut
                    have CUT : Hid (Calls _ _ _ _ _) := ycut_any P2.out.mw.inst (xs := xs) (ys := ys) (zs := zs) e1 (by omega)
                    rw [e2, e3] at CUT
                    have HE4 : Hid (s = xs ++ zs) := e4
                    clear HQ2 hcut e1 e2 e3 e4 e5
                    go_wp2_with fail
                    refine CUT.out.mono ?_
                    rintro e w3 ⟨rfl, n3, s3⟩
                    rw [← HE4.out] at n3
                    have P3 : Hid (StW R (.slice la ln lc) o1.loc w w3 L L2 K K2 (o1.m.st s) bx ⟨3, 0, ctab⟩) := P2.out.stepN n3 s3
                    have b0 := P3.out.box.cell 0
                    simp at b0
                    have bl := P3.out.box.lt
                    clear n3 s3 CUT P2
                    have HOO : Hid (⟨-1, 0, o1.loc, o1.m.st s⟩ = o) := by
                      have h := HQ3.out
                      rw [if_pos hop2] at h
                      exact Option.some.inj h
                    clear HQ3
                    go_wp2
                    go_ret2
                    rw [← HOO.out]
                    exact P3.out.post (HO2.out.same rfl) ⟨by omega, by omega⟩
              · have HOO : Hid (o1 = o) := by
                  have h := HQ2.out
                  rw [if_pos (.inl he)] at h
                  exact Option.some.inj h
                have he' : (oe != 0) = true := by simpa using he
                clear HQ2
                go_wp2
                go_ret2
                rw [← HOO.out]
                exact FIN.out
        · have himm2 : (cimm == 0) = false := beq_eq_false_iff_ne.2 himm
          have HTK : Hid (srun R.P R.srcs H R.max n { t with k := 1, i := i + 1, op := 3, h := (m.pd.st r).x.st.length, keep := 1 } (m.pd.st r) = some o) := by
            have h := HSI2.out
            rw [if_pos himm] at h
            exact h
          clear HSI2
          go_enter Tryz.func142, Tryz.ntmps142
          go_wp2_with fail
          rw [← HW0.out, ← HBX.out]
          refine (payed P0.out.mw HB2.out.1 HB2.out.2 hp).mono ?_
          rintro e w1 ⟨rfl, m1, s1⟩
          have P1 : Hid (StW R (.slice la ln lc) t.loc w w1 L L K K m.pd bx ⟨3, cimm, ctab⟩) := P0.out.stepN m1.inst s1
          clear m1 s1 P0
          go_wp2_with fail
          refine (ypop_any P1.out.mw.inst (show m.pd.x.st = v :: r from (pay_st m.x).trans HST.out) (by omega) hv5).mono ?_
          rintro e w2 ⟨rfl, n2, s2⟩
          have P2 : Hid (StW R (.slice la ln lc) t.loc w w2 L L K K (m.pd.st r) bx ⟨3, cimm, ctab⟩) := P1.out.stepN n2 s2
          rw [HVN.out]
          clear n2 s2 P1
          obtain ⟨hh, HHH⟩ : ∃ hh, Hid (((m.pd.st r)).x.st.length = hh) := ⟨_, rfl⟩
          have c3 := P2.out.mw.inst.here.cell 3
          simp only [List.getElem?_toArray, List.getElem?_cons_succ, List.getElem?_cons_zero] at c3
          rw [HHH.out] at c3
          have l3 := P2.out.mw.inst.here.lt
          have b0 := P2.out.box.cell 0
          have b1 := P2.out.box.cell 1
          simp at b0 b1
          have bl := P2.out.box.lt
          rw [HHH.out] at HTK
          go_wp2
          clear b0 b1 bl
          clear c3 l3
          go_loopg [21] n (fun g ti wr => ∃ (m' : MS) (loc' : List V) (L' : NL) (K' : ML), g ≤ n ∧ Hid (srun R.P R.srcs H R.max g { t with k := 1, i := i + 1, op := 3, h := hh, keep := 1, loc := loc' } m' = some o) ∧ Hid (StW R (.slice la ln lc) loc' w wr L L' K K' m' bx ⟨3, cimm, ctab⟩ ∧ HostOk R H m'))
          case atStart => exact ⟨(m.pd.st r), t.loc, L, K, Nat.le_refl _, HTK.out, P2.out, HOA.out⟩
          case round =>
            obtain ⟨m', loc', L', K', hgn, HR, HP⟩ := hrel
            clear HTK P2 HOA HHH
            cases gk with
            | zero => exact absurd HR.out (by simp [srun])
            | succ g =>
              obtain ⟨o1, HQ1, HQ2⟩ : ∃ o1, Hid (srun R.P R.srcs H R.max g { t with k := 0, i := i + 1, op := 3, h := hh, keep := 1, loc := loc' } m' = some o1) ∧ Hid ((if o1.e ≠ 0 ∨ o1.br < 0 then some o1 else if 0 < o1.br then some { o1 with br := o1.br - 1 } else match cutV hh 1 o1.m.x.st with | none => none | some s => if (3 : Int) ≠ 2 then some ⟨-1, 0, o1.loc, o1.m.st s⟩ else srun R.P R.srcs H R.max g { t with k := 1, i := i + 1, op := 3, h := hh, keep := 1, loc := o1.loc } (o1.m.st s)) = some o) := by
                have h := HR.out
                rw [srun, if_neg (by simp), if_pos rfl] at h
                unfold sround at h
                split at h
                · cases h
                · rename_i o1 ho1
                  exact ⟨o1, ho1, h⟩
              clear HR
              have SEQ : Hid (Calls _ _ _ _ _) := HSW.out g (by omega) { t with k := 0, i := i + 1, op := 3, h := hh, keep := 1, loc := loc' } m' o1 rfl HQ1.out wr L' K' la ln lc f (some ⟨gs, 0, none⟩) sc HSV.out.1 HSV.out.2 HD.out.1 HD.out.2 HP.out.2 HP.out.1.mw HP.out.1.loc
              simp only [HSL.out, HDP.out] at SEQ
              push_cast at SEQ
              obtain ⟨obr, HBR⟩ : ∃ x, Hid (o1.br = x) := ⟨_, rfl⟩
              obtain ⟨oe, HOE⟩ : ∃ x, Hid (o1.e = x) := ⟨_, rfl⟩
              clear HQ1
              go_wp2_with fail
              refine SEQ.out.mono ?_
              rintro e w2 ⟨L2, K2, rfl, hbr, ho2, mw2, loc2, step2⟩
              have P2 : Hid (StW R (.slice la ln lc) o1.loc w w2 L L2 K K2 o1.m bx ⟨3, cimm, ctab⟩) := HP.out.1.stepM mw2 loc2 step2
              have HO2 : Hid (HostOk R H o1.m) := ho2
              have HBRR : Hid (-9223372036854775808 ≤ obr ∧ obr < 9223372036854775808) := by rw [← HBR.out]; exact hbr
              have hbr2 := HBRR.out
              have FIN : Hid (RunPost R H (.slice la ln lc) o1 w L K (.returned (.tuple #[.int .i64 obr, .int .i64 oe])) w2) := ⟨L2, K2, by rw [HBR.out, HOE.out], hbr, ho2, mw2, loc2, P2.out.step⟩
              rw [HBR.out, HOE.out]
              rw [HBR.out, HOE.out] at HQ2
              clear ho2 mw2 loc2 step2 hbr SEQ HP
              by_cases he : oe = 0
              · subst he
                by_cases hb : obr < 0
                · have HOO : Hid (o1 = o) := by
                    have h := HQ2.out
                    rw [if_pos (.inr hb)] at h
                    exact Option.some.inj h
                  clear HQ2
                  go_wp2
                  go_ret2
                  rw [← HOO.out]
                  exact FIN.out
                · by_cases hb0 : 0 < obr
                  · have HOO : Hid (⟨obr - 1, 0, o1.loc, o1.m⟩ = o) := by
                      have h := HQ2.out
                      rw [if_neg (by omega), if_pos hb0] at h
                      exact Option.some.inj h
                    clear HQ2
                    go_wp2
                    go_ret2
                    rw [← HOO.out]
                    exact P2.out.post HO2.out (by have := HBRR.out; omega)
                  · obtain rfl : obr = 0 := by omega
                    obtain ⟨s, hcut, HQ3⟩ : ∃ s, cutV hh 1 o1.m.x.st = some s ∧ Hid ((if (3 : Int) ≠ 2 then some ⟨-1, 0, o1.loc, o1.m.st s⟩ else srun R.P R.srcs H R.max g { t with k := 1, i := i + 1, op := 3, h := hh, keep := 1, loc := o1.loc } (o1.m.st s)) = some o) := by
                      have h := HQ2.out
                      rw [if_neg (by simp), if_neg (by simp)] at h
                      split at h
                      · cases h
                      · rename_i s hs
                        exact ⟨s, hs, h⟩
                    obtain ⟨xs, ys, zs, e1, e2, e3, e4, e5⟩ := cut_parts hcut
                    have CUT : Hid (Calls _ _ _ _ _) := ycut_any P2.out.mw.inst (xs := xs) (ys := ys) (zs := zs) e1 (by omega)
                    rw [e2, e3] at CUT
                    have HE4 : Hid (s = xs ++ zs) := e4
                    clear HQ2 hcut e1 e2 e3 e4 e5
                    go_wp2_with fail
                    refine CUT.out.mono ?_
                    rintro e w3 ⟨rfl, n3, s3⟩
                    rw [← HE4.out] at n3
                    have P3 : Hid (StW R (.slice la ln lc) o1.loc w w3 L L2 K K2 (o1.m.st s) bx ⟨3, cimm, ctab⟩) := P2.out.stepN n3 s3
                    have b0 := P3.out.box.cell 0
                    simp at b0
                    have bl := P3.out.box.lt
                    clear n3 s3 CUT P2
                    have HOO : Hid (⟨-1, 0, o1.loc, o1.m.st s⟩ = o) := by
                      have h := HQ3.out
                      rw [if_pos hop2] at h
                      exact Option.some.inj h
                    clear HQ3
                    go_wp2
                    go_ret2
                    rw [← HOO.out]
                    exact P3.out.post (HO2.out.same rfl) ⟨by omega, by omega⟩
              · have HOO : Hid (o1 = o) := by
                  have h := HQ2.out
                  rw [if_pos (.inl he)] at h
                  exact Option.some.inj h
                have he' : (oe != 0) = true := by simpa using he
                clear HQ2
                go_wp2
                go_ret2
                rw [← HOO.out]
                exact FIN.out
    · have hp17 : m.x.pay.2 = 17 := by
        unfold ND.pay at hp ⊢
        split
        · rename_i h; rw [if_pos h] at hp; simp at hp
        · rfl
      have HOO : Hid (⟨-1, 17, t.loc, m.pd⟩ = o) := by
        have h := HSINS.out
        unfold sins at h
        rw [if_neg (by simp), if_pos hp, hp17] at h
        exact Option.some.inj h
      clear HSINS
      go_enter Tryz.func142, Tryz.ntmps142
      go_wp2_with fail
      rw [← HW0.out, ← HBX.out]
      refine (unpaid P0.out.mw HB2.out.1 HB2.out.2 hp).mono ?_
      rintro e w1 ⟨rfl, m1, s1⟩
      have P1 : Hid (StW R (.slice la ln lc) t.loc w w1 L L K K m.pd bx ⟨3, cimm, ctab⟩) := P0.out.stepN m1.inst s1
      clear m1 s1 P0
      go_wp2
      go_ret2
      rw [← HOO.out]
      exact P1.out.post HO.out.pay ⟨by omega, by omega⟩
  rcases hop with rfl | rfl | rfl
  · by_cases himm : cimm = 0
    · exact case_block_z rfl himm
    · exact case_block_n rfl himm
  · by_cases himm : cimm = 0
    · exact case_loop_z rfl himm
    · exact case_loop_n rfl himm
  · exact case_if rfl
end
end Go.Proofs.Qxb6500575aGreatDoor
