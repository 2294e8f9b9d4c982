/-
  THE WALK of runm.invoke.
-/
import Derived.Test.Qxb6500575aGreatDoorYBlk
namespace Go.Proofs.Qxb6500575aGreatDoor
open Go Go.RowKit
set_option linter.unusedVariables false
set_option linter.unusedSimpArgs false

theorem nat_wrap {j : Nat} (h : j ≤ 100000) : wrap64 (j : Int) = j := by unfold wrap64; omega
theorem stCells_cons (v : V) (l : List V) : stCells (v :: l) = stCells l ++ [.int .u8 v.ty.toNat, .int .i64 v.num] := by
  unfold stCells
  simp [bvCells, V.bv]
section
variable {R : MP} {H : HF HS}
/-- a step whose row is new -/
theorem MStep.drop {lv : Value} {w w1 w2 : World} {L L1 L2 : NL} {K K1 K2 : ML} (h : MStep R (.slice none 0 0) w w1 L L1 K K1) (h' : MStep R lv w1 w2 L1 L2 K1 K2) (hn : ∀ k, lv.ownBlock = some k → w.heap.size ≤ k) : MStep R (.slice none 0 0) w w2 L L2 K K2 :=
  ⟨h.fr.trans h'.fr (fun k hk hS => by
    rcases hS with (hS | hS) | hS
    · exact .inl (.inl (h.subN k hk hS))
    · exact .inl (.inr (h.subK k hk hS))
    · have := hn k hS; omega), fun k hk hS => h.subN k hk (h'.subN k (Nat.lt_of_lt_of_le hk h.fr.size) hS), fun k hk hS => h.subK k hk (h'.subK k (Nat.lt_of_lt_of_le hk h.fr.size) hS)⟩
/-- the locals' row, while it grows -/
structure LocN (R : MP) (w wr : World) (L : NL) (K : ML) (m : MS) (lv : Value) (loc : List V) : Prop where
  mw : MW R wr L K m
  step : MStep R (.slice none 0 0) w wr L L K K
  loc : LocAt R wr L lv loc
  new : ∀ k, lv.ownBlock = some k → w.heap.size ≤ k
theorem LocN.grow {w wr w2 : World} {L : NL} {K : ML} {m : MS} {lv : Value} {loc : List V} (h : LocN R w wr L K m lv loc) (hns : ∀ k, NS R.bn L k → k < w.heap.size) (v : V) {g cap : Nat} {o : Obj} (q1 : w2.ownsRow 0 70 2 (.slice (some ⟨g, 0, none⟩) (loc.length + 1) cap) (loc.length + 1) (stCells loc ++ [.int .u8 v.ty.toNat, .int .i64 v.num])) (q2 : Fr (fun j => lv.ownBlock = some j) (wr.alloc o) w2) (q3 : lv.ownBlock = some g ∨ g = wr.heap.size + 1) : LocN R w w2 L K m (.slice (some ⟨g, 0, none⟩) (loc.length + 1) cap) (v :: loc) := by
  have F1 : Fr (fun _ => False) wr (wr.alloc o) := (Fr.refl _ _).alloc _
  have hl1 := h.loc.fresh F1
  have hsz := h.step.fr.size
  have hg : w.heap.size ≤ g := by
    rcases q3 with q3 | q3
    · exact h.new g q3
    · omega
  refine ⟨(h.mw.fresh F1).setLoc hl1 q2, ?_, ⟨?_, fun k hk hS => ?_⟩, fun k hk => ?_⟩
  · refine ⟨(h.step.trans (MStep.fresh F1)).fr.trans q2 (fun k hk e => ?_), fun _ _ h => h, fun _ _ h => h⟩
    have := h.new k e
    omega
  · rw [stCells_cons]; exact q1
  · simp [Value.ownBlock] at hk
    subst hk
    have := hns _ hS
    omega
  · simp [Value.ownBlock] at hk
    subst hk
    exact hg
/-- what invoke's run says -/
theorem inv_parts {n : Nat} {t : Tk} {m : MS} {o : Ot} (hk : t.k = 2) (h : srun R.P R.srcs H R.max n t m = some o) : ∃ g up ur ul src o1, n = g + 1 ∧ R.P.funs[t.f]? = some ⟨up, ur, ul⟩ ∧ R.srcs[t.f - R.P.nimp.toNat]? = some src ∧ argsOk up m.x.st = true ∧ R.P.nimp ≤ t.f ∧
    srun R.P R.srcs H R.max g { t with k := 0, src := src, i := 0, loc := zeros ul ++ m.x.st.take up.length } (m.st (m.x.st.drop up.length)) = some o1 ∧
    ((o1.e ≠ 0 ∧ o = ⟨-1, o1.e, o1.loc, o1.m⟩) ∨ (o1.e = 0 ∧ o1.br ≤ 0 ∧ ∃ s, cutV (m.x.st.drop up.length).length ur.length (if o1.br = -2 then o1.m else o1.m.bump).x.st = some s ∧ (s.take ur.length).map V.ty = ur.reverse ∧ o = ⟨-1, 0, o1.loc, (if o1.br = -2 then o1.m else o1.m.bump).st s⟩)) := by
  cases n with
  | zero => simp [srun] at h
  | succ g =>
    rw [srun, if_neg (by rw [hk]; decide), if_neg (by rw [hk]; decide)] at h
    unfold sinvoke at h
    split at h
    · rename_i u src hu0 hsr0
      obtain ⟨up, ur, ul⟩ := u
      simp only at h
      by_cases hcond : argsOk up m.x.st = false ∨ (t.f : Int) < R.P.nimp
      · rw [if_pos hcond] at h; cases h
      rw [if_neg hcond] at h
      split at h
      · cases h
      rename_i o1 ho1
      simp only [not_or, Bool.not_eq_false] at hcond
      refine ⟨g, up, ur, ul, src, o1, rfl, hu0, hsr0, hcond.1, by omega, ho1, ?_⟩
      by_cases he : o1.e ≠ 0
      · rw [if_pos he] at h
        exact .inl ⟨he, (Option.some.inj h).symm⟩
      · rw [if_neg he] at h
        have he0 : o1.e = 0 := by simpa using he
        by_cases hb : 0 < o1.br
        · rw [if_pos hb] at h; cases h
        rw [if_neg hb] at h
        split at h
        · cases h
        · rename_i s hs
          split at h
          · rename_i hty
            exact .inr ⟨he0, by omega, s, hs, hty, (Option.some.inj h).symm⟩
          · cases h
    · cases h
set_option maxRecDepth 100000
set_option maxHeartbeats 1500000
theorem yinv_any (hM : MOk R) {n : Nat} (hS : ∀ g, g < n → SeqW R H g) : InvW R H n := by
  intro t m o hk hrun w L K hd0 hd1 hO hW
  obtain ⟨g, up, ur, ul, src, o1, rfl, hfu, hsr, hargs, hnim, ho1, hfin⟩ := inv_parts hk hrun
  unfold argsOk at hargs
  simp only [decide_eq_true_eq] at hargs
  obtain ⟨hty, hl9⟩ := hargs
  have hps := hM.ps _ (List.mem_of_getElem? hfu)
  obtain ⟨hp3, hr1, hl4, htr, htl⟩ := hps
  simp only at hp3 hr1 hl4 htr htl
  have hn0 := hM.nimp
  have hsl := hM.slen
  have hsig : R.P.sig (t.f : Int) = (⟨up, ur, ul⟩, true) := by unfold ProgD.sig; rw [if_neg (by omega)]; simp [hfu]
  obtain ⟨args, HA⟩ : ∃ args, Hid (m.x.st.take up.length = args) := ⟨_, rfl⟩
  obtain ⟨rest, HRS⟩ : ∃ rest, Hid (m.x.st.drop up.length = rest) := ⟨_, rfl⟩
  rw [HA.out] at hty ho1
  rw [HRS.out] at ho1 hfin
  have hst : m.x.st = args ++ rest := by rw [← HA.out, ← HRS.out, List.take_append_drop]
  have hal : args.length = up.length := by have := congrArg List.length hty; simpa using this
  have SIG : Hid (Calls _ _ _ _ _) := msig_any (MPS R.bpm R.LP) R.bpm R.LP R.P R.psrcs w t.f hW.prog hM.plen
  rw [hsig] at SIG
  simp only at SIG
  have c0 := hW.inst.here.cell 0
  simp at c0
  have l0 := hW.inst.here.lt
  have HSW : Hid (SeqW R H g) := hS g (by omega)
  have HO : Hid (HostOk R H m) := hO
  have HWW : Hid (MW R w L K m) := hW
  have HST : Hid (m.x.st = args ++ rest) := hst
  have HTY : Hid (args.map V.ty = up.reverse) := hty
  have HO1 : Hid (srun R.P R.srcs H R.max g { t with k := 0, src := src, i := 0, loc := zeros ul ++ args } (m.st rest) = some o1) := ho1
  have HFIN : Hid ((o1.e ≠ 0 ∧ o = ⟨-1, o1.e, o1.loc, o1.m⟩) ∨ (o1.e = 0 ∧ o1.br ≤ 0 ∧ ∃ s, cutV rest.length ur.length (if o1.br = -2 then o1.m else o1.m.bump).x.st = some s ∧ (s.take ur.length).map V.ty = ur.reverse ∧ o = ⟨-1, 0, o1.loc, (if o1.br = -2 then o1.m else o1.m.bump).st s⟩)) := hfin
  have HD : Hid (0 ≤ t.depth ∧ t.depth ≤ 10) := ⟨hd0, hd1⟩
  have HL9 : Hid (m.x.st.length ≤ 900) := hl9
  have HSR : Hid (R.srcs[t.f - R.P.nimp.toNat]? = some src) := hsr
  have HTL : Hid (TyL ul) := htl
  obtain ⟨dp, HDP⟩ : ∃ dp, Hid (t.depth = dp) := ⟨_, rfl⟩
  rw [HDP.out]
  obtain ⟨fn, HF⟩ : ∃ fn, Hid (t.f = fn) := ⟨_, rfl⟩
  rw [HF.out] at hnim SIG HSR ⊢
  obtain ⟨na, HNA⟩ : ∃ na, Hid (args.length = na) := ⟨_, rfl⟩
  have hna : na ≤ 3 := by rw [← HNA.out, hal]; exact hp3
  clear hk hrun hO hW hst hty ho1 hfin hd0 hd1 hl9 hsr hsig hS hal hfu hM htl
  go_enter Tryz.func110, Tryz.ntmps110
  go_wp2_with fail
  refine SIG.out.mono ?_
  rintro e w1 ⟨rfl, n1, rfl⟩
  have W1 : Hid (MW R (w.drewN n1) L K m) := HWW.out.fresh ((Fr.refl _ _).drewN n1)
  have TK : Hid (Calls _ _ _ _ _) := ytake_any W1.out.inst HST.out HTY.out (by omega) (by have := HL9.out; omega)
  rw [HNA.out] at TK
  clear SIG
  go_wp2_with fail
  refine TK.out.mono ?_
  rintro e w2 ⟨ga, gc, rfl, n2, s2, o2, f2⟩
  have W2 : Hid (MW R w2 L K (m.st rest)) := W1.out.stepN n2 s2
  have S2 : Hid (MStep R (.slice none 0 0) w w2 L L K K) := (MStep.fresh ((Fr.refl _ _).drewN n1)).trans (MStep.ofN s2)
  have hns : ∀ k, NS R.bn L k → k < w.heap.size := fun k hk => HWW.out.inst.lt hk
  have HNS : Hid (∀ k, NS R.bn L k → k < w.heap.size) := hns
  have I2 : Hid (LocN R w w2 L K (m.st rest) (.slice ga na gc) args) := ⟨W2.out, S2.out, ⟨by rw [HNA.out]; exact o2, fun k hk hS => by
    have h1 := f2 k (by rw [ownBlock_any _ _ _ na gc]; exact hk)
    have h2 := hns k hS
    have h3 : (w.drewN n1).heap.size = w.heap.size := rfl
    omega⟩, fun k hk => f2 k (by rw [ownBlock_any _ _ _ na gc]; exact hk)⟩
  clear n2 s2 o2 f2 TK W1 c0 l0 W2 S2 hns
  obtain ⟨ll, HLL⟩ : ∃ ll, Hid (ul.length = ll) := ⟨_, rfl⟩
  have hll : (ul.length : Int) = ll := by rw [HLL.out]
  have hll4 : ll ≤ 4 := by rw [← HLL.out]; exact hl4
  clear hl4
  go_wp2
  go_loopw [11, 13] (fun tl ti wr => ∃ (j cap : Nat) (a : Option Addr), j ≤ ll ∧ ti = .int .i64 j ∧ tl = .slice a (na + j) cap ∧ Hid (LocN R w wr L K (m.st rest) (.slice a (na + j) cap) (zeros (ul.take j) ++ args))) (fun _ ti _ => ll - (intOf ti).toNat)
  case atStart => exact ⟨0, gc, ga, Nat.zero_le _, rfl, rfl, by simpa [zeros] using I2⟩
  case round =>
    obtain ⟨j, cap, a, hj, rfl, rfl, HI⟩ := hrel
    clear I2
    by_cases hlt : j < ll
    · obtain ⟨tj, htj⟩ : ∃ tj, ul[j]? = some tj := ⟨_, List.getElem?_eq_getElem (by rw [HLL.out]; exact hlt)⟩
      have hb : ∀ h, (((⟨ul.toArray⟩ : ByteArray)[j]'h).toNat : Int) = tj.toNat := fun h => by
        show (ul[j].toNat : Int) = _
        rw [(List.getElem?_eq_some_iff.1 htj).2]
      obtain ⟨tn, HTN⟩ : ∃ tn : Int, Hid (tn = tj.toNat) := ⟨_, rfl⟩
      rw [← HTN.out] at hb
      have hjl : (j : Int) < ul.length := by rw [HLL.out]; exact Int.ofNat_lt.2 hlt
      have HTY2 : Hid (Ty tj) := HTL.out tj (List.mem_of_getElem? htj)
      have hzl : (zeros (ul.take j) ++ args).length = na + j := by
        have : (zeros (ul.take j)).length = j := by unfold zeros; simp; omega
        rw [List.length_append, this, HNA.out]; omega
      have HZS : Hid (zeros (ul.take (j + 1)) ++ args = word tj 0 :: (zeros (ul.take j) ++ args)) := by
        show _ = _
        rw [List.take_add_one, htj]
        simp only [Option.toList_some]
        rw [zeros_snoc]
        rfl
      have HOW : Hid (World.ownsRow wr 0 70 2 (.slice a (na + j) cap) (na + j) (stCells (zeros (ul.take j) ++ args))) := by
        have := HI.out.loc.own
        rw [hzl] at this
        exact this
      have HZL : Hid ((zeros (ul.take j) ++ args).length = na + j) := hzl
      clear htj hzl
      go_wp2_with (at_builtin; go_must (refine wpList_app rowVals2 _ rfl (.tmp 43) (.tmp 48) rfl _ _ _ rfl (owns_alloc HOW.out _) _ [.int .u8 tn, .int .i64 0] rfl (Has.new _ _ _) rfl ?one ?bd ?go))
      case one => simp [Value.oneCell']
      case bd => omega
      case go =>
        intro g1 cap1 w5 p1 p2 p3 p4
        have I5 : Hid (LocN R w w5 L K (m.st rest) (.slice (some ⟨g1, 0, none⟩) (na + (j + 1)) cap1) (zeros (ul.take (j + 1)) ++ args)) := by
          have hz := HZL.out
          have hw1 : (word tj 0).ty = tj := word_ty HTY2.out 0
          have hw2 : (word tj 0).num = 0 := by rcases HTY2.out with h | h <;> (rw [h]; simp [word, V.num, wrap32])
          have := HI.out.grow HNS.out (word tj 0) (g := g1) (cap := cap1) (by rw [hz, hw1, hw2, ← HTN.out]; exact p1) p2 p3
          rw [hz] at this
          show LocN _ _ _ _ _ _ _ _
          rw [HZS.out]
          exact this
        clear p1 p2 p3 p4 HOW HI
        go_wp2
        go_roundw
        case rel => exact ⟨j + 1, cap1, some ⟨g1, 0, none⟩, by omega, by go_num, by congr 1, I5⟩
        case measure => simp [intOf]; omega
    · obtain rfl : j = ll := by omega
      have hnl : ¬ (j : Int) < (j : Int) := by omega
      have I3 : Hid (LocN R w wr L K (m.st rest) (.slice a (na + j) cap) (zeros ul ++ args)) := by
        have h := HI.out
        rw [List.take_of_length_le (by rw [HLL.out]; exact Nat.le_refl _)] at h
        exact h
      obtain ⟨rl, HRL⟩ : ∃ rl, Hid (rest.length = rl) := ⟨_, rfl⟩
      obtain ⟨ni, HNI⟩ : ∃ ni : Nat, Hid (R.P.nimp = ni) := ⟨R.P.nimp.toNat, by show _ = _; omega⟩
      obtain ⟨fi, HFI⟩ : ∃ fi : Nat, Hid (fn = ni + fi) := ⟨fn - ni, by show _ = _; have := HNI.out; omega⟩
      have HSR2 : Hid (R.srcs[fi]? = some src) := by
        have h := HSR.out
        rw [HNI.out, Int.toNat_natCast, HFI.out, Nat.add_sub_cancel_left] at h
        exact h
      have hfs : fi < R.srcs.length := (List.getElem?_eq_some_iff.1 HSR2.out).1
      obtain ⟨sv0, hsv0⟩ : ∃ sv0, R.LS.vs[fi]? = some sv0 := ⟨_, List.getElem?_eq_getElem (by rw [I3.out.mw.src.len]; exact hfs)⟩
      obtain ⟨⟨sa, sc, hsv1⟩, _⟩ := I3.out.mw.src.src fi sv0 src hsv0 HSR2.out
      subst hsv1
      obtain ⟨gS, hgS, hcS⟩ := owns_some I3.out.mw.src.row (by omega)
      have qS := hcS (fi * 1) (by omega)
      rw [Nat.mul_one] at qS
      rw [hsv0] at qS
      have lS : gS < wr.heap.size := owns_lt I3.out.mw.src.row gS (by rw [hgS]; rfl)
      have c0 := I3.out.mw.inst.here.cell 0
      have c1 := I3.out.mw.inst.here.cell 1
      have c3 := I3.out.mw.inst.here.cell 3
      simp only [List.getElem?_toArray, List.getElem?_cons_succ, List.getElem?_cons_zero] at c0 c1 c3
      rw [show (m.st rest).x.st.length = rl from HRL.out] at c3
      rw [hgS] at c1
      have l0 := I3.out.mw.inst.here.lt
      have NI : Hid (Calls _ _ _ _ _) := mpnimports_any (MPS R.bpm R.LP) R.bpm R.LP R.P R.psrcs wr I3.out.mw.prog
      rw [HNI.out] at NI
      obtain ⟨ns, HNSL⟩ : ∃ ns, Hid (R.srcs.length = ns) := ⟨_, rfl⟩
      rw [HNSL.out] at c1 hfs
      have hni1 : ((fn : Nat) : Int) - ni = fi := by have := HFI.out; omega
      have hni2 : ¬ (fn : Int) < ni := by have := HFI.out; omega
      have hni3 : ¬ (ns : Int) ≤ fi := by omega
      have hni4 : (fi : Int) < ns := Int.ofNat_lt.2 hfs
      have hni5 : ¬ ns ≤ fi := by omega
      have HWF : Hid (wrap64 (fi : Int) = fi) := nat_wrap (Nat.le_trans (Nat.le_of_lt hfs) (by rw [← HNSL.out]; exact Nat.le_trans hsl (by decide)))
      have hni6 : ¬ fn < ni := by have := HFI.out; omega
      have SEQ : Hid (Calls _ _ _ _ _) := HSW.out { t with k := 0, src := src, i := 0, loc := zeros ul ++ args } (m.st rest) o1 rfl HO1.out wr L K a (na + j) cap fi sa sc hsv0 HSR2.out HD.out.1 HD.out.2 (HO.out.same rfl) I3.out.mw I3.out.loc
      simp only [HDP.out] at SEQ
      rw [show (((0 : Nat) : Int)) = 0 from rfl] at SEQ
      obtain ⟨sl, HSL⟩ : ∃ sl, Hid (src.length = sl) := ⟨_, rfl⟩
      rw [HSL.out] at SEQ qS
      obtain ⟨obr, HBR⟩ : ∃ x, Hid (o1.br = x) := ⟨_, rfl⟩
      obtain ⟨oe, HOE⟩ : ∃ x, Hid (o1.e = x) := ⟨_, rfl⟩
      clear hcS hsv0 HO1 HSR HSR2 HI hnim HSW
      go_wp2_with fail
      refine NI.out.mono ?_
      rintro e w5 ⟨rfl, hw5⟩
      rw [hw5]
      clear hw5 w5 NI
      have hwf := HWF.out
      go_wp2_with fail
      clear hwf
      refine SEQ.out.mono ?_
      rintro e w6 ⟨L6, K6, rfl, hbr, ho6, mw6, loc6, step6⟩
      have S6 : Hid (MStep R (.slice none 0 0) w w6 L L6 K K6) := I3.out.step.drop step6 I3.out.new
      have M6 : Hid (MW R w6 L6 K6 o1.m) := mw6
      have HO6 : Hid (HostOk R H o1.m) := ho6
      rw [HBR.out, HOE.out]
      rw [HBR.out, HOE.out] at HFIN
      rw [HBR.out] at hbr
      clear mw6 ho6 loc6 step6 SEQ I3 c0 c1 c3 l0 qS lS
      by_cases he : oe = 0
      · subst he
        obtain ⟨hb0, s, hcut, hty, HOO⟩ : obr ≤ 0 ∧ ∃ s, cutV rest.length ur.length (if obr = -2 then o1.m else o1.m.bump).x.st = some s ∧ (s.take ur.length).map V.ty = ur.reverse ∧ Hid (o = ⟨-1, 0, o1.loc, (if obr = -2 then o1.m else o1.m.bump).st s⟩) := by
          rcases HFIN.out with h | h
          · exact absurd rfl h.1
          · exact h.2
        clear HFIN
        by_cases hb2 : obr = -2
        · subst hb2
          rw [if_pos rfl] at hcut
          have M7 : Hid (MW R w6 L6 K6 o1.m) := M6.out
          obtain ⟨xs, ys, zs, e1, e2, e3, e4, e5⟩ := cut_parts hcut
          have CUT : Hid (Calls _ _ _ _ _) := ycut_any M7.out.inst (xs := xs) (ys := ys) (zs := zs) e1 (by omega)
          rw [e2, e3] at CUT
          have HE4 : Hid (s = xs ++ zs) := e4
          have HE3 : Hid (zs.length = rest.length) := e3
          have HE2 : Hid (xs.length = ur.length) := e2
          rw [HRL.out] at CUT
          clear e1 e2 e3 e4 e5 hcut
          go_wp2_with fail
          skip
          refine CUT.out.mono ?_
          rintro e w8 ⟨rfl, n8, s8⟩
          have M8 : Hid (MW R w8 L6 K6 (o1.m.st s)) := by
            have h := M7.out.stepN n8 s8
            rw [← HE4.out] at h
            exact h
          have S8 : Hid (MStep R (.slice none 0 0) w w8 L L6 K K6) := S6.out.trans (MStep.ofN s8)
          have FIN : Hid (∀ W, Fr (fun _ => False) w8 W → InvPost R H o w L K (.returned (.int .i64 0)) W) := fun W hW => by
            rw [HOO.out]
            rw [if_pos trivial]
            exact ⟨L6, K6, rfl, HO6.out.same rfl, M8.out.fresh hW, S8.out.trans (MStep.fresh hW)⟩
          have HTYS : Hid ((s.take ur.length).map V.ty = ur.reverse) := hty
          clear n8 s8 CUT M7 hty
          cases hur : ur with
          | nil =>
            subst hur
            simp only [List.length_nil] at *
            go_wp2
            refine wp_region_quiet_lit (by kernel_rfl) (by kernel_rfl) ?_
            repeat go_big_quiet_step (fail)
            refine wpQuiet_nil ?_
            rintro w9 ⟨nq, rfl⟩
            go_wp2
            go_ret
            exact FIN.out _ ((Fr.refl _ _).drewN nq)
          | cons tr ur' =>
            have hur' : ur' = [] := by
              rw [hur] at hr1
              simp at hr1
              exact hr1
            subst hur'
            subst hur
            obtain ⟨v, hv, hvt⟩ : ∃ v, s = v :: zs ∧ v.ty = tr := by
              have h2 := HE2.out
              cases xs with
              | nil => simp at h2
              | cons v xs' =>
                have : xs' = [] := by simpa using h2
                subst this
                have h4 := HE4.out
                have ht := HTYS.out
                rw [h4] at ht
                simp at ht
                exact ⟨v, by rw [h4]; rfl, ht⟩
            obtain ⟨gt, hsa, a0, a1, gl, gc8⟩ := M8.out.inst.top (show (o1.m.st s).x.st = v :: zs from hv)
            have c3 := M8.out.inst.here.cell 3
            simp only [List.getElem?_toArray, List.getElem?_cons_succ, List.getElem?_cons_zero] at c3
            rw [show (o1.m.st s).x.st = v :: zs from hv, hsa, List.length_cons, HE3.out, HRL.out] at c3
            rw [HE3.out, HRL.out, hvt] at a0
            have hbt : ∀ h, (((⟨[tr].toArray⟩ : ByteArray)[0]'h).toNat : Int) = tr.toNat := fun h => rfl
            obtain ⟨tn8, HTN8⟩ : ∃ tn8 : Int, Hid (tn8 = tr.toNat) := ⟨_, rfl⟩
            rw [← HTN8.out] at a0 hbt
            have l8 := M8.out.inst.here.lt
            clear a1 gc8 hv hsa hvt hr1
            go_wp2
            refine wp_region_quiet_lit (by kernel_rfl) (by kernel_rfl) ?_
            repeat go_big_quiet_step (fail)
            refine wpQuiet_nil ?_
            rintro w9 ⟨nq, rfl⟩
            go_wp2
            go_ret
            exact FIN.out _ ((Fr.refl _ _).drewN nq)
        · rw [if_neg hb2] at hcut
          have hb2' : (obr != -2) = true := by simpa using hb2
          have hb3 : ¬ 0 < obr := by omega
          obtain ⟨w7, HW7⟩ : ∃ w7, Hid (w7 = w6.setCell ⟨R.bn, 6, none⟩ (.int .i64 (wrap64 (o1.m.x.n + 1)))) := ⟨_, rfl⟩
          obtain ⟨r1, r2⟩ := M6.out.inst.setN (wrap64 (o1.m.x.n + 1))
          rw [← HW7.out] at r1 r2
          have M7 : Hid (MW R w7 L6 K6 o1.m.bump) := M6.out.stepN r1 r2
          have S7 : Hid (MStep R (.slice none 0 0) w w7 L L6 K K6) := S6.out.trans (MStep.ofN r2)
          obtain ⟨xn, HXN⟩ : ∃ xn, Hid (o1.m.x.n = xn) := ⟨_, rfl⟩
          have c6 := M6.out.inst.here.cell 6
          have f6 := M6.out.inst.here.frozen 6
          have l6 := M6.out.inst.here.lt
          simp at c6
          rw [HXN.out] at c6 HW7
          clear r1 r2
          obtain ⟨xs, ys, zs, e1, e2, e3, e4, e5⟩ := cut_parts hcut
          have CUT : Hid (Calls _ _ _ _ _) := ycut_any M7.out.inst (xs := xs) (ys := ys) (zs := zs) e1 (by omega)
          rw [e2, e3] at CUT
          have HE4 : Hid (s = xs ++ zs) := e4
          have HE3 : Hid (zs.length = rest.length) := e3
          have HE2 : Hid (xs.length = ur.length) := e2
          rw [HRL.out] at CUT
          clear e1 e2 e3 e4 e5 hcut
          go_wp2_with fail
          rw [← HW7.out]
          refine CUT.out.mono ?_
          rintro e w8 ⟨rfl, n8, s8⟩
          have M8 : Hid (MW R w8 L6 K6 (o1.m.bump.st s)) := by
            have h := M7.out.stepN n8 s8
            rw [← HE4.out] at h
            exact h
          have S8 : Hid (MStep R (.slice none 0 0) w w8 L L6 K K6) := S7.out.trans (MStep.ofN s8)
          have FIN : Hid (∀ W, Fr (fun _ => False) w8 W → InvPost R H o w L K (.returned (.int .i64 0)) W) := fun W hW => by
            rw [HOO.out]
            rw [if_neg hb2]
            exact ⟨L6, K6, rfl, HO6.out.same rfl, M8.out.fresh hW, S8.out.trans (MStep.fresh hW)⟩
          have HTYS : Hid ((s.take ur.length).map V.ty = ur.reverse) := hty
          clear n8 s8 CUT M7 hty c6 f6 l6
          cases hur : ur with
          | nil =>
            subst hur
            simp only [List.length_nil] at *
            go_wp2
            refine wp_region_quiet_lit (by kernel_rfl) (by kernel_rfl) ?_
            repeat go_big_quiet_step (fail)
            refine wpQuiet_nil ?_
            rintro w9 ⟨nq, rfl⟩
            go_wp2
            go_ret
            exact FIN.out _ ((Fr.refl _ _).drewN nq)
          | cons tr ur' =>
            have hur' : ur' = [] := by
              rw [hur] at hr1
              simp at hr1
              exact hr1
            subst hur'
            subst hur
            obtain ⟨v, hv, hvt⟩ : ∃ v, s = v :: zs ∧ v.ty = tr := by
              have h2 := HE2.out
              cases xs with
              | nil => simp at h2
              | cons v xs' =>
                have : xs' = [] := by simpa using h2
                subst this
                have h4 := HE4.out
                have ht := HTYS.out
                rw [h4] at ht
                simp at ht
                exact ⟨v, by rw [h4]; rfl, ht⟩
            obtain ⟨gt, hsa, a0, a1, gl, gc8⟩ := M8.out.inst.top (show (o1.m.bump.st s).x.st = v :: zs from hv)
            have c3 := M8.out.inst.here.cell 3
            simp only [List.getElem?_toArray, List.getElem?_cons_succ, List.getElem?_cons_zero] at c3
            rw [show (o1.m.bump.st s).x.st = v :: zs from hv, hsa, List.length_cons, HE3.out, HRL.out] at c3
            rw [HE3.out, HRL.out, hvt] at a0
            have hbt : ∀ h, (((⟨[tr].toArray⟩ : ByteArray)[0]'h).toNat : Int) = tr.toNat := fun h => rfl
            obtain ⟨tn8, HTN8⟩ : ∃ tn8 : Int, Hid (tn8 = tr.toNat) := ⟨_, rfl⟩
            rw [← HTN8.out] at a0 hbt
            have l8 := M8.out.inst.here.lt
            clear a1 gc8 hv hsa hvt hr1
            go_wp2
            refine wp_region_quiet_lit (by kernel_rfl) (by kernel_rfl) ?_
            repeat go_big_quiet_step (fail)
            refine wpQuiet_nil ?_
            rintro w9 ⟨nq, rfl⟩
            go_wp2
            go_ret
            exact FIN.out _ ((Fr.refl _ _).drewN nq)
      · have HOO : Hid (o = ⟨-1, oe, o1.loc, o1.m⟩) := by
          rcases HFIN.out with h | h
          · exact h.2
          · exact absurd h.1 he
        have he' : (oe != 0) = true := by simpa using he
        clear HFIN
        go_wp2
        go_ret
        rw [HOO.out]
        exact ⟨L6, K6, rfl, HO6.out, M6.out, S6.out⟩
end
end Go.Proofs.Qxb6500575aGreatDoor
