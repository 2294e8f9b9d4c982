/-
  THE WALK of runlaw.walk.
-/
import Derived.Test.Qxb6500575aGreatDoorSBN
import Derived.Test.Qxb6500575aGreatDoorSAnsEq
import Derived.Deep.DeepCutAuto
namespace Go.Proofs.Qxb6500575aGreatDoor
open Go Go.RowKit
set_option linter.unusedVariables false
set_option linter.unusedSimpArgs false

def VS.on (v : VS) (sd : List Side) : VS := { v with sd := sd }
structure WF (v : VS) (bb bx bn : Nat) (aa : Option Addr) (ac k : Nat) : Prop where
  bb : v.bb = bb
  bx : v.bx = bx
  bn : v.bn = bn
  aa : v.aa = aa
  ac : v.ac = ac
  k : v.args.length = k
/-- ahead of a round -/
def WS (w0 w : World) (bb bx bn : Nat) (aa : Option Addr) (k ac : Nat) : Prop :=
  ∃ v, BS w0 w v ∧ v.bb = bb ∧ v.bx = bx ∧ v.bn = bn ∧ v.aa = aa ∧ v.ac = ac ∧ v.args.length = k ∧ v.d = v.dm
set_option maxRecDepth 100000 in
set_option maxHeartbeats 16000000 in
theorem swalk_any (a : Option Addr) (nS cap : Nat) (os : Nat → OpD) (quiet : Bool) (w : World) (hs : ScriptAt w a nS os) (hg : GlobOk w) :
    Calls Tryz.prog 25 #[.slice a nS cap, .bool quiet] w fun e w' => (∃ v : Value, e = .returned (.tuple #[.int .i64 (-1), v])) ∧ Fr (fun _ => False) w w' := by
  have HSC : Hid (ScriptAt w a nS os) := hs
  have HGL : Hid (GlobOk w) := hg
  clear hs hg
  go_enter Tryz.func25, Tryz.ntmps25
  go_wp2_with fail
  refine (sground_any w).mono ?_
  rintro e w1 hg1
  obtain ⟨bb, bm, bp, bk, bq, bkm, rfl, hP⟩ := bs_ground hg1
  obtain ⟨c1v, hH⟩ := hP.here
  have h1 := hH w1 (Fr.refl _ _)
  have c2 := h1.cell 2
  have c3 := h1.cell 3
  simp at c2 c3
  have bl1 := h1.lt
  have HNX : Hid _ := hP.next
  have HHH : Hid _ := hH
  clear hg1 hP hH h1
  go_wp2
  refine wp_region_tail 8 (by kernel_rfl) (by kernel_rfl) (fun _ _ _ _ _ h => h) ?_
  simp only [List.take_succ_cons, List.take_zero, List.drop_succ_cons, List.drop_zero]
  repeat go_big_quiet_step (fail)
  refine wpQuiet_nil ?_
  go_wp2_with fail
  refine (rnew_any _ _ _).mono ?_
  rintro e w2 ⟨bx, rfl, hI2, hF2, hbx⟩
  have F2 : Fr (fun _ => False) w1 w2 := ⟨hF2.os, hF2.tape, hF2.output, hF2.size, hF2.block⟩
  have HN2 : Hid (Calls _ _ _ _ _) := HNX.out bx w2.drew (hI2.fr' ((Fr.refl _ _).drew) (fun _ _ h => h)) (F2.trans ((Fr.refl _ _).drew) (fun _ _ h => h)) hbx
  have h2 := HHH.out w2 F2
  clear c2 c3 bl1
  have c0 := h2.cell 0
  have c4 := h2.cell 4
  have c5 := h2.cell 5
  simp at c0 c4 c5
  have bl2 := h2.lt
  clear hI2 hF2 hbx F2 HNX HHH h2
  go_wp2
  refine wp_region_tail 12 (by kernel_rfl) (by kernel_rfl) (fun _ _ _ _ _ h => h) ?_
  simp only [List.take_succ_cons, List.take_zero, List.drop_succ_cons, List.drop_zero]
  repeat go_big_quiet_step (fail)
  refine wpQuiet_nil ?_
  go_wp2_with fail
  refine HN2.out.mono ?_
  rintro e w3 ⟨bn, rfl, hB3⟩
  have HR0 : Hid (WS w w3 bb bx bn none 0 0) := ⟨_, hB3, rfl, rfl, rfl, rfl, rfl, rfl, rfl⟩
  clear hB3 HN2 c0 c4 c5 bl2
  go_wp2
  go_loopw [10, 7, 8, 9] (fun t x m s wr => ∃ (i bx bn k ac : Nat) (aa : Option Addr), i ≤ nS ∧ t = .int .i64 i ∧ x = .pointer (some ⟨bx, 0, none⟩) ∧ m = .pointer (some ⟨bn, 0, none⟩) ∧ s = .slice aa k ac ∧ (i : Int) ≤ 4398046511104 ∧ Hid (WS w wr bb bx bn aa k ac)) (fun t _ _ _ _ => nS - (intOf t).toNat)
  case atStart => exact ⟨0, bx, bn, 0, 0, none, Nat.zero_le _, rfl, rfl, rfl, rfl, by omega, HR0⟩
  case round =>
    clear HR0
    obtain ⟨i, bx, bn, k, ac, aa, hi, rfl, rfl, rfl, rfl, hi42, G1⟩ := hrel
    by_cases hlt : i < nS
    · by_cases h42 : (i : Int) < 4398046511104
      · obtain ⟨⟨bb', bx', bn', aa', ac', args, X, m, n, d, dm, fet, lim, sd⟩, hB, hbb, hbx, hbn, haa, hac, hk, hd⟩ := G1.out
        simp only at hbb hbx hbn haa hac hk hd
        subst hbb hbx hbn haa hac hd
        obtain ⟨b, o, ha, hbl, s0, s1, s2, s3, s4, s5⟩ := (HSC.out.fr hB.fr).at_ i hlt
        have hof := (HSC.out.fit i hlt)
        subst ha
        generalize os i = oi at *
        obtain ⟨kind, oa, ob, oc, oS, oT⟩ := oi
        simp only at s0 s1 s2 s3 s4 s5 hof
        obtain ⟨wB, hwB⟩ : ∃ wB, wB = wr := ⟨_, rfl⟩
        subst hwB
        have hB1 := (hB.less [] (fun p hp => by cases hp)).add #[.int .i64 kind, .int .i64 oa, .int .i64 ob, .int .i64 oc, sv oS, sv oT] 39 (.inl rfl)
        simp only at hB1
        have HBd : Hid (Calls _ _ _ _ _) := bs_build hB1 ⟨kind, oa, ob, oc, oS, oT⟩ hof.2
        unfold OpD.val at HBd
        simp only at HBd
        have HOF : Hid (Fit64 oa ∧ Fit64 ob) := hof
        have HKL : Hid (args.length = k) := hk
        have hb8 : wB.heap.size < wB.heap.size + 1 := by omega
        clear hB hB1 hof hk G1
        go_wp2_with fail
        refine HBd.out.mono ?_
        rintro e w4 ⟨⟨zb, rfl⟩, hB4⟩
        obtain ⟨X', HX'⟩ : ∃ X', Hid (X' = (X.build ⟨kind, oa, ob, oc, oS, oT⟩).1) := ⟨_, rfl⟩
        rw [← HX'.out] at hB4
        have k84 : Has w4 wB.heap.size #[.int .i64 kind, .int .i64 oa, .int .i64 ob, .int .i64 oc, sv oS, sv oT] 39 := hB4.side (p := (wB.heap.size, _, _)) List.mem_cons_self
        have HA : Hid (Calls _ _ _ _ _) := bs_args hB4 ⟨kind, oa, ob, oc, oS, oT⟩ HOF.out.2
        simp only at HA
        generalize argsP args ⟨kind, oa, ob, oc, oS, oT⟩ = args2 at *
        rw [HKL.out] at HA
        unfold OpD.val at HA
        simp only at HA
        have d0 := k84.cell 0
        have d1 := k84.cell 1
        have d2 := k84.cell 2
        have d3 := k84.cell 3
        have d4 := k84.cell 4
        have d5 := k84.cell 5
        simp at d0 d1 d2 d3 d4 d5
        have l8 := k84.lt
        clear hB4 k84 HBd HX' HKL
        go_wp2_with fail
        refine HA.out.mono ?_
        rintro e w5 ⟨aa2, ac2, rfl, hB5⟩
        obtain ⟨k2, HK2⟩ : ∃ k2, Hid (args2.length = k2) := ⟨_, rfl⟩
        have hal := hB5.al
        simp only at hal
        rw [HK2.out] at hal ⊢
        have HMK : Hid (Calls _ _ _ _ _) := bs_mark hB5
        simp only at HMK
        clear hB5 HA d0 d1 d2 d3 d4 d5 l8
        go_wp2_with fail
        refine HMK.out.mono ?_
        rintro e w7 ⟨rfl, hB7⟩
        have HB7 : Hid (BS w w7 (VS.on ⟨bb', bx', bn', aa2, ac2, args2, X', m, 0, d, d, fet, lim, []⟩ [(wB.heap.size, #[.int .i64 kind, .int .i64 oa, .int .i64 ob, .int .i64 oc, sv oS, sv oT], 39)])) := hB7
        have k87 : Has w7 wB.heap.size #[.int .i64 kind, .int .i64 oa, .int .i64 ob, .int .i64 oc, sv oS, sv oT] 39 := hB7.side (p := (wB.heap.size, _, _)) List.mem_cons_self
        have d0 := k87.cell 0
        have d1 := k87.cell 1
        have d2 := k87.cell 2
        have d3 := k87.cell 3
        have d4 := k87.cell 4
        have d5 := k87.cell 5
        simp at d0 d1 d2 d3 d4 d5
        have l8 := k87.lt
        clear HMK hB7 k87
        go_upto_if 65 with fail
        go_cut [7, 8, 11] (fun x m p wc => ∃ (bx bn : Nat) (v : VS), x = .pointer (some ⟨bx, 0, none⟩) ∧ m = .pointer (some ⟨bn, 0, none⟩) ∧ p = .pointer (some ⟨wB.heap.size, 0, none⟩) ∧ Hid (BS w wc (v.on [(wB.heap.size, #[.int .i64 kind, .int .i64 oa, .int .i64 ob, .int .i64 oc, sv oS, sv oT], 39)])) ∧ Hid (WF v bb' bx bn aa2 ac2 k2) ∧ Hid (v.n = 0 ∧ v.d = v.dm))
        case first =>
          rename_i J K' hJ hK
          have HJ : Hid (∀ a' w', _ → J a' w') := hJ
          clear hJ
          by_cases q8 : kind = 8
          · subst q8
            have n8 : ((8 : Int) == 8) = true := by decide
            rw [n8]
            by_cases hz : X'.m.load.2.2 = 0
            · have HLO : Hid (Calls _ _ _ _ _) := bs_load HB7.out hz
              simp only [VS.on] at HLO
              clear d0 d1 d2 d3 d4 d5 l8
              go_wp2_with fail
              refine HLO.out.mono ?_
              rintro e w8 ⟨rfl, hF8, bm2, bp2, bk2, bq2, bkm2, hP⟩
              obtain ⟨W9, HW9⟩ : ∃ W9, Hid (W9 = w8.alloc (.cells #[.int .i64 0, .int .i64 0, .int .i64 0, sv []] 46)) := ⟨_, rfl⟩
              have F9 : Fr (fun _ => False) w8 W9 := by rw [HW9.out]; exact (Fr.refl _ _).alloc _
              obtain ⟨c1w, hH⟩ := hP.here
              have h9 := hH _ F9
              rw [HW9.out] at h9
              have c2 := h9.cell 2
              have c3 := h9.cell 3
              have bl := h9.lt
              simp only [List.getElem?_toArray, List.getElem?_cons_zero, List.getElem?_cons_succ] at c2 c3
              have HNX : Hid _ := hP.next
              have HHH : Hid _ := hH
              have HF9 : Hid (Fr _ w8 W9) := F9
              clear hP hH h9 F9 HLO hF8
              go_wp2
              refine wp_region_tail 8 (by kernel_rfl) (by kernel_rfl) (fun _ _ _ _ _ h => h) ?_
              simp only [List.take_succ_cons, List.take_zero, List.drop_succ_cons, List.drop_zero]
              repeat go_big_quiet_step (fail)
              refine wpQuiet_nil ?_
              go_wp2_with fail
              refine (rnew_any _ _ _).mono ?_
              rintro e w10 ⟨bx2, rfl, hI2, hF2, hbx2⟩
              rw [← HW9.out] at hF2 hbx2
              have F10 : Fr (fun _ => False) w8 w10 := HF9.out.trans ⟨hF2.os, hF2.tape, hF2.output, hF2.size, hF2.block⟩ (fun _ _ h => h)
              have HN2 : Hid (Calls _ _ _ _ _) := HNX.out bx2 w10.drew (hI2.fr' ((Fr.refl _ _).drew) (fun _ _ h => h)) (F10.trans ((Fr.refl _ _).drew) (fun _ _ h => h)) (Nat.le_trans HF9.out.size hbx2)
              have h10 := HHH.out w10 F10
              clear c2 c3 bl
              have c0 := h10.cell 0
              have c4 := h10.cell 4
              have c5 := h10.cell 5
              have bl2 := h10.lt
              simp only [List.getElem?_toArray, List.getElem?_cons_zero, List.getElem?_cons_succ] at c0 c4 c5
              clear hI2 hF2 hbx2 F10 HNX HHH h10 HF9 HW9
              go_wp2
              refine wp_region_tail 12 (by kernel_rfl) (by kernel_rfl) (fun _ _ _ _ _ h => h) ?_
              simp only [List.take_succ_cons, List.take_zero, List.drop_succ_cons, List.drop_zero]
              repeat go_big_quiet_step (fail)
              refine wpQuiet_nil ?_
              go_wp2_with fail
              refine HN2.out.mono ?_
              rintro e w11 ⟨bn2, rfl, hB11⟩
              have HB11 : Hid (BS w w11 (VS.on ⟨bb', bx2, bn2, aa2, ac2, args2, X', X'.m, 0, (KD.zero X'.m.min.toNat X'.m.max.toNat), (KD.zero X'.m.min.toNat X'.m.max.toNat), 0, w11.heap.size, []⟩ [(wB.heap.size, #[.int .i64 8, .int .i64 oa, .int .i64 ob, .int .i64 oc, sv oS, sv oT], 39)])) := hB11
              clear hB11 HN2 c0 c4 c5 bl2
              go_wp2
              have hJ := HJ.out
              go_meet
              case rel => exact ⟨bx2, bn2, _, rfl, rfl, rfl, HB11, ⟨rfl, rfl, rfl, rfl, rfl, HK2.out⟩, ⟨rfl, rfl⟩⟩
            · have HLO : Hid (Calls _ _ _ _ _) := bs_bad HB7.out HGL.out hz
              simp only [VS.on] at HLO
              clear d0 d1 d2 d3 d4 d5 l8
              go_wp2_with fail
              refine HLO.out.mono ?_
              rintro e w8 ⟨⟨er, ea, eb, hpos, rfl⟩, hB8⟩
              have hne2 : (er == 0) = false := beq_eq_false_iff_ne.2 (by omega)
              have hne3 : decide (er < 0) = false := by simp; omega
              have HB8 : Hid (∀ o : Obj, BS w (w8.alloc o) (VS.on ⟨bb', bx', bn', aa2, ac2, args2, X', m, 0, d, d, fet, lim, []⟩ [(wB.heap.size, #[.int .i64 8, .int .i64 oa, .int .i64 ob, .int .i64 oc, sv oS, sv oT], 39)])) := fun o => hB8.fresh ((Fr.refl _ _).alloc _)
              clear hB8 HLO hpos
              go_wp2
              have hJ := HJ.out
              go_meet
              case rel => exact ⟨bx', bn', _, rfl, rfl, rfl, HB8.out _, ⟨rfl, rfl, rfl, rfl, rfl, HK2.out⟩, ⟨rfl, rfl⟩⟩
          · have n8 : (kind == 8) = false := beq_eq_false_iff_ne.2 q8
            rw [n8]
            go_wp2
            have hJ := HJ.out
            go_meet
            case rel => exact ⟨bx', bn', _, rfl, rfl, rfl, HB7, ⟨rfl, rfl, rfl, rfl, rfl, HK2.out⟩, ⟨rfl, rfl⟩⟩
        case rest =>
          obtain ⟨bx, bn, v, rfl, rfl, rfl, HB7, HWF, HVN⟩ := hcut
          have HROW : Hid (World.ownsRow wc 0 70 2 (.slice aa2 k2 ac2) k2 (bvCells v.args)) := by
            have := HB7.out.row
            have e1 := HWF.out.aa
            have e2 := HWF.out.ac
            have e3 := HWF.out.k
            simp only [VS.on] at this
            rw [e1, e2, e3] at this
            exact this
          have HCALL : Hid (∀ (W : World) (sd : List Side) (va : Option Addr) (vc : Nat), BS w W (v.on sd) → (∀ g, (Value.slice va k2 vc).ownBlock = some g → wc.heap.size ≤ g) → W.ownsRow 0 70 2 (.slice va k2 vc) k2 (bvCells v.args) → Calls Tryz.prog 16 #[.pointer (some ⟨bx, 0, none⟩), .slice va k2 vc, .agg #[.int .i64 kind, .int .i64 oa, .int .i64 ob, .int .i64 oc, sv oS, sv oT]] W fun e w' => ∃ er us len str v1, e = .returned (ansV er us len str) ∧ BS w w' (VS.on v1 sd) ∧ (WF v1 bb' bx bn aa2 ac2 k2 ∧ v1.args = v.args ∧ DoneD v1 ⟨kind, oa, ob, oc, oS, oT⟩ er us len str)) := by
            intro W sd va vc hb _ hrow
            have hw := HWF.out
            have key : ∀ (bx' k' : Nat), bx' = (v.on sd).bx → k' = (v.on sd).args.length → W.ownsRow 0 70 2 (.slice va k' vc) k' (bvCells v.args) → Calls Tryz.prog 16 #[.pointer (some ⟨bx', 0, none⟩), .slice va k' vc, .agg #[.int .i64 kind, .int .i64 oa, .int .i64 ob, .int .i64 oc, sv oS, sv oT]] W fun e w' => ∃ er us len str n' d', e = .returned (ansV er us len str) ∧ BS w w' { v.on sd with n := n', d := d' } ∧ DoneD { v.on sd with n := n', d := d' } ⟨kind, oa, ob, oc, oS, oT⟩ er us len str := by
              rintro _ _ rfl rfl hr
              exact bs_do hb HGL.out HVN.out.1 HVN.out.2 ⟨kind, oa, ob, oc, oS, oT⟩ HOF.out.2 va vc hr
            have := key bx k2 hw.bx.symm hw.k.symm hrow
            refine this.mono ?_
            rintro e w' ⟨er, us, len, str, n', d', he, hB, hd⟩
            exact ⟨er, us, len, str, { v with n := n', d := d' }, he, hB, ⟨hw.bb, hw.bx, hw.bn, hw.aa, hw.ac, hw.k⟩, rfl, hd⟩
          have k87 : Has wc wB.heap.size #[.int .i64 kind, .int .i64 oa, .int .i64 ob, .int .i64 oc, sv oS, sv oT] 39 := HB7.out.side (p := (wB.heap.size, #[.int .i64 kind, .int .i64 oa, .int .i64 ob, .int .i64 oc, sv oS, sv oT], 39)) (by simp [VS.on])
          have H87 : Hid (Has wc wB.heap.size #[.int .i64 kind, .int .i64 oa, .int .i64 ob, .int .i64 oc, sv oS, sv oT] 39) := k87
          have d0 := k87.cell 0
          have d1 := k87.cell 1
          have d2 := k87.cell 2
          have d3 := k87.cell 3
          have d4 := k87.cell 4
          have d5 := k87.cell 5
          simp at d0 d1 d2 d3 d4 d5
          have l8 := k87.lt
          clear k87
          go_wp2
          refine wp_region_trioG [0, 1, 3] 2 4 5 6 (fun y => Has y wB.heap.size #[.int .i64 kind, .int .i64 oa, .int .i64 ob, .int .i64 oc, sv oS, sv oT] 39) (by kernel_rfl) (by kernel_rfl) (fun _ _ _ _ _ h => h) H87.out.drew [_, _, _] rfl _ _ _ rfl rfl rfl _ rfl (by decide) (by decide) (by decide) ?_
          simp only [List.getElem_toArray, List.getElem_cons_succ, List.getElem_cons_zero, List.drop_succ_cons, List.drop_zero, List.length_cons, List.length_nil, Nat.zero_add]
          repeat go_big_quiet_step (fail)
          refine wpQ_loadOp rfl (.tmp 11) wB.heap.size _ _ _ _ _ _ rfl rfl (fun y hy => hy) ?_
          simp only [Act.put, List.setIfInBounds_toArray, List.set_cons_succ, List.set_cons_zero]
          refine wpQuiet_nil ?_
          refine ⟨fun a' aK W => ∃ (va : Option Addr) (vc bA : Nat) (er us len : Int) (str : List UInt8) (v1 : VS), aK = ((a'.put (some 100) (.slice va k2 vc)).put (some 102) (.agg #[.int .i64 er, .int .i64 us, .int .i64 len, sv str])).put (some 13) (.pointer (some ⟨bA, 0, none⟩)) ∧ BS w W (v1.on ((bA, #[.int .i64 0, .int .i64 0, .int .i64 0, sv []], 46) :: [(wB.heap.size, #[.int .i64 kind, .int .i64 oa, .int .i64 ob, .int .i64 oc, sv oS, sv oT], 39)])) ∧ (∀ p ∈ [(wB.heap.size, #[.int .i64 kind, .int .i64 oa, .int .i64 ob, .int .i64 oc, sv oS, sv oT], 39)], p.1 ≠ bA) ∧ (WF v1 bb' bx bn aa2 ac2 k2 ∧ v1.args = v.args ∧ DoneD v1 ⟨kind, oa, ob, oc, oS, oT⟩ er us len str), ?_, ?_⟩
          · rintro aK W10 ⟨va, vc, bA, er, us, len, str, v1, rfl, HX10, HOLD, HFACT⟩
            replace HX10 : Hid (BS _ _ _) := HX10
            replace HOLD : Hid (∀ p ∈ [(wB.heap.size, #[.int .i64 kind, .int .i64 oa, .int .i64 ob, .int .i64 oc, sv oS, sv oT], 39)], p.1 ≠ bA) := HOLD
            replace HFACT : Hid (WF v1 bb' bx bn aa2 ac2 k2 ∧ v1.args = v.args ∧ DoneD v1 ⟨kind, oa, ob, oc, oS, oT⟩ er us len str) := HFACT
            clear H87 HROW HCALL d0 d1 d2 d3 d4 d5 l8
            simp only [Act.put, List.setIfInBounds_toArray, List.set_cons_succ, List.set_cons_zero, List.drop_succ_cons, List.drop_zero, List.length_cons, List.length_nil, Nat.zero_add]
            have kA10 : Has W10 bA #[.int .i64 0, .int .i64 0, .int .i64 0, sv []] 46 := HX10.out.side (p := (bA, _, _)) (by simp [VS.on])
            have x0 := kA10.cell 0
            have x1 := kA10.cell 1
            have x2 := kA10.cell 2
            have x3 := kA10.cell 3
            simp at x0 x1 x2 x3
            have y0 := kA10.frozen 0
            have y1 := kA10.frozen 1
            have y2 := kA10.frozen 2
            have y3 := kA10.frozen 3
            have yl := kA10.lt
            have HA10 : Hid (Has W10 bA _ _) := kA10
            clear kA10
            unfold wpChain
            go_wp2
            obtain ⟨g1, g2⟩ := HA10.out.put4 (.int .i64 er) (.int .i64 us) (.int .i64 len) (sv str)
            obtain ⟨w11, HW11⟩ : ∃ w11, Hid (w11 = ((((W10.setCell ⟨bA, 0, none⟩ (.int .i64 er)).setCell ⟨bA, 1, none⟩ (.int .i64 us)).setCell ⟨bA, 2, none⟩ (.int .i64 len)).setCell ⟨bA, 3, none⟩ (sv str))) := ⟨_, rfl⟩
            rw [← HW11.out] at g1 g2 ⊢
            have X11 := BS.put (v := v1.on []) HX10.out HOLD.out g2 g1
            have HX11 : Hid (BS w w11 (v1.on ((bA, #[.int .i64 er, .int .i64 us, .int .i64 len, sv str], 46) :: [(wB.heap.size, #[.int .i64 kind, .int .i64 oa, .int .i64 ob, .int .i64 oc, sv oS, sv oT], 39)]))) := X11
            have k11 : Has w11 wB.heap.size #[.int .i64 kind, .int .i64 oa, .int .i64 ob, .int .i64 oc, sv oS, sv oT] 39 := X11.side (p := (wB.heap.size, #[.int .i64 kind, .int .i64 oa, .int .i64 ob, .int .i64 oc, sv oS, sv oT], 39)) (by simp)
            refine ⟨k11, ?_⟩
            clear g1 g2 X11 k11 HW11 HX10 HA10 x0 x1 x2 x3 y0 y1 y2 y3 yl
            rw [wpChain_zero]
            obtain ⟨HWF1, HDA, HDN⟩ : Hid (WF v1 bb' bx bn aa2 ac2 k2) ∧ Hid (v1.args = v.args) ∧ Hid (DoneD v1 ⟨kind, oa, ob, oc, oS, oT⟩ er us len str) := HFACT.out
            obtain ⟨b13, HB13⟩ : ∃ b13, Hid (b13 = bA) := ⟨_, rfl⟩
            rw [← HB13.out] at HX11 ⊢
            have HST : Hid (Calls _ _ _ _ _) := bs_steps HX11.out
            simp only [VS.on] at HST
            rw [HWF1.out.bb] at HST
            clear HFACT HB13 HOLD
            go_wp2_with fail
            refine HST.out.mono ?_
            rintro e w12 ⟨rfl, hw12⟩
            rw [← hw12] at HX11
            have hL12 := HX11.out.limit
            obtain ⟨vL, HVL⟩ : ∃ vL : VS, Hid (vL = { v1 with lim := w12.heap.size }) := ⟨_, rfl⟩
            have HB12 : Hid (BS w w12 (vL.on [(b13, #[.int .i64 er, .int .i64 us, .int .i64 len, sv str], 46), (wB.heap.size, #[.int .i64 kind, .int .i64 oa, .int .i64 ob, .int .i64 oc, sv oS, sv oT], 39)])) := by
              show BS _ _ _
              rw [HVL.out]
              exact hL12
            have HLIM : Hid (vL.lim = w12.heap.size) := by show _ = _; rw [HVL.out]
            have HWFL : Hid (WF vL bb' bx bn aa2 ac2 k2) := by
              show WF _ _ _ _ _ _ _
              rw [HVL.out]
              exact ⟨HWF1.out.bb, HWF1.out.bx, HWF1.out.bn, HWF1.out.aa, HWF1.out.ac, HWF1.out.k⟩
            have HDNL : Hid (DoneD vL ⟨kind, oa, ob, oc, oS, oT⟩ er us len str) := by
              show DoneD _ _ _ _ _ _
              rw [HVL.out]
              exact HDN.out
            have HNL : Hid (v1.n = vL.n) := by show _ = _; rw [HVL.out]
            rw [HNL.out]
            clear HNL HST hw12 hL12 HX11 HWF1 HDN HDA HVL HVN HWF HB7

            have HROW : Hid (World.ownsRow w12 0 70 2 (.slice aa2 k2 ac2) k2 (bvCells vL.args)) := by
              have := HB12.out.row
              have e1 := HWFL.out.aa
              have e2 := HWFL.out.ac
              have e3 := HWFL.out.k
              simp only [VS.on] at this
              rw [e1, e2, e3] at this
              exact this
            have HCALL : Hid (∀ (W : World) (sd : List Side) (va : Option Addr) (vc : Nat), BS w W (vL.on sd) → (∀ g, (Value.slice va k2 vc).ownBlock = some g → w12.heap.size ≤ g) → W.ownsRow 0 70 2 (.slice va k2 vc) k2 (bvCells vL.args) → Calls Tryz.prog 45 #[.pointer (some ⟨bn, 0, none⟩), .slice va k2 vc, .agg #[.int .i64 kind, .int .i64 oa, .int .i64 ob, .int .i64 oc, sv oS, sv oT]] W fun e w' => e = .returned (ansV er us len str) ∧ ∃ v2, BS w w' (VS.on v2 sd) ∧ (WF v2 bb' bx bn aa2 ac2 k2 ∧ v2.d = v2.dm ∧ v2.n = vL.n ∧ (kind = 10 → v2.fet = vL.n))) := by
              intro W sd va vc hb hn hrow
              have hw := HWFL.out
              have key : ∀ (bn' k' : Nat), bn' = (vL.on sd).bn → k' = (vL.on sd).args.length → (∀ g, (Value.slice va k' vc).ownBlock = some g → w12.heap.size ≤ g) → W.ownsRow 0 70 2 (.slice va k' vc) k' (bvCells vL.args) → Calls Tryz.prog 45 #[.pointer (some ⟨bn', 0, none⟩), .slice va k' vc, .agg #[.int .i64 kind, .int .i64 oa, .int .i64 ob, .int .i64 oc, sv oS, sv oT]] W fun e w' => e = .returned (ansV er us len str) ∧ ∃ fet', BS w w' { vL.on sd with dm := (vL.on sd).d, fet := fet', lim := w'.heap.size } ∧ (kind = 10 → fet' = (vL.on sd).n) := by
                rintro _ _ rfl rfl hg hr
                exact bs_dom hb ⟨kind, oa, ob, oc, oS, oT⟩ HOF.out.2 HDNL.out va vc hr (fun g hgg => by have := hg g hgg; rw [← HLIM.out] at this; exact this)
              have := key bn k2 hw.bn.symm hw.k.symm hn hrow
              refine this.mono ?_
              rintro e w' ⟨he, fet', hB, hf⟩
              exact ⟨he, { vL with dm := vL.d, fet := fet', lim := w'.heap.size }, hB, ⟨hw.bb, hw.bx, hw.bn, hw.aa, hw.ac, hw.k⟩, rfl, rfl, hf⟩
            have k87 : Has w12 wB.heap.size #[.int .i64 kind, .int .i64 oa, .int .i64 ob, .int .i64 oc, sv oS, sv oT] 39 := HB12.out.side (p := (wB.heap.size, #[.int .i64 kind, .int .i64 oa, .int .i64 ob, .int .i64 oc, sv oS, sv oT], 39)) (by simp [VS.on])
            have H87 : Hid (Has w12 wB.heap.size #[.int .i64 kind, .int .i64 oa, .int .i64 ob, .int .i64 oc, sv oS, sv oT] 39) := k87
            have d0 := k87.cell 0
            have d1 := k87.cell 1
            have d2 := k87.cell 2
            have d3 := k87.cell 3
            have d4 := k87.cell 4
            have d5 := k87.cell 5
            simp at d0 d1 d2 d3 d4 d5
            have l8 := k87.lt
            clear k87
            go_wp2
            refine wp_region_trioG [0, 1, 3] 2 4 5 6 (fun y => Has y wB.heap.size #[.int .i64 kind, .int .i64 oa, .int .i64 ob, .int .i64 oc, sv oS, sv oT] 39) (by kernel_rfl) (by kernel_rfl) (fun _ _ _ _ _ h => h) H87.out.drew [_, _, _] rfl _ _ _ rfl rfl rfl _ rfl (by decide) (by decide) (by decide) ?_
            simp only [List.getElem_toArray, List.getElem_cons_succ, List.getElem_cons_zero, List.drop_succ_cons, List.drop_zero, List.length_cons, List.length_nil, Nat.zero_add]
            repeat go_big_quiet_step (fail)
            refine wpQ_loadOp rfl (.tmp 11) wB.heap.size _ _ _ _ _ _ rfl rfl (fun y hy => hy) ?_
            simp only [Act.put, List.setIfInBounds_toArray, List.set_cons_succ, List.set_cons_zero]
            refine wpQuiet_nil ?_
            refine ⟨fun a' aK W => ∃ (va : Option Addr) (vc bA : Nat) (v2 : VS), aK = ((a'.put (some 107) (.slice va k2 vc)).put (some 109) (.agg #[.int .i64 er, .int .i64 us, .int .i64 len, sv str])).put (some 15) (.pointer (some ⟨bA, 0, none⟩)) ∧ BS w W (v2.on ((bA, #[.int .i64 0, .int .i64 0, .int .i64 0, sv []], 46) :: [(b13, #[.int .i64 er, .int .i64 us, .int .i64 len, sv str], 46), (wB.heap.size, #[.int .i64 kind, .int .i64 oa, .int .i64 ob, .int .i64 oc, sv oS, sv oT], 39)])) ∧ (∀ p ∈ [(b13, #[.int .i64 er, .int .i64 us, .int .i64 len, sv str], 46), (wB.heap.size, #[.int .i64 kind, .int .i64 oa, .int .i64 ob, .int .i64 oc, sv oS, sv oT], 39)], p.1 ≠ bA) ∧ (WF v2 bb' bx bn aa2 ac2 k2 ∧ v2.d = v2.dm ∧ v2.n = vL.n ∧ (kind = 10 → v2.fet = vL.n)), ?_, ?_⟩
            · rintro aK W10 ⟨va, vc, bA, v2, rfl, HX10, HOLD, HFACT⟩
              replace HX10 : Hid (BS _ _ _) := HX10
              replace HOLD : Hid (∀ p ∈ [(b13, #[.int .i64 er, .int .i64 us, .int .i64 len, sv str], 46), (wB.heap.size, #[.int .i64 kind, .int .i64 oa, .int .i64 ob, .int .i64 oc, sv oS, sv oT], 39)], p.1 ≠ bA) := HOLD
              replace HFACT : Hid (WF v2 bb' bx bn aa2 ac2 k2 ∧ v2.d = v2.dm ∧ v2.n = vL.n ∧ (kind = 10 → v2.fet = vL.n)) := HFACT
              clear H87 HROW HCALL d0 d1 d2 d3 d4 d5 l8
              simp only [Act.put, List.setIfInBounds_toArray, List.set_cons_succ, List.set_cons_zero, List.drop_succ_cons, List.drop_zero, List.length_cons, List.length_nil, Nat.zero_add]
              have kA10 : Has W10 bA #[.int .i64 0, .int .i64 0, .int .i64 0, sv []] 46 := HX10.out.side (p := (bA, _, _)) (by simp [VS.on])
              have x0 := kA10.cell 0
              have x1 := kA10.cell 1
              have x2 := kA10.cell 2
              have x3 := kA10.cell 3
              simp at x0 x1 x2 x3
              have y0 := kA10.frozen 0
              have y1 := kA10.frozen 1
              have y2 := kA10.frozen 2
              have y3 := kA10.frozen 3
              have yl := kA10.lt
              have HA10 : Hid (Has W10 bA _ _) := kA10
              clear kA10
              unfold wpChain
              go_wp2
              obtain ⟨g1, g2⟩ := HA10.out.put4 (.int .i64 er) (.int .i64 us) (.int .i64 len) (sv str)
              obtain ⟨w11, HW11⟩ : ∃ w11, Hid (w11 = ((((W10.setCell ⟨bA, 0, none⟩ (.int .i64 er)).setCell ⟨bA, 1, none⟩ (.int .i64 us)).setCell ⟨bA, 2, none⟩ (.int .i64 len)).setCell ⟨bA, 3, none⟩ (sv str))) := ⟨_, rfl⟩
              rw [← HW11.out] at g1 g2 ⊢
              have X11 := BS.put (v := v2.on []) HX10.out HOLD.out g2 g1
              have HX11 : Hid (BS w w11 (v2.on ((bA, #[.int .i64 er, .int .i64 us, .int .i64 len, sv str], 46) :: [(b13, #[.int .i64 er, .int .i64 us, .int .i64 len, sv str], 46), (wB.heap.size, #[.int .i64 kind, .int .i64 oa, .int .i64 ob, .int .i64 oc, sv oS, sv oT], 39)]))) := X11
              have k11 : Has w11 wB.heap.size #[.int .i64 kind, .int .i64 oa, .int .i64 ob, .int .i64 oc, sv oS, sv oT] 39 := X11.side (p := (wB.heap.size, #[.int .i64 kind, .int .i64 oa, .int .i64 ob, .int .i64 oc, sv oS, sv oT], 39)) (by simp)
              refine ⟨k11, ?_⟩
              clear g1 g2 X11 k11 HW11 HX10 HA10 x0 x1 x2 x3 y0 y1 y2 y3 yl
              rw [wpChain_zero]
              have k15 : Has w11 bA #[.int .i64 er, .int .i64 us, .int .i64 len, sv str] 46 := HX11.out.side (p := (bA, _, _)) (by simp [VS.on])
              have k13 : Has w11 b13 #[.int .i64 er, .int .i64 us, .int .i64 len, sv str] 46 := HX11.out.side (p := (b13, _, _)) (by simp [VS.on])
              have k11 : Has w11 wB.heap.size #[.int .i64 kind, .int .i64 oa, .int .i64 ob, .int .i64 oc, sv oS, sv oT] 39 := HX11.out.side (p := (wB.heap.size, _, _)) (by simp [VS.on])
              have d0 := k11.cell 0
              have l8 := k11.lt
              have x0 := k15.cell 0
              have x1 := k15.cell 1
              have x2 := k15.cell 2
              have x3 := k15.cell 3
              have xl := k15.lt
              have z0 := k13.cell 0
              have z1 := k13.cell 1
              have z2 := k13.cell 2
              have z3 := k13.cell 3
              have zl := k13.lt
              simp at d0 x0 x1 x2 x3 z0 z1 z2 z3
              have hcmp := ans_same er us len str
              obtain ⟨HWF2, HD2, HN2, HF2⟩ : Hid (WF v2 bb' bx bn aa2 ac2 k2) ∧ Hid (v2.d = v2.dm) ∧ Hid (v2.n = vL.n) ∧ Hid (kind = 10 → v2.fet = vL.n) := HFACT.out
              have HZ0 : Hid (kind ≠ 10 → vL.n = 0) := fun h => (HDNL.out.2 h).1
              have HX0 : Hid (BS w w11 (v2.on [])) := HX11.out.less [] (fun p hp => by cases hp)
              obtain ⟨gn, HGN⟩ : ∃ gn, Hid (vL.n = gn) := ⟨_, rfl⟩
              rw [HGN.out] at HF2 HZ0 ⊢
              clear k15 k13 k11 HFACT HX11 HOLD HB12 HWFL HDNL HLIM HN2 HGN
              have hgg : (gn != gn) = false := by simp
              have FINA : Hid (∀ W, Fr (fun _ => False) w11 W → WS w W bb' bx bn aa2 k2 ac2) := fun W hW => ⟨_, HX0.out.fresh hW, HWF2.out.bb, HWF2.out.bx, HWF2.out.bn, HWF2.out.aa, HWF2.out.ac, HWF2.out.k, HD2.out⟩
              have FINN : Hid (∀ W, Fr (fun _ => False) w11 W → WS w W bb' bx bn none 0 0) := fun W hW => ⟨_, (HX0.out.fresh hW).argsNil, HWF2.out.bb, HWF2.out.bx, HWF2.out.bn, rfl, rfl, rfl, HD2.out⟩
              have HSHR : Hid (∀ W, Fr (fun _ => False) w11 W → Calls Tryz.prog 13 #[.pointer (some ⟨bx, 0, none⟩)] W fun e w' => ∃ z, e = .returned (sv z) ∧ Hid (z = v2.d.text) ∧ z.length ≤ 1000 ∧ Fr (fun _ => False) W w') := fun W hW => by
                have := bs_show (HX0.out.fresh hW)
                simp only [VS.on] at this
                rw [HWF2.out.bx] at this
                exact this
              have HSHM : Hid (∀ W, Fr (fun _ => False) w11 W → Calls Tryz.prog 47 #[.pointer (some ⟨bn, 0, none⟩)] W fun e w' => ∃ z, e = .returned (sv z) ∧ Hid (z = v2.d.text) ∧ z.length ≤ 1000 ∧ Fr (fun _ => False) W w') := fun W hW => by
                have := bs_showM (HX0.out.fresh hW)
                simp only [VS.on] at this
                rw [HWF2.out.bn, ← HD2.out] at this
                exact this
              have HCKR : Hid (∀ W, Fr (fun _ => False) w11 W → Calls Tryz.prog 40 #[.pointer (some ⟨bx, 0, none⟩)] W fun e w' => e = .returned (.bool true) ∧ w' = W) := fun W hW => by
                have := bs_check (HX0.out.fresh hW)
                simp only [VS.on] at this
                rw [HWF2.out.bx] at this
                exact this
              by_cases q10 : kind = 10
              · have hq10 : (kind == 10) = true := by rw [q10]; rfl
                have HFE : Hid (Calls _ _ _ _ _) := bs_fetched HX0.out
                simp only [VS.on] at HFE
                rw [HWF2.out.bn, HF2.out q10] at HFE
                clear HX0 HWF2 HD2 HF2 HZ0 q10
                cases quiet with
                | true =>
                  go_wp2_with fail
                  refine HFE.out.mono ?_
                  rintro e wx ⟨rfl, hwx⟩
                  obtain rfl := hwx.symm
                  clear hwx HFE
                  go_wp2
                  have HRN := FINN.out w11 (Fr.refl _ _)
                  go_roundw
                  case rel => exact ⟨i + 1, bx, bn, 0, 0, none, by omega, by go_num, rfl, rfl, rfl, by omega, HRN⟩
                  case measure => simp [intOf]; omega
                | false =>
                  go_wp2_with fail
                  refine HFE.out.mono ?_
                  rintro e wx ⟨rfl, hwx⟩
                  obtain rfl := hwx.symm
                  clear hwx HFE
                  go_wp2_with fail
                  refine (HSHR.out _ (Fr.refl _ _)).mono ?_
                  rintro e wU ⟨t1, rfl, T1, _, hFU⟩
                  have HFU : Hid (Fr (fun _ => False) w11 wU) := hFU
                  clear hFU
                  go_wp2_with fail
                  refine (HSHM.out _ HFU.out).mono ?_
                  rintro e wV ⟨t2, rfl, T2, _, hFV⟩
                  have HFV : Hid (Fr (fun _ => False) w11 wV) := HFU.out.trans hFV (fun _ _ h => h)
                  obtain rfl : t1 = t2 := T1.out.trans T2.out.symm
                  clear hFV
                  go_wp2_with fail
                  refine (HCKR.out _ HFV.out).mono ?_
                  rintro e wx ⟨rfl, hwx⟩
                  obtain rfl := hwx.symm
                  clear hwx
                  have HRN := FINN.out wV HFV.out
                  clear HSHR HSHM HCKR FINA FINN T1 T2
                  go_wp2
                  go_roundw
                  case rel => exact ⟨i + 1, bx, bn, 0, 0, none, by omega, by go_num, rfl, rfl, rfl, by omega, HRN⟩
                  case measure => simp [intOf]; omega
              · have hq10 : (kind == 10) = false := beq_eq_false_iff_ne.2 q10
                have hg0 : (gn != 0) = false := by rw [HZ0.out q10]; rfl
                clear HX0 HWF2 HD2 HF2 HZ0
                cases quiet with
                | true =>
                  go_wp2
                  have HRN := FINA.out w11 (Fr.refl _ _)
                  go_roundw
                  case rel => exact ⟨i + 1, bx, bn, k2, ac2, aa2, by omega, by go_num, rfl, rfl, rfl, by omega, HRN⟩
                  case measure => simp [intOf]; omega
                | false =>
                  go_wp2_with fail
                  refine (HSHR.out _ (Fr.refl _ _)).mono ?_
                  rintro e wU ⟨t1, rfl, T1, _, hFU⟩
                  have HFU : Hid (Fr (fun _ => False) w11 wU) := hFU
                  clear hFU
                  go_wp2_with fail
                  refine (HSHM.out _ HFU.out).mono ?_
                  rintro e wV ⟨t2, rfl, T2, _, hFV⟩
                  have HFV : Hid (Fr (fun _ => False) w11 wV) := HFU.out.trans hFV (fun _ _ h => h)
                  obtain rfl : t1 = t2 := T1.out.trans T2.out.symm
                  clear hFV
                  go_wp2_with fail
                  refine (HCKR.out _ HFV.out).mono ?_
                  rintro e wx ⟨rfl, hwx⟩
                  obtain rfl := hwx.symm
                  clear hwx
                  have HRN := FINA.out wV HFV.out
                  clear HSHR HSHM HCKR FINA FINN T1 T2
                  go_wp2
                  go_roundw
                  case rel => exact ⟨i + 1, bx, bn, k2, ac2, aa2, by omega, by go_num, rfl, rfl, rfl, by omega, HRN⟩
                  case measure => simp [intOf]; omega
            · intro G HG
              refine ⟨?_, ?_⟩
              · obtain ⟨va, vc, w8, hrA, hoA, hfA, hnA⟩ := copy_args (w := w12.drew) HROW.out hal 37
                refine wpL_app2 rfl (.const (.slice none 0 0)) (.tmp 106) rfl _ _ _ rfl rfl hrA ?_
                have X8 : BS w w8 (vL.on [(b13, #[.int .i64 er, .int .i64 us, .int .i64 len, sv str], 46), (wB.heap.size, #[.int .i64 kind, .int .i64 oa, .int .i64 ob, .int .i64 oc, sv oS, sv oT], 39)]) := HB12.out.fresh ⟨hfA.os, hfA.tape, hfA.output, hfA.size, hfA.block⟩
                have k88 : Has w8 wB.heap.size #[.int .i64 kind, .int .i64 oa, .int .i64 ob, .int .i64 oc, sv oS, sv oT] 39 := X8.side (p := (wB.heap.size, #[.int .i64 kind, .int .i64 oa, .int .i64 ob, .int .i64 oc, sv oS, sv oT], 39)) (by simp [VS.on])
                have HX8 : Hid (BS w w8 (vL.on [(b13, #[.int .i64 er, .int .i64 us, .int .i64 len, sv str], 46), (wB.heap.size, #[.int .i64 kind, .int .i64 oa, .int .i64 ob, .int .i64 oc, sv oS, sv oT], 39)])) := X8
                have HOA : Hid (World.ownsRow w8 _ _ _ _ _ _) := hoA
                have HNA : Hid (∀ g, (Value.slice va k2 vc).ownBlock = some g → w12.heap.size ≤ g) := hnA
                have H88 : Hid (Has w8 wB.heap.size #[.int .i64 kind, .int .i64 oa, .int .i64 ob, .int .i64 oc, sv oS, sv oT] 39) := k88
                simp only [Act.put, List.setIfInBounds_toArray, List.set_cons_succ, List.set_cons_zero]
                clear hrA hoA hfA hnA X8 k88
                refine ⟨H88.out, ?_, ?_⟩
                · have HD1 : Hid (Calls _ _ _ _ _) := HCALL.out w8 [(b13, #[.int .i64 er, .int .i64 us, .int .i64 len, sv str], 46), (wB.heap.size, #[.int .i64 kind, .int .i64 oa, .int .i64 ob, .int .i64 oc, sv oS, sv oT], 39)] va vc HX8.out HNA.out HOA.out
                  go_wp2_with fail
                  refine HD1.out.mono ?_
                  rintro e w9 ⟨rfl, v2, hR9, hFACT⟩
                  have k89 : Has w9 wB.heap.size #[.int .i64 kind, .int .i64 oa, .int .i64 ob, .int .i64 oc, sv oS, sv oT] 39 := hR9.side (p := (wB.heap.size, #[.int .i64 kind, .int .i64 oa, .int .i64 ob, .int .i64 oc, sv oS, sv oT], 39)) (by simp [VS.on])
                  clear HD1
                  go_wp2
                  refine ⟨k89, ?_⟩
                  have hX10 := hR9.add #[.int .i64 0, .int .i64 0, .int .i64 0, sv []] 46 (.inr rfl)
                  have hOLD := hR9.newer
                  obtain ⟨bA, HBA⟩ : ∃ bA, Hid (bA = w9.heap.size) := ⟨_, rfl⟩
                  obtain ⟨W10, HW10⟩ : ∃ W10, Hid (W10 = w9.alloc (.cells #[.int .i64 0, .int .i64 0, .int .i64 0, .string ⟨#[]⟩] 46)) := ⟨_, rfl⟩
                  have HX10 : Hid (BS w W10 (v2.on ((bA, #[.int .i64 0, .int .i64 0, .int .i64 0, sv []], 46) :: [(b13, #[.int .i64 er, .int .i64 us, .int .i64 len, sv str], 46), (wB.heap.size, #[.int .i64 kind, .int .i64 oa, .int .i64 ob, .int .i64 oc, sv oS, sv oT], 39)]))) := by
                    show BS _ _ _
                    rw [HW10.out, HBA.out]
                    exact hX10
                  have HOLD : Hid (∀ p ∈ [(b13, #[.int .i64 er, .int .i64 us, .int .i64 len, sv str], 46), (wB.heap.size, #[.int .i64 kind, .int .i64 oa, .int .i64 ob, .int .i64 oc, sv oS, sv oT], 39)], p.1 ≠ bA) := by
                    show ∀ p ∈ [(b13, #[.int .i64 er, .int .i64 us, .int .i64 len, sv str], 46), (wB.heap.size, #[.int .i64 kind, .int .i64 oa, .int .i64 ob, .int .i64 oc, sv oS, sv oT], 39)], p.1 ≠ bA
                    rw [HBA.out]
                    exact hOLD
                  have HFACT : Hid (WF v2 bb' bx bn aa2 ac2 k2 ∧ v2.d = v2.dm ∧ v2.n = vL.n ∧ (kind = 10 → v2.fet = vL.n)) := hFACT
                  go_wp2
                  rw [← HBA.out, ← HW10.out]
                  clear hR9 k89 hX10 hOLD hFACT HW10 HBA HX8 HOA HNA H88 H87 HROW HCALL d0 d1 d2 d3 d4 d5 l8
                  have k10 : Has W10 wB.heap.size #[.int .i64 kind, .int .i64 oa, .int .i64 ob, .int .i64 oc, sv oS, sv oT] 39 := HX10.out.side (p := (wB.heap.size, #[.int .i64 kind, .int .i64 oa, .int .i64 ob, .int .i64 oc, sv oS, sv oT], 39)) (by simp [VS.on])
                  refine ⟨k10, ?_⟩
                  rw [HG.out]
                  exact ⟨va, vc, bA, v2, by kernel_rfl, HX10.out, HOLD.out, HFACT.out⟩
                · obtain ⟨bA, HBA⟩ : ∃ bA, Hid (bA = w8.heap.size) := ⟨_, rfl⟩
                  obtain ⟨W9, HW9⟩ : ∃ W9, Hid (W9 = w8.alloc (.cells #[.int .i64 0, .int .i64 0, .int .i64 0, .string ⟨#[]⟩] 46)) := ⟨_, rfl⟩
                  have F9 : Fr (fun _ => False) w8 W9 := by rw [HW9.out]; exact (Fr.refl _ _).alloc _
                  have X9 := HX8.out.add #[.int .i64 0, .int .i64 0, .int .i64 0, sv []] 46 (.inr rfl)
                  have HOLD : Hid (∀ p ∈ [(b13, #[.int .i64 er, .int .i64 us, .int .i64 len, sv str], 46), (wB.heap.size, #[.int .i64 kind, .int .i64 oa, .int .i64 ob, .int .i64 oc, sv oS, sv oT], 39)], p.1 ≠ bA) := by
                    show ∀ p ∈ [(b13, #[.int .i64 er, .int .i64 us, .int .i64 len, sv str], 46), (wB.heap.size, #[.int .i64 kind, .int .i64 oa, .int .i64 ob, .int .i64 oc, sv oS, sv oT], 39)], p.1 ≠ bA
                    rw [HBA.out]
                    exact HX8.out.newer
                  have HX9 : Hid (BS w W9 (vL.on ((bA, #[.int .i64 0, .int .i64 0, .int .i64 0, sv []], 46) :: [(b13, #[.int .i64 er, .int .i64 us, .int .i64 len, sv str], 46), (wB.heap.size, #[.int .i64 kind, .int .i64 oa, .int .i64 ob, .int .i64 oc, sv oS, sv oT], 39)]))) := by
                    show BS _ _ _
                    rw [HW9.out, HBA.out]
                    exact X9
                  have k99 : Has W9 wB.heap.size #[.int .i64 kind, .int .i64 oa, .int .i64 ob, .int .i64 oc, sv oS, sv oT] 39 := H88.out.fr F9 (fun h => h)
                  go_wp2
                  rw [← HBA.out, ← HW9.out]
                  refine ⟨k99, ?_⟩
                  have HD1 : Hid (Calls _ _ _ _ _) := HCALL.out W9 _ va vc HX9.out HNA.out (owns_fr HOA.out F9 (fun _ _ h => h))
                  clear F9 X9 k99 HW9 HBA
                  go_wp2_with fail
                  refine HD1.out.mono ?_
                  rintro e W10 ⟨rfl, v2, hR9, hFACT⟩
                  clear HD1
                  go_wp2
                  have HX10 : Hid (BS w W10 (v2.on ((bA, #[.int .i64 0, .int .i64 0, .int .i64 0, sv []], 46) :: [(b13, #[.int .i64 er, .int .i64 us, .int .i64 len, sv str], 46), (wB.heap.size, #[.int .i64 kind, .int .i64 oa, .int .i64 ob, .int .i64 oc, sv oS, sv oT], 39)]))) := hR9
                  have HFACT : Hid (WF v2 bb' bx bn aa2 ac2 k2 ∧ v2.d = v2.dm ∧ v2.n = vL.n ∧ (kind = 10 → v2.fet = vL.n)) := hFACT
                  clear hR9 hFACT HX8 HOA HNA H88 H87 HROW HCALL d0 d1 d2 d3 d4 d5 l8 HX9
                  have k10 : Has W10 wB.heap.size #[.int .i64 kind, .int .i64 oa, .int .i64 ob, .int .i64 oc, sv oS, sv oT] 39 := HX10.out.side (p := (wB.heap.size, #[.int .i64 kind, .int .i64 oa, .int .i64 ob, .int .i64 oc, sv oS, sv oT], 39)) (by simp [VS.on])
                  refine ⟨k10, ?_⟩
                  rw [HG.out]
                  exact ⟨va, vc, bA, v2, by kernel_rfl, HX10.out, HOLD.out, HFACT.out⟩
              · unfold seq3G
                simp only [List.length_cons, List.length_nil, Nat.zero_add]
                obtain ⟨V7, HV7⟩ : ∃ V7, Hid (V7 = w12.drew) := ⟨_, rfl⟩
                have HX8 : Hid (BS w V7 (vL.on [(b13, #[.int .i64 er, .int .i64 us, .int .i64 len, sv str], 46), (wB.heap.size, #[.int .i64 kind, .int .i64 oa, .int .i64 ob, .int .i64 oc, sv oS, sv oT], 39)])) := by
                  show BS _ _ _
                  rw [HV7.out]
                  exact HB12.out.fresh ((Fr.refl _ _).drew)
                have hsz7 : w12.heap.size ≤ V7.heap.size := by rw [HV7.out]; exact Nat.le_refl _
                have H88 : Hid (Has V7 wB.heap.size #[.int .i64 kind, .int .i64 oa, .int .i64 ob, .int .i64 oc, sv oS, sv oT] 39) := by
                  show Has _ _ _ _
                  rw [HV7.out]
                  exact H87.out.drew
                have HRV : Hid (World.ownsRow V7 0 70 2 (.slice aa2 k2 ac2) k2 (bvCells vL.args)) := by
                  show World.ownsRow _ _ _ _ _ _ _
                  rw [HV7.out]
                  exact HROW.out
                rw [← HV7.out]
                clear HV7
                · obtain ⟨bA, HBA⟩ : ∃ bA, Hid (bA = V7.heap.size) := ⟨_, rfl⟩
                  obtain ⟨W9, HW9⟩ : ∃ W9, Hid (W9 = V7.alloc (.cells #[.int .i64 0, .int .i64 0, .int .i64 0, .string ⟨#[]⟩] 46)) := ⟨_, rfl⟩
                  have F9 : Fr (fun _ => False) V7 W9 := by rw [HW9.out]; exact (Fr.refl _ _).alloc _
                  have X9 := HX8.out.add #[.int .i64 0, .int .i64 0, .int .i64 0, sv []] 46 (.inr rfl)
                  have HOLD : Hid (∀ p ∈ [(b13, #[.int .i64 er, .int .i64 us, .int .i64 len, sv str], 46), (wB.heap.size, #[.int .i64 kind, .int .i64 oa, .int .i64 ob, .int .i64 oc, sv oS, sv oT], 39)], p.1 ≠ bA) := by
                    show ∀ p ∈ [(b13, #[.int .i64 er, .int .i64 us, .int .i64 len, sv str], 46), (wB.heap.size, #[.int .i64 kind, .int .i64 oa, .int .i64 ob, .int .i64 oc, sv oS, sv oT], 39)], p.1 ≠ bA
                    rw [HBA.out]
                    exact HX8.out.newer
                  have HX9 : Hid (BS w W9 (vL.on ((bA, #[.int .i64 0, .int .i64 0, .int .i64 0, sv []], 46) :: [(b13, #[.int .i64 er, .int .i64 us, .int .i64 len, sv str], 46), (wB.heap.size, #[.int .i64 kind, .int .i64 oa, .int .i64 ob, .int .i64 oc, sv oS, sv oT], 39)]))) := by
                    show BS _ _ _
                    rw [HW9.out, HBA.out]
                    exact X9
                  have k99 : Has W9 wB.heap.size #[.int .i64 kind, .int .i64 oa, .int .i64 ob, .int .i64 oc, sv oS, sv oT] 39 := H88.out.fr F9 (fun h => h)
                  have hsz9 : w12.heap.size ≤ W9.heap.size := Nat.le_trans hsz7 F9.size
                  go_wp2
                  rw [← HBA.out, ← HW9.out]
                  refine ⟨k99, ?_⟩
                  obtain ⟨va, vc, w8c, hrA, hoA, hfA, hnA⟩ := copy_args (w := W9) (owns_fr HRV.out F9 (fun _ _ h => h)) hal 37
                  refine wpL_app2 rfl (.const (.slice none 0 0)) (.tmp 106) rfl _ _ _ rfl rfl hrA ?_
                  simp only [Act.put, List.setIfInBounds_toArray, List.set_cons_succ, List.set_cons_zero]
                  refine ⟨k99.fr hfA (fun h => h), ?_⟩
                  have HD1 : Hid (Calls _ _ _ _ _) := HCALL.out w8c _ va vc (HX9.out.fresh hfA) (fun g hg => Nat.le_trans hsz9 (hnA g hg)) hoA
                  clear hrA hoA hfA hnA F9 X9 k99 HW9 HBA hsz7 hsz9
                  go_wp2_with fail
                  refine HD1.out.mono ?_
                  rintro e W10 ⟨rfl, v2, hR9, hFACT⟩
                  clear HD1
                  go_wp2
                  have HX10 : Hid (BS w W10 (v2.on ((bA, #[.int .i64 0, .int .i64 0, .int .i64 0, sv []], 46) :: [(b13, #[.int .i64 er, .int .i64 us, .int .i64 len, sv str], 46), (wB.heap.size, #[.int .i64 kind, .int .i64 oa, .int .i64 ob, .int .i64 oc, sv oS, sv oT], 39)]))) := hR9
                  have HFACT : Hid (WF v2 bb' bx bn aa2 ac2 k2 ∧ v2.d = v2.dm ∧ v2.n = vL.n ∧ (kind = 10 → v2.fet = vL.n)) := hFACT
                  clear hR9 hFACT HX8 HRV H88 H87 HROW HCALL d0 d1 d2 d3 d4 d5 l8 HX9
                  have k10 : Has W10 wB.heap.size #[.int .i64 kind, .int .i64 oa, .int .i64 ob, .int .i64 oc, sv oS, sv oT] 39 := HX10.out.side (p := (wB.heap.size, #[.int .i64 kind, .int .i64 oa, .int .i64 ob, .int .i64 oc, sv oS, sv oT], 39)) (by simp [VS.on])
                  refine ⟨k10, ?_⟩
                  rw [HG.out]
                  exact ⟨va, vc, bA, v2, by kernel_rfl, HX10.out, HOLD.out, HFACT.out⟩
          · intro G HG
            refine ⟨?_, ?_⟩
            · obtain ⟨va, vc, w8, hrA, hoA, hfA, hnA⟩ := copy_args (w := wc.drew) HROW.out hal 37
              refine wpL_app2 rfl (.const (.slice none 0 0)) (.tmp 99) rfl _ _ _ rfl rfl hrA ?_
              have X8 : BS w w8 (v.on [(wB.heap.size, #[.int .i64 kind, .int .i64 oa, .int .i64 ob, .int .i64 oc, sv oS, sv oT], 39)]) := HB7.out.fresh ⟨hfA.os, hfA.tape, hfA.output, hfA.size, hfA.block⟩
              have k88 : Has w8 wB.heap.size #[.int .i64 kind, .int .i64 oa, .int .i64 ob, .int .i64 oc, sv oS, sv oT] 39 := X8.side (p := (wB.heap.size, #[.int .i64 kind, .int .i64 oa, .int .i64 ob, .int .i64 oc, sv oS, sv oT], 39)) (by simp [VS.on])
              have HX8 : Hid (BS w w8 (v.on [(wB.heap.size, #[.int .i64 kind, .int .i64 oa, .int .i64 ob, .int .i64 oc, sv oS, sv oT], 39)])) := X8
              have HOA : Hid (World.ownsRow w8 _ _ _ _ _ _) := hoA
              have HNA : Hid (∀ g, (Value.slice va k2 vc).ownBlock = some g → wc.heap.size ≤ g) := hnA
              have H88 : Hid (Has w8 wB.heap.size #[.int .i64 kind, .int .i64 oa, .int .i64 ob, .int .i64 oc, sv oS, sv oT] 39) := k88
              simp only [Act.put, List.setIfInBounds_toArray, List.set_cons_succ, List.set_cons_zero]
              clear hrA hoA hfA hnA X8 k88
              refine ⟨H88.out, ?_, ?_⟩
              · have HD1 : Hid (Calls _ _ _ _ _) := HCALL.out w8 [(wB.heap.size, #[.int .i64 kind, .int .i64 oa, .int .i64 ob, .int .i64 oc, sv oS, sv oT], 39)] va vc HX8.out HNA.out HOA.out
                go_wp2_with fail
                refine HD1.out.mono ?_
                rintro e w9 ⟨er, us, len, str, v1, rfl, hR9, hFACT⟩
                have k89 : Has w9 wB.heap.size #[.int .i64 kind, .int .i64 oa, .int .i64 ob, .int .i64 oc, sv oS, sv oT] 39 := hR9.side (p := (wB.heap.size, #[.int .i64 kind, .int .i64 oa, .int .i64 ob, .int .i64 oc, sv oS, sv oT], 39)) (by simp [VS.on])
                clear HD1
                go_wp2
                refine ⟨k89, ?_⟩
                have hX10 := hR9.add #[.int .i64 0, .int .i64 0, .int .i64 0, sv []] 46 (.inr rfl)
                have hOLD := hR9.newer
                obtain ⟨bA, HBA⟩ : ∃ bA, Hid (bA = w9.heap.size) := ⟨_, rfl⟩
                obtain ⟨W10, HW10⟩ : ∃ W10, Hid (W10 = w9.alloc (.cells #[.int .i64 0, .int .i64 0, .int .i64 0, .string ⟨#[]⟩] 46)) := ⟨_, rfl⟩
                have HX10 : Hid (BS w W10 (v1.on ((bA, #[.int .i64 0, .int .i64 0, .int .i64 0, sv []], 46) :: [(wB.heap.size, #[.int .i64 kind, .int .i64 oa, .int .i64 ob, .int .i64 oc, sv oS, sv oT], 39)]))) := by
                  show BS _ _ _
                  rw [HW10.out, HBA.out]
                  exact hX10
                have HOLD : Hid (∀ p ∈ [(wB.heap.size, #[.int .i64 kind, .int .i64 oa, .int .i64 ob, .int .i64 oc, sv oS, sv oT], 39)], p.1 ≠ bA) := by
                  show ∀ p ∈ [(wB.heap.size, #[.int .i64 kind, .int .i64 oa, .int .i64 ob, .int .i64 oc, sv oS, sv oT], 39)], p.1 ≠ bA
                  rw [HBA.out]
                  exact hOLD
                have HFACT : Hid (WF v1 bb' bx bn aa2 ac2 k2 ∧ v1.args = v.args ∧ DoneD v1 ⟨kind, oa, ob, oc, oS, oT⟩ er us len str) := hFACT
                go_wp2
                rw [← HBA.out, ← HW10.out]
                clear hR9 k89 hX10 hOLD hFACT HW10 HBA HX8 HOA HNA H88 H87 HROW HCALL d0 d1 d2 d3 d4 d5 l8
                have k10 : Has W10 wB.heap.size #[.int .i64 kind, .int .i64 oa, .int .i64 ob, .int .i64 oc, sv oS, sv oT] 39 := HX10.out.side (p := (wB.heap.size, #[.int .i64 kind, .int .i64 oa, .int .i64 ob, .int .i64 oc, sv oS, sv oT], 39)) (by simp [VS.on])
                refine ⟨k10, ?_⟩
                rw [HG.out]
                exact ⟨va, vc, bA, er, us, len, str, v1, by kernel_rfl, HX10.out, HOLD.out, HFACT.out⟩
              · obtain ⟨bA, HBA⟩ : ∃ bA, Hid (bA = w8.heap.size) := ⟨_, rfl⟩
                obtain ⟨W9, HW9⟩ : ∃ W9, Hid (W9 = w8.alloc (.cells #[.int .i64 0, .int .i64 0, .int .i64 0, .string ⟨#[]⟩] 46)) := ⟨_, rfl⟩
                have F9 : Fr (fun _ => False) w8 W9 := by rw [HW9.out]; exact (Fr.refl _ _).alloc _
                have X9 := HX8.out.add #[.int .i64 0, .int .i64 0, .int .i64 0, sv []] 46 (.inr rfl)
                have HOLD : Hid (∀ p ∈ [(wB.heap.size, #[.int .i64 kind, .int .i64 oa, .int .i64 ob, .int .i64 oc, sv oS, sv oT], 39)], p.1 ≠ bA) := by
                  show ∀ p ∈ [(wB.heap.size, #[.int .i64 kind, .int .i64 oa, .int .i64 ob, .int .i64 oc, sv oS, sv oT], 39)], p.1 ≠ bA
                  rw [HBA.out]
                  exact HX8.out.newer
                have HX9 : Hid (BS w W9 (v.on ((bA, #[.int .i64 0, .int .i64 0, .int .i64 0, sv []], 46) :: [(wB.heap.size, #[.int .i64 kind, .int .i64 oa, .int .i64 ob, .int .i64 oc, sv oS, sv oT], 39)]))) := by
                  show BS _ _ _
                  rw [HW9.out, HBA.out]
                  exact X9
                have k99 : Has W9 wB.heap.size #[.int .i64 kind, .int .i64 oa, .int .i64 ob, .int .i64 oc, sv oS, sv oT] 39 := H88.out.fr F9 (fun h => h)
                go_wp2
                rw [← HBA.out, ← HW9.out]
                refine ⟨k99, ?_⟩
                have HD1 : Hid (Calls _ _ _ _ _) := HCALL.out W9 _ va vc HX9.out HNA.out (owns_fr HOA.out F9 (fun _ _ h => h))
                clear F9 X9 k99 HW9 HBA
                go_wp2_with fail
                refine HD1.out.mono ?_
                rintro e W10 ⟨er, us, len, str, v1, rfl, hR9, hFACT⟩
                clear HD1
                go_wp2
                have HX10 : Hid (BS w W10 (v1.on ((bA, #[.int .i64 0, .int .i64 0, .int .i64 0, sv []], 46) :: [(wB.heap.size, #[.int .i64 kind, .int .i64 oa, .int .i64 ob, .int .i64 oc, sv oS, sv oT], 39)]))) := hR9
                have HFACT : Hid (WF v1 bb' bx bn aa2 ac2 k2 ∧ v1.args = v.args ∧ DoneD v1 ⟨kind, oa, ob, oc, oS, oT⟩ er us len str) := hFACT
                clear hR9 hFACT HX8 HOA HNA H88 H87 HROW HCALL d0 d1 d2 d3 d4 d5 l8 HX9
                have k10 : Has W10 wB.heap.size #[.int .i64 kind, .int .i64 oa, .int .i64 ob, .int .i64 oc, sv oS, sv oT] 39 := HX10.out.side (p := (wB.heap.size, #[.int .i64 kind, .int .i64 oa, .int .i64 ob, .int .i64 oc, sv oS, sv oT], 39)) (by simp [VS.on])
                refine ⟨k10, ?_⟩
                rw [HG.out]
                exact ⟨va, vc, bA, er, us, len, str, v1, by kernel_rfl, HX10.out, HOLD.out, HFACT.out⟩
            · unfold seq3G
              simp only [List.length_cons, List.length_nil, Nat.zero_add]
              obtain ⟨V7, HV7⟩ : ∃ V7, Hid (V7 = wc.drew) := ⟨_, rfl⟩
              have HX8 : Hid (BS w V7 (v.on [(wB.heap.size, #[.int .i64 kind, .int .i64 oa, .int .i64 ob, .int .i64 oc, sv oS, sv oT], 39)])) := by
                show BS _ _ _
                rw [HV7.out]
                exact HB7.out.fresh ((Fr.refl _ _).drew)
              have hsz7 : wc.heap.size ≤ V7.heap.size := by rw [HV7.out]; exact Nat.le_refl _
              have H88 : Hid (Has V7 wB.heap.size #[.int .i64 kind, .int .i64 oa, .int .i64 ob, .int .i64 oc, sv oS, sv oT] 39) := by
                show Has _ _ _ _
                rw [HV7.out]
                exact H87.out.drew
              have HRV : Hid (World.ownsRow V7 0 70 2 (.slice aa2 k2 ac2) k2 (bvCells v.args)) := by
                show World.ownsRow _ _ _ _ _ _ _
                rw [HV7.out]
                exact HROW.out
              rw [← HV7.out]
              clear HV7
              · obtain ⟨bA, HBA⟩ : ∃ bA, Hid (bA = V7.heap.size) := ⟨_, rfl⟩
                obtain ⟨W9, HW9⟩ : ∃ W9, Hid (W9 = V7.alloc (.cells #[.int .i64 0, .int .i64 0, .int .i64 0, .string ⟨#[]⟩] 46)) := ⟨_, rfl⟩
                have F9 : Fr (fun _ => False) V7 W9 := by rw [HW9.out]; exact (Fr.refl _ _).alloc _
                have X9 := HX8.out.add #[.int .i64 0, .int .i64 0, .int .i64 0, sv []] 46 (.inr rfl)
                have HOLD : Hid (∀ p ∈ [(wB.heap.size, #[.int .i64 kind, .int .i64 oa, .int .i64 ob, .int .i64 oc, sv oS, sv oT], 39)], p.1 ≠ bA) := by
                  show ∀ p ∈ [(wB.heap.size, #[.int .i64 kind, .int .i64 oa, .int .i64 ob, .int .i64 oc, sv oS, sv oT], 39)], p.1 ≠ bA
                  rw [HBA.out]
                  exact HX8.out.newer
                have HX9 : Hid (BS w W9 (v.on ((bA, #[.int .i64 0, .int .i64 0, .int .i64 0, sv []], 46) :: [(wB.heap.size, #[.int .i64 kind, .int .i64 oa, .int .i64 ob, .int .i64 oc, sv oS, sv oT], 39)]))) := by
                  show BS _ _ _
                  rw [HW9.out, HBA.out]
                  exact X9
                have k99 : Has W9 wB.heap.size #[.int .i64 kind, .int .i64 oa, .int .i64 ob, .int .i64 oc, sv oS, sv oT] 39 := H88.out.fr F9 (fun h => h)
                have hsz9 : wc.heap.size ≤ W9.heap.size := Nat.le_trans hsz7 F9.size
                go_wp2
                rw [← HBA.out, ← HW9.out]
                refine ⟨k99, ?_⟩
                obtain ⟨va, vc, w8c, hrA, hoA, hfA, hnA⟩ := copy_args (w := W9) (owns_fr HRV.out F9 (fun _ _ h => h)) hal 37
                refine wpL_app2 rfl (.const (.slice none 0 0)) (.tmp 99) rfl _ _ _ rfl rfl hrA ?_
                simp only [Act.put, List.setIfInBounds_toArray, List.set_cons_succ, List.set_cons_zero]
                refine ⟨k99.fr hfA (fun h => h), ?_⟩
                have HD1 : Hid (Calls _ _ _ _ _) := HCALL.out w8c _ va vc (HX9.out.fresh hfA) (fun g hg => Nat.le_trans hsz9 (hnA g hg)) hoA
                clear hrA hoA hfA hnA F9 X9 k99 HW9 HBA hsz7 hsz9
                go_wp2_with fail
                refine HD1.out.mono ?_
                rintro e W10 ⟨er, us, len, str, v1, rfl, hR9, hFACT⟩
                clear HD1
                go_wp2
                have HX10 : Hid (BS w W10 (v1.on ((bA, #[.int .i64 0, .int .i64 0, .int .i64 0, sv []], 46) :: [(wB.heap.size, #[.int .i64 kind, .int .i64 oa, .int .i64 ob, .int .i64 oc, sv oS, sv oT], 39)]))) := hR9
                have HFACT : Hid (WF v1 bb' bx bn aa2 ac2 k2 ∧ v1.args = v.args ∧ DoneD v1 ⟨kind, oa, ob, oc, oS, oT⟩ er us len str) := hFACT
                clear hR9 hFACT HX8 HRV H88 H87 HROW HCALL d0 d1 d2 d3 d4 d5 l8 HX9
                have k10 : Has W10 wB.heap.size #[.int .i64 kind, .int .i64 oa, .int .i64 ob, .int .i64 oc, sv oS, sv oT] 39 := HX10.out.side (p := (wB.heap.size, #[.int .i64 kind, .int .i64 oa, .int .i64 ob, .int .i64 oc, sv oS, sv oT], 39)) (by simp [VS.on])
                refine ⟨k10, ?_⟩
                rw [HG.out]
                exact ⟨va, vc, bA, er, us, len, str, v1, by kernel_rfl, HX10.out, HOLD.out, HFACT.out⟩
      · have HFW : Hid (Fr (fun _ => False) w wr) := by
          obtain ⟨v, hB, _⟩ := G1.out
          exact hB.fr
        have g42 : decide ((i : Int) < 4398046511104) = false := by simp; omega
        clear G1
        go_wp2
        go_ret2
        exact ⟨⟨_, rfl⟩, HFW.out⟩
    · have HFW : Hid (Fr (fun _ => False) w wr) := by
        obtain ⟨v, hB, _⟩ := G1.out
        exact hB.fr
      have hin : i = nS := by omega
      subst hin
      clear G1
      go_wp2
      go_ret2
      exact ⟨⟨_, rfl⟩, HFW.out⟩
end Go.Proofs.Qxb6500575aGreatDoor
