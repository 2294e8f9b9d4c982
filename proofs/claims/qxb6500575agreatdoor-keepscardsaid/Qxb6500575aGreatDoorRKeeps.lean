/-
  THE WALK of runlaw.KeepsUpTo.
-/
import Derived.Test.Qxb6500575aGreatDoorRArgs
import Derived.Test.Qxb6500575aGreatDoorRCopy
import Derived.Test.Qxb6500575aGreatDoorRScript
import Derived.Test.Qxb6500575aGreatDoorRDoS
namespace Go.Proofs.Qxb6500575aGreatDoor
open Go Go.RowKit
set_option linter.unusedVariables false
set_option linter.unusedSimpArgs false

/-- ahead of a round -/
def RS (w0 wr : World) (bb bx : Nat) (aa : Option Addr) (k ac : Nat) : Prop :=
  ∃ Y x m n d hi args, Y.bb = bb ∧ Y.bx = bx ∧ Y.aa = aa ∧ Y.ac = ac ∧ args.length = k ∧ RX w0 wr Y x m n d hi args ∧ BelFit x ∧ Loaded m ∧ k ≤ 6 ∧ ∀ b ∈ args, I64 b.v
theorem RS.of {w0 wr : World} {Y : LayR} {x : BelD} {m : ModD} {n : Int} {d : KD} {hi : Int} {args : List BV} {bb bx k ac : Nat} {aa : Option Addr} (h : RX w0 wr Y x m n d hi args) (h1 : Y.bb = bb) (h2 : Y.bx = bx) (h3 : Y.aa = aa) (h4 : Y.ac = ac) (h5 : args.length = k) (hf : BelFit x) (hl : Loaded m) (hk : k ≤ 6) (h64 : ∀ b ∈ args, I64 b.v) : RS w0 wr bb bx aa k ac :=
  ⟨Y, x, m, n, d, hi, args, h1, h2, h3, h4, h5, h, hf, hl, hk, h64⟩
theorem RX.less {w0 wr : World} {Y : LayR} {x : BelD} {m : ModD} {n : Int} {d : KD} {hi : Int} {args : List BV} (h : RX w0 wr Y x m n d hi args) (sd : List (Nat × Array Value × TypeId)) (hs : ∀ p ∈ sd, p ∈ Y.sd) : RX w0 wr { Y with sd := sd } x m n d hi args := { h with side := fun p hp => h.side p (hs p hp) }
theorem argsP_len (args : List BV) (o : OpD) (h : args.length ≤ 6) : (argsP args o).length ≤ 6 := by
  unfold argsP
  split
  · rename_i h; simp; omega
  · exact h
theorem argsP_fit (args : List BV) (o : OpD) (h : ∀ b ∈ args, I64 b.v) (ho : Fit64 o.b) : ∀ b ∈ argsP args o, I64 b.v := by
  unfold argsP
  split
  · intro b hb
    rcases List.mem_append.1 hb with hb | hb
    · exact h b hb
    · simp at hb; subst hb; exact ho
  · exact h
set_option maxRecDepth 100000 in
set_option maxHeartbeats 16000000 in
theorem rkeepsUp_any (a : Option Addr) (nS cap : Nat) (os : Nat → OpD) (w : World) (hs : ScriptAt w a nS os) (hg : GlobOk w) :
    Calls Tryz.prog 6 #[.slice a nS cap] w fun e w' => e = .returned (.int .i64 (-1)) ∧ Fr (fun _ => False) w w' := by
  have HSC : Hid (ScriptAt w a nS os) := hs
  have HGL : Hid (GlobOk w) := hg
  clear hs hg
  go_enter Tryz.func6, Tryz.ntmps6
  go_wp2_with fail
  refine (rground_any w).mono ?_
  rintro e w1 hg1
  obtain ⟨bb, bp, LP, bk, KK, pm, km, Kb, SS, rfl, hB1, hF1, hX1⟩ := RX.ground hg1
  have c2 := hB1.here.cell 2
  have c3 := hB1.here.cell 3
  simp at c2 c3
  have bl1 := hB1.here.lt
  have HX1 : Hid (∀ bx w2, InRep w2 bx _ _ _ _ → Fr (fun _ => False) w1 w2 → w1.heap.size ≤ bx → RX w w2 _ _ _ _ _ _ _) := hX1
  clear hg1 hB1 hF1 hX1
  go_wp2
  refine wp_region_tail 8 (by kernel_rfl) (by kernel_rfl) (fun _ _ _ _ _ h => h) ?_
  simp only [List.take_succ_cons, List.take_zero, List.drop_succ_cons, List.drop_zero]
  repeat go_big_quiet_step (fail)
  refine wpQuiet_nil ?_
  go_wp2_with fail
  refine (rnew_any _ _ _).mono ?_
  rintro e w2 ⟨bx, rfl, hI2, hF2, hbx⟩
  have X2 := HX1.out bx w2 hI2 ⟨hF2.os, hF2.tape, hF2.output, hF2.size, hF2.block⟩ hbx
  have HR0 : Hid (RS w w2 bb bx none 0 0) := ⟨_, _, _, _, _, _, _, rfl, rfl, rfl, rfl, rfl, X2, BelFit.ground, Loaded.of BelFit.ground rfl, by omega, fun b hb => by cases hb⟩
  clear hI2 hF2 hbx X2 HX1 c2 c3 bl1
  go_wp2
  go_loopw [6, 4, 5] (fun t u v wr => ∃ (i bx k ac : Nat) (aa : Option Addr), i ≤ nS ∧ t = .int .i64 i ∧ u = .pointer (some ⟨bx, 0, none⟩) ∧ v = .slice aa k ac ∧ (i : Int) ≤ 4398046511104 ∧ Hid (RS w wr bb bx aa k ac)) (fun t _ _ _ => nS - (intOf t).toNat)
  case atStart => exact ⟨0, bx, 0, 0, none, Nat.zero_le _, rfl, rfl, rfl, by omega, HR0⟩
  case round =>
    clear HR0
    obtain ⟨i, bx, k, ac, aa, hi, rfl, rfl, rfl, hi42, G1⟩ := hrel
    by_cases hlt : i < nS
    · by_cases h42 : (i : Int) < 4398046511104
      · obtain ⟨Y, X, m, n, d, hi1, args, hbb, hbx, haa, hac, hk, hR, hfit, hld, hk6, h64⟩ := G1.out
        subst hbb hbx haa hac
        obtain ⟨b, o, ha, hbl, s0, s1, s2, s3, s4, s5⟩ := (HSC.out.fr hR.fr).at_ i hlt
        have hof := (HSC.out.fit i hlt)
        subst ha
        generalize os i = oi at *
        obtain ⟨kind, oa, ob, oc, oS, oT⟩ := oi
        simp only at s0 s1 s2 s3 s4 s5 hof
        obtain ⟨wB, hwB⟩ : ∃ wB, wB = wr := ⟨_, rfl⟩
        subst hwB
        have F8 : Fr (fun _ => False) wB (wB.alloc (.cells #[.int .i64 kind, .int .i64 oa, .int .i64 ob, .int .i64 oc, sv oS, sv oT] 39)) := (Fr.refl _ _).alloc _
        have k8 : Has (wB.alloc (.cells #[.int .i64 kind, .int .i64 oa, .int .i64 ob, .int .i64 oc, sv oS, sv oT] 39)) wB.heap.size #[.int .i64 kind, .int .i64 oa, .int .i64 ob, .int .i64 oc, sv oS, sv oT] 39 := Has.new wB _ _
        have hold : w.heap.size ≤ wB.heap.size ∧ ¬ Y.S wB.heap.size := ⟨hR.fr.size, fun hS => by have := (hR.newS _ hS).2; omega⟩
        have hR1 := ((hR.fresh F8).drop).add k8 (.inl rfl) hold
        have HBd : Hid (Calls _ _ _ _ _) := build_any Y.S Y.bb Y.Kb X ⟨kind, oa, ob, oc, oS, oT⟩ _ hR1.bel (by have := hfit.good.m.ok.nr; have := hfit.good.m.ok.np; omega) (by have := hfit.good.code; omega)
        unfold OpD.val at HBd
        simp only at HBd
        have hfit' := hfit.build ⟨kind, oa, ob, oc, oS, oT⟩ hof.2
        have HR1 : Hid (RX w _ _ X m n d hi1 args) := hR1
        have HFIT : Hid (BelFit (X.build ⟨kind, oa, ob, oc, oS, oT⟩).1) := hfit'
        have HLD : Hid (Loaded m) := hld
        have HOF : Hid (Fit64 oa ∧ Fit64 ob) := hof
        have HKL : Hid (args.length = k) := hk
        have H64 : Hid (∀ b ∈ args, I64 b.v) := h64
        have hb8 : wB.heap.size < wB.heap.size + 1 := by omega
        clear F8 k8 hold hR1 hR hfit hfit' hld hof hk h64 G1
        go_wp2_with fail
        refine HBd.out.mono ?_
        intro e w4 hp4
        obtain ⟨Y1, ⟨e1, e2, e3, e4, e5⟩, hR2⟩ := HR1.out.built hp4
        obtain ⟨he4, _⟩ := hp4
        subst he4
        have k84 : Has w4 wB.heap.size #[.int .i64 kind, .int .i64 oa, .int .i64 ob, .int .i64 oc, sv oS, sv oT] 39 := (hR2.side _ (by rw [e5]; exact List.mem_cons_self)).1
        obtain ⟨X', HX'⟩ : ∃ X', Hid (X' = (X.build ⟨kind, oa, ob, oc, oS, oT⟩).1) := ⟨_, rfl⟩
        rw [← HX'.out] at hR2 HFIT
        have HA : Hid (Calls _ _ _ _ _) := rargs_any hR2 ⟨kind, oa, ob, oc, oS, oT⟩
        have hal := argsP_len args ⟨kind, oa, ob, oc, oS, oT⟩ (by rw [HKL.out]; exact hk6)
        have H642 : Hid (∀ b ∈ argsP args ⟨kind, oa, ob, oc, oS, oT⟩, I64 b.v) := argsP_fit args _ H64.out HOF.out.2
        generalize argsP args ⟨kind, oa, ob, oc, oS, oT⟩ = args2 at *
        rw [e3, e4, HKL.out] at HA
        unfold OpD.val at HA
        simp only at HA e1 e2 e5
        have d0 := k84.cell 0
        have d1 := k84.cell 1
        have d2 := k84.cell 2
        have d3 := k84.cell 3
        have d4 := k84.cell 4
        have d5 := k84.cell 5
        simp at d0 d1 d2 d3 d4 d5
        have l8 := k84.lt
        clear hR2 k84 HBd HR1 e3 e4 HX' H64 HKL hk6
        go_wp2_with fail
        refine HA.out.mono ?_
        rintro e w5 ⟨aa2, ac2, rfl, hR3⟩
        obtain ⟨Y2, HY2⟩ : ∃ Y2 : LayR, Hid (Y2 = { Y1 with aa := aa2, ac := ac2 }) := ⟨{ Y1 with aa := aa2, ac := ac2 }, rfl⟩
        rw [← HY2.out] at hR3
        have f1 : Y2.bb = Y.bb := by rw [HY2.out]; exact e1
        have f2 : Y2.bx = Y.bx := by rw [HY2.out]; exact e2
        have f3 : Y2.aa = aa2 ∧ Y2.ac = ac2 := by rw [HY2.out]; exact ⟨rfl, rfl⟩
        have f5 : Y2.sd = [(wB.heap.size, #[.int .i64 kind, .int .i64 oa, .int .i64 ob, .int .i64 oc, sv oS, sv oT], 39)] := by rw [HY2.out]; exact e5
        obtain ⟨k2, HK2⟩ : ∃ k2, Hid (args2.length = k2) := ⟨_, rfl⟩
        rw [HK2.out] at hal ⊢
        have HSH : Hid (Calls _ _ _ _ _) := rshow_any hR3.inst hR3.mach
        rw [f2] at HSH
        have HR3 : Hid (RX w w5 Y2 X' m n d hi1 args2) := hR3
        have HF : Hid (Y2.bb = Y.bb ∧ Y2.bx = Y.bx ∧ (Y2.aa = aa2 ∧ Y2.ac = ac2) ∧ Y2.sd = [(wB.heap.size, #[.int .i64 kind, .int .i64 oa, .int .i64 ob, .int .i64 oc, sv oS, sv oT], 39)]) := ⟨f1, f2, f3, f5⟩
        clear hR3 HA e1 e2 e5 HY2 f1 f2 f3 f5 d0 d1 d2 d3 d4 d5 l8
        go_wp2_with fail
        refine HSH.out.mono ?_
        rintro e w6 ⟨z8, rfl, HZ8, hz8, hF6⟩
        have hR4 := HR3.out.fresh hF6
        have HMK : Hid (Calls _ _ _ _ _) := rmark_any hR4
        rw [HF.out.1] at HMK
        clear hR4 hF6 HSH HR3
        go_wp2_with fail
        refine HMK.out.mono ?_
        rintro e w7 ⟨rfl, hR7⟩
        have k87 : Has w7 wB.heap.size #[.int .i64 kind, .int .i64 oa, .int .i64 ob, .int .i64 oc, sv oS, sv oT] 39 := (hR7.side _ (by rw [HF.out.2.2.2]; exact List.mem_cons_self)).1
        have d0 := k87.cell 0
        have d1 := k87.cell 1
        have d2 := k87.cell 2
        have d3 := k87.cell 3
        have d4 := k87.cell 4
        have d5 := k87.cell 5
        simp at d0 d1 d2 d3 d4 d5
        have l8 := k87.lt
        have HR7 : Hid (RX w w7 Y2 X' m 0 d hi1 args2) := hR7
        have H87 : Hid (Has w7 wB.heap.size #[.int .i64 kind, .int .i64 oa, .int .i64 ob, .int .i64 oc, sv oS, sv oT] 39) := k87
        clear HMK hR7 k87
        by_cases q8 : kind = 8
        · subst q8
          by_cases hz : X'.m.load.2.2 = 0
          · have HLO : Hid (Calls _ _ _ _ _) := rload_good HR7.out.bel (fun k hk => (HR7.out.newS k hk).2) HFIT.out hz
            rw [HF.out.1] at HLO
            go_wp2_with fail
            refine HLO.out.mono ?_
            intro e w8 hp8
            rw [← HF.out.1] at hp8
            obtain ⟨rfl, bp', LP', bk', KK', pm', km', b1, b2, b3⟩ := HR7.out.loaded hp8
            have W9 : Fr (fun _ => False) w8 (w8.alloc (.cells #[.int .i64 0, .int .i64 0, .int .i64 0, sv []] 46)) := (Fr.refl _ _).alloc _
            have c2 := (b1.newer W9).here.cell 2
            have c3 := (b1.newer W9).here.cell 3
            have bl := (b1.newer W9).here.lt
            rw [HF.out.1] at c2 c3 bl
            simp only [List.getElem?_toArray, List.getElem?_cons_zero, List.getElem?_cons_succ] at c2 c3
            have HB3 : Hid (∀ bx w2, InRep w2 bx _ _ _ _ → Fr (fun _ => False) w8 w2 → w8.heap.size ≤ bx → RX w w2 _ _ _ _ _ _ _) := b3
            have HLD' : Hid (Loaded X'.m) := Loaded.of HFIT.out hz
            clear hp8 b1 b2 b3 W9 HLO
            go_wp2
            refine wp_region_tail 8 (by kernel_rfl) (by kernel_rfl) (fun _ _ _ _ _ h => h) ?_
            simp only [List.take_succ_cons, List.take_zero, List.drop_succ_cons, List.drop_zero]
            repeat go_big_quiet_step (fail)
            refine wpQuiet_nil ?_
            go_wp2_with fail
            refine (rnew_any _ _ _).mono ?_
            rintro e w10 ⟨bx', rfl, hIn, hFn, hbx'⟩
            have F10 : Fr (fun _ => False) w8 w10 := ((Fr.refl _ w8).alloc _).trans ⟨hFn.os, hFn.tape, hFn.output, hFn.size, hFn.block⟩ (fun _ _ h => h)
            have X10 := HB3.out bx' w10 hIn F10 (by simp at hbx'; omega)
            have HRN : Hid (RS w w10 Y.bb bx' aa2 k2 ac2) := RS.of X10 HF.out.1 rfl HF.out.2.2.1.1 HF.out.2.2.1.2 HK2.out HFIT.out HLD'.out hal H642.out
            clear hIn hFn hbx' F10 X10 HB3
            go_wp2
            go_roundw
            case rel => exact ⟨i + 1, bx', k2, ac2, aa2, by omega, by go_num, rfl, rfl, by omega, HRN⟩
            case measure => simp [intOf]; omega
          · have HLO : Hid (Calls _ _ _ _ _) := rload_bad HR7.out.bel (fun k hk => (HR7.out.newS k hk).2) HFIT.out (HGL.out.fr HR7.out.fr) hz
            rw [HF.out.1] at HLO
            go_wp2_with fail
            refine HLO.out.mono ?_
            intro e w8 hp8
            rw [← HF.out.1] at hp8
            have hR8 := HR7.out.notloaded hp8
            obtain ⟨er, ea, eb, hne, rfl⟩ := hp8.1
            have hne2 : (er == 0) = false := beq_eq_false_iff_ne.2 hne
            have HRN : Hid (∀ o : Obj, RS w (w8.alloc o) Y.bb Y.bx aa2 k2 ac2) := fun o => RS.of (hR8.fresh ((Fr.refl _ _).alloc _)) HF.out.1 HF.out.2.1 HF.out.2.2.1.1 HF.out.2.2.1.2 HK2.out HFIT.out HLD.out hal H642.out
            clear hp8 hR8 HLO hne
            go_wp2
            go_roundw
            case rel => exact ⟨i + 1, Y.bx, k2, ac2, aa2, by omega, by go_num, rfl, rfl, by omega, HRN.out _⟩
            case measure => simp [intOf]; omega
        · have n8 : (kind == 8) = false := beq_eq_false_iff_ne.2 q8
          have row7 : w7.ownsRow 0 70 2 (.slice aa2 k2 ac2) k2 (bvCells args2) := by
            have := HR7.out.row
            rw [HF.out.2.2.1.1, HF.out.2.2.1.2, HK2.out] at this
            exact this
          have HROW : Hid (World.ownsRow w7 0 70 2 (.slice aa2 k2 ac2) k2 (bvCells args2)) := row7
          have HDO : Hid (∀ (W : World) (Z : LayR) (va : Option Addr) (vc : Nat), Z.bx = Y.bx → RX w W Z X' m 0 d hi1 args2 → W.ownsRow 0 70 2 (.slice va k2 vc) k2 (bvCells args2) → Calls Tryz.prog 16 #[.pointer (some ⟨Y.bx, 0, none⟩), .slice va k2 vc, .agg #[.int .i64 kind, .int .i64 oa, .int .i64 ob, .int .i64 oc, sv oS, sv oT]] W (DoPost w Z X' m 0 d args2 ⟨kind, oa, ob, oc, oS, oT⟩ args2)) := by
            intro W Z va vc hz hx hrow
            have := rdo_any hx HLD.out HGL.out ⟨kind, oa, ob, oc, oS, oT⟩ HOF.out.2 args2 va vc (by rw [HK2.out]; exact hrow) H642.out (by rw [HK2.out]; omega)
            rw [HK2.out, hz] at this
            exact this
          have hl0 : w.heap.size ≤ w7.heap.size := HR7.out.fr.size
          clear row7
          go_wp2
          refine wp_region_trioG [0, 1, 3] 2 4 5 6 (fun y => Has y wB.heap.size #[.int .i64 kind, .int .i64 oa, .int .i64 ob, .int .i64 oc, sv oS, sv oT] 39) (by kernel_rfl) (by kernel_rfl) (fun _ _ _ _ _ h => h) H87.out.drew [_, _, _] rfl _ _ _ rfl rfl rfl _ rfl (by decide) (by decide) (by decide) ?_
          simp only [List.getElem_toArray, List.getElem_cons_succ, List.getElem_cons_zero, List.drop_succ_cons, List.drop_zero, List.length_cons, List.length_nil, Nat.zero_add]
          repeat go_big_quiet_step (fail)
          refine wpQ_loadOp rfl (.tmp 7) wB.heap.size _ _ _ _ _ _ rfl rfl (fun y hy => hy) ?_
          simp only [Act.put, List.setIfInBounds_toArray, List.set_cons_succ, List.set_cons_zero]
          refine wpQuiet_nil ?_
          refine ⟨fun a' aK W => ∃ (va : Option Addr) (vc b10 : Nat) (Z : LayR) (n' : Int) (d' : KD) (hi' er us len : Int) (str : List UInt8), aK = ((a'.put (some 74) (.slice va k2 vc)).put (some 76) (.agg #[.int .i64 er, .int .i64 us, .int .i64 len, sv str])).put (some 10) (.pointer (some ⟨b10, 0, none⟩)) ∧ RX w W Z X' m n' d' hi' args2 ∧ Has W b10 #[.int .i64 0, .int .i64 0, .int .i64 0, sv []] 46 ∧ ((w.heap.size ≤ b10 ∧ ¬ Z.S b10) ∧ ∀ p ∈ Z.sd, p.1 ≠ b10) ∧ (Z.bb = Y.bb ∧ Z.bx = Y.bx ∧ (Z.aa = aa2 ∧ Z.ac = ac2) ∧ (wB.heap.size, #[.int .i64 kind, .int .i64 oa, .int .i64 ob, .int .i64 oc, sv oS, sv oT], 39) ∈ Z.sd) ∧ (kind = 10 → Said (m.progN 0) oa ob args2 d d' 0 n' hi' er us len str) ∧ (kind ≠ 10 → d' = d), ?_, ?_⟩
          · rintro aK W10 ⟨va, vc, b10, Z, n', d', hi', er, us, len, str, rfl, HX10, HA10, HOLD, HZF, HSD, HSM⟩
            replace HX10 : Hid (RX _ _ _ _ _ _ _ _ _) := HX10
            replace HA10 : Hid (Has _ _ _ _) := HA10
            replace HOLD : Hid (_ ∧ _) := HOLD
            replace HZF : Hid (_ ∧ _) := HZF
            replace HSD : Hid (_ → _) := HSD
            replace HSM : Hid (_ → _) := HSM
            clear HR7 H87 HROW HDO d0 d1 d2 d3 d4 d5 l8 hl0 HF
            simp only [Act.put, List.setIfInBounds_toArray, List.set_cons_succ, List.set_cons_zero, List.drop_succ_cons, List.drop_zero, List.length_cons, List.length_nil, Nat.zero_add]
            have x0 := HA10.out.cell 0
            have x1 := HA10.out.cell 1
            have x2 := HA10.out.cell 2
            have x3 := HA10.out.cell 3
            simp at x0 x1 x2 x3
            have y0 := HA10.out.frozen 0
            have y1 := HA10.out.frozen 1
            have y2 := HA10.out.frozen 2
            have y3 := HA10.out.frozen 3
            have yl := HA10.out.lt
            unfold wpChain
            go_wp2
            obtain ⟨g1, g2⟩ := HA10.out.put4 (.int .i64 er) (.int .i64 us) (.int .i64 len) (sv str)
            obtain ⟨w11, HW11⟩ : ∃ w11, Hid (w11 = ((((W10.setCell ⟨b10, 0, none⟩ (.int .i64 er)).setCell ⟨b10, 1, none⟩ (.int .i64 us)).setCell ⟨b10, 2, none⟩ (.int .i64 len)).setCell ⟨b10, 3, none⟩ (sv str))) := ⟨_, rfl⟩
            rw [← HW11.out] at g1 g2 ⊢
            have X11 := (HX10.out.ansPut HA10.out HOLD.out.1.1 HOLD.out.1.2 HOLD.out.2 g2).add g1 (.inr rfl) HOLD.out.1
            have k11 : Has w11 wB.heap.size #[.int .i64 kind, .int .i64 oa, .int .i64 ob, .int .i64 oc, sv oS, sv oT] 39 := (X11.side _ (List.mem_cons_of_mem _ HZF.out.2.2.2)).1
            refine ⟨k11, ?_⟩
            obtain ⟨Z1, HZ1⟩ : ∃ Z1 : LayR, Hid (Z1 = { Z with sd := (b10, #[.int .i64 er, .int .i64 us, .int .i64 len, sv str], 46) :: Z.sd }) := ⟨_, rfl⟩
            rw [← HZ1.out] at X11
            have HZG : Hid (Z1.bb = Y.bb ∧ Z1.bx = Y.bx ∧ (Z1.aa = aa2 ∧ Z1.ac = ac2) ∧ (wB.heap.size, #[.int .i64 kind, .int .i64 oa, .int .i64 ob, .int .i64 oc, sv oS, sv oT], 39) ∈ Z1.sd ∧ (b10, #[.int .i64 er, .int .i64 us, .int .i64 len, sv str], 46) ∈ Z1.sd) := by
              show _ ∧ _
              rw [HZ1.out]
              exact ⟨HZF.out.1, HZF.out.2.1, HZF.out.2.2.1, List.mem_cons_of_mem _ HZF.out.2.2.2, List.mem_cons_self⟩
            have HX11 : Hid (RX w w11 Z1 X' m n' d' hi' args2) := X11
            clear g1 g2 X11 k11 HW11 HZ1 HX10 HA10 HOLD HZF x0 x1 x2 x3 y0 y1 y2 y3 yl
            rw [wpChain_zero]
            have HST : Hid (Calls _ _ _ _ _) := rsteps_any HX11.out
            rw [HZG.out.1] at HST
            go_wp2_with fail
            refine HST.out.mono ?_
            rintro e w11' ⟨rfl, hw⟩
            obtain rfl := hw.symm
            clear hw HST
            have HSH : Hid (Calls _ _ _ _ _) := rshow_any HX11.out.inst HX11.out.mach
            rw [HZG.out.2.1] at HSH
            go_wp2_with fail
            refine HSH.out.mono ?_
            rintro e w12 ⟨z12, rfl, HZ12, hz12, hF12⟩
            have X12 := HX11.out.fresh hF12
            have HKS : Hid (Calls _ _ _ _ _) := kshow_any X12.mach
            have c3 := X12.bel.here.cell 3
            rw [HZG.out.1] at c3
            simp at c3
            have HX12 : Hid (RX w w12 Z1 X' m n' d' hi' args2) := X12
            clear X12 hF12 HSH HX11
            go_wp2_with fail
            refine HKS.out.mono ?_
            rintro e w13 ⟨z13, rfl, HZ13, hz13, hF13⟩
            obtain rfl : z13 = z12 := by rw [HZ13.out, HZ12.out]
            have X13 := HX12.out.fresh hF13
            have kO : Has w13 wB.heap.size #[.int .i64 kind, .int .i64 oa, .int .i64 ob, .int .i64 oc, sv oS, sv oT] 39 := (X13.side _ HZG.out.2.2.2.1).1
            have kA : Has w13 b10 #[.int .i64 er, .int .i64 us, .int .i64 len, sv str] 46 := (X13.side _ HZG.out.2.2.2.2).1
            have d0 := kO.cell 0
            have d1 := kO.cell 1
            simp at d0 d1
            have l8 := kO.lt
            have c2 := X13.bel.here.cell 2
            rw [HZG.out.1] at c2
            simp at c2
            have HX13 : Hid (RX w w13 Z1 X' m n' d' hi' args2) := X13
            clear X13 hF13 HKS HX12 c3 HZ13 hz13 kO kA
            by_cases q10 : kind = 10
            · subst q10
              obtain ⟨T, pt⟩ := HLD.out.pt
              have hsm := sig_small pt oa
              have hfl := pt.flen
              obtain ⟨u, ok, HU⟩ : ∃ u ok, Hid ((m.progN 0).sig oa = (u, ok)) := ⟨_, _, rfl⟩
              have hs := HSD.out rfl
              unfold Said at hs
              rw [owedP_Q, HU.out] at hs
              rw [HU.out] at hsm
              obtain ⟨ps, rs, ls⟩ := u
              simp only at hs hsm
              obtain ⟨ow, HOW⟩ : ∃ ow, Hid (owedQ ⟨ps, rs, ls⟩ ok oa m.prog.nimp args2 = ow) := ⟨_, rfl⟩
              have how : ow = 1 ∨ ow = 8 ∨ ow = 7 ∨ ow = 0 := by
                rw [← HOW.out]
                unfold owedQ
                split
                · exact .inl rfl
                split
                · exact .inr (.inl rfl)
                split
                · exact .inr (.inr (.inl rfl))
                split
                · exact .inr (.inr (.inl rfl))
                · exact .inr (.inr (.inr rfl))
              have HS : Hid (_ ∨ _) := hs
              rw [show owedQ ⟨ps, rs, ls⟩ ok oa (m.progN 0).nimp args2 = ow from HOW.out] at HS
              have HSIG : Hid (Calls _ _ _ _ _) := sig_any (PS Z1.bp Z1.LP) Z1.bp Z1.LP (m.progN n') w13.drew oa (HX13.out.fresh ((Fr.refl _ _).drew)).prog (by show m.prog.funs.length ≤ 1000; have : m.prog.funs.length ≤ 6 := hfl; omega)
              rw [show (m.progN n').sig oa = (⟨ps, rs, ls⟩, ok) from HU.out] at HSIG
              simp only at HSIG
              have HSMA : Hid (ps.length ≤ 3 ∧ rs.length ≤ 1 ∧ ls.length ≤ 4 ∧ TyL ps) := hsm
              have n10 : ((10 : Int) != 10) = false := rfl
              clear hs hsm hfl HSD HSM pt HU
              go_wp2
              refine wp_region_two [0, 1, 2, 3, 4, 5] 6 [7, 8, 9, 10, 11, 12, 13, 14, 15] 16 (fun y => y.cell? ⟨Y.bb, 2, none⟩ = some (.pointer (some ⟨Z1.bp, 0, none⟩)) ∧ y.cell? ⟨wB.heap.size, 1, none⟩ = some (.int .i64 oa)) (by kernel_rfl) (by kernel_rfl) (fun _ _ _ _ _ h => h) ⟨c2, d1⟩ [_, _, _, _, _, _] rfl _ rfl [_, _, _, _, _, _, _, _, _] rfl ?_
              refine wpQ_move rfl (.tmp 3) (.pointer (some ⟨Y.bb, 0, none⟩)) rfl (by kernel_rfl) ?_
              simp only [Act.put, List.setIfInBounds_toArray, List.set_cons_succ, List.set_cons_zero]
              refine wpQ_nilCheck rfl (.tmp 97) ⟨Y.bb, 0, none⟩ rfl (by kernel_rfl) ?_
              simp only [Act.put, List.setIfInBounds_toArray, List.set_cons_succ, List.set_cons_zero]
              refine wpQ_fieldAddr rfl (.tmp 98) 2 ⟨Y.bb, 0, none⟩ ⟨Y.bb, 2, none⟩ rfl (by kernel_rfl) (fun w => by kernel_rfl) ?_
              simp only [Act.put, List.setIfInBounds_toArray, List.set_cons_succ, List.set_cons_zero]
              refine wpQ_load1 rfl (.tmp 99) ⟨Y.bb, 2, none⟩ (.pointer (some ⟨Z1.bp, 0, none⟩)) rfl (by kernel_rfl) (by kernel_rfl) (fun _ h => h.1) ?_
              simp only [Act.put, List.setIfInBounds_toArray, List.set_cons_succ, List.set_cons_zero]
              refine wpQ_fieldAddr rfl (.tmp 7) 1 ⟨wB.heap.size, 0, none⟩ ⟨wB.heap.size, 1, none⟩ rfl (by kernel_rfl) (fun w => by kernel_rfl) ?_
              simp only [Act.put, List.setIfInBounds_toArray, List.set_cons_succ, List.set_cons_zero]
              refine wpQ_load1 rfl (.tmp 101) ⟨wB.heap.size, 1, none⟩ (.int .i64 oa) rfl (by kernel_rfl) (by kernel_rfl) (fun _ h => h.2) ?_
              simp only [Act.put, List.setIfInBounds_toArray, List.set_cons_succ, List.set_cons_zero]
              refine wpQuiet_nil ?_
              go_wp2_with fail
              refine HSIG.out.mono ?_
              rintro e w14 ⟨rfl, nn, rfl⟩
              have HX14 : Hid (RX w (w13.drew.drewN nn) Z1 X' m n' d' hi' args2) := HX13.out.fresh (((Fr.refl _ _).drew).drewN nn)
              have c2' : (w13.drew.drewN nn).cell? ⟨Y.bb, 2, none⟩ = some (.pointer (some ⟨Z1.bp, 0, none⟩)) := c2
              have d1' : (w13.drew.drewN nn).cell? ⟨wB.heap.size, 1, none⟩ = some (.int .i64 oa) := d1
              generalize w13.drew.drewN nn = w14 at *
              clear HSIG HX13 c2 d1 d0
              go_wp2
              refine ⟨⟨c2', d1'⟩, ?_⟩
              refine wpQ_move rfl (.tmp 103) (.tuple #[sv ps, sv rs, sv ls, .bool ok]) rfl (by kernel_rfl) ?_
              simp only [Act.put, List.setIfInBounds_toArray, List.set_cons_succ, List.set_cons_zero]
              refine wpQ_pure rfl (sv ps) (fun w => by kernel_rfl) ?_
              simp only [Act.put, List.setIfInBounds_toArray, List.set_cons_succ, List.set_cons_zero]
              refine wpQ_pure rfl (sv rs) (fun w => by kernel_rfl) ?_
              simp only [Act.put, List.setIfInBounds_toArray, List.set_cons_succ, List.set_cons_zero]
              refine wpQ_pure rfl (sv ls) (fun w => by kernel_rfl) ?_
              simp only [Act.put, List.setIfInBounds_toArray, List.set_cons_succ, List.set_cons_zero]
              refine wpQ_pure rfl (.bool ok) (fun w => by kernel_rfl) ?_
              simp only [Act.put, List.setIfInBounds_toArray, List.set_cons_succ, List.set_cons_zero]
              refine wpQ_pure rfl (sv ps) (fun w => by kernel_rfl) ?_
              simp only [Act.put, List.setIfInBounds_toArray, List.set_cons_succ, List.set_cons_zero]
              refine wpQ_pure rfl (sv rs) (fun w => by kernel_rfl) ?_
              simp only [Act.put, List.setIfInBounds_toArray, List.set_cons_succ, List.set_cons_zero]
              refine wpQ_pure rfl (sv ls) (fun w => by kernel_rfl) ?_
              simp only [Act.put, List.setIfInBounds_toArray, List.set_cons_succ, List.set_cons_zero]
              refine wpQ_pure rfl (.bool ok) (fun w => by kernel_rfl) ?_
              simp only [Act.put, List.setIfInBounds_toArray, List.set_cons_succ, List.set_cons_zero]
              refine wpQuiet_nil ?_
              show wpList _ _ _ [] _ _
              have kO : Has w14 wB.heap.size #[.int .i64 10, .int .i64 oa, .int .i64 ob, .int .i64 oc, sv oS, sv oT] 39 := (HX14.out.side _ HZG.out.2.2.2.1).1
              have kA : Has w14 b10 #[.int .i64 er, .int .i64 us, .int .i64 len, sv str] 46 := (HX14.out.side _ HZG.out.2.2.2.2).1
              have HNI : Hid (Calls _ _ _ _ _) := pnimports_any (PS Z1.bp Z1.LP) Z1.bp Z1.LP (m.progN n') w14 HX14.out.prog
              have HOWE : Hid (Calls _ _ _ _ _) := rowed_any (w := w14) oa m.prog.nimp ok ⟨ps, rs, ls⟩ HSMA.out.2.2.2 args2 aa2 ac2 (by rw [HK2.out]; omega) HSMA.out.1 (by have := HX14.out.row; rw [HZG.out.2.2.1.1, HZG.out.2.2.1.2] at this; exact this)
              rw [HOW.out, HK2.out] at HOWE
              simp only at HOWE
              have HKO : Hid (Has w14 wB.heap.size _ _) := kO
              have HKA : Hid (Has w14 b10 _ _) := kA
              clear kO kA HOW
              go_wp2_with fail
              refine HNI.out.mono ?_
              rintro e w14' ⟨rfl, hw⟩
              obtain rfl := hw.symm
              clear hw HNI
              go_wp2_with fail
              refine HOWE.out.mono ?_
              rintro e w15 ⟨rfl, hF15⟩
              have X15 := HX14.out.fresh hF15
              have kO : Has w15 wB.heap.size #[.int .i64 10, .int .i64 oa, .int .i64 ob, .int .i64 oc, sv oS, sv oT] 39 := (X15.side _ HZG.out.2.2.2.1).1
              have kA : Has w15 b10 #[.int .i64 er, .int .i64 us, .int .i64 len, sv str] 46 := (X15.side _ HZG.out.2.2.2.2).1
              have HHI : Hid (Calls _ _ _ _ _) := rhigh_any X15.inst
              rw [HZG.out.2.1] at HHI
              simp only at HHI
              have HX15 : Hid (RX w w15 Z1 X' m n' d' hi' args2) := X15
              have FINI : Hid (∀ w16, Fr (fun _ => False) w15 w16 → RS w w16 Y.bb Y.bx none 0 0) := fun w16 hF => RS.of ((HX15.out.fresh hF).argsNil) HZG.out.1 HZG.out.2.1 rfl rfl rfl HFIT.out HLD.out (by omega) (fun b hb => by cases hb)
              have d0 := kO.cell 0
              have d1 := kO.cell 1
              have d2 := kO.cell 2
              have d3 := kO.cell 3
              have d4 := kO.cell 4
              have d5 := kO.cell 5
              simp at d0 d1 d2 d3 d4 d5
              have hs1 := HSMA.out.1
              have hs2 := HSMA.out.2.1
              have hs3 := HSMA.out.2.2.1
              have l8' := kO.lt
              have l10 := kA.lt
              have HKA15 : Hid (Has w15 b10 #[.int .i64 er, .int .i64 us, .int .i64 len, sv str] 46) := kA
              clear X15 kO kA hF15 HX14 HX15 HOWE HKO HKA HSMA c2' d1' l8
              rcases HS.out with ⟨h1, rfl, rfl, rfl, rfl, rfl, rfl, hd⟩ | ⟨h1, h2, h3, h4, hrun⟩
              · have hz : z13 = z8 := by rw [HZ12.out, HZ8.out, hd]
                subst hz
                have hne : er = 1 ∨ er = 8 ∨ er = 7 := by omega
                have HSO : Hid (Calls _ _ _ _ _) := sound_owed ⟨10, oa, ob, oc, oS, oT⟩ er hne z13 rs w15
                unfold OpD.val at HSO
                simp only at HSO
                have HBO : Hid (∀ fr res, Calls _ _ _ w15 _) := fun fr res => bounded_owed er er fr res h1 w15
                have a0 := HKA15.out.cell 0
                have a1 := HKA15.out.cell 1
                have a2 := HKA15.out.cell 2
                have a3 := HKA15.out.cell 3
                simp at a0 a1 a2 a3
                clear HS how HKA15
                rcases hne with rfl | rfl | rfl
                all_goals
                  go_wp2_with fail
                  refine HHI.out.mono ?_
                  rintro e w16 ⟨rfl, hw⟩
                  obtain rfl := hw.symm
                  clear hw
                  go_wp2_with fail
                  refine (HBO.out _ _).mono ?_
                  rintro e w17 ⟨rfl, hw⟩
                  obtain rfl := hw.symm
                  clear hw
                  go_wp2_with fail
                  refine HSO.out.mono ?_
                  rintro e w18 ⟨rfl, hF18⟩
                  have HRN : Hid (RS w w18 Y.bb Y.bx none 0 0) := FINI.out w18 hF18
                  clear hF18
                  go_wp2
                  go_roundw
                  case rel => exact ⟨i + 1, Y.bx, 0, 0, none, by omega, by go_num, rfl, rfl, by omega, HRN⟩
                  case measure => simp [intOf]; omega
              · subst h1
                have HZZ : Hid (ob ≤ 0 → z13 = z8) := fun hb => by rw [HZ12.out, HZ8.out, h3 hb]
                rcases hrun with ⟨rfl, rfl, h5, h6, h7⟩ | ⟨h5, h6, rfl, h7⟩
                · have HSO : Hid (Calls _ _ _ _ _) := sound_ok ⟨10, oa, ob, oc, oS, oT⟩ us h4 str z8 z13 rs h5 n' (fun hb => ⟨h6 hb, HZZ.out hb⟩) w15
                  unfold OpD.val at HSO
                  simp only at HSO
                  have HBO : Hid (Calls _ _ _ _ _) := bounded_ok hi' ((ps.length : Int) + (ls.length : Int)) rs.length (by omega) (by omega) (by omega) (by omega) w15
                  have a0 := HKA15.out.cell 0
                  have a1 := HKA15.out.cell 1
                  have a2 := HKA15.out.cell 2
                  have a3 := HKA15.out.cell 3
                  simp at a0 a1 a2 a3
                  clear HS how HKA15 h2 h3 h4 h5 h6 h7
                  go_wp2_with fail
                  refine HHI.out.mono ?_
                  rintro e w16 ⟨rfl, hw⟩
                  obtain rfl := hw.symm
                  clear hw
                  go_wp2_with fail
                  refine HBO.out.mono ?_
                  rintro e w17 ⟨rfl, hw⟩
                  obtain rfl := hw.symm
                  clear hw
                  go_wp2_with fail
                  refine HSO.out.mono ?_
                  rintro e w18 ⟨rfl, hF18⟩
                  have HRN : Hid (RS w w18 Y.bb Y.bx none 0 0) := FINI.out w18 hF18
                  clear hF18
                  go_wp2
                  go_roundw
                  case rel => exact ⟨i + 1, Y.bx, 0, 0, none, by omega, by go_num, rfl, rfl, by omega, HRN⟩
                  case measure => simp [intOf]; omega
                · have HSO : Hid (Calls _ _ _ _ _) := sound_trap ⟨10, oa, ob, oc, oS, oT⟩ er us ⟨h5, h6⟩ h4 str z8 z13 rs n' (fun hb => ⟨(h7 hb).1, (h7 hb).2, HZZ.out hb⟩) w15
                  unfold OpD.val at HSO
                  simp only at HSO
                  have HBO : Hid (Calls _ _ _ _ _) := bounded_trap hi' er ((ps.length : Int) + (ls.length : Int)) rs.length (by omega) (by omega) (by omega) w15
                  have n1 : (er == 1) = false := beq_eq_false_iff_ne.2 (by omega)
                  have n2 : (er == 8) = false := beq_eq_false_iff_ne.2 (by omega)
                  have n3 : (er == 7) = false := beq_eq_false_iff_ne.2 (by omega)
                  have a0 := HKA15.out.cell 0
                  have a1 := HKA15.out.cell 1
                  have a2 := HKA15.out.cell 2
                  have a3 := HKA15.out.cell 3
                  simp at a0 a1 a2 a3
                  clear HS how HKA15 h2 h3 h4 h5 h6 h7
                  go_wp2_with fail
                  refine HHI.out.mono ?_
                  rintro e w16 ⟨rfl, hw⟩
                  obtain rfl := hw.symm
                  clear hw
                  go_wp2_with fail
                  refine HBO.out.mono ?_
                  rintro e w17 ⟨rfl, hw⟩
                  obtain rfl := hw.symm
                  clear hw
                  go_wp2_with fail
                  refine HSO.out.mono ?_
                  rintro e w18 ⟨rfl, hF18⟩
                  have HRN : Hid (RS w w18 Y.bb Y.bx none 0 0) := FINI.out w18 hF18
                  clear hF18
                  go_wp2
                  go_roundw
                  case rel => exact ⟨i + 1, Y.bx, 0, 0, none, by omega, by go_num, rfl, rfl, by omega, HRN⟩
                  case measure => simp [intOf]; omega
            · have n10 : (kind != 10) = true := by rw [bne_iff_ne]; exact q10
              obtain rfl : z8 = z13 := by rw [HZ8.out, HZ12.out, HSM.out q10]
              have HRN : Hid (RS w w13 Y.bb Y.bx aa2 k2 ac2) := RS.of HX13.out HZG.out.1 HZG.out.2.1 HZG.out.2.2.1.1 HZG.out.2.2.1.2 HK2.out HFIT.out HLD.out hal H642.out
              clear HX13 HSD HSM
              go_wp2
              go_roundw
              case rel => exact ⟨i + 1, Y.bx, k2, ac2, aa2, by omega, by go_num, rfl, rfl, by omega, HRN⟩
              case measure => simp [intOf]; omega
          · intro G HG
            refine ⟨?_, ?_⟩
            · obtain ⟨va, vc, w8, hrA, hoA, hfA⟩ := copy_args (w := w7.drew) HROW.out hal 37
              refine wpL_app2 rfl (.const (.slice none 0 0)) (.tmp 73) rfl _ _ _ rfl rfl hrA ?_
              have X8 : RX w w8 Y2 X' m 0 d hi1 args2 := HR7.out.fresh ⟨hfA.os, hfA.tape, hfA.output, hfA.size, hfA.block⟩
              have k88 : Has w8 wB.heap.size #[.int .i64 kind, .int .i64 oa, .int .i64 ob, .int .i64 oc, sv oS, sv oT] 39 := (X8.side _ (by rw [HF.out.2.2.2]; exact List.mem_cons_self)).1
              have HX8 : Hid (RX w w8 Y2 X' m 0 d hi1 args2) := X8
              have HOA : Hid (World.ownsRow w8 _ _ _ _ _ _) := hoA
              have H88 : Hid (Has w8 wB.heap.size #[.int .i64 kind, .int .i64 oa, .int .i64 ob, .int .i64 oc, sv oS, sv oT] 39) := k88
              simp only [Act.put, List.setIfInBounds_toArray, List.set_cons_succ, List.set_cons_zero]
              clear hrA hoA hfA X8 k88
              refine ⟨H88.out, ?_, ?_⟩
              · have HD1 : Hid (Calls _ _ _ _ _) := HDO.out w8 Y2 va vc HF.out.2.1 HX8.out HOA.out
                go_wp2_with fail
                refine HD1.out.mono ?_
                rintro e w9 ⟨L', K', n', d', hi', er, us, len, str, rfl, hR9, hsd, hsm⟩
                have k89 : Has w9 wB.heap.size #[.int .i64 kind, .int .i64 oa, .int .i64 ob, .int .i64 oc, sv oS, sv oT] 39 := (hR9.side _ (by show _ ∈ Y2.sd; rw [HF.out.2.2.2]; exact List.mem_cons_self)).1
                clear HD1
                go_wp2
                refine ⟨k89, ?_⟩
                obtain ⟨b10, HB10⟩ : ∃ b10, Hid (b10 = w9.heap.size) := ⟨_, rfl⟩
                obtain ⟨W10, HW10⟩ : ∃ W10, Hid (W10 = w9.alloc (.cells #[.int .i64 0, .int .i64 0, .int .i64 0, .string ⟨#[]⟩] 46)) := ⟨_, rfl⟩
                go_wp2
                rw [← HB10.out, ← HW10.out]
                obtain ⟨Z, HZ⟩ : ∃ Z : LayR, Hid (Z = { Y2 with L := L', KK := K' }) := ⟨{ Y2 with L := L', KK := K' }, rfl⟩
                have HZF : Hid (Z.bb = Y.bb ∧ Z.bx = Y.bx ∧ (Z.aa = aa2 ∧ Z.ac = ac2) ∧ (wB.heap.size, #[.int .i64 kind, .int .i64 oa, .int .i64 ob, .int .i64 oc, sv oS, sv oT], 39) ∈ Z.sd) := by
                  show _ ∧ _
                  rw [HZ.out]
                  exact ⟨HF.out.1, HF.out.2.1, HF.out.2.2.1, by show _ ∈ Y2.sd; rw [HF.out.2.2.2]; exact List.mem_cons_self⟩
                have HA10 : Hid (Has W10 b10 #[.int .i64 0, .int .i64 0, .int .i64 0, sv []] 46) := by
                  show Has _ _ _ _
                  rw [HW10.out, HB10.out]
                  exact Has.new _ _ _
                have HX10 : Hid (RX w W10 Z X' m n' d' hi' args2) := by
                  show RX _ _ _ _ _ _ _ _ _
                  rw [HZ.out, HW10.out]
                  exact hR9.fresh ((Fr.refl _ _).alloc _)
                have HOLD : Hid ((w.heap.size ≤ b10 ∧ ¬ Z.S b10) ∧ ∀ p ∈ Z.sd, p.1 ≠ b10) := by
                  rw [HB10.out, HZ.out]
                  exact ⟨⟨hR9.fr.size, fun hS => by have := (hR9.newS _ hS).2; omega⟩, hR9.off (Nat.le_refl _)⟩
                have HSD : Hid (kind = 10 → Said (m.progN 0) oa ob args2 d d' 0 n' hi' er us len str) := hsd
                have HSM : Hid (kind ≠ 10 → d' = d) := hsm
                clear hR9 hsd hsm k89 HW10 HB10 HZ HX8 HOA H88 HR7 H87 HROW HDO d0 d1 d2 d3 d4 d5 l8 hl0 HF
                have k10 : Has W10 wB.heap.size #[.int .i64 kind, .int .i64 oa, .int .i64 ob, .int .i64 oc, sv oS, sv oT] 39 := (HX10.out.side _ HZF.out.2.2.2).1
                refine ⟨k10, ?_⟩
                rw [HG.out]
                exact ⟨va, vc, b10, Z, n', d', hi', er, us, len, str, by kernel_rfl, HX10.out, HA10.out, HOLD.out, HZF.out, HSD.out, HSM.out⟩
              · obtain ⟨b10, HB10⟩ : ∃ b10, Hid (b10 = w8.heap.size) := ⟨_, rfl⟩
                obtain ⟨W9, HW9⟩ : ∃ W9, Hid (W9 = w8.alloc (.cells #[.int .i64 0, .int .i64 0, .int .i64 0, .string ⟨#[]⟩] 46)) := ⟨_, rfl⟩
                have F9 : Fr (fun _ => False) w8 W9 := by rw [HW9.out]; exact (Fr.refl _ _).alloc _
                have kA9 : Has W9 b10 #[.int .i64 0, .int .i64 0, .int .i64 0, sv []] 46 := by rw [HW9.out, HB10.out]; exact Has.new _ _ _
                have hold : w.heap.size ≤ b10 ∧ ¬ Y2.S b10 := by rw [HB10.out]; exact ⟨HX8.out.fr.size, fun hS => by have := (HX8.out.newS _ hS).2; omega⟩
                have hlt9 : wB.heap.size ≠ b10 := by rw [HB10.out]; have := H88.out.lt; omega
                have X9 := (HX8.out.fresh F9).add kA9 (.inr rfl) hold
                obtain ⟨Y3, HY3⟩ : ∃ Y3 : LayR, Hid (Y3 = { Y2 with sd := (b10, #[.int .i64 0, .int .i64 0, .int .i64 0, sv []], 46) :: Y2.sd }) := ⟨_, rfl⟩
                rw [← HY3.out] at X9
                have hbx3 : Y3.bx = Y.bx := by rw [HY3.out]; exact HF.out.2.1
                have k99 : Has W9 wB.heap.size #[.int .i64 kind, .int .i64 oa, .int .i64 ob, .int .i64 oc, sv oS, sv oT] 39 := H88.out.fr F9 (fun h => h)
                have HX9 : Hid (RX w W9 Y3 X' m 0 d hi1 args2) := X9
                have HHLD : Hid ((w.heap.size ≤ b10 ∧ ¬ Y2.S b10) ∧ wB.heap.size ≠ b10) := ⟨hold, hlt9⟩
                go_wp2
                rw [← HB10.out, ← HW9.out]
                refine ⟨k99, ?_⟩
                have HD1 : Hid (Calls _ _ _ _ _) := HDO.out W9 Y3 va vc hbx3 HX9.out (owns_fr HOA.out F9 (fun _ _ h => h))
                clear F9 kA9 hold hlt9 X9 k99 HW9 HB10 hbx3
                go_wp2_with fail
                refine HD1.out.mono ?_
                rintro e W10 ⟨L', K', n', d', hi', er, us, len, str, rfl, hR9, hsd, hsm⟩
                clear HD1
                go_wp2
                obtain ⟨Z, HZ⟩ : ∃ Z : LayR, Hid (Z = { Y2 with L := L', KK := K' }) := ⟨{ Y2 with L := L', KK := K' }, rfl⟩
                rw [HY3.out] at hR9
                have HZF : Hid (Z.bb = Y.bb ∧ Z.bx = Y.bx ∧ (Z.aa = aa2 ∧ Z.ac = ac2) ∧ (wB.heap.size, #[.int .i64 kind, .int .i64 oa, .int .i64 ob, .int .i64 oc, sv oS, sv oT], 39) ∈ Z.sd) := by
                  show _ ∧ _
                  rw [HZ.out]
                  exact ⟨HF.out.1, HF.out.2.1, HF.out.2.2.1, by show _ ∈ Y2.sd; rw [HF.out.2.2.2]; exact List.mem_cons_self⟩
                have HA10 : Hid (Has W10 b10 #[.int .i64 0, .int .i64 0, .int .i64 0, sv []] 46) := (hR9.side _ List.mem_cons_self).1
                have HX10 : Hid (RX w W10 Z X' m n' d' hi' args2) := by
                  show RX _ _ _ _ _ _ _ _ _
                  rw [HZ.out]
                  exact hR9.less Y2.sd (fun p hp => List.mem_cons_of_mem _ hp)
                have HOLD : Hid ((w.heap.size ≤ b10 ∧ ¬ Z.S b10) ∧ ∀ p ∈ Z.sd, p.1 ≠ b10) := by
                  rw [HZ.out]
                  refine ⟨HHLD.out.1, fun p hp => ?_⟩
                  have hp' : p ∈ Y2.sd := hp
                  rw [HF.out.2.2.2] at hp'
                  obtain rfl := List.mem_singleton.1 hp'
                  exact HHLD.out.2
                have HSD : Hid (kind = 10 → Said (m.progN 0) oa ob args2 d d' 0 n' hi' er us len str) := hsd
                have HSM : Hid (kind ≠ 10 → d' = d) := hsm
                clear hR9 hsd hsm HZ HX8 HOA H88 HR7 H87 HROW HDO d0 d1 d2 d3 d4 d5 l8 hl0 HF HHLD HX9 HY3
                have k10 : Has W10 wB.heap.size #[.int .i64 kind, .int .i64 oa, .int .i64 ob, .int .i64 oc, sv oS, sv oT] 39 := (HX10.out.side _ HZF.out.2.2.2).1
                refine ⟨k10, ?_⟩
                rw [HG.out]
                exact ⟨va, vc, b10, Z, n', d', hi', er, us, len, str, by kernel_rfl, HX10.out, HA10.out, HOLD.out, HZF.out, HSD.out, HSM.out⟩
            · unfold seq3G
              simp only [List.length_cons, List.length_nil, Nat.zero_add]
              obtain ⟨V7, HV7⟩ : ∃ V7, Hid (V7 = w7.drew) := ⟨_, rfl⟩
              have HX8 : Hid (RX w V7 Y2 X' m 0 d hi1 args2) := by
                show RX _ _ _ _ _ _ _ _ _
                rw [HV7.out]
                exact HR7.out.fresh ((Fr.refl _ _).drew)
              have H88 : Hid (Has V7 wB.heap.size #[.int .i64 kind, .int .i64 oa, .int .i64 ob, .int .i64 oc, sv oS, sv oT] 39) := by
                show Has _ _ _ _
                rw [HV7.out]
                exact H87.out.drew
              have HRV : Hid (World.ownsRow V7 0 70 2 (.slice aa2 k2 ac2) k2 (bvCells args2)) := by
                show World.ownsRow _ _ _ _ _ _ _
                rw [HV7.out]
                exact HROW.out
              rw [← HV7.out]
              clear HV7
              · obtain ⟨b10, HB10⟩ : ∃ b10, Hid (b10 = V7.heap.size) := ⟨_, rfl⟩
                obtain ⟨W9, HW9⟩ : ∃ W9, Hid (W9 = V7.alloc (.cells #[.int .i64 0, .int .i64 0, .int .i64 0, .string ⟨#[]⟩] 46)) := ⟨_, rfl⟩
                have F9 : Fr (fun _ => False) V7 W9 := by rw [HW9.out]; exact (Fr.refl _ _).alloc _
                have kA9 : Has W9 b10 #[.int .i64 0, .int .i64 0, .int .i64 0, sv []] 46 := by rw [HW9.out, HB10.out]; exact Has.new _ _ _
                have hold : w.heap.size ≤ b10 ∧ ¬ Y2.S b10 := by rw [HB10.out]; exact ⟨HX8.out.fr.size, fun hS => by have := (HX8.out.newS _ hS).2; omega⟩
                have hlt9 : wB.heap.size ≠ b10 := by rw [HB10.out]; have := H88.out.lt; omega
                have X9 := (HX8.out.fresh F9).add kA9 (.inr rfl) hold
                obtain ⟨Y3, HY3⟩ : ∃ Y3 : LayR, Hid (Y3 = { Y2 with sd := (b10, #[.int .i64 0, .int .i64 0, .int .i64 0, sv []], 46) :: Y2.sd }) := ⟨_, rfl⟩
                rw [← HY3.out] at X9
                have hbx3 : Y3.bx = Y.bx := by rw [HY3.out]; exact HF.out.2.1
                have k99 : Has W9 wB.heap.size #[.int .i64 kind, .int .i64 oa, .int .i64 ob, .int .i64 oc, sv oS, sv oT] 39 := H88.out.fr F9 (fun h => h)
                have HX9 : Hid (RX w W9 Y3 X' m 0 d hi1 args2) := X9
                have HHLD : Hid ((w.heap.size ≤ b10 ∧ ¬ Y2.S b10) ∧ wB.heap.size ≠ b10) := ⟨hold, hlt9⟩
                go_wp2
                rw [← HB10.out, ← HW9.out]
                refine ⟨k99, ?_⟩
                obtain ⟨va, vc, w8c, hrA, hoA, hfA⟩ := copy_args (w := W9) (owns_fr HRV.out F9 (fun _ _ h => h)) hal 37
                refine wpL_app2 rfl (.const (.slice none 0 0)) (.tmp 73) rfl _ _ _ rfl rfl hrA ?_
                simp only [Act.put, List.setIfInBounds_toArray, List.set_cons_succ, List.set_cons_zero]
                refine ⟨k99.fr hfA (fun h => h), ?_⟩
                have HD1 : Hid (Calls _ _ _ _ _) := HDO.out w8c Y3 va vc hbx3 (HX9.out.fresh hfA) hoA
                clear hrA hoA hfA
                clear F9 kA9 hold hlt9 X9 k99 HW9 HB10 hbx3
                go_wp2_with fail
                refine HD1.out.mono ?_
                rintro e W10 ⟨L', K', n', d', hi', er, us, len, str, rfl, hR9, hsd, hsm⟩
                clear HD1
                go_wp2
                obtain ⟨Z, HZ⟩ : ∃ Z : LayR, Hid (Z = { Y2 with L := L', KK := K' }) := ⟨{ Y2 with L := L', KK := K' }, rfl⟩
                rw [HY3.out] at hR9
                have HZF : Hid (Z.bb = Y.bb ∧ Z.bx = Y.bx ∧ (Z.aa = aa2 ∧ Z.ac = ac2) ∧ (wB.heap.size, #[.int .i64 kind, .int .i64 oa, .int .i64 ob, .int .i64 oc, sv oS, sv oT], 39) ∈ Z.sd) := by
                  show _ ∧ _
                  rw [HZ.out]
                  exact ⟨HF.out.1, HF.out.2.1, HF.out.2.2.1, by show _ ∈ Y2.sd; rw [HF.out.2.2.2]; exact List.mem_cons_self⟩
                have HA10 : Hid (Has W10 b10 #[.int .i64 0, .int .i64 0, .int .i64 0, sv []] 46) := (hR9.side _ List.mem_cons_self).1
                have HX10 : Hid (RX w W10 Z X' m n' d' hi' args2) := by
                  show RX _ _ _ _ _ _ _ _ _
                  rw [HZ.out]
                  exact hR9.less Y2.sd (fun p hp => List.mem_cons_of_mem _ hp)
                have HOLD : Hid ((w.heap.size ≤ b10 ∧ ¬ Z.S b10) ∧ ∀ p ∈ Z.sd, p.1 ≠ b10) := by
                  rw [HZ.out]
                  refine ⟨HHLD.out.1, fun p hp => ?_⟩
                  have hp' : p ∈ Y2.sd := hp
                  rw [HF.out.2.2.2] at hp'
                  obtain rfl := List.mem_singleton.1 hp'
                  exact HHLD.out.2
                have HSD : Hid (kind = 10 → Said (m.progN 0) oa ob args2 d d' 0 n' hi' er us len str) := hsd
                have HSM : Hid (kind ≠ 10 → d' = d) := hsm
                clear hR9 hsd hsm HZ HX8 HRV H88 HR7 H87 HROW HDO d0 d1 d2 d3 d4 d5 l8 hl0 HF HHLD HX9 HY3
                have k10 : Has W10 wB.heap.size #[.int .i64 kind, .int .i64 oa, .int .i64 ob, .int .i64 oc, sv oS, sv oT] 39 := (HX10.out.side _ HZF.out.2.2.2).1
                refine ⟨k10, ?_⟩
                rw [HG.out]
                exact ⟨va, vc, b10, Z, n', d', hi', er, us, len, str, by kernel_rfl, HX10.out, HA10.out, HOLD.out, HZF.out, HSD.out, HSM.out⟩
      · have HFW : Hid (Fr (fun _ => False) w wr) := by
          obtain ⟨Y, X, m, n, d, hi1, args, _, _, _, _, _, hR, _⟩ := G1.out
          exact hR.fr
        have g42 : decide ((i : Int) < 4398046511104) = false := by simp; omega
        clear G1
        go_wp2
        go_ret
        exact ⟨rfl, HFW.out⟩
    · have HFW : Hid (Fr (fun _ => False) w wr) := by
        obtain ⟨Y, X, m, n, d, hi1, args, _, _, _, _, _, hR, _⟩ := G1.out
        exact hR.fr
      have hin : i = nS := by omega
      subst hin
      clear G1
      go_wp2
      go_ret
      exact ⟨rfl, HFW.out⟩
end Go.Proofs.Qxb6500575aGreatDoor
