/-
  THE WALK of preplaw.KeepsUpTo and Keeps.
-/
import Derived.Test.Qxb6500576aDoorKeepsS
namespace Go.Proofs.Qxb6500576aDoor
open Go Go.RowKit
set_option linter.unusedVariables false
set_option linter.unusedSimpArgs false

structure Lt42 (i : Nat) : Prop where
  lt : (i : Int) < 4398046511104
theorem Lt42.wrap {i : Nat} (h : Lt42 i) : wrap64 ((i : Int) + 1) = (i : Int) + 1 := by
  have := h.lt
  unfold wrap64
  omega
theorem Lt42.wrapK {i : Nat} (h : Lt42 i) : IntKind.i64.wrap ((i : Int) + 1) = (i : Int) + 1 := by
  have := h.lt
  rw [IntKind.wrap_i64]
  omega
theorem Lt42.next {i : Nat} (h : Lt42 i) : (((i + 1 : Nat)) : Int) ≤ 4398046511104 := by
  have := h.lt
  omega
def ModD.progAt (m : ModD) (st : Nat) : ProgD := { m.prog with steps := (st : Int) }
theorem progAt_add (m : ModD) (st n : Nat) : ({ m.progAt st with steps := (m.progAt st).steps + (n : Int) } : ProgD) = m.progAt (st + n) := by
  unfold ModD.progAt
  simp
theorem progAt_steps (m : ModD) (st : Nat) : (m.progAt st).steps = (st : Int) := rfl
set_option maxRecDepth 100000 in
set_option maxHeartbeats 16000000 in
theorem keepsUp_any (a : Option Addr) (n cap : Nat) (os : Nat → OpD) (w : World) (hs : ScriptAt w a n os) (hg : GlobOk w) :
    Calls Tryd.prog 5 #[.slice a n cap] w fun e w' => e = .returned (.int .i64 (-1)) ∧ Fr (fun _ => False) w w' := by
  have HSC : Hid (ScriptAt w a n os) := hs
  have HGL : Hid (GlobOk w) := hg
  have HG1 : Hid (Calls _ _ _ _ _) := ground_any w
  clear hs hg
  go_enter Tryd.func5, Tryd.ntmps5
  go_wp2_with fail
  refine HG1.out.mono ?_
  rintro e w1 ⟨bb, K1, rfl, hB1, hF1⟩
  have HB1 : Hid (BelRep _ w1 bb K1 _) := hB1
  have HF1 : Hid (Fr _ w w1) := hF1
  have HG2 : Hid (Calls _ _ _ _ _) := ground_any w1
  clear hB1 hF1 HG1
  go_wp2_with fail
  refine HG2.out.mono ?_
  rintro e w2 ⟨bc, K2, rfl, hB2, hF2⟩
  have B1 := HB1.out.newer hF2
  have c0 := B1.here.cell 0
  simp at c0
  have bl := B1.here.lt
  have HN : Hid (Calls _ _ _ _ _) := new_ok _ K1.bm K1.L ModD.empty w2 B1.mod (fun k hk => by have := hk.1.2; have := hF2.size; omega) ModGood.empty.ok ModGood.empty.bodies rfl
  have HB2 : Hid (BelRep _ w2 bc K2 _) := hB2
  have HB1' : Hid (BelRep _ w2 bb K1 _) := B1
  have HF2 : Hid (Fr _ w1 w2) := hF2
  clear hB2 hF2 B1 HG2 HB1
  go_wp2_with fail
  refine HN.out.mono ?_
  rintro e w3 ⟨hF3, bp0, Lp0, rfl, hP3⟩
  have z1 := HF1.out.size
  have z2 := HF2.out.size
  have z3 := hF3.size
  have KX0 : KX w w3 bp0 bb bc ModD.empty.prog BelD.ground BelD.ground (fun k => w2.heap.size ≤ k ∧ k < w3.heap.size) Lp0 _ K1 _ K2 := {
    prog := hP3.sub (fun k hk h => ⟨h, hk⟩)
    b := HB1'.out.newer hF3
    c := HB2.out.newer hF3
    rp := fun k hk => ⟨by omega, hk.2⟩
    rb := fun k hk => ⟨hk.1, by omega⟩
    rc := fun k hk => ⟨by omega, by omega⟩
    pb := fun k hk hk' => by omega
    pc := fun k hk hk' => by omega
    bc := fun k hk hk' => by omega
    fr := (HF1.out.trans HF2.out (fun _ _ h => h)).trans hF3 (fun _ _ h => h) }
  have pk0 : ProgOk ModD.empty.prog := prog_ok ModGood.empty rfl 0 (by decide) (by decide)
  have KS0 : KS w w3 bp0 bb bc ModD.empty.prog BelD.ground 0 := ⟨⟨_, _, _, _, _, _, KX0⟩, pk0, by decide, BelGood.ground⟩
  have HK0 : Hid (KS w w3 bp0 bb bc ModD.empty.prog BelD.ground 0) := KS0
  clear KX0 pk0 KS0 hP3 hF3 HN HB1' HB2 HF1 HF2 c0 bl z1 z2 z3
  go_wp2
  go_loopw [7, 5] (fun t u wr => ∃ (i bp : Nat) (p : ProgD) (X : BelD), i ≤ n ∧ t = .int .i64 i ∧ u = .pointer (some ⟨bp, 0, none⟩) ∧ (i : Int) ≤ 4398046511104 ∧ Hid (KS w wr bp bb bc p X i)) (fun t _ _ => n - (intOf t).toNat)
  case atStart => exact ⟨0, bp0, _, _, Nat.zero_le _, rfl, rfl, by omega, HK0⟩
  case round =>
    obtain ⟨i, bp, p, X, hi, rfl, rfl, hi42, G1⟩ := hrel
    by_cases hlt : i < n
    · by_cases h42 : (i : Int) < 4398046511104
      · obtain ⟨Sp, Lp, Sb, Kb, Sc, Kc, hK⟩ := G1.out.ex
        obtain ⟨b, o, ha, hbl, s0, s1, s2, s3, s4, s5⟩ := (HSC.out.fr hK.fr).at_ i hlt
        subst ha
        generalize os i = oi at *
        obtain ⟨kind, oa, ob, oc, oS, oT⟩ := oi
        simp only at s0 s1 s2 s3 s4 s5
        have hgood := G1.out.good
        have hr1 := hgood.m.ok.nr
        have hr2 := hgood.m.ok.np
        have hr3 := hgood.code
        obtain ⟨wB, hwB⟩ : ∃ wB, wB = wr := ⟨_, rfl⟩
        subst hwB
        have F8 : Fr (fun _ => False) wB (wB.alloc (.cells #[.int .i64 kind, .int .i64 oa, .int .i64 ob, .int .i64 oc, sv oS, sv oT] 39)) := (Fr.refl _ _).alloc _
        have hK1 := hK.fresh F8
        have k8 : Has (wB.alloc (.cells #[.int .i64 kind, .int .i64 oa, .int .i64 ob, .int .i64 oc, sv oS, sv oT] 39)) wB.heap.size _ _ := Has.new wB _ _
        have HBb : Hid (Calls _ _ _ _ _) := build_any Sb bb Kb X ⟨kind, oa, ob, oc, oS, oT⟩ _ hK1.b (by omega) (by omega)
        unfold OpD.val at HBb
        simp only at HBb
        have hn8 : ¬ Sb wB.heap.size ∧ ¬ Sc wB.heap.size ∧ ¬ Sp wB.heap.size := ⟨fun h => by have := (hK.rb _ h).2; omega, fun h => by have := (hK.rc _ h).2; omega, fun h => by have := (hK.rp _ h).2; omega⟩
        have hw0B : w.heap.size ≤ wB.heap.size := hK.fr.size
        have hbp : bp < wB.heap.size := (hK.rp bp hK.prog.own).2
        have HK1 : Hid (KX _ _ _ _ _ _ _ _ _ _ _ _ _ _) := hK1
        have H8 : Hid (Has _ wB.heap.size #[.int .i64 kind, .int .i64 oa, .int .i64 ob, .int .i64 oc, sv oS, sv oT] 39) := k8
        have HN8 : Hid (_ ∧ _ ∧ _) := hn8
        have HGD : Hid (BelGood X) := hgood
        have HOK : Hid (ProgOk p) := G1.out.ok
        have hst := G1.out.st
        have hst0 := G1.out.ok.s0
        have hb8 : wB.heap.size < wB.heap.size + 1 := by omega
        clear F8 hK hK1 k8 hn8 hgood hr1 hr2 hr3 G1
        go_wp2_with fail
        refine HBb.out.mono ?_
        intro e w4 hp4
        obtain ⟨Sb', Kb', hK4⟩ := HK1.out.bldB hp4
        have k84 := H8.out.fr hp4.2.2 HN8.out.1
        have zz4 := hp4.2.2.size
        obtain ⟨he4, _⟩ := hp4
        subst he4
        have d0 := k84.cell 0
        have d1 := k84.cell 1
        have d2 := k84.cell 2
        have d3 := k84.cell 3
        have d4 := k84.cell 4
        have d5 := k84.cell 5
        simp at d0 d1 d2 d3 d4 d5
        have l8 := k84.lt
        have HBc : Hid (Calls _ _ _ _ _) := build_any Sc bc Kc X ⟨kind, oa, ob, oc, oS, oT⟩ w4 hK4.c (by have := HGD.out.m.ok.nr; have := HGD.out.m.ok.np; omega) (by have := HGD.out.code; omega)
        unfold OpD.val at HBc
        simp only at HBc
        have HK4 : Hid (KX _ _ _ _ _ _ _ _ _ _ _ _ _ _) := hK4
        have H84 : Hid (Has w4 wB.heap.size #[.int .i64 kind, .int .i64 oa, .int .i64 ob, .int .i64 oc, sv oS, sv oT] 39) := k84
        clear hK4 k84 HBb HK1 H8 zz4
        go_wp2_with fail
        refine HBc.out.mono ?_
        intro e w5 hp5
        obtain ⟨Sc', Kc', hK5⟩ := HK4.out.bldC hp5
        have k85 := H84.out.fr hp5.2.2 HN8.out.2.1
        obtain ⟨he5, _⟩ := hp5
        subst he5
        obtain ⟨X', hX'⟩ : ∃ X', X' = (X.build ⟨kind, oa, ob, oc, oS, oT⟩).1 := ⟨_, rfl⟩
        rw [← hX'] at hK5
        have HGD' : Hid (BelGood X') := by show BelGood X'; rw [hX']; exact HGD.out.build _
        have HSt : Hid (Calls _ _ _ _ _) := steps_any Sp bp Lp p w5 hK5.prog
        have HK5 : Hid (KX w w5 bp bb bc p X' X' Sp Lp Sb' Kb' Sc' Kc') := hK5
        have H85 : Hid (Has w5 wB.heap.size #[.int .i64 kind, .int .i64 oa, .int .i64 ob, .int .i64 oc, sv oS, sv oT] 39) := k85
        clear hK5 k85 HBc HK4 H84 hX' d0 d1 d2 d3 d4 d5 l8 HGD
        go_wp2_with fail
        refine HSt.out.mono ?_
        rintro e w6 ⟨rfl, hw6⟩
        obtain rfl := hw6.symm
        clear hw6 HSt
        have F10 : Fr (fun _ => False) w5 (w5.alloc (.cells #[.int .i64 0, .int .i64 0, .int .i64 0, .string ⟨#[]⟩] 41)) := (Fr.refl _ _).alloc _
        have hK6 := HK5.out.fresh F10
        have k86 : Has (w5.alloc (.cells #[.int .i64 0, .int .i64 0, .int .i64 0, .string ⟨#[]⟩] 41)) wB.heap.size _ _ := H85.out.alloc _
        have k10 : Has (w5.alloc (.cells #[.int .i64 0, .int .i64 0, .int .i64 0, .string ⟨#[]⟩] 41)) w5.heap.size _ _ := Has.new w5 _ _
        have HB10 : Hid (∀ k, (Sp k ∨ Sb' k ∨ Sc' k) → k < w5.heap.size) := fun k hk => by
          rcases hk with hk | hk | hk
          · exact (HK5.out.rp k hk).2
          · exact (HK5.out.rb k hk).2
          · exact (HK5.out.rc k hk).2
        have hw05 : w.heap.size ≤ w5.heap.size := HK5.out.fr.size
        have HDo : Hid (Calls _ _ _ _ _) := do_any Sp bp Lp p bb ⟨kind, oa, ob, oc, oS, oT⟩ _ Sb' Kb' X' hK6.prog (fun k hk => (hK6.rp k hk).2) HOK.out (HGL.out.fr hK6.fr (fun h => h)) hK6.b (fun k hk => (hK6.rb k hk).2) HGD'.out.m
        unfold OpD.val at HDo
        simp only at HDo
        have d0 := H85.out.cell 0
        have d1 := H85.out.cell 1
        have d2 := H85.out.cell 2
        have d3 := H85.out.cell 3
        have d4 := H85.out.cell 4
        have d5 := H85.out.cell 5
        simp at d0 d1 d2 d3 d4 d5
        have l8 := H85.out.lt
        have l81 : wB.heap.size < w5.heap.size + 1 := by omega
        have lne : wB.heap.size ≠ w5.heap.size := by omega
        have HK6 : Hid (KX w _ bp bb bc p X' X' Sp Lp Sb' Kb' Sc' Kc') := hK6
        have H86 : Hid (Has _ wB.heap.size #[.int .i64 kind, .int .i64 oa, .int .i64 ob, .int .i64 oc, sv oS, sv oT] 39) := k86
        have H10 : Hid (Has _ w5.heap.size #[.int .i64 0, .int .i64 0, .int .i64 0, .string ⟨#[]⟩] 41) := k10
        clear F10 hK6 k86 k10 HK5 H85
        go_wp2_with fail
        refine HDo.out.mono ?_
        intro e w7 hp7
        by_cases q8 : kind = 8
        · skip
          subst q8
          have e0 : doP p X'.m ⟨8, oa, ob, oc, oS, oT⟩ = (p, ⟨7, 0, 0, []⟩) := by unfold doP; simp
          rw [e0] at hp7
          clear e0
          have F7 := hp7.fr
          obtain ⟨bp', Lp', Sp', he7, hK7, hSp7⟩ := HK6.out.doo hp7
          subst he7
          simp only at hK7
          unfold AnsD.val
          simp only [AnsD.zero]
          have k87 : Has w7 wB.heap.size _ _ := H86.out.fr F7 (fun e => by omega)
          have k107 : Has w7 w5.heap.size _ _ := H10.out.fr F7 (fun e => by omega)
          have dd := k87.cell 0
          simp at dd
          have x0 := k107.cell 0
          have x1 := k107.cell 1
          have x2 := k107.cell 2
          have x3 := k107.cell 3
          simp at x0 x1 x2 x3
          have y0 := k107.frozen 0
          have y1 := k107.frozen 1
          have y2 := k107.frozen 2
          have y3 := k107.frozen 3
          have yl := k107.lt
          have yl8 := k87.lt
          obtain ⟨g1, g2⟩ := k107.put4 (.int .i64 7) (.int .i64 0) (.int .i64 0) (.string ⟨#[]⟩)
          have hK8 := hK7.other g2 hw05 (fun h => by
              rcases hSp7 _ h with h | h
              · have := HB10.out _ (.inl h); omega
              · simp at h; omega) (fun h => by have := HB10.out _ (.inr (.inl h)); omega) (fun h => by have := HB10.out _ (.inr (.inr h)); omega)
          have HK8 : Hid (KX w _ bp' bb bc p X' X' Sp' Lp' Sb' Kb' Sc' Kc') := hK8
          have H108 : Hid (Has _ w5.heap.size #[.int .i64 7, .int .i64 0, .int .i64 0, .string ⟨#[]⟩] 41) := g1
          have HSt2 : Hid (Calls _ _ _ _ _) := steps_any Sp' bp' Lp' _ _ hK8.prog
          (try simp only at HSt2)
          clear F7 hp7 hK7 hSp7 k87 k107 g1 g2 hK8 HK6 H86 H10 HDo d0 d1 d2 d3 d4 d5 l8 l81
          go_wp2_with fail
          refine HSt2.out.mono ?_
          rintro e w9 ⟨rfl, hw9⟩
          subst hw9
          clear HSt2
          go_wp2
          go_roundw
          case rel => exact ⟨i + 1, bp', p, X', by omega, by go_num, rfl, by omega, ⟨⟨_, _, _, _, _, _, HK8.out⟩, HOK.out, by omega, HGD'.out⟩⟩
          case measure => simp [intOf]; omega
        by_cases q13 : kind = 13
        · skip
          subst q13
          have e0 : doP p X'.m ⟨13, oa, ob, oc, oS, oT⟩ = ({ p with steps := p.steps + 1 }, ⟨0, 0, 0, flatT (p.at oa ob)⟩) := by unfold doP; simp
          rw [e0] at hp7
          clear e0
          generalize flatT (p.at oa ob) = TX at *
          have F7 := hp7.fr
          obtain ⟨bp', Lp', Sp', he7, hK7, hSp7⟩ := HK6.out.doo hp7
          subst he7
          simp only at hK7
          unfold AnsD.val
          simp only [AnsD.zero]
          have k87 : Has w7 wB.heap.size _ _ := H86.out.fr F7 (fun e => by omega)
          have k107 : Has w7 w5.heap.size _ _ := H10.out.fr F7 (fun e => by omega)
          have dd := k87.cell 0
          simp at dd
          have x0 := k107.cell 0
          have x1 := k107.cell 1
          have x2 := k107.cell 2
          have x3 := k107.cell 3
          simp at x0 x1 x2 x3
          have y0 := k107.frozen 0
          have y1 := k107.frozen 1
          have y2 := k107.frozen 2
          have y3 := k107.frozen 3
          have yl := k107.lt
          have yl8 := k87.lt
          obtain ⟨g1, g2⟩ := k107.put4 (.int .i64 0) (.int .i64 0) (.int .i64 0) (sv TX)
          have hK8 := hK7.other g2 hw05 (fun h => by
              rcases hSp7 _ h with h | h
              · have := HB10.out _ (.inl h); omega
              · simp at h; omega) (fun h => by have := HB10.out _ (.inr (.inl h)); omega) (fun h => by have := HB10.out _ (.inr (.inr h)); omega)
          have HK8 : Hid (KX w _ bp' bb bc { p with steps := p.steps + 1 } X' X' Sp' Lp' Sb' Kb' Sc' Kc') := hK8
          have H108 : Hid (Has _ w5.heap.size #[.int .i64 0, .int .i64 0, .int .i64 0, sv TX] 41) := g1
          have HSt2 : Hid (Calls _ _ _ _ _) := steps_any Sp' bp' Lp' _ _ hK8.prog
          (try simp only at HSt2)
          clear F7 hp7 hK7 hSp7 k87 k107 g1 g2 hK8 HK6 H86 H10 HDo d0 d1 d2 d3 d4 d5 l8 l81
          go_wp2_with fail
          refine HSt2.out.mono ?_
          rintro e w9 ⟨rfl, hw9⟩
          subst hw9
          clear HSt2
          go_wp2
          go_roundw
          case rel => exact ⟨i + 1, bp', { p with steps := p.steps + 1 }, X', by omega, by go_num, rfl, by omega, ⟨⟨_, _, _, _, _, _, HK8.out⟩, HOK.out.steps _ (by omega) (by omega), by show p.steps + 1 ≤ _; omega, HGD'.out⟩⟩
          case measure => simp [intOf]; omega
        by_cases q15 : kind = 15
        · skip
          subst q15
          have e0 : doP p X'.m ⟨15, oa, ob, oc, oS, oT⟩ = ({ p with steps := 0 }, AnsD.zero) := by unfold doP; simp
          rw [e0] at hp7
          clear e0
          have F7 := hp7.fr
          obtain ⟨bp', Lp', Sp', he7, hK7, hSp7⟩ := HK6.out.doo hp7
          subst he7
          simp only at hK7
          unfold AnsD.val
          simp only [AnsD.zero]
          have k87 : Has w7 wB.heap.size _ _ := H86.out.fr F7 (fun e => by omega)
          have k107 : Has w7 w5.heap.size _ _ := H10.out.fr F7 (fun e => by omega)
          have dd := k87.cell 0
          simp at dd
          have x0 := k107.cell 0
          have x1 := k107.cell 1
          have x2 := k107.cell 2
          have x3 := k107.cell 3
          simp at x0 x1 x2 x3
          have y0 := k107.frozen 0
          have y1 := k107.frozen 1
          have y2 := k107.frozen 2
          have y3 := k107.frozen 3
          have yl := k107.lt
          have yl8 := k87.lt
          obtain ⟨g1, g2⟩ := k107.put4 (.int .i64 0) (.int .i64 0) (.int .i64 0) (.string ⟨#[]⟩)
          have hK8 := hK7.other g2 hw05 (fun h => by
              rcases hSp7 _ h with h | h
              · have := HB10.out _ (.inl h); omega
              · simp at h; omega) (fun h => by have := HB10.out _ (.inr (.inl h)); omega) (fun h => by have := HB10.out _ (.inr (.inr h)); omega)
          have HK8 : Hid (KX w _ bp' bb bc { p with steps := 0 } X' X' Sp' Lp' Sb' Kb' Sc' Kc') := hK8
          have H108 : Hid (Has _ w5.heap.size #[.int .i64 0, .int .i64 0, .int .i64 0, .string ⟨#[]⟩] 41) := g1
          have HSt2 : Hid (Calls _ _ _ _ _) := steps_any Sp' bp' Lp' _ _ hK8.prog
          (try simp only at HSt2)
          clear F7 hp7 hK7 hSp7 k87 k107 g1 g2 hK8 HK6 H86 H10 HDo d0 d1 d2 d3 d4 d5 l8 l81
          go_wp2_with fail
          refine HSt2.out.mono ?_
          rintro e w9 ⟨rfl, hw9⟩
          subst hw9
          clear HSt2
          go_wp2
          go_roundw
          case rel => exact ⟨i + 1, bp', { p with steps := 0 }, X', by omega, by go_num, rfl, by omega, ⟨⟨_, _, _, _, _, _, HK8.out⟩, HOK.out.steps _ (by omega) (by omega), by show (0 : Int) ≤ _; omega, HGD'.out⟩⟩
          case measure => simp [intOf]; omega
        by_cases q7 : kind = 7
        · subst q7
          have hdl := HGD'.out.m.due
          by_cases hz : X'.m.load.2.2 = 0
          · have e0 : doP p X'.m ⟨7, oa, ob, oc, oS, oT⟩ = (X'.m.prog, AnsD.zero) := by unfold doP; simp [hz]
            rw [e0] at hp7
            rw [load_zero hz HGD'.out.m] at hdl
            have HDV : Hid (X'.m.due.2 = true → X'.m.due.1 = ((0 : Int), (0 : Int), (0 : Int))) := hdl
            clear e0 hdl
            have F7 := hp7.fr
            obtain ⟨bp', Lp', Sp', he7, hK7, hSp7⟩ := HK6.out.doo hp7
            subst he7
            simp only at hK7
            unfold AnsD.val
            simp only [AnsD.zero]
            have k87 : Has w7 wB.heap.size _ _ := H86.out.fr F7 (fun e => by omega)
            have k107 : Has w7 w5.heap.size _ _ := H10.out.fr F7 (fun e => by omega)
            have dd := k87.cell 0
            simp at dd
            have x0 := k107.cell 0
            have x1 := k107.cell 1
            have x2 := k107.cell 2
            have x3 := k107.cell 3
            simp at x0 x1 x2 x3
            have y0 := k107.frozen 0
            have y1 := k107.frozen 1
            have y2 := k107.frozen 2
            have y3 := k107.frozen 3
            have yl := k107.lt
            have yl8 := k87.lt
            obtain ⟨g1, g2⟩ := k107.put4 (.int .i64 0) (.int .i64 0) (.int .i64 0) (.string ⟨#[]⟩)
            have hK8 := hK7.other g2 hw05 (fun h => by
                rcases hSp7 _ h with h | h
                · have := HB10.out _ (.inl h); omega
                · simp at h; omega) (fun h => by have := HB10.out _ (.inr (.inl h)); omega) (fun h => by have := HB10.out _ (.inr (.inr h)); omega)
            have HK8 : Hid (KX w _ bp' bb bc X'.m.prog X' X' Sp' Lp' Sb' Kb' Sc' Kc') := hK8
            have H108 : Hid (Has _ w5.heap.size #[.int .i64 0, .int .i64 0, .int .i64 0, .string ⟨#[]⟩] 41) := g1
            have HDue : Hid (Calls _ _ _ _ _) := due_any Sc' bc Kc' X' _ hK8.c HGD'.out.m
            have hne10 : bp' ≠ w5.heap.size := fun e => by
                rcases hSp7 bp' hK7.prog.own with h | h
                · have := HB10.out _ (.inl h); omega
                · simp at h; omega
            clear F7 hp7 hK7 hSp7 k87 k107 g1 g2 hK8 HK6 H86 H10 HDo d0 d1 d2 d3 d4 d5 l8 l81
            go_wp2_with fail
            refine HDue.out.mono ?_
            intro e w9 hd9
            obtain ⟨he9, hF9⟩ := hd9
            subst he9
            generalize X'.m.due = dv at *
            obtain ⟨⟨de, dn, dm⟩, db⟩ := dv
            simp only at HDV ⊢
            have hK9 := HK8.out.fresh hF9
            have k109 : Has w9 w5.heap.size _ _ := H108.out.fr hF9 (fun h => h)
            have hK10 := hK9.fresh ((Fr.refl _ w9).alloc (.cells #[.int .i64 de, .int .i64 dn, .int .i64 dm, .string ⟨#[]⟩] 41))
            have c0 := hK9.c.here.cell 0
            simp at c0
            have cl := hK9.c.here.lt
            have cl1 : bc < w9.heap.size + 1 := by omega
            have cne : bc ≠ w9.heap.size := by omega
            have u0 := k109.cell 0
            have u1 := k109.cell 1
            have u2 := k109.cell 2
            have u3 := k109.cell 3
            simp at u0 u1 u2 u3
            have ul := k109.lt
            have ul1 : w5.heap.size < w9.heap.size + 1 := by omega
            have une : w5.heap.size ≠ w9.heap.size := by omega
            have HNc : Hid (Calls _ _ _ _ _) := nimports_any _ Kc'.bm Kc'.L X'.m _ hK10.c.mod
            have HNx : Hid (Calls _ _ _ _ _) := pnimports_any Sp' bp' Lp' _ _ hK10.prog
            have HSt2 : Hid (Calls _ _ _ _ _) := steps_any Sp' bp' Lp' _ _ hK10.prog
            have HK10 : Hid (KX w _ bp' bb bc X'.m.prog X' X' Sp' Lp' Sb' Kb' Sc' Kc') := hK10
            have H1010 : Hid (Has (w9.alloc (.cells #[.int .i64 de, .int .i64 dn, .int .i64 dm, .string ⟨#[]⟩] 41)) w5.heap.size #[.int .i64 0, .int .i64 0, .int .i64 0, .string ⟨#[]⟩] 41) := k109.alloc _
            clear hF9 hK9 hK10 k109 HK8 H108 HDue
            cases db with
            | true =>
              have hdv := HDV.out rfl
              simp only [Prod.mk.injEq] at hdv
              obtain ⟨hv1, hv2, hv3⟩ := hdv
              subst hv1
              subst hv2
              subst hv3
              clear HDV
              go_wp2_with fail
              refine HNc.out.mono ?_
              rintro e w11 ⟨rfl, hw11⟩
              subst hw11
              clear HNc
              go_wp2_with fail
              refine HNx.out.mono ?_
              rintro e w12 ⟨rfl, hw12⟩
              subst hw12
              clear HNx HSt2
              have hpn : X'.m.prog.nimp = (X'.m.imports.length : Int) := rfl
              rw [hpn]
              obtain ⟨ni, hni⟩ : ∃ ni, X'.m.imports.length = ni := ⟨_, rfl⟩
              have HNI : Hid (X'.m.imports.length = ni) := hni
              have hni2 : ni ≤ 2 := by rw [← hni]; exact HGD'.out.m.ok.ni
              rw [hni]
              have HZ : Hid (X'.m.load.2.2 = 0) := hz
              have HB42 : Hid (Lt42 i) := ⟨h42⟩
              have HST0 : Hid (p.steps ≤ 1000 + i) := hst
              clear hni hpn c0 cl cl1 cne u0 u1 u2 u3 ul ul1 une
              go_wp2
              clear hz h42 hi42 hst hst0 s0 s1 s2 s3 s4 s5 hbl dd x0 x1 x2 x3 y0 y1 y2 y3 yl yl8 hb8 HN8 hbp HOK HB10 q8 q13 q15 lne hw05 hw0B HSC HGL HST0
              go_loopw [14] (fun t wr => ∃ (f st : Nat), f ≤ 4 ∧ t = .int .i64 f ∧ Hid (st ≤ 200 * f) ∧ Hid (KX w wr bp' bb bc (X'.m.progAt st) X' X' Sp' Lp' Sb' Kb' Sc' Kc') ∧ Hid (Has wr w5.heap.size #[.int .i64 0, .int .i64 0, .int .i64 0, .string ⟨#[]⟩] 41)) (fun t _ => 4 - (intOf t).toNat)
              case atStart => exact ⟨0, 0, by omega, rfl, Nat.le_refl _, HK10, H1010⟩
              case round =>
                obtain ⟨f, st, hf4, rfl, hst2, GK, GA⟩ := hrel
                have u0 := GA.out.cell 0
                simp at u0
                by_cases hfl : f < 4
                · have hst2' := hst2.out
                  have hpk : ProgOk (X'.m.progAt st) := prog_ok HGD'.out.m HZ.out st (by omega) (by omega)
                  have ctx : ShapeCtx Sp' Sc' wr bp' bc Lp' (X'.m.progAt st) Kc' X' := ⟨GK.out.prog, GK.out.c, fun k hk => (GK.out.rp k hk).2, GK.out.pc bp' GK.out.prog.own, HGD'.out.m, hpk.s0, by show (st : Int) ≤ 1000000; omega, (hpk.cl GK.out.prog).1, (hpk.cl GK.out.prog).2⟩
                  have HSh : Hid (Calls _ _ _ _ _) := shape_any Sp' Sc' bp' bc Lp' _ Kc' X' wr f _ _ _ ctx (shape_ok HGD'.out.m HZ.out st f)
                  rw [HNI.out] at HSh
                  obtain ⟨wC, hwC⟩ : ∃ wC, wC = wr := ⟨_, rfl⟩
                  subst hwC
                  clear ctx hpk hst2'
                  go_wp2_with fail
                  refine HSh.out.mono ?_
                  rintro e w13 ⟨rfl, pcn, hpcn, hSS⟩
                  have N1 := GK.out.shaped hSS
                  rw [progAt_add] at N1
                  have N2 : Has w13 w5.heap.size _ _ := GA.out.fr hSS.fr (fun e => hne10 e.symm)
                  have HN1 : Hid (KX w w13 bp' bb bc (X'.m.progAt (st + pcn)) X' X' Sp' Lp' Sb' Kb' Sc' Kc') := N1
                  have HN2 : Hid (Has w13 w5.heap.size #[.int .i64 0, .int .i64 0, .int .i64 0, .string ⟨#[]⟩] 41) := N2
                  clear N1 N2 hSS HSh GK GA u0
                  go_wp2
                  go_roundw
                  case rel => exact ⟨f + 1, st + pcn, by omega, by go_num, by show st + pcn ≤ 200 * (f + 1); have := hst2.out; omega, HN1, HN2⟩
                  case measure => simp [intOf]; omega
                · have HSt3 : Hid (Calls _ _ _ _ _) := steps_any Sp' bp' Lp' _ wr GK.out.prog
                  rw [progAt_steps] at HSt3
                  obtain ⟨wC, hwC⟩ : ∃ wC, wC = wr := ⟨_, rfl⟩
                  subst hwC
                  go_wp2_with fail
                  refine HSt3.out.mono ?_
                  rintro e w14 ⟨rfl, hw14⟩
                  obtain rfl := hw14.symm
                  clear hw14
                  go_wp2_with fail
                  refine HSt3.out.mono ?_
                  rintro e w14 ⟨rfl, hw14⟩
                  obtain rfl := hw14.symm
                  clear hw14 HSt3
                  have hwi := HB42.out.wrap
                  have hin : i + 1 ≤ n := hlt
                  have hwk : IntKind.i64.wrap ((i : Int) + 1) = (i : Int) + 1 := HB42.out.wrapK
                  go_wp2
                  go_roundw
                  case rel =>
                    (try simp only [hwi, hwk])
                    clear hwi hwk
                    exact ⟨i + 1, bp', (X'.m.progAt st), X', hin, by go_num, rfl, HB42.out.next, ⟨⟨_, _, _, _, _, _, GK.out⟩, prog_ok HGD'.out.m HZ.out st (by omega) (by have := hst2.out; omega), by show (st : Int) ≤ _; have := hst2.out; omega, HGD'.out⟩⟩
                  case measure =>
                    (try simp only [hwi, hwk])
                    clear hwi hwk
                    simp [intOf]; omega
            | false =>
              clear HDV
              go_wp2_with fail
              refine HNc.out.mono ?_
              rintro e w11 ⟨rfl, hw11⟩
              subst hw11
              clear HNc
              go_wp2_with fail
              refine HNx.out.mono ?_
              rintro e w12 ⟨rfl, hw12⟩
              subst hw12
              clear HNx HSt2
              have hpn : X'.m.prog.nimp = (X'.m.imports.length : Int) := rfl
              rw [hpn]
              obtain ⟨ni, hni⟩ : ∃ ni, X'.m.imports.length = ni := ⟨_, rfl⟩
              have HNI : Hid (X'.m.imports.length = ni) := hni
              have hni2 : ni ≤ 2 := by rw [← hni]; exact HGD'.out.m.ok.ni
              rw [hni]
              have HZ : Hid (X'.m.load.2.2 = 0) := hz
              have HB42 : Hid (Lt42 i) := ⟨h42⟩
              have HST0 : Hid (p.steps ≤ 1000 + i) := hst
              clear hni hpn c0 cl cl1 cne u0 u1 u2 u3 ul ul1 une
              go_wp2
              clear hz h42 hi42 hst hst0 s0 s1 s2 s3 s4 s5 hbl dd x0 x1 x2 x3 y0 y1 y2 y3 yl yl8 hb8 HN8 hbp HOK HB10 q8 q13 q15 lne hw05 hw0B HSC HGL HST0
              go_loopw [14] (fun t wr => ∃ (f st : Nat), f ≤ 4 ∧ t = .int .i64 f ∧ Hid (st ≤ 200 * f) ∧ Hid (KX w wr bp' bb bc (X'.m.progAt st) X' X' Sp' Lp' Sb' Kb' Sc' Kc') ∧ Hid (Has wr w5.heap.size #[.int .i64 0, .int .i64 0, .int .i64 0, .string ⟨#[]⟩] 41)) (fun t _ => 4 - (intOf t).toNat)
              case atStart => exact ⟨0, 0, by omega, rfl, Nat.le_refl _, HK10, H1010⟩
              case round =>
                obtain ⟨f, st, hf4, rfl, hst2, GK, GA⟩ := hrel
                have u0 := GA.out.cell 0
                simp at u0
                by_cases hfl : f < 4
                · have hst2' := hst2.out
                  have hpk : ProgOk (X'.m.progAt st) := prog_ok HGD'.out.m HZ.out st (by omega) (by omega)
                  have ctx : ShapeCtx Sp' Sc' wr bp' bc Lp' (X'.m.progAt st) Kc' X' := ⟨GK.out.prog, GK.out.c, fun k hk => (GK.out.rp k hk).2, GK.out.pc bp' GK.out.prog.own, HGD'.out.m, hpk.s0, by show (st : Int) ≤ 1000000; omega, (hpk.cl GK.out.prog).1, (hpk.cl GK.out.prog).2⟩
                  have HSh : Hid (Calls _ _ _ _ _) := shape_any Sp' Sc' bp' bc Lp' _ Kc' X' wr f _ _ _ ctx (shape_ok HGD'.out.m HZ.out st f)
                  rw [HNI.out] at HSh
                  obtain ⟨wC, hwC⟩ : ∃ wC, wC = wr := ⟨_, rfl⟩
                  subst hwC
                  clear ctx hpk hst2'
                  go_wp2_with fail
                  refine HSh.out.mono ?_
                  rintro e w13 ⟨rfl, pcn, hpcn, hSS⟩
                  have N1 := GK.out.shaped hSS
                  rw [progAt_add] at N1
                  have N2 : Has w13 w5.heap.size _ _ := GA.out.fr hSS.fr (fun e => hne10 e.symm)
                  have HN1 : Hid (KX w w13 bp' bb bc (X'.m.progAt (st + pcn)) X' X' Sp' Lp' Sb' Kb' Sc' Kc') := N1
                  have HN2 : Hid (Has w13 w5.heap.size #[.int .i64 0, .int .i64 0, .int .i64 0, .string ⟨#[]⟩] 41) := N2
                  clear N1 N2 hSS HSh GK GA u0
                  go_wp2
                  go_roundw
                  case rel => exact ⟨f + 1, st + pcn, by omega, by go_num, by show st + pcn ≤ 200 * (f + 1); have := hst2.out; omega, HN1, HN2⟩
                  case measure => simp [intOf]; omega
                · have HSt3 : Hid (Calls _ _ _ _ _) := steps_any Sp' bp' Lp' _ wr GK.out.prog
                  rw [progAt_steps] at HSt3
                  obtain ⟨wC, hwC⟩ : ∃ wC, wC = wr := ⟨_, rfl⟩
                  subst hwC
                  go_wp2_with fail
                  refine HSt3.out.mono ?_
                  rintro e w14 ⟨rfl, hw14⟩
                  obtain rfl := hw14.symm
                  clear hw14
                  go_wp2_with fail
                  refine HSt3.out.mono ?_
                  rintro e w14 ⟨rfl, hw14⟩
                  obtain rfl := hw14.symm
                  clear hw14 HSt3
                  have hwi := HB42.out.wrap
                  have hin : i + 1 ≤ n := hlt
                  have hwk : IntKind.i64.wrap ((i : Int) + 1) = (i : Int) + 1 := HB42.out.wrapK
                  go_wp2
                  go_roundw
                  case rel =>
                    (try simp only [hwi, hwk])
                    clear hwi hwk
                    exact ⟨i + 1, bp', (X'.m.progAt st), X', hin, by go_num, rfl, HB42.out.next, ⟨⟨_, _, _, _, _, _, GK.out⟩, prog_ok HGD'.out.m HZ.out st (by omega) (by have := hst2.out; omega), by show (st : Int) ≤ _; have := hst2.out; omega, HGD'.out⟩⟩
                  case measure =>
                    (try simp only [hwi, hwk])
                    clear hwi hwk
                    simp [intOf]; omega
          · have e0 : doP p X'.m ⟨7, oa, ob, oc, oS, oT⟩ = (p, ⟨X'.m.load.2.2, X'.m.load.1, X'.m.load.2.1, []⟩) := by unfold doP; simp [hz]
            rw [e0] at hp7
            have hcd := HGD'.out.m.load_codes
            generalize X'.m.load = q at *
            obtain ⟨qf, qa, qe⟩ := q
            simp only at hp7 hdl hcd hz
            have hc56 : qe = 5 ∨ qe = 6 := by
              rcases hcd with h | h | h
              · exact absurd h hz
              · exact .inl h
              · exact .inr h
            have HDV : Hid (X'.m.due.2 = true → X'.m.due.1 = (qe, qf, qa)) := hdl
            clear e0 hdl hcd hz
            rcases hc56 with rfl | rfl
            · skip
              have F7 := hp7.fr
              obtain ⟨bp', Lp', Sp', he7, hK7, hSp7⟩ := HK6.out.doo hp7
              subst he7
              simp only at hK7
              unfold AnsD.val
              simp only [AnsD.zero]
              have k87 : Has w7 wB.heap.size _ _ := H86.out.fr F7 (fun e => by omega)
              have k107 : Has w7 w5.heap.size _ _ := H10.out.fr F7 (fun e => by omega)
              have dd := k87.cell 0
              simp at dd
              have x0 := k107.cell 0
              have x1 := k107.cell 1
              have x2 := k107.cell 2
              have x3 := k107.cell 3
              simp at x0 x1 x2 x3
              have y0 := k107.frozen 0
              have y1 := k107.frozen 1
              have y2 := k107.frozen 2
              have y3 := k107.frozen 3
              have yl := k107.lt
              have yl8 := k87.lt
              obtain ⟨g1, g2⟩ := k107.put4 (.int .i64 5) (.int .i64 qf) (.int .i64 qa) (.string ⟨#[]⟩)
              have hK8 := hK7.other g2 hw05 (fun h => by
                  rcases hSp7 _ h with h | h
                  · have := HB10.out _ (.inl h); omega
                  · simp at h; omega) (fun h => by have := HB10.out _ (.inr (.inl h)); omega) (fun h => by have := HB10.out _ (.inr (.inr h)); omega)
              have HK8 : Hid (KX w _ bp' bb bc p X' X' Sp' Lp' Sb' Kb' Sc' Kc') := hK8
              have H108 : Hid (Has _ w5.heap.size #[.int .i64 5, .int .i64 qf, .int .i64 qa, .string ⟨#[]⟩] 41) := g1
              have HDue : Hid (Calls _ _ _ _ _) := due_any Sc' bc Kc' X' _ hK8.c HGD'.out.m
              clear F7 hp7 hK7 hSp7 k87 k107 g1 g2 hK8 HK6 H86 H10 HDo d0 d1 d2 d3 d4 d5 l8 l81
              go_wp2_with fail
              refine HDue.out.mono ?_
              intro e w9 hd9
              obtain ⟨he9, hF9⟩ := hd9
              subst he9
              generalize X'.m.due = dv at *
              obtain ⟨⟨de, dn, dm⟩, db⟩ := dv
              simp only at HDV ⊢
              have hK9 := HK8.out.fresh hF9
              have k109 : Has w9 w5.heap.size _ _ := H108.out.fr hF9 (fun h => h)
              have hK10 := hK9.fresh ((Fr.refl _ w9).alloc (.cells #[.int .i64 de, .int .i64 dn, .int .i64 dm, .string ⟨#[]⟩] 41))
              have c0 := hK9.c.here.cell 0
              simp at c0
              have cl := hK9.c.here.lt
              have cl1 : bc < w9.heap.size + 1 := by omega
              have cne : bc ≠ w9.heap.size := by omega
              have u0 := k109.cell 0
              have u1 := k109.cell 1
              have u2 := k109.cell 2
              have u3 := k109.cell 3
              simp at u0 u1 u2 u3
              have ul := k109.lt
              have ul1 : w5.heap.size < w9.heap.size + 1 := by omega
              have une : w5.heap.size ≠ w9.heap.size := by omega
              have HNc : Hid (Calls _ _ _ _ _) := nimports_any _ Kc'.bm Kc'.L X'.m _ hK10.c.mod
              have HNx : Hid (Calls _ _ _ _ _) := pnimports_any Sp' bp' Lp' _ _ hK10.prog
              have HSt2 : Hid (Calls _ _ _ _ _) := steps_any Sp' bp' Lp' _ _ hK10.prog
              have HK10 : Hid (KX w _ bp' bb bc p X' X' Sp' Lp' Sb' Kb' Sc' Kc') := hK10
              have H1010 : Hid (Has (w9.alloc (.cells #[.int .i64 de, .int .i64 dn, .int .i64 dm, .string ⟨#[]⟩] 41)) w5.heap.size #[.int .i64 5, .int .i64 qf, .int .i64 qa, .string ⟨#[]⟩] 41) := k109.alloc _
              clear hF9 hK9 hK10 k109 HK8 H108 HDue
              cases db with
              | true =>
                have hdv := HDV.out rfl
                simp only [Prod.mk.injEq] at hdv
                obtain ⟨hv1, hv2, hv3⟩ := hdv
                subst hv1
                subst hv2
                subst hv3
                clear HDV
                go_wp2_with fail
                refine HNc.out.mono ?_
                rintro e w11 ⟨rfl, hw11⟩
                subst hw11
                clear HNc HNx
                go_wp2
                refine wp_loop_rounds 1 ?_
                rw [rounds_succ]
                go_wp2_with fail
                refine HSt2.out.mono ?_
                rintro e w12 ⟨rfl, hw12⟩
                subst hw12
                clear HSt2
                go_wp2
                go_roundw
                case rel => exact ⟨i + 1, bp', p, X', by omega, by go_num, rfl, by omega, ⟨⟨_, _, _, _, _, _, HK10.out⟩, HOK.out, by omega, HGD'.out⟩⟩
                case measure => simp [intOf]; omega
              | false =>
                clear HDV
                go_wp2_with fail
                refine HNc.out.mono ?_
                rintro e w11 ⟨rfl, hw11⟩
                subst hw11
                clear HNc HNx
                go_wp2
                refine wp_loop_rounds 1 ?_
                rw [rounds_succ]
                go_wp2_with fail
                refine HSt2.out.mono ?_
                rintro e w12 ⟨rfl, hw12⟩
                subst hw12
                clear HSt2
                go_wp2
                go_roundw
                case rel => exact ⟨i + 1, bp', p, X', by omega, by go_num, rfl, by omega, ⟨⟨_, _, _, _, _, _, HK10.out⟩, HOK.out, by omega, HGD'.out⟩⟩
                case measure => simp [intOf]; omega
            · skip
              have F7 := hp7.fr
              obtain ⟨bp', Lp', Sp', he7, hK7, hSp7⟩ := HK6.out.doo hp7
              subst he7
              simp only at hK7
              unfold AnsD.val
              simp only [AnsD.zero]
              have k87 : Has w7 wB.heap.size _ _ := H86.out.fr F7 (fun e => by omega)
              have k107 : Has w7 w5.heap.size _ _ := H10.out.fr F7 (fun e => by omega)
              have dd := k87.cell 0
              simp at dd
              have x0 := k107.cell 0
              have x1 := k107.cell 1
              have x2 := k107.cell 2
              have x3 := k107.cell 3
              simp at x0 x1 x2 x3
              have y0 := k107.frozen 0
              have y1 := k107.frozen 1
              have y2 := k107.frozen 2
              have y3 := k107.frozen 3
              have yl := k107.lt
              have yl8 := k87.lt
              obtain ⟨g1, g2⟩ := k107.put4 (.int .i64 6) (.int .i64 qf) (.int .i64 qa) (.string ⟨#[]⟩)
              have hK8 := hK7.other g2 hw05 (fun h => by
                  rcases hSp7 _ h with h | h
                  · have := HB10.out _ (.inl h); omega
                  · simp at h; omega) (fun h => by have := HB10.out _ (.inr (.inl h)); omega) (fun h => by have := HB10.out _ (.inr (.inr h)); omega)
              have HK8 : Hid (KX w _ bp' bb bc p X' X' Sp' Lp' Sb' Kb' Sc' Kc') := hK8
              have H108 : Hid (Has _ w5.heap.size #[.int .i64 6, .int .i64 qf, .int .i64 qa, .string ⟨#[]⟩] 41) := g1
              have HDue : Hid (Calls _ _ _ _ _) := due_any Sc' bc Kc' X' _ hK8.c HGD'.out.m
              clear F7 hp7 hK7 hSp7 k87 k107 g1 g2 hK8 HK6 H86 H10 HDo d0 d1 d2 d3 d4 d5 l8 l81
              go_wp2_with fail
              refine HDue.out.mono ?_
              intro e w9 hd9
              obtain ⟨he9, hF9⟩ := hd9
              subst he9
              generalize X'.m.due = dv at *
              obtain ⟨⟨de, dn, dm⟩, db⟩ := dv
              simp only at HDV ⊢
              have hK9 := HK8.out.fresh hF9
              have k109 : Has w9 w5.heap.size _ _ := H108.out.fr hF9 (fun h => h)
              have hK10 := hK9.fresh ((Fr.refl _ w9).alloc (.cells #[.int .i64 de, .int .i64 dn, .int .i64 dm, .string ⟨#[]⟩] 41))
              have c0 := hK9.c.here.cell 0
              simp at c0
              have cl := hK9.c.here.lt
              have cl1 : bc < w9.heap.size + 1 := by omega
              have cne : bc ≠ w9.heap.size := by omega
              have u0 := k109.cell 0
              have u1 := k109.cell 1
              have u2 := k109.cell 2
              have u3 := k109.cell 3
              simp at u0 u1 u2 u3
              have ul := k109.lt
              have ul1 : w5.heap.size < w9.heap.size + 1 := by omega
              have une : w5.heap.size ≠ w9.heap.size := by omega
              have HNc : Hid (Calls _ _ _ _ _) := nimports_any _ Kc'.bm Kc'.L X'.m _ hK10.c.mod
              have HNx : Hid (Calls _ _ _ _ _) := pnimports_any Sp' bp' Lp' _ _ hK10.prog
              have HSt2 : Hid (Calls _ _ _ _ _) := steps_any Sp' bp' Lp' _ _ hK10.prog
              have HK10 : Hid (KX w _ bp' bb bc p X' X' Sp' Lp' Sb' Kb' Sc' Kc') := hK10
              have H1010 : Hid (Has (w9.alloc (.cells #[.int .i64 de, .int .i64 dn, .int .i64 dm, .string ⟨#[]⟩] 41)) w5.heap.size #[.int .i64 6, .int .i64 qf, .int .i64 qa, .string ⟨#[]⟩] 41) := k109.alloc _
              clear hF9 hK9 hK10 k109 HK8 H108 HDue
              cases db with
              | true =>
                have hdv := HDV.out rfl
                simp only [Prod.mk.injEq] at hdv
                obtain ⟨hv1, hv2, hv3⟩ := hdv
                subst hv1
                subst hv2
                subst hv3
                clear HDV
                go_wp2_with fail
                refine HNc.out.mono ?_
                rintro e w11 ⟨rfl, hw11⟩
                subst hw11
                clear HNc HNx
                go_wp2
                refine wp_loop_rounds 1 ?_
                rw [rounds_succ]
                go_wp2_with fail
                refine HSt2.out.mono ?_
                rintro e w12 ⟨rfl, hw12⟩
                subst hw12
                clear HSt2
                go_wp2
                go_roundw
                case rel => exact ⟨i + 1, bp', p, X', by omega, by go_num, rfl, by omega, ⟨⟨_, _, _, _, _, _, HK10.out⟩, HOK.out, by omega, HGD'.out⟩⟩
                case measure => simp [intOf]; omega
              | false =>
                clear HDV
                go_wp2_with fail
                refine HNc.out.mono ?_
                rintro e w11 ⟨rfl, hw11⟩
                subst hw11
                clear HNc HNx
                go_wp2
                refine wp_loop_rounds 1 ?_
                rw [rounds_succ]
                go_wp2_with fail
                refine HSt2.out.mono ?_
                rintro e w12 ⟨rfl, hw12⟩
                subst hw12
                clear HSt2
                go_wp2
                go_roundw
                case rel => exact ⟨i + 1, bp', p, X', by omega, by go_num, rfl, by omega, ⟨⟨_, _, _, _, _, _, HK10.out⟩, HOK.out, by omega, HGD'.out⟩⟩
                case measure => simp [intOf]; omega
        have hr1 := doP_steps (p := p) (m := X'.m) (o := ⟨kind, oa, ob, oc, oS, oT⟩) q7 q13 q15
        generalize doP p X'.m ⟨kind, oa, ob, oc, oS, oT⟩ = r at *
        obtain ⟨p', ⟨ae, an, am, as_⟩⟩ := r
        simp only at hr1
        subst hr1
        have n8 := beq_eq_false_iff_ne.2 q8
        have n13 := beq_eq_false_iff_ne.2 q13
        have n15 := beq_eq_false_iff_ne.2 q15
        have n7 := beq_eq_false_iff_ne.2 q7
        have F7 := hp7.fr
        obtain ⟨bp', Lp', Sp', he7, hK7, hSp7⟩ := HK6.out.doo hp7
        subst he7
        simp only at hK7
        unfold AnsD.val
        simp only [AnsD.zero]
        have k87 : Has w7 wB.heap.size _ _ := H86.out.fr F7 (fun e => by omega)
        have k107 : Has w7 w5.heap.size _ _ := H10.out.fr F7 (fun e => by omega)
        have dd := k87.cell 0
        simp at dd
        have x0 := k107.cell 0
        have x1 := k107.cell 1
        have x2 := k107.cell 2
        have x3 := k107.cell 3
        simp at x0 x1 x2 x3
        have y0 := k107.frozen 0
        have y1 := k107.frozen 1
        have y2 := k107.frozen 2
        have y3 := k107.frozen 3
        have yl := k107.lt
        have yl8 := k87.lt
        obtain ⟨g1, g2⟩ := k107.put4 (.int .i64 ae) (.int .i64 an) (.int .i64 am) (sv as_)
        have hK8 := hK7.other g2 hw05 (fun h => by
            rcases hSp7 _ h with h | h
            · have := HB10.out _ (.inl h); omega
            · simp at h; omega) (fun h => by have := HB10.out _ (.inr (.inl h)); omega) (fun h => by have := HB10.out _ (.inr (.inr h)); omega)
        have HK8 : Hid (KX w _ bp' bb bc p' X' X' Sp' Lp' Sb' Kb' Sc' Kc') := hK8
        have H108 : Hid (Has _ w5.heap.size #[.int .i64 ae, .int .i64 an, .int .i64 am, sv as_] 41) := g1
        have HSt2 : Hid (Calls _ _ _ _ _) := steps_any Sp' bp' Lp' _ _ hK8.prog
        clear F7 hp7 hK7 hSp7 k87 k107 g1 g2 hK8 HK6 H86 H10 HDo d0 d1 d2 d3 d4 d5 l8 l81
        go_wp2_with fail
        refine HSt2.out.mono ?_
        rintro e w9 ⟨rfl, hw9⟩
        subst hw9
        clear HSt2
        go_wp2
        go_roundw
        case rel => exact ⟨i + 1, bp', p', X', by omega, by go_num, rfl, by omega, ⟨⟨_, _, _, _, _, _, HK8.out⟩, HOK.out, by omega, HGD'.out⟩⟩
        case measure => simp [intOf]; omega
      · go_wp2
        go_ret
        obtain ⟨Sp, Lp, Sb, Kb, Sc, Kc, hK⟩ := G1.out.ex
        exact ⟨rfl, hK.fr⟩
    · go_wp2
      go_ret
      obtain ⟨Sp, Lp, Sb, Kb, Sc, Kc, hK⟩ := G1.out.ex
      exact ⟨rfl, hK.fr⟩
theorem keeps_any (a : Option Addr) (n cap : Nat) (os : Nat → OpD) (w : World) (hs : ScriptAt w a n os) (hg : GlobOk w) :
    Calls Tryd.prog 3 #[.slice a n cap] w fun e w' => e = .returned (.bool true) ∧ Fr (fun _ => False) w w' := by
  have HC : Hid (Calls _ _ _ _ _) := keepsUp_any a n cap os w hs hg
  clear hs hg
  go_enter Tryd.func3, Tryd.ntmps3
  go_wp2_with fail
  refine HC.out.mono ?_
  rintro e w1 ⟨rfl, hF⟩
  have HF : Hid (Fr _ w w1) := hF
  clear hF HC
  go_wp2
  go_ret
  exact ⟨rfl, HF.out⟩
end Go.Proofs.Qxb6500576aDoor
