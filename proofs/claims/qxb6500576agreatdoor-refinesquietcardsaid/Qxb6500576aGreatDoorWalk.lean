/-
  THE WALK of preplaw.walk.
-/
import Derived.Test.Qxb6500576aGreatDoorRefS
import Derived.Test.Qxb6500576aGreatDoorAnsEq
import Derived.Test.Qxb6500576aGreatDoorNew
namespace Go.Proofs.Qxb6500576aGreatDoor
open Go Go.RowKit
set_option linter.unusedVariables false
set_option linter.unusedSimpArgs false

structure Lt42 (i : Nat) : Prop where
  lt : (i : Int) < 4398046511104
theorem Lt42.wrap {i : Nat} (h : Lt42 i) : wrap64 ((i : Int) + 1) = (i : Int) + 1 := by
  have := h.lt
  unfold wrap64
  omega
theorem Lt42.wrapK {i : Nat} (h : Lt42 i) : IntKind.i64.wrap ((i : Int) + 1) = (i : Int) + 1 := by
  have := h.lt
  rw [IntKind.wrap_i64]
  omega
set_option maxRecDepth 100000 in
set_option maxHeartbeats 16000000 in
theorem walk_any (a : Option Addr) (n cap : Nat) (os : Nat → OpD) (quiet : Bool) (w : World) (hs : ScriptAt w a n os) (hg : GlobOk w) :
    Calls Tryz.prog 7 #[.slice a n cap, .bool quiet] w fun e w' => (∃ v : Value, e = .returned (.tuple #[.int .i64 (-1), v])) ∧ Fr (fun _ => False) w w' := by
  have HSC : Hid (ScriptAt w a n os) := hs
  have HGL : Hid (GlobOk w) := hg
  have HG1 : Hid (Calls _ _ _ _ _) := ground_any w
  clear hs hg
  go_enter Tryz.func7, Tryz.ntmps7
  go_wp2_with fail
  refine HG1.out.mono ?_
  rintro e w1 ⟨bb, K1, rfl, hB1, hF1⟩
  have HB1 : Hid (BelRep _ w1 bb K1 _) := hB1
  have HF1 : Hid (Fr _ w w1) := hF1
  have HG2 : Hid (Calls _ _ _ _ _) := ground_any w1
  clear hB1 hF1 HG1
  go_wp2_with fail
  refine HG2.out.mono ?_
  rintro e w2 ⟨bc, K2, rfl, hB2, hF2⟩
  have B1 := HB1.out.newer hF2
  have c0 := B1.here.cell 0
  simp at c0
  have bl := B1.here.lt
  have HN : Hid (Calls _ _ _ _ _) := new_ok _ K1.bm K1.L ModD.empty w2 B1.mod (fun k hk => by have := hk.1.2; have := hF2.size; omega) ModGood.empty.ok ModGood.empty.bodies rfl
  have HB2 : Hid (BelRep _ w2 bc K2 _) := hB2
  have HB1' : Hid (BelRep _ w2 bb K1 _) := B1
  have HF2 : Hid (Fr _ w1 w2) := hF2
  clear hB2 hF2 B1 HG2 HB1
  go_wp2_with fail
  refine HN.out.mono ?_
  rintro e w3 ⟨hF3, bp0, Lp0, rfl, hP3⟩
  have B2 := HB2.out.newer hF3
  have c1 := B2.here.cell 0
  simp at c1
  have bl2 := B2.here.lt
  have mm := modM_of ModGood.empty ModTyped.empty
  have HMN : Hid (Calls _ _ _ _ _) := mnew_any _ K2.bm K2.L ModD.empty w3 B2.mod (fun k hk => by have := hk.1.2; have := hF3.size; omega) mm.ok mm.body mm.tab
  have HP3 : Hid (ProgRep _ w3 bp0 Lp0 _) := hP3
  have HF3 : Hid (Fr _ w2 w3) := hF3
  have HB2' : Hid (BelRep _ w3 bc K2 _) := B2
  clear hP3 hF3 HN B2 mm c0 bl
  go_wp2_with fail
  refine HMN.out.mono ?_
  rintro e w4 hp4
  have hl0 : ModD.empty.loadM.2.2 = 0 := by rw [load_same ModGood.empty ModTyped.empty]; rfl
  obtain ⟨bq0, Lm0, src0, rfl, hM4⟩ := hp4.good hl0
  have hF4 := hp4.fr
  have z1 := HF1.out.size
  have z2 := HF2.out.size
  have z3 := HF3.out.size
  have z4 := hF4.size
  have hprog : ({ nimp := (ModD.empty.imports.length : Int), min := ModD.empty.min, max := ModD.empty.max, steps := 0, funs := ModD.empty.sigs, codes := (List.range ModD.empty.nall).map ModD.empty.codeM } : ProgD) = ModD.empty.prog := prog_same ModGood.empty ModTyped.empty rfl
  rw [hprog] at hM4
  have KX0 : KX w w4 bp0 bb bc ModD.empty.prog BelD.ground BelD.ground (fun k => w2.heap.size ≤ k ∧ k < w3.heap.size) Lp0 _ K1 _ K2 := {
    prog := (HP3.out.sub (fun k hk h => ⟨h, hk⟩)).fresh hF4
    b := (HB1'.out.newer HF3.out).newer hF4
    c := HB2'.out.newer hF4
    rp := fun k hk => ⟨by omega, by omega⟩
    rb := fun k hk => ⟨hk.1, by omega⟩
    rc := fun k hk => ⟨by omega, by omega⟩
    pb := fun k hk hk' => by omega
    pc := fun k hk hk' => by omega
    bc := fun k hk hk' => by omega
    fr := ((HF1.out.trans HF2.out (fun _ _ h => h)).trans HF3.out (fun _ _ h => h)).trans hF4 (fun _ _ h => h) }
  have RX0 : RX w w4 bp0 bq0 bb bc ModD.empty.prog ModD.empty.prog BelD.ground BelD.ground (fun k => w2.heap.size ≤ k ∧ k < w3.heap.size) Lp0 _ K1 _ K2 (fun k => w3.heap.size ≤ k ∧ k < w4.heap.size) Lm0 src0 :=
    ⟨KX0, hM4.sub (fun k hk h => ⟨h, hk⟩), fun k hk => ⟨by omega, hk.2⟩, fun k hk hk' => by omega, fun k hk hk' => by omega, fun k hk hk' => by omega⟩
  have pk0 : ProgOk ModD.empty.prog := prog_ok ModGood.empty rfl 0 (by decide) (by decide)
  have HK0 : Hid (RS w w4 bp0 bq0 bb bc ModD.empty.prog BelD.ground 0) := ⟨⟨_, _, _, _, _, _, _, _, _, RX0⟩, pk0, by decide, BelGood.ground, ModTyped.empty⟩
  clear KX0 RX0 pk0 hM4 hF4 hp4 HMN HB1' HB2 HB2' HF1 HF2 HF3 HP3 c1 bl2 z1 z2 z3 z4 hl0 hprog
  go_wp2
  go_loopw [14, 8, 10] (fun t u v wr => ∃ (i bp bq : Nat) (p : ProgD) (X : BelD), i ≤ n ∧ t = .int .i64 i ∧ u = .pointer (some ⟨bp, 0, none⟩) ∧ v = .pointer (some ⟨bq, 0, none⟩) ∧ (i : Int) ≤ 4398046511104 ∧ Hid (RS w wr bp bq bb bc p X i)) (fun t _ _ _ => n - (intOf t).toNat)
  case atStart => exact ⟨0, bp0, bq0, _, _, Nat.zero_le _, rfl, rfl, rfl, by omega, HK0⟩
  case round =>
    obtain ⟨i, bp, bq, p, X, hi, rfl, rfl, rfl, hi42, G1⟩ := hrel
    clear HK0
    by_cases hlt : i < n
    · by_cases h42 : (i : Int) < 4398046511104
      · obtain ⟨Sp, Lp, Sb, Kb, Sc, Kc, Sm, Lm, srcs, hK⟩ := G1.out.ex
        obtain ⟨b, o, ha, hbl, s0, s1, s2, s3, s4, s5⟩ := (HSC.out.fr hK.kx.fr).at_ i hlt
        subst ha
        generalize os i = oi at *
        obtain ⟨kind, oa, ob, oc, oS, oT⟩ := oi
        simp only at s0 s1 s2 s3 s4 s5
        have hgood := G1.out.good
        have hr1 := hgood.m.ok.nr
        have hr2 := hgood.m.ok.np
        have hr3 := hgood.code
        obtain ⟨wB, hwB⟩ : ∃ wB, wB = wr := ⟨_, rfl⟩
        subst hwB
        have F8 : Fr (fun _ => False) wB (wB.alloc (.cells #[.int .i64 kind, .int .i64 oa, .int .i64 ob, .int .i64 oc, sv oS, sv oT] 43)) := (Fr.refl _ _).alloc _
        have hK1 := hK.fresh F8
        have k8 : Has (wB.alloc (.cells #[.int .i64 kind, .int .i64 oa, .int .i64 ob, .int .i64 oc, sv oS, sv oT] 43)) wB.heap.size _ _ := Has.new wB _ _
        have HBb : Hid (Calls _ _ _ _ _) := build_any Sb bb Kb X ⟨kind, oa, ob, oc, oS, oT⟩ _ hK1.kx.b (by omega) (by omega)
        unfold OpD.val at HBb
        simp only at HBb
        have hn8 : ¬ Sb wB.heap.size ∧ ¬ Sc wB.heap.size ∧ ¬ Sp wB.heap.size ∧ ¬ Sm wB.heap.size := ⟨fun h => by have := (hK.kx.rb _ h).2; omega, fun h => by have := (hK.kx.rc _ h).2; omega, fun h => by have := (hK.kx.rp _ h).2; omega, fun h => by have := (hK.rm _ h).2; omega⟩
        have hw0B : w.heap.size ≤ wB.heap.size := hK.kx.fr.size
        have HBP : Hid (bp < wB.heap.size ∧ bq < wB.heap.size) := ⟨(hK.kx.rp bp hK.kx.prog.own).2, (hK.rm bq hK.mp.own).2⟩
        have HK1 : Hid (RX _ _ _ _ _ _ _ _ _ _ _ _ _ _ _ _ _ _ _) := hK1
        have H8 : Hid (Has _ wB.heap.size #[.int .i64 kind, .int .i64 oa, .int .i64 ob, .int .i64 oc, sv oS, sv oT] 43) := k8
        have HN8 : Hid (_ ∧ _ ∧ _ ∧ _) := hn8
        have HGD : Hid (BelGood X) := hgood
        have HTY : Hid (ModTyped X.m) := G1.out.typ
        have HOK : Hid (ProgOk p) := G1.out.ok
        have HST : Hid (p.steps ≤ 1000 + i) := G1.out.st
        have H42 : Lt42 i := ⟨h42⟩
        have HI42 : Hid ((i : Int) < 4398046511104) := h42
        have hb8 : wB.heap.size < wB.heap.size + 1 := by omega
        clear F8 hK hK1 k8 hn8 hgood hr1 hr2 hr3 G1
        go_wp2_with fail
        refine HBb.out.mono ?_
        intro e w4 hp4
        obtain ⟨Sb', Kb', hK4, hSb4⟩ := HK1.out.bldB hp4
        have k84 := H8.out.fr hp4.2.2 HN8.out.1
        obtain ⟨he4, _⟩ := hp4
        subst he4
        have d0 := k84.cell 0
        have d1 := k84.cell 1
        have d2 := k84.cell 2
        have d3 := k84.cell 3
        have d4 := k84.cell 4
        have d5 := k84.cell 5
        simp at d0 d1 d2 d3 d4 d5
        have l8 := k84.lt
        have HBc : Hid (Calls _ _ _ _ _) := build_any Sc bc Kc X ⟨kind, oa, ob, oc, oS, oT⟩ w4 hK4.kx.c (by have := HGD.out.m.ok.nr; have := HGD.out.m.ok.np; omega) (by have := HGD.out.code; omega)
        unfold OpD.val at HBc
        simp only at HBc
        have HK4 : Hid (RX _ _ _ _ _ _ _ _ _ _ _ _ _ _ _ _ _ _ _) := hK4
        have H84 : Hid (Has w4 wB.heap.size #[.int .i64 kind, .int .i64 oa, .int .i64 ob, .int .i64 oc, sv oS, sv oT] 43) := k84
        clear hK4 k84 HBb HK1 H8 hSb4
        go_wp2_with fail
        refine HBc.out.mono ?_
        intro e w5 hp5
        obtain ⟨Sc', Kc', hK5, hSc5⟩ := HK4.out.bldC hp5
        have k85 := H84.out.fr hp5.2.2 HN8.out.2.1
        obtain ⟨he5, _⟩ := hp5
        subst he5
        obtain ⟨X', hX'⟩ : ∃ X', X' = (X.build ⟨kind, oa, ob, oc, oS, oT⟩).1 := ⟨_, rfl⟩
        rw [← hX'] at hK5
        have HGD' : Hid (BelGood X') := by show BelGood X'; rw [hX']; exact HGD.out.build _
        have HTY' : Hid (ModTyped X'.m) := by show ModTyped X'.m; rw [hX']; exact HTY.out.build _
        clear HBc HK4 H84 hX' d0 d1 d2 d3 d4 d5 l8 HGD HTY hSc5
        -- the two answers' blocks
        obtain ⟨w6, hw6⟩ : ∃ w6, w6 = (w5.alloc (.cells #[.int .i64 0, .int .i64 0, .int .i64 0, .string ⟨#[]⟩] 46)).alloc (.cells #[.int .i64 0, .int .i64 0, .int .i64 0, .string ⟨#[]⟩] 46) := ⟨_, rfl⟩
        have F6 : Fr (fun _ => False) w5 w6 := by rw [hw6]; exact ((Fr.refl _ _).alloc _).alloc _
        have hK6 := hK5.fresh F6
        have k86 : Has w6 wB.heap.size _ _ := k85.fr F6 id
        have kA6 : Has w6 w5.heap.size #[.int .i64 0, .int .i64 0, .int .i64 0, .string ⟨#[]⟩] 46 := by rw [hw6]; exact (Has.new w5 _ _).alloc _
        have kB6 : Has w6 (w5.heap.size + 1) #[.int .i64 0, .int .i64 0, .int .i64 0, .string ⟨#[]⟩] 46 := by
          rw [hw6]
          have := Has.new (w5.alloc (.cells #[.int .i64 0, .int .i64 0, .int .i64 0, .string ⟨#[]⟩] 46)) #[.int .i64 0, .int .i64 0, .int .i64 0, .string ⟨#[]⟩] 46
          simpa using this
        have HBD : Hid (∀ k, (Sp k ∨ Sb' k ∨ Sc' k ∨ Sm k) → k < w5.heap.size) := fun k hk => by
          rcases hk with hk | hk | hk | hk
          · exact (hK5.kx.rp k hk).2
          · exact (hK5.kx.rb k hk).2
          · exact (hK5.kx.rc k hk).2
          · exact (hK5.rm k hk).2
        have hw05 : w.heap.size ≤ w5.heap.size := hK5.kx.fr.size
        have l85 : wB.heap.size < w5.heap.size := k85.lt
        have hsz6 : w6.heap.size = w5.heap.size + 1 + 1 := by rw [hw6]; simp
        have HDo : Hid (Calls _ _ _ _ _) := do_any Sp bp Lp p bb ⟨kind, oa, ob, oc, oS, oT⟩ _ Sb' Kb' X' hK6.kx.prog (fun k hk => (hK6.kx.rp k hk).2) HOK.out (HGL.out.fr hK6.kx.fr (fun h => h)) hK6.kx.b (fun k hk => (hK6.kx.rb k hk).2) HGD'.out.m
        unfold OpD.val at HDo
        simp only at HDo
        have d0 := k85.cell 0
        have d1 := k85.cell 1
        have d2 := k85.cell 2
        have d3 := k85.cell 3
        have d4 := k85.cell 4
        have d5 := k85.cell 5
        simp at d0 d1 d2 d3 d4 d5
        have l8 := k85.lt
        have l81 : wB.heap.size < w5.heap.size + 1 := by omega
        have l82 : wB.heap.size < w5.heap.size + 1 + 1 := by omega
        have lne : wB.heap.size ≠ w5.heap.size := by omega
        have HK6 : Hid (RX w w6 bp bq bb bc p p X' X' Sp Lp Sb' Kb' Sc' Kc' Sm Lm srcs) := hK6
        have H86 : Hid (Has w6 wB.heap.size #[.int .i64 kind, .int .i64 oa, .int .i64 ob, .int .i64 oc, sv oS, sv oT] 43) := k86
        have HA6 : Hid (Has w6 w5.heap.size #[.int .i64 0, .int .i64 0, .int .i64 0, .string ⟨#[]⟩] 46) := kA6
        have HB6 : Hid (Has w6 (w5.heap.size + 1) #[.int .i64 0, .int .i64 0, .int .i64 0, .string ⟨#[]⟩] 46) := kB6
        have HW6 : Hid (w6 = _) := hw6
        have HNQ : Hid (¬ Sm bp ∧ bp < w5.heap.size ∧ bq < w5.heap.size) := ⟨fun h => hK5.md bp h hK5.kx.prog.own, (hK5.kx.rp bp hK5.kx.prog.own).2, (hK5.rm bq hK5.mp.own).2⟩
        clear F6 hK6 k86 kA6 kB6 hK5 k85 HN8
        rw [hw6] at HDo
        clear hw6
        go_wp2_with fail
        refine HDo.out.mono ?_
        intro e w7 hp7
        rw [← HW6.out] at hp7
        have hsame := dom_same HGD'.out.m HTY'.out p ⟨kind, oa, ob, oc, oS, oT⟩
        have hokp := doP_ok (o := ⟨kind, oa, ob, oc, oS, oT⟩) HOK.out HGD'.out.m HST.out (by have := HI42.out; omega)
        have HDM : Hid (∀ w' Sm Lm srcs, MProg Sm w' bq Lm p srcs → (∀ k, Sm k → k < w'.heap.size) → ∀ Sc K, BelRep Sc w' bc K X' → (∀ k, Sc k → k < w'.heap.size) → Calls Tryz.prog 13 #[.pointer (some ⟨bq, 0, none⟩), .pointer (some ⟨bc, 0, none⟩), .agg #[.int .i64 kind, .int .i64 oa, .int .i64 ob, .int .i64 oc, sv oS, sv oT]] w' (DoMPost Sm w' bq (doP p X'.m ⟨kind, oa, ob, oc, oS, oT⟩))) := by
          intro w' Sm Lm srcs hM hSm Sc K hb hSc
          have := dom_any Sm bq Lm p srcs bc ⟨kind, oa, ob, oc, oS, oT⟩ w' Sc K X' hM hSm HOK.out hb hSc (modM_of HGD'.out.m HTY'.out)
          rw [hsame] at this
          exact this
        generalize doP p X'.m ⟨kind, oa, ob, oc, oS, oT⟩ = rr at *
        obtain ⟨p', ⟨ae, an, am, aS⟩⟩ := rr
        simp only at hokp
        have HPK : Hid (ProgOk p') := hokp.1
        have HPS : Hid (p'.steps ≤ 1000 + ((i + 1 : Nat) : Int)) := hokp.2
        have F7 := hp7.fr
        obtain ⟨bp', Lp', Sp', he7, hK7, hSp7⟩ := HK6.out.doo hp7
        subst he7
        simp only at hK7
        have k87 : Has w7 wB.heap.size _ _ := H86.out.fr F7 (fun e => by have := HBP.out.1; omega)
        have kA7 : Has w7 w5.heap.size _ _ := HA6.out.fr F7 (fun e => by have := HNQ.out.2.1; omega)
        have kB7 : Has w7 (w5.heap.size + 1) _ _ := HB6.out.fr F7 (fun e => by have := HNQ.out.2.1; omega)
        have hsz7 := F7.size
        have x0 := kA7.cell 0
        have x1 := kA7.cell 1
        have x2 := kA7.cell 2
        have x3 := kA7.cell 3
        simp at x0 x1 x2 x3
        have y0 := kA7.frozen 0
        have y1 := kA7.frozen 1
        have y2 := kA7.frozen 2
        have y3 := kA7.frozen 3
        have yl := kA7.lt
        have f0 := k87.cell 0
        have f1 := k87.cell 1
        have f2 := k87.cell 2
        have f3 := k87.cell 3
        have f4 := k87.cell 4
        have f5 := k87.cell 5
        simp at f0 f1 f2 f3 f4 f5
        have fl := k87.lt
        obtain ⟨g1, g2⟩ := kA7.put4 (.int .i64 ae) (.int .i64 an) (.int .i64 am) (sv aS)
        obtain ⟨w8, hw8⟩ : ∃ w8, w8 = ((((w7.setCell ⟨w5.heap.size, 0, none⟩ (.int .i64 ae)).setCell ⟨w5.heap.size, 1, none⟩ (.int .i64 an)).setCell ⟨w5.heap.size, 2, none⟩ (.int .i64 am)).setCell ⟨w5.heap.size, 3, none⟩ (sv aS)) := ⟨_, rfl⟩
        rw [← hw8] at g1 g2
        have hK8 := hK7.other g2 hw05 (fun h => by
          rcases hSp7 _ h with h | h
          · have := HBD.out _ (.inl h); omega
          · omega) (fun h => by have := HBD.out _ (.inr (.inl h)); omega) (fun h => by have := HBD.out _ (.inr (.inr (.inl h))); omega) (fun h => by have := HBD.out _ (.inr (.inr (.inr h))); omega)
        have k88 : Has w8 wB.heap.size _ _ := k87.fr g2 (fun e => by omega)
        have kB8 : Has w8 (w5.heap.size + 1) _ _ := kB7.fr g2 (fun e => by omega)
        have hsz8 := g2.size
        have HC2 : Hid (Calls _ _ _ _ _) := HDM.out w8 Sm Lm srcs hK8.mp (fun k hk => (hK8.rm k hk).2) Sc' Kc' hK8.kx.c (fun k hk => (hK8.kx.rc k hk).2)
        have HK8 : Hid (RX w w8 bp' bq bb bc p' p X' X' Sp' Lp' Sb' Kb' Sc' Kc' Sm Lm srcs) := hK8
        have H88 : Hid (Has w8 wB.heap.size #[.int .i64 kind, .int .i64 oa, .int .i64 ob, .int .i64 oc, sv oS, sv oT] 43) := k88
        have HA8 : Hid (Has w8 w5.heap.size #[.int .i64 ae, .int .i64 an, .int .i64 am, sv aS] 46) := g1
        have HB8 : Hid (Has w8 (w5.heap.size + 1) #[.int .i64 0, .int .i64 0, .int .i64 0, .string ⟨#[]⟩] 46) := kB8
        have HSP7 : Hid (∀ k, Sp' k → Sp k ∨ w6.heap.size ≤ k) := hSp7
        have HW8 : Hid (w8 = _) := hw8
        clear F7 hp7 hK7 hSp7 k87 kA7 kB7 g1 g2 hK8 k88 kB8 hsame hokp HDo HDM HK6 H86 HA6 HB6 HW6 d0 d1 d2 d3 d4 d5
        rw [hw8] at HC2
        clear hw8
        unfold AnsD.val
        simp only
        go_wp2_with fail
        refine HC2.out.mono ?_
        intro e w9 hp9
        rw [← HW8.out] at hp9
        have F9 := hp9.fr
        obtain ⟨bq', Lm', Sm', srcs', he9, hK9, hSm9⟩ := HK8.out.dom hp9
        subst he9
        simp only at hK9
        have kA9 : Has w9 w5.heap.size _ _ := HA8.out.fr F9 (fun e => by have := HNQ.out.2.2; omega)
        have kB9 : Has w9 (w5.heap.size + 1) _ _ := HB8.out.fr F9 (fun e => by have := HNQ.out.2.2; omega)
        have hsz9 := F9.size
        clear x0 x1 x2 x3 y0 y1 y2 y3 yl f0 f1 f2 f3 f4 f5 fl
        have x0 := kB9.cell 0
        have x1 := kB9.cell 1
        have x2 := kB9.cell 2
        have x3 := kB9.cell 3
        simp at x0 x1 x2 x3
        have y0 := kB9.frozen 0
        have y1 := kB9.frozen 1
        have y2 := kB9.frozen 2
        have y3 := kB9.frozen 3
        have yl := kB9.lt
        have z0 := kA9.cell 0
        have z1 := kA9.cell 1
        have z2 := kA9.cell 2
        have z3 := kA9.cell 3
        simp at z0 z1 z2 z3
        have zl := kA9.lt
        have nAB : w5.heap.size ≠ w5.heap.size + 1 := by omega
        obtain ⟨g1, g2⟩ := kB9.put4 (.int .i64 ae) (.int .i64 an) (.int .i64 am) (sv aS)
        obtain ⟨wT, hwT⟩ : ∃ wT, wT = ((((w9.setCell ⟨w5.heap.size + 1, 0, none⟩ (.int .i64 ae)).setCell ⟨w5.heap.size + 1, 1, none⟩ (.int .i64 an)).setCell ⟨w5.heap.size + 1, 2, none⟩ (.int .i64 am)).setCell ⟨w5.heap.size + 1, 3, none⟩ (sv aS)) := ⟨_, rfl⟩
        rw [← hwT] at g1 g2
        have hKT := hK9.other g2 (by omega) (fun h => by
          rcases HSP7.out _ h with h | h
          · have := HBD.out _ (.inl h); omega
          · omega) (fun h => by have := HBD.out _ (.inr (.inl h)); omega) (fun h => by have := HBD.out _ (.inr (.inr (.inl h))); omega) (fun h => by
          rcases hSm9 _ h with h | h
          · have := HBD.out _ (.inr (.inr (.inr h))); omega
          · omega)
        have HKT : Hid (RX w wT bp' bq' bb bc p' p' X' X' Sp' Lp' Sb' Kb' Sc' Kc' Sm' Lm' srcs') := hKT
        have HWT : Hid (wT = _) := hwT
        have hAB : Hid (w.heap.size ≤ w5.heap.size) := hw05
        clear hp9 F9 hK9 hSm9 kA9 kB9 g1 g2 hKT HC2 HK8 H88 HA8 HB8 HSP7 HBD HW8 hwT
        clear nAB hsz6 hsz7 hsz8 hsz9 l81 l82 lne l85 hw05 hw0B l8 hb8 s0 s1 s2 s3 s4 s5 hbl
        have hcmp := ans_same ae an am aS
        unfold AnsD.val
        simp only
        cases quiet with
        | true =>
          go_wp2
          go_roundw
          case rel =>
            have hT := HKT.out
            rw [HWT.out] at hT
            exact ⟨i + 1, bp', bq', p', X', by omega, by go_num, rfl, rfl, by have := HI42.out; omega, ⟨⟨_, _, _, _, _, _, _, _, _, hT⟩, HPK.out, HPS.out, HGD'.out, HTY'.out⟩⟩
          case measure => simp [intOf]; omega
        | false =>
          have HC3 : Hid (Calls _ _ _ _ _) := show_any Sp' bp' Lp' p' wT HKT.out.kx.prog HPK.out.sh
          rw [HWT.out] at HC3
          go_wp2_with fail
          refine HC3.out.mono ?_
          rintro e wU ⟨t1, rfl, T1, hFU⟩
          rw [← HWT.out] at hFU
          have HKU : Hid (RX w wU bp' bq' bb bc p' p' X' X' Sp' Lp' Sb' Kb' Sc' Kc' Sm' Lm' srcs') := HKT.out.fresh hFU
          have HC4 : Hid (Calls _ _ _ _ _) := mshow_any Sm' bq' Lm' p' srcs' wU HKU.out.mp HPK.out.sh
          clear hFU HC3 HKT HWT x0 x1 x2 x3 y0 y1 y2 y3 yl z0 z1 z2 z3 zl hcmp
          go_wp2_with fail
          refine HC4.out.mono ?_
          rintro e wV ⟨t2, rfl, T2, hFV⟩
          have HKV : Hid (RX w wV bp' bq' bb bc p' p' X' X' Sp' Lp' Sb' Kb' Sc' Kc' Sm' Lm' srcs') := HKU.out.fresh hFV
          obtain rfl : t1 = t2 := T1.out.trans T2.out.symm
          have HC5 : Hid (Calls _ _ _ _ _) := steps_any Sp' bp' Lp' p' wV HKV.out.kx.prog
          have HC6 : Hid (Calls _ _ _ _ _) := msteps_any Sm' bq' Lm' p' srcs' wV HKV.out.mp
          obtain ⟨ck, hck⟩ := HPK.out.ck
          have HC7 : Hid (Calls _ _ _ _ _) := check_any Sp' bp' Lp' p' ck wV HKV.out.kx.prog hck
          clear hFV HC4 HKU hck
          go_wp2_with fail
          refine HC5.out.mono ?_
          rintro e wx ⟨rfl, hwx⟩
          obtain rfl := hwx.symm
          clear hwx HC5
          go_wp2_with fail
          refine HC6.out.mono ?_
          rintro e wx ⟨rfl, hwx⟩
          obtain rfl := hwx.symm
          clear hwx HC6
          go_wp2_with fail
          refine HC7.out.mono ?_
          rintro e wZ ⟨rfl, hFZ⟩
          have HKZ : Hid (RX w wZ bp' bq' bb bc p' p' X' X' Sp' Lp' Sb' Kb' Sc' Kc' Sm' Lm' srcs') := HKV.out.fresh hFZ
          clear hFZ HKV HC7
          go_wp2
          go_roundw
          case rel => exact ⟨i + 1, bp', bq', p', X', by omega, by go_num, rfl, rfl, by have := HI42.out; omega, ⟨⟨_, _, _, _, _, _, _, _, _, HKZ.out⟩, HPK.out, HPS.out, HGD'.out, HTY'.out⟩⟩
          case measure => simp [intOf]; omega
      · obtain ⟨Sp, Lp, Sb, Kb, Sc, Kc, Sm, Lm, srcs, hK⟩ := G1.out.ex
        have HFR : Hid (Fr (fun _ => False) w wr) := hK.kx.fr
        clear hK G1
        go_wp2
        go_ret2
        exact ⟨⟨_, rfl⟩, HFR.out⟩
    · obtain ⟨Sp, Lp, Sb, Kb, Sc, Kc, Sm, Lm, srcs, hK⟩ := G1.out.ex
      have HFR : Hid (Fr (fun _ => False) w wr) := hK.kx.fr
      clear hK G1
      go_wp2
      go_ret2
      exact ⟨⟨_, rfl⟩, HFR.out⟩
theorem refinesUp_any (a : Option Addr) (n cap : Nat) (os : Nat → OpD) (w : World) (hs : ScriptAt w a n os) (hg : GlobOk w) :
    Calls Tryz.prog 5 #[.slice a n cap] w fun e w' => e = .returned (.int .i64 (-1)) ∧ Fr (fun _ => False) w w' := by
  have HC : Hid (Calls _ _ _ _ _) := walk_any a n cap os false w hs hg
  clear hs hg
  go_enter Tryz.func5, Tryz.ntmps5
  go_wp2_with fail
  refine HC.out.mono ?_
  rintro e w1 ⟨⟨v, rfl⟩, hF⟩
  have HF : Hid (Fr (fun _ => False) w w1) := hF
  clear hF HC
  go_wp2
  go_ret
  exact ⟨rfl, HF.out⟩
theorem refinesQUp_any (a : Option Addr) (n cap : Nat) (os : Nat → OpD) (w : World) (hs : ScriptAt w a n os) (hg : GlobOk w) :
    Calls Tryz.prog 6 #[.slice a n cap] w fun e w' => e = .returned (.int .i64 (-1)) ∧ Fr (fun _ => False) w w' := by
  have HC : Hid (Calls _ _ _ _ _) := walk_any a n cap os true w hs hg
  clear hs hg
  go_enter Tryz.func6, Tryz.ntmps6
  go_wp2_with fail
  refine HC.out.mono ?_
  rintro e w1 ⟨⟨v, rfl⟩, hF⟩
  have HF : Hid (Fr (fun _ => False) w w1) := hF
  clear hF HC
  go_wp2
  go_ret
  exact ⟨rfl, HF.out⟩
theorem refines_any (a : Option Addr) (n cap : Nat) (os : Nat → OpD) (w : World) (hs : ScriptAt w a n os) (hg : GlobOk w) :
    Calls Tryz.prog 3 #[.slice a n cap] w fun e w' => e = .returned (.bool true) ∧ Fr (fun _ => False) w w' := by
  have HC : Hid (Calls _ _ _ _ _) := refinesUp_any a n cap os w hs hg
  clear hs hg
  go_enter Tryz.func3, Tryz.ntmps3
  go_wp2_with fail
  refine HC.out.mono ?_
  rintro e w1 ⟨rfl, hF⟩
  have HF : Hid (Fr (fun _ => False) w w1) := hF
  clear hF HC
  go_wp2
  go_ret
  exact ⟨rfl, HF.out⟩
theorem refinesQ_any (a : Option Addr) (n cap : Nat) (os : Nat → OpD) (w : World) (hs : ScriptAt w a n os) (hg : GlobOk w) :
    Calls Tryz.prog 4 #[.slice a n cap] w fun e w' => e = .returned (.bool true) ∧ Fr (fun _ => False) w w' := by
  have HC : Hid (Calls _ _ _ _ _) := refinesQUp_any a n cap os w hs hg
  clear hs hg
  go_enter Tryz.func4, Tryz.ntmps4
  go_wp2_with fail
  refine HC.out.mono ?_
  rintro e w1 ⟨rfl, hF⟩
  have HF : Hid (Fr (fun _ => False) w w1) := hF
  clear hF HC
  go_wp2
  go_ret
  exact ⟨rfl, HF.out⟩
end Go.Proofs.Qxb6500576aGreatDoor
