/-
  THE WALK of vmlaw: Keeps.
-/
import Derived.Test.Qxb6500579aGreatUScript
import Derived.Test.Qxb6500579aGreatULawU
import Derived.Deep.LoopGhost
namespace Go.Proofs.Qxb6500579aGreat
open Go Go.RowKit
set_option linter.unusedVariables false
set_option linter.unusedSimpArgs false
open Go.ChangeShapes Go.WideShapes Go.ChangeAt Go.RowKit Go.Deep
theorem two_start {w w1 w2 : World} {Ax Ay : VL} (B1 : Born w Ax w1) (B2 : Born (w1.alloc (.cells (sideC Ax) 29)) Ay w2) : Two w Ax Ay st0 st0 w2 ∧ Loc w2 Ax Ay w1.heap.size (sideC Ax) 29 ∧ w1.heap.size < w2.heap.size := by
  have hs := B1.fr.size
  have f1 : Fr (fun _ => False) w1 (w1.alloc (.cells (sideC Ax) 29)) := (Fr.refl _ _).alloc _
  have f2 : Fr (fun _ => False) w1 w2 := f1.trans B2.fr (fun _ _ x => x)
  have hz : (w1.alloc (.cells (sideC Ax) 29)).heap.size = w1.heap.size + 1 := by simp
  refine ⟨⟨B1.fr.trans f2 (fun _ _ x => x), B1.rep.fresh f2, B2.rep, fun k => ?_, B1.old, fun k hk => B2.old k (by omega)⟩, ⟨(Has.newC _ _ _ rfl).fr B2.fr (fun x => x), B1.rep.own _ (Nat.le_refl _), B2.old _ (by omega)⟩, by have := B2.fr.size; omega⟩
  by_cases hk : k < w1.heap.size
  · exact .inr (B2.old k (by omega))
  · exact .inl (B1.rep.own k (by omega))
/-- the state at a round's head -/
structure KpI (w : World) (b3 b4 b5 : Nat) (Ax Ay : VL) (σ : St) (r : RegD) (W : World) : Prop where
  t : Two w Ax Ay σ σ W
  d : DI σ
  g : RegIn r
  l3 : Loc W Ax Ay b3 (sideC Ax) 29
  l4 : Loc W Ax Ay b4 (sideC Ay) 29
  l5 : Loc W Ax Ay b5 (regCells r) 35
section
variable {w : World}
set_option maxRecDepth 100000
set_option maxHeartbeats 4000000
theorem keeps_any (a : Option Addr) (nS cap : Nat) (os : Nat → OpD) (w : World) (hs : ScriptAt w a nS os) : Calls Tryz.prog 3 #[.slice a nS cap] w fun e w' => e = .returned (.bool true) ∧ Fr (fun _ => False) w w' := by
  obtain ⟨Q, HQ⟩ : ∃ Q : Ending → World → Prop, Hid ((fun e w' => e = .returned (.bool true) ∧ Fr (fun _ => False) w w') = Q) := ⟨_, rfl⟩
  rw [HQ.out]
  have FIN : Hid (∀ W, Fr (fun _ => False) w W → Q (.returned (.bool true)) W) := fun W hF => by rw [← HQ.out]; exact ⟨rfl, hF⟩
  have HSC : Hid (ScriptAt w a nS os) := hs
  clear hs HQ
  go_enter Tryz.func3, Tryz.ntmps3
  go_wp2_with fail
  refine fresh_any.mono ?_
  rintro e' w1 ⟨Ax, he0, B1⟩
  obtain rfl : e' = .returned (.agg #[.pointer (some ⟨Ax.b, 0, none⟩), .pointer (some ⟨Ax.bn, 0, none⟩), .pointer (some ⟨Ax.bt, 0, none⟩)]) := he0
  have HB1 : Hid (Born w Ax w1) := B1
  clear B1
  go_wp2_with fail
  refine fresh_any.mono ?_
  rintro e' w2 ⟨Ay, he0, B2⟩
  obtain rfl : e' = .returned (.agg #[.pointer (some ⟨Ay.b, 0, none⟩), .pointer (some ⟨Ay.bn, 0, none⟩), .pointer (some ⟨Ay.bt, 0, none⟩)]) := he0
  have HT2 : Hid (Two w Ax Ay st0 st0 w2 ∧ Loc w2 Ax Ay w1.heap.size (sideC Ax) 29 ∧ w1.heap.size < w2.heap.size) := two_start HB1.out B2
  have HB0 : Hid (w.heap.size ≤ w1.heap.size) := HB1.out.fr.size
  clear B2 HB1
  obtain ⟨b3, HB3⟩ : ∃ b, Hid (w1.heap.size = b) := ⟨_, rfl⟩
  obtain ⟨b4, HB4⟩ : ∃ b, Hid (w2.heap.size = b) := ⟨_, rfl⟩
  have HK0 : Hid (KpI w b3 b4 (b4 + 1) Ax Ay st0 ⟨nilV, nilV⟩ ((w2.alloc (.cells #[.pointer (some ⟨Ay.b, 0, none⟩), .pointer (some ⟨Ay.bn, 0, none⟩), .pointer (some ⟨Ay.bt, 0, none⟩)] 29)).alloc (.cells #[.int .i64 0, .int .u64 0, .string ⟨#[]⟩, .int .i64 0, .int .u64 0, .string ⟨#[]⟩] 35))) := by
    have t1 := HT2.out.1.fresh ((Fr.refl _ _).alloc (.cells #[.pointer (some ⟨Ay.b, 0, none⟩), .pointer (some ⟨Ay.bn, 0, none⟩), .pointer (some ⟨Ay.bt, 0, none⟩)] 29))
    rw [← HB3.out, ← HB4.out]
    exact ⟨t1.fresh ((Fr.refl _ _).alloc _), DI.zero, ⟨nil_lt, nil_lt⟩, (HT2.out.2.1.fresh ((Fr.refl _ _).alloc _)).fresh ((Fr.refl _ _).alloc _), (HT2.out.1.loc _ _ rfl).fresh ((Fr.refl _ _).alloc _), t1.loc _ _ (by simp)⟩
  have HN : Hid (b3 ≠ b4 ∧ b3 ≠ b4 + 1 ∧ w.heap.size ≤ b3 ∧ w.heap.size ≤ b4) := by
    have h1 := HT2.out.2.2
    have h2 := HB0.out
    have h3 := HB3.out
    have h4 := HB4.out
    exact ⟨by omega, by omega, by omega, by omega⟩
  clear HT2 HB0
  go_wp2_with fail
  rw [HB3.out, HB4.out] at *
  obtain ⟨b5, HB5⟩ : ∃ b, Hid (b4 + 1 = b) := ⟨_, rfl⟩
  have hne34 : ¬ b3 = b4 := HN.out.1
  have hne43 : ¬ b4 = b3 := fun e => hne34 e.symm
  have hne35 : ¬ b3 = b5 := by have := HN.out.2.1; have := HB5.out; omega
  have hne53 : ¬ b5 = b3 := fun e => hne35 e.symm
  have hne45 : ¬ b4 = b5 := by have := HB5.out; omega
  have hne54 : ¬ b5 = b4 := fun e => hne45 e.symm
  have HG : Hid (w.heap.size ≤ b3 ∧ w.heap.size ≤ b4 ∧ w.heap.size ≤ b5) := ⟨HN.out.2.2.1, HN.out.2.2.2, by have := HN.out.2.2.2; have := HB5.out; omega⟩
  rw [HB5.out] at HK0 ⊢
  clear HN HB3 HB4 HB5
  have HAB : Hid (∃ (A1 A2 : VL) (σ : St) (r : RegD), KpI w b3 b4 b5 A1 A2 σ r ((w2.alloc (.cells #[.pointer (some ⟨Ay.b, 0, none⟩), .pointer (some ⟨Ay.bn, 0, none⟩), .pointer (some ⟨Ay.bt, 0, none⟩)] 29)).alloc (.cells #[.int .i64 0, .int .u64 0, .string ⟨#[]⟩, .int .i64 0, .int .u64 0, .string ⟨#[]⟩] 35))) := ⟨Ax, Ay, st0, ⟨nilV, nilV⟩, HK0.out⟩
  clear HK0
  go_loopg [6] nS (fun n v6 wr => ∃ (k : Nat), v6 = .int .i64 k ∧ k + n = nS ∧ Hid (∃ (Ax Ay : VL) (σ : St) (r : RegD), KpI w b3 b4 b5 Ax Ay σ r wr))
  case atStart => exact ⟨0, rfl, Nat.zero_add _, HAB⟩
  case round =>
    clear HAB
    obtain ⟨k, rfl, hkn, HI0⟩ := hrel
    obtain ⟨Ax, Ay, σ, ⟨⟨rt, rn, rs⟩, ⟨ut, un, us⟩⟩, HI⟩ := HI0.out
    have HK : Hid (KpI w b3 b4 b5 Ax Ay σ ⟨⟨rt, rn, rs⟩, ⟨ut, un, us⟩⟩ wr) := HI
    have HF : Hid (Fr (fun _ => False) w wr) := HI.t.fr
    clear HI HI0
    cases gk with
    | zero =>
      have hk : ¬ (k : Int) < (nS : Int) := by omega
      have FIN2 : Hid (Q (.returned (.bool true)) wr) := FIN.out _ HF.out
      clear HK HSC
      go_wp2_with fail
      exact FIN2.out
    | succ n =>
      have hk : (k : Int) < (nS : Int) := by omega
      by_cases hmax : (k : Int) < 4398046511104
      · obtain ⟨bO, oO, ha, hb, c0, c1, c2, c3, c4, c5⟩ := (HSC.out.fr HF.out).at_ k (by omega)
        obtain ⟨hfa, hfb⟩ := HSC.out.fit k (by omega)
        generalize os k = op at c0 c1 c2 c3 c4 c5 hfa hfb
        obtain ⟨ok, oa, ob, oc, oS, oT⟩ := op
        dsimp only at c0 c1 c2 c3 c4 c5 hfa hfb
        subst ha
        have HOI : Hid (OpIn ⟨ok, oa, ob, oc, oS, oT⟩) := ⟨hfa, hfb⟩
        have HL7 : Hid (Loc (wr.alloc (.cells #[.int .i64 ok, .int .i64 oa, .int .i64 ob, .int .i64 oc, sv oS, sv oT] 37)) Ax Ay wr.heap.size #[.int .i64 ok, .int .i64 oa, .int .i64 ob, .int .i64 oc, sv oS, sv oT] 37) := HK.out.t.loc _ _ rfl
        have HT1 : Hid (Two w Ax Ay σ σ (wr.alloc (.cells #[.int .i64 ok, .int .i64 oa, .int .i64 ob, .int .i64 oc, sv oS, sv oT] 37))) := HK.out.t.fresh ((Fr.refl _ _).alloc _)
        have HL3 : Hid (Loc (wr.alloc (.cells #[.int .i64 ok, .int .i64 oa, .int .i64 ob, .int .i64 oc, sv oS, sv oT] 37)) Ax Ay b3 (sideC Ax) 29) := HK.out.l3.fresh ((Fr.refl _ _).alloc _)
        have HL4 : Hid (Loc (wr.alloc (.cells #[.int .i64 ok, .int .i64 oa, .int .i64 ob, .int .i64 oc, sv oS, sv oT] 37)) Ax Ay b4 (sideC Ay) 29) := HK.out.l4.fresh ((Fr.refl _ _).alloc _)
        have HL5 : Hid (Loc (wr.alloc (.cells #[.int .i64 ok, .int .i64 oa, .int .i64 ob, .int .i64 oc, sv oS, sv oT] 37)) Ax Ay b5 (regCells ⟨⟨rt, rn, rs⟩, ⟨ut, un, us⟩⟩) 35) := HK.out.l5.fresh ((Fr.refl _ _).alloc _)
        have HM : Hid (b3 < wr.heap.size ∧ b4 < wr.heap.size ∧ b5 < wr.heap.size) := ⟨HK.out.l3.h.lt, HK.out.l4.h.lt, HK.out.l5.h.lt⟩
        have HW7 : Hid (w.heap.size ≤ wr.heap.size) := HF.out.size
        have HDI : Hid (DI σ) := HK.out.d
        have HRG : Hid (RegIn ⟨⟨rt, rn, rs⟩, ⟨ut, un, us⟩⟩) := HK.out.g
        have r0 : wr.cell? ⟨b5, 0, none⟩ = some (.int .i64 rt) := HK.out.l5.h.cell 0
        have r1 : wr.cell? ⟨b5, 1, none⟩ = some (.int .u64 rn) := HK.out.l5.h.cell 1
        have r2 : wr.cell? ⟨b5, 2, none⟩ = some (sv rs) := HK.out.l5.h.cell 2
        have r3 : wr.cell? ⟨b5, 3, none⟩ = some (.int .i64 ut) := HK.out.l5.h.cell 3
        have r4 : wr.cell? ⟨b5, 4, none⟩ = some (.int .u64 un) := HK.out.l5.h.cell 4
        have r5 : wr.cell? ⟨b5, 5, none⟩ = some (sv us) := HK.out.l5.h.cell 5
        have rl := HK.out.l5.h.lt
        clear HK HF
        go_wp2_with fail
        refine (turnR_any ⟨⟨rt, rn, rs⟩, ⟨ut, un, us⟩⟩ ⟨ok, oa, ob, oc, oS, oT⟩ hfb).mono ?_
        rintro e' w3 ⟨rfl, F3⟩
        have HR2 : Hid (RegIn (turnD ⟨⟨rt, rn, rs⟩, ⟨ut, un, us⟩⟩ ⟨ok, oa, ob, oc, oS, oT⟩)) := HRG.out.turn _
        obtain ⟨⟨⟨at1, an1, as1⟩, ⟨bt1, bn1, bs1⟩⟩, HTN⟩ : ∃ r', Hid (turnD ⟨⟨rt, rn, rs⟩, ⟨ut, un, us⟩⟩ ⟨ok, oa, ob, oc, oS, oT⟩ = r') := ⟨_, rfl⟩
        rw [HTN.out] at HR2 ⊢
        have HT2 : Hid (Two w Ax Ay σ σ w3) := HT1.out.fresh F3
        have HM3 : Hid (Loc w3 Ax Ay b3 (sideC Ax) 29) := HL3.out.fresh F3
        have HM4 : Hid (Loc w3 Ax Ay b4 (sideC Ay) 29) := HL4.out.fresh F3
        have HM5 : Hid (Loc w3 Ax Ay b5 #[.int .i64 rt, .int .u64 rn, sv rs, .int .i64 ut, .int .u64 un, sv us] 35) := HL5.out.fresh F3
        have HM7 : Hid (Loc w3 Ax Ay wr.heap.size #[.int .i64 ok, .int .i64 oa, .int .i64 ob, .int .i64 oc, sv oS, sv oT] 37) := HL7.out.fresh F3
        clear F3 HT1 HL3 HL4 HL5 HL7 c0 c1 c2 c3 c4 c5 hb HRG r0 r1 r2 r3 r4 r5 rl
        obtain ⟨b7, HB7⟩ : ∃ b, Hid (wr.heap.size = b) := ⟨_, rfl⟩
        rw [HB7.out] at HM HM7 HW7 ⊢
        have hne37 : ¬ b3 = b7 := by have := HM.out.1; omega
        have hne73 : ¬ b7 = b3 := fun e => hne37 e.symm
        have hne47 : ¬ b4 = b7 := by have := HM.out.2.1; omega
        have hne74 : ¬ b7 = b4 := fun e => hne47 e.symm
        have hne57 : ¬ b5 = b7 := by have := HM.out.2.2; omega
        have hne75 : ¬ b7 = b5 := fun e => hne57 e.symm
        have x0 : w3.cell? ⟨b3, 0, none⟩ = some (.pointer (some ⟨Ax.b, 0, none⟩)) := HM3.out.h.cell 0
        have x1 : w3.cell? ⟨b3, 1, none⟩ = some (.pointer (some ⟨Ax.bn, 0, none⟩)) := HM3.out.h.cell 1
        have x2 : w3.cell? ⟨b3, 2, none⟩ = some (.pointer (some ⟨Ax.bt, 0, none⟩)) := HM3.out.h.cell 2
        have xl := HM3.out.h.lt
        have y0 : w3.cell? ⟨b4, 0, none⟩ = some (.pointer (some ⟨Ay.b, 0, none⟩)) := HM4.out.h.cell 0
        have y1 : w3.cell? ⟨b4, 1, none⟩ = some (.pointer (some ⟨Ay.bn, 0, none⟩)) := HM4.out.h.cell 1
        have y2 : w3.cell? ⟨b4, 2, none⟩ = some (.pointer (some ⟨Ay.bt, 0, none⟩)) := HM4.out.h.cell 2
        have yl := HM4.out.h.lt
        have r0 : w3.cell? ⟨b5, 0, none⟩ = some (.int .i64 rt) := HM5.out.h.cell 0
        have r1 : w3.cell? ⟨b5, 1, none⟩ = some (.int .u64 rn) := HM5.out.h.cell 1
        have r2 : w3.cell? ⟨b5, 2, none⟩ = some (sv rs) := HM5.out.h.cell 2
        have r3 : w3.cell? ⟨b5, 3, none⟩ = some (.int .i64 ut) := HM5.out.h.cell 3
        have r4 : w3.cell? ⟨b5, 4, none⟩ = some (.int .u64 un) := HM5.out.h.cell 4
        have r5 : w3.cell? ⟨b5, 5, none⟩ = some (sv us) := HM5.out.h.cell 5
        have rl := HM5.out.h.lt
        have rf0 : w3.frozen? ⟨b5, 0, none⟩ = false := HM5.out.h.frozen 0
        have rf1 : w3.frozen? ⟨b5, 1, none⟩ = false := HM5.out.h.frozen 1
        have rf2 : w3.frozen? ⟨b5, 2, none⟩ = false := HM5.out.h.frozen 2
        have rf3 : w3.frozen? ⟨b5, 3, none⟩ = false := HM5.out.h.frozen 3
        have rf4 : w3.frozen? ⟨b5, 4, none⟩ = false := HM5.out.h.frozen 4
        have rf5 : w3.frozen? ⟨b5, 5, none⟩ = false := HM5.out.h.frozen 5
        have p0 : w3.cell? ⟨b7, 0, none⟩ = some (.int .i64 ok) := HM7.out.h.cell 0
        have p1 : w3.cell? ⟨b7, 1, none⟩ = some (.int .i64 oa) := HM7.out.h.cell 1
        have p2 : w3.cell? ⟨b7, 2, none⟩ = some (.int .i64 ob) := HM7.out.h.cell 2
        have p3 : w3.cell? ⟨b7, 3, none⟩ = some (.int .i64 oc) := HM7.out.h.cell 3
        have p4 : w3.cell? ⟨b7, 4, none⟩ = some (sv oS) := HM7.out.h.cell 4
        have p5 : w3.cell? ⟨b7, 5, none⟩ = some (sv oT) := HM7.out.h.cell 5
        have pl := HM7.out.h.lt
        have HT4 : Hid (Two w Ax Ay σ σ ((((((w3.setCell ⟨b5, 0, none⟩ (.int .i64 at1)).setCell ⟨b5, 1, none⟩ (.int .u64 an1)).setCell ⟨b5, 2, none⟩ (sv as1)).setCell ⟨b5, 3, none⟩ (.int .i64 bt1)).setCell ⟨b5, 4, none⟩ (.int .u64 bn1)).setCell ⟨b5, 5, none⟩ (sv bs1))) := HT2.out.set6 HM5.out HG.out.2.2 _ _ _ _ _ _
        have HP3 : Hid (Loc ((((((w3.setCell ⟨b5, 0, none⟩ (.int .i64 at1)).setCell ⟨b5, 1, none⟩ (.int .u64 an1)).setCell ⟨b5, 2, none⟩ (sv as1)).setCell ⟨b5, 3, none⟩ (.int .i64 bt1)).setCell ⟨b5, 4, none⟩ (.int .u64 bn1)).setCell ⟨b5, 5, none⟩ (sv bs1)) Ax Ay b3 (sideC Ax) 29) := HM3.out.other6 hne35 _ _ _ _ _ _
        have HP4 : Hid (Loc ((((((w3.setCell ⟨b5, 0, none⟩ (.int .i64 at1)).setCell ⟨b5, 1, none⟩ (.int .u64 an1)).setCell ⟨b5, 2, none⟩ (sv as1)).setCell ⟨b5, 3, none⟩ (.int .i64 bt1)).setCell ⟨b5, 4, none⟩ (.int .u64 bn1)).setCell ⟨b5, 5, none⟩ (sv bs1)) Ax Ay b4 (sideC Ay) 29) := HM4.out.other6 hne45 _ _ _ _ _ _
        have HP5 : Hid (Loc ((((((w3.setCell ⟨b5, 0, none⟩ (.int .i64 at1)).setCell ⟨b5, 1, none⟩ (.int .u64 an1)).setCell ⟨b5, 2, none⟩ (sv as1)).setCell ⟨b5, 3, none⟩ (.int .i64 bt1)).setCell ⟨b5, 4, none⟩ (.int .u64 bn1)).setCell ⟨b5, 5, none⟩ (sv bs1)) Ax Ay b5 #[.int .i64 at1, .int .u64 an1, sv as1, .int .i64 bt1, .int .u64 bn1, sv bs1] 35) := HM5.out.set6 _ _ _ _ _ _
        have HP7 : Hid (Loc ((((((w3.setCell ⟨b5, 0, none⟩ (.int .i64 at1)).setCell ⟨b5, 1, none⟩ (.int .u64 an1)).setCell ⟨b5, 2, none⟩ (sv as1)).setCell ⟨b5, 3, none⟩ (.int .i64 bt1)).setCell ⟨b5, 4, none⟩ (.int .u64 bn1)).setCell ⟨b5, 5, none⟩ (sv bs1)) Ax Ay b7 #[.int .i64 ok, .int .i64 oa, .int .i64 ob, .int .i64 oc, sv oS, sv oT] 37) := HM7.out.other6 hne75 _ _ _ _ _ _
        clear HT2 HM3 HM4 HM5 HM7
        by_cases hkd : ok = 3 ∨ ok = 12
        · have hbr : ((ok == 3) = true) ∨ ((ok == 3) = false ∧ (ok == 12) = true) := by
            rcases hkd with e | e
            · exact .inl (by rw [e]; rfl)
            · exact .inr ⟨by rw [e]; rfl, by rw [e]; rfl⟩
          have HSAME : Hid (∀ σa σb (x y : AnsD) σ1 σ2, StepR σa ⟨⟨at1, an1, as1⟩, ⟨bt1, bn1, bs1⟩⟩ ⟨ok, oa, ob, oc, oS, oT⟩ x σ1 → StepR σb ⟨⟨at1, an1, as1⟩, ⟨bt1, bn1, bs1⟩⟩ ⟨ok, oa, ob, oc, oS, oT⟩ y σ2 → x = y ∧ σ1 = σ2) := fun σa σb x y σ1 σ2 h1 h2 => StepR.forget hkd h1 h2
          clear hkd
          rcases hbr with hb3 | ⟨hb3, hb12⟩
          · go_wp2_with fail
            refine fresh_any.mono ?_
            rintro e' w4 ⟨Az, he0, B4⟩
            obtain rfl : e' = .returned (.agg #[.pointer (some ⟨Az.b, 0, none⟩), .pointer (some ⟨Az.bn, 0, none⟩), .pointer (some ⟨Az.bt, 0, none⟩)]) := he0
            have HT5 : Hid (Two w Ax Az σ st0 w4) := Two.newY (W := ((((((w3.setCell ⟨b5, 0, none⟩ (.int .i64 at1)).setCell ⟨b5, 1, none⟩ (.int .u64 an1)).setCell ⟨b5, 2, none⟩ (sv as1)).setCell ⟨b5, 3, none⟩ (.int .i64 bt1)).setCell ⟨b5, 4, none⟩ (.int .u64 bn1)).setCell ⟨b5, 5, none⟩ (sv bs1))) HT4.out B4
            have HQ3 : Hid (Loc w4 Ax Az b3 (sideC Ax) 29) := Loc.newY (W := ((((((w3.setCell ⟨b5, 0, none⟩ (.int .i64 at1)).setCell ⟨b5, 1, none⟩ (.int .u64 an1)).setCell ⟨b5, 2, none⟩ (sv as1)).setCell ⟨b5, 3, none⟩ (.int .i64 bt1)).setCell ⟨b5, 4, none⟩ (.int .u64 bn1)).setCell ⟨b5, 5, none⟩ (sv bs1))) HP3.out B4
            have HQ4 : Hid (Loc w4 Ax Az b4 (sideC Ay) 29) := Loc.newY (W := ((((((w3.setCell ⟨b5, 0, none⟩ (.int .i64 at1)).setCell ⟨b5, 1, none⟩ (.int .u64 an1)).setCell ⟨b5, 2, none⟩ (sv as1)).setCell ⟨b5, 3, none⟩ (.int .i64 bt1)).setCell ⟨b5, 4, none⟩ (.int .u64 bn1)).setCell ⟨b5, 5, none⟩ (sv bs1))) HP4.out B4
            have HQ5 : Hid (Loc w4 Ax Az b5 #[.int .i64 at1, .int .u64 an1, sv as1, .int .i64 bt1, .int .u64 bn1, sv bs1] 35) := Loc.newY (W := ((((((w3.setCell ⟨b5, 0, none⟩ (.int .i64 at1)).setCell ⟨b5, 1, none⟩ (.int .u64 an1)).setCell ⟨b5, 2, none⟩ (sv as1)).setCell ⟨b5, 3, none⟩ (.int .i64 bt1)).setCell ⟨b5, 4, none⟩ (.int .u64 bn1)).setCell ⟨b5, 5, none⟩ (sv bs1))) HP5.out B4
            have HQ7 : Hid (Loc w4 Ax Az b7 #[.int .i64 ok, .int .i64 oa, .int .i64 ob, .int .i64 oc, sv oS, sv oT] 37) := Loc.newY (W := ((((((w3.setCell ⟨b5, 0, none⟩ (.int .i64 at1)).setCell ⟨b5, 1, none⟩ (.int .u64 an1)).setCell ⟨b5, 2, none⟩ (sv as1)).setCell ⟨b5, 3, none⟩ (.int .i64 bt1)).setCell ⟨b5, 4, none⟩ (.int .u64 bn1)).setCell ⟨b5, 5, none⟩ (sv bs1))) HP7.out B4
            clear B4 HT4 HP3 HP4 HP5 HP7 x0 x1 x2 xl y0 y1 y2 yl r0 r1 r2 r3 r4 r5 rl rf0 rf1 rf2 rf3 rf4 rf5 p0 p1 p2 p3 p4 p5 pl
            have x0 : w4.cell? ⟨b3, 0, none⟩ = some (.pointer (some ⟨Ax.b, 0, none⟩)) := HQ3.out.h.cell 0
            have x1 : w4.cell? ⟨b3, 1, none⟩ = some (.pointer (some ⟨Ax.bn, 0, none⟩)) := HQ3.out.h.cell 1
            have x2 : w4.cell? ⟨b3, 2, none⟩ = some (.pointer (some ⟨Ax.bt, 0, none⟩)) := HQ3.out.h.cell 2
            have xl := HQ3.out.h.lt
            have y0 : w4.cell? ⟨b4, 0, none⟩ = some (.pointer (some ⟨Ay.b, 0, none⟩)) := HQ4.out.h.cell 0
            have y1 : w4.cell? ⟨b4, 1, none⟩ = some (.pointer (some ⟨Ay.bn, 0, none⟩)) := HQ4.out.h.cell 1
            have y2 : w4.cell? ⟨b4, 2, none⟩ = some (.pointer (some ⟨Ay.bt, 0, none⟩)) := HQ4.out.h.cell 2
            have yl := HQ4.out.h.lt
            have yf0 : w4.frozen? ⟨b4, 0, none⟩ = false := HQ4.out.h.frozen 0
            have yf1 : w4.frozen? ⟨b4, 1, none⟩ = false := HQ4.out.h.frozen 1
            have yf2 : w4.frozen? ⟨b4, 2, none⟩ = false := HQ4.out.h.frozen 2
            have r0 : w4.cell? ⟨b5, 0, none⟩ = some (.int .i64 at1) := HQ5.out.h.cell 0
            have r1 : w4.cell? ⟨b5, 1, none⟩ = some (.int .u64 an1) := HQ5.out.h.cell 1
            have r2 : w4.cell? ⟨b5, 2, none⟩ = some (sv as1) := HQ5.out.h.cell 2
            have r3 : w4.cell? ⟨b5, 3, none⟩ = some (.int .i64 bt1) := HQ5.out.h.cell 3
            have r4 : w4.cell? ⟨b5, 4, none⟩ = some (.int .u64 bn1) := HQ5.out.h.cell 4
            have r5 : w4.cell? ⟨b5, 5, none⟩ = some (sv bs1) := HQ5.out.h.cell 5
            have rl := HQ5.out.h.lt
            have p0 : w4.cell? ⟨b7, 0, none⟩ = some (.int .i64 ok) := HQ7.out.h.cell 0
            have p1 : w4.cell? ⟨b7, 1, none⟩ = some (.int .i64 oa) := HQ7.out.h.cell 1
            have p2 : w4.cell? ⟨b7, 2, none⟩ = some (.int .i64 ob) := HQ7.out.h.cell 2
            have p3 : w4.cell? ⟨b7, 3, none⟩ = some (.int .i64 oc) := HQ7.out.h.cell 3
            have p4 : w4.cell? ⟨b7, 4, none⟩ = some (sv oS) := HQ7.out.h.cell 4
            have p5 : w4.cell? ⟨b7, 5, none⟩ = some (sv oT) := HQ7.out.h.cell 5
            have pl := HQ7.out.h.lt
            have HT6 : Hid (Two w Ax Az σ st0 (((w4.setCell ⟨b4, 0, none⟩ (.pointer (some ⟨Az.b, 0, none⟩))).setCell ⟨b4, 1, none⟩ (.pointer (some ⟨Az.bn, 0, none⟩))).setCell ⟨b4, 2, none⟩ (.pointer (some ⟨Az.bt, 0, none⟩)))) := HT5.out.set3 HQ4.out HG.out.2.1 _ _ _
            have HU3 : Hid (Loc (((w4.setCell ⟨b4, 0, none⟩ (.pointer (some ⟨Az.b, 0, none⟩))).setCell ⟨b4, 1, none⟩ (.pointer (some ⟨Az.bn, 0, none⟩))).setCell ⟨b4, 2, none⟩ (.pointer (some ⟨Az.bt, 0, none⟩))) Ax Az b3 (sideC Ax) 29) := HQ3.out.other3 hne34 _ _ _
            have HU4 : Hid (Loc (((w4.setCell ⟨b4, 0, none⟩ (.pointer (some ⟨Az.b, 0, none⟩))).setCell ⟨b4, 1, none⟩ (.pointer (some ⟨Az.bn, 0, none⟩))).setCell ⟨b4, 2, none⟩ (.pointer (some ⟨Az.bt, 0, none⟩))) Ax Az b4 (sideC Az) 29) := HQ4.out.set3 _ _ _
            have HU5 : Hid (Loc (((w4.setCell ⟨b4, 0, none⟩ (.pointer (some ⟨Az.b, 0, none⟩))).setCell ⟨b4, 1, none⟩ (.pointer (some ⟨Az.bn, 0, none⟩))).setCell ⟨b4, 2, none⟩ (.pointer (some ⟨Az.bt, 0, none⟩))) Ax Az b5 #[.int .i64 at1, .int .u64 an1, sv as1, .int .i64 bt1, .int .u64 bn1, sv bs1] 35) := HQ5.out.other3 hne54 _ _ _
            have HU7 : Hid (Loc (((w4.setCell ⟨b4, 0, none⟩ (.pointer (some ⟨Az.b, 0, none⟩))).setCell ⟨b4, 1, none⟩ (.pointer (some ⟨Az.bn, 0, none⟩))).setCell ⟨b4, 2, none⟩ (.pointer (some ⟨Az.bt, 0, none⟩))) Ax Az b7 #[.int .i64 ok, .int .i64 oa, .int .i64 ob, .int .i64 oc, sv oS, sv oT] 37) := HQ7.out.other3 hne74 _ _ _
            have HDY : Hid (DI st0) := DI.zero
            clear HT5 HQ3 HQ4 HQ5 HQ7
            go_wp2_with fail
            refine (show Calls Tryz.prog 6 #[.agg #[.pointer (some ⟨Ax.b, 0, none⟩), .pointer (some ⟨Ax.bn, 0, none⟩), .pointer (some ⟨Ax.bt, 0, none⟩)], RegD.val ⟨⟨at1, an1, as1⟩, ⟨bt1, bn1, bs1⟩⟩, OpD.val ⟨ok, oa, ob, oc, oS, oT⟩] _ _ from heldTop_any HT6.out.rx HDI.out HOI.out HR2.out).mono ?_
            rintro e' w5 ⟨xa, σ1, A1, rfl, hx1, R5, S5⟩
            have HX1 : Hid (StepR σ ⟨⟨at1, an1, as1⟩, ⟨bt1, bn1, bs1⟩⟩ ⟨ok, oa, ob, oc, oS, oT⟩ xa σ1) := hx1
            have HD1 : Hid (DI σ1) := hx1.di HDI.out HOI.out HR2.out
            have HT7 : Hid (Two w A1 Az σ1 st0 w5) := Two.stepX (W := (((w4.setCell ⟨b4, 0, none⟩ (.pointer (some ⟨Az.b, 0, none⟩))).setCell ⟨b4, 1, none⟩ (.pointer (some ⟨Az.bn, 0, none⟩))).setCell ⟨b4, 2, none⟩ (.pointer (some ⟨Az.bt, 0, none⟩)))) HT6.out S5 R5
            have HV3 : Hid (Loc w5 A1 Az b3 #[.pointer (some ⟨A1.b, 0, none⟩), .pointer (some ⟨A1.bn, 0, none⟩), .pointer (some ⟨A1.bt, 0, none⟩)] 29) := by
              have h := Loc.stepX (W := (((w4.setCell ⟨b4, 0, none⟩ (.pointer (some ⟨Az.b, 0, none⟩))).setCell ⟨b4, 1, none⟩ (.pointer (some ⟨Az.bn, 0, none⟩))).setCell ⟨b4, 2, none⟩ (.pointer (some ⟨Az.bt, 0, none⟩)))) HU3.out S5
              unfold sideC at h
              rw [← S5.b, ← S5.bn, ← S5.bt] at h
              exact h
            have HV4 : Hid (Loc w5 A1 Az b4 (sideC Az) 29) := Loc.stepX (W := (((w4.setCell ⟨b4, 0, none⟩ (.pointer (some ⟨Az.b, 0, none⟩))).setCell ⟨b4, 1, none⟩ (.pointer (some ⟨Az.bn, 0, none⟩))).setCell ⟨b4, 2, none⟩ (.pointer (some ⟨Az.bt, 0, none⟩)))) HU4.out S5
            have HV5 : Hid (Loc w5 A1 Az b5 #[.int .i64 at1, .int .u64 an1, sv as1, .int .i64 bt1, .int .u64 bn1, sv bs1] 35) := Loc.stepX (W := (((w4.setCell ⟨b4, 0, none⟩ (.pointer (some ⟨Az.b, 0, none⟩))).setCell ⟨b4, 1, none⟩ (.pointer (some ⟨Az.bn, 0, none⟩))).setCell ⟨b4, 2, none⟩ (.pointer (some ⟨Az.bt, 0, none⟩)))) HU5.out S5
            have HV7 : Hid (Loc w5 A1 Az b7 #[.int .i64 ok, .int .i64 oa, .int .i64 ob, .int .i64 oc, sv oS, sv oT] 37) := Loc.stepX (W := (((w4.setCell ⟨b4, 0, none⟩ (.pointer (some ⟨Az.b, 0, none⟩))).setCell ⟨b4, 1, none⟩ (.pointer (some ⟨Az.bn, 0, none⟩))).setCell ⟨b4, 2, none⟩ (.pointer (some ⟨Az.bt, 0, none⟩)))) HU7.out S5
            clear hx1 R5 S5 HT6 HU3 HU4 HU5 HU7 x0 x1 x2 xl y0 y1 y2 yl yf0 yf1 yf2 r0 r1 r2 r3 r4 r5 rl p0 p1 p2 p3 p4 p5 pl
            obtain ⟨⟨xe, xn, xm, xs, xt⟩, HXX⟩ : ∃ y, Hid (xa = y) := ⟨xa, rfl⟩
            rw [HXX.out] at HX1 ⊢
            have x0 : w5.cell? ⟨b3, 0, none⟩ = some (.pointer (some ⟨A1.b, 0, none⟩)) := HV3.out.h.cell 0
            have x1 : w5.cell? ⟨b3, 1, none⟩ = some (.pointer (some ⟨A1.bn, 0, none⟩)) := HV3.out.h.cell 1
            have x2 : w5.cell? ⟨b3, 2, none⟩ = some (.pointer (some ⟨A1.bt, 0, none⟩)) := HV3.out.h.cell 2
            have xl := HV3.out.h.lt
            have y0 : w5.cell? ⟨b4, 0, none⟩ = some (.pointer (some ⟨Az.b, 0, none⟩)) := HV4.out.h.cell 0
            have y1 : w5.cell? ⟨b4, 1, none⟩ = some (.pointer (some ⟨Az.bn, 0, none⟩)) := HV4.out.h.cell 1
            have y2 : w5.cell? ⟨b4, 2, none⟩ = some (.pointer (some ⟨Az.bt, 0, none⟩)) := HV4.out.h.cell 2
            have yl := HV4.out.h.lt
            have r0 : w5.cell? ⟨b5, 0, none⟩ = some (.int .i64 at1) := HV5.out.h.cell 0
            have r1 : w5.cell? ⟨b5, 1, none⟩ = some (.int .u64 an1) := HV5.out.h.cell 1
            have r2 : w5.cell? ⟨b5, 2, none⟩ = some (sv as1) := HV5.out.h.cell 2
            have r3 : w5.cell? ⟨b5, 3, none⟩ = some (.int .i64 bt1) := HV5.out.h.cell 3
            have r4 : w5.cell? ⟨b5, 4, none⟩ = some (.int .u64 bn1) := HV5.out.h.cell 4
            have r5 : w5.cell? ⟨b5, 5, none⟩ = some (sv bs1) := HV5.out.h.cell 5
            have rl := HV5.out.h.lt
            have p0 : w5.cell? ⟨b7, 0, none⟩ = some (.int .i64 ok) := HV7.out.h.cell 0
            have p1 : w5.cell? ⟨b7, 1, none⟩ = some (.int .i64 oa) := HV7.out.h.cell 1
            have p2 : w5.cell? ⟨b7, 2, none⟩ = some (.int .i64 ob) := HV7.out.h.cell 2
            have p3 : w5.cell? ⟨b7, 3, none⟩ = some (.int .i64 oc) := HV7.out.h.cell 3
            have p4 : w5.cell? ⟨b7, 4, none⟩ = some (sv oS) := HV7.out.h.cell 4
            have p5 : w5.cell? ⟨b7, 5, none⟩ = some (sv oT) := HV7.out.h.cell 5
            have pl := HV7.out.h.lt
            have HT8 : Hid (Two w A1 Az σ1 st0 (w5.alloc (.cells #[.int .i64 xe, .int .i64 xn, .int .i64 xm, sv xs, sv xt] 41))) := HT7.out.fresh ((Fr.refl _ _).alloc _)
            have HL8 : Hid (Loc (w5.alloc (.cells #[.int .i64 xe, .int .i64 xn, .int .i64 xm, sv xs, sv xt] 41)) A1 Az w5.heap.size #[.int .i64 xe, .int .i64 xn, .int .i64 xm, sv xs, sv xt] 41) := HT7.out.loc _ _ rfl
            have HA3 : Hid (Loc (w5.alloc (.cells #[.int .i64 xe, .int .i64 xn, .int .i64 xm, sv xs, sv xt] 41)) A1 Az b3 #[.pointer (some ⟨A1.b, 0, none⟩), .pointer (some ⟨A1.bn, 0, none⟩), .pointer (some ⟨A1.bt, 0, none⟩)] 29) := HV3.out.fresh ((Fr.refl _ _).alloc _)
            have HA4 : Hid (Loc (w5.alloc (.cells #[.int .i64 xe, .int .i64 xn, .int .i64 xm, sv xs, sv xt] 41)) A1 Az b4 (sideC Az) 29) := HV4.out.fresh ((Fr.refl _ _).alloc _)
            have HA5 : Hid (Loc (w5.alloc (.cells #[.int .i64 xe, .int .i64 xn, .int .i64 xm, sv xs, sv xt] 41)) A1 Az b5 #[.int .i64 at1, .int .u64 an1, sv as1, .int .i64 bt1, .int .u64 bn1, sv bs1] 35) := HV5.out.fresh ((Fr.refl _ _).alloc _)
            go_wp2_with fail
            refine (show Calls Tryz.prog 6 #[.agg #[.pointer (some ⟨Az.b, 0, none⟩), .pointer (some ⟨Az.bn, 0, none⟩), .pointer (some ⟨Az.bt, 0, none⟩)], RegD.val ⟨⟨at1, an1, as1⟩, ⟨bt1, bn1, bs1⟩⟩, OpD.val ⟨ok, oa, ob, oc, oS, oT⟩] _ _ from heldTop_any HT8.out.ry HDY.out HOI.out HR2.out).mono ?_
            rintro e' w6 ⟨ya, σ2, A2, rfl, hx2, R6, S6⟩
            obtain ⟨hye, hys⟩ := HSAME.out _ _ _ _ _ _ HX1.out hx2
            subst hye
            subst hys
            have HT9 : Hid (Two w A1 A2 σ1 σ1 w6) := Two.stepY (W := w5.alloc (.cells #[.int .i64 xe, .int .i64 xn, .int .i64 xm, sv xs, sv xt] 41)) HT8.out S6 R6
            have HC3 : Hid (Loc w6 A1 A2 b3 #[.pointer (some ⟨A1.b, 0, none⟩), .pointer (some ⟨A1.bn, 0, none⟩), .pointer (some ⟨A1.bt, 0, none⟩)] 29) := Loc.stepY (W := w5.alloc (.cells #[.int .i64 xe, .int .i64 xn, .int .i64 xm, sv xs, sv xt] 41)) HA3.out S6
            have HC4 : Hid (Loc w6 A1 A2 b4 #[.pointer (some ⟨A2.b, 0, none⟩), .pointer (some ⟨A2.bn, 0, none⟩), .pointer (some ⟨A2.bt, 0, none⟩)] 29) := by
              have h := Loc.stepY (W := w5.alloc (.cells #[.int .i64 xe, .int .i64 xn, .int .i64 xm, sv xs, sv xt] 41)) HA4.out S6
              unfold sideC at h
              rw [← S6.b, ← S6.bn, ← S6.bt] at h
              exact h
            have HC5 : Hid (Loc w6 A1 A2 b5 #[.int .i64 at1, .int .u64 an1, sv as1, .int .i64 bt1, .int .u64 bn1, sv bs1] 35) := Loc.stepY (W := w5.alloc (.cells #[.int .i64 xe, .int .i64 xn, .int .i64 xm, sv xs, sv xt] 41)) HA5.out S6
            have HC8 : Hid (Loc w6 A1 A2 w5.heap.size #[.int .i64 xe, .int .i64 xn, .int .i64 xm, sv xs, sv xt] 41) := Loc.stepY (W := w5.alloc (.cells #[.int .i64 xe, .int .i64 xn, .int .i64 xm, sv xs, sv xt] 41)) HL8.out S6
            clear hx2 R6 S6 HT7 HT8 HV3 HV4 HV5 HV7 HA3 HA4 HA5 HL8 x0 x1 x2 xl y0 y1 y2 yl r0 r1 r2 r3 r4 r5 rl p0 p1 p2 p3 p4 p5 pl
            have x0 : w6.cell? ⟨b3, 0, none⟩ = some (.pointer (some ⟨A1.b, 0, none⟩)) := HC3.out.h.cell 0
            have x1 : w6.cell? ⟨b3, 1, none⟩ = some (.pointer (some ⟨A1.bn, 0, none⟩)) := HC3.out.h.cell 1
            have x2 : w6.cell? ⟨b3, 2, none⟩ = some (.pointer (some ⟨A1.bt, 0, none⟩)) := HC3.out.h.cell 2
            have xl := HC3.out.h.lt
            have y0 : w6.cell? ⟨b4, 0, none⟩ = some (.pointer (some ⟨A2.b, 0, none⟩)) := HC4.out.h.cell 0
            have y1 : w6.cell? ⟨b4, 1, none⟩ = some (.pointer (some ⟨A2.bn, 0, none⟩)) := HC4.out.h.cell 1
            have y2 : w6.cell? ⟨b4, 2, none⟩ = some (.pointer (some ⟨A2.bt, 0, none⟩)) := HC4.out.h.cell 2
            have yl := HC4.out.h.lt
            obtain ⟨SX, HSX⟩ : ∃ x, Hid (showM σ1 = x) := ⟨_, rfl⟩
            obtain ⟨TX, HTX⟩ : ∃ x, Hid (showT σ1.m.tabs = x) := ⟨_, rfl⟩
            have HTA : Hid (Two w A1 A2 σ1 σ1 (w6.alloc (.cells #[.int .i64 xe, .int .i64 xn, .int .i64 xm, sv xs, sv xt] 41))) := HT9.out.fresh ((Fr.refl _ _).alloc _)
            have HLA : Hid (Loc (w6.alloc (.cells #[.int .i64 xe, .int .i64 xn, .int .i64 xm, sv xs, sv xt] 41)) A1 A2 w6.heap.size #[.int .i64 xe, .int .i64 xn, .int .i64 xm, sv xs, sv xt] 41) := HT9.out.loc _ _ rfl
            have hq := ans_neq0 ⟨xe, xn, xm, xs, xt⟩
            go_wp2_with fail
            refine (show_all HTA.out.rx HD1.out).mono ?_
            rintro e' w7 ⟨rfl, F7⟩
            rw [HSX.out]
            have HTB : Hid (Two w A1 A2 σ1 σ1 w7) := HTA.out.fresh F7
            have HLB : Hid (Loc w7 A1 A2 w6.heap.size #[.int .i64 xe, .int .i64 xn, .int .i64 xm, sv xs, sv xt] 41) := HLA.out.fresh F7
            have HD3 : Hid (Loc w7 A1 A2 b3 #[.pointer (some ⟨A1.b, 0, none⟩), .pointer (some ⟨A1.bn, 0, none⟩), .pointer (some ⟨A1.bt, 0, none⟩)] 29) := (HC3.out.fresh ((Fr.refl _ _).alloc _)).fresh F7
            have HD4 : Hid (Loc w7 A1 A2 b4 #[.pointer (some ⟨A2.b, 0, none⟩), .pointer (some ⟨A2.bn, 0, none⟩), .pointer (some ⟨A2.bt, 0, none⟩)] 29) := (HC4.out.fresh ((Fr.refl _ _).alloc _)).fresh F7
            have HD5 : Hid (Loc w7 A1 A2 b5 #[.int .i64 at1, .int .u64 an1, sv as1, .int .i64 bt1, .int .u64 bn1, sv bs1] 35) := (HC5.out.fresh ((Fr.refl _ _).alloc _)).fresh F7
            have HD8 : Hid (Loc w7 A1 A2 w5.heap.size #[.int .i64 xe, .int .i64 xn, .int .i64 xm, sv xs, sv xt] 41) := (HC8.out.fresh ((Fr.refl _ _).alloc _)).fresh F7
            clear F7 HTA HLA HC3 HC4 HC5 HC8 HT9 x0 x1 x2 xl y0 y1 y2 yl
            obtain ⟨b8, HB8⟩ : ∃ b, Hid (w5.heap.size = b) := ⟨_, rfl⟩
            obtain ⟨bA, HBA⟩ : ∃ b, Hid (w6.heap.size = b) := ⟨_, rfl⟩
            rw [HB8.out] at HD8 ⊢
            rw [HBA.out] at HLB ⊢
            have x0 : w7.cell? ⟨b3, 0, none⟩ = some (.pointer (some ⟨A1.b, 0, none⟩)) := HD3.out.h.cell 0
            have x1 : w7.cell? ⟨b3, 1, none⟩ = some (.pointer (some ⟨A1.bn, 0, none⟩)) := HD3.out.h.cell 1
            have x2 : w7.cell? ⟨b3, 2, none⟩ = some (.pointer (some ⟨A1.bt, 0, none⟩)) := HD3.out.h.cell 2
            have xl := HD3.out.h.lt
            have y0 : w7.cell? ⟨b4, 0, none⟩ = some (.pointer (some ⟨A2.b, 0, none⟩)) := HD4.out.h.cell 0
            have y1 : w7.cell? ⟨b4, 1, none⟩ = some (.pointer (some ⟨A2.bn, 0, none⟩)) := HD4.out.h.cell 1
            have y2 : w7.cell? ⟨b4, 2, none⟩ = some (.pointer (some ⟨A2.bt, 0, none⟩)) := HD4.out.h.cell 2
            have yl := HD4.out.h.lt
            go_wp2_with fail
            refine (show_all HTB.out.ry HD1.out).mono ?_
            rintro e' w8 ⟨rfl, F8⟩
            rw [HSX.out]
            have HTC : Hid (Two w A1 A2 σ1 σ1 w8) := HTB.out.fresh F8
            have HLC : Hid (Loc w8 A1 A2 bA #[.int .i64 xe, .int .i64 xn, .int .i64 xm, sv xs, sv xt] 41) := HLB.out.fresh F8
            have HE3 : Hid (Loc w8 A1 A2 b3 #[.pointer (some ⟨A1.b, 0, none⟩), .pointer (some ⟨A1.bn, 0, none⟩), .pointer (some ⟨A1.bt, 0, none⟩)] 29) := HD3.out.fresh F8
            have HE4 : Hid (Loc w8 A1 A2 b4 #[.pointer (some ⟨A2.b, 0, none⟩), .pointer (some ⟨A2.bn, 0, none⟩), .pointer (some ⟨A2.bt, 0, none⟩)] 29) := HD4.out.fresh F8
            have HE5 : Hid (Loc w8 A1 A2 b5 #[.int .i64 at1, .int .u64 an1, sv as1, .int .i64 bt1, .int .u64 bn1, sv bs1] 35) := HD5.out.fresh F8
            have HE8 : Hid (Loc w8 A1 A2 b8 #[.int .i64 xe, .int .i64 xn, .int .i64 xm, sv xs, sv xt] 41) := HD8.out.fresh F8
            clear F8 HTB HLB HD3 HD4 HD5 HD8 x0 x1 x2 xl y0 y1 y2 yl
            have x0 : w8.cell? ⟨b3, 0, none⟩ = some (.pointer (some ⟨A1.b, 0, none⟩)) := HE3.out.h.cell 0
            have x1 : w8.cell? ⟨b3, 1, none⟩ = some (.pointer (some ⟨A1.bn, 0, none⟩)) := HE3.out.h.cell 1
            have x2 : w8.cell? ⟨b3, 2, none⟩ = some (.pointer (some ⟨A1.bt, 0, none⟩)) := HE3.out.h.cell 2
            have xl := HE3.out.h.lt
            have y0 : w8.cell? ⟨b4, 0, none⟩ = some (.pointer (some ⟨A2.b, 0, none⟩)) := HE4.out.h.cell 0
            have y1 : w8.cell? ⟨b4, 1, none⟩ = some (.pointer (some ⟨A2.bn, 0, none⟩)) := HE4.out.h.cell 1
            have y2 : w8.cell? ⟨b4, 2, none⟩ = some (.pointer (some ⟨A2.bt, 0, none⟩)) := HE4.out.h.cell 2
            have yl := HE4.out.h.lt
            have u0 : w8.cell? ⟨b8, 0, none⟩ = some (.int .i64 xe) := HE8.out.h.cell 0
            have u1 : w8.cell? ⟨b8, 1, none⟩ = some (.int .i64 xn) := HE8.out.h.cell 1
            have u2 : w8.cell? ⟨b8, 2, none⟩ = some (.int .i64 xm) := HE8.out.h.cell 2
            have u3 : w8.cell? ⟨b8, 3, none⟩ = some (sv xs) := HE8.out.h.cell 3
            have u4 : w8.cell? ⟨b8, 4, none⟩ = some (sv xt) := HE8.out.h.cell 4
            have v0 : w8.cell? ⟨bA, 0, none⟩ = some (.int .i64 xe) := HLC.out.h.cell 0
            have v1 : w8.cell? ⟨bA, 1, none⟩ = some (.int .i64 xn) := HLC.out.h.cell 1
            have v2 : w8.cell? ⟨bA, 2, none⟩ = some (.int .i64 xm) := HLC.out.h.cell 2
            have v3 : w8.cell? ⟨bA, 3, none⟩ = some (sv xs) := HLC.out.h.cell 3
            have v4 : w8.cell? ⟨bA, 4, none⟩ = some (sv xt) := HLC.out.h.cell 4
            have ul := HE8.out.h.lt
            have vl := HLC.out.h.lt
            go_wp2_with fail
            refine (tabs_all HTC.out.rx HD1.out).mono ?_
            rintro e' w9 ⟨rfl, F9⟩
            rw [HTX.out]
            have HTD : Hid (Two w A1 A2 σ1 σ1 w9) := HTC.out.fresh F9
            have HF3 : Hid (Loc w9 A1 A2 b3 #[.pointer (some ⟨A1.b, 0, none⟩), .pointer (some ⟨A1.bn, 0, none⟩), .pointer (some ⟨A1.bt, 0, none⟩)] 29) := HE3.out.fresh F9
            have HF4 : Hid (Loc w9 A1 A2 b4 #[.pointer (some ⟨A2.b, 0, none⟩), .pointer (some ⟨A2.bn, 0, none⟩), .pointer (some ⟨A2.bt, 0, none⟩)] 29) := HE4.out.fresh F9
            have HF5 : Hid (Loc w9 A1 A2 b5 #[.int .i64 at1, .int .u64 an1, sv as1, .int .i64 bt1, .int .u64 bn1, sv bs1] 35) := HE5.out.fresh F9
            clear F9 HTC HLC HE3 HE4 HE5 HE8 x0 x1 x2 xl y0 y1 y2 yl u0 u1 u2 u3 u4 v0 v1 v2 v3 v4 ul vl
            have y0 : w9.cell? ⟨b4, 0, none⟩ = some (.pointer (some ⟨A2.b, 0, none⟩)) := HF4.out.h.cell 0
            have y1 : w9.cell? ⟨b4, 1, none⟩ = some (.pointer (some ⟨A2.bn, 0, none⟩)) := HF4.out.h.cell 1
            have y2 : w9.cell? ⟨b4, 2, none⟩ = some (.pointer (some ⟨A2.bt, 0, none⟩)) := HF4.out.h.cell 2
            have yl := HF4.out.h.lt
            go_wp2_with fail
            refine (tabs_all HTD.out.ry HD1.out).mono ?_
            rintro e' wA ⟨rfl, FA⟩
            rw [HTX.out]
            have HKN : Hid (∃ (Ax Ay : VL) (σ : St) (r : RegD), KpI w b3 b4 b5 Ax Ay σ r wA) := ⟨A1, A2, σ1, ⟨⟨at1, an1, as1⟩, ⟨bt1, bn1, bs1⟩⟩, HTD.out.fresh FA, HD1.out, HR2.out, HF3.out.fresh FA, HF4.out.fresh FA, HF5.out.fresh FA⟩
            clear FA HTD HF3 HF4 HF5 y0 y1 y2 yl
            go_wp2_with fail
            go_roundg n
            case measure => exact Nat.lt_succ_self _
            case rel => exact ⟨k + 1, by simp, by omega, HKN⟩
          · go_wp2_with fail
            refine fresh_any.mono ?_
            rintro e' w4 ⟨Az, he0, B4⟩
            obtain rfl : e' = .returned (.agg #[.pointer (some ⟨Az.b, 0, none⟩), .pointer (some ⟨Az.bn, 0, none⟩), .pointer (some ⟨Az.bt, 0, none⟩)]) := he0
            have HT5 : Hid (Two w Ax Az σ st0 w4) := Two.newY (W := ((((((w3.setCell ⟨b5, 0, none⟩ (.int .i64 at1)).setCell ⟨b5, 1, none⟩ (.int .u64 an1)).setCell ⟨b5, 2, none⟩ (sv as1)).setCell ⟨b5, 3, none⟩ (.int .i64 bt1)).setCell ⟨b5, 4, none⟩ (.int .u64 bn1)).setCell ⟨b5, 5, none⟩ (sv bs1))) HT4.out B4
            have HQ3 : Hid (Loc w4 Ax Az b3 (sideC Ax) 29) := Loc.newY (W := ((((((w3.setCell ⟨b5, 0, none⟩ (.int .i64 at1)).setCell ⟨b5, 1, none⟩ (.int .u64 an1)).setCell ⟨b5, 2, none⟩ (sv as1)).setCell ⟨b5, 3, none⟩ (.int .i64 bt1)).setCell ⟨b5, 4, none⟩ (.int .u64 bn1)).setCell ⟨b5, 5, none⟩ (sv bs1))) HP3.out B4
            have HQ4 : Hid (Loc w4 Ax Az b4 (sideC Ay) 29) := Loc.newY (W := ((((((w3.setCell ⟨b5, 0, none⟩ (.int .i64 at1)).setCell ⟨b5, 1, none⟩ (.int .u64 an1)).setCell ⟨b5, 2, none⟩ (sv as1)).setCell ⟨b5, 3, none⟩ (.int .i64 bt1)).setCell ⟨b5, 4, none⟩ (.int .u64 bn1)).setCell ⟨b5, 5, none⟩ (sv bs1))) HP4.out B4
            have HQ5 : Hid (Loc w4 Ax Az b5 #[.int .i64 at1, .int .u64 an1, sv as1, .int .i64 bt1, .int .u64 bn1, sv bs1] 35) := Loc.newY (W := ((((((w3.setCell ⟨b5, 0, none⟩ (.int .i64 at1)).setCell ⟨b5, 1, none⟩ (.int .u64 an1)).setCell ⟨b5, 2, none⟩ (sv as1)).setCell ⟨b5, 3, none⟩ (.int .i64 bt1)).setCell ⟨b5, 4, none⟩ (.int .u64 bn1)).setCell ⟨b5, 5, none⟩ (sv bs1))) HP5.out B4
            have HQ7 : Hid (Loc w4 Ax Az b7 #[.int .i64 ok, .int .i64 oa, .int .i64 ob, .int .i64 oc, sv oS, sv oT] 37) := Loc.newY (W := ((((((w3.setCell ⟨b5, 0, none⟩ (.int .i64 at1)).setCell ⟨b5, 1, none⟩ (.int .u64 an1)).setCell ⟨b5, 2, none⟩ (sv as1)).setCell ⟨b5, 3, none⟩ (.int .i64 bt1)).setCell ⟨b5, 4, none⟩ (.int .u64 bn1)).setCell ⟨b5, 5, none⟩ (sv bs1))) HP7.out B4
            clear B4 HT4 HP3 HP4 HP5 HP7 x0 x1 x2 xl y0 y1 y2 yl r0 r1 r2 r3 r4 r5 rl rf0 rf1 rf2 rf3 rf4 rf5 p0 p1 p2 p3 p4 p5 pl
            have x0 : w4.cell? ⟨b3, 0, none⟩ = some (.pointer (some ⟨Ax.b, 0, none⟩)) := HQ3.out.h.cell 0
            have x1 : w4.cell? ⟨b3, 1, none⟩ = some (.pointer (some ⟨Ax.bn, 0, none⟩)) := HQ3.out.h.cell 1
            have x2 : w4.cell? ⟨b3, 2, none⟩ = some (.pointer (some ⟨Ax.bt, 0, none⟩)) := HQ3.out.h.cell 2
            have xl := HQ3.out.h.lt
            have y0 : w4.cell? ⟨b4, 0, none⟩ = some (.pointer (some ⟨Ay.b, 0, none⟩)) := HQ4.out.h.cell 0
            have y1 : w4.cell? ⟨b4, 1, none⟩ = some (.pointer (some ⟨Ay.bn, 0, none⟩)) := HQ4.out.h.cell 1
            have y2 : w4.cell? ⟨b4, 2, none⟩ = some (.pointer (some ⟨Ay.bt, 0, none⟩)) := HQ4.out.h.cell 2
            have yl := HQ4.out.h.lt
            have yf0 : w4.frozen? ⟨b4, 0, none⟩ = false := HQ4.out.h.frozen 0
            have yf1 : w4.frozen? ⟨b4, 1, none⟩ = false := HQ4.out.h.frozen 1
            have yf2 : w4.frozen? ⟨b4, 2, none⟩ = false := HQ4.out.h.frozen 2
            have r0 : w4.cell? ⟨b5, 0, none⟩ = some (.int .i64 at1) := HQ5.out.h.cell 0
            have r1 : w4.cell? ⟨b5, 1, none⟩ = some (.int .u64 an1) := HQ5.out.h.cell 1
            have r2 : w4.cell? ⟨b5, 2, none⟩ = some (sv as1) := HQ5.out.h.cell 2
            have r3 : w4.cell? ⟨b5, 3, none⟩ = some (.int .i64 bt1) := HQ5.out.h.cell 3
            have r4 : w4.cell? ⟨b5, 4, none⟩ = some (.int .u64 bn1) := HQ5.out.h.cell 4
            have r5 : w4.cell? ⟨b5, 5, none⟩ = some (sv bs1) := HQ5.out.h.cell 5
            have rl := HQ5.out.h.lt
            have p0 : w4.cell? ⟨b7, 0, none⟩ = some (.int .i64 ok) := HQ7.out.h.cell 0
            have p1 : w4.cell? ⟨b7, 1, none⟩ = some (.int .i64 oa) := HQ7.out.h.cell 1
            have p2 : w4.cell? ⟨b7, 2, none⟩ = some (.int .i64 ob) := HQ7.out.h.cell 2
            have p3 : w4.cell? ⟨b7, 3, none⟩ = some (.int .i64 oc) := HQ7.out.h.cell 3
            have p4 : w4.cell? ⟨b7, 4, none⟩ = some (sv oS) := HQ7.out.h.cell 4
            have p5 : w4.cell? ⟨b7, 5, none⟩ = some (sv oT) := HQ7.out.h.cell 5
            have pl := HQ7.out.h.lt
            have HT6 : Hid (Two w Ax Az σ st0 (((w4.setCell ⟨b4, 0, none⟩ (.pointer (some ⟨Az.b, 0, none⟩))).setCell ⟨b4, 1, none⟩ (.pointer (some ⟨Az.bn, 0, none⟩))).setCell ⟨b4, 2, none⟩ (.pointer (some ⟨Az.bt, 0, none⟩)))) := HT5.out.set3 HQ4.out HG.out.2.1 _ _ _
            have HU3 : Hid (Loc (((w4.setCell ⟨b4, 0, none⟩ (.pointer (some ⟨Az.b, 0, none⟩))).setCell ⟨b4, 1, none⟩ (.pointer (some ⟨Az.bn, 0, none⟩))).setCell ⟨b4, 2, none⟩ (.pointer (some ⟨Az.bt, 0, none⟩))) Ax Az b3 (sideC Ax) 29) := HQ3.out.other3 hne34 _ _ _
            have HU4 : Hid (Loc (((w4.setCell ⟨b4, 0, none⟩ (.pointer (some ⟨Az.b, 0, none⟩))).setCell ⟨b4, 1, none⟩ (.pointer (some ⟨Az.bn, 0, none⟩))).setCell ⟨b4, 2, none⟩ (.pointer (some ⟨Az.bt, 0, none⟩))) Ax Az b4 (sideC Az) 29) := HQ4.out.set3 _ _ _
            have HU5 : Hid (Loc (((w4.setCell ⟨b4, 0, none⟩ (.pointer (some ⟨Az.b, 0, none⟩))).setCell ⟨b4, 1, none⟩ (.pointer (some ⟨Az.bn, 0, none⟩))).setCell ⟨b4, 2, none⟩ (.pointer (some ⟨Az.bt, 0, none⟩))) Ax Az b5 #[.int .i64 at1, .int .u64 an1, sv as1, .int .i64 bt1, .int .u64 bn1, sv bs1] 35) := HQ5.out.other3 hne54 _ _ _
            have HU7 : Hid (Loc (((w4.setCell ⟨b4, 0, none⟩ (.pointer (some ⟨Az.b, 0, none⟩))).setCell ⟨b4, 1, none⟩ (.pointer (some ⟨Az.bn, 0, none⟩))).setCell ⟨b4, 2, none⟩ (.pointer (some ⟨Az.bt, 0, none⟩))) Ax Az b7 #[.int .i64 ok, .int .i64 oa, .int .i64 ob, .int .i64 oc, sv oS, sv oT] 37) := HQ7.out.other3 hne74 _ _ _
            have HDY : Hid (DI st0) := DI.zero
            clear HT5 HQ3 HQ4 HQ5 HQ7
            go_wp2_with fail
            refine (show Calls Tryz.prog 6 #[.agg #[.pointer (some ⟨Ax.b, 0, none⟩), .pointer (some ⟨Ax.bn, 0, none⟩), .pointer (some ⟨Ax.bt, 0, none⟩)], RegD.val ⟨⟨at1, an1, as1⟩, ⟨bt1, bn1, bs1⟩⟩, OpD.val ⟨ok, oa, ob, oc, oS, oT⟩] _ _ from heldTop_any HT6.out.rx HDI.out HOI.out HR2.out).mono ?_
            rintro e' w5 ⟨xa, σ1, A1, rfl, hx1, R5, S5⟩
            have HX1 : Hid (StepR σ ⟨⟨at1, an1, as1⟩, ⟨bt1, bn1, bs1⟩⟩ ⟨ok, oa, ob, oc, oS, oT⟩ xa σ1) := hx1
            have HD1 : Hid (DI σ1) := hx1.di HDI.out HOI.out HR2.out
            have HT7 : Hid (Two w A1 Az σ1 st0 w5) := Two.stepX (W := (((w4.setCell ⟨b4, 0, none⟩ (.pointer (some ⟨Az.b, 0, none⟩))).setCell ⟨b4, 1, none⟩ (.pointer (some ⟨Az.bn, 0, none⟩))).setCell ⟨b4, 2, none⟩ (.pointer (some ⟨Az.bt, 0, none⟩)))) HT6.out S5 R5
            have HV3 : Hid (Loc w5 A1 Az b3 #[.pointer (some ⟨A1.b, 0, none⟩), .pointer (some ⟨A1.bn, 0, none⟩), .pointer (some ⟨A1.bt, 0, none⟩)] 29) := by
              have h := Loc.stepX (W := (((w4.setCell ⟨b4, 0, none⟩ (.pointer (some ⟨Az.b, 0, none⟩))).setCell ⟨b4, 1, none⟩ (.pointer (some ⟨Az.bn, 0, none⟩))).setCell ⟨b4, 2, none⟩ (.pointer (some ⟨Az.bt, 0, none⟩)))) HU3.out S5
              unfold sideC at h
              rw [← S5.b, ← S5.bn, ← S5.bt] at h
              exact h
            have HV4 : Hid (Loc w5 A1 Az b4 (sideC Az) 29) := Loc.stepX (W := (((w4.setCell ⟨b4, 0, none⟩ (.pointer (some ⟨Az.b, 0, none⟩))).setCell ⟨b4, 1, none⟩ (.pointer (some ⟨Az.bn, 0, none⟩))).setCell ⟨b4, 2, none⟩ (.pointer (some ⟨Az.bt, 0, none⟩)))) HU4.out S5
            have HV5 : Hid (Loc w5 A1 Az b5 #[.int .i64 at1, .int .u64 an1, sv as1, .int .i64 bt1, .int .u64 bn1, sv bs1] 35) := Loc.stepX (W := (((w4.setCell ⟨b4, 0, none⟩ (.pointer (some ⟨Az.b, 0, none⟩))).setCell ⟨b4, 1, none⟩ (.pointer (some ⟨Az.bn, 0, none⟩))).setCell ⟨b4, 2, none⟩ (.pointer (some ⟨Az.bt, 0, none⟩)))) HU5.out S5
            have HV7 : Hid (Loc w5 A1 Az b7 #[.int .i64 ok, .int .i64 oa, .int .i64 ob, .int .i64 oc, sv oS, sv oT] 37) := Loc.stepX (W := (((w4.setCell ⟨b4, 0, none⟩ (.pointer (some ⟨Az.b, 0, none⟩))).setCell ⟨b4, 1, none⟩ (.pointer (some ⟨Az.bn, 0, none⟩))).setCell ⟨b4, 2, none⟩ (.pointer (some ⟨Az.bt, 0, none⟩)))) HU7.out S5
            clear hx1 R5 S5 HT6 HU3 HU4 HU5 HU7 x0 x1 x2 xl y0 y1 y2 yl yf0 yf1 yf2 r0 r1 r2 r3 r4 r5 rl p0 p1 p2 p3 p4 p5 pl
            obtain ⟨⟨xe, xn, xm, xs, xt⟩, HXX⟩ : ∃ y, Hid (xa = y) := ⟨xa, rfl⟩
            rw [HXX.out] at HX1 ⊢
            have x0 : w5.cell? ⟨b3, 0, none⟩ = some (.pointer (some ⟨A1.b, 0, none⟩)) := HV3.out.h.cell 0
            have x1 : w5.cell? ⟨b3, 1, none⟩ = some (.pointer (some ⟨A1.bn, 0, none⟩)) := HV3.out.h.cell 1
            have x2 : w5.cell? ⟨b3, 2, none⟩ = some (.pointer (some ⟨A1.bt, 0, none⟩)) := HV3.out.h.cell 2
            have xl := HV3.out.h.lt
            have y0 : w5.cell? ⟨b4, 0, none⟩ = some (.pointer (some ⟨Az.b, 0, none⟩)) := HV4.out.h.cell 0
            have y1 : w5.cell? ⟨b4, 1, none⟩ = some (.pointer (some ⟨Az.bn, 0, none⟩)) := HV4.out.h.cell 1
            have y2 : w5.cell? ⟨b4, 2, none⟩ = some (.pointer (some ⟨Az.bt, 0, none⟩)) := HV4.out.h.cell 2
            have yl := HV4.out.h.lt
            have r0 : w5.cell? ⟨b5, 0, none⟩ = some (.int .i64 at1) := HV5.out.h.cell 0
            have r1 : w5.cell? ⟨b5, 1, none⟩ = some (.int .u64 an1) := HV5.out.h.cell 1
            have r2 : w5.cell? ⟨b5, 2, none⟩ = some (sv as1) := HV5.out.h.cell 2
            have r3 : w5.cell? ⟨b5, 3, none⟩ = some (.int .i64 bt1) := HV5.out.h.cell 3
            have r4 : w5.cell? ⟨b5, 4, none⟩ = some (.int .u64 bn1) := HV5.out.h.cell 4
            have r5 : w5.cell? ⟨b5, 5, none⟩ = some (sv bs1) := HV5.out.h.cell 5
            have rl := HV5.out.h.lt
            have p0 : w5.cell? ⟨b7, 0, none⟩ = some (.int .i64 ok) := HV7.out.h.cell 0
            have p1 : w5.cell? ⟨b7, 1, none⟩ = some (.int .i64 oa) := HV7.out.h.cell 1
            have p2 : w5.cell? ⟨b7, 2, none⟩ = some (.int .i64 ob) := HV7.out.h.cell 2
            have p3 : w5.cell? ⟨b7, 3, none⟩ = some (.int .i64 oc) := HV7.out.h.cell 3
            have p4 : w5.cell? ⟨b7, 4, none⟩ = some (sv oS) := HV7.out.h.cell 4
            have p5 : w5.cell? ⟨b7, 5, none⟩ = some (sv oT) := HV7.out.h.cell 5
            have pl := HV7.out.h.lt
            have HT8 : Hid (Two w A1 Az σ1 st0 (w5.alloc (.cells #[.int .i64 xe, .int .i64 xn, .int .i64 xm, sv xs, sv xt] 41))) := HT7.out.fresh ((Fr.refl _ _).alloc _)
            have HL8 : Hid (Loc (w5.alloc (.cells #[.int .i64 xe, .int .i64 xn, .int .i64 xm, sv xs, sv xt] 41)) A1 Az w5.heap.size #[.int .i64 xe, .int .i64 xn, .int .i64 xm, sv xs, sv xt] 41) := HT7.out.loc _ _ rfl
            have HA3 : Hid (Loc (w5.alloc (.cells #[.int .i64 xe, .int .i64 xn, .int .i64 xm, sv xs, sv xt] 41)) A1 Az b3 #[.pointer (some ⟨A1.b, 0, none⟩), .pointer (some ⟨A1.bn, 0, none⟩), .pointer (some ⟨A1.bt, 0, none⟩)] 29) := HV3.out.fresh ((Fr.refl _ _).alloc _)
            have HA4 : Hid (Loc (w5.alloc (.cells #[.int .i64 xe, .int .i64 xn, .int .i64 xm, sv xs, sv xt] 41)) A1 Az b4 (sideC Az) 29) := HV4.out.fresh ((Fr.refl _ _).alloc _)
            have HA5 : Hid (Loc (w5.alloc (.cells #[.int .i64 xe, .int .i64 xn, .int .i64 xm, sv xs, sv xt] 41)) A1 Az b5 #[.int .i64 at1, .int .u64 an1, sv as1, .int .i64 bt1, .int .u64 bn1, sv bs1] 35) := HV5.out.fresh ((Fr.refl _ _).alloc _)
            go_wp2_with fail
            refine (show Calls Tryz.prog 6 #[.agg #[.pointer (some ⟨Az.b, 0, none⟩), .pointer (some ⟨Az.bn, 0, none⟩), .pointer (some ⟨Az.bt, 0, none⟩)], RegD.val ⟨⟨at1, an1, as1⟩, ⟨bt1, bn1, bs1⟩⟩, OpD.val ⟨ok, oa, ob, oc, oS, oT⟩] _ _ from heldTop_any HT8.out.ry HDY.out HOI.out HR2.out).mono ?_
            rintro e' w6 ⟨ya, σ2, A2, rfl, hx2, R6, S6⟩
            obtain ⟨hye, hys⟩ := HSAME.out _ _ _ _ _ _ HX1.out hx2
            subst hye
            subst hys
            have HT9 : Hid (Two w A1 A2 σ1 σ1 w6) := Two.stepY (W := w5.alloc (.cells #[.int .i64 xe, .int .i64 xn, .int .i64 xm, sv xs, sv xt] 41)) HT8.out S6 R6
            have HC3 : Hid (Loc w6 A1 A2 b3 #[.pointer (some ⟨A1.b, 0, none⟩), .pointer (some ⟨A1.bn, 0, none⟩), .pointer (some ⟨A1.bt, 0, none⟩)] 29) := Loc.stepY (W := w5.alloc (.cells #[.int .i64 xe, .int .i64 xn, .int .i64 xm, sv xs, sv xt] 41)) HA3.out S6
            have HC4 : Hid (Loc w6 A1 A2 b4 #[.pointer (some ⟨A2.b, 0, none⟩), .pointer (some ⟨A2.bn, 0, none⟩), .pointer (some ⟨A2.bt, 0, none⟩)] 29) := by
              have h := Loc.stepY (W := w5.alloc (.cells #[.int .i64 xe, .int .i64 xn, .int .i64 xm, sv xs, sv xt] 41)) HA4.out S6
              unfold sideC at h
              rw [← S6.b, ← S6.bn, ← S6.bt] at h
              exact h
            have HC5 : Hid (Loc w6 A1 A2 b5 #[.int .i64 at1, .int .u64 an1, sv as1, .int .i64 bt1, .int .u64 bn1, sv bs1] 35) := Loc.stepY (W := w5.alloc (.cells #[.int .i64 xe, .int .i64 xn, .int .i64 xm, sv xs, sv xt] 41)) HA5.out S6
            have HC8 : Hid (Loc w6 A1 A2 w5.heap.size #[.int .i64 xe, .int .i64 xn, .int .i64 xm, sv xs, sv xt] 41) := Loc.stepY (W := w5.alloc (.cells #[.int .i64 xe, .int .i64 xn, .int .i64 xm, sv xs, sv xt] 41)) HL8.out S6
            clear hx2 R6 S6 HT7 HT8 HV3 HV4 HV5 HV7 HA3 HA4 HA5 HL8 x0 x1 x2 xl y0 y1 y2 yl r0 r1 r2 r3 r4 r5 rl p0 p1 p2 p3 p4 p5 pl
            have x0 : w6.cell? ⟨b3, 0, none⟩ = some (.pointer (some ⟨A1.b, 0, none⟩)) := HC3.out.h.cell 0
            have x1 : w6.cell? ⟨b3, 1, none⟩ = some (.pointer (some ⟨A1.bn, 0, none⟩)) := HC3.out.h.cell 1
            have x2 : w6.cell? ⟨b3, 2, none⟩ = some (.pointer (some ⟨A1.bt, 0, none⟩)) := HC3.out.h.cell 2
            have xl := HC3.out.h.lt
            have y0 : w6.cell? ⟨b4, 0, none⟩ = some (.pointer (some ⟨A2.b, 0, none⟩)) := HC4.out.h.cell 0
            have y1 : w6.cell? ⟨b4, 1, none⟩ = some (.pointer (some ⟨A2.bn, 0, none⟩)) := HC4.out.h.cell 1
            have y2 : w6.cell? ⟨b4, 2, none⟩ = some (.pointer (some ⟨A2.bt, 0, none⟩)) := HC4.out.h.cell 2
            have yl := HC4.out.h.lt
            obtain ⟨SX, HSX⟩ : ∃ x, Hid (showM σ1 = x) := ⟨_, rfl⟩
            obtain ⟨TX, HTX⟩ : ∃ x, Hid (showT σ1.m.tabs = x) := ⟨_, rfl⟩
            have HTA : Hid (Two w A1 A2 σ1 σ1 (w6.alloc (.cells #[.int .i64 xe, .int .i64 xn, .int .i64 xm, sv xs, sv xt] 41))) := HT9.out.fresh ((Fr.refl _ _).alloc _)
            have HLA : Hid (Loc (w6.alloc (.cells #[.int .i64 xe, .int .i64 xn, .int .i64 xm, sv xs, sv xt] 41)) A1 A2 w6.heap.size #[.int .i64 xe, .int .i64 xn, .int .i64 xm, sv xs, sv xt] 41) := HT9.out.loc _ _ rfl
            have hq := ans_neq0 ⟨xe, xn, xm, xs, xt⟩
            go_wp2_with fail
            refine (show_all HTA.out.rx HD1.out).mono ?_
            rintro e' w7 ⟨rfl, F7⟩
            rw [HSX.out]
            have HTB : Hid (Two w A1 A2 σ1 σ1 w7) := HTA.out.fresh F7
            have HLB : Hid (Loc w7 A1 A2 w6.heap.size #[.int .i64 xe, .int .i64 xn, .int .i64 xm, sv xs, sv xt] 41) := HLA.out.fresh F7
            have HD3 : Hid (Loc w7 A1 A2 b3 #[.pointer (some ⟨A1.b, 0, none⟩), .pointer (some ⟨A1.bn, 0, none⟩), .pointer (some ⟨A1.bt, 0, none⟩)] 29) := (HC3.out.fresh ((Fr.refl _ _).alloc _)).fresh F7
            have HD4 : Hid (Loc w7 A1 A2 b4 #[.pointer (some ⟨A2.b, 0, none⟩), .pointer (some ⟨A2.bn, 0, none⟩), .pointer (some ⟨A2.bt, 0, none⟩)] 29) := (HC4.out.fresh ((Fr.refl _ _).alloc _)).fresh F7
            have HD5 : Hid (Loc w7 A1 A2 b5 #[.int .i64 at1, .int .u64 an1, sv as1, .int .i64 bt1, .int .u64 bn1, sv bs1] 35) := (HC5.out.fresh ((Fr.refl _ _).alloc _)).fresh F7
            have HD8 : Hid (Loc w7 A1 A2 w5.heap.size #[.int .i64 xe, .int .i64 xn, .int .i64 xm, sv xs, sv xt] 41) := (HC8.out.fresh ((Fr.refl _ _).alloc _)).fresh F7
            clear F7 HTA HLA HC3 HC4 HC5 HC8 HT9 x0 x1 x2 xl y0 y1 y2 yl
            obtain ⟨b8, HB8⟩ : ∃ b, Hid (w5.heap.size = b) := ⟨_, rfl⟩
            obtain ⟨bA, HBA⟩ : ∃ b, Hid (w6.heap.size = b) := ⟨_, rfl⟩
            rw [HB8.out] at HD8 ⊢
            rw [HBA.out] at HLB ⊢
            have x0 : w7.cell? ⟨b3, 0, none⟩ = some (.pointer (some ⟨A1.b, 0, none⟩)) := HD3.out.h.cell 0
            have x1 : w7.cell? ⟨b3, 1, none⟩ = some (.pointer (some ⟨A1.bn, 0, none⟩)) := HD3.out.h.cell 1
            have x2 : w7.cell? ⟨b3, 2, none⟩ = some (.pointer (some ⟨A1.bt, 0, none⟩)) := HD3.out.h.cell 2
            have xl := HD3.out.h.lt
            have y0 : w7.cell? ⟨b4, 0, none⟩ = some (.pointer (some ⟨A2.b, 0, none⟩)) := HD4.out.h.cell 0
            have y1 : w7.cell? ⟨b4, 1, none⟩ = some (.pointer (some ⟨A2.bn, 0, none⟩)) := HD4.out.h.cell 1
            have y2 : w7.cell? ⟨b4, 2, none⟩ = some (.pointer (some ⟨A2.bt, 0, none⟩)) := HD4.out.h.cell 2
            have yl := HD4.out.h.lt
            go_wp2_with fail
            refine (show_all HTB.out.ry HD1.out).mono ?_
            rintro e' w8 ⟨rfl, F8⟩
            rw [HSX.out]
            have HTC : Hid (Two w A1 A2 σ1 σ1 w8) := HTB.out.fresh F8
            have HLC : Hid (Loc w8 A1 A2 bA #[.int .i64 xe, .int .i64 xn, .int .i64 xm, sv xs, sv xt] 41) := HLB.out.fresh F8
            have HE3 : Hid (Loc w8 A1 A2 b3 #[.pointer (some ⟨A1.b, 0, none⟩), .pointer (some ⟨A1.bn, 0, none⟩), .pointer (some ⟨A1.bt, 0, none⟩)] 29) := HD3.out.fresh F8
            have HE4 : Hid (Loc w8 A1 A2 b4 #[.pointer (some ⟨A2.b, 0, none⟩), .pointer (some ⟨A2.bn, 0, none⟩), .pointer (some ⟨A2.bt, 0, none⟩)] 29) := HD4.out.fresh F8
            have HE5 : Hid (Loc w8 A1 A2 b5 #[.int .i64 at1, .int .u64 an1, sv as1, .int .i64 bt1, .int .u64 bn1, sv bs1] 35) := HD5.out.fresh F8
            have HE8 : Hid (Loc w8 A1 A2 b8 #[.int .i64 xe, .int .i64 xn, .int .i64 xm, sv xs, sv xt] 41) := HD8.out.fresh F8
            clear F8 HTB HLB HD3 HD4 HD5 HD8 x0 x1 x2 xl y0 y1 y2 yl
            have x0 : w8.cell? ⟨b3, 0, none⟩ = some (.pointer (some ⟨A1.b, 0, none⟩)) := HE3.out.h.cell 0
            have x1 : w8.cell? ⟨b3, 1, none⟩ = some (.pointer (some ⟨A1.bn, 0, none⟩)) := HE3.out.h.cell 1
            have x2 : w8.cell? ⟨b3, 2, none⟩ = some (.pointer (some ⟨A1.bt, 0, none⟩)) := HE3.out.h.cell 2
            have xl := HE3.out.h.lt
            have y0 : w8.cell? ⟨b4, 0, none⟩ = some (.pointer (some ⟨A2.b, 0, none⟩)) := HE4.out.h.cell 0
            have y1 : w8.cell? ⟨b4, 1, none⟩ = some (.pointer (some ⟨A2.bn, 0, none⟩)) := HE4.out.h.cell 1
            have y2 : w8.cell? ⟨b4, 2, none⟩ = some (.pointer (some ⟨A2.bt, 0, none⟩)) := HE4.out.h.cell 2
            have yl := HE4.out.h.lt
            have u0 : w8.cell? ⟨b8, 0, none⟩ = some (.int .i64 xe) := HE8.out.h.cell 0
            have u1 : w8.cell? ⟨b8, 1, none⟩ = some (.int .i64 xn) := HE8.out.h.cell 1
            have u2 : w8.cell? ⟨b8, 2, none⟩ = some (.int .i64 xm) := HE8.out.h.cell 2
            have u3 : w8.cell? ⟨b8, 3, none⟩ = some (sv xs) := HE8.out.h.cell 3
            have u4 : w8.cell? ⟨b8, 4, none⟩ = some (sv xt) := HE8.out.h.cell 4
            have v0 : w8.cell? ⟨bA, 0, none⟩ = some (.int .i64 xe) := HLC.out.h.cell 0
            have v1 : w8.cell? ⟨bA, 1, none⟩ = some (.int .i64 xn) := HLC.out.h.cell 1
            have v2 : w8.cell? ⟨bA, 2, none⟩ = some (.int .i64 xm) := HLC.out.h.cell 2
            have v3 : w8.cell? ⟨bA, 3, none⟩ = some (sv xs) := HLC.out.h.cell 3
            have v4 : w8.cell? ⟨bA, 4, none⟩ = some (sv xt) := HLC.out.h.cell 4
            have ul := HE8.out.h.lt
            have vl := HLC.out.h.lt
            go_wp2_with fail
            refine (tabs_all HTC.out.rx HD1.out).mono ?_
            rintro e' w9 ⟨rfl, F9⟩
            rw [HTX.out]
            have HTD : Hid (Two w A1 A2 σ1 σ1 w9) := HTC.out.fresh F9
            have HF3 : Hid (Loc w9 A1 A2 b3 #[.pointer (some ⟨A1.b, 0, none⟩), .pointer (some ⟨A1.bn, 0, none⟩), .pointer (some ⟨A1.bt, 0, none⟩)] 29) := HE3.out.fresh F9
            have HF4 : Hid (Loc w9 A1 A2 b4 #[.pointer (some ⟨A2.b, 0, none⟩), .pointer (some ⟨A2.bn, 0, none⟩), .pointer (some ⟨A2.bt, 0, none⟩)] 29) := HE4.out.fresh F9
            have HF5 : Hid (Loc w9 A1 A2 b5 #[.int .i64 at1, .int .u64 an1, sv as1, .int .i64 bt1, .int .u64 bn1, sv bs1] 35) := HE5.out.fresh F9
            clear F9 HTC HLC HE3 HE4 HE5 HE8 x0 x1 x2 xl y0 y1 y2 yl u0 u1 u2 u3 u4 v0 v1 v2 v3 v4 ul vl
            have y0 : w9.cell? ⟨b4, 0, none⟩ = some (.pointer (some ⟨A2.b, 0, none⟩)) := HF4.out.h.cell 0
            have y1 : w9.cell? ⟨b4, 1, none⟩ = some (.pointer (some ⟨A2.bn, 0, none⟩)) := HF4.out.h.cell 1
            have y2 : w9.cell? ⟨b4, 2, none⟩ = some (.pointer (some ⟨A2.bt, 0, none⟩)) := HF4.out.h.cell 2
            have yl := HF4.out.h.lt
            go_wp2_with fail
            refine (tabs_all HTD.out.ry HD1.out).mono ?_
            rintro e' wA ⟨rfl, FA⟩
            rw [HTX.out]
            have HKN : Hid (∃ (Ax Ay : VL) (σ : St) (r : RegD), KpI w b3 b4 b5 Ax Ay σ r wA) := ⟨A1, A2, σ1, ⟨⟨at1, an1, as1⟩, ⟨bt1, bn1, bs1⟩⟩, HTD.out.fresh FA, HD1.out, HR2.out, HF3.out.fresh FA, HF4.out.fresh FA, HF5.out.fresh FA⟩
            clear FA HTD HF3 HF4 HF5 y0 y1 y2 yl
            go_wp2_with fail
            go_roundg n
            case measure => exact Nat.lt_succ_self _
            case rel => exact ⟨k + 1, by simp, by omega, HKN⟩
        · have k3 : (ok == 3) = false := by rw [beq_eq_false_iff_ne]; exact fun e => hkd (.inl e)
          have k12 : (ok == 12) = false := by rw [beq_eq_false_iff_ne]; exact fun e => hkd (.inr e)
          have HSAME : Hid (∀ (x y : AnsD) σ1 σ2, StepR σ ⟨⟨at1, an1, as1⟩, ⟨bt1, bn1, bs1⟩⟩ ⟨ok, oa, ob, oc, oS, oT⟩ x σ1 → StepR σ ⟨⟨at1, an1, as1⟩, ⟨bt1, bn1, bs1⟩⟩ ⟨ok, oa, ob, oc, oS, oT⟩ y σ2 → x = y ∧ σ1 = σ2) := fun x y σ1 σ2 h1 h2 => h1.det h2
          have HDY : Hid (DI σ) := HDI
          clear hkd
          go_wp2_with fail
          refine (show Calls Tryz.prog 6 #[.agg #[.pointer (some ⟨Ax.b, 0, none⟩), .pointer (some ⟨Ax.bn, 0, none⟩), .pointer (some ⟨Ax.bt, 0, none⟩)], RegD.val ⟨⟨at1, an1, as1⟩, ⟨bt1, bn1, bs1⟩⟩, OpD.val ⟨ok, oa, ob, oc, oS, oT⟩] _ _ from heldTop_any HT4.out.rx HDI.out HOI.out HR2.out).mono ?_
          rintro e' w5 ⟨xa, σ1, A1, rfl, hx1, R5, S5⟩
          have HX1 : Hid (StepR σ ⟨⟨at1, an1, as1⟩, ⟨bt1, bn1, bs1⟩⟩ ⟨ok, oa, ob, oc, oS, oT⟩ xa σ1) := hx1
          have HD1 : Hid (DI σ1) := hx1.di HDI.out HOI.out HR2.out
          have HT7 : Hid (Two w A1 Ay σ1 σ w5) := Two.stepX (W := ((((((w3.setCell ⟨b5, 0, none⟩ (.int .i64 at1)).setCell ⟨b5, 1, none⟩ (.int .u64 an1)).setCell ⟨b5, 2, none⟩ (sv as1)).setCell ⟨b5, 3, none⟩ (.int .i64 bt1)).setCell ⟨b5, 4, none⟩ (.int .u64 bn1)).setCell ⟨b5, 5, none⟩ (sv bs1))) HT4.out S5 R5
          have HV3 : Hid (Loc w5 A1 Ay b3 #[.pointer (some ⟨A1.b, 0, none⟩), .pointer (some ⟨A1.bn, 0, none⟩), .pointer (some ⟨A1.bt, 0, none⟩)] 29) := by
            have h := Loc.stepX (W := ((((((w3.setCell ⟨b5, 0, none⟩ (.int .i64 at1)).setCell ⟨b5, 1, none⟩ (.int .u64 an1)).setCell ⟨b5, 2, none⟩ (sv as1)).setCell ⟨b5, 3, none⟩ (.int .i64 bt1)).setCell ⟨b5, 4, none⟩ (.int .u64 bn1)).setCell ⟨b5, 5, none⟩ (sv bs1))) HP3.out S5
            unfold sideC at h
            rw [← S5.b, ← S5.bn, ← S5.bt] at h
            exact h
          have HV4 : Hid (Loc w5 A1 Ay b4 (sideC Ay) 29) := Loc.stepX (W := ((((((w3.setCell ⟨b5, 0, none⟩ (.int .i64 at1)).setCell ⟨b5, 1, none⟩ (.int .u64 an1)).setCell ⟨b5, 2, none⟩ (sv as1)).setCell ⟨b5, 3, none⟩ (.int .i64 bt1)).setCell ⟨b5, 4, none⟩ (.int .u64 bn1)).setCell ⟨b5, 5, none⟩ (sv bs1))) HP4.out S5
          have HV5 : Hid (Loc w5 A1 Ay b5 #[.int .i64 at1, .int .u64 an1, sv as1, .int .i64 bt1, .int .u64 bn1, sv bs1] 35) := Loc.stepX (W := ((((((w3.setCell ⟨b5, 0, none⟩ (.int .i64 at1)).setCell ⟨b5, 1, none⟩ (.int .u64 an1)).setCell ⟨b5, 2, none⟩ (sv as1)).setCell ⟨b5, 3, none⟩ (.int .i64 bt1)).setCell ⟨b5, 4, none⟩ (.int .u64 bn1)).setCell ⟨b5, 5, none⟩ (sv bs1))) HP5.out S5
          have HV7 : Hid (Loc w5 A1 Ay b7 #[.int .i64 ok, .int .i64 oa, .int .i64 ob, .int .i64 oc, sv oS, sv oT] 37) := Loc.stepX (W := ((((((w3.setCell ⟨b5, 0, none⟩ (.int .i64 at1)).setCell ⟨b5, 1, none⟩ (.int .u64 an1)).setCell ⟨b5, 2, none⟩ (sv as1)).setCell ⟨b5, 3, none⟩ (.int .i64 bt1)).setCell ⟨b5, 4, none⟩ (.int .u64 bn1)).setCell ⟨b5, 5, none⟩ (sv bs1))) HP7.out S5
          clear hx1 R5 S5 HT4 HP3 HP4 HP5 HP7 x0 x1 x2 xl y0 y1 y2 yl r0 r1 r2 r3 r4 r5 rl rf0 rf1 rf2 rf3 rf4 rf5 p0 p1 p2 p3 p4 p5 pl
          obtain ⟨⟨xe, xn, xm, xs, xt⟩, HXX⟩ : ∃ y, Hid (xa = y) := ⟨xa, rfl⟩
          rw [HXX.out] at HX1 ⊢
          have x0 : w5.cell? ⟨b3, 0, none⟩ = some (.pointer (some ⟨A1.b, 0, none⟩)) := HV3.out.h.cell 0
          have x1 : w5.cell? ⟨b3, 1, none⟩ = some (.pointer (some ⟨A1.bn, 0, none⟩)) := HV3.out.h.cell 1
          have x2 : w5.cell? ⟨b3, 2, none⟩ = some (.pointer (some ⟨A1.bt, 0, none⟩)) := HV3.out.h.cell 2
          have xl := HV3.out.h.lt
          have y0 : w5.cell? ⟨b4, 0, none⟩ = some (.pointer (some ⟨Ay.b, 0, none⟩)) := HV4.out.h.cell 0
          have y1 : w5.cell? ⟨b4, 1, none⟩ = some (.pointer (some ⟨Ay.bn, 0, none⟩)) := HV4.out.h.cell 1
          have y2 : w5.cell? ⟨b4, 2, none⟩ = some (.pointer (some ⟨Ay.bt, 0, none⟩)) := HV4.out.h.cell 2
          have yl := HV4.out.h.lt
          have r0 : w5.cell? ⟨b5, 0, none⟩ = some (.int .i64 at1) := HV5.out.h.cell 0
          have r1 : w5.cell? ⟨b5, 1, none⟩ = some (.int .u64 an1) := HV5.out.h.cell 1
          have r2 : w5.cell? ⟨b5, 2, none⟩ = some (sv as1) := HV5.out.h.cell 2
          have r3 : w5.cell? ⟨b5, 3, none⟩ = some (.int .i64 bt1) := HV5.out.h.cell 3
          have r4 : w5.cell? ⟨b5, 4, none⟩ = some (.int .u64 bn1) := HV5.out.h.cell 4
          have r5 : w5.cell? ⟨b5, 5, none⟩ = some (sv bs1) := HV5.out.h.cell 5
          have rl := HV5.out.h.lt
          have p0 : w5.cell? ⟨b7, 0, none⟩ = some (.int .i64 ok) := HV7.out.h.cell 0
          have p1 : w5.cell? ⟨b7, 1, none⟩ = some (.int .i64 oa) := HV7.out.h.cell 1
          have p2 : w5.cell? ⟨b7, 2, none⟩ = some (.int .i64 ob) := HV7.out.h.cell 2
          have p3 : w5.cell? ⟨b7, 3, none⟩ = some (.int .i64 oc) := HV7.out.h.cell 3
          have p4 : w5.cell? ⟨b7, 4, none⟩ = some (sv oS) := HV7.out.h.cell 4
          have p5 : w5.cell? ⟨b7, 5, none⟩ = some (sv oT) := HV7.out.h.cell 5
          have pl := HV7.out.h.lt
          have HT8 : Hid (Two w A1 Ay σ1 σ (w5.alloc (.cells #[.int .i64 xe, .int .i64 xn, .int .i64 xm, sv xs, sv xt] 41))) := HT7.out.fresh ((Fr.refl _ _).alloc _)
          have HL8 : Hid (Loc (w5.alloc (.cells #[.int .i64 xe, .int .i64 xn, .int .i64 xm, sv xs, sv xt] 41)) A1 Ay w5.heap.size #[.int .i64 xe, .int .i64 xn, .int .i64 xm, sv xs, sv xt] 41) := HT7.out.loc _ _ rfl
          have HA3 : Hid (Loc (w5.alloc (.cells #[.int .i64 xe, .int .i64 xn, .int .i64 xm, sv xs, sv xt] 41)) A1 Ay b3 #[.pointer (some ⟨A1.b, 0, none⟩), .pointer (some ⟨A1.bn, 0, none⟩), .pointer (some ⟨A1.bt, 0, none⟩)] 29) := HV3.out.fresh ((Fr.refl _ _).alloc _)
          have HA4 : Hid (Loc (w5.alloc (.cells #[.int .i64 xe, .int .i64 xn, .int .i64 xm, sv xs, sv xt] 41)) A1 Ay b4 (sideC Ay) 29) := HV4.out.fresh ((Fr.refl _ _).alloc _)
          have HA5 : Hid (Loc (w5.alloc (.cells #[.int .i64 xe, .int .i64 xn, .int .i64 xm, sv xs, sv xt] 41)) A1 Ay b5 #[.int .i64 at1, .int .u64 an1, sv as1, .int .i64 bt1, .int .u64 bn1, sv bs1] 35) := HV5.out.fresh ((Fr.refl _ _).alloc _)
          go_wp2_with fail
          refine (show Calls Tryz.prog 6 #[.agg #[.pointer (some ⟨Ay.b, 0, none⟩), .pointer (some ⟨Ay.bn, 0, none⟩), .pointer (some ⟨Ay.bt, 0, none⟩)], RegD.val ⟨⟨at1, an1, as1⟩, ⟨bt1, bn1, bs1⟩⟩, OpD.val ⟨ok, oa, ob, oc, oS, oT⟩] _ _ from heldTop_any HT8.out.ry HDY.out HOI.out HR2.out).mono ?_
          rintro e' w6 ⟨ya, σ2, A2, rfl, hx2, R6, S6⟩
          obtain ⟨hye, hys⟩ := HSAME.out _ _ _ _ HX1.out hx2
          subst hye
          subst hys
          have HT9 : Hid (Two w A1 A2 σ1 σ1 w6) := Two.stepY (W := w5.alloc (.cells #[.int .i64 xe, .int .i64 xn, .int .i64 xm, sv xs, sv xt] 41)) HT8.out S6 R6
          have HC3 : Hid (Loc w6 A1 A2 b3 #[.pointer (some ⟨A1.b, 0, none⟩), .pointer (some ⟨A1.bn, 0, none⟩), .pointer (some ⟨A1.bt, 0, none⟩)] 29) := Loc.stepY (W := w5.alloc (.cells #[.int .i64 xe, .int .i64 xn, .int .i64 xm, sv xs, sv xt] 41)) HA3.out S6
          have HC4 : Hid (Loc w6 A1 A2 b4 #[.pointer (some ⟨A2.b, 0, none⟩), .pointer (some ⟨A2.bn, 0, none⟩), .pointer (some ⟨A2.bt, 0, none⟩)] 29) := by
            have h := Loc.stepY (W := w5.alloc (.cells #[.int .i64 xe, .int .i64 xn, .int .i64 xm, sv xs, sv xt] 41)) HA4.out S6
            unfold sideC at h
            rw [← S6.b, ← S6.bn, ← S6.bt] at h
            exact h
          have HC5 : Hid (Loc w6 A1 A2 b5 #[.int .i64 at1, .int .u64 an1, sv as1, .int .i64 bt1, .int .u64 bn1, sv bs1] 35) := Loc.stepY (W := w5.alloc (.cells #[.int .i64 xe, .int .i64 xn, .int .i64 xm, sv xs, sv xt] 41)) HA5.out S6
          have HC8 : Hid (Loc w6 A1 A2 w5.heap.size #[.int .i64 xe, .int .i64 xn, .int .i64 xm, sv xs, sv xt] 41) := Loc.stepY (W := w5.alloc (.cells #[.int .i64 xe, .int .i64 xn, .int .i64 xm, sv xs, sv xt] 41)) HL8.out S6
          clear hx2 R6 S6 HT7 HT8 HV3 HV4 HV5 HV7 HA3 HA4 HA5 HL8 x0 x1 x2 xl y0 y1 y2 yl r0 r1 r2 r3 r4 r5 rl p0 p1 p2 p3 p4 p5 pl
          have x0 : w6.cell? ⟨b3, 0, none⟩ = some (.pointer (some ⟨A1.b, 0, none⟩)) := HC3.out.h.cell 0
          have x1 : w6.cell? ⟨b3, 1, none⟩ = some (.pointer (some ⟨A1.bn, 0, none⟩)) := HC3.out.h.cell 1
          have x2 : w6.cell? ⟨b3, 2, none⟩ = some (.pointer (some ⟨A1.bt, 0, none⟩)) := HC3.out.h.cell 2
          have xl := HC3.out.h.lt
          have y0 : w6.cell? ⟨b4, 0, none⟩ = some (.pointer (some ⟨A2.b, 0, none⟩)) := HC4.out.h.cell 0
          have y1 : w6.cell? ⟨b4, 1, none⟩ = some (.pointer (some ⟨A2.bn, 0, none⟩)) := HC4.out.h.cell 1
          have y2 : w6.cell? ⟨b4, 2, none⟩ = some (.pointer (some ⟨A2.bt, 0, none⟩)) := HC4.out.h.cell 2
          have yl := HC4.out.h.lt
          obtain ⟨SX, HSX⟩ : ∃ x, Hid (showM σ1 = x) := ⟨_, rfl⟩
          obtain ⟨TX, HTX⟩ : ∃ x, Hid (showT σ1.m.tabs = x) := ⟨_, rfl⟩
          have HTA : Hid (Two w A1 A2 σ1 σ1 (w6.alloc (.cells #[.int .i64 xe, .int .i64 xn, .int .i64 xm, sv xs, sv xt] 41))) := HT9.out.fresh ((Fr.refl _ _).alloc _)
          have HLA : Hid (Loc (w6.alloc (.cells #[.int .i64 xe, .int .i64 xn, .int .i64 xm, sv xs, sv xt] 41)) A1 A2 w6.heap.size #[.int .i64 xe, .int .i64 xn, .int .i64 xm, sv xs, sv xt] 41) := HT9.out.loc _ _ rfl
          have hq := ans_neq0 ⟨xe, xn, xm, xs, xt⟩
          go_wp2_with fail
          refine (show_all HTA.out.rx HD1.out).mono ?_
          rintro e' w7 ⟨rfl, F7⟩
          rw [HSX.out]
          have HTB : Hid (Two w A1 A2 σ1 σ1 w7) := HTA.out.fresh F7
          have HLB : Hid (Loc w7 A1 A2 w6.heap.size #[.int .i64 xe, .int .i64 xn, .int .i64 xm, sv xs, sv xt] 41) := HLA.out.fresh F7
          have HD3 : Hid (Loc w7 A1 A2 b3 #[.pointer (some ⟨A1.b, 0, none⟩), .pointer (some ⟨A1.bn, 0, none⟩), .pointer (some ⟨A1.bt, 0, none⟩)] 29) := (HC3.out.fresh ((Fr.refl _ _).alloc _)).fresh F7
          have HD4 : Hid (Loc w7 A1 A2 b4 #[.pointer (some ⟨A2.b, 0, none⟩), .pointer (some ⟨A2.bn, 0, none⟩), .pointer (some ⟨A2.bt, 0, none⟩)] 29) := (HC4.out.fresh ((Fr.refl _ _).alloc _)).fresh F7
          have HD5 : Hid (Loc w7 A1 A2 b5 #[.int .i64 at1, .int .u64 an1, sv as1, .int .i64 bt1, .int .u64 bn1, sv bs1] 35) := (HC5.out.fresh ((Fr.refl _ _).alloc _)).fresh F7
          have HD8 : Hid (Loc w7 A1 A2 w5.heap.size #[.int .i64 xe, .int .i64 xn, .int .i64 xm, sv xs, sv xt] 41) := (HC8.out.fresh ((Fr.refl _ _).alloc _)).fresh F7
          clear F7 HTA HLA HC3 HC4 HC5 HC8 HT9 x0 x1 x2 xl y0 y1 y2 yl
          obtain ⟨b8, HB8⟩ : ∃ b, Hid (w5.heap.size = b) := ⟨_, rfl⟩
          obtain ⟨bA, HBA⟩ : ∃ b, Hid (w6.heap.size = b) := ⟨_, rfl⟩
          rw [HB8.out] at HD8 ⊢
          rw [HBA.out] at HLB ⊢
          have x0 : w7.cell? ⟨b3, 0, none⟩ = some (.pointer (some ⟨A1.b, 0, none⟩)) := HD3.out.h.cell 0
          have x1 : w7.cell? ⟨b3, 1, none⟩ = some (.pointer (some ⟨A1.bn, 0, none⟩)) := HD3.out.h.cell 1
          have x2 : w7.cell? ⟨b3, 2, none⟩ = some (.pointer (some ⟨A1.bt, 0, none⟩)) := HD3.out.h.cell 2
          have xl := HD3.out.h.lt
          have y0 : w7.cell? ⟨b4, 0, none⟩ = some (.pointer (some ⟨A2.b, 0, none⟩)) := HD4.out.h.cell 0
          have y1 : w7.cell? ⟨b4, 1, none⟩ = some (.pointer (some ⟨A2.bn, 0, none⟩)) := HD4.out.h.cell 1
          have y2 : w7.cell? ⟨b4, 2, none⟩ = some (.pointer (some ⟨A2.bt, 0, none⟩)) := HD4.out.h.cell 2
          have yl := HD4.out.h.lt
          go_wp2_with fail
          refine (show_all HTB.out.ry HD1.out).mono ?_
          rintro e' w8 ⟨rfl, F8⟩
          rw [HSX.out]
          have HTC : Hid (Two w A1 A2 σ1 σ1 w8) := HTB.out.fresh F8
          have HLC : Hid (Loc w8 A1 A2 bA #[.int .i64 xe, .int .i64 xn, .int .i64 xm, sv xs, sv xt] 41) := HLB.out.fresh F8
          have HE3 : Hid (Loc w8 A1 A2 b3 #[.pointer (some ⟨A1.b, 0, none⟩), .pointer (some ⟨A1.bn, 0, none⟩), .pointer (some ⟨A1.bt, 0, none⟩)] 29) := HD3.out.fresh F8
          have HE4 : Hid (Loc w8 A1 A2 b4 #[.pointer (some ⟨A2.b, 0, none⟩), .pointer (some ⟨A2.bn, 0, none⟩), .pointer (some ⟨A2.bt, 0, none⟩)] 29) := HD4.out.fresh F8
          have HE5 : Hid (Loc w8 A1 A2 b5 #[.int .i64 at1, .int .u64 an1, sv as1, .int .i64 bt1, .int .u64 bn1, sv bs1] 35) := HD5.out.fresh F8
          have HE8 : Hid (Loc w8 A1 A2 b8 #[.int .i64 xe, .int .i64 xn, .int .i64 xm, sv xs, sv xt] 41) := HD8.out.fresh F8
          clear F8 HTB HLB HD3 HD4 HD5 HD8 x0 x1 x2 xl y0 y1 y2 yl
          have x0 : w8.cell? ⟨b3, 0, none⟩ = some (.pointer (some ⟨A1.b, 0, none⟩)) := HE3.out.h.cell 0
          have x1 : w8.cell? ⟨b3, 1, none⟩ = some (.pointer (some ⟨A1.bn, 0, none⟩)) := HE3.out.h.cell 1
          have x2 : w8.cell? ⟨b3, 2, none⟩ = some (.pointer (some ⟨A1.bt, 0, none⟩)) := HE3.out.h.cell 2
          have xl := HE3.out.h.lt
          have y0 : w8.cell? ⟨b4, 0, none⟩ = some (.pointer (some ⟨A2.b, 0, none⟩)) := HE4.out.h.cell 0
          have y1 : w8.cell? ⟨b4, 1, none⟩ = some (.pointer (some ⟨A2.bn, 0, none⟩)) := HE4.out.h.cell 1
          have y2 : w8.cell? ⟨b4, 2, none⟩ = some (.pointer (some ⟨A2.bt, 0, none⟩)) := HE4.out.h.cell 2
          have yl := HE4.out.h.lt
          have u0 : w8.cell? ⟨b8, 0, none⟩ = some (.int .i64 xe) := HE8.out.h.cell 0
          have u1 : w8.cell? ⟨b8, 1, none⟩ = some (.int .i64 xn) := HE8.out.h.cell 1
          have u2 : w8.cell? ⟨b8, 2, none⟩ = some (.int .i64 xm) := HE8.out.h.cell 2
          have u3 : w8.cell? ⟨b8, 3, none⟩ = some (sv xs) := HE8.out.h.cell 3
          have u4 : w8.cell? ⟨b8, 4, none⟩ = some (sv xt) := HE8.out.h.cell 4
          have v0 : w8.cell? ⟨bA, 0, none⟩ = some (.int .i64 xe) := HLC.out.h.cell 0
          have v1 : w8.cell? ⟨bA, 1, none⟩ = some (.int .i64 xn) := HLC.out.h.cell 1
          have v2 : w8.cell? ⟨bA, 2, none⟩ = some (.int .i64 xm) := HLC.out.h.cell 2
          have v3 : w8.cell? ⟨bA, 3, none⟩ = some (sv xs) := HLC.out.h.cell 3
          have v4 : w8.cell? ⟨bA, 4, none⟩ = some (sv xt) := HLC.out.h.cell 4
          have ul := HE8.out.h.lt
          have vl := HLC.out.h.lt
          go_wp2_with fail
          refine (tabs_all HTC.out.rx HD1.out).mono ?_
          rintro e' w9 ⟨rfl, F9⟩
          rw [HTX.out]
          have HTD : Hid (Two w A1 A2 σ1 σ1 w9) := HTC.out.fresh F9
          have HF3 : Hid (Loc w9 A1 A2 b3 #[.pointer (some ⟨A1.b, 0, none⟩), .pointer (some ⟨A1.bn, 0, none⟩), .pointer (some ⟨A1.bt, 0, none⟩)] 29) := HE3.out.fresh F9
          have HF4 : Hid (Loc w9 A1 A2 b4 #[.pointer (some ⟨A2.b, 0, none⟩), .pointer (some ⟨A2.bn, 0, none⟩), .pointer (some ⟨A2.bt, 0, none⟩)] 29) := HE4.out.fresh F9
          have HF5 : Hid (Loc w9 A1 A2 b5 #[.int .i64 at1, .int .u64 an1, sv as1, .int .i64 bt1, .int .u64 bn1, sv bs1] 35) := HE5.out.fresh F9
          clear F9 HTC HLC HE3 HE4 HE5 HE8 x0 x1 x2 xl y0 y1 y2 yl u0 u1 u2 u3 u4 v0 v1 v2 v3 v4 ul vl
          have y0 : w9.cell? ⟨b4, 0, none⟩ = some (.pointer (some ⟨A2.b, 0, none⟩)) := HF4.out.h.cell 0
          have y1 : w9.cell? ⟨b4, 1, none⟩ = some (.pointer (some ⟨A2.bn, 0, none⟩)) := HF4.out.h.cell 1
          have y2 : w9.cell? ⟨b4, 2, none⟩ = some (.pointer (some ⟨A2.bt, 0, none⟩)) := HF4.out.h.cell 2
          have yl := HF4.out.h.lt
          go_wp2_with fail
          refine (tabs_all HTD.out.ry HD1.out).mono ?_
          rintro e' wA ⟨rfl, FA⟩
          rw [HTX.out]
          have HKN : Hid (∃ (Ax Ay : VL) (σ : St) (r : RegD), KpI w b3 b4 b5 Ax Ay σ r wA) := ⟨A1, A2, σ1, ⟨⟨at1, an1, as1⟩, ⟨bt1, bn1, bs1⟩⟩, HTD.out.fresh FA, HD1.out, HR2.out, HF3.out.fresh FA, HF4.out.fresh FA, HF5.out.fresh FA⟩
          clear FA HTD HF3 HF4 HF5 y0 y1 y2 yl
          go_wp2_with fail
          go_roundg n
          case measure => exact Nat.lt_succ_self _
          case rel => exact ⟨k + 1, by simp, by omega, HKN⟩
      · have FIN2 : Hid (Q (.returned (.bool true)) wr) := FIN.out _ HF.out
        clear HK HSC
        go_wp2_with fail
        exact FIN2.out
end
end Go.Proofs.Qxb6500579aGreat
