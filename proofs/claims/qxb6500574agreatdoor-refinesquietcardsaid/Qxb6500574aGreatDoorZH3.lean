/-
  THE WALK of complaw: walk.
-/
import Derived.Test.Qxb6500574aGreatDoorZH2
namespace Go.Proofs.Qxb6500574aGreatDoor
open Go Go.RowKit
set_option linter.unusedVariables false
set_option linter.unusedSimpArgs false
/-- the model's Run, as the law needs it -/
def MRun : Prop := ∀ (src : Bs) (fuel : Int) (n : Nat) (an : AnD), fuel ≤ 9223372036854775807 → (∀ N root, treeP src = .inr (N, root) → runM n N root fuel = some an) → (∀ y, treeP src = .inl y → an = ⟨y.1, y.2, 0, [], []⟩) → ∀ (W : World) (bm bn bt bs : Nat), CpM W bm bn bt bs → Calls Tryz.prog 51 #[.pointer (some ⟨bm, 0, none⟩), sv src, .int .i64 fuel] W (RnF W bm bn bt bs an)
section
set_option maxRecDepth 100000
set_option maxHeartbeats 2000000
variable {w : World}
theorem lwalk_true (HMR : MRun) (a : Option Addr) (nS cap : Nat) (os : Nat → OpD) (hs : ScriptAt w a nS os) (hg : Glob w) : Calls Tryz.prog 11 #[.slice a nS cap, .bool true] w fun e w' => (∃ z : Int, e = .returned (.tuple #[.int .i64 (-1), .int .i64 z])) ∧ Fr (fun _ => False) w w' := by
  have HHM := hid HMR
  have HSC : Hid (ScriptAt w a nS os) := hs
  have HG : Hid (Glob w) := hg
  obtain ⟨sz, HSZ⟩ : ∃ v, Hid (w.heap.size = v) := ⟨_, rfl⟩
  have GR := cground_any HSZ.out
  clear hs hg HMR
  go_enter Tryz.func11, Tryz.ntmps11
  go_wp2_with fail
  refine GR.mono ?_
  rintro e w1 ⟨rfl, g1⟩
  obtain ⟨CM0, ST0, HB0⟩ := grd_cm HG.out g1 HSZ.out #[.pointer (some ⟨sz + 4, 0, none⟩), .pointer (some ⟨sz + 7, 0, none⟩), .pointer (some ⟨sz + 2, 0, none⟩)] 27
  have e1 : w1.heap.size = sz + 8 := g1.sz
  have NEW := cnew_any (w := w1.alloc (.cells #[.pointer (some ⟨sz + 4, 0, none⟩), .pointer (some ⟨sz + 7, 0, none⟩), .pointer (some ⟨sz + 2, 0, none⟩)] 27)) (sz + 4) (sz + 7)
  have e2 : (w1.alloc (.cells #[.pointer (some ⟨sz + 4, 0, none⟩), .pointer (some ⟨sz + 7, 0, none⟩), .pointer (some ⟨sz + 2, 0, none⟩)] 27)).heap.size = sz + 9 := by simp [e1]
  rw [e2] at NEW
  obtain ⟨W2, HW2⟩ : ∃ W, Hid ((((w1.alloc (.cells #[.pointer (some ⟨sz + 4, 0, none⟩), .pointer (some ⟨sz + 7, 0, none⟩), .pointer (some ⟨sz + 2, 0, none⟩)] 27)).alloc (.cells z143 102)).alloc (.cells #[.pointer (some ⟨sz + 4, 0, none⟩), .pointer (some ⟨sz + 7, 0, none⟩), .slice none 0 0, .slice (some ⟨sz + 9, 0, none⟩) 13 13, .int .i64 0, .slice none 0 0] 51)) = W) := ⟨_, Eq.refl _⟩
  rw [HW2.out] at CM0 ST0 HB0 NEW
  have HNEW : Hid (Calls Tryz.prog 7 #[.pointer (some ⟨sz + 4, 0, none⟩), .pointer (some ⟨sz + 7, 0, none⟩)] (w1.alloc (.cells #[.pointer (some ⟨sz + 4, 0, none⟩), .pointer (some ⟨sz + 7, 0, none⟩), .pointer (some ⟨sz + 2, 0, none⟩)] 27)) fun e' w' => e' = .returned (.pointer (some ⟨sz + 10, 0, none⟩)) ∧ w' = W2) := NEW
  have HCM := hid CM0
  have HST := hid ST0
  clear CM0 ST0 HB0 NEW g1 e2 GR
  go_wp2_with fail
  refine HNEW.out.mono ?_
  rintro e w2 ⟨rfl, hw2⟩
  rw [hw2]
  clear hw2 w2 HNEW HW2 e1
  have HMN := hid (mnew_any (w := W2))
  go_wp2_with fail
  refine HMN.out.mono ?_
  rintro e V3 ⟨bm, bn, bt, bs, rfl, f3, m3, l1, l2, l3⟩
  obtain ⟨st3, t3⟩ := m3.t
  have LB : Stp (fun _ => False) W2 (oG sz) V3 (upd (oG sz) bt 5) := Stp.lab1 _ f3 l2 t3.lt
  have ow : ∀ k, W2.heap.size ≤ k → oG sz k = 0 := HCM.out.X.R.ow
  have HT0 : Hid (TW (sz + 7) V3 (upd (oG sz) bt 5) (gC sz) (sz + 4) (.pointer (some ⟨sz + 2, 0, none⟩)) bm bn bt bs V3 (upd (oG sz) bt 5) (gA sz) (gC sz) cm00) := by
    refine ⟨HCM.out.st LB (fun x => x) (fun x => x) (fun _ _ x => x), rfl, rfl, Stp.refl _ _ _, m3, upd_self _ _ _, ?_, ?_⟩
    · rw [upd_ne _ _ m3.n1]; exact ow _ l1
    · rw [upd_ne _ _ m3.n2]; exact ow _ l3
  -- what was there at the start stays
  have HFR : Hid (∀ wr o1, Stp QN V3 (upd (oG sz) bt 5) wr o1 → Fr (fun _ => False) w wr) := fun wr o1 t => (HST.out.none.trans f3 (fun _ _ x => x)).trans t.fr (fun j hj x => by
    have h39 : upd (oG sz) bt 5 j = 1039 := by
      have z1 := HSZ.out
      have z2 := HST.out.fr.size
      rw [upd_ne _ _ (show j ≠ bt by omega)]
      show (if j < sz then 1039 else _) = 1039
      rw [if_pos (by omega)]
    simp only [h39] at x
    unfold QN QM QI QS QC at x
    omega)
  clear f3 m3 l1 l2 l3 t3 LB ow HCM HST HMN
  have HT1 : Hid (TW (sz + 7) V3 (upd (oG sz) bt 5) (gC sz) (sz + 4) (.pointer (some ⟨sz + 2, 0, none⟩)) bm bn bt bs V3 (upd (oG sz) bt 5) (gA sz) (gC sz) cm00) := HT0.out
  clear HT0
  go_wp2_with fail
  go_loopg [9] nS (fun n v9 wr => ∃ (k : Nat) (o1 : Nat → Nat) (A1 : VL) (C1 : CC) (c1 : CmD), v9 = .int .i64 k ∧ k + n = nS ∧ Hid (TW (sz + 7) V3 (upd (oG sz) bt 5) (gC sz) (sz + 4) (.pointer (some ⟨sz + 2, 0, none⟩)) bm bn bt bs wr o1 A1 C1 c1))
  case atStart => exact ⟨0, _, _, _, _, rfl, Nat.zero_add _, HT1⟩
  case round =>
    clear HT1
    obtain ⟨k, o1, A1, C1, cc, rfl, hkn, HKS⟩ := hrel
    have HF : Hid (Fr (fun _ => False) w wr) := HFR.out wr o1 HKS.out.S
    cases gk with
    | zero =>
      have hk : ¬ (k : Int) < (nS : Int) := by omega
      clear HKS HFR HSC HG
      go_wp2_with fail
      go_ret2
      exact ⟨⟨_, rfl⟩, HF.out⟩
    | succ n =>
      have hk : (k : Int) < (nS : Int) := by omega
      by_cases hmax : (k : Int) < 4398046511104
      · obtain ⟨b, o, ha, hb, c0, c1, c2, c3, c4, c5⟩ := (HSC.out.fr HF.out).at_ k (by omega)
        obtain ⟨hfa, hfb⟩ := HSC.out.fit k (by omega)
        obtain ⟨op, HOP⟩ : ∃ op, Hid (os k = op) := ⟨_, rfl⟩
        rw [HOP.out] at c0 c1 c2 c3 c4 c5 hfa hfb
        obtain ⟨okd, oa, ob, oc, oS, oT⟩ := op
        dsimp only at c0 c1 c2 c3 c4 c5 hfa hfb
        subst ha
        obtain ⟨n1, n2, an, hr1, hr2, hr3, hr4⟩ := both_run oS hfa.2
        have CD := do_any (kd := okd) (fb := ob) (fc := oc) (tx := oT) HKS.out hfa.2 hr1 hr2
        have HDM : Hid (∀ W3 : World, CpM W3 bm bn bt bs → Calls Tryz.prog 31 #[.pointer (some ⟨bm, 0, none⟩), .agg #[.int .i64 okd, .int .i64 oa, .int .i64 ob, .int .i64 oc, sv oS, sv oT]] W3 (DmQ W3 bm bn bt bs (dAns okd an))) := fun W3 m => dom_any m (fun W m => HHM.out oS oa n2 an hfa.2 hr3 hr4 W bm bn bt bs m)
        obtain ⟨⟨ae, an1, am, as1, at1⟩, HAN⟩ : ∃ z, Hid (dAns okd an = z) := ⟨_, rfl⟩
        rw [HAN.out] at CD HDM
        have HCD : Hid (Calls Tryz.prog 30 #[.pointer (some ⟨sz + 10, 0, none⟩), .agg #[.int .i64 okd, .int .i64 oa, .int .i64 ob, .int .i64 oc, sv oS, sv oT]] wr (DoQ (sz + 7) V3 (upd (oG sz) bt 5) (gC sz) (sz + 4) (.pointer (some ⟨sz + 2, 0, none⟩)) bm bn bt bs ⟨ae, an1, am, as1, at1⟩)) := CD
        clear CD hr1 hr2 hr3 hr4 HAN
        go_wp2_with fail
        refine HCD.out.mono ?_
        rintro e w5 ⟨rfl, o5, A5, C5, c5', T5⟩
        obtain ⟨W6, HW6⟩ : ∃ W, Hid (w5.alloc (.cells #[.int .i64 ae, .int .i64 an1, .int .i64 am, sv as1, sv at1] 54) = W) := ⟨_, rfl⟩
        have eW6 : w5.alloc (.cells #[.int .i64 ae, .int .i64 an1, .int .i64 am, sv as1, sv at1] 54) = W6 := HW6.out
        have F6 : Fr (fun _ => False) w5 W6 := by rw [← HW6.out]; exact (Fr.refl _ _).alloc _
        have h6 : Has W6 w5.heap.size #[.int .i64 ae, .int .i64 an1, .int .i64 am, sv as1, sv at1] 54 := by rw [← HW6.out]; exact Has.new _ _ _
        obtain ⟨b10, hb10⟩ : ∃ b, w5.heap.size = b := ⟨_, rfl⟩
        obtain ⟨st5, t5⟩ := T5.m.t
        have nb : b10 ≠ bt := by have := t5.lt; omega
        have T6 := T5.fresh F6
        rw [hb10] at h6
        have HT6 := hid T6
        have HH6 := hid h6
        have HF2 : Hid (Fr (fun _ => False) w W6) := HFR.out W6 o5 T6.S
        clear c0 c1 c2 c3 c4 c5 hb HCD T5 T6 F6 t5 h6 HF
        obtain ⟨b', o', ha', hb, c0, c1, c2, c3, c4, c5⟩ := (HSC.out.fr HF2.out).at_ k (by omega)
        cases ha'
        rw [HOP.out] at c0 c1 c2 c3 c4 c5
        dsimp only at c0 c1 c2 c3 c4 c5
        have HCM := hid (HDM.out W6 HT6.out.m)
        clear HKS
        go_wp2_with fail
        refine HCM.out.mono ?_
        rintro e w7 ⟨rfl, f7, m7⟩
        have HT7 := hid (HT6.out.model f7 m7)
        have h7 := HH6.out.fr f7 nb
        obtain ⟨W8, HW8⟩ : ∃ W, Hid (w7.alloc (.cells #[.int .i64 ae, .int .i64 an1, .int .i64 am, sv as1, sv at1] 54) = W) := ⟨_, rfl⟩
        have eW8 : w7.alloc (.cells #[.int .i64 ae, .int .i64 an1, .int .i64 am, sv as1, sv at1] 54) = W8 := HW8.out
        have F8 : Fr (fun _ => False) w7 W8 := by rw [← HW8.out]; exact (Fr.refl _ _).alloc _
        have h8 : Has W8 w7.heap.size #[.int .i64 ae, .int .i64 an1, .int .i64 am, sv as1, sv at1] 54 := by rw [← HW8.out]; exact Has.new _ _ _
        have g8 := h7.fr F8 (fun x => x)
        obtain ⟨b11, hb11⟩ : ∃ b, w7.heap.size = b := ⟨_, rfl⟩
        rw [hb11] at h8
        have HT8 := hid (HT7.out.fresh F8)
        have a0 := g8.cell 0
        have a1 := g8.cell 1
        have a2 := g8.cell 2
        have a3 := g8.cell 3
        have a4 := g8.cell 4
        have al := g8.lt
        have d0 := h8.cell 0
        have d1 := h8.cell 1
        have d2 := h8.cell 2
        have d3 := h8.cell 3
        have d4 := h8.cell 4
        have dl := h8.lt
        simp only [List.getElem?_toArray, List.getElem?_cons_succ, List.getElem?_cons_zero] at a0 a1 a2 a3 a4 d0 d1 d2 d3 d4
        have NEQ := fun W : World => ans_neq ae an1 am as1 at1 W
        clear c0 c1 c2 c3 c4 c5 hb HCM HT6 HT7 f7 m7 h7 h8 g8 F8 HH6 HF2 hb10 eW6 HW6
        go_wp2_with fail
        go_roundg n
        case measure => exact Nat.lt_succ_self _
        case rel => exact ⟨k + 1, _, _, _, _, by simp, by omega, HT8⟩
      · clear HKS HFR HSC HG
        go_wp2_with fail
        go_ret2
        exact ⟨⟨_, rfl⟩, HF.out⟩
theorem lwalk_false (HMR : MRun) (a : Option Addr) (nS cap : Nat) (os : Nat → OpD) (hs : ScriptAt w a nS os) (hg : Glob w) : Calls Tryz.prog 11 #[.slice a nS cap, .bool false] w fun e w' => (∃ z : Int, e = .returned (.tuple #[.int .i64 (-1), .int .i64 z])) ∧ Fr (fun _ => False) w w' := by
  have HHM := hid HMR
  have HSC : Hid (ScriptAt w a nS os) := hs
  have HG : Hid (Glob w) := hg
  obtain ⟨sz, HSZ⟩ : ∃ v, Hid (w.heap.size = v) := ⟨_, rfl⟩
  have GR := cground_any HSZ.out
  clear hs hg HMR
  go_enter Tryz.func11, Tryz.ntmps11
  go_wp2_with fail
  refine GR.mono ?_
  rintro e w1 ⟨rfl, g1⟩
  obtain ⟨CM0, ST0, HB0⟩ := grd_cm HG.out g1 HSZ.out #[.pointer (some ⟨sz + 4, 0, none⟩), .pointer (some ⟨sz + 7, 0, none⟩), .pointer (some ⟨sz + 2, 0, none⟩)] 27
  have e1 : w1.heap.size = sz + 8 := g1.sz
  have NEW := cnew_any (w := w1.alloc (.cells #[.pointer (some ⟨sz + 4, 0, none⟩), .pointer (some ⟨sz + 7, 0, none⟩), .pointer (some ⟨sz + 2, 0, none⟩)] 27)) (sz + 4) (sz + 7)
  have e2 : (w1.alloc (.cells #[.pointer (some ⟨sz + 4, 0, none⟩), .pointer (some ⟨sz + 7, 0, none⟩), .pointer (some ⟨sz + 2, 0, none⟩)] 27)).heap.size = sz + 9 := by simp [e1]
  rw [e2] at NEW
  obtain ⟨W2, HW2⟩ : ∃ W, Hid ((((w1.alloc (.cells #[.pointer (some ⟨sz + 4, 0, none⟩), .pointer (some ⟨sz + 7, 0, none⟩), .pointer (some ⟨sz + 2, 0, none⟩)] 27)).alloc (.cells z143 102)).alloc (.cells #[.pointer (some ⟨sz + 4, 0, none⟩), .pointer (some ⟨sz + 7, 0, none⟩), .slice none 0 0, .slice (some ⟨sz + 9, 0, none⟩) 13 13, .int .i64 0, .slice none 0 0] 51)) = W) := ⟨_, Eq.refl _⟩
  rw [HW2.out] at CM0 ST0 HB0 NEW
  have HNEW : Hid (Calls Tryz.prog 7 #[.pointer (some ⟨sz + 4, 0, none⟩), .pointer (some ⟨sz + 7, 0, none⟩)] (w1.alloc (.cells #[.pointer (some ⟨sz + 4, 0, none⟩), .pointer (some ⟨sz + 7, 0, none⟩), .pointer (some ⟨sz + 2, 0, none⟩)] 27)) fun e' w' => e' = .returned (.pointer (some ⟨sz + 10, 0, none⟩)) ∧ w' = W2) := NEW
  have HCM := hid CM0
  have HST := hid ST0
  clear CM0 ST0 HB0 NEW g1 e2 GR
  go_wp2_with fail
  refine HNEW.out.mono ?_
  rintro e w2 ⟨rfl, hw2⟩
  rw [hw2]
  clear hw2 w2 HNEW HW2 e1
  have HMN := hid (mnew_any (w := W2))
  go_wp2_with fail
  refine HMN.out.mono ?_
  rintro e V3 ⟨bm, bn, bt, bs, rfl, f3, m3, l1, l2, l3⟩
  obtain ⟨st3, t3⟩ := m3.t
  have LB : Stp (fun _ => False) W2 (oG sz) V3 (upd (oG sz) bt 5) := Stp.lab1 _ f3 l2 t3.lt
  have ow : ∀ k, W2.heap.size ≤ k → oG sz k = 0 := HCM.out.X.R.ow
  have HT0 : Hid (TW (sz + 7) V3 (upd (oG sz) bt 5) (gC sz) (sz + 4) (.pointer (some ⟨sz + 2, 0, none⟩)) bm bn bt bs V3 (upd (oG sz) bt 5) (gA sz) (gC sz) cm00) := by
    refine ⟨HCM.out.st LB (fun x => x) (fun x => x) (fun _ _ x => x), rfl, rfl, Stp.refl _ _ _, m3, upd_self _ _ _, ?_, ?_⟩
    · rw [upd_ne _ _ m3.n1]; exact ow _ l1
    · rw [upd_ne _ _ m3.n2]; exact ow _ l3
  -- what was there at the start stays
  have HFR : Hid (∀ wr o1, Stp QN V3 (upd (oG sz) bt 5) wr o1 → Fr (fun _ => False) w wr) := fun wr o1 t => (HST.out.none.trans f3 (fun _ _ x => x)).trans t.fr (fun j hj x => by
    have h39 : upd (oG sz) bt 5 j = 1039 := by
      have z1 := HSZ.out
      have z2 := HST.out.fr.size
      rw [upd_ne _ _ (show j ≠ bt by omega)]
      show (if j < sz then 1039 else _) = 1039
      rw [if_pos (by omega)]
    simp only [h39] at x
    unfold QN QM QI QS QC at x
    omega)
  clear f3 m3 l1 l2 l3 t3 LB ow HCM HST HMN
  have HSN := hid (seen_any HT0.out)
  go_wp2_with fail
  refine HSN.out.mono ?_
  rintro e V4 ⟨rfl, f4⟩
  have HT1 := hid (HT0.out.fresh f4)
  clear f4 HSN HT0
  go_wp2_with fail
  go_loopg [9] nS (fun n v9 wr => ∃ (k : Nat) (o1 : Nat → Nat) (A1 : VL) (C1 : CC) (c1 : CmD), v9 = .int .i64 k ∧ k + n = nS ∧ Hid (TW (sz + 7) V3 (upd (oG sz) bt 5) (gC sz) (sz + 4) (.pointer (some ⟨sz + 2, 0, none⟩)) bm bn bt bs wr o1 A1 C1 c1))
  case atStart => exact ⟨0, _, _, _, _, rfl, Nat.zero_add _, HT1⟩
  case round =>
    clear HT1
    obtain ⟨k, o1, A1, C1, cc, rfl, hkn, HKS⟩ := hrel
    have HF : Hid (Fr (fun _ => False) w wr) := HFR.out wr o1 HKS.out.S
    cases gk with
    | zero =>
      have hk : ¬ (k : Int) < (nS : Int) := by omega
      clear HKS HFR HSC HG
      go_wp2_with fail
      go_ret2
      exact ⟨⟨_, rfl⟩, HF.out⟩
    | succ n =>
      have hk : (k : Int) < (nS : Int) := by omega
      by_cases hmax : (k : Int) < 4398046511104
      · obtain ⟨b, o, ha, hb, c0, c1, c2, c3, c4, c5⟩ := (HSC.out.fr HF.out).at_ k (by omega)
        obtain ⟨hfa, hfb⟩ := HSC.out.fit k (by omega)
        obtain ⟨op, HOP⟩ : ∃ op, Hid (os k = op) := ⟨_, rfl⟩
        rw [HOP.out] at c0 c1 c2 c3 c4 c5 hfa hfb
        obtain ⟨okd, oa, ob, oc, oS, oT⟩ := op
        dsimp only at c0 c1 c2 c3 c4 c5 hfa hfb
        subst ha
        obtain ⟨n1, n2, an, hr1, hr2, hr3, hr4⟩ := both_run oS hfa.2
        have CD := do_any (kd := okd) (fb := ob) (fc := oc) (tx := oT) HKS.out hfa.2 hr1 hr2
        have HDM : Hid (∀ W3 : World, CpM W3 bm bn bt bs → Calls Tryz.prog 31 #[.pointer (some ⟨bm, 0, none⟩), .agg #[.int .i64 okd, .int .i64 oa, .int .i64 ob, .int .i64 oc, sv oS, sv oT]] W3 (DmQ W3 bm bn bt bs (dAns okd an))) := fun W3 m => dom_any m (fun W m => HHM.out oS oa n2 an hfa.2 hr3 hr4 W bm bn bt bs m)
        obtain ⟨⟨ae, an1, am, as1, at1⟩, HAN⟩ : ∃ z, Hid (dAns okd an = z) := ⟨_, rfl⟩
        rw [HAN.out] at CD HDM
        have HCD : Hid (Calls Tryz.prog 30 #[.pointer (some ⟨sz + 10, 0, none⟩), .agg #[.int .i64 okd, .int .i64 oa, .int .i64 ob, .int .i64 oc, sv oS, sv oT]] wr (DoQ (sz + 7) V3 (upd (oG sz) bt 5) (gC sz) (sz + 4) (.pointer (some ⟨sz + 2, 0, none⟩)) bm bn bt bs ⟨ae, an1, am, as1, at1⟩)) := CD
        clear CD hr1 hr2 hr3 hr4 HAN
        go_wp2_with fail
        refine HCD.out.mono ?_
        rintro e w5 ⟨rfl, o5, A5, C5, c5', T5⟩
        obtain ⟨W6, HW6⟩ : ∃ W, Hid (w5.alloc (.cells #[.int .i64 ae, .int .i64 an1, .int .i64 am, sv as1, sv at1] 54) = W) := ⟨_, rfl⟩
        have eW6 : w5.alloc (.cells #[.int .i64 ae, .int .i64 an1, .int .i64 am, sv as1, sv at1] 54) = W6 := HW6.out
        have F6 : Fr (fun _ => False) w5 W6 := by rw [← HW6.out]; exact (Fr.refl _ _).alloc _
        have h6 : Has W6 w5.heap.size #[.int .i64 ae, .int .i64 an1, .int .i64 am, sv as1, sv at1] 54 := by rw [← HW6.out]; exact Has.new _ _ _
        obtain ⟨b10, hb10⟩ : ∃ b, w5.heap.size = b := ⟨_, rfl⟩
        obtain ⟨st5, t5⟩ := T5.m.t
        have nb : b10 ≠ bt := by have := t5.lt; omega
        have T6 := T5.fresh F6
        rw [hb10] at h6
        have HT6 := hid T6
        have HH6 := hid h6
        have HF2 : Hid (Fr (fun _ => False) w W6) := HFR.out W6 o5 T6.S
        clear c0 c1 c2 c3 c4 c5 hb HCD T5 T6 F6 t5 h6 HF
        obtain ⟨b', o', ha', hb, c0, c1, c2, c3, c4, c5⟩ := (HSC.out.fr HF2.out).at_ k (by omega)
        cases ha'
        rw [HOP.out] at c0 c1 c2 c3 c4 c5
        dsimp only at c0 c1 c2 c3 c4 c5
        have HCM := hid (HDM.out W6 HT6.out.m)
        clear HKS
        go_wp2_with fail
        refine HCM.out.mono ?_
        rintro e w7 ⟨rfl, f7, m7⟩
        have HT7 := hid (HT6.out.model f7 m7)
        have h7 := HH6.out.fr f7 nb
        obtain ⟨W8, HW8⟩ : ∃ W, Hid (w7.alloc (.cells #[.int .i64 ae, .int .i64 an1, .int .i64 am, sv as1, sv at1] 54) = W) := ⟨_, rfl⟩
        have eW8 : w7.alloc (.cells #[.int .i64 ae, .int .i64 an1, .int .i64 am, sv as1, sv at1] 54) = W8 := HW8.out
        have F8 : Fr (fun _ => False) w7 W8 := by rw [← HW8.out]; exact (Fr.refl _ _).alloc _
        have h8 : Has W8 w7.heap.size #[.int .i64 ae, .int .i64 an1, .int .i64 am, sv as1, sv at1] 54 := by rw [← HW8.out]; exact Has.new _ _ _
        have g8 := h7.fr F8 (fun x => x)
        obtain ⟨b11, hb11⟩ : ∃ b, w7.heap.size = b := ⟨_, rfl⟩
        rw [hb11] at h8
        have HT8 := hid (HT7.out.fresh F8)
        have a0 := g8.cell 0
        have a1 := g8.cell 1
        have a2 := g8.cell 2
        have a3 := g8.cell 3
        have a4 := g8.cell 4
        have al := g8.lt
        have d0 := h8.cell 0
        have d1 := h8.cell 1
        have d2 := h8.cell 2
        have d3 := h8.cell 3
        have d4 := h8.cell 4
        have dl := h8.lt
        simp only [List.getElem?_toArray, List.getElem?_cons_succ, List.getElem?_cons_zero] at a0 a1 a2 a3 a4 d0 d1 d2 d3 d4
        have NEQ := fun W : World => ans_neq ae an1 am as1 at1 W
        clear c0 c1 c2 c3 c4 c5 hb HCM HT6 HT7 f7 m7 h7 h8 g8 F8 HH6 HF2 hb10 eW6 HW6
        have HSN := hid (seen_any HT8.out)
        go_wp2_with fail
        refine HSN.out.mono ?_
        rintro e w9 ⟨rfl, f9⟩
        have HT9 := hid (HT8.out.fresh f9)
        clear f9 HSN HT8 a0 a1 a2 a3 a4 al d0 d1 d2 d3 d4 dl NEQ
        go_wp2_with fail
        go_roundg n
        case measure => exact Nat.lt_succ_self _
        case rel => exact ⟨k + 1, _, _, _, _, by simp, by omega, HT9⟩
      · clear HKS HFR HSC HG
        go_wp2_with fail
        go_ret2
        exact ⟨⟨_, rfl⟩, HF.out⟩
end
end Go.Proofs.Qxb6500574aGreatDoor
