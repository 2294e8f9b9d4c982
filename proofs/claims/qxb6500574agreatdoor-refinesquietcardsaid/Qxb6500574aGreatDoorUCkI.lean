/-
  THE WALK of vm: checkThread: the open list within a frame.
-/
import Derived.Test.Qxb6500574aGreatDoorUCkF
import Derived.Test.Qxb6500574aGreatDoorU3
namespace Go.Proofs.Qxb6500574aGreatDoor
open Go Go.RowKit
set_option linter.unusedVariables false
set_option linter.unusedSimpArgs false
def roundCT (c : Option Code) : Code := codeIn (codeIn (codeR (codeL (codeR (codeR (codeR (codeR (codeR (codeR (codeR (codeR (c.getD .skip))))))))))))
def innerCT (c : Option Code) : Code := codeIn (codeR (codeR (codeR (codeR (codeR (codeR (codeR (codeR (codeR (codeR (codeIn (codeL (codeR (codeR (roundCT c)))))))))))))))
section
variable {w0 w : World} {A : VL} {m : VMD} {f e i : Nat} {t : ThD} {l : ThL} {K : Cx}
set_option maxRecDepth 100000
set_option maxHeartbeats 1000000
theorem ct_inner (R : VRep w0 A m f e) (T : ThOk K m.cells i t) (hi : m.ths[i]? = some t) (hx : A.X[i]? = some l) (hF : Fr (fun _ => False) w0 w) {gf j : Nat} {fm : FmD} (hfm : t.frames[j]? = some fm) (hgf : l.f.a = some ⟨gf, 0, none⟩) {o NF : Nat} (hOI : OI K m t j o) {a : Act} (ha : FrI A.b A.bT i NF gf j (fm.base + K.ns fm.clo) o a)
    (hcl : m.cells.length ≤ 100000) (hsl : t.stack.length ≤ 100000) {Q : Exit → Act → World → Prop} (hQ : ∀ c a t v w, Q (.panic c) (a.put (some t) v) w → Q (.panic c) a w)
    (hN : ∀ a' o' w', FrO A.b A.bT i NF j o' a' → OI K m t (j + 1) o' → Fr (fun _ => False) w0 w' → Q (.exit 2) a' w') : (innerCT Tryz.f148.body).wp Tryz.prog Q a w := by
  have HN : Hid (∀ a' o' w', FrO A.b A.bT i NF j o' a' → OI K m t (j + 1) o' → Fr (fun _ => False) w0 w' → Q (.exit 2) a' w') := hN
  have HQH : Hid (∀ c a t v w, Q (.panic c) (a.put (some t) v) w → Q (.panic c) a w) := hQ
  have HC : Hid (CtC w0 A i t l m.clos.length m.protos.length m.cells.length m.ths.length) := CtC.of R hi hx
  have HR : Hid (VRep w0 A m f e) := R
  have HT : Hid (ThOk K m.cells i t) := T
  have HI : Hid (m.ths[i]? = some t) := hi
  have HX : Hid (A.X[i]? = some l) := hx
  have HFM : Hid (t.frames[j]? = some fm) := hfm
  have HGF : Hid (l.f.a = some ⟨gf, 0, none⟩) := hgf
  clear hN hQ
  simp only [innerCT, roundCT, codeL, codeR, codeIn, Tryz.f148, Option.getD_some]
  refine wp_loop_ghost_k (fun n a' w' => ∃ o, n = t.opn.length - o ∧ FrI A.b A.bT i NF gf j (fm.base + K.ns fm.clo) o a' ∧ OI K m t j o ∧ Fr (fun _ => False) w0 w') _ ⟨o, rfl, ha, hOI, hF⟩ ?_
  clear hF hOI ha R T hi hx hfm hgf

  rintro n a w ⟨o, rfl, ha, hOI, hF⟩ J KK hJ hKK
  have HJ : Hid (∀ k a' w', _ → J k a' w') := hJ
  have HKK : Hid (∀ a' w', Handed J _ a' w' → KK a' w') := hKK
  clear hJ hKK
  have hle := hOI.le
  have HOI : Hid (OI K m t j o) := hOI
  have HF : Hid (Fr (fun _ => False) w0 w) := hF
  have HA : Hid (FrI A.b A.bT i NF gf j (fm.base + K.ns fm.clo) o a) := ha
  obtain ⟨s0, s1, s2, s3, s4, a2, a6, a8, a9, bl, tl⟩ := HC.out.fr hF
  clear s0 s1 s2 s3 a2 a6 a9
  obtain ⟨u, rfl⟩ := ha.form
  clear ha hF hOI
  rcases Nat.eq_or_lt_of_le hle with heq | hlt
  · have he : t.opn.length = o := heq.symm
    have HE : Hid (o = t.opn.length) := heq
    rw [he] at s4
    clear he heq hle
    have HN2 := HN
    go_wp2_with fail
    refine HN.out _ o _ ⟨by kernel_rfl, rfl, by kernel_rfl, by kernel_rfl, by kernel_rfl, by kernel_rfl, by kernel_rfl, by kernel_rfl, by kernel_rfl, by kernel_rfl⟩ (HOI.out.full HE.out) HF.out
  · obtain ⟨c, hc⟩ : ∃ c, t.opn[o]? = some c := ⟨_, List.getElem?_eq_getElem hlt⟩
    obtain ⟨ce, h1, h2, h3⟩ := HOI.out.at HT.out hc HFM.out
    obtain ⟨go, x1, x2, x3, x4, x5, x6⟩ := (HR.out.one HI.out HX.out).p.at nCells_len hc
    obtain ⟨ge, y1, y2, y3, y4, y5, y6⟩ := HR.out.core.cells.at ceCells_len h1
    obtain ⟨gf', z1, z2, z3, z4, z5, z6⟩ := (HR.out.one HI.out HX.out).f.at fCells_len HFM.out
    dsimp only at x1 z1
    rw [HGF.out] at z1
    cases z1
    have HX1 : Hid (l.p.a = some ⟨go, 0, none⟩) := x1
    have HY1 : Hid (A.C.cells.a = some ⟨ge, 0, none⟩) := y1
    have p0 := HF.out.cell (x5 0 (by omega))
    have c0 := HF.out.cell (y5 0 (by omega))
    have c1 := HF.out.cell (y5 1 (by omega))
    have f2 := HF.out.cell (z5 2 (by omega))
    simp only [nCells, ceCells, fCells, List.getElem?_cons_succ, List.getElem?_cons_zero, Nat.add_zero, Nat.mul_one] at p0 c0 c1 f2
    rw [h2] at c0
    have gl := Nat.lt_of_lt_of_le x4 HF.out.size
    have el := Nat.lt_of_lt_of_le y4 HF.out.size
    have fl := Nat.lt_of_lt_of_le z4 HF.out.size
    rw [x1] at s4
    rw [y1] at a8
    have hcN := (List.getElem?_eq_some_iff.1 h1).1
    have HH1 : Hid (m.cells[c]? = some ce) := h1
    have HHC : Hid (t.opn[o]? = some c) := hc
    have hb2 := HT.out.fr.below (List.mem_of_getElem? HFM.out)
    have hopn : t.opn.length ≤ 100000 := by
      have := sub_len t.opn (List.range m.cells.length) HT.out.op.nodup (fun q hq => by
        obtain ⟨d, e1, _⟩ := HT.out.op.ok q hq
        exact List.mem_range.2 (List.getElem?_eq_some_iff.1 e1).1)
      rw [List.length_range] at this
      omega
    have hpk : ce.pos ≤ 100000 := by
      obtain ⟨d, e1, e2, fr, e3, e4, e5⟩ := HT.out.op.ok c (List.mem_of_getElem? hc)
      rw [h1] at e1
      cases e1
      have := HT.out.fr.below e3
      omega
    obtain ⟨NO, HNO⟩ : ∃ x, Hid (t.opn.length = x) := ⟨_, rfl⟩
    obtain ⟨NE, HNE⟩ : ∃ x, Hid (m.cells.length = x) := ⟨_, rfl⟩
    rw [HNO.out] at s4 hlt hle hopn
    rw [HNE.out] at a8 hcN hcl
    obtain ⟨mid, HM⟩ : ∃ x, Hid (fm.base + K.ns fm.clo = x) := ⟨_, rfl⟩
    rw [HM.out] at hb2 ⊢
    obtain ⟨cp, HCP⟩ : ∃ x, Hid (ce.pos = x) := ⟨_, rfl⟩
    obtain ⟨fb, HFB⟩ : ∃ x, Hid (fm.base = x) := ⟨_, rfl⟩
    rw [HCP.out] at c1 h3 hpk
    rw [HFB.out] at f2 h3
    have HMM : Hid (fm.base + K.ns fm.clo = mid) := HM
    have d1 : decide ((c : Int) < 0) = false := by rw [decide_eq_false_iff_not]; omega
    have d2 : decide (NE ≤ c) = false := by rw [decide_eq_false_iff_not]; omega
    have d4 : decide (cp < fb) = false := by rw [decide_eq_false_iff_not]; omega
    clear x1 y1 x2 x3 x4 x5 x6 y2 y3 y4 y5 y6 z2 z3 z4 z5 z6 h1 h2 hc
    by_cases hp : mid ≤ cp
    · have d5 : decide (mid ≤ cp) = true := by rw [decide_eq_true_iff]; exact hp
      have HP : Hid (mid ≤ cp) := hp
      clear hp
      go_wp2_with fail
      refine wp_region_tail 37 (by kernel_rfl) (by kernel_rfl) (fun c a t v w h => HQH.out c a t v w h) ?_
      simp only [List.take_succ_cons, List.take_zero, List.drop_succ_cons, List.drop_zero]
      repeat go_big_quiet_step (fail)
      refine wpQuiet_nil ?_
      go_wp2_with fail
      refine HN.out _ o _ ⟨by kernel_rfl, rfl, by kernel_rfl, by kernel_rfl, by kernel_rfl, by kernel_rfl, by kernel_rfl, by kernel_rfl, by kernel_rfl, by kernel_rfl⟩ (HOI.out.up HT.out HHC.out HH1.out HFM.out (by rw [HM.out, HCP.out]; exact HP.out)) HF.out.drew
    · have d5 : decide (mid ≤ cp) = false := by rw [decide_eq_false_iff_not]; exact hp
      have HSTP : Hid (∀ (a' : Act) (w' : World), FrI A.b A.bT i NF gf j mid (o + 1) a' → Fr (fun _ => False) w0 w' → KK a' w') := fun a' w' hA hF' =>
        HKK.out _ _ (Handed.intro (NO - (o + 1)) (by rw [HNO.out]; omega) (HJ.out _ _ _ ⟨o + 1, by rw [HNO.out], by rw [HM.out]; exact hA, HOI.out.next (by rw [HNO.out]; exact hlt), hF'⟩))
      by_cases ho : o = 0
      · have d6 : decide (0 < o) = false := by rw [decide_eq_false_iff_not]; omega
        clear ho hp
        go_wp2_with fail
        refine wp_region_tail 37 (by kernel_rfl) (by kernel_rfl) (fun c a t v w h => HQH.out c a t v w h) ?_
        simp only [List.take_succ_cons, List.take_zero, List.drop_succ_cons, List.drop_zero]
        repeat go_big_quiet_step (fail)
        refine wpQuiet_nil ?_
        go_wp2_with fail
        refine wp_region_tail 27 (by kernel_rfl) (by kernel_rfl) (fun c a t v w h => HQH.out c a t v w h) ?_
        simp only [List.take_succ_cons, List.take_zero, List.drop_succ_cons, List.drop_zero]
        repeat go_big_quiet_step (fail)
        refine wpQuiet_nil ?_
        go_wp2_with fail
        refine HSTP.out _ _ ?_ ?_
        · exact ⟨⟨by kernel_rfl, rfl, by kernel_rfl, by kernel_rfl, by kernel_rfl, by kernel_rfl, by kernel_rfl, by kernel_rfl, by kernel_rfl, by kernel_rfl⟩, by kernel_rfl, by kernel_rfl⟩
        · exact HF.out.drew.drew
      · have d6 : decide ((0 : Int) < (o : Int)) = true := by rw [decide_eq_true_iff]; omega
        obtain ⟨r, rfl⟩ : ∃ r, o = r + 1 := ⟨o - 1, by omega⟩
        have hr1 : ((r : Int) + 1 - 1) = r := by omega
        obtain ⟨d, hd⟩ : ∃ d, t.opn[r]? = some d := ⟨_, List.getElem?_eq_getElem (by rw [HNO.out]; omega)⟩
        obtain ⟨de, e1, e2, _⟩ := HT.out.op.ok d (List.mem_of_getElem? hd)
        have hlt2 := opn_pos HT.out (Nat.lt_succ_self r) hd HHC.out e1 HH1.out
        obtain ⟨go', x1, x2, x3, x4, x5, x6⟩ := (HR.out.one HI.out HX.out).p.at nCells_len hd
        obtain ⟨ge', y1, y2, y3, y4, y5, y6⟩ := HR.out.core.cells.at ceCells_len e1
        dsimp only at x1
        rw [HX1.out] at x1
        cases x1
        rw [HY1.out] at y1
        cases y1
        have q0 := HF.out.cell (x5 0 (by omega))
        have r1 := HF.out.cell (y5 1 (by omega))
        simp only [nCells, ceCells, List.getElem?_cons_succ, List.getElem?_cons_zero, Nat.add_zero, Nat.mul_one] at q0 r1
        have hdN := (List.getElem?_eq_some_iff.1 e1).1
        rw [HNE.out] at hdN
        rw [HCP.out] at hlt2
        obtain ⟨dp, HDP⟩ : ∃ x, Hid (de.pos = x) := ⟨_, rfl⟩
        rw [HDP.out] at r1 hlt2
        have d7 : decide (cp ≤ dp) = false := by rw [decide_eq_false_iff_not]; omega
        have hrN : r < NO := by omega
        clear x2 x3 x4 x5 x6 y2 y3 y4 y5 y6 e1 e2 hd ho hp
        go_wp2_with fail
        refine wp_region_tail 37 (by kernel_rfl) (by kernel_rfl) (fun c a t v w h => HQH.out c a t v w h) ?_
        simp only [List.take_succ_cons, List.take_zero, List.drop_succ_cons, List.drop_zero]
        repeat go_big_quiet_step (fail)
        refine wpQuiet_nil ?_
        go_wp2_with fail
        refine wp_region_tail 27 (by kernel_rfl) (by kernel_rfl) (fun c a t v w h => HQH.out c a t v w h) ?_
        simp only [List.take_succ_cons, List.take_zero, List.drop_succ_cons, List.drop_zero]
        repeat go_big_quiet_step (fail)
        refine wpQuiet_nil ?_
        go_wp2_with fail
        refine HSTP.out _ _ ?_ ?_
        · exact ⟨⟨by kernel_rfl, rfl, by kernel_rfl, by kernel_rfl, by kernel_rfl, by kernel_rfl, by kernel_rfl, by kernel_rfl, by kernel_rfl, by kernel_rfl⟩, by kernel_rfl, by kernel_rfl⟩
        · exact HF.out.drew.drew
end
end Go.Proofs.Qxb6500574aGreatDoor
