/-
  THE WALK of vm: checkThread: a frame.
-/
import Derived.Test.Qxb6500574aGreatDoorUCkI
namespace Go.Proofs.Qxb6500574aGreatDoor
open Go Go.RowKit
set_option linter.unusedVariables false
set_option linter.unusedSimpArgs false
section
variable {w0 w : World} {A : VL} {m : VMD} {f e i : Nat} {t : ThD} {l : ThL} {K : Cx}
set_option maxRecDepth 100000
set_option maxHeartbeats 1000000
theorem ct_round (R : VRep w0 A m f e) (S : Slp K m) (hi : m.ths[i]? = some t) (hx : A.X[i]? = some l) (hF : Fr (fun _ => False) w0 w) {gf j o NF : Nat} (hgf : l.f.a = some ⟨gf, 0, none⟩) (hNF : t.frames.length = NF) (hj : j < NF) (hOI : OI K m t j o) {a : Act} (ha : FrO A.b A.bT i NF j o a)
    {Q : Exit → Act → World → Prop} (hQ : ∀ c a t v w, Q (.panic c) (a.put (some t) v) w → Q (.panic c) a w)
    (hN : ∀ a' o' w', FrO A.b A.bT i NF (j + 1) o' a' → OI K m t (j + 1) o' → Fr (fun _ => False) w0 w' → Q .normal a' w') : (roundCT Tryz.f148.body).wp Tryz.prog Q a w := by
  have HN : Hid (∀ a' o' w', FrO A.b A.bT i NF (j + 1) o' a' → OI K m t (j + 1) o' → Fr (fun _ => False) w0 w' → Q .normal a' w') := hN
  have HQH : Hid (∀ c a t v w, Q (.panic c) (a.put (some t) v) w → Q (.panic c) a w) := hQ
  have HC : Hid (CtC w0 A i t l m.clos.length m.protos.length m.cells.length m.ths.length) := CtC.of R hi hx
  have HR : Hid (VRep w0 A m f e) := R
  have HS : Hid (Slp K m) := S
  have HT : Hid (ThOk K m.cells i t) := S.vi.th i t hi
  have HI : Hid (m.ths[i]? = some t) := hi
  have HX : Hid (A.X[i]? = some l) := hx
  have HGF : Hid (l.f.a = some ⟨gf, 0, none⟩) := hgf
  have HOI : Hid (OI K m t j o) := hOI
  have HF : Hid (Fr (fun _ => False) w0 w) := hF
  have HNF : Hid (t.frames.length = NF) := hNF
  have hcE : m.cells.length ≤ 100000 := by have := S.vi.cu; have := S.up.1; have := S.vi.kc; have := S.vi.cn; omega
  have nl := S.stk hi
  have hsE : t.stack.length ≤ 100000 := by omega
  have n8 := HT.out.fr.len
  rw [HNF.out] at n8
  obtain ⟨NC, HNC⟩ : ∃ x, Hid (m.clos.length = x) := ⟨_, rfl⟩
  obtain ⟨NS, HNS⟩ : ∃ x, Hid (t.stack.length = x) := ⟨_, rfl⟩
  obtain ⟨NO, HNO⟩ : ∃ x, Hid (t.opn.length = x) := ⟨_, rfl⟩
  have n24 : m.clos.length ≤ 24 := by have := S.vi.kc; have := S.vi.cn; omega
  rw [HNC.out] at n24
  rw [HNS.out] at nl
  obtain ⟨s0, s1, s2, s3, s4, a2, a6, a8, a9, bl, tl⟩ := HC.out.fr hF
  rw [hgf, HNF.out] at s3
  rw [HNS.out] at s2
  rw [HNO.out] at s4
  rw [HNC.out] at a6
  obtain ⟨fm, hfm⟩ : ∃ fm, t.frames[j]? = some fm := ⟨_, List.getElem?_eq_getElem (by rw [HNF.out]; exact hj)⟩
  clear hN hQ R S hi hx hOI hF hNF
  obtain ⟨gf', z1, z2, z3, z4, z5, z6⟩ := (HR.out.one HI.out HX.out).f.at fCells_len hfm
  dsimp only at z1
  rw [hgf] at z1
  cases z1
  have f0 := HF.out.cell (z5 0 (by omega))
  have f1 := HF.out.cell (z5 1 (by omega))
  have f2 := HF.out.cell (z5 2 (by omega))
  have f3 := HF.out.cell (z5 3 (by omega))
  have f4 := HF.out.cell (z5 4 (by omega))
  simp only [fCells, List.getElem?_cons_succ, List.getElem?_cons_zero, Nat.add_zero] at f0 f1 f2 f3 f4
  have fl := Nat.lt_of_lt_of_le z4 HF.out.size
  have hcl := (HT.out.fr.each j fm hfm).1
  obtain ⟨q, p, h1, h2, h3, h4, h5, h6⟩ := HS.out.vi.proto hcl
  obtain ⟨gk, b1, b2, b3, b4, b5, b6⟩ := HR.out.core.clos.at clCells_len h1
  obtain ⟨gp, d1, d2, d3, d4, d5, d6⟩ := HR.out.core.protos.at pCells_len h2
  have k0 := HF.out.cell (b5 0 (by omega))
  have p1 := HF.out.cell (d5 1 (by omega))
  have p7 := HF.out.cell (d5 7 (by omega))
  simp only [clCells, pCells, List.getElem?_cons_succ, List.getElem?_cons_zero, Nat.add_zero] at k0 p1 p7
  have kl := Nat.lt_of_lt_of_le b4 HF.out.size
  have pl := Nat.lt_of_lt_of_le d4 HF.out.size
  have hns : p.ns = K.ns fm.clo := by rw [← h3]; exact HS.out.vi.kn _ hcl
  have hpc : fm.pc ≤ p.nc := by have := HT.out.fr.pcs j fm hfm; rw [← HS.out.vi.kd _ hcl, h3] at this; exact this
  have hnc : p.nc ≤ 32768 := by have := (HS.out.vi.txt.pr p h4).c; have := HS.out.vi.txt.cl; omega
  have n12 := (HS.out.vi.txt.pr p h4).ns
  have hclN : fm.clo < NC := by rw [← HNC.out, HS.out.vi.kc]; exact hcl
  have hqN : q.p < m.protos.length := (List.getElem?_eq_some_iff.1 h2).1
  have hpl := HS.out.vi.txt.pl
  have hrb := (HT.out.fr.each j fm hfm).2.1
  have hbel := HT.out.fr.below (List.mem_of_getElem? hfm)
  rw [← hns, HNS.out] at hbel
  rw [b1] at a6
  rw [d1] at a2
  obtain ⟨NP, HNP⟩ : ∃ x, Hid (m.protos.length = x) := ⟨_, rfl⟩
  rw [HNP.out] at a2 hqN hpl
  have HFM : Hid (t.frames[j]? = some fm) := hfm
  have HNSK : Hid (p.ns = K.ns fm.clo) := hns
  obtain ⟨fc, fp, fb, fr', fo⟩ := fm
  obtain ⟨pnp, pns, pup, pnup, ppk, pnk, pco, pnc⟩ := p
  obtain ⟨qp, qu, qn⟩ := q
  dsimp only at *
  have u1 : decide ((fc : Int) < 0) = false := by rw [decide_eq_false_iff_not]; omega
  have u2 : decide (NC ≤ fc) = false := by rw [decide_eq_false_iff_not]; omega
  have hjl : (j : Int) < (NF : Int) := by omega
  clear z2 z3 z4 z5 z6 b2 b3 b4 b5 b6 d2 d3 d4 d5 d6 h1 h2 h3 h4 h5 h6 hfm hns hcl
  obtain ⟨u, rfl⟩ := ha.form
  clear ha
  have HMV : Hid (((fb + K.ns fc : Nat) : Int) = (fb : Int) + pns) := by rw [← HNSK.out]; exact Int.natCast_add _ _
  simp only [roundCT, codeL, codeR, codeIn, Tryz.f148, Option.getD_some]
  go_wp2_with fail
  refine wp_region_tail 16 (by kernel_rfl) (by kernel_rfl) (fun c a t v w h => HQH.out c a t v w h) ?_
  simp only [List.take_succ_cons, List.take_zero, List.drop_succ_cons, List.drop_zero]
  repeat go_big_quiet_step (fail)
  refine wpQuiet_nil ?_
  have D2 := HC.out.fr (HF.out.drew)
  have HFx : Hid (Fr (fun _ => False) w0 w.drew) := HF.out.drew
  have s2 := HFx.out.cell (HC.out.s2)
  rw [HNS.out] at s2
  have f0 := ((Fr.refl (fun _ => False) w).drew).cell f0
  have f1 := ((Fr.refl (fun _ => False) w).drew).cell f1
  have f2 := ((Fr.refl (fun _ => False) w).drew).cell f2
  have f3 := ((Fr.refl (fun _ => False) w).drew).cell f3
  have f4 := ((Fr.refl (fun _ => False) w).drew).cell f4
  have k0 := ((Fr.refl (fun _ => False) w).drew).cell k0
  have p1 := ((Fr.refl (fun _ => False) w).drew).cell p1
  have p7 := ((Fr.refl (fun _ => False) w).drew).cell p7
  have a2 := ((Fr.refl (fun _ => False) w).drew).cell a2
  have a6 := ((Fr.refl (fun _ => False) w).drew).cell a6
  have s3 := ((Fr.refl (fun _ => False) w).drew).cell s3
  have s4 := ((Fr.refl (fun _ => False) w).drew).cell s4
  have bl := Nat.lt_of_lt_of_le bl ((Fr.refl (fun _ => False) w).drew).size
  have tl := Nat.lt_of_lt_of_le tl ((Fr.refl (fun _ => False) w).drew).size
  have fl := Nat.lt_of_lt_of_le fl ((Fr.refl (fun _ => False) w).drew).size
  have kl := Nat.lt_of_lt_of_le kl ((Fr.refl (fun _ => False) w).drew).size
  have pl := Nat.lt_of_lt_of_le pl ((Fr.refl (fun _ => False) w).drew).size
  clear D2
  generalize w.drew = w2 at HFx s2 s3 s4 f0 f1 f2 f3 f4 k0 p1 p7 a2 a6 bl tl fl kl pl ⊢
  go_wp2_with fail
  refine wp_region_tail 16 (by kernel_rfl) (by kernel_rfl) (fun c a t v w h => HQH.out c a t v w h) ?_
  simp only [List.take_succ_cons, List.take_zero, List.drop_succ_cons, List.drop_zero]
  repeat go_big_quiet_step (fail)
  refine wpQuiet_nil ?_
  go_wp2_with fail
  refine wp_region_tail 9 (by kernel_rfl) (by kernel_rfl) (fun c a t v w h => HQH.out c a t v w h) ?_
  simp only [List.take_succ_cons, List.take_zero, List.drop_succ_cons, List.drop_zero]
  repeat go_big_quiet_step (fail)
  refine wpQuiet_nil ?_
  go_wp2_with fail
  refine wp_region_all 15 rfl (by kernel_rfl) (by kernel_rfl) (fun c a t v w h => HQH.out c a t v w h) ?_
  repeat go_big_quiet_step (fail)
  refine wpQuiet_nil ?_
  have hb0 : fb ≤ 140 * j := (HT.out.fr.each j _ HFM.out).2.2
  have w1 : decide ((fp : Int) < 0) = false := by rw [decide_eq_false_iff_not]; omega
  have w2' : decide (pnc < fp) = false := by rw [decide_eq_false_iff_not]; omega
  have w3 : decide (fb < fr') = false := by rw [decide_eq_false_iff_not]; omega
  have hns2 : decide (NS < NS) = false := by rw [decide_eq_false_iff_not]; omega
  by_cases hlast : j + 1 < NF
  · obtain ⟨fn, hfn2⟩ : ∃ fn, t.frames[j + 1]? = some fn := ⟨_, List.getElem?_eq_getElem (by rw [HNF.out]; exact hlast)⟩
    have md := HT.out.fr.mid j _ fn HFM.out hfn2
    have gp2 := HT.out.fr.gap j _ fn HFM.out hfn2
    have bl2 := HT.out.fr.below (List.mem_of_getElem? hfn2)
    obtain ⟨gf', z1, z2, z3, z4, z5, z6⟩ := (HR.out.one HI.out HX.out).f.at fCells_len hfn2
    dsimp only at z1
    rw [hgf] at z1
    cases z1
    have e2 := HFx.out.cell (z5 2 (by omega))
    have e3 := HFx.out.cell (z5 3 (by omega))
    dsimp only at md gp2
    rw [← HNSK.out] at md gp2
    rw [HNS.out] at bl2
    obtain ⟨nc', np', tb, er, no'⟩ := fn
    have hfe2 : w2.drew.drew.drew.cell? ⟨gf, (j + 1) * 5 + 2, none⟩ = some (.int .i64 tb) := e2
    have hfe3 : w2.drew.drew.drew.cell? ⟨gf, (j + 1) * 5 + 3, none⟩ = some (.int .i64 er) := e3
    dsimp only at *
    have hlt2 : (j : Int) + 1 < (NF : Int) := by omega
    clear z2 z3 z4 z5 z6 hfn2 e2 e3
    have w4 : decide ((er : Int) < (fb : Int) + pns) = false := by rw [decide_eq_false_iff_not]; omega
    have w5 : decide ((128 : Int) < (er : Int) - ((fb : Int) + pns) + 2) = false := by rw [decide_eq_false_iff_not]; omega
    have w6 : decide (tb < er) = false := by rw [decide_eq_false_iff_not]; omega
    have w7 : decide (NS < tb) = false := by rw [decide_eq_false_iff_not]; omega
    have w8 : decide ((tb : Int) - er < 1) = false := by rw [decide_eq_false_iff_not]; omega
    have w9 : decide ((4 : Int) < (tb : Int) - er) = false := by rw [decide_eq_false_iff_not]; omega
    have w10 : decide ((128 : Int) < (tb : Int) - ((fb : Int) + pns)) = false := by rw [decide_eq_false_iff_not]; omega
    obtain ⟨zj, HZJ⟩ : ∃ z : Bool, ((j : Int) == 0) = z := ⟨_, rfl⟩
    cases zj
    · go_wp2_with fail
      refine wp_region_all 20 rfl (by kernel_rfl) (by kernel_rfl) (fun c a t v w h => HQH.out c a t v w h) ?_
      repeat go_big_quiet_step (fail)
      refine wpQuiet_nil ?_
      go_wp2_with fail
      refine wp_region_tail 53 (by kernel_rfl) (by kernel_rfl) (fun c a t v w h => HQH.out c a t v w h) ?_
      simp only [List.take_succ_cons, List.take_zero, List.drop_succ_cons, List.drop_zero]
      repeat go_big_quiet_step (fail)
      refine wpQuiet_nil ?_
      go_wp2_with fail
      refine ct_inner (NF := NF) HR.out HT.out HI.out HX.out ?hF HFM.out HGF.out HOI.out ?ha hcE hsE (fun c a t v w h => HQH.out c a t v w h) ?_
      case hF => first | exact HFx.out | exact HFx.out.drew | exact HFx.out.drew.drew | exact HFx.out.drew.drew.drew | exact HFx.out.drew.drew.drew.drew | exact HFx.out.drew.drew.drew.drew.drew | exact HFx.out.drew.drew.drew.drew.drew.drew
      case ha => exact ⟨⟨by kernel_rfl, rfl, by kernel_rfl, by kernel_rfl, by kernel_rfl, by kernel_rfl, by kernel_rfl, by kernel_rfl, by kernel_rfl, by kernel_rfl⟩, by kernel_rfl, by rw [HMV.out]; kernel_rfl⟩
      intro a' o' w' ha' hO' hF'
      obtain ⟨u, rfl⟩ := ha'.form
      go_wp2_with fail
      exact HN.out _ o' _ ⟨by kernel_rfl, rfl, by kernel_rfl, by kernel_rfl, by kernel_rfl, by kernel_rfl, by kernel_rfl, by kernel_rfl, by kernel_rfl, by kernel_rfl⟩ hO' hF'
    · have hj0 : j = 0 := by have := eq_of_beq HZJ; omega
      have hfb : fb = 0 := by omega
      have hfr : fr' = 0 := by omega
      have hfo : fo = false := by have := HT.out.fr.p0 _ (by rw [← hj0]; exact HFM.out); exact this
      have hz1 : ((fb : Int) == 0) = true := by rw [hfb]; rfl
      have hz2 : ((fr' : Int) == 0) = true := by rw [hfr]; rfl
      have hz3 : ((fb : Int) != 0) = false := by rw [hfb]; rfl
      have hz4 : ((fr' : Int) != 0) = false := by rw [hfr]; rfl
      subst hfo
      clear hfb hfr
      clear hj0
      go_wp2_with fail
      refine wp_region_all 20 rfl (by kernel_rfl) (by kernel_rfl) (fun c a t v w h => HQH.out c a t v w h) ?_
      repeat go_big_quiet_step (fail)
      refine wpQuiet_nil ?_
      go_wp2_with fail
      refine wp_region_tail 53 (by kernel_rfl) (by kernel_rfl) (fun c a t v w h => HQH.out c a t v w h) ?_
      simp only [List.take_succ_cons, List.take_zero, List.drop_succ_cons, List.drop_zero]
      repeat go_big_quiet_step (fail)
      refine wpQuiet_nil ?_
      go_wp2_with fail
      refine ct_inner (NF := NF) HR.out HT.out HI.out HX.out ?hF HFM.out HGF.out HOI.out ?ha hcE hsE (fun c a t v w h => HQH.out c a t v w h) ?_
      case hF => first | exact HFx.out | exact HFx.out.drew | exact HFx.out.drew.drew | exact HFx.out.drew.drew.drew | exact HFx.out.drew.drew.drew.drew | exact HFx.out.drew.drew.drew.drew.drew | exact HFx.out.drew.drew.drew.drew.drew.drew
      case ha => exact ⟨⟨by kernel_rfl, rfl, by kernel_rfl, by kernel_rfl, by kernel_rfl, by kernel_rfl, by kernel_rfl, by kernel_rfl, by kernel_rfl, by kernel_rfl⟩, by kernel_rfl, by rw [HMV.out]; kernel_rfl⟩
      intro a' o' w' ha' hO' hF'
      obtain ⟨u, rfl⟩ := ha'.form
      go_wp2_with fail
      exact HN.out _ o' _ ⟨by kernel_rfl, rfl, by kernel_rfl, by kernel_rfl, by kernel_rfl, by kernel_rfl, by kernel_rfl, by kernel_rfl, by kernel_rfl, by kernel_rfl⟩ hO' hF'
  · have hlt2 : ¬ ((j : Int) + 1 < (NF : Int)) := by omega
    have hrm : NS ≤ fb + pns + 126 := by
      have h1 := (HS.out.sl i t HI.out).2 ⟨fc, fp, fb, fr', fo⟩ (by rw [HNF.out, show NF - 1 = j by omega]; exact HFM.out)
      rw [HNS.out] at h1
      dsimp only at h1
      rw [← HNSK.out] at h1
      omega
    have w4 : decide ((NS : Int) < (fb : Int) + pns) = false := by rw [decide_eq_false_iff_not]; omega
    have w5 : decide ((128 : Int) < (NS : Int) - ((fb : Int) + pns) + 2) = false := by rw [decide_eq_false_iff_not]; omega
    obtain ⟨zj, HZJ⟩ : ∃ z : Bool, ((j : Int) == 0) = z := ⟨_, rfl⟩
    cases zj
    · go_wp2_with fail
      refine wp_region_tail 53 (by kernel_rfl) (by kernel_rfl) (fun c a t v w h => HQH.out c a t v w h) ?_
      simp only [List.take_succ_cons, List.take_zero, List.drop_succ_cons, List.drop_zero]
      repeat go_big_quiet_step (fail)
      refine wpQuiet_nil ?_
      go_wp2_with fail
      refine ct_inner (NF := NF) HR.out HT.out HI.out HX.out ?hF HFM.out HGF.out HOI.out ?ha hcE hsE (fun c a t v w h => HQH.out c a t v w h) ?_
      case hF => first | exact HFx.out | exact HFx.out.drew | exact HFx.out.drew.drew | exact HFx.out.drew.drew.drew | exact HFx.out.drew.drew.drew.drew | exact HFx.out.drew.drew.drew.drew.drew | exact HFx.out.drew.drew.drew.drew.drew.drew
      case ha => exact ⟨⟨by kernel_rfl, rfl, by kernel_rfl, by kernel_rfl, by kernel_rfl, by kernel_rfl, by kernel_rfl, by kernel_rfl, by kernel_rfl, by kernel_rfl⟩, by kernel_rfl, by rw [HMV.out]; kernel_rfl⟩
      intro a' o' w' ha' hO' hF'
      obtain ⟨u, rfl⟩ := ha'.form
      go_wp2_with fail
      exact HN.out _ o' _ ⟨by kernel_rfl, rfl, by kernel_rfl, by kernel_rfl, by kernel_rfl, by kernel_rfl, by kernel_rfl, by kernel_rfl, by kernel_rfl, by kernel_rfl⟩ hO' hF'
    · have hj0 : j = 0 := by have := eq_of_beq HZJ; omega
      have hfb : fb = 0 := by omega
      have hfr : fr' = 0 := by omega
      have hfo : fo = false := by have := HT.out.fr.p0 _ (by rw [← hj0]; exact HFM.out); exact this
      have hz1 : ((fb : Int) == 0) = true := by rw [hfb]; rfl
      have hz2 : ((fr' : Int) == 0) = true := by rw [hfr]; rfl
      have hz3 : ((fb : Int) != 0) = false := by rw [hfb]; rfl
      have hz4 : ((fr' : Int) != 0) = false := by rw [hfr]; rfl
      subst hfo
      clear hfb hfr
      clear hj0
      go_wp2_with fail
      refine wp_region_tail 53 (by kernel_rfl) (by kernel_rfl) (fun c a t v w h => HQH.out c a t v w h) ?_
      simp only [List.take_succ_cons, List.take_zero, List.drop_succ_cons, List.drop_zero]
      repeat go_big_quiet_step (fail)
      refine wpQuiet_nil ?_
      go_wp2_with fail
      refine ct_inner (NF := NF) HR.out HT.out HI.out HX.out ?hF HFM.out HGF.out HOI.out ?ha hcE hsE (fun c a t v w h => HQH.out c a t v w h) ?_
      case hF => first | exact HFx.out | exact HFx.out.drew | exact HFx.out.drew.drew | exact HFx.out.drew.drew.drew | exact HFx.out.drew.drew.drew.drew | exact HFx.out.drew.drew.drew.drew.drew | exact HFx.out.drew.drew.drew.drew.drew.drew
      case ha => exact ⟨⟨by kernel_rfl, rfl, by kernel_rfl, by kernel_rfl, by kernel_rfl, by kernel_rfl, by kernel_rfl, by kernel_rfl, by kernel_rfl, by kernel_rfl⟩, by kernel_rfl, by rw [HMV.out]; kernel_rfl⟩
      intro a' o' w' ha' hO' hF'
      obtain ⟨u, rfl⟩ := ha'.form
      go_wp2_with fail
      exact HN.out _ o' _ ⟨by kernel_rfl, rfl, by kernel_rfl, by kernel_rfl, by kernel_rfl, by kernel_rfl, by kernel_rfl, by kernel_rfl, by kernel_rfl, by kernel_rfl⟩ hO' hF'
end
end Go.Proofs.Qxb6500574aGreatDoor
