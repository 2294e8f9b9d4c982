/-
  THE WALK of vm: check: the protos.
-/
import Derived.Test.Qxb6500574aGreatDoorUCkC0
namespace Go.Proofs.Qxb6500574aGreatDoor
open Go Go.RowKit
set_option linter.unusedVariables false
set_option linter.unusedSimpArgs false
section
variable {w W : World} {A : VL} {m : VMD} {f e : Nat} {K : Cx}
set_option maxRecDepth 100000
set_option maxHeartbeats 1000000
theorem ck_protos (R : VRep w A m f e) (S : Slp K m) (T0 : Th0 m) (hF : Fr (fun _ => False) w W) {a : Act} (ha : FrC A.b a) (hsl : a.tmps[166]? = some (.slice A.C.protos.a m.protos.length A.C.protos.c)) (hln : a.tmps[167]? = some (.int .i64 m.protos.length)) (hcn : a.tmps[168]? = some (.int .i64 0)) (hs9 : a.tmps[9]? = some (.int .i64 0)) (hs10 : a.tmps[10]? = some (.int .i64 0)) (hs11 : a.tmps[11]? = some (.int .i64 0))
    {Q : Exit → Act → World → Prop} (hQ : ∀ c a t v w, Q (.panic c) (a.put (some t) v) w → Q (.panic c) a w) (hE : ∀ a' W', FrC A.b a' → a'.tmps[9]? = some (.int .i64 m.descs.length) → a'.tmps[10]? = some (.int .i64 m.consts.length) → a'.tmps[11]? = some (.int .i64 m.code.length) → Fr (fun _ => False) w W' → Q (.exit 0) a' W') : (loopM Tryz.f89.body 8).wp Tryz.prog Q a W := by
  have HE : Hid (∀ a' W', FrC A.b a' → a'.tmps[9]? = some (.int .i64 m.descs.length) → a'.tmps[10]? = some (.int .i64 m.consts.length) → a'.tmps[11]? = some (.int .i64 m.code.length) → Fr (fun _ => False) w W' → Q (.exit 0) a' W') := hE
  have HQH : Hid (∀ c a t v w, Q (.panic c) (a.put (some t) v) w → Q (.panic c) a w) := hQ
  have HR : Hid (VRep w A m f e) := R
  have HS : Hid (Slp K m) := S
  have HT0 : Hid (Th0 m) := T0
  have hb : m.protos.length ≤ 13 := S.vi.txt.pl
  simp only [loopM, restM, codeL, codeR, codeIn, Tryz.f89, Option.getD_some]
  refine wp_loop_ghost_k (fun n a' W' => ∃ (j : Nat), n = m.protos.length - j ∧ j ≤ m.protos.length ∧ FrC A.b a' ∧ a'.tmps[166]? = some (.slice A.C.protos.a m.protos.length A.C.protos.c) ∧ a'.tmps[167]? = some (.int .i64 m.protos.length) ∧ a'.tmps[168]? = some (.int .i64 j) ∧ a'.tmps[9]? = some (.int .i64 (((m.protos.take j).map PrD.nup).sum : Nat)) ∧ a'.tmps[10]? = some (.int .i64 (((m.protos.take j).map PrD.nk).sum : Nat)) ∧ a'.tmps[11]? = some (.int .i64 (((m.protos.take j).map PrD.nc).sum : Nat)) ∧ Fr (fun _ => False) w W') _ ⟨0, rfl, Nat.zero_le _, ha, hsl, hln, hcn, by rw [hs9]; rfl, by rw [hs10]; rfl, by rw [hs11]; rfl, hF⟩ ?_
  clear hF ha hsl hln hcn hE hQ R S T0 hs9 hs10 hs11
  rintro n a W ⟨j, rfl, hj, ha, hsl, hln, hcn, hs9, hs10, hs11, hF⟩ J KK hJ hKK
  have HJ : Hid (∀ k a' w', _ → J k a' w') := hJ
  have HKK : Hid (∀ a' w', Handed J _ a' w' → KK a' w') := hKK
  clear hJ hKK
  have HF : Hid (Fr (fun _ => False) w W) := hF
  obtain ⟨u, e, hu⟩ := form401 ha.size ha.df
  have e0 := hu 0 _ ha.t0
  have e1 := hu 1 _ ha.t1
  have e2 := hu 2 _ ha.t2
  have eln := hu 167 _ hln
  have ecn := hu 168 _ hcn
  have es9 := hu 9 _ hs9
  have es10 := hu 10 _ hs10
  have es11 := hu 11 _ hs11
  rcases Nat.eq_or_lt_of_le hj with heq | hlt
  · have esl := hu 166 _ hsl
    subst heq
    have HEND9 : Hid (((m.descs.length : Nat) : Int) = (((((m.protos.take (m.protos.length)).map PrD.nup).sum : Nat) : Nat) : Int)) := by rw [List.take_length, ← HS.out.vi.txt.ti.all.1]; exact rfl
    have HEND10 : Hid (((m.consts.length : Nat) : Int) = (((((m.protos.take (m.protos.length)).map PrD.nk).sum : Nat) : Nat) : Int)) := by rw [List.take_length, ← HS.out.vi.txt.ti.all.2.1]; exact rfl
    have HEND11 : Hid (((m.code.length : Nat) : Int) = (((((m.protos.take (m.protos.length)).map PrD.nc).sum : Nat) : Nat) : Int)) := by rw [List.take_length, ← HS.out.vi.txt.ti.all.2.2]; exact rfl
    rw [e0, e1, e2, esl, eln, ecn, es9, es10, es11] at e
    subst e
    clear hu e0 e1 e2 esl eln ecn es9 es10 es11 ha hsl hln hcn hs9 hs10 hs11 hF
    go_wp2_with fail
    exact HE.out _ _ ⟨by kernel_rfl, rfl, by kernel_rfl, by kernel_rfl, by kernel_rfl⟩ (by rw [HEND9.out]; kernel_rfl) (by rw [HEND10.out]; kernel_rfl) (by rw [HEND11.out]; kernel_rfl) HF.out
  · obtain ⟨p, hp⟩ : ∃ p, m.protos[j]? = some p := ⟨_, List.getElem?_eq_getElem hlt⟩
    obtain ⟨gp, x1, x2, x3, x4, x5, x6⟩ := HR.out.core.protos.at pCells_len hp
    have p0 := hF.cell (x5 0 (by omega))
    have p1 := hF.cell (x5 1 (by omega))
    have p2 := hF.cell (x5 2 (by omega))
    have p3 := hF.cell (x5 3 (by omega))
    have p4 := hF.cell (x5 4 (by omega))
    have p5 := hF.cell (x5 5 (by omega))
    have p6 := hF.cell (x5 6 (by omega))
    have p7 := hF.cell (x5 7 (by omega))
    simp only [pCells, List.getElem?_cons_succ, List.getElem?_cons_zero, Nat.add_zero] at p0 p1 p2 p3 p4 p5 p6 p7
    have gl := Nat.lt_of_lt_of_le x4 hF.size
    have hpo := HS.out.vi.txt.pr p (List.mem_of_getElem? hp)
    obtain ⟨y1, y2, y3, y4, y5, y6, y7⟩ := hpo
    obtain ⟨z1, z2, z3⟩ := HS.out.vi.txt.ti.each j p hp
    have HNX : Hid (∀ (a' : Act) (W' : World), FrC A.b a' → a'.tmps[166]? = some (.slice A.C.protos.a m.protos.length A.C.protos.c) → a'.tmps[167]? = some (.int .i64 m.protos.length) → a'.tmps[168]? = some (.int .i64 ((j : Int) + 1)) → a'.tmps[9]? = some (.int .i64 (((((m.protos.take j).map PrD.nup).sum : Nat) : Nat) + p.nup : Int)) → a'.tmps[10]? = some (.int .i64 (((((m.protos.take j).map PrD.nk).sum : Nat) : Nat) + p.nk : Int)) → a'.tmps[11]? = some (.int .i64 (((((m.protos.take j).map PrD.nc).sum : Nat) : Nat) + p.nc : Int)) → Fr (fun _ => False) w W' → KK a' W') :=
      fun a' W' h1 h2 h3 h4 h9 h10 h11 h5 => HKK.out _ _ (Handed.intro (m.protos.length - (j + 1)) (by omega) (HJ.out _ _ _ ⟨j + 1, rfl, hlt, h1, h2, h3, h4, by rw [h9, sum_take _ hp]; rfl, by rw [h10, sum_take _ hp]; rfl, by rw [h11, sum_take _ hp]; rfl, h5⟩))
    obtain ⟨N9, HN9⟩ : ∃ x, Hid (((m.protos.take j).map PrD.nup).sum = x) := ⟨_, rfl⟩
    obtain ⟨N10, HN10⟩ : ∃ x, Hid (((m.protos.take j).map PrD.nk).sum = x) := ⟨_, rfl⟩
    obtain ⟨N11, HN11⟩ : ∃ x, Hid (((m.protos.take j).map PrD.nc).sum = x) := ⟨_, rfl⟩
    rw [HN9.out] at z1 hs9 es9 HNX
    rw [HN10.out] at z2 hs10 es10 HNX
    rw [HN11.out] at z3 hs11 es11 HNX
    have hd1 := HS.out.vi.txt.dl
    have hd2 := HS.out.vi.txt.kl
    have hd3 := HS.out.vi.txt.cl
    rw [x1] at hsl
    have esl := hu 166 _ hsl
    obtain ⟨pnp, pns, pup, pnup, ppk, pnk, pco, pnc⟩ := p
    dsimp only at *
    subst z1 z2 z3
    have k1 : pup + pnup ≤ 32768 := by omega
    have k2 : ppk + pnk ≤ 32768 := by omega
    have k3 : pco + pnc ≤ 32768 := by omega
    have g1 : decide ((pnup : Int) < 0) = false := by rw [decide_eq_false_iff_not]; omega
    have g2 : decide (255 < pnup) = false := by rw [decide_eq_false_iff_not]; omega
    have g3 : decide ((pnk : Int) < 0) = false := by rw [decide_eq_false_iff_not]; omega
    have g4 : decide ((pnc : Int) < 0) = false := by rw [decide_eq_false_iff_not]; omega
    have g5 : decide ((pnp : Int) < 0) = false := by rw [decide_eq_false_iff_not]; omega
    have g6 : decide (3 < pnp) = false := by rw [decide_eq_false_iff_not]; omega
    have g7 : decide (pns < pnp) = false := by rw [decide_eq_false_iff_not]; omega
    have g8 : decide (12 < pns) = false := by rw [decide_eq_false_iff_not]; omega
    have g9 : decide ((3 : Int) < (pnp : Int)) = false := by rw [decide_eq_false_iff_not]; omega
    have g10 : decide ((12 : Int) < (pns : Int)) = false := by rw [decide_eq_false_iff_not]; omega
    have g11 : decide ((255 : Int) < (pnup : Int)) = false := by rw [decide_eq_false_iff_not]; omega
    have g12 : (pnp : Int) ≤ 3 := by omega
    have g13 : (pns : Int) ≤ 12 := by omega
    rw [x1] at HNX
    obtain ⟨NP, HNP⟩ : ∃ x, Hid (m.protos.length = x) := ⟨_, rfl⟩
    rw [HNP.out] at hlt hj hb esl eln HNX
    rw [e0, e1, e2, esl, eln, ecn, es9, es10, es11] at e
    subst e
    clear hu e0 e1 e2 esl eln ecn es9 es10 es11 ha hsl hln hcn hs9 hs10 hs11 hF x1 x2 x3 x4 x5 x6 hp y1 y2 y3 y4 y5 y6 y7
    have HFA : Hid (Fr (fun _ => False) w (W.alloc (.cells #[.int .i64 pnp, .int .i64 pns, .int .i64 pup, .int .i64 pnup, .int .i64 ppk, .int .i64 pnk, .int .i64 pco, .int .i64 pnc] 254))) := HF.out.alloc _
    go_wp2_with fail
    refine wp_region_all 15 rfl (by kernel_rfl) (by kernel_rfl) (fun c a t v w h => HQH.out c a t v w h) ?_
    repeat go_big_quiet_step (fail)
    refine wpQuiet_nil ?_
    go_wp2_with fail
    refine HNX.out _ _ ?_ ?_ ?_ ?_ ?_ ?_ ?_ ?_
    · exact ⟨by kernel_rfl, rfl, by kernel_rfl, by kernel_rfl, by kernel_rfl⟩
    · kernel_rfl
    · kernel_rfl
    · kernel_rfl
    · kernel_rfl
    · kernel_rfl
    · kernel_rfl
    · exact HFA.out.drew
end
end Go.Proofs.Qxb6500574aGreatDoor
