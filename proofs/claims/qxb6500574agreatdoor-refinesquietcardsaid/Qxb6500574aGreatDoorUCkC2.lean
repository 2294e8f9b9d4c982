/-
  THE WALK of vm: check: the closures.
-/
import Derived.Test.Qxb6500574aGreatDoorUCkC0
namespace Go.Proofs.Qxb6500574aGreatDoor
open Go Go.RowKit
set_option linter.unusedVariables false
set_option linter.unusedSimpArgs false
section
variable {w W : World} {A : VL} {m : VMD} {f e : Nat} {K : Cx}
set_option maxRecDepth 100000
set_option maxHeartbeats 1000000
theorem ck_clos (R : VRep w A m f e) (S : Slp K m) (T0 : Th0 m) (hF : Fr (fun _ => False) w W) {a : Act} (ha : FrC A.b a) (hsl : a.tmps[269]? = some (.slice A.C.clos.a m.clos.length A.C.clos.c)) (hln : a.tmps[270]? = some (.int .i64 m.clos.length)) (hcn : a.tmps[271]? = some (.int .i64 0)) (hs9 : a.tmps[9]? = some (.int .i64 0))
    {Q : Exit → Act → World → Prop} (hQ : ∀ c a t v w, Q (.panic c) (a.put (some t) v) w → Q (.panic c) a w) (hE : ∀ a' W', FrC A.b a' → a'.tmps[9]? = some (.int .i64 m.upix.length) → Fr (fun _ => False) w W' → Q (.exit 2) a' W') : (loopM Tryz.f89.body 11).wp Tryz.prog Q a W := by
  have HE : Hid (∀ a' W', FrC A.b a' → a'.tmps[9]? = some (.int .i64 m.upix.length) → Fr (fun _ => False) w W' → Q (.exit 2) a' W') := hE
  have HQH : Hid (∀ c a t v w, Q (.panic c) (a.put (some t) v) w → Q (.panic c) a w) := hQ
  have HR : Hid (VRep w A m f e) := R
  have HS : Hid (Slp K m) := S
  have HT0 : Hid (Th0 m) := T0
  have hb : m.clos.length ≤ 24 := by have := S.vi.kc; have := S.vi.cn; omega
  simp only [loopM, restM, codeL, codeR, codeIn, Tryz.f89, Option.getD_some]
  refine wp_loop_ghost_k (fun n a' W' => ∃ (j : Nat), n = m.clos.length - j ∧ j ≤ m.clos.length ∧ FrC A.b a' ∧ a'.tmps[269]? = some (.slice A.C.clos.a m.clos.length A.C.clos.c) ∧ a'.tmps[270]? = some (.int .i64 m.clos.length) ∧ a'.tmps[271]? = some (.int .i64 j) ∧ a'.tmps[9]? = some (.int .i64 (((m.clos.take j).map ClD.nup).sum : Nat)) ∧ Fr (fun _ => False) w W') _ ⟨0, rfl, Nat.zero_le _, ha, hsl, hln, hcn, by rw [hs9]; rfl, hF⟩ ?_
  clear hF ha hsl hln hcn hE hQ R S T0 hs9
  rintro n a W ⟨j, rfl, hj, ha, hsl, hln, hcn, hs9, hF⟩ J KK hJ hKK
  have HJ : Hid (∀ k a' w', _ → J k a' w') := hJ
  have HKK : Hid (∀ a' w', Handed J _ a' w' → KK a' w') := hKK
  clear hJ hKK
  have HF : Hid (Fr (fun _ => False) w W) := hF
  obtain ⟨u, e, hu⟩ := form401 ha.size ha.df
  have e0 := hu 0 _ ha.t0
  have e1 := hu 1 _ ha.t1
  have e2 := hu 2 _ ha.t2
  have eln := hu 270 _ hln
  have ecn := hu 271 _ hcn
  have es9 := hu 9 _ hs9
  rcases Nat.eq_or_lt_of_le hj with heq | hlt
  · have esl := hu 269 _ hsl
    subst heq
    have HEND9 : Hid (((m.upix.length : Nat) : Int) = (((((m.clos.take (m.clos.length)).map ClD.nup).sum : Nat) : Nat) : Int)) := by rw [List.take_length, ← HS.out.up.2.all]; exact rfl
    rw [e0, e1, e2, esl, eln, ecn, es9] at e
    subst e
    clear hu e0 e1 e2 esl eln ecn es9 ha hsl hln hcn hs9 hF
    go_wp2_with fail
    exact HE.out _ _ ⟨by kernel_rfl, rfl, by kernel_rfl, by kernel_rfl, by kernel_rfl⟩ (by rw [HEND9.out]; kernel_rfl) HF.out
  · obtain ⟨p, hp⟩ : ∃ p, m.clos[j]? = some p := ⟨_, List.getElem?_eq_getElem hlt⟩
    obtain ⟨gk, x1, x2, x3, x4, x5, x6⟩ := HR.out.core.clos.at clCells_len hp
    obtain ⟨y1, y2, y3⟩ := HS.out.vi.cl p (List.mem_of_getElem? hp)
    obtain ⟨q, hq⟩ : ∃ q, m.protos[p.p]? = some q := ⟨_, List.getElem?_eq_getElem y1⟩
    rw [List.getD_eq_getElem?_getD, hq, Option.getD_some] at y2
    obtain ⟨gp, d1, d2, d3, d4, d5, d6⟩ := HR.out.core.protos.at pCells_len hq
    have k0 := hF.cell (x5 0 (by omega))
    have k1 := hF.cell (x5 1 (by omega))
    have k2 := hF.cell (x5 2 (by omega))
    have p3 := hF.cell (d5 3 (by omega))
    simp only [clCells, pCells, List.getElem?_cons_succ, List.getElem?_cons_zero, Nat.add_zero] at k0 k1 k2 p3
    have gl := Nat.lt_of_lt_of_le x4 hF.size
    have pl := Nat.lt_of_lt_of_le d4 hF.size
    have a2 : W.cell? ⟨A.b, 2, none⟩ = some (.slice (some ⟨gp, 0, none⟩) m.protos.length A.C.protos.c) := by rw [← d1]; exact hF.cell (HR.out.cell0 2)
    have bl := Nat.lt_of_lt_of_le HR.out.bl hF.size
    have z1 := HS.out.up.2.each j p hp
    have hp13 := HS.out.vi.txt.pl
    have hux : m.upix.length ≤ 6120 := by have := HS.out.up.1; omega
    have HNX : Hid (∀ (a' : Act) (W' : World), FrC A.b a' → a'.tmps[269]? = some (.slice A.C.clos.a m.clos.length A.C.clos.c) → a'.tmps[270]? = some (.int .i64 m.clos.length) → a'.tmps[271]? = some (.int .i64 ((j : Int) + 1)) → a'.tmps[9]? = some (.int .i64 (((((m.clos.take j).map ClD.nup).sum : Nat) : Nat) + p.nup : Int)) → Fr (fun _ => False) w W' → KK a' W') :=
      fun a' W' h1 h2 h3 h4 h9 h5 => HKK.out _ _ (Handed.intro (m.clos.length - (j + 1)) (by omega) (HJ.out _ _ _ ⟨j + 1, rfl, hlt, h1, h2, h3, h4, by rw [h9, sum_take _ hp]; rfl, h5⟩))
    obtain ⟨N9, HN9⟩ : ∃ x, Hid (((m.clos.take j).map ClD.nup).sum = x) := ⟨_, rfl⟩
    rw [HN9.out] at z1 hs9 es9 HNX
    rw [x1] at hsl
    have esl := hu 269 _ hsl
    obtain ⟨qp, qu, qn⟩ := p
    dsimp only at *
    subst z1
    rw [← y2] at p3
    have k9 : qu + qn ≤ 6120 := by omega
    have g1 : decide ((qp : Int) < 0) = false := by rw [decide_eq_false_iff_not]; omega
    rw [x1] at HNX
    obtain ⟨NP, HNP⟩ : ∃ x, Hid (m.protos.length = x) := ⟨_, rfl⟩
    rw [HNP.out] at a2 y1 hp13
    have g2 : decide (NP ≤ qp) = false := by rw [decide_eq_false_iff_not]; omega
    obtain ⟨NC, HNC⟩ : ∃ x, Hid (m.clos.length = x) := ⟨_, rfl⟩
    rw [HNC.out] at hlt hj hb esl eln HNX
    rw [e0, e1, e2, esl, eln, ecn, es9] at e
    subst e
    clear hu e0 e1 e2 esl eln ecn es9 ha hsl hln hcn hs9 hF x1 x2 x3 x4 x5 x6 hp y2 y3 hq d1 d2 d3 d4 d5 d6 hux
    have HFA : Hid (Fr (fun _ => False) w (W.alloc (.cells #[.int .i64 qp, .int .i64 qu, .int .i64 qn] 187))) := HF.out.alloc _
    go_wp2_with fail
    refine wp_region_tail 32 (by kernel_rfl) (by kernel_rfl) (fun c a t v w h => HQH.out c a t v w h) ?_
    simp only [List.take_succ_cons, List.take_zero, List.drop_succ_cons, List.drop_zero]
    repeat go_big_quiet_step (fail)
    refine wpQuiet_nil ?_
    go_wp2_with fail
    refine HNX.out _ _ ?_ ?_ ?_ ?_ ?_ ?_
    · exact ⟨by kernel_rfl, rfl, by kernel_rfl, by kernel_rfl, by kernel_rfl⟩
    · kernel_rfl
    · kernel_rfl
    · kernel_rfl
    · kernel_rfl
    · exact HFA.out.drew
end
end Go.Proofs.Qxb6500574aGreatDoor
