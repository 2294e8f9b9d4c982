/-
  THE WALK of vm: check: the upvalues.
-/
import Derived.Test.Qxb6500574aGreatDoorUCkC0
namespace Go.Proofs.Qxb6500574aGreatDoor
open Go Go.RowKit
set_option linter.unusedVariables false
set_option linter.unusedSimpArgs false
section
variable {w W : World} {A : VL} {m : VMD} {f e : Nat} {K : Cx}
set_option maxRecDepth 100000
set_option maxHeartbeats 1000000
theorem ck_upix (R : VRep w A m f e) (S : Slp K m) (T0 : Th0 m) (hF : Fr (fun _ => False) w W) {a : Act} (ha : FrC A.b a) (hsl : a.tmps[323]? = some (.slice A.C.upix.a m.upix.length A.C.upix.c)) (hln : a.tmps[324]? = some (.int .i64 m.upix.length)) (hcn : a.tmps[325]? = some (.int .i64 0))
    {Q : Exit → Act → World → Prop} (hQ : ∀ c a t v w, Q (.panic c) (a.put (some t) v) w → Q (.panic c) a w) (hE : ∀ a' W', FrC A.b a' → Fr (fun _ => False) w W' → Q (.exit 4) a' W') : (loopM Tryz.f89.body 13).wp Tryz.prog Q a W := by
  have HE : Hid (∀ a' W', FrC A.b a' → Fr (fun _ => False) w W' → Q (.exit 4) a' W') := hE
  have HQH : Hid (∀ c a t v w, Q (.panic c) (a.put (some t) v) w → Q (.panic c) a w) := hQ
  have HR : Hid (VRep w A m f e) := R
  have HS : Hid (Slp K m) := S
  have HT0 : Hid (Th0 m) := T0
  have hb : m.upix.length ≤ 6120 := by have := S.vi.kc; have := S.vi.cn; have := S.up.1; omega
  simp only [loopM, restM, codeL, codeR, codeIn, Tryz.f89, Option.getD_some]
  refine wp_loop_ghost_k (fun n a' W' => ∃ (j : Nat), n = m.upix.length - j ∧ j ≤ m.upix.length ∧ FrC A.b a' ∧ a'.tmps[323]? = some (.slice A.C.upix.a m.upix.length A.C.upix.c) ∧ a'.tmps[324]? = some (.int .i64 m.upix.length) ∧ a'.tmps[325]? = some (.int .i64 j) ∧ Fr (fun _ => False) w W') _ ⟨0, rfl, Nat.zero_le _, ha, hsl, hln, hcn, hF⟩ ?_
  clear hF ha hsl hln hcn hE hQ R S T0 
  rintro n a W ⟨j, rfl, hj, ha, hsl, hln, hcn, hF⟩ J KK hJ hKK
  have HJ : Hid (∀ k a' w', _ → J k a' w') := hJ
  have HKK : Hid (∀ a' w', Handed J _ a' w' → KK a' w') := hKK
  clear hJ hKK
  have HF : Hid (Fr (fun _ => False) w W) := hF
  obtain ⟨u, e, hu⟩ := form401 ha.size ha.df
  have e0 := hu 0 _ ha.t0
  have e1 := hu 1 _ ha.t1
  have e2 := hu 2 _ ha.t2
  have eln := hu 324 _ hln
  have ecn := hu 325 _ hcn

  rcases Nat.eq_or_lt_of_le hj with heq | hlt
  · have esl := hu 323 _ hsl
    subst heq

    rw [e0, e1, e2, esl, eln, ecn] at e
    subst e
    clear hu e0 e1 e2 esl eln ecn  ha hsl hln hcn  hF
    go_wp2_with fail
    exact HE.out _ _ ⟨by kernel_rfl, rfl, by kernel_rfl, by kernel_rfl, by kernel_rfl⟩  HF.out
  · obtain ⟨p, hp⟩ : ∃ p, m.upix[j]? = some p := ⟨_, List.getElem?_eq_getElem hlt⟩
    obtain ⟨gu, x1, x2, x3, x4, x5, x6⟩ := HR.out.core.upix.at nCells_len hp
    have k0 := hF.cell (x5 0 (by omega))
    simp only [nCells, List.getElem?_cons_zero, Nat.add_zero, Nat.mul_one] at k0
    have gl := Nat.lt_of_lt_of_le x4 hF.size
    have a8 : W.cell? ⟨A.b, 8, none⟩ = some (.slice A.C.cells.a m.cells.length A.C.cells.c) := hF.cell (HR.out.cell0 8)
    have bl := Nat.lt_of_lt_of_le HR.out.bl hF.size
    have z1 := HS.out.vi.ux p (List.mem_of_getElem? hp)
    have z2 := HS.out.vi.cu
    have HNX : Hid (∀ (a' : Act) (W' : World), FrC A.b a' → a'.tmps[323]? = some (.slice A.C.upix.a m.upix.length A.C.upix.c) → a'.tmps[324]? = some (.int .i64 m.upix.length) → a'.tmps[325]? = some (.int .i64 ((j : Int) + 1)) → Fr (fun _ => False) w W' → KK a' W') :=
      fun a' W' h1 h2 h3 h4  h5 => HKK.out _ _ (Handed.intro (m.upix.length - (j + 1)) (by omega) (HJ.out _ _ _ ⟨j + 1, rfl, hlt, h1, h2, h3, h4, h5⟩))
    rw [x1] at hsl
    have esl := hu 323 _ hsl
    rw [x1] at HNX
    obtain ⟨NE, HNE⟩ : ∃ x, Hid (m.cells.length = x) := ⟨_, rfl⟩
    rw [HNE.out] at a8 z1 z2
    have g1 : decide ((p : Int) < 0) = false := by rw [decide_eq_false_iff_not]; omega
    have g2 : decide (NE ≤ p) = false := by rw [decide_eq_false_iff_not]; omega
    obtain ⟨NU, HNU⟩ : ∃ x, Hid (m.upix.length = x) := ⟨_, rfl⟩
    rw [HNU.out] at hlt hj hb esl eln HNX z2
    rw [e0, e1, e2, esl, eln, ecn] at e
    subst e
    clear hu e0 e1 e2 esl eln ecn ha hsl hln hcn hF x1 x2 x3 x4 x5 x6 hp
    go_wp2_with fail
    refine HNX.out _ _ ?_ ?_ ?_ ?_ ?_
    · exact ⟨by kernel_rfl, rfl, by kernel_rfl, by kernel_rfl, by kernel_rfl⟩
    · kernel_rfl
    · kernel_rfl
    · kernel_rfl
    · exact HF.out
end
end Go.Proofs.Qxb6500574aGreatDoor
