/-
  THE WALK of vm: check: the threads.
-/
import Derived.Test.Qxb6500574aGreatDoorUCkC0
import Derived.Test.Qxb6500574aGreatDoorUCkT3
import Derived.Test.Qxb6500574aGreatDoorU3
namespace Go.Proofs.Qxb6500574aGreatDoor
open Go Go.RowKit
set_option linter.unusedVariables false
set_option linter.unusedSimpArgs false
section
variable {w W : World} {A : VL} {m : VMD} {f e : Nat} {K : Cx}
set_option maxRecDepth 100000
set_option maxHeartbeats 1000000
theorem ck_ths (R : VRep w A m f e) (S : Slp K m) (T0 : Th0 m) (hF : Fr (fun _ => False) w W) {a : Act} (ha : FrC A.b a) (hsl : a.tmps[344]? = some (.slice (some ⟨A.bT, 0, none⟩) m.ths.length 5)) (hln : a.tmps[345]? = some (.int .i64 m.ths.length)) (hcn : a.tmps[346]? = some (.int .i64 0)) (hs18 : a.tmps[18]? = some (.int .i64 0))
    {Q : Exit → Act → World → Prop} (hQ : ∀ c a t v w, Q (.panic c) (a.put (some t) v) w → Q (.panic c) a w) (hE : ∀ a' W', FrC A.b a' → a'.tmps[18]? = some (.int .i64 (((m.ths.map (fun t => t.opn.length)).sum : Nat) : Int)) → Fr (fun _ => False) w W' → Q (.exit 6) a' W') : (loopM Tryz.f89.body 15).wp Tryz.prog Q a W := by
  have HE : Hid (∀ a' W', FrC A.b a' → a'.tmps[18]? = some (.int .i64 (((m.ths.map (fun t => t.opn.length)).sum : Nat) : Int)) → Fr (fun _ => False) w W' → Q (.exit 6) a' W') := hE
  have HQH : Hid (∀ c a t v w, Q (.panic c) (a.put (some t) v) w → Q (.panic c) a w) := hQ
  have HR : Hid (VRep w A m f e) := R
  have HS : Hid (Slp K m) := S
  have HT0 : Hid (Th0 m) := T0
  have hb : m.ths.length ≤ 5 := by have := R.len5; omega
  simp only [loopM, restM, codeL, codeR, codeIn, Tryz.f89, Option.getD_some]
  refine wp_loop_ghost_k (fun n a' W' => ∃ (j : Nat), n = m.ths.length - j ∧ j ≤ m.ths.length ∧ FrC A.b a' ∧ a'.tmps[344]? = some (.slice (some ⟨A.bT, 0, none⟩) m.ths.length 5) ∧ a'.tmps[345]? = some (.int .i64 m.ths.length) ∧ a'.tmps[346]? = some (.int .i64 j) ∧ a'.tmps[18]? = some (.int .i64 (((m.ths.take j).map (fun t => t.opn.length)).sum : Nat)) ∧ Fr (fun _ => False) w W') _ ⟨0, rfl, Nat.zero_le _, ha, hsl, hln, hcn, by rw [hs18]; rfl, hF⟩ ?_
  clear hF ha hsl hln hcn hE hQ R S T0 hs18
  rintro n a W ⟨j, rfl, hj, ha, hsl, hln, hcn, hs18, hF⟩ J KK hJ hKK
  have HJ : Hid (∀ k a' w', _ → J k a' w') := hJ
  have HKK : Hid (∀ a' w', Handed J _ a' w' → KK a' w') := hKK
  clear hJ hKK
  have HF : Hid (Fr (fun _ => False) w W) := hF
  obtain ⟨u, e, hu⟩ := form401 ha.size ha.df
  have e0 := hu 0 _ ha.t0
  have e1 := hu 1 _ ha.t1
  have e2 := hu 2 _ ha.t2
  have eln := hu 345 _ hln
  have ecn := hu 346 _ hcn
  have es18 := hu 18 _ hs18
  rcases Nat.eq_or_lt_of_le hj with heq | hlt
  · have esl := hu 344 _ hsl
    subst heq
    have HEND18 : Hid ((((m.ths.map (fun t => t.opn.length)).sum : Nat) : Int) = (((((m.ths.take (m.ths.length)).map (fun t => t.opn.length)).sum : Nat) : Nat) : Int)) := by rw [List.take_length]; exact rfl
    rw [e0, e1, e2, esl, eln, ecn, es18] at e
    subst e
    clear hu e0 e1 e2 esl eln ecn es18 ha hsl hln hcn hs18 hF
    go_wp2_with fail
    exact HE.out _ _ ⟨by kernel_rfl, rfl, by kernel_rfl, by kernel_rfl, by kernel_rfl⟩ (by rw [HEND18.out]; kernel_rfl) HF.out
  · obtain ⟨p, hp⟩ : ∃ p, m.ths[j]? = some p := ⟨_, List.getElem?_eq_getElem hlt⟩
    obtain ⟨l, hx⟩ : ∃ l, A.X[j]? = some l := ⟨_, List.getElem?_eq_getElem (by rw [HR.out.lenX]; exact hlt)⟩
    have HP : Hid (m.ths[j]? = some p) := hp
    have HX : Hid (A.X[j]? = some l) := hx
    have hsum : ((m.ths.take j).map (fun t => t.opn.length)).sum + p.opn.length ≤ m.cells.length := by
      have h1 := open_sum HS.out.vi
      have h2 : m.cells.countP (fun c => decide (0 ≤ c.th)) ≤ m.cells.length := List.countP_le_length
      have h3 := sum_take (fun t : ThD => t.opn.length) hp
      have h4 : ((m.ths.take (j + 1)).map (fun t => t.opn.length)).sum ≤ (m.ths.map (fun t => t.opn.length)).sum := by
        have h6 : (m.ths.map (fun t => t.opn.length)).sum = ((m.ths.take (j + 1)).map (fun t => t.opn.length)).sum + ((m.ths.drop (j + 1)).map (fun t => t.opn.length)).sum := by rw [← List.sum_append, ← List.map_append, List.take_append_drop]
        omega
      omega
    have hcl : m.cells.length ≤ 6120 := by have := HS.out.vi.cu; have := HS.out.up.1; have := HS.out.vi.kc; have := HS.out.vi.cn; omega
    have HNX : Hid (∀ (a' : Act) (W' : World), FrC A.b a' → a'.tmps[344]? = some (.slice (some ⟨A.bT, 0, none⟩) m.ths.length 5) → a'.tmps[345]? = some (.int .i64 m.ths.length) → a'.tmps[346]? = some (.int .i64 ((j : Int) + 1)) → a'.tmps[18]? = some (.int .i64 (((((m.ths.take j).map (fun t => t.opn.length)).sum : Nat) : Nat) + p.opn.length : Int)) → Fr (fun _ => False) w W' → KK a' W') :=
      fun a' W' h1 h2 h3 h4 h18 h5 => HKK.out _ _ (Handed.intro (m.ths.length - (j + 1)) (by omega) (HJ.out _ _ _ ⟨j + 1, rfl, hlt, h1, h2, h3, h4, by rw [h18, sum_take _ hp]; rfl, h5⟩))
    obtain ⟨N18, HN18⟩ : ∃ x, Hid (((m.ths.take j).map (fun t => t.opn.length)).sum = x) := ⟨_, rfl⟩
    rw [HN18.out] at hs18 es18 HNX hsum
    have hN : N18 + p.opn.length ≤ 6120 := by omega
    clear hsum hcl
    have HH : Hid (N18 + p.opn.length ≤ 6120) := hN
    obtain ⟨NH, HNH⟩ : ∃ x, Hid (m.ths.length = x) := ⟨_, rfl⟩
    have esl := hu 344 _ hsl
    rw [HNH.out] at hlt hj hb esl eln HNX
    rw [e0, e1, e2, esl, eln, ecn, es18] at e
    subst e
    have g1 : (((j : Nat) : Int) == -1) = false := by rw [beq_eq_false_iff_ne]; omega
    have HRW : Hid (VRep W A m f e) := HR.out.fresh hF
    clear hu e0 e1 e2 esl eln ecn es18 ha hsl hln hcn hs18 hF hp hx hN
    go_wp2_with fail
    refine (checkThread_any HRW.out HS.out HT0.out HP.out).mono ?_
    rintro e' w1 ⟨rfl, F1⟩
    have HF1 : Hid (Fr (fun _ => False) w w1) := HF.out.trans F1 (fun _ _ x => x)
    have s4 := (HRW.out.fresh F1).thCell HP.out HX.out (j := 4) (by omega)
    have a9 := (HRW.out.fresh F1).cell0 9
    have bl := (HRW.out.fresh F1).bl
    have tl := (HRW.out.fresh F1).ths.here.has.lt
    simp only [vmCells, thCells, List.getElem?_toArray, List.getElem?_cons_succ, List.getElem?_cons_zero, Sl.v] at s4 a9
    rw [HNH.out] at a9
    have hN := HH.out
    obtain ⟨NO, HNO⟩ : ∃ x, Hid (p.opn.length = x) := ⟨_, rfl⟩
    rw [HNO.out] at s4 hN HNX
    clear F1
    go_wp2_with fail
    refine HNX.out _ _ ?_ ?_ ?_ ?_ ?_ ?_
    · exact ⟨by kernel_rfl, rfl, by kernel_rfl, by kernel_rfl, by kernel_rfl⟩
    · kernel_rfl
    · kernel_rfl
    · kernel_rfl
    · kernel_rfl
    · exact HF1.out
end
end Go.Proofs.Qxb6500574aGreatDoor
