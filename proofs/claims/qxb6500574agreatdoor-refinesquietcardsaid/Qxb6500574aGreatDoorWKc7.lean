/-
  THE WALK of comp: Check: a state's code, a state's constants.
-/
import Derived.Test.Qxb6500574aGreatDoorWKc2
import Derived.Test.Qxb6500574aGreatDoorWKc1
namespace Go.Proofs.Qxb6500574aGreatDoor
open Go Go.RowKit
set_option linter.unusedVariables false
set_option linter.unusedSimpArgs false
open Go.Lib
theorem layC_is {v : Vl} (h : v.ok) : (layC v).length = 2 + v.s.length + (if v.t = 2 then 7 else 0) := by
  unfold layC
  rcases h with ⟨e, _, _⟩ | ⟨e, _⟩
  · have h2 : v.t = 2 := by rw [e]; rfl
    have hs : v.s = [] := by rw [e]; rfl
    rw [if_pos h2, if_pos h2, hs]
    simp [put64]
  · have h2 : v.t ≠ 2 := by rw [e]; simp [strV]
    rw [if_neg h2, if_neg h2]
    simp
    omega
section
set_option maxRecDepth 100000
set_option maxHeartbeats 1000000
variable {w : World} {o : Nat → Nat} {C : CC} {N : List Nd} {c : CmD} {x np S : Nat} {xs : List (FnD × FnL)} {L : FnL}
theorem ck9D_w (R : CRep w o C N c) (F : FnAt w o C c x xs L) (hx : x < c.np) (hu : ∀ i ∈ (c.fn x).code, FtD c x i ∧ i.1 < 256 ∧ i.2 < 65536) (hl : (c.fn x).code.length ≤ 5104) {a : Act} (ha : Fr19 C.cb C.gF x np S (c.fn x).code.length a) (h1 : a.tmps[158]? = some (.slice L.cd.a (c.fn x).code.length L.cd.c)) (h2 : a.tmps[159]? = some (.int .i64 (c.fn x).code.length)) (h3 : a.tmps[160]? = some (.int .i64 0)) {Q : Exit → Act → World → Prop} (hQ : ∀ c a t v w, Q (.panic c) (a.put (some t) v) w → Q (.panic c) a w) (hK : ∀ a' w', Fr19 C.cb C.gF x np S (c.fn x).code.length a' → Fr (fun _ => False) w w' → Q (.exit 2) a' w') :
    (ck9D Tryz.f19.body).wp Tryz.prog Q a w := by
  have HR : Hid (CRep w o C N c) := R
  have HU : Hid (∀ i ∈ (c.fn x).code, FtD c x i ∧ i.1 < 256 ∧ i.2 < 65536) := hu
  have HK : Hid (∀ a' w', Fr19 C.cb C.gF x np S (c.fn x).code.length a' → Fr (fun _ => False) w w' → Q (.exit 2) a' w') := hK
  have HQQ : Hid (∀ c a t v w, Q (.panic c) (a.put (some t) v) w → Q (.panic c) a w) := hQ
  obtain ⟨cs, HUPS⟩ : ∃ cs, Hid ((c.fn x).code = cs) := ⟨_, rfl⟩
  have HRU : Hid (Row w o (labF x 5) 105 2 L.cd cs.length (cs.flatMap iCells)) := by rw [← HUPS.out]; exact F.one.cd
  rw [HUPS.out] at HU hl h1 h2 ha HK
  obtain ⟨n, HN⟩ : ∃ n : Nat, Hid (cs.length = n) := ⟨_, rfl⟩
  obtain ⟨ua, HUA⟩ : ∃ ua, Hid (L.cd.a = ua) := ⟨_, rfl⟩
  rw [HN.out, HUA.out] at h1
  rw [HN.out] at h2 hl ha HK
  obtain ⟨u, ea, hv⟩ := form211 ha.size ha.df
  rw [hv 0 _ ha.t0, hv 3 _ ha.t3, hv 4 _ ha.t4, hv 5 _ ha.t5, hv 6 _ ha.t6, hv 71 _ ha.t71, hv 72 _ ha.t72, hv 158 _ h1, hv 159 _ h2, hv 160 _ h3] at ea
  subst ea
  clear R F hu hK ha hv h1 h2 h3 hQ
  simp only [ck9D, ck9B, codeL, codeR, codeIn, Tryz.f19, Option.getD_some]
  go_loopg [160] n (fun g v160 w1 => ∃ j : Nat, j + g = n ∧ v160 = .int .i64 j ∧ Hid (Fr (fun _ => False) w w1))
  case atStart => exact ⟨0, by omega, rfl, Fr.refl _ _⟩
  case round =>
    obtain ⟨j, hj, rfl, HFR⟩ := hrel
    by_cases hjn : j < n
    · have hj' : (j : Int) < (n : Int) := by omega
      obtain ⟨v, hd⟩ : ∃ d, cs[j]? = some d := ⟨_, List.getElem?_eq_getElem (by rw [HN.out]; exact hjn)⟩
      obtain ⟨gU, e1, e2, e3, e4, e5, e6⟩ := HRU.out.at iCells_len hd
      have k0 := HFR.out.cell (e5 0 (by omega))
      have k1 := HFR.out.cell (e5 1 (by omega))
      simp only [iCells, List.getElem?_cons_succ, List.getElem?_cons_zero, Nat.add_zero] at k0 k1
      have e4 : gU < wr.heap.size := Nat.lt_of_lt_of_le e4 HFR.out.size
      rw [HN.out] at e2
      have hua : ua = some ⟨gU, 0, none⟩ := HUA.out.symm.trans e1
      subst hua
      obtain ⟨h1, h2, h3⟩ := HU.out v (List.mem_of_getElem? hd)
      obtain ⟨g', HG'⟩ : ∃ g', Hid (gk = g' + 1) := ⟨gk - 1, by show _ = _; omega⟩
      have HJ : Hid (j + gk = n) := hj
      obtain ⟨op, ix⟩ := v
      dsimp only at h2 h3 k0 k1
      have FF : Hid (Fr (fun _ => False) w (wr.alloc (.cells #[.int .u8 op, .int .u16 ix] 105))) := HFR.out.alloc _
      have CALL := closed_any (HR.out.fresh FF.out) hx h1 h3 h2
      unfold fptr at CALL
      clear e1 e3 e5 e6 hd hj h1
      go_wp2_with fail
      refine CALL.mono ?_
      rintro e1 w2 ⟨rfl, F2⟩
      have HF2 : Hid (Fr (fun _ => False) w w2) := FF.out.trans F2 (fun _ _ x => x)
      clear F2 CALL
      go_wp2_with fail
      go_roundg g'
      case measure => have := HG'.out; omega
      case rel => exact ⟨j + 1, by have h1 := HJ.out; have h2 := HG'.out; omega, by simp, HF2.out⟩
    · have hj' : ¬ (j : Int) < (n : Int) := by omega
      go_wp2_with fail
      exact HK.out _ _ ⟨by kernel_rfl, rfl, by kernel_rfl, by kernel_rfl, by kernel_rfl, by kernel_rfl, by kernel_rfl, by kernel_rfl, by kernel_rfl⟩ HFR.out
theorem ck9K_w (F : FnAt w o C c x xs L) (hu : ∀ v ∈ (c.fn x).consts, v.ok) (hl : (c.fn x).consts.length ≤ 301) (hS : S ≤ 1000000) {m : Nat} {a : Act} (ha : Fr19 C.cb C.gF x np S m a) (h1 : a.tmps[185]? = some (.slice L.cn.a (c.fn x).consts.length L.cn.c)) (h2 : a.tmps[186]? = some (.int .i64 (c.fn x).consts.length)) (h3 : a.tmps[187]? = some (.int .i64 0)) {Q : Exit → Act → World → Prop} (hQ : ∀ c a t v w, Q (.panic c) (a.put (some t) v) w → Q (.panic c) a w) (hK : ∀ a' w', Fr19 C.cb C.gF x np (S + ((c.fn x).consts.flatMap layC).length) m a' → Fr (fun _ => False) w w' → Q (.exit 4) a' w') :
    (ck9K Tryz.f19.body).wp Tryz.prog Q a w := by
  have HU : Hid (∀ v ∈ (c.fn x).consts, v.ok) := hu
  have HK : Hid (∀ a' w', Fr19 C.cb C.gF x np (S + ((c.fn x).consts.flatMap layC).length) m a' → Fr (fun _ => False) w w' → Q (.exit 4) a' w') := hK
  have HQQ : Hid (∀ c a t v w, Q (.panic c) (a.put (some t) v) w → Q (.panic c) a w) := hQ
  obtain ⟨cs, HUPS⟩ : ∃ cs, Hid ((c.fn x).consts = cs) := ⟨_, rfl⟩
  have HRU : Hid (Row w o (labF x 2) 68 3 L.cn cs.length (cs.flatMap vCells)) := by rw [← HUPS.out]; exact F.one.cn
  rw [HUPS.out] at HU hl h1 h2 HK
  obtain ⟨n, HN⟩ : ∃ n : Nat, Hid (cs.length = n) := ⟨_, rfl⟩
  obtain ⟨ua, HUA⟩ : ∃ ua, Hid (L.cn.a = ua) := ⟨_, rfl⟩
  rw [HN.out, HUA.out] at h1
  rw [HN.out] at h2 hl
  obtain ⟨u, ea, hv⟩ := form211 ha.size ha.df
  rw [hv 0 _ ha.t0, hv 3 _ ha.t3, hv 4 _ ha.t4, hv 5 _ ha.t5, hv 6 _ ha.t6, hv 71 _ ha.t71, hv 72 _ ha.t72, hv 185 _ h1, hv 186 _ h2, hv 187 _ h3] at ea
  subst ea
  have HT : Hid (∀ (j : Nat) (v : Vl), cs[j]? = some v → ((cs.take (j + 1)).flatMap layC).length = ((cs.take j).flatMap layC).length + (2 + v.s.length + (if v.t = 2 then 7 else 0))) := by
    intro j v hj
    rw [List.take_add_one, hj, List.flatMap_append, List.length_append, ← layC_is (HU.out v (List.mem_of_getElem? hj))]
    simp
  have HB : Hid (∀ (j : Nat), ((cs.take j).flatMap layC).length ≤ 49 * j) := by
    intro j
    induction j with
    | zero => simp
    | succ j ih =>
      cases hj : cs[j]? with
      | none =>
        rw [List.take_add_one, hj]
        simp only [Option.toList_none, List.append_nil]
        omega
      | some v =>
        rw [HT.out j v hj]
        have hok := HU.out v (List.mem_of_getElem? hj)
        have : v.s.length ≤ 40 := by
          rcases hok with ⟨e, _⟩ | ⟨_, h⟩
          · rw [e]; simp [numV]
          · exact h
        split <;> omega
  clear F hu hK ha hv h1 h2 h3 hQ
  simp only [ck9K, ck9B, codeL, codeR, codeIn, Tryz.f19, Option.getD_some]
  go_loopg [3, 187] n (fun g v3 v187 w1 => ∃ j s : Nat, j + g = n ∧ v187 = .int .i64 j ∧ v3 = .int .i64 s ∧ Hid (s = S + ((cs.take j).flatMap layC).length) ∧ Hid (Fr (fun _ => False) w w1))
  case atStart => exact ⟨0, S, by omega, rfl, rfl, by simp [Hid], Fr.refl _ _⟩
  case round =>
    obtain ⟨j, s, hj, rfl, rfl, HS, HFR⟩ := hrel
    by_cases hjn : j < n
    · have hj' : (j : Int) < (n : Int) := by omega
      obtain ⟨v, hd⟩ : ∃ d, cs[j]? = some d := ⟨_, List.getElem?_eq_getElem (by rw [HN.out]; exact hjn)⟩
      obtain ⟨gU, e1, e2, e3, e4, e5, e6⟩ := HRU.out.at vCells_len hd
      have k0 := HFR.out.cell (e5 0 (by omega))
      have k1 := HFR.out.cell (e5 1 (by omega))
      have k2 := HFR.out.cell (e5 2 (by omega))
      simp only [vCells, List.getElem?_cons_succ, List.getElem?_cons_zero, Nat.add_zero] at k0 k1 k2
      have e4 : gU < wr.heap.size := Nat.lt_of_lt_of_le e4 HFR.out.size
      rw [HN.out] at e2
      have hua : ua = some ⟨gU, 0, none⟩ := HUA.out.symm.trans e1
      subst hua
      obtain ⟨g', HG'⟩ : ∃ g', Hid (gk = g' + 1) := ⟨gk - 1, by show _ = _; omega⟩
      have HJ : Hid (j + gk = n) := hj
      have HTJ : Hid (((cs.take (j + 1)).flatMap layC).length = ((cs.take j).flatMap layC).length + (2 + v.s.length + (if v.t = 2 then 7 else 0))) := HT.out j v hd
      have hsb : s ≤ 1100000 := by have h1 := HS.out; have h2 := HB.out j; omega
      have hok := HU.out v (List.mem_of_getElem? hd)
      have FF : Hid (Fr (fun _ => False) w (wr.alloc (.cells #[.int .i64 v.t, .int .u64 v.n, sv v.s] 68))) := HFR.out.alloc _
      rcases hok with ⟨hv, _, _⟩ | ⟨hv, h40⟩
      · have hs0 : v.s = [] := by rw [hv]; rfl
        have ht2 : v.t = 2 := by rw [hv]; rfl
        obtain ⟨vt, vn, vs⟩ := v
        dsimp only at hs0 ht2 k0 k1 k2 FF HTJ
        subst hs0 ht2
        have HS2 : Hid (s + 9 = S + ((cs.take (j + 1)).flatMap layC).length) := by
          have h1 := HS.out
          have h2 := HTJ.out
          simp only [if_true, List.length_nil] at h2
          show _ = _
          omega
        clear e1 e3 e5 e6 hd hv hj HTJ
        go_wp2_with fail
        go_roundg g'
        case measure => have := HG'.out; omega
        case rel => exact ⟨j + 1, s + 9, by have h1 := HJ.out; have h2 := HG'.out; omega, by simp, by go_num, HS2, FF⟩
      · have hn0 : v.n = 0 := by rw [hv]; rfl
        have ht3 : v.t = 3 := by rw [hv]; rfl
        obtain ⟨vt, vn, vs⟩ := v
        dsimp only at hn0 ht3 k0 k1 k2 FF HTJ h40
        subst hn0 ht3
        have HS2 : Hid (s + (2 + vs.length) = S + ((cs.take (j + 1)).flatMap layC).length) := by
          have h1 := HS.out
          have h2 := HTJ.out
          have h3 : ¬ ((3 : Int) = 2) := by decide
          simp only [if_neg h3] at h2
          show _ = _
          omega
        clear e1 e3 e5 e6 hd hv hj HTJ
        go_wp2_with fail
        go_roundg g'
        case measure => have := HG'.out; omega
        case rel => exact ⟨j + 1, s + (2 + vs.length), by have h1 := HJ.out; have h2 := HG'.out; omega, by simp, by go_num, HS2, FF⟩
    · have hj' : ¬ (j : Int) < (n : Int) := by omega
      have HSE : Hid (s = S + (cs.flatMap layC).length) := by
        have h1 := HS.out
        rw [List.take_of_length_le (by rw [HN.out]; omega)] at h1
        exact h1
      go_wp2_with fail
      refine HK.out _ _ ⟨by kernel_rfl, rfl, by kernel_rfl, ?_, by kernel_rfl, by kernel_rfl, by kernel_rfl, by kernel_rfl, by kernel_rfl⟩ HFR.out
      rw [← HSE.out]
      kernel_rfl
end
end Go.Proofs.Qxb6500574aGreatDoor
