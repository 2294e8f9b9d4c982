/-
  THE WALK of comp: CheckMid: the code.
-/
import Derived.Test.Qxb6500574aGreatDoorWKc2
import Derived.Test.Qxb6500574aGreatDoorWKc0
namespace Go.Proofs.Qxb6500574aGreatDoor
open Go Go.RowKit
set_option linter.unusedVariables false
set_option linter.unusedSimpArgs false
open Go.Lib
section
set_option maxRecDepth 100000
set_option maxHeartbeats 1000000
variable {w : World} {o : Nat → Nat} {C : CC} {N : List Nd} {c : CmD} {x : Nat} {xs : List (FnD × FnL)} {L : FnL}
theorem ckD_w (R : CRep w o C N c) (F : FnAt w o C c x xs L) (hx : x < c.np) (hu : ∀ i ∈ (c.fn x).code, FtD c x i ∧ i.1 < 256 ∧ i.2 < 65536) (hl : (c.fn x).code.length ≤ 5104) {a : Act} (ha : Fr36 C.gF x a) (h1 : a.tmps[251]? = some (.slice L.cd.a (c.fn x).code.length L.cd.c)) (h2 : a.tmps[252]? = some (.int .i64 (c.fn x).code.length)) (h3 : a.tmps[253]? = some (.int .i64 0)) {Q : Exit → Act → World → Prop} (hQ : ∀ c a t v w, Q (.panic c) (a.put (some t) v) w → Q (.panic c) a w) (hK : ∀ a' w', Fr36 C.gF x a' → Fr (fun _ => False) w w' → Q (.exit 8) a' w') :
    (mdD Tryz.f36.body).wp Tryz.prog Q a w := by
  have c9 := F.cell 9 (by omega)
  have fl := F.lt
  simp only [fnV, List.getElem?_cons_succ, List.getElem?_cons_zero, Sl.v] at c9
  have HR : Hid (CRep w o C N c) := R
  have HU : Hid (∀ i ∈ (c.fn x).code, FtD c x i ∧ i.1 < 256 ∧ i.2 < 65536) := hu
  have HK : Hid (∀ a' w', Fr36 C.gF x a' → Fr (fun _ => False) w w' → Q (.exit 8) a' w') := hK
  have HQQ : Hid (∀ c a t v w, Q (.panic c) (a.put (some t) v) w → Q (.panic c) a w) := hQ
  obtain ⟨cs, HUPS⟩ : ∃ cs, Hid ((c.fn x).code = cs) := ⟨_, rfl⟩
  have HRU : Hid (Row w o (labF x 5) 105 2 L.cd cs.length (cs.flatMap iCells)) := by rw [← HUPS.out]; exact F.one.cd
  rw [HUPS.out] at c9 HU hl h1 h2
  obtain ⟨n, HN⟩ : ∃ n : Nat, Hid (cs.length = n) := ⟨_, rfl⟩
  obtain ⟨ua, HUA⟩ : ∃ ua, Hid (L.cd.a = ua) := ⟨_, rfl⟩
  rw [HN.out, HUA.out] at c9 h1
  rw [HN.out] at h2
  obtain ⟨u, ea, hv⟩ := form262 ha.size ha.df
  rw [hv 0 _ ha.t0, hv 251 _ h1, hv 252 _ h2, hv 253 _ h3] at ea
  subst ea
  rw [HN.out] at hl
  clear R F hu hK ha hv h1 h2 h3 hQ
  simp only [mdD, codeL, codeR, codeIn, Tryz.f36, Option.getD_some]
  go_loopg [253] n (fun g v253 w1 => ∃ j : Nat, j + g = n ∧ v253 = .int .i64 j ∧ Hid (Fr (fun _ => False) w w1))
  case atStart => exact ⟨0, by omega, rfl, Fr.refl _ _⟩
  case round =>
    obtain ⟨j, hj, rfl, HFR⟩ := hrel
    by_cases hjn : j < n
    · have hj' : (j : Int) < (n : Int) := by omega
      obtain ⟨v, hd⟩ : ∃ d, cs[j]? = some d := ⟨_, List.getElem?_eq_getElem (by rw [HN.out]; exact hjn)⟩
      obtain ⟨gU, e1, e2, e3, e4, e5, e6⟩ := HRU.out.at iCells_len hd
      have k0 := HFR.out.cell (e5 0 (by omega))
      have k1 := HFR.out.cell (e5 1 (by omega))
      simp only [iCells, List.getElem?_cons_succ, List.getElem?_cons_zero, Nat.add_zero] at k0 k1
      have e4 : gU < wr.heap.size := Nat.lt_of_lt_of_le e4 HFR.out.size
      rw [HN.out] at e2
      have hua : ua = some ⟨gU, 0, none⟩ := HUA.out.symm.trans e1
      subst hua
      obtain ⟨h1, h2, h3⟩ := HU.out v (List.mem_of_getElem? hd)
      obtain ⟨g', HG'⟩ : ∃ g', Hid (gk = g' + 1) := ⟨gk - 1, by show _ = _; omega⟩
      have HJ : Hid (j + gk = n) := hj
      obtain ⟨op, ix⟩ := v
      dsimp only at h2 h3 k0 k1
      have FF : Hid (Fr (fun _ => False) w (wr.alloc (.cells #[.int .u8 op, .int .u16 ix] 105))) := HFR.out.alloc _
      have CALL := fits_any (HR.out.fresh FF.out) hx h1 h3
      unfold fptr at CALL
      clear e1 e3 e5 e6 hd hj h1
      go_wp2_with fail
      refine CALL.mono ?_
      rintro e1 w2 ⟨rfl, F2⟩
      have HF2 : Hid (Fr (fun _ => False) w w2) := FF.out.trans F2 (fun _ _ x => x)
      clear F2 CALL
      go_wp2_with fail
      go_roundg g'
      case measure => have := HG'.out; omega
      case rel => exact ⟨j + 1, by have h1 := HJ.out; have h2 := HG'.out; omega, by simp, HF2.out⟩
    · have hj' : ¬ (j : Int) < (n : Int) := by omega
      go_wp2_with fail
      exact HK.out _ _ ⟨by kernel_rfl, rfl, by kernel_rfl⟩ HFR.out
end
end Go.Proofs.Qxb6500574aGreatDoor
