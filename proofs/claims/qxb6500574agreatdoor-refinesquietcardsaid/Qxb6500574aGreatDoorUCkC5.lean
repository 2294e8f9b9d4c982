/-
  THE WALK of vm: check: the cells.
-/
import Derived.Test.Qxb6500574aGreatDoorUCkC0
namespace Go.Proofs.Qxb6500574aGreatDoor
open Go Go.RowKit
set_option linter.unusedVariables false
set_option linter.unusedSimpArgs false
def opnN (l : List CeD) : Nat := l.countP (fun c => decide (0 ≤ c.th))
theorem opnN_drop {l : List CeD} {j : Nat} {c : CeD} (h : l[j]? = some c) : opnN (l.drop j) = opnN (l.drop (j + 1)) + (if 0 ≤ c.th then 1 else 0) := by
  obtain ⟨hl, e⟩ := List.getElem?_eq_some_iff.1 h
  unfold opnN
  rw [List.drop_eq_getElem_cons hl, List.countP_cons, e]
  simp
section
variable {w W : World} {A : VL} {m : VMD} {f e : Nat} {K : Cx}
set_option maxRecDepth 100000
set_option maxHeartbeats 1000000
theorem ck_cells (R : VRep w A m f e) (S : Slp K m) (hF : Fr (fun _ => False) w W) {a : Act} (ha : FrC A.b a) (hsl : a.tmps[377]? = some (.slice A.C.cells.a m.cells.length A.C.cells.c)) (hln : a.tmps[378]? = some (.int .i64 m.cells.length)) (hcn : a.tmps[379]? = some (.int .i64 0)) (hs18 : a.tmps[18]? = some (.int .i64 (opnN m.cells)))
    {Q : Exit → Act → World → Prop} (hE : ∀ a' W', FrC A.b a' → a'.tmps[18]? = some (.int .i64 0) → Fr (fun _ => False) w W' → Q (.exit 8) a' W') : (loopM Tryz.f89.body 16).wp Tryz.prog Q a W := by
  have HE : Hid (∀ a' W', FrC A.b a' → a'.tmps[18]? = some (.int .i64 0) → Fr (fun _ => False) w W' → Q (.exit 8) a' W') := hE
  have HR : Hid (VRep w A m f e) := R
  have HS : Hid (Slp K m) := S
  have hb : m.cells.length ≤ 6120 := by have := S.vi.kc; have := S.vi.cn; have := S.up.1; have := S.vi.cu; omega
  simp only [loopM, restM, codeL, codeR, codeIn, Tryz.f89, Option.getD_some]
  refine wp_loop_ghost_k (fun n a' W' => ∃ (j : Nat), n = m.cells.length - j ∧ j ≤ m.cells.length ∧ FrC A.b a' ∧ a'.tmps[377]? = some (.slice A.C.cells.a m.cells.length A.C.cells.c) ∧ a'.tmps[378]? = some (.int .i64 m.cells.length) ∧ a'.tmps[379]? = some (.int .i64 j) ∧ a'.tmps[18]? = some (.int .i64 (opnN (m.cells.drop j))) ∧ Fr (fun _ => False) w W') _ ⟨0, rfl, Nat.zero_le _, ha, hsl, hln, hcn, by rw [hs18, List.drop_zero], hF⟩ ?_
  clear hF ha hsl hln hcn hE R S hs18
  rintro n a W ⟨j, rfl, hj, ha, hsl, hln, hcn, hs18, hF⟩ J KK hJ hKK
  have HJ : Hid (∀ k a' w', _ → J k a' w') := hJ
  have HKK : Hid (∀ a' w', Handed J _ a' w' → KK a' w') := hKK
  clear hJ hKK
  have HF : Hid (Fr (fun _ => False) w W) := hF
  obtain ⟨u, e, hu⟩ := form401 ha.size ha.df
  have e0 := hu 0 _ ha.t0
  have e1 := hu 1 _ ha.t1
  have e2 := hu 2 _ ha.t2
  have eln := hu 378 _ hln
  have ecn := hu 379 _ hcn
  rcases Nat.eq_or_lt_of_le hj with heq | hlt
  · have esl := hu 377 _ hsl
    subst heq
    have h0 : (opnN (m.cells.drop m.cells.length) : Int) = 0 := by rw [List.drop_length]; rfl
    rw [h0] at hs18
    have es18 := hu 18 _ hs18
    rw [e0, e1, e2, esl, eln, ecn, es18] at e
    subst e
    clear hu e0 e1 e2 esl eln ecn es18 ha hsl hln hcn hs18 hF h0
    go_wp2_with fail
    exact HE.out _ _ ⟨by kernel_rfl, rfl, by kernel_rfl, by kernel_rfl, by kernel_rfl⟩ (by kernel_rfl) HF.out
  · obtain ⟨p, hp⟩ : ∃ p, m.cells[j]? = some p := ⟨_, List.getElem?_eq_getElem hlt⟩
    have es18 := hu 18 _ hs18
    obtain ⟨ge, x1, x2, x3, x4, x5, x6⟩ := HR.out.core.cells.at ceCells_len hp
    have k0 := hF.cell (x5 0 (by omega))
    have k1 := hF.cell (x5 1 (by omega))
    have k2 := hF.cell (x5 2 (by omega))
    have k3 := hF.cell (x5 3 (by omega))
    have k4 := hF.cell (x5 4 (by omega))
    simp only [ceCells, List.getElem?_cons_succ, List.getElem?_cons_zero, Nat.add_zero] at k0 k1 k2 k3 k4
    have gl := Nat.lt_of_lt_of_le x4 hF.size
    have hdr := opnN_drop hp
    have hle : opnN (m.cells.drop j) ≤ 6120 := by
      have : opnN (m.cells.drop j) ≤ (m.cells.drop j).length := List.countP_le_length
      rw [List.length_drop] at this
      omega
    have hcz := (HS.out.vi.cz p (List.mem_of_getElem? hp)).2
    have hth : p.th = -1 ∨ 0 ≤ p.th := by
      rcases HS.out.vi.ce j p hp with ⟨e, _⟩ | ⟨y, t, e, _⟩
      · exact .inl e
      · exact .inr (by omega)
    have HNX : Hid (∀ (a' : Act) (W' : World) (v : Int), v = (opnN (m.cells.drop (j + 1)) : Int) → FrC A.b a' → a'.tmps[377]? = some (.slice A.C.cells.a m.cells.length A.C.cells.c) → a'.tmps[378]? = some (.int .i64 m.cells.length) → a'.tmps[379]? = some (.int .i64 ((j : Int) + 1)) → a'.tmps[18]? = some (.int .i64 v) → Fr (fun _ => False) w W' → KK a' W') :=
      fun a' W' v hv h1 h2 h3 h4 h18 h5 => HKK.out _ _ (Handed.intro (m.cells.length - (j + 1)) (by omega) (HJ.out _ _ _ ⟨j + 1, rfl, hlt, h1, h2, h3, h4, by rw [h18, hv], h5⟩))
    obtain ⟨N18, HN18⟩ : ∃ x, Hid (opnN (m.cells.drop j) = x) := ⟨_, rfl⟩
    obtain ⟨N19, HN19⟩ : ∃ x, Hid (opnN (m.cells.drop (j + 1)) = x) := ⟨_, rfl⟩
    rw [HN18.out, HN19.out] at hdr
    rw [HN18.out] at es18 hle
    rw [HN19.out] at HNX
    rw [x1] at hsl HNX
    have esl := hu 377 _ hsl
    obtain ⟨th, ps, ⟨vt, vn, vs⟩⟩ := p
    dsimp only at *
    obtain ⟨NE, HNE⟩ : ∃ x, Hid (m.cells.length = x) := ⟨_, rfl⟩
    rw [HNE.out] at hlt hj hb esl eln HNX
    rw [e0, e1, e2, esl, eln, ecn, es18] at e
    subst e
    have HFA : Hid (Fr (fun _ => False) w (W.alloc (.cells #[.int .i64 th, .int .i64 ps, .int .i64 vt, .int .u64 vn, sv vs] 274))) := HF.out.alloc _
    clear hu e0 e1 e2 esl eln ecn es18 ha hsl hln hcn hs18 hF x1 x2 x3 x4 x5 x6 hp
    rcases hth with hth | hth
    · have hps := hcz hth
      subst hth
      subst hps
      have HD : Hid ((N18 : Int) = (N19 : Int)) := by rw [if_neg (by omega)] at hdr; show (N18 : Int) = (N19 : Int); omega
      clear hdr hcz
      go_wp2_with fail
      refine HNX.out _ _ _ HD.out ?_ ?_ ?_ ?_ ?_ ?_
      · exact ⟨by kernel_rfl, rfl, by kernel_rfl, by kernel_rfl, by kernel_rfl⟩
      · kernel_rfl
      · kernel_rfl
      · kernel_rfl
      · kernel_rfl
      · exact HFA.out
    · have hge : decide (0 ≤ th) = true := by rw [decide_eq_true_iff]; exact hth
      have HD : Hid ((N18 : Int) - 1 = (N19 : Int)) := by rw [if_pos hth] at hdr; show (N18 : Int) - 1 = (N19 : Int); omega
      have h1 : (1 : Int) ≤ (N18 : Int) := by rw [if_pos hth] at hdr; omega
      clear hdr hcz hth
      go_wp2_with fail
      refine HNX.out _ _ _ HD.out ?_ ?_ ?_ ?_ ?_ ?_
      · exact ⟨by kernel_rfl, rfl, by kernel_rfl, by kernel_rfl, by kernel_rfl⟩
      · kernel_rfl
      · kernel_rfl
      · kernel_rfl
      · kernel_rfl
      · exact HFA.out
end
end Go.Proofs.Qxb6500574aGreatDoor
