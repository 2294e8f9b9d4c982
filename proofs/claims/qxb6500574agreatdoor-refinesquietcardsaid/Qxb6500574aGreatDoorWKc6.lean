/-
  THE WALK of comp: CheckMid.
-/
import Derived.Test.Qxb6500574aGreatDoorWKc3
import Derived.Test.Qxb6500574aGreatDoorWKc4
import Derived.Test.Qxb6500574aGreatDoorWKc5
namespace Go.Proofs.Qxb6500574aGreatDoor
open Go Go.RowKit
set_option linter.unusedVariables false
set_option linter.unusedSimpArgs false
open Go.Lib
theorem pool_len : ∀ (l : List Vl) (k : Nat), (numsF k l).length + (strsF k l).length = l.length
  | [], k => rfl
  | v :: r, k => by
    have ih := pool_len r (k + 1)
    unfold numsF strsF
    by_cases h : v.t = 2
    · simp only [if_pos h, List.length_append, List.length_cons, List.length_nil]; omega
    · simp only [if_neg h, List.length_append, List.length_cons, List.length_nil]; omega
theorem len16N {w : World} {o : Nat → Nat} {lab b : Nat} {l : List (Nat × Nat)} (h : MapAt w o lab b (ent16 nk l)) (ty : TypeId) : (Builtin.len_ #[97] ty #[.map (some b)]).run Tryz.prog w = .ok (.int .i64 l.length) w := by
  obtain ⟨es, c, h1, h2, _⟩ := h.here
  have hl : es.size = l.length := by
    have := congrArg List.length h2
    simpa [ent16] using this
  unfold Builtin.len_
  simp [Sem.run_bind, run_underlying mapN16.m, MapKept.run_getObj_map h1, Result.andThen, hl, goInt]
theorem len16S {w : World} {o : Nat → Nat} {lab b : Nat} {l : List (Bs × Nat)} (h : MapAt w o lab b (ent16 sk l)) (ty : TypeId) : (Builtin.len_ #[98] ty #[.map (some b)]).run Tryz.prog w = .ok (.int .i64 l.length) w := by
  obtain ⟨es, c, h1, h2, _⟩ := h.here
  have hl : es.size = l.length := by
    have := congrArg List.length h2
    simpa [ent16] using this
  unfold Builtin.len_
  simp [Sem.run_bind, run_underlying mapS16.m, MapKept.run_getObj_map h1, Result.andThen, hl, goInt]
section
set_option maxRecDepth 100000
set_option maxHeartbeats 1000000
variable {w : World} {o : Nat → Nat} {C : CC} {N : List Nd} {c : CmD} {x : Nat}
theorem mid_any (R : CRep w o C N c) (hx : x < c.np) (M : MidOk c x) :
    Calls Tryz.prog 36 #[fptr C.gF x] w fun e w' => e = .returned (.bool true) ∧ Fr (fun _ => False) w w' := by
  obtain ⟨xs, L, F⟩ := R.fn hx
  obtain ⟨_, ⟨bn, hbn⟩, bs, hbs⟩ := F.ok
  have c2 := F.cell 2 (by omega)
  have c3 := F.cell 3 (by omega)
  have c4 := F.cell 4 (by omega)
  have c5 := F.cell 5 (by omega)
  have c6 := F.cell 6 (by omega)
  have c7 := F.cell 7 (by omega)
  have c8 := F.cell 8 (by omega)
  have c9 := F.cell 9 (by omega)
  have c10 := F.cell 10 (by omega)
  have fl := F.lt
  have hlp : (c.fn x).loops.length = 0 := by rw [M.lps]; rfl
  simp only [fnV, List.getElem?_cons_succ, List.getElem?_cons_zero, Sl.v, hbn, hbs, hlp] at c2 c3 c4 c5 c6 c7 c8 c9 c10
  have HMN : Hid (MapAt w o (labF x 3) bn (ent16 nk (numsF 0 (c.fn x).consts))) := F.one.nu bn hbn
  have HMS : Hid (MapAt w o (labF x 4) bs (ent16 sk (strsF 0 (c.fn x).consts))) := F.one.ss bs hbs
  have HR : Hid (CRep w o C N c) := R
  have HM : Hid (MidOk c x) := M
  have hpl := pool_len (c.fn x).consts 0
  obtain ⟨n1, HN1⟩ : ∃ v, Hid ((numsF 0 (c.fn x).consts).length = v) := ⟨_, rfl⟩
  obtain ⟨n2, HN2⟩ : ∃ v, Hid ((strsF 0 (c.fn x).consts).length = v) := ⟨_, rfl⟩
  obtain ⟨v2, HV2⟩ : ∃ v, Hid ((c.fn x).np = v) := ⟨_, rfl⟩
  obtain ⟨v3, HV3⟩ : ∃ v, Hid ((c.fn x).locals.length = v) := ⟨_, rfl⟩
  obtain ⟨v4, HV4⟩ : ∃ v, Hid ((c.fn x).nslots = v) := ⟨_, rfl⟩
  obtain ⟨v5, HV5⟩ : ∃ v, Hid ((c.fn x).ups.length = v) := ⟨_, rfl⟩
  obtain ⟨v6, HV6⟩ : ∃ v, Hid ((c.fn x).consts.length = v) := ⟨_, rfl⟩
  obtain ⟨v9, HV9⟩ : ∃ v, Hid ((c.fn x).code.length = v) := ⟨_, rfl⟩
  have g1 := M.np3
  have g2 := M.npl
  have g3 := M.ln
  have g4 := M.n12
  have g5 := M.up.le
  have g6 := M.kl
  have g7 := M.cl
  rw [HV2.out] at c2 g1 g2
  rw [HV3.out] at c3 g2 g3
  rw [HV4.out] at c4 g3 g4
  rw [HV5.out] at c5 g5
  rw [HV6.out] at c6 g6 hpl
  rw [HV9.out] at c9 g7
  rw [HN1.out, HN2.out] at hpl
  have k1 : decide ((3 : Int) < (v2 : Int)) = false := by rw [decide_eq_false_iff_not]; omega
  have k2 : decide (v3 < v2) = false := by rw [decide_eq_false_iff_not]; omega
  have k3 : decide (v4 < v3) = false := by rw [decide_eq_false_iff_not]; omega
  have k4 : decide ((12 : Int) < (v4 : Int)) = false := by rw [decide_eq_false_iff_not]; omega
  have k5 : ¬ (144 : Int) < (v5 : Int) := by omega
  have k6 : ¬ (301 : Int) < (v6 : Int) := by omega
  have k7 : ¬ (5104 : Int) < (v9 : Int) := by omega
  have hsum : ((n1 : Int) + n2 != (v6 : Int)) = false := by rw [bne_eq_false_iff_eq]; omega
  have LN1 : Hid (∀ W, Fr (fun _ => False) w W → ∀ ty, (Builtin.len_ #[97] ty #[.map (some bn)]).run Tryz.prog W = .ok (.int .i64 n1) W) := fun W hW ty => by
    rw [← HN1.out]; exact len16N (HMN.out.st (Stp.fresh (fun _ => False) o hW) (fun x => x)) ty
  have LN2 : Hid (∀ W, Fr (fun _ => False) w W → ∀ ty, (Builtin.len_ #[98] ty #[.map (some bs)]).run Tryz.prog W = .ok (.int .i64 n2) W) := fun W hW ty => by
    rw [← HN2.out]; exact len16S (HMS.out.st (Stp.fresh (fun _ => False) o hW) (fun x => x)) ty
  have HFN : Hid (FnAt w o C c x xs L) := F
  clear R F M hbn hbs hlp
  unfold fptr
  go_enter Tryz.func36, Tryz.ntmps36
  obtain ⟨Q, HQQ⟩ : ∃ Q, Hid (bodyPost Tryz.prog Tryz.f36 (fun e w' => e = .returned (.bool true) ∧ Fr (fun _ => False) w w') = Q) := ⟨_, rfl⟩
  rw [HQQ.out]
  have hQ : Hid (∀ c a t v w, Q (.panic c) (a.put (some t) v) w → Q (.panic c) a w) := by
    rw [← HQQ.out]
    intro c a t v w h
    exact h
  go_wp2_with fail
  refine wp_region_tail 35 (by kernel_rfl) (by kernel_rfl) (fun c a t v w h => hQ.out c a t v w h) ?_
  simp only [List.take_succ_cons, List.take_zero, List.drop_succ_cons, List.drop_zero]
  repeat go_big_quiet_step (fail)
  refine wpQuiet_nil ?_
  go_wp2_with fail
  refine ckU_w (HR.out.fresh ((Fr.refl _ _).drew)) (HFN.out.fresh ((Fr.refl _ _).drew)) hx HM.out.up ⟨by kernel_rfl, rfl, by kernel_rfl⟩ (by rw [HV5.out]; kernel_rfl) (by rw [HV5.out]; kernel_rfl) (by kernel_rfl) (fun c a t v w h => hQ.out c a t v w h) ?_
  intro a1 w1 ha1 F1
  have HF1 : Hid (Fr (fun _ => False) w w1) := ((Fr.refl _ _).drew).trans F1 (fun _ _ x => x)
  obtain ⟨u, ea, hv⟩ := form262 ha1.size ha1.df
  rw [hv 0 _ ha1.t0] at ea
  subst ea
  clear F1 ha1 hv
  have c2 := HF1.out.cell c2
  have c6 := HF1.out.cell c6
  have c7 := HF1.out.cell c7
  have c8 := HF1.out.cell c8
  have c9 := HF1.out.cell c9
  have c10 := HF1.out.cell c10
  have fl : C.gF < w1.heap.size := Nat.lt_of_lt_of_le fl HF1.out.size
  have l1 := LN1.out _ HF1.out.drew
  have l2 := LN2.out _ HF1.out.drew
  go_wp2_with fail
  refine wp_region_tail 16 (by kernel_rfl) (by kernel_rfl) (fun c a t v w h => hQ.out c a t v w h) ?_
  simp only [List.take_succ_cons, List.take_zero, List.drop_succ_cons, List.drop_zero]
  repeat go_big_quiet_step (fail)
  refine wpQuiet_nil ?_
  go_wp2_with fail
  refine ckK_w (HR.out.fresh HF1.out.drew) (HFN.out.fresh HF1.out.drew) hx HM.out.cn HM.out.kl ⟨by kernel_rfl, rfl, by kernel_rfl⟩ (by rw [HV6.out]; kernel_rfl) (by rw [HV6.out]; kernel_rfl) (by kernel_rfl) (fun c a t v w h => hQ.out c a t v w h) ?_
  intro a2 w2 ha2 F2
  have HF2 : Hid (Fr (fun _ => False) w w2) := HF1.out.drew.trans F2 (fun _ _ x => x)
  obtain ⟨u, ea, hv⟩ := form262 ha2.size ha2.df
  rw [hv 0 _ ha2.t0] at ea
  subst ea
  have c2 := F2.cell (((Fr.refl (fun _ => False) w1).drew).cell c2)
  have c9 := F2.cell (((Fr.refl (fun _ => False) w1).drew).cell c9)
  have c10 := F2.cell (((Fr.refl (fun _ => False) w1).drew).cell c10)
  have fl : C.gF < w2.heap.size := Nat.lt_of_lt_of_le fl F2.size
  clear F2 ha2 hv l1 l2 c6 c7 c8
  go_wp2_with fail
  go_loopg [227] 0 (fun g v227 w3 => v227 = .int .i64 0 ∧ Hid (w3 = w2))
  case atStart => exact ⟨rfl, rfl⟩
  case round =>
    obtain ⟨rfl, HW3⟩ := hrel
    rw [HW3.out]
    go_wp2_with fail
    refine ckD_w (HR.out.fresh HF2.out) (HFN.out.fresh HF2.out) hx HM.out.ft HM.out.cl ⟨by kernel_rfl, rfl, by kernel_rfl⟩ (by rw [HV9.out]; kernel_rfl) (by rw [HV9.out]; kernel_rfl) (by kernel_rfl) (fun c a t v w h => hQ.out c a t v w h) ?_
    intro a3 w3 ha3 F3
    have HF3 : Hid (Fr (fun _ => False) w w3) := HF2.out.trans F3 (fun _ _ x => x)
    obtain ⟨u, ea, hv⟩ := form262 ha3.size ha3.df
    rw [hv 0 _ ha3.t0] at ea
    subst ea
    clear F3 ha3 hv
    go_wp2_with fail
    rw [← HQQ.out]
    go_ret
    exact ⟨rfl, HF3.out⟩
end
end Go.Proofs.Qxb6500574aGreatDoor
