/-
  THE WALK of vm: sound: 28.
-/
import Derived.Test.Qxb6500574aGreatDoorVSo0
import Derived.Test.Qxb6500574aGreatDoorVPlAny
namespace Go.Proofs.Qxb6500574aGreatDoor
open Go Go.RowKit
set_option linter.unusedVariables false
set_option linter.unusedSimpArgs false
def ivN : Value → Nat
  | .int _ k => k.toNat
  | _ => 0
theorem any_no {ds : List (Nat × Nat)} {up nup : Nat} {pr : Nat × Nat → Bool} (h : ∀ j, j < nup → ∀ d, ds[up + j]? = some d → pr d = false) : ((ds.drop up).take nup).any pr = false := by
  rw [List.any_eq_false]
  intro d hd
  obtain ⟨j, hj⟩ := List.mem_iff_getElem?.1 hd
  rw [List.getElem?_take] at hj
  split at hj
  · rename_i hlt
    rw [List.getElem?_drop] at hj
    rw [h j hlt d hj]
    simp
  · cases hj
theorem any_yes {ds : List (Nat × Nat)} {up nup j : Nat} {pr : Nat × Nat → Bool} {d : Nat × Nat} (hj : j < nup) (hd : ds[up + j]? = some d) (hp : pr d = true) : ((ds.drop up).take nup).any pr = true := by
  rw [List.any_eq_true]
  refine ⟨d, List.mem_iff_getElem?.2 ⟨j, ?_⟩, hp⟩
  rw [List.getElem?_take, if_pos hj, List.getElem?_drop, hd]
theorem sl28 {a : Option Addr} {u v n c : Nat} (h : u + v ≤ n) (hc : n ≤ c) {W : World} : (Instr.sliceAt 84 (.slice a n c) (some (.int .i64 u)) (some (.int .i64 ((u : Int) + (v : Int)))) none).run Tryz.prog W = .ok (.slice (if c = u then a else a.map (·.add (u * 2))) v (c - u)) W := by
  have hu : Tryz.prog.underlying 84 = some (.slice (Tryz.prog.elem 84)) := by kernel_rfl
  have hz : ∀ W, (sizeOf (Tryz.prog.elem 84)).run Tryz.prog W = .ok 2 W := fun W => by kernel_rfl
  rw [run_sliceAt_slice _ _ _ _ _ _ hu]
  have := run_slice_lh (P := Tryz.prog) W 84 a n c hu .i64 .i64 (u : Int) ((u : Int) + (v : Int)) (by omega) (by omega) (by omega)
  rw [this, hz]
  have h3 : ((u : Int)).toNat = u := by omega
  have h4 : ((u : Int) + (v : Int)).toNat = u + v := by omega
  simp only [Result.andThen_ok, sliced, h3, h4, Nat.add_sub_cancel_left]
section
variable {w : World} {A : VL} {m : VMD} {f e i g j gp pi : Nat} {t : ThD} {K : Cx} {fm : FmD} {p : PrD}
set_option maxRecDepth 100000
set_option maxHeartbeats 600000
theorem sound_28 (h : PB w A m f e K i t fm g j gp pi p) {x : Nat} (hx16 : x < 65536)  : Calls Tryz.prog 263 #[.pointer (some ⟨A.b, 0, none⟩), .pointer (some ⟨A.bT, i * 5, none⟩), .pointer (some ⟨g, j * 5, none⟩), .pointer (some ⟨gp, pi * 8, none⟩), .int .u8 28, .int .i64 x] w (SoPost (soundP m i 28 x) w) := by
  obtain ⟨Q, HQ⟩ : ∃ Q : Ending → World → Prop, Hid (SoPost (soundP m i 28 x) w = Q) := ⟨_, rfl⟩
  rw [HQ.out]
  obtain ⟨gk, nup, NC, S⟩ := h.sc
  have HNU : Hid ((m.clos.getD fm.clo cl0).nup = nup) := S.nu
  have HS : Hid (soundP m i 28 x = (if x ≥ m.protos.length then false else !((m.descs.drop (m.protos.getD x pr0).up).take (m.protos.getD x pr0).nup).any (fun d => decide ((d.1 = 1 ∧ d.2 ≥ p.ns) ∨ (d.1 = 0 ∧ d.2 ≥ nup))))) := by
    have hpe := h.pe
    have htf := (plP_is h).1
    have hth := (plP_is h).2
    have hnu := S.nu
    show _ = _
    unfold soundP
    dsimp only
    rw [htf, hth, hpe, hnu]
    simp (config := { decide := true }) only [if_true, if_false]
  rw [HS.out] at HQ
  have HB : Hid (PB w A m f e K i t fm g j gp pi p) := h
  obtain ⟨c1, c2, c3, c4, c5, c6, c7, c8, c9, c10, c11, c12, c13, c14⟩ := S
  clear c14 h
  go_enter Tryz.func263, Tryz.ntmps263
  go_wp2_with fail
  refine wp_region_tail 11 (by kernel_rfl) (by kernel_rfl) (fun _ _ _ _ _ h => h) ?_
  simp only [List.take_succ_cons, List.take_zero, List.drop_succ_cons, List.drop_zero]
  repeat go_big_quiet_step (fail)
  refine wpQuiet_nil ?_
  have v2 := HB.out.rep.cell0 2
  simp only [vmCells, List.getElem?_toArray, List.getElem?_cons_succ, List.getElem?_cons_zero, Sl.v, HB.out.pa] at v2
  have v3 := HB.out.rep.cell0 3
  simp only [vmCells, List.getElem?_toArray, List.getElem?_cons_succ, List.getElem?_cons_zero, Sl.v] at v3
  have hpl := HB.out.at'.vi.txt.pl
  obtain ⟨NP, HNP⟩ : ∃ N, Hid (m.protos.length = N) := ⟨_, rfl⟩
  rw [HNP.out] at v2 hpl HQ
  by_cases h2 : x < NP
  · have b2 : decide ((x : Int) ≥ (NP : Int)) = false := by rw [decide_eq_false_iff_not]; omega
    have b3 : decide (NP ≤ x) = false := by rw [decide_eq_false_iff_not]; omega
    rw [if_neg (by omega)] at HQ
    obtain ⟨q, hq⟩ : ∃ q, m.protos[x]? = some q := ⟨_, List.getElem?_eq_getElem (by rw [HNP.out]; exact h2)⟩
    have hqe : m.protos.getD x pr0 = q := by simp [hq]
    rw [hqe] at HQ
    clear hqe
    obtain ⟨gq, e1, e2, e3, e4, e5, e6⟩ := HB.out.rep.core.protos.at pCells_len hq
    rw [HB.out.pa] at e1
    cases e1
    have q2 := e5 2 (by omega)
    have q3 := e5 3 (by omega)
    simp only [pCells, List.getElem?_cons_succ, List.getElem?_cons_zero] at q2 q3
    have hpk := HB.out.at'.vi.txt.pr q (List.mem_of_getElem? hq)
    have hup := hpk.up
    have hnu := hpk.nu
    have hdl := HB.out.at'.vi.txt.dl
    have hdc : m.descs.length ≤ A.C.descs.c := by
      rcases HB.out.rep.core.descs.form with ⟨h, h', h''⟩ | ⟨_, _, h⟩
      · omega
      · exact h
    have HDS : Hid (∀ j d, m.descs[q.up + j]? = some d → ∃ gd, A.C.descs.a = some ⟨gd, 0, none⟩ ∧ w.cell? ⟨gd, (q.up + j) * 2, none⟩ = some (.int .u8 d.1) ∧ w.cell? ⟨gd, (q.up + j) * 2 + 1, none⟩ = some (.int .u8 d.2) ∧ d.1 ≤ 1 ∧ d.2 < 256 ∧ gd < w.heap.size) := fun j d hd => by
      obtain ⟨gd, r1, r2, r3, r4, r5, r6⟩ := HB.out.rep.core.descs.at dCells_len hd
      have r50 := r5 0 (by omega)
      have r51 := r5 1 (by omega)
      simp only [dCells, List.getElem?_cons_succ, List.getElem?_cons_zero, Nat.add_zero] at r50 r51
      have hh := HB.out.at'.vi.txt.ds d (List.mem_of_getElem? hd)
      exact ⟨gd, r1, r50, r51, hh.1, hh.2, r4⟩
    clear e2 e3 e5 e6 hq hpk
    obtain ⟨ND, HND⟩ : ∃ N, Hid (m.descs.length = N) := ⟨_, rfl⟩
    rw [HND.out] at v3 hup hdl hdc
    obtain ⟨qu, HQU⟩ : ∃ N, Hid (q.up = N) := ⟨_, rfl⟩
    obtain ⟨qn, HQN⟩ : ∃ N, Hid (q.nup = N) := ⟨_, rfl⟩
    rw [HQU.out, HQN.out] at HQ hup
    rw [HQU.out] at q2 HDS
    rw [HQN.out] at q3 hnu
    have hsl : ∀ W, (Instr.sliceAt 84 (.slice A.C.descs.a ND A.C.descs.c) (some (.int .i64 qu)) (some (.int .i64 ((qu : Int) + (qn : Int)))) none).run Tryz.prog W = _ := fun W => sl28 hup hdc
    obtain ⟨SL, HSL⟩ : ∃ SL, Hid ((if A.C.descs.c = qu then A.C.descs.a else A.C.descs.a.map (·.add (qu * 2))) = SL) := ⟨_, rfl⟩
    rw [HSL.out] at hsl
    obtain ⟨CD, HCD⟩ : ∃ CD, Hid (A.C.descs.c - qu = CD) := ⟨_, rfl⟩
    rw [HCD.out] at hsl
    have hcd : qn ≤ CD := by rw [← HCD.out]; omega
    go_wp2_with fail
    refine wp_region_quiet_lit (by kernel_rfl) (by kernel_rfl) ?_
    repeat go_big_quiet_step (fail)
    refine wpQuiet_nil ?_
    rintro w' ⟨nq, rfl⟩
    have HF1 : Hid (Fr (fun _ => False) w (w.drew.drewN nq)) := ((Fr.refl _ _).drew).drewN nq
    obtain ⟨W1, HW1⟩ : ∃ W1, Hid (w.drew.drewN nq = W1) := ⟨_, rfl⟩
    rw [HW1.out] at HF1 ⊢
    clear HW1
    clear c1 c2 c3 c4 c5 c6 c7 c8 c10 c11 c12 v2 v3 q2 q3 b2 hsl
    have HC9 : Hid (w.cell? ⟨gp, pi * 8 + 1, none⟩ = some (.int .i64 p.ns) ∧ gp < w.heap.size) := ⟨c9, c13⟩
    clear c9 c13 e4
    go_wp2_with fail
    go_loopw [207] (fun u wr => ∃ k : Nat, k ≤ qn ∧ u = .int .i64 k ∧ Hid (Fr (fun _ => False) w wr) ∧ Hid (∀ j, j < k → ∀ d, m.descs[qu + j]? = some d → (fun d => decide ((d.1 = 1 ∧ d.2 ≥ p.ns) ∨ (d.1 = 0 ∧ d.2 ≥ nup))) d = false)) (fun u _ => qn + 1 - ivN u)
    case atStart => exact ⟨0, Nat.zero_le _, rfl, HF1, fun j hj => absurd hj (Nat.not_lt_zero _)⟩
    case round =>
      obtain ⟨k, hk, rfl, F1, G1⟩ := hrel
      by_cases hlt : k < qn
      · have hlt2 : decide ((k : Int) < (qn : Int)) = true := by rw [decide_eq_true_iff]; omega
        have hdl2 : qu + k < m.descs.length := by rw [HND.out]; omega
        obtain ⟨⟨d1, d2⟩, hd⟩ : ∃ d, m.descs[qu + k]? = some d := ⟨_, List.getElem?_eq_getElem hdl2⟩
        have HDD : Hid (m.descs[qu + k]? = some (d1, d2)) := hd
        obtain ⟨gd, r1, r2, r3, r4, r5, r6⟩ := HDS.out k (d1, d2) hd
        dsimp only at r2 r3 r4 r5
        have r2w := F1.out.cell r2
        have r3w := F1.out.cell r3
        rw [show (qu + k) * 2 = qu * 2 + k * 2 by omega] at r2w r3w
        have rl := Nat.lt_of_lt_of_le r6 F1.out.size
        have hSL : SL = some ⟨gd, qu * 2, none⟩ := by
          rw [← HSL.out, r1, if_neg (by omega), Option.map_some, addr_lit, Nat.zero_add]
        subst hSL
        have pw := F1.out.cell HC9.out.1
        have plw := Nat.lt_of_lt_of_le HC9.out.2 F1.out.size
        clear r2 r3 r6 hd hdl2 r1
        by_cases h1 : d1 = 1
        · subst h1
          by_cases hge : p.ns ≤ d2
          · have hgd : decide ((d2 : Int) ≥ (p.ns : Int)) = true := by rw [decide_eq_true_iff]; omega
            have hpr : (decide (((1 : Nat) = 1 ∧ d2 ≥ p.ns) ∨ ((1 : Nat) = 0 ∧ d2 ≥ nup))) = true := by rw [decide_eq_true_iff]; exact .inl ⟨rfl, hge⟩
            have FIN : Hid (∀ W, Fr (fun _ => False) w W → Q (.returned (.bool false)) W) := fun W hW => by
              rw [← HQ.out, any_yes hlt HDD.out (show (decide (((1 : Nat) = 1 ∧ d2 ≥ p.ns) ∨ ((1 : Nat) = 0 ∧ d2 ≥ nup))) = true from hpr)]
              exact ⟨rfl, hW⟩
            clear HQ
            go_wp2_with fail
            refine wp_region_quiet_lit (by kernel_rfl) (by kernel_rfl) ?_
            repeat go_big_quiet_step (fail)
            refine wpQuiet_nil ?_
            rintro w' ⟨nq, rfl⟩
            go_wp2_with fail
            exact FIN.out _ (((F1.out.alloc _)).drewN nq)
          · have hgd : decide ((d2 : Int) ≥ (p.ns : Int)) = false := by rw [decide_eq_false_iff_not]; omega
            have hpr : (decide (((1 : Nat) = 1 ∧ d2 ≥ p.ns) ∨ ((1 : Nat) = 0 ∧ d2 ≥ nup))) = false := by rw [decide_eq_false_iff_not]; omega
            clear hpr
            go_wp2_with fail
            refine wp_region_quiet_lit (by kernel_rfl) (by kernel_rfl) ?_
            repeat go_big_quiet_step (fail)
            refine wpQuiet_nil ?_
            rintro w' ⟨nq, rfl⟩
            go_wp2_with fail
            go_roundw
            case rel =>
              refine ⟨k + 1, by omega, by simp, (F1.out.alloc _).drewN nq, fun j hj d hd => ?_⟩
              rcases Nat.lt_or_ge j k with h | h
              · exact G1.out j h d hd
              · obtain rfl : j = k := by omega
                rw [HDD.out] at hd
                cases hd
                rw [decide_eq_false_iff_not]
                dsimp only
                omega
            case measure =>
              simp only [ivN]
              omega
        obtain rfl : d1 = 0 := by omega
        by_cases hge : nup ≤ d2
        · have hgd : decide ((d2 : Int) ≥ (nup : Int)) = true := by rw [decide_eq_true_iff]; omega
          have hpr : (decide (((0 : Nat) = 1 ∧ d2 ≥ p.ns) ∨ ((0 : Nat) = 0 ∧ d2 ≥ nup))) = true := by rw [decide_eq_true_iff]; exact .inr ⟨rfl, hge⟩
          have FIN : Hid (∀ W, Fr (fun _ => False) w W → Q (.returned (.bool false)) W) := fun W hW => by
            rw [← HQ.out, any_yes hlt HDD.out (show (decide (((0 : Nat) = 1 ∧ d2 ≥ p.ns) ∨ ((0 : Nat) = 0 ∧ d2 ≥ nup))) = true from hpr)]
            exact ⟨rfl, hW⟩
          clear HQ
          go_wp2_with fail
          refine wp_region_quiet_lit (by kernel_rfl) (by kernel_rfl) ?_
          repeat go_big_quiet_step (fail)
          refine wpQuiet_nil ?_
          rintro w' ⟨nq, rfl⟩
          go_wp2_with fail
          exact FIN.out _ (((F1.out.alloc _)).drewN nq)
        · have hgd : decide ((d2 : Int) ≥ (nup : Int)) = false := by rw [decide_eq_false_iff_not]; omega
          have hpr : (decide (((0 : Nat) = 1 ∧ d2 ≥ p.ns) ∨ ((0 : Nat) = 0 ∧ d2 ≥ nup))) = false := by rw [decide_eq_false_iff_not]; omega
          clear hpr
          go_wp2_with fail
          refine wp_region_quiet_lit (by kernel_rfl) (by kernel_rfl) ?_
          repeat go_big_quiet_step (fail)
          refine wpQuiet_nil ?_
          rintro w' ⟨nq, rfl⟩
          go_wp2_with fail
          go_roundw
          case rel =>
            refine ⟨k + 1, by omega, by simp, (F1.out.alloc _).drewN nq, fun j hj d hd => ?_⟩
            rcases Nat.lt_or_ge j k with h | h
            · exact G1.out j h d hd
            · obtain rfl : j = k := by omega
              rw [HDD.out] at hd
              cases hd
              rw [decide_eq_false_iff_not]
              dsimp only
              omega
          case measure =>
            simp only [ivN]
            omega
      · obtain rfl : k = qn := by omega
        have FIN : Hid (∀ W, Fr (fun _ => False) w W → Q (.returned (.bool true)) W) := fun W hW => by
          rw [← HQ.out, any_no G1.out]
          exact ⟨rfl, hW⟩
        clear HQ hlt
        go_wp2_with fail
        exact FIN.out _ F1.out
  · have b2 : decide ((x : Int) ≥ (NP : Int)) = true := by rw [decide_eq_true_iff]; omega
    rw [if_pos (by omega)] at HQ
    go_wp2_with fail
    rw [← HQ.out]
    exact ⟨by simp, ((Fr.refl _ _).drew)⟩
end
end Go.Proofs.Qxb6500574aGreatDoor
