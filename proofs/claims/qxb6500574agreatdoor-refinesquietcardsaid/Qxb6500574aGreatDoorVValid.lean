/-
  THE WALK of vm: valid.
-/
import Derived.Test.Qxb6500574aGreatDoorVCore
import Derived.Test.Qxb6500574aGreatDoorVMake
import Derived.Test.Qxb6500574aGreatDoorRegC
namespace Go.Proofs.Qxb6500574aGreatDoor
open Go Go.RowKit
set_option linter.unusedVariables false
set_option linter.unusedSimpArgs false

section
variable {w : World} {A : VL} {m : VMD} {f e : Nat}
set_option maxRecDepth 100000
set_option maxHeartbeats 600000
/-- for a value that is valid (the driver asks of no other) -/
theorem valid_any (h : VRep w A m f e) (v : Vl) (hv : validV m v = true) (hb : m.clos.length ≤ 1000 ∧ m.tabs.length ≤ 1000) :
    Calls Tryz.prog 141 #[.pointer (some ⟨A.b, 0, none⟩), v.val] w fun e' w' => e' = .returned (.bool true) ∧ Fr (fun _ => False) w w' := by
  have hw : wellV v = true := by
    unfold validV at hv
    cases hq : wellV v with
    | true => rfl
    | false => rw [hq] at hv; simp at hv
  have hW : ∀ W, Calls Tryz.prog 108 #[.agg #[.int .i64 v.t, .int .u64 v.n, sv v.s]] W fun e w' => e = .returned (.bool true) ∧ Fr (fun _ => False) W w' := fun W => by have := well_any (w := W) v; rw [hw] at this; exact this
  have c0 := h.cell0 0
  have c1 := h.cell0 1
  have c6 := h.cell0 6
  have c9 := h.cell0 9
  simp only [vmCells, List.getElem?_toArray, List.getElem?_cons_succ, List.getElem?_cons_zero, Sl.v] at c0 c1 c6 c9
  have hbl := h.bl
  have h5 := h.len5
  obtain ⟨kk, _, hT⟩ := h.tabs
  have hCt : ∀ W, Fr (fun _ => False) w W → Calls Tryz.prog 147 #[.pointer (some ⟨A.bt, 0, none⟩)] W fun e w' => e = .returned (.int .i64 m.tabs.length) ∧ w' = W := fun W hW => count_any (hT.st (Stp.fresh (fun _ => False) A.o hW) (fun _ _ x => x))
  have hC : ∀ W, Calls Tryz.prog 134 #[.pointer (some ⟨A.bn, 0, none⟩), .int .i64 2, .int .u64 v.n, .int .u64 v.n] W fun e w' => e = .returned (.bool (isNan v.n)) ∧ w' = W := fun W => cmp_any (w := W) (.pointer (some ⟨A.bn, 0, none⟩)) 2 v.n v.n
  have hv2 : v.t = 2 → (!isNan v.n || v.n == nanB) = true := fun e => by unfold validV at hv; simpa [hw, e] using hv
  have hv4 : v.t = 4 → v.n < m.tabs.length := fun e => by unfold validV at hv; simpa [hw, e] using hv
  have hv5 : v.t = 5 → v.n < m.clos.length := fun e => by unfold validV at hv; simpa [hw, e] using hv
  have hv7 : v.t = 7 → v.n < m.ths.length := fun e => by unfold validV at hv; simpa [hw, e] using hv
  obtain ⟨hb1, hb2⟩ := hb
  clear hT h hw hv
  obtain ⟨vt, vn, vs⟩ := v
  dsimp only at hW hC hv2 hv4 hv5 hv7
  obtain ⟨NC, HNC⟩ : ∃ N : Nat, Hid (m.clos.length = N) := ⟨_, rfl⟩
  obtain ⟨NT, HNT⟩ : ∃ N : Nat, Hid (m.tabs.length = N) := ⟨_, rfl⟩
  obtain ⟨NH, HNH⟩ : ∃ N : Nat, Hid (m.ths.length = N) := ⟨_, rfl⟩
  rw [HNC.out] at c6 hv5 hb1
  rw [HNT.out] at hCt hv4 hb2
  rw [HNH.out] at c9 hv7 h5
  have hNH : NH ≤ 5 := by omega
  have start : ∀ (P : Prop), P → P := fun _ h => h
  by_cases e2 : vt = 2
  · subst e2
    have hq := hv2 rfl
    clear hv2 hv4 hv5 hv7 hCt
    go_enter Tryz.func141, Tryz.ntmps141
    go_wp2_with fail
    refine (hW _).mono ?_
    rintro e w1 ⟨rfl, hw1⟩
    have f1 : Fr (fun _ => False) w w1 := ((Fr.refl _ _).alloc _).trans hw1 (fun _ _ x => x)
    have k1 : Has w1 w.heap.size #[.int .i64 2, .int .u64 vn, sv vs] 68 := (Has.new _ _ _).fr hw1 (fun x => x)
    obtain ⟨k10, k11, k12⟩ := Has.cells3 (v := ⟨2, vn, vs⟩) k1
    have z1 := k1.lt
    have d0 := f1.cell c0
    clear hw1
    go_wp2_with fail
    refine wp_region_tail 8 (by kernel_rfl) (by kernel_rfl) (fun _ _ _ _ _ h => h) ?_
    simp only [List.take_succ_cons, List.take_zero, List.drop_succ_cons, List.drop_zero]
    repeat go_big_quiet_step (fail)
    refine wpQuiet_nil ?_
    go_wp2_with fail
    refine (hC _).mono ?_
    rintro e w2 ⟨rfl, rfl⟩
    cases hn : isNan vn
    · go_wp2_with fail
      go_ret
      exact ⟨rfl, f1.drew⟩
    · rw [hn] at hq
      have hq2 : vn = nanB := by simpa using hq
      have hq3 : ((vn : Int) == 9221120237041090561) = true := by rw [hq2]; rfl
      go_wp2_with fail
      go_ret
      exact ⟨rfl, f1.drew⟩
  by_cases e4 : vt = 4
  · subst e4
    have hq := hv4 rfl
    clear hv2 hv4 hv5 hv7 hC
    go_enter Tryz.func141, Tryz.ntmps141
    go_wp2_with fail
    refine (hW _).mono ?_
    rintro e w1 ⟨rfl, hw1⟩
    have f1 : Fr (fun _ => False) w w1 := ((Fr.refl _ _).alloc _).trans hw1 (fun _ _ x => x)
    have k1 : Has w1 w.heap.size #[.int .i64 4, .int .u64 vn, sv vs] 68 := (Has.new _ _ _).fr hw1 (fun x => x)
    obtain ⟨k10, k11, k12⟩ := Has.cells3 (v := ⟨4, vn, vs⟩) k1
    have z1 := k1.lt
    have d1 := f1.cell c1
    have d6 := f1.cell c6
    have d9 := f1.cell c9
    have hbl1 : A.b < w1.heap.size := Nat.lt_of_lt_of_le hbl f1.size
    clear hw1
    go_wp2_with fail
    refine (hCt _ f1).mono ?_
    rintro e w2 ⟨rfl, rfl⟩
    have hq2 : (vn : Int) < (NT : Int) := by omega
    go_wp2_with fail
    go_ret
    exact ⟨by simp, f1⟩
  by_cases e5 : vt = 5
  · subst e5
    have hq := hv5 rfl
    have hq2 : (vn : Int) < (NC : Int) := by omega
    clear hv2 hv4 hv5 hv7 hC hCt
    go_enter Tryz.func141, Tryz.ntmps141
    go_wp2_with fail
    refine (hW _).mono ?_
    rintro e w1 ⟨rfl, hw1⟩
    have f1 : Fr (fun _ => False) w w1 := ((Fr.refl _ _).alloc _).trans hw1 (fun _ _ x => x)
    have k1 : Has w1 w.heap.size #[.int .i64 5, .int .u64 vn, sv vs] 68 := (Has.new _ _ _).fr hw1 (fun x => x)
    obtain ⟨k10, k11, k12⟩ := Has.cells3 (v := ⟨5, vn, vs⟩) k1
    have z1 := k1.lt
    have d1 := f1.cell c1
    have d6 := f1.cell c6
    have d9 := f1.cell c9
    have hbl1 : A.b < w1.heap.size := Nat.lt_of_lt_of_le hbl f1.size
    clear hw1
    go_wp2_with fail
    refine wp_region_quiet_lit (by kernel_rfl) (by kernel_rfl) ?_
    repeat go_big_quiet_step (fail)
    refine wpQuiet_nil ?_
    rintro w' ⟨nq, rfl⟩
    go_wp2_with fail
    go_ret
    exact ⟨rfl, f1.drewN nq⟩
  by_cases e7 : vt = 7
  · subst e7
    have hq := hv7 rfl
    have hq2 : (vn : Int) < (NH : Int) := by omega
    clear hv2 hv4 hv5 hv7 hC hCt
    go_enter Tryz.func141, Tryz.ntmps141
    go_wp2_with fail
    refine (hW _).mono ?_
    rintro e w1 ⟨rfl, hw1⟩
    have f1 : Fr (fun _ => False) w w1 := ((Fr.refl _ _).alloc _).trans hw1 (fun _ _ x => x)
    have k1 : Has w1 w.heap.size #[.int .i64 7, .int .u64 vn, sv vs] 68 := (Has.new _ _ _).fr hw1 (fun x => x)
    obtain ⟨k10, k11, k12⟩ := Has.cells3 (v := ⟨7, vn, vs⟩) k1
    have z1 := k1.lt
    have d1 := f1.cell c1
    have d6 := f1.cell c6
    have d9 := f1.cell c9
    have hbl1 : A.b < w1.heap.size := Nat.lt_of_lt_of_le hbl f1.size
    clear hw1
    go_wp2_with fail
    refine wp_region_quiet_lit (by kernel_rfl) (by kernel_rfl) ?_
    repeat go_big_quiet_step (fail)
    refine wpQuiet_nil ?_
    rintro w' ⟨nq, rfl⟩
    go_wp2_with fail
    go_ret
    exact ⟨rfl, f1.drewN nq⟩
  have b2 : (vt == 2) = false := by simpa using e2
  have b4 : (vt == 4) = false := by simpa using e4
  have b5 : (vt == 5) = false := by simpa using e5
  have b7 : (vt == 7) = false := by simpa using e7
  clear hv2 hv4 hv5 hv7 hC hCt e2 e4 e5 e7
  go_enter Tryz.func141, Tryz.ntmps141
  go_wp2_with fail
  refine (hW _).mono ?_
  rintro e w1 ⟨rfl, hw1⟩
  have f1 : Fr (fun _ => False) w w1 := ((Fr.refl _ _).alloc _).trans hw1 (fun _ _ x => x)
  have k1 : Has w1 w.heap.size #[.int .i64 vt, .int .u64 vn, sv vs] 68 := (Has.new _ _ _).fr hw1 (fun x => x)
  obtain ⟨k10, k11, k12⟩ := Has.cells3 (v := ⟨vt, vn, vs⟩) k1
  have z1 := k1.lt
  have d1 := f1.cell c1
  have d6 := f1.cell c6
  have d9 := f1.cell c9
  have hbl1 : A.b < w1.heap.size := Nat.lt_of_lt_of_le hbl f1.size
  clear hw1
  go_wp2_with fail
  go_ret
  exact ⟨rfl, f1⟩
end
end Go.Proofs.Qxb6500574aGreatDoor
