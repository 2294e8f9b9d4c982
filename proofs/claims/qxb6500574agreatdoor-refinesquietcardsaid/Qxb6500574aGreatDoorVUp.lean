/-
  THE WALKS of vm: getUp, setUp.
-/
import Derived.Test.Qxb6500574aGreatDoorVCore
import Derived.Test.Qxb6500574aGreatDoorReg
namespace Go.Proofs.Qxb6500574aGreatDoor
open Go Go.RowKit
set_option linter.unusedVariables false
set_option linter.unusedSimpArgs false

/-- an element of a row: its block, its cells -/
theorem Row.at {w : World} {o : Nat → Nat} {lab : Nat} {T : TypeId} {k : Nat} {s : Sl} {α : Type} {xs : List α} {fc : α → List Value} (h : Row w o lab T k s xs.length (xs.flatMap fc)) (hf : ∀ a, (fc a).length = k) {j : Nat} {a : α} (hj : xs[j]? = some a) :
    ∃ g, s.a = some ⟨g, 0, none⟩ ∧ xs.length ≤ s.c ∧ o g = lab ∧ g < w.heap.size ∧ (∀ d, d < k → w.cell? ⟨g, j * k + d, none⟩ = (fc a)[d]?) ∧ ∀ d, w.frozen? ⟨g, d, none⟩ = false := by
  have hlt := (List.getElem?_eq_some_iff.1 hj).1
  obtain ⟨g, h1, h2, h3, h4, h5, h6⟩ := h.cells (by omega)
  refine ⟨g, h1, h2, h3, h4, fun d hd => ?_, h6⟩
  have hb : (j + 1) * k ≤ xs.length * k := Nat.mul_le_mul_right _ (by omega)
  rw [Nat.add_mul] at hb
  rw [h5 _ (by omega)]
  exact flatMap_at _ k hf xs j d a hj hd
/-- upvalue x of closure clo: its cell -/
structure UpAt (m : VMD) (clo x c : Nat) (q : ClD) (ce : CeD) : Prop where
  hq : m.clos[clo]? = some q
  hx : m.upix[q.up + x]? = some c
  he : m.cells[c]? = some ce
  hc : m.clos.length ≤ 1000
  hu : m.upix.length ≤ 100000
  hs : m.cells.length ≤ 100000
section
variable {w : World} {A : VL} {m : VMD} {f e i : Nat} {t : ThD} {l : ThL}
set_option maxRecDepth 100000
set_option maxHeartbeats 600000
theorem getUp_closed (h : VRep w A m f e) {clo x c : Nat} {q : ClD} {ce : CeD} (U : UpAt m clo x c q ce) (hx3 : x < 65536) {fa : Addr} (hfa : w.cell? fa = some (.int .i64 clo)) (hfb : fa.spot = none) (hfl : fa.block < w.heap.size) (ht : ce.th < 0) :
    Calls Tryz.prog 294 #[.pointer (some ⟨A.b, 0, none⟩), .pointer (some fa), .int .i64 x] w fun e' w' => e' = .returned ce.v.val ∧ Fr (fun _ => False) w w' := by
  obtain ⟨gk, k1, k2, k3, k4, k5, k6⟩ := h.core.clos.at clCells_len U.hq
  obtain ⟨gu, u1, u2, u3, u4, u5, u6⟩ := h.core.upix.at nCells_len U.hx
  obtain ⟨gc, c1, c2, c3, c4, c5, c6⟩ := h.core.cells.at ceCells_len U.he
  have k51 := k5 1 (by omega)
  have u50 := u5 0 (by omega)
  have c50 := c5 0 (by omega)
  have c52 := c5 2 (by omega)
  have c53 := c5 3 (by omega)
  have c54 := c5 4 (by omega)
  simp only [clCells, nCells, ceCells, List.getElem?_cons_succ, List.getElem?_cons_zero, Nat.add_zero, Nat.mul_one] at k51 u50 c50 c52 c53 c54
  have d6 := h.cell0 6
  have d7 := h.cell0 7
  have d8 := h.cell0 8
  simp only [vmCells, List.getElem?_toArray, List.getElem?_cons_succ, List.getElem?_cons_zero, Sl.v, k1, u1, c1] at d6 d7 d8
  have hb := h.bl
  have n1 := (List.getElem?_eq_some_iff.1 U.hq).1
  have n2 := (List.getElem?_eq_some_iff.1 U.hx).1
  have n3 := (List.getElem?_eq_some_iff.1 U.he).1
  have m1 := U.hc
  have m2 := U.hu
  have m3 := U.hs
  obtain ⟨fb, fo, fs⟩ := fa
  dsimp only at hfb hfl
  subst hfb
  obtain ⟨N1, H1⟩ : ∃ N : Nat, Hid (m.clos.length = N) := ⟨_, rfl⟩
  obtain ⟨N2, H2⟩ : ∃ N : Nat, Hid (m.upix.length = N) := ⟨_, rfl⟩
  obtain ⟨N3, H3⟩ : ∃ N : Nat, Hid (m.cells.length = N) := ⟨_, rfl⟩
  rw [H1.out] at d6 n1 m1 k2
  rw [H2.out] at d7 n2 m2 u2
  rw [H3.out] at d8 n3 m3 c2
  obtain ⟨qu, HQ⟩ : ∃ N : Nat, Hid (q.up = N) := ⟨_, rfl⟩
  rw [HQ.out] at k51 u50 n2
  obtain ⟨⟨vt, vn, vs⟩, HV⟩ : ∃ v : Vl, Hid (ce.v = v) := ⟨_, rfl⟩
  rw [HV.out] at c52 c53 c54 ⊢
  dsimp only at c52 c53 c54
  obtain ⟨th, HT⟩ : ∃ v : Int, Hid (ce.th = v) := ⟨_, rfl⟩
  rw [HT.out] at c50 ht
  have ht2 : ¬ (0 : Int) ≤ th := by omega
  clear h U k5 k6 u5 u6 c5 c6 k1 u1 c1
  go_enter Tryz.func294, Tryz.ntmps294
  go_wp2_with fail
  refine wp_region_quiet_lit (by kernel_rfl) (by kernel_rfl) ?_
  repeat go_big_quiet_step (fail)
  refine wpQuiet_nil ?_
  rintro w' ⟨nq, rfl⟩
  go_wp2_with fail
  refine bodyPost_ret (res_cell isVal rfl rfl (((Has.new _ _ _).drewN _).put3 _ _ _) rfl) rfl ?_
  exact ⟨rfl, (((((Fr.refl _ _).alloc _).drewN _).setCell (p := ⟨w.heap.size, 0, none⟩) (.inr (Nat.le_refl _)) _).setCell (p := ⟨w.heap.size, 1, none⟩) (.inr (Nat.le_refl _)) _).setCell (p := ⟨w.heap.size, 2, none⟩) (.inr (Nat.le_refl _)) _⟩
theorem getUp_open (h : VRep w A m f e) {clo x c : Nat} {q : ClD} {ce : CeD} (U : UpAt m clo x c q ce) (hx3 : x < 65536) {fa : Addr} (hfa : w.cell? fa = some (.int .i64 clo)) (hfb : fa.spot = none) (hfl : fa.block < w.heap.size) {y : Nat} (ht : ce.th = (y : Int)) (hi : m.ths[y]? = some t) {v : Vl} (hv : t.stack[ce.pos]? = some v) (hsl : t.stack.length ≤ 100000) :
    Calls Tryz.prog 294 #[.pointer (some ⟨A.b, 0, none⟩), .pointer (some fa), .int .i64 x] w fun e' w' => e' = .returned v.val ∧ Fr (fun _ => False) w w' := by
  obtain ⟨gk, k1, k2, k3, k4, k5, k6⟩ := h.core.clos.at clCells_len U.hq
  obtain ⟨gu, u1, u2, u3, u4, u5, u6⟩ := h.core.upix.at nCells_len U.hx
  obtain ⟨gc, c1, c2, c3, c4, c5, c6⟩ := h.core.cells.at ceCells_len U.he
  have k51 := k5 1 (by omega)
  have u50 := u5 0 (by omega)
  have c50 := c5 0 (by omega)
  have c52 := c5 2 (by omega)
  have c53 := c5 3 (by omega)
  have c54 := c5 4 (by omega)
  simp only [clCells, nCells, ceCells, List.getElem?_cons_succ, List.getElem?_cons_zero, Nat.add_zero, Nat.mul_one] at k51 u50 c50 c52 c53 c54
  have d6 := h.cell0 6
  have d7 := h.cell0 7
  have d8 := h.cell0 8
  simp only [vmCells, List.getElem?_toArray, List.getElem?_cons_succ, List.getElem?_cons_zero, Sl.v, k1, u1, c1] at d6 d7 d8
  have hb := h.bl
  have n1 := (List.getElem?_eq_some_iff.1 U.hq).1
  have n2 := (List.getElem?_eq_some_iff.1 U.hx).1
  have n3 := (List.getElem?_eq_some_iff.1 U.he).1
  have m1 := U.hc
  have m2 := U.hu
  have m3 := U.hs
  obtain ⟨l, hl⟩ := h.lays hi
  obtain ⟨gs, s1, s2, s3, s4, s50, s51, s52, s6⟩ := h.val hi hl hv
  have t2 := h.thCell hi hl (j := 2) (by omega)
  simp only [thCells, List.getElem?_cons_succ, List.getElem?_cons_zero, Sl.v, s1] at t2
  have d9 := h.cell0 9
  simp only [vmCells, List.getElem?_toArray, List.getElem?_cons_succ, List.getElem?_cons_zero] at d9
  have hTl := h.ths.here.has.lt
  have y5 := h.i5 hi
  have yl := (List.getElem?_eq_some_iff.1 hi).1
  have vl := (List.getElem?_eq_some_iff.1 hv).1
  have n5 := h.len5
  have c51 := c5 1 (by omega)
  simp only [ceCells, List.getElem?_cons_succ, List.getElem?_cons_zero] at c51
  obtain ⟨fb, fo, fs⟩ := fa
  dsimp only at hfb hfl
  subst hfb
  obtain ⟨N1, H1⟩ : ∃ N : Nat, Hid (m.clos.length = N) := ⟨_, rfl⟩
  obtain ⟨N2, H2⟩ : ∃ N : Nat, Hid (m.upix.length = N) := ⟨_, rfl⟩
  obtain ⟨N3, H3⟩ : ∃ N : Nat, Hid (m.cells.length = N) := ⟨_, rfl⟩
  rw [H1.out] at d6 n1 m1 k2
  rw [H2.out] at d7 n2 m2 u2
  rw [H3.out] at d8 n3 m3 c2
  obtain ⟨qu, HQ⟩ : ∃ N : Nat, Hid (q.up = N) := ⟨_, rfl⟩
  rw [HQ.out] at k51 u50 n2
  obtain ⟨vt, vn, vs⟩ := v
  dsimp only at s50 s51 s52
  rw [ht] at c50
  obtain ⟨ps, HPS⟩ : ∃ N : Nat, Hid (ce.pos = N) := ⟨_, rfl⟩
  rw [HPS.out] at c51 s50 s51 s52 vl
  obtain ⟨N4, H4⟩ : ∃ N : Nat, Hid (m.ths.length = N) := ⟨_, rfl⟩
  obtain ⟨N5, H5⟩ : ∃ N : Nat, Hid (t.stack.length = N) := ⟨_, rfl⟩
  rw [H4.out] at d9 yl n5
  rw [H5.out] at t2 vl hsl s2
  have hN4 : N4 ≤ 5 := by omega
  have ht2 : (0 : Int) ≤ (y : Int) := by omega
  clear h U k5 k6 u5 u6 c5 c6 k1 u1 c1 ht hi hv hl s1 s6 c52 c53 c54
  go_enter Tryz.func294, Tryz.ntmps294
  go_wp2_with fail
  refine wp_region_quiet_lit (by kernel_rfl) (by kernel_rfl) ?_
  repeat go_big_quiet_step (fail)
  refine wpQuiet_nil ?_
  rintro w' ⟨nq, rfl⟩
  go_wp2_with fail
  refine wp_region_tail 17 (by kernel_rfl) (by kernel_rfl) (fun _ _ _ _ _ h => h) ?_
  simp only [List.take_succ_cons, List.take_zero, List.drop_succ_cons, List.drop_zero]
  repeat go_big_quiet_step (fail)
  refine wpQuiet_nil ?_
  go_wp2_with fail
  refine bodyPost_ret (res_cell isVal rfl rfl (((Has.new _ _ _).drewN _).put3 _ _ _) rfl) rfl ?_
  exact ⟨rfl, (((((Fr.refl _ _).alloc _).drewN _).setCell (p := ⟨w.heap.size, 0, none⟩) (.inr (Nat.le_refl _)) _).setCell (p := ⟨w.heap.size, 1, none⟩) (.inr (Nat.le_refl _)) _).setCell (p := ⟨w.heap.size, 2, none⟩) (.inr (Nat.le_refl _)) _⟩
end
end Go.Proofs.Qxb6500574aGreatDoor
