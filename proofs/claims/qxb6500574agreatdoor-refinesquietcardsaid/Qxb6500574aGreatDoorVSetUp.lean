/-
  A SLOT OF THE STACK WRITTEN; THE WALK of vm: setUp.
-/
import Derived.Test.Qxb6500574aGreatDoorVClose
namespace Go.Proofs.Qxb6500574aGreatDoor
open Go Go.RowKit
set_option linter.unusedVariables false
set_option linter.unusedSimpArgs false

theorem v_set3 (xs : List Vl) (c : Nat) {x : Vl} (h : xs[c]? = some x) (v : Vl) : (((xs.flatMap vCells).set (c * 3) (.int .i64 v.t)).set (c * 3 + 1) (.int .u64 v.n)).set (c * 3 + 2) (sv v.s) = (xs.set c v).flatMap vCells := by
  have hp : c < xs.length := (List.getElem?_eq_some_iff.1 h).1
  rw [show c * 3 = c * 3 + 0 from rfl, ← flatMap_set _ 3 vCells_len xs c 0 x ⟨v.t, x.n, x.s⟩ (.int .i64 v.t) h (by omega) rfl]
  rw [show c * 3 + 0 + 1 = c * 3 + 1 from rfl, ← flatMap_set _ 3 vCells_len (xs.set c ⟨v.t, x.n, x.s⟩) c 1 ⟨v.t, x.n, x.s⟩ ⟨v.t, v.n, x.s⟩ (.int .u64 v.n) (by rw [List.getElem?_set_self hp]) (by omega) rfl, List.set_set]
  rw [show c * 3 + 0 + 2 = c * 3 + 2 from rfl, ← flatMap_set _ 3 vCells_len (xs.set c ⟨v.t, v.n, x.s⟩) c 2 ⟨v.t, v.n, x.s⟩ v (sv v.s) (by rw [List.getElem?_set_self hp]) (by omega) rfl, List.set_set]
theorem ce_set3 (xs : List CeD) (c : Nat) {ce : CeD} (h : xs[c]? = some ce) (v : Vl) : (((xs.flatMap ceCells).set (c * 5 + 2) (.int .i64 v.t)).set (c * 5 + 3) (.int .u64 v.n)).set (c * 5 + 4) (sv v.s) = (xs.set c { ce with v := v }).flatMap ceCells := by
  have hp : c < xs.length := (List.getElem?_eq_some_iff.1 h).1
  rw [← flatMap_set _ 5 ceCells_len xs c 2 ce ⟨ce.th, ce.pos, ⟨v.t, ce.v.n, ce.v.s⟩⟩ (.int .i64 v.t) h (by omega) rfl]
  rw [← flatMap_set _ 5 ceCells_len (xs.set c ⟨ce.th, ce.pos, ⟨v.t, ce.v.n, ce.v.s⟩⟩) c 3 ⟨ce.th, ce.pos, ⟨v.t, ce.v.n, ce.v.s⟩⟩ ⟨ce.th, ce.pos, ⟨v.t, v.n, ce.v.s⟩⟩ (.int .u64 v.n) (by rw [List.getElem?_set_self hp]) (by omega) rfl, List.set_set]
  rw [← flatMap_set _ 5 ceCells_len (xs.set c ⟨ce.th, ce.pos, ⟨v.t, v.n, ce.v.s⟩⟩) c 4 ⟨ce.th, ce.pos, ⟨v.t, v.n, ce.v.s⟩⟩ ⟨ce.th, ce.pos, v⟩ (sv v.s) (by rw [List.getElem?_set_self hp]) (by omega) rfl, List.set_set]
section
variable {w w1 : World} {A : VL} {m : VMD} {f e i : Nat} {t : ThD} {l : ThL}
/-- a slot of a thread's stack written -/
theorem VRep.setVal (h : VRep w A m f e) (hi : m.ths[i]? = some t) (hx : A.X[i]? = some l) {g j : Nat} (hg : l.s.a = some ⟨g, 0, none⟩) {u : Vl} (hj : t.stack[j]? = some u) (v : Vl) :
    VRep (((w.setCell ⟨g, j * 3, none⟩ (.int .i64 v.t)).setCell ⟨g, j * 3 + 1, none⟩ (.int .u64 v.n)).setCell ⟨g, j * 3 + 2, none⟩ (sv v.s)) A (m.setTh i { t with stack := t.stack.set j v }) f e ∧
    VSt (isT i) w A (((w.setCell ⟨g, j * 3, none⟩ (.int .i64 v.t)).setCell ⟨g, j * 3 + 1, none⟩ (.int .u64 v.n)).setCell ⟨g, j * 3 + 2, none⟩ (sv v.s)) A := by
  have one := h.one hi hx
  obtain ⟨r1, s1⟩ := one.s.put hg (j * 3) (.int .i64 v.t) rfl
  obtain ⟨r2, s2⟩ := r1.put hg (j * 3 + 1) (.int .u64 v.n) rfl
  obtain ⟨r3, s3⟩ := r2.put hg (j * 3 + 2) (sv v.s) (v_set3 t.stack j hj v)
  have s := (s1.trans s2).trans s3
  refine h.inTh hi hx (s.weaken (fun k hk => by omega)) (by simp [thCells]) ⟨?_, one.f.st s (by omega), one.p.st s (by omega)⟩
  simpa using r3
theorem VRep.setCe (h : VRep w A m f e) {g c : Nat} (hg : A.C.cells.a = some ⟨g, 0, none⟩) {ce : CeD} (hc : m.cells[c]? = some ce) (v : Vl) :
    VRep (((w.setCell ⟨g, c * 5 + 2, none⟩ (.int .i64 v.t)).setCell ⟨g, c * 5 + 3, none⟩ (.int .u64 v.n)).setCell ⟨g, c * 5 + 4, none⟩ (sv v.s)) A { m with cells := m.cells.set c { ce with v := v } } f e ∧
    VSt isCo w A (((w.setCell ⟨g, c * 5 + 2, none⟩ (.int .i64 v.t)).setCell ⟨g, c * 5 + 3, none⟩ (.int .u64 v.n)).setCell ⟨g, c * 5 + 4, none⟩ (sv v.s)) A := by
  obtain ⟨r1, s1⟩ := h.core.cells.put hg (c * 5 + 2) (.int .i64 v.t) rfl
  obtain ⟨r2, s2⟩ := r1.put hg (c * 5 + 3) (.int .u64 v.n) rfl
  obtain ⟨r3, s3⟩ := r2.put hg (c * 5 + 4) (sv v.s) (ce_set3 m.cells c hc v)
  refine h.setCells (by simp) ((s1.trans s2).trans s3) ?_
  simpa using r3
set_option maxRecDepth 100000
set_option maxHeartbeats 600000
theorem setUp_closed (h : VRep w A m f e) {clo x c : Nat} {q : ClD} {ce : CeD} (U : UpAt m clo x c q ce) (hx3 : x < 65536) {fa : Addr} (hfa : w.cell? fa = some (.int .i64 clo)) (hfb : fa.spot = none) (hfl : fa.block < w.heap.size) (ht : ce.th < 0) (v : Vl) :
    Calls Tryz.prog 295 #[.pointer (some ⟨A.b, 0, none⟩), .pointer (some fa), .int .i64 x, v.val] w fun e' w' => e' = .returned (.tuple #[]) ∧ VRep w' A { m with cells := m.cells.set c { ce with v := v } } f e ∧ VSt isCo w A w' A := by
  obtain ⟨gk, k1, k2, k3, k4, k5, k6⟩ := h.core.clos.at clCells_len U.hq
  obtain ⟨gu, u1, u2, u3, u4, u5, u6⟩ := h.core.upix.at nCells_len U.hx
  obtain ⟨gc, c1, c2, c3, c4, c5, c6⟩ := h.core.cells.at ceCells_len U.he
  have k51 := k5 1 (by omega)
  have u50 := u5 0 (by omega)
  have c50 := c5 0 (by omega)
  have c52 := c5 2 (by omega)
  have c53 := c5 3 (by omega)
  have c54 := c5 4 (by omega)
  simp only [clCells, nCells, ceCells, List.getElem?_cons_succ, List.getElem?_cons_zero, Nat.add_zero, Nat.mul_one] at k51 u50 c50 c52 c53 c54
  have z2 := c6 (c * 5 + 2)
  have z3 := c6 (c * 5 + 3)
  have z4 := c6 (c * 5 + 4)
  have d6 := h.cell0 6
  have d7 := h.cell0 7
  have d8 := h.cell0 8
  simp only [vmCells, List.getElem?_toArray, List.getElem?_cons_succ, List.getElem?_cons_zero, Sl.v, k1, u1, c1] at d6 d7 d8
  have hb := h.bl
  have n1 := (List.getElem?_eq_some_iff.1 U.hq).1
  have n2 := (List.getElem?_eq_some_iff.1 U.hx).1
  have n3 := (List.getElem?_eq_some_iff.1 U.he).1
  have m1 := U.hc
  have m2 := U.hu
  have m3 := U.hs
  have FIN : Hid (∀ W, Fr (fun _ => False) w W → VRep (((W.setCell ⟨gc, c * 5 + 2, none⟩ (.int .i64 v.t)).setCell ⟨gc, c * 5 + 3, none⟩ (.int .u64 v.n)).setCell ⟨gc, c * 5 + 4, none⟩ (sv v.s)) A { m with cells := m.cells.set c { ce with v := v } } f e ∧ VSt isCo w A (((W.setCell ⟨gc, c * 5 + 2, none⟩ (.int .i64 v.t)).setCell ⟨gc, c * 5 + 3, none⟩ (.int .u64 v.n)).setCell ⟨gc, c * 5 + 4, none⟩ (sv v.s)) A) := fun W hW => by
    obtain ⟨x1, x2⟩ := (h.fresh hW).setCe c1 U.he v
    exact ⟨x1, (VSt.fresh hW).trans x2⟩
  obtain ⟨fb, fo, fs⟩ := fa
  dsimp only at hfb hfl
  subst hfb
  obtain ⟨vt, vn, vs⟩ := v
  dsimp only at FIN
  obtain ⟨mz, HMZ⟩ : ∃ mz : VMD, Hid (({ m with cells := m.cells.set c { ce with v := ⟨vt, vn, vs⟩ } } : VMD) = mz) := ⟨_, rfl⟩
  rw [HMZ.out] at FIN ⊢
  obtain ⟨N1, H1⟩ : ∃ N : Nat, Hid (m.clos.length = N) := ⟨_, rfl⟩
  obtain ⟨N2, H2⟩ : ∃ N : Nat, Hid (m.upix.length = N) := ⟨_, rfl⟩
  obtain ⟨N3, H3⟩ : ∃ N : Nat, Hid (m.cells.length = N) := ⟨_, rfl⟩
  rw [H1.out] at d6 n1 m1 k2
  rw [H2.out] at d7 n2 m2 u2
  rw [H3.out] at d8 n3 m3 c2
  obtain ⟨qu, HQ⟩ : ∃ N : Nat, Hid (q.up = N) := ⟨_, rfl⟩
  rw [HQ.out] at k51 u50 n2
  obtain ⟨th, HT⟩ : ∃ v : Int, Hid (ce.th = v) := ⟨_, rfl⟩
  rw [HT.out] at c50 ht
  have ht2 : ¬ (0 : Int) ≤ th := by omega
  clear h U k5 k6 u5 u6 c5 c6 k1 u1 c1 HMZ
  go_enter Tryz.func295, Tryz.ntmps295
  go_wp2_with fail
  refine wp_region_quiet_lit (by kernel_rfl) (by kernel_rfl) ?_
  repeat go_big_quiet_step (fail)
  refine wpQuiet_nil ?_
  rintro w' ⟨nq, rfl⟩
  go_wp2_with fail
  go_end0
  exact ⟨rfl, FIN.out _ (((Fr.refl _ _).alloc _).drewN _)⟩
theorem setUp_open (h : VRep w A m f e) {clo x c : Nat} {q : ClD} {ce : CeD} (U : UpAt m clo x c q ce) (hx3 : x < 65536) {fa : Addr} (hfa : w.cell? fa = some (.int .i64 clo)) (hfb : fa.spot = none) (hfl : fa.block < w.heap.size) {y : Nat} (ht : ce.th = (y : Int)) (hi : m.ths[y]? = some t) {u : Vl} (hv : t.stack[ce.pos]? = some u) (hsl : t.stack.length ≤ 100000) (v : Vl) :
    Calls Tryz.prog 295 #[.pointer (some ⟨A.b, 0, none⟩), .pointer (some fa), .int .i64 x, v.val] w fun e' w' => e' = .returned (.tuple #[]) ∧ VRep w' A (m.setTh y { t with stack := t.stack.set ce.pos v }) f e ∧ VSt (isT y) w A w' A := by
  obtain ⟨gk, k1, k2, k3, k4, k5, k6⟩ := h.core.clos.at clCells_len U.hq
  obtain ⟨gu, u1, u2, u3, u4, u5, u6⟩ := h.core.upix.at nCells_len U.hx
  obtain ⟨gc, c1, c2, c3, c4, c5, c6⟩ := h.core.cells.at ceCells_len U.he
  have k51 := k5 1 (by omega)
  have u50 := u5 0 (by omega)
  have c50 := c5 0 (by omega)
  simp only [clCells, nCells, ceCells, List.getElem?_cons_succ, List.getElem?_cons_zero, Nat.add_zero, Nat.mul_one] at k51 u50 c50
  have d6 := h.cell0 6
  have d7 := h.cell0 7
  have d8 := h.cell0 8
  simp only [vmCells, List.getElem?_toArray, List.getElem?_cons_succ, List.getElem?_cons_zero, Sl.v, k1, u1, c1] at d6 d7 d8
  have hb := h.bl
  have n1 := (List.getElem?_eq_some_iff.1 U.hq).1
  have n2 := (List.getElem?_eq_some_iff.1 U.hx).1
  have n3 := (List.getElem?_eq_some_iff.1 U.he).1
  have m1 := U.hc
  have m2 := U.hu
  have m3 := U.hs
  obtain ⟨l, hl⟩ := h.lays hi
  obtain ⟨gs, s1, s2, s3, s4, s50, s51, s52, s6⟩ := h.val hi hl hv
  have z0 := s6 (ce.pos * 3)
  have z1 := s6 (ce.pos * 3 + 1)
  have z2 := s6 (ce.pos * 3 + 2)
  have FIN : Hid (∀ W, Fr (fun _ => False) w W → VRep (((W.setCell ⟨gs, ce.pos * 3, none⟩ (.int .i64 v.t)).setCell ⟨gs, ce.pos * 3 + 1, none⟩ (.int .u64 v.n)).setCell ⟨gs, ce.pos * 3 + 2, none⟩ (sv v.s)) A (m.setTh y { t with stack := t.stack.set ce.pos v }) f e ∧ VSt (isT y) w A (((W.setCell ⟨gs, ce.pos * 3, none⟩ (.int .i64 v.t)).setCell ⟨gs, ce.pos * 3 + 1, none⟩ (.int .u64 v.n)).setCell ⟨gs, ce.pos * 3 + 2, none⟩ (sv v.s)) A) := fun W hW => by
    obtain ⟨x1, x2⟩ := (h.fresh hW).setVal hi hl s1 hv v
    exact ⟨x1, (VSt.fresh hW).trans x2⟩
  have t2 := h.thCell hi hl (j := 2) (by omega)
  simp only [thCells, List.getElem?_cons_succ, List.getElem?_cons_zero, Sl.v, s1] at t2
  have d9 := h.cell0 9
  simp only [vmCells, List.getElem?_toArray, List.getElem?_cons_succ, List.getElem?_cons_zero] at d9
  have hTl := h.ths.here.has.lt
  have y5 := h.i5 hi
  have yl := (List.getElem?_eq_some_iff.1 hi).1
  have vl := (List.getElem?_eq_some_iff.1 hv).1
  have n5 := h.len5
  have c51 := c5 1 (by omega)
  simp only [ceCells, List.getElem?_cons_succ, List.getElem?_cons_zero] at c51
  obtain ⟨fb, fo, fs⟩ := fa
  dsimp only at hfb hfl
  subst hfb
  obtain ⟨vt, vn, vs⟩ := v
  dsimp only at FIN
  obtain ⟨mz, HMZ⟩ : ∃ mz, Hid (m.setTh y { t with stack := t.stack.set ce.pos ⟨vt, vn, vs⟩ } = mz) := ⟨_, rfl⟩
  rw [HMZ.out] at FIN ⊢
  obtain ⟨N1, H1⟩ : ∃ N : Nat, Hid (m.clos.length = N) := ⟨_, rfl⟩
  obtain ⟨N2, H2⟩ : ∃ N : Nat, Hid (m.upix.length = N) := ⟨_, rfl⟩
  obtain ⟨N3, H3⟩ : ∃ N : Nat, Hid (m.cells.length = N) := ⟨_, rfl⟩
  rw [H1.out] at d6 n1 m1 k2
  rw [H2.out] at d7 n2 m2 u2
  rw [H3.out] at d8 n3 m3 c2
  obtain ⟨qu, HQ⟩ : ∃ N : Nat, Hid (q.up = N) := ⟨_, rfl⟩
  rw [HQ.out] at k51 u50 n2
  rw [ht] at c50
  obtain ⟨ps, HPS⟩ : ∃ N : Nat, Hid (ce.pos = N) := ⟨_, rfl⟩
  rw [HPS.out] at c51 s50 s51 s52 vl z0 z1 z2 FIN
  obtain ⟨N4, H4⟩ : ∃ N : Nat, Hid (m.ths.length = N) := ⟨_, rfl⟩
  obtain ⟨N5, H5⟩ : ∃ N : Nat, Hid (t.stack.length = N) := ⟨_, rfl⟩
  rw [H4.out] at d9 yl n5
  rw [H5.out] at t2 vl hsl s2
  have hN4 : N4 ≤ 5 := by omega
  have ht2 : (0 : Int) ≤ (y : Int) := by omega
  clear h U k5 k6 u5 u6 c5 c6 k1 u1 c1 ht hi hv hl s1 s6 HMZ HPS
  go_enter Tryz.func295, Tryz.ntmps295
  go_wp2_with fail
  refine wp_region_quiet_lit (by kernel_rfl) (by kernel_rfl) ?_
  repeat go_big_quiet_step (fail)
  refine wpQuiet_nil ?_
  rintro w' ⟨nq, rfl⟩
  go_wp2_with fail
  refine wp_region_tail 16 (by kernel_rfl) (by kernel_rfl) (fun _ _ _ _ _ h => h) ?_
  simp only [List.take_succ_cons, List.take_zero, List.drop_succ_cons, List.drop_zero]
  repeat go_big_quiet_step (fail)
  refine wpQuiet_nil ?_
  go_wp2_with fail
  go_end0
  exact ⟨rfl, FIN.out _ (((Fr.refl _ _).alloc _).drewN _)⟩
end
end Go.Proofs.Qxb6500574aGreatDoor
