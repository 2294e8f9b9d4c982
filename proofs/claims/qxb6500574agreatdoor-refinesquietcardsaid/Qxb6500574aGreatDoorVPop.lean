/-
  THE WALKS of vm: pop, push.
-/
import Derived.Test.Qxb6500574aGreatDoorVRes
import Derived.Test.Qxb6500574aGreatDoorRegApp
import Derived.Test.Qxb6500574aGreatDoorVApp
import Derived.Test.Qxb6500574aGreatDoorRegC
import Derived.BigQuiet
namespace Go.Proofs.Qxb6500574aGreatDoor
open Go Go.RowKit
set_option linter.unusedVariables false
set_option linter.unusedSimpArgs false

theorem at3 {xs : List Vl} {j : Nat} {v : Vl} (h : xs[j]? = some v) : (xs.flatMap vCells)[j * 3]? = some (.int .i64 v.t) ∧ (xs.flatMap vCells)[j * 3 + 1]? = some (.int .u64 v.n) ∧ (xs.flatMap vCells)[j * 3 + 2]? = some (sv v.s) :=
  ⟨flatMap_at _ 3 vCells_len xs j 0 v h (by omega), flatMap_at _ 3 vCells_len xs j 1 v h (by omega), flatMap_at _ 3 vCells_len xs j 2 v h (by omega)⟩
section
variable {w : World} {A : VL} {m : VMD} {f e i : Nat} {t : ThD} {l : ThL}
/-- a value of the stack: its cells -/
theorem VRep.val (h : VRep w A m f e) (hi : m.ths[i]? = some t) (hx : A.X[i]? = some l) {j : Nat} {v : Vl} (hj : t.stack[j]? = some v) :
    ∃ g, l.s.a = some ⟨g, 0, none⟩ ∧ t.stack.length ≤ l.s.c ∧ A.o g = 20 + 3 * i ∧ g < w.heap.size ∧ w.cell? ⟨g, j * 3, none⟩ = some (.int .i64 v.t) ∧ w.cell? ⟨g, j * 3 + 1, none⟩ = some (.int .u64 v.n) ∧ w.cell? ⟨g, j * 3 + 2, none⟩ = some (sv v.s) ∧ (∀ k, w.frozen? ⟨g, k, none⟩ = false) := by
  have hlt := (List.getElem?_eq_some_iff.1 hj).1
  obtain ⟨g, h1, h2, h3, h4, h5, h6⟩ := (h.one hi hx).s.cells (show 0 < t.stack.length by omega)
  obtain ⟨a, b, c⟩ := at3 hj
  have hlt3 : j * 3 + 3 ≤ t.stack.length * 3 := by omega
  exact ⟨g, h1, h2, h3, h4, (h5 _ (show _ < t.stack.length * 3 by omega)).trans a, (h5 _ (show _ < t.stack.length * 3 by omega)).trans b, (h5 _ (show _ < t.stack.length * 3 by omega)).trans c, h6⟩
set_option maxRecDepth 100000
set_option maxHeartbeats 400000
theorem vpop_any (h : VRep w A m f e) (hi : m.ths[i]? = some t) {v : Vl} {r : List Vl} (hs : t.stack = r ++ [v]) (hl : r.length ≤ 100000) :
    Calls Tryz.prog 266 #[.pointer (some ⟨A.bT, i * 5, none⟩)] w fun e' w' => e' = .returned v.val ∧ VRep w' A (m.setTh i { t with stack := r }) f e ∧ VSt (isT i) w A w' A := by
  obtain ⟨l, hx⟩ := h.lays hi
  have hj : t.stack[r.length]? = some v := by rw [hs]; simp
  obtain ⟨g, ga, gc, go, gl, v0, v1, v2, gf⟩ := h.val hi hx hj
  have hlen : t.stack.length = r.length + 1 := by rw [hs]; simp
  have c2 := h.thCell hi hx (j := 2) (by omega)
  simp only [thCells, List.getElem?_cons_succ, List.getElem?_cons_zero, Sl.v, ga, hlen] at c2
  rw [hlen] at gc
  have fz := h.ths.frozen (i * 5 + 2)
  have hb := h.ths.here.has.lt
  have FIN : Hid (∀ W, Fr (fun _ => False) (w.setCell ⟨A.bT, i * 5 + 2, none⟩ (.slice (some ⟨g, 0, none⟩) r.length l.s.c)) W → VRep W A (m.setTh i { t with stack := r }) f e ∧ VSt (isT i) w A W A) := fun W hW => by
    obtain ⟨r1, r2⟩ := h.cutS hi hx (n := r.length) (by omega)
    rw [ga] at r1 r2
    have e1 : t.stack.take r.length = r := by rw [hs]; simp
    rw [e1] at r1
    exact ⟨r1.fresh hW, r2.trans (VSt.fresh hW)⟩
  clear h hi hx hs hj hlen go ga
  obtain ⟨vt, vn, vs⟩ := v
  dsimp only at v0 v1 v2
  obtain ⟨k, HK⟩ : ∃ k : Nat, Hid (r.length = k) := ⟨_, rfl⟩
  rw [HK.out] at hl c2 gc v0 v1 v2 FIN
  have hk1 : (k : Int) + 1 - 1 = k := by omega
  go_enter Tryz.func266, Tryz.ntmps266
  go_wp2
  refine bodyPost_ret (res_cell isVal rfl rfl (Has.alloc (Has.newSet _ _ _ _ _) _) rfl) rfl ?_
  exact ⟨rfl, FIN.out _ (((Fr.refl _ _).alloc _).alloc _)⟩
theorem rowVal : IsRow Tryz.prog 85 68 (.agg #[.int .i64 0, .int .u64 0, sv []]) 3 32 := ⟨by kernel_rfl, by kernel_rfl, rfl, by decide⟩
theorem vCells_one (vs : List Vl) : ∀ u ∈ vs.flatMap vCells, u.oneCell' = true := by
  intro u hu
  simp [vCells] at hu
  obtain ⟨v, _, h | h | h⟩ := hu <;> subst h <;> rfl
theorem vpush_any (h : VRep w A m f e) (hi : m.ths[i]? = some t) (vs : List Vl) (hv : 0 < vs.length) (hl : t.stack.length + vs.length ≤ 100000) {B c : Nat} (hB : Has w B (vs.flatMap vCells).toArray 68) :
    Calls Tryz.prog 143 #[.pointer (some ⟨A.bT, i * 5, none⟩), .slice (some ⟨B, 0, none⟩) vs.length c] w fun e' w' => e' = .returned (.tuple #[]) ∧ ∃ A', VRep w' A' (m.setTh i { t with stack := t.stack ++ vs }) f e ∧ VSt (isT i) w A w' A' := by
  obtain ⟨l, hx⟩ := h.lays hi
  have c2 := h.thCell hi hx (j := 2) (by omega)
  simp only [thCells, List.getElem?_cons_succ, List.getElem?_cons_zero, Sl.v] at c2
  have fz := h.ths.frozen (i * 5 + 2)
  have hb := h.ths.here.has.lt
  have H : Hid (VRep w A m f e) := h
  have HR : Hid (World.ownsRow w 0 68 3 (l.s.v t.stack.length) t.stack.length (t.stack.flatMap vCells)) := (h.one hi hx).s.own
  have HB : Hid (Has w B (vs.flatMap vCells).toArray 68) := hB
  have HI : Hid (m.ths[i]? = some t) := hi
  have HX : Hid (A.X[i]? = some l) := hx
  clear h hi hx hB
  obtain ⟨n, HN⟩ : ∃ n : Nat, Hid (t.stack.length = n) := ⟨_, rfl⟩
  obtain ⟨k, HK⟩ : ∃ k : Nat, Hid (vs.length = k) := ⟨_, rfl⟩
  rw [HK.out] at hv hl ⊢
  rw [HN.out] at hl c2
  go_enter Tryz.func143, Tryz.ntmps143
  go_wp2_with (at_builtin; go_must (refine wpList_appN rowVal _ rfl (.tmp 8) (.tmp 9) rfl (l.s.v t.stack.length) t.stack.length (t.stack.flatMap vCells) (by rw [HN.out]; rfl) HR.out B k c (vs.flatMap vCells) rfl HB.out (by rw [flatMap_len _ 3 vCells_len, HK.out]) hv (vCells_one vs) ?bd ?go))
  case bd => rw [HN.out]; omega
  case go =>
    intro g cap w2 q1 q2 q3 q4
    have hq3 : (l.s.v t.stack.length).ownBlock = some g ∨ w.heap.size ≤ g := by
      rcases q3 with q3 | q3
      · exact .inl q3
      · right; rw [q3]; exact Nat.le_refl _
    rw [← HK.out] at q1
    obtain ⟨hh, A', r1, r2, _⟩ := H.out.pushed HI.out HX.out vs (Fr.refl _ _) q1 q2 hq3 q4
    rw [HK.out, HN.out] at r1 r2
    rw [HN.out]
    have d3 := hh.frozen (i * 5 + 2)
    have d4 : w2.cell? ⟨A.bT, i * 5 + 2, none⟩ = some (.slice l.s.a n l.s.c) := by
      rw [hh.cell, List.getElem?_toArray, flatMap_at _ 5 thCells_len _ i 2 _ (H.out.zipAt HI.out HX.out) (by omega)]
      simp [thCells, HN.out]
    have k3 := hh.lt
    have R1 : Hid (VRep _ _ _ _ _) := r1
    have R2 : Hid (VSt _ _ _ _ _) := r2
    clear q1 q2 q3 q4 hq3 hh r1 r2
    go_wp2
    go_end0
    exact ⟨rfl, _, R1.out, R2.out⟩
end
end Go.Proofs.Qxb6500574aGreatDoor
