/-
  THE WALK of vm: the one recover (run$1).
-/
import Derived.Test.Qxb6500574aGreatDoorVLoopW
import Derived.Test.Qxb6500574aGreatDoorVWipe
import Derived.Test.Qxb6500574aGreatDoorReg7
import Derived.Defers
import Derived.Recover
namespace Go.Proofs.Qxb6500574aGreatDoor
open Go Go.RowKit
set_option linter.unusedVariables false
set_option linter.unusedSimpArgs false
/-- what the boundary leaves behind a throw -/
def CatchT (b6 b7 : Nat) (P : EvD → Bool → World → Prop) (w' : World) : Prop := ∃ w1 ev d, Has w1 b6 (evCells ev0) 190 ∧ Has w1 b7 #[.bool false] 4 ∧ P ev d w1 ∧ w' = (set9 w1 b6 ev).setCell ⟨b7, 0, none⟩ (.bool d)
section
variable {w : World}
set_option maxRecDepth 100000
set_option maxHeartbeats 1000000
theorem rcatch_idle (b3 b5 b6 b7 : Nat) :
    CallsD Tryz.prog 212 #[.pointer (some ⟨b3, 0, none⟩), .pointer (some ⟨b5, 0, none⟩), .pointer (some ⟨b6, 0, none⟩), .pointer (some ⟨b7, 0, none⟩)] .returning w fun e u' w' => e = .returned (.tuple #[]) ∧ u' = .returning ∧ w' = w := by
  refine callsD_of_wpS Tryz.func212 rfl fun c₀ cs hu => ?_
  apply wpS_seq
  apply wpS_region
  simp only [Tryz.ntmps212, List.size_toArray, List.length_cons, List.length_nil, Nat.reduceAdd, Nat.reduceSub, Array.replicate_succ, Array.replicate_zero, List.push_toArray, List.append_toArray, List.nil_append, List.cons_append]
  simp [wpOpsS, go_sem, recoverD, hu, Exit.thenS]
  refine wpS_of_wp ?_
  go_wp2
  cases c₀
  simp_all [bodyPostS, results, Tryz.results212]
theorem isTrapV (v : Value) (xT : TypeId) (w : World) : (Instr.typeAssert (.iface 341 v) xT 341 true).run Tryz.prog w = .ok (.tuple #[v, .bool true]) w := by kernel_rfl
theorem isThrV (v : Value) (xT : TypeId) (w : World) : (Instr.typeAssert (.iface 337 v) xT 337 true).run Tryz.prog w = .ok (.tuple #[v, .bool true]) w := by kernel_rfl
theorem notThrV (v : Value) (xT : TypeId) (w : World) : (Instr.typeAssert (.iface 341 v) xT 337 true).run Tryz.prog w = .ok (.tuple #[.pointer none, .bool false]) w := by kernel_rfl
theorem rcatch_trap (b3 b5 b6 b7 bv : Nat) (k : Nat) (h3 : w.cell? ⟨b3, 0, none⟩ = some (.pointer (some ⟨bv, 0, none⟩))) {P : World → Prop}
    (hU : Calls Tryz.prog 78 #[.pointer (some ⟨bv, 0, none⟩), .int .i64 k] w fun e' w1 => e' = .returned (.tuple #[]) ∧ Has w1 b6 (evCells ev0) 190 ∧ Has w1 b7 #[.bool false] 4 ∧ P w1) :
    CallsD Tryz.prog 212 #[.pointer (some ⟨b3, 0, none⟩), .pointer (some ⟨b5, 0, none⟩), .pointer (some ⟨b6, 0, none⟩), .pointer (some ⟨b7, 0, none⟩)] (.panicking (trapE k)) w fun e u' w' => e = .returned (.tuple #[]) ∧ u' = .panicking [{ v := .iface 341 (.int .i64 k), recovered := true }] ∧ ∃ w1, Has w1 b6 (evCells ev0) 190 ∧ Has w1 b7 #[.bool false] 4 ∧ P w1 ∧ w' = (set9 w1 b6 ⟨5, 0, k, nilV, nilV⟩).setCell ⟨b7, 0, none⟩ (.bool true) := by
  have a1' := isTrapV
  have a2' := notThrV
  refine callsD_of_wpS Tryz.func212 rfl fun c₀ cs hu => ?_
  apply wpS_seq
  apply wpS_region
  simp only [Tryz.ntmps212, List.size_toArray, List.length_cons, List.length_nil, Nat.reduceAdd, Nat.reduceSub, Array.replicate_succ, Array.replicate_zero, List.push_toArray, List.append_toArray, List.nil_append, List.cons_append]
  simp [wpOpsS, go_sem, recoverD, hu, Exit.thenS]
  refine wpS_of_wp ?_
  go_wp2_with fail
  refine hU.mono ?_
  rintro e w1 ⟨rfl, q6, q7, hP⟩
  obtain ⟨x0, x1, x2, x3, x4, x5, x6, x7, x8⟩ := q6.ev
  have z0 := q6.frozen 0
  have z1 := q6.frozen 1
  have z2 := q6.frozen 2
  have z3 := q6.frozen 3
  have z4 := q6.frozen 4
  have z5 := q6.frozen 5
  have z6 := q6.frozen 6
  have z7 := q6.frozen 7
  have z8 := q6.frozen 8
  have y0 := q7.cell 0
  have f0 := q7.frozen 0
  have l6 := q6.lt
  have l7 := q7.lt
  have ne := q6.ne q7 (by decide)
  simp only [List.getElem?_toArray, List.getElem?_cons_zero] at y0
  have HP : Hid (P w1) := hP
  have H6 : Hid (Has w1 b6 (evCells ev0) 190) := q6
  have H7 : Hid (Has w1 b7 #[.bool false] 4) := q7
  dsimp only [ev0, nilV] at x0 x1 x2 x3 x4 x5 x6 x7 x8
  clear hP q6 q7 hU
  go_wp2_with fail
  exact ⟨rfl, _, rfl, _, by simp [results, Tryz.results212], rfl, rfl, w1, H6.out, H7.out, HP.out, rfl⟩
theorem rcatch_thr (b3 b5 b6 b7 bv bT i b : Nat) (v : Vl) (h3 : w.cell? ⟨b3, 0, none⟩ = some (.pointer (some ⟨bv, 0, none⟩))) (h5 : w.cell? ⟨b5, 0, none⟩ = some (.pointer (some ⟨bT, i * 5, none⟩))) (hb : Has w b #[.int .i64 v.t, .int .u64 v.n, sv v.s] 340) {P : EvD → Bool → World → Prop}
    (hU : Calls Tryz.prog 213 #[.pointer (some ⟨bv, 0, none⟩), .pointer (some ⟨bT, i * 5, none⟩), v.val] w.drew fun e' w1 => ∃ ev d, e' = .returned (.tuple #[ev.val, .bool d]) ∧ Has w1 b6 (evCells ev0) 190 ∧ Has w1 b7 #[.bool false] 4 ∧ P ev d w1) :
    CallsD Tryz.prog 212 #[.pointer (some ⟨b3, 0, none⟩), .pointer (some ⟨b5, 0, none⟩), .pointer (some ⟨b6, 0, none⟩), .pointer (some ⟨b7, 0, none⟩)] (.panicking (thrE b)) w fun e u' w' => e = .returned (.tuple #[]) ∧ u' = .panicking [{ v := .iface 337 (.pointer (some ⟨b, 0, none⟩)), recovered := true }] ∧ CatchT b6 b7 P w' := by
  have a1' := isThrV
  obtain ⟨vt, vn, vs⟩ := v
  obtain ⟨v0, v1, v2⟩ := hb.cells3 (v := ⟨vt, vn, vs⟩)
  have hbl := hb.lt
  clear hb
  refine callsD_of_wpS Tryz.func212 rfl fun c₀ cs hu => ?_
  apply wpS_seq
  apply wpS_region
  simp only [Tryz.ntmps212, List.size_toArray, List.length_cons, List.length_nil, Nat.reduceAdd, Nat.reduceSub, Array.replicate_succ, Array.replicate_zero, List.push_toArray, List.append_toArray, List.nil_append, List.cons_append]
  simp [wpOpsS, go_sem, recoverD, hu, Exit.thenS]
  refine wpS_of_wp ?_
  go_wp2_with fail
  refine wp_region_Y 6 1 10 (by kernel_rfl) (by kernel_rfl) (fun _ _ _ _ _ h => h) ?_
  simp only [List.take_succ_cons, List.take_zero, List.drop_succ_cons, List.drop_zero]
  repeat go_big_quiet_step (fail)
  refine wpQuiet_nil ?_
  go_wp2_with fail
  refine hU.mono ?_
  rintro e w1 ⟨⟨ek, eth, ee, ⟨evt, evn, evs⟩, ⟨ewt, ewn, ews⟩⟩, d, rfl, q6, q7, hP⟩
  obtain ⟨x0, x1, x2, x3, x4, x5, x6, x7, x8⟩ := q6.ev
  have z0 := q6.frozen 0
  have z1 := q6.frozen 1
  have z2 := q6.frozen 2
  have z3 := q6.frozen 3
  have z4 := q6.frozen 4
  have z5 := q6.frozen 5
  have z6 := q6.frozen 6
  have z7 := q6.frozen 7
  have z8 := q6.frozen 8
  have y0 := q7.cell 0
  have f0 := q7.frozen 0
  have l6 := q6.lt
  have l7 := q7.lt
  have ne := q6.ne q7 (by decide)
  simp only [List.getElem?_toArray, List.getElem?_cons_zero] at y0
  have HP : Hid (P ⟨ek, eth, ee, ⟨evt, evn, evs⟩, ⟨ewt, ewn, ews⟩⟩ d w1) := hP
  have H6 : Hid (Has w1 b6 (evCells ev0) 190) := q6
  have H7 : Hid (Has w1 b7 #[.bool false] 4) := q7
  dsimp only [ev0, nilV] at x0 x1 x2 x3 x4 x5 x6 x7 x8
  clear hP q6 q7 hU
  go_wp2_with fail
  repeat go_big_quiet_step (fail)
  refine wpQuiet_nil ?_
  go_wp2_with fail
  exact ⟨rfl, _, rfl, _, by simp [results, Tryz.results212], rfl, rfl, w1, _, d, H6.out, H7.out, HP.out, rfl⟩
end
end Go.Proofs.Qxb6500574aGreatDoor
