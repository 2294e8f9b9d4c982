/-
  THE DEFERRED CLOSURE of run.Call: it empties the machine; a thrown trap becomes the error.
-/
import Derived.Test.Qxb6500575aGreatDoorSAsk
import Derived.Defers
import Derived.Recover
namespace Go.Proofs.Qxb6500575aGreatDoor
open Go Go.RowKit
set_option linter.unusedVariables false
set_option linter.unusedSimpArgs false

set_option maxRecDepth 100000
set_option maxHeartbeats 400000
/-- what the closure leaves of the machine -/
abbrev clear3 (w : World) (bx : Nat) : World := ((w.setCell ⟨bx, 2, none⟩ (.slice none 0 0)).setCell ⟨bx, 3, none⟩ (.slice none 0 0)).setCell ⟨bx, 4, none⟩ (.int .i64 0)
theorem catch_idle (b5 b10 b11 b12 bx : Nat) (w : World) (h5 : w.cell? ⟨b5, 0, none⟩ = some (.pointer (some ⟨bx, 0, none⟩))) (hne : b5 ≠ bx) {a0 a1 a5 : Value} {sa fa : Option Addr} {sl sc fl fc : Nat} {us : Int} (hx : Has w bx #[a0, a1, .slice sa sl sc, .slice fa fl fc, .int .i64 us, a5] 62) :
    CallsD Tryz.prog 61 #[.pointer (some ⟨b5, 0, none⟩), .pointer (some ⟨b10, 0, none⟩), .pointer (some ⟨b11, 0, none⟩), .pointer (some ⟨b12, 0, none⟩)] .returning w fun e u' w' => e = .returned (.tuple #[]) ∧ u' = .returning ∧ w' = clear3 w bx := by
  have c2 := hx.cell 2
  have c3 := hx.cell 3
  have c4 := hx.cell 4
  have f2 := hx.frozen 2
  have f3 := hx.frozen 3
  have f4 := hx.frozen 4
  simp at c2 c3 c4
  refine callsD_of_wpS Tryz.func61 rfl fun c₀ cs hu => ?_
  apply wpS_seq
  refine wpS_of_wp ?_
  simp only [Tryz.ntmps61, List.size_toArray, List.length_cons, List.length_nil, Nat.reduceAdd, Nat.reduceSub, Array.replicate_succ, Array.replicate_zero, List.push_toArray, List.append_toArray, List.nil_append, List.cons_append]
  go_wp2
  simp only [Exit.thenS]
  apply wpS_seq
  refine wpS_of_wp ?_
  go_wp2
  simp only [Exit.thenS]
  apply wpS_seq
  apply wpS_region
  simp [wpOpsS, go_sem, recoverD, hu, Exit.thenS]
  refine wpS_of_wp ?_
  go_wp2
  cases c₀
  simp_all [bodyPostS, results, Tryz.results61]
theorem isTrap (v : Value) (xT : TypeId) (w : World) : (Instr.typeAssert (.iface 147 v) xT 147 true).run Tryz.prog w = .ok (.tuple #[v, .bool true]) w := by kernel_rfl
theorem catch_trap (b5 b10 b11 b12 bx : Nat) (w : World) (t : Int) (h5 : w.cell? ⟨b5, 0, none⟩ = some (.pointer (some ⟨bx, 0, none⟩))) (hne : b5 ≠ bx) {a0 a1 a5 : Value} {sa fa : Option Addr} {sl sc fl fc : Nat} {us : Int} (hx : Has w bx #[a0, a1, .slice sa sl sc, .slice fa fl fc, .int .i64 us, a5] 62)
    {v10 : Option Addr} {n10 c10 : Nat} {v11 : Int} (h10 : Has w b10 #[.slice v10 n10 c10] 37) (h11 : Has w b11 #[.int .i64 v11] 3) (h12 : Has w b12 #[.nilIface] 74) :
    CallsD Tryz.prog 61 #[.pointer (some ⟨b5, 0, none⟩), .pointer (some ⟨b10, 0, none⟩), .pointer (some ⟨b11, 0, none⟩), .pointer (some ⟨b12, 0, none⟩)] (.panicking (trapV t)) w fun e u' w' => e = .returned (.tuple #[]) ∧ u' = .panicking [{ v := .iface 147 (.int .i64 t), recovered := true }] ∧
      w' = (((clear3 w bx).setCell ⟨b10, 0, none⟩ (.slice none 0 0)).setCell ⟨b11, 0, none⟩ (.int .i64 us)).setCell ⟨b12, 0, none⟩ (.iface 40 (.int .i64 t)) := by
  have c2 := hx.cell 2
  have c3 := hx.cell 3
  have c4 := hx.cell 4
  have f2 := hx.frozen 2
  have f3 := hx.frozen 3
  have f4 := hx.frozen 4
  have n1 := hx.ne h10 (by decide)
  have n2 := hx.ne h11 (by decide)
  have n3 := hx.ne h12 (by decide)
  have n4 := h10.ne h11 (by decide)
  have n5 := h10.ne h12 (by decide)
  have n6 := h11.ne h12 (by decide)
  have d10 := h10.cell 0
  have d11 := h11.cell 0
  have d12 := h12.cell 0
  have g10 := h10.frozen 0
  have g11 := h11.frozen 0
  have g12 := h12.frozen 0
  simp at c2 c3 c4 d10 d11 d12
  have a1' := isTrap
  clear hx h10 h11 h12
  refine callsD_of_wpS Tryz.func61 rfl fun c₀ cs hu => ?_
  apply wpS_seq
  refine wpS_of_wp ?_
  simp only [Tryz.ntmps61, List.size_toArray, List.length_cons, List.length_nil, Nat.reduceAdd, Nat.reduceSub, Array.replicate_succ, Array.replicate_zero, List.push_toArray, List.append_toArray, List.nil_append, List.cons_append]
  go_wp2
  simp only [Exit.thenS]
  apply wpS_seq
  refine wpS_of_wp ?_
  go_wp2
  simp only [Exit.thenS]
  apply wpS_seq
  apply wpS_region
  simp [wpOpsS, go_sem, recoverD, hu, Exit.thenS]
  refine wpS_of_wp ?_
  go_wp2
  cases c₀
  simp_all [bodyPostS, results, Tryz.results61]
end Go.Proofs.Qxb6500575aGreatDoor
