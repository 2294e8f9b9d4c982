import Derived.Test.Qxb6500575aGreatDoorMapOn
import Derived.Test.Qxb6500575aGreatDoorSel
import Derived.Test.Qxb6500575aGreatDoorLocal
import Derived.Test.Qxb6500575aGreatDoorSigs
import Derived.Test.Qxb6500575aGreatDoorTable
import Derived.Test.Qxb6500575aGreatDoorLeave
namespace Go.Proofs.Qxb6500575aGreatDoor
open Go Go.RowKit
set_option linter.unusedVariables false
set_option linter.unusedSimpArgs false

set_option maxHeartbeats 1000000 in
theorem on0_any (B bk : Nat) (fx : CkF) (L : CkL) (s : Ck) (op imm : Int) (tab : List UInt8) (bA : Nat) (w : World) (hA : Has w bA #[.pointer (some ⟨bk, 0, none⟩)] 189) (h : CkRep B w bk fx L s) {b : Blk} {r : List Blk} (ht : s.Top b r) (hr : r.length ≤ 900) (hs : s.st.length ≤ 900) :
    Calls Tryz.prog 111 #[.agg #[.int .i64 op, .int .i64 imm, sv tab], .pointer (some ⟨bA, 0, none⟩)] w fun e w' => e = .returned (.int .i64 (s.leaves []).2) ∧ CkRep B w' bk fx L (s.leaves []).1 ∧ CkStep w w' bk L L := by
  have c0 := hA.cell 0
  simp at c0
  have l0 := hA.lt
  have HC : Hid (∀ w', CkRep B w' bk fx L s → _) := fun w' h' => leaves_any B bk fx L s [] w' h' ht (by omega) (by omega) (by simp)
  have H : Hid (CkRep B w bk fx L s) := h
  clear h ht hA
  go_enter Tryz.func111, Tryz.ntmps111
  go_wp2_with fail
  refine (HC.out _ (H.out.alloc _)).mono ?_
  rintro e w1 ⟨rfl, g1, g2⟩
  have FIN : Hid (_ ∧ _) := And.intro g1 (((CkStep.refl w bk L).alloc _).trans g2)
  clear g1 g2 HC H
  go_wp2
  go_ret
  exact ⟨rfl, FIN.out⟩
set_option maxHeartbeats 1000000 in
theorem on11_any (B bk : Nat) (fx : CkF) (L : CkL) (s : Ck) (op imm : Int) (tab : List UInt8) (bA : Nat) (w : World) (hA : Has w bA #[.pointer (some ⟨bk, 0, none⟩)] 189) (h : CkRep B w bk fx L s) {b : Blk} {r : List Blk} (ht : s.Top b r) (hr : r.length ≤ 900) (hs : s.st.length ≤ 900) :
    Calls Tryz.prog 114 #[.agg #[.int .i64 op, .int .i64 imm, sv tab], .pointer (some ⟨bA, 0, none⟩)] w fun e w' => e = .returned (.int .i64 (s.pops [0]).2) ∧ CkRep B w' bk fx L (s.pops [0]).1 ∧ CkStep w w' bk L L := by
  have c0 := hA.cell 0
  simp at c0
  have l0 := hA.lt
  have HC : Hid (∀ w', CkRep B w' bk fx L s → _) := fun w' h' => pops_any B bk fx L s [0] w' h' ht (by omega) (by omega) (by simp)
  have H : Hid (CkRep B w bk fx L s) := h
  clear h ht hA
  go_enter Tryz.func114, Tryz.ntmps114
  go_wp2_with fail
  refine (HC.out _ (H.out.alloc _)).mono ?_
  rintro e w1 ⟨rfl, g1, g2⟩
  have FIN : Hid (_ ∧ _) := And.intro g1 (((CkStep.refl w bk L).alloc _).trans g2)
  clear g1 g2 HC H
  go_wp2
  go_ret
  exact ⟨rfl, FIN.out⟩
set_option maxHeartbeats 1000000 in
theorem on9_any (B bk : Nat) (fx : CkF) (L : CkL) (s : Ck) (op imm : Int) (tab : List UInt8) (bA b3 g f : Nat) (res : List UInt8) (w : World) (hA : Has w bA #[.pointer (some ⟨bk, 0, none⟩)] 189) (h3 : Has w b3 #[.pointer (some ⟨g, f, none⟩)] 102) (hg : g < w.heap.size) (hres : w.cell? ⟨g, f + 1, none⟩ = some (sv res)) (hrl : res.length ≤ 900) (h : CkRep B w bk fx L s) {b : Blk} {r : List Blk} (ht : s.Top b r) (hr : r.length ≤ 900) (hs : s.st.length ≤ 900) :
    Calls Tryz.prog 113 #[.agg #[.int .i64 op, .int .i64 imm, sv tab], .pointer (some ⟨bA, 0, none⟩), .pointer (some ⟨b3, 0, none⟩)] w fun e w' => e = .returned (.int .i64 (s.leaves res).2) ∧ CkRep B w' bk fx L (s.leaves res).1 ∧ CkStep w w' bk L L := by
  have c0 := hA.cell 0
  have c3 := h3.cell 0
  simp at c0 c3
  have l0 := hA.lt
  have l3 := h3.lt
  have l01 : bA < w.heap.size + 1 := by omega
  have l31 : b3 < w.heap.size + 1 := by omega
  have lg1 : g < w.heap.size + 1 := by omega
  have HC : Hid (∀ w', CkRep B w' bk fx L s → _) := fun w' h' => leaves_any B bk fx L s res w' h' ht (by omega) (by omega) (by omega)
  have H : Hid (CkRep B w bk fx L s) := h
  clear h ht hA h3
  go_enter Tryz.func113, Tryz.ntmps113
  go_wp2
  refine wp_region_tail 5 (by kernel_rfl) (by kernel_rfl) (fun _ _ _ _ _ h => h) ?_
  simp only [List.take_succ_cons, List.take_zero, List.drop_succ_cons, List.drop_zero]
  repeat go_big_quiet_step (fail)
  refine wpQuiet_nil ?_
  go_wp2_with fail
  refine (HC.out _ ((H.out.alloc _).drew)).mono ?_
  rintro e w1 ⟨rfl, g1, g2⟩
  have FIN : Hid (_ ∧ _) := And.intro g1 ((((CkStep.refl w bk L).alloc _).drew).trans g2)
  clear g1 g2 HC H
  go_wp2
  go_ret
  exact ⟨rfl, FIN.out⟩
end Go.Proofs.Qxb6500575aGreatDoor
