/-
  THE MODEL between two calls. No walk.
-/
import Derived.Test.Qxb6500574aGreatDoorVRes
import Derived.Test.Qxb6500574aGreatDoorVPlain
import Derived.Test.Qxb6500574aGreatDoorZB1
namespace Go.Proofs.Qxb6500574aGreatDoor
open Go Go.RowKit
set_option linter.unusedVariables false
set_option linter.unusedSimpArgs false
/-- the model between two calls -/
structure CpM (w : World) (bm bn bt bs : Nat) : Prop where
  c : Has w bm #[.pointer (some ⟨bn, 0, none⟩), .pointer (some ⟨bt, 0, none⟩), .pointer (some ⟨bs, 0, none⟩)] 124
  t : ∃ s, Has w bt #[.pointer (some ⟨bn, 0, none⟩), s] 165
  s : Has w bs #[.pointer (some ⟨bn, 0, none⟩)] 167
  n1 : bm ≠ bt
  n2 : bs ≠ bt
/-- how the model's Run ends -/
def RnF (w : World) (bm bn bt bs : Nat) (an : AnD) (e : Ending) (w' : World) : Prop :=
  e = .returned (.agg #[.int .i64 an.e, .int .i64 an.n, .int .i64 an.m, sv an.s, sv an.t]) ∧ Fr (fun k => k = bt) w w' ∧ CpM w' bm bn bt bs
theorem CpM.fr {w w' : World} {bm bn bt bs : Nat} (h : CpM w bm bn bt bs) (f : Fr (fun k => k = bt) w w') (ht : ∃ s, Has w' bt #[.pointer (some ⟨bn, 0, none⟩), s] 165) : CpM w' bm bn bt bs := ⟨h.c.fr f h.n1, ht, h.s.fr f h.n2, h.n1, h.n2⟩
theorem CpM.fresh {w w' : World} {bm bn bt bs : Nat} (h : CpM w bm bn bt bs) (f : Fr (fun _ => False) w w') : CpM w' bm bn bt bs := by
  obtain ⟨s, ht⟩ := h.t
  exact h.fr (f.weaken (fun _ _ x => x.elim)) ⟨s, ht.fr f (fun x => x)⟩
section
variable {w : World}
set_option maxRecDepth 100000
set_option maxHeartbeats 1000000
theorem mnew_any : Calls Tryz.prog 28 #[] w fun e w' => ∃ bm bn bt bs, e = .returned (.pointer (some ⟨bm, 0, none⟩)) ∧ Fr (fun _ => False) w w' ∧ CpM w' bm bn bt bs ∧ w.heap.size ≤ bm ∧ w.heap.size ≤ bt ∧ w.heap.size ≤ bs := by
  have N1 : ∀ W2, Calls Tryz.prog 45 #[] W2 fun e w' => e = .returned (.pointer (some ⟨W2.heap.size, 0, none⟩)) ∧ w' = W2.alloc (.cells #[] 162) := fun W2 => by
    go_enter Tryz.func45, Tryz.ntmps45
    go_wp2
    go_ret
    exact ⟨rfl, rfl⟩
  have N2 : ∀ W2 b, Calls Tryz.prog 46 #[.pointer (some ⟨b, 0, none⟩)] W2 fun e w' => e = .returned (.pointer (some ⟨W2.heap.size, 0, none⟩)) ∧ w' = W2.alloc (.cells #[.pointer (some ⟨b, 0, none⟩), .slice none 0 0] 165) := fun W2 b => by
    go_enter Tryz.func46, Tryz.ntmps46
    go_wp2
    go_ret
    exact ⟨rfl, rfl⟩
  have N3 : ∀ W2 b, Calls Tryz.prog 47 #[.pointer (some ⟨b, 0, none⟩)] W2 fun e w' => e = .returned (.pointer (some ⟨W2.heap.size, 0, none⟩)) ∧ w' = W2.alloc (.cells #[.pointer (some ⟨b, 0, none⟩)] 167) := fun W2 b => by
    go_enter Tryz.func47, Tryz.ntmps47
    go_wp2
    go_ret
    exact ⟨rfl, rfl⟩
  have H1 := hid N1
  have H2 := hid N2
  have H3 := hid N3
  clear N1 N2 N3
  go_enter Tryz.func28, Tryz.ntmps28
  go_wp2_with fail
  refine (H1.out _).mono ?_
  rintro e1 w1 ⟨rfl, hw1⟩
  have f1 : Fr (fun _ => False) w w1 := by rw [hw1]; exact (Fr.refl _ _).alloc _
  have S1 : Hid (w1.heap.size = w.heap.size + 1) := by show _ = _; rw [hw1]; simp
  clear hw1
  go_wp2_with fail
  refine (H2.out _ _).mono ?_
  rintro e2 w2 ⟨rfl, hw2⟩
  have f2 : Fr (fun _ => False) w1 w2 := by rw [hw2]; exact (Fr.refl _ _).alloc _
  have S2 : Hid (w2.heap.size = w1.heap.size + 1) := by show _ = _; rw [hw2]; simp
  have h2 : Has w2 w1.heap.size #[.pointer (some ⟨w.heap.size, 0, none⟩), .slice none 0 0] 165 := by rw [hw2]; exact Has.new _ _ _
  clear hw2
  go_wp2_with fail
  refine (H3.out _ _).mono ?_
  rintro e3 w3 ⟨rfl, hw3⟩
  have f3 : Fr (fun _ => False) w2 w3 := by rw [hw3]; exact (Fr.refl _ _).alloc _
  have S3 : Hid (w3.heap.size = w2.heap.size + 1) := by show _ = _; rw [hw3]; simp
  have h3 : Has w3 w2.heap.size #[.pointer (some ⟨w.heap.size, 0, none⟩)] 167 := by rw [hw3]; exact Has.new _ _ _
  clear hw3
  have H2' := hid h2
  have H3' := hid h3
  have HF : Hid (Fr (fun _ => False) w w3) := (f1.trans f2 (fun _ _ x => x)).trans f3 (fun _ _ x => x)
  have HF3 := hid f3
  clear h2 h3 f1 f2 f3
  go_wp2_with fail
  go_ret
  have s1 := S1.out
  have s2 := S2.out
  have s3 := S3.out
  refine ⟨w3.heap.size, w.heap.size, w1.heap.size, w2.heap.size, rfl, HF.out.alloc _, ⟨Has.new _ _ _, ⟨_, (H2'.out.fr HF3.out (fun x => x)).alloc _⟩, H3'.out.alloc _, by omega, by omega⟩, by omega, by omega, by omega⟩
theorem mshow_any (b : Nat) : Calls Tryz.prog 49 #[.pointer (some ⟨b, 0, none⟩)] w fun e w' => e = .returned (sv []) ∧ w' = w := by
  go_enter Tryz.func49, Tryz.ntmps49
  go_wp2
  go_ret
  exact ⟨rfl, rfl⟩
theorem mcheck_any (b : Nat) : Calls Tryz.prog 53 #[.pointer (some ⟨b, 0, none⟩)] w fun e w' => e = .returned (.bool true) ∧ w' = w := by
  go_enter Tryz.func53, Tryz.ntmps53
  go_wp2
  go_ret
  exact ⟨rfl, rfl⟩
theorem mleft_any (b : Nat) : Calls Tryz.prog 52 #[.pointer (some ⟨b, 0, none⟩)] w fun e w' => e = .returned (.int .i64 0) ∧ w' = w := by
  go_enter Tryz.func52, Tryz.ntmps52
  go_wp2
  go_ret
  exact ⟨rfl, rfl⟩
theorem cshow_any (b : Nat) : Calls Tryz.prog 48 #[.pointer (some ⟨b, 0, none⟩)] w fun e w' => e = .returned (sv []) ∧ w' = w := by
  go_enter Tryz.func48, Tryz.ntmps48
  go_wp2
  go_ret
  exact ⟨rfl, rfl⟩
theorem lb2i_any (b : Bool) : Calls Tryz.prog 50 #[.bool b] w fun e w' => e = .returned (.int .i64 (if b then 1 else 0)) ∧ w' = w := by
  cases b with
  | true =>
    go_enter Tryz.func50, Tryz.ntmps50
    go_wp2
    go_ret
    exact ⟨rfl, rfl⟩
  | false =>
    go_enter Tryz.func50, Tryz.ntmps50
    go_wp2
    go_ret
    exact ⟨rfl, rfl⟩
end
end Go.Proofs.Qxb6500574aGreatDoor
