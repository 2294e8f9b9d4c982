/-
  THE WALKS of preplaw.Four and prep.Prog.Show.
-/
import Derived.Test.Qxb6500576aGreatDoorProgOps
import Derived.Test.Qxb6500576aGreatDoorNum
namespace Go.Proofs.Qxb6500576aGreatDoor
open Go Go.RowKit
set_option linter.unusedVariables false
set_option linter.unusedSimpArgs false

def flatT (c : Flat) : List UInt8 := numT c.op ++ (numT c.imm ++ (numT c.keep ++ numT c.cut))
theorem flatT_len (c : Flat) : (flatT c).length ≤ 88 := by
  have h1 := numT_len c.op
  have h2 := numT_len c.imm
  have h3 := numT_len c.keep
  have h4 := numT_len c.cut
  unfold flatT
  simp; omega

/-- Num, its text under a name of its own -/
theorem num_named (s : List UInt8) (n : Int) (w : World) (hs : s.length ≤ 1000000) :
    Calls Tryz.prog 37 #[sv s, .int .i64 n] w fun e w' => ∃ t : List UInt8, e = .returned (sv t) ∧ Hid (t = s ++ numT n) ∧ t.length ≤ s.length + 22 ∧ Fr (fun _ => False) w w' :=
  (num_any s n w hs).mono fun e w' h => ⟨s ++ numT n, h.1, rfl, by have := numT_len n; simp; omega, h.2⟩

set_option maxRecDepth 100000 in
set_option maxHeartbeats 2000000 in
theorem four_any (c : Flat) (w : World) :
    Calls Tryz.prog 41 #[c.val] w fun e w' => ∃ t : List UInt8, e = .returned (sv t) ∧ Hid (t = flatT c) ∧ Fr (fun _ => False) w w' := by
  obtain ⟨op, imm, keep, cut⟩ := c
  unfold Flat.val
  simp only
  have k0 : Has (w.alloc (.cells #[.int .i64 op, .int .i64 imm, .int .i64 keep, .int .i64 cut] 97)) w.heap.size _ _ := Has.new w _ _
  have HK : Hid (Has (w.alloc (.cells #[.int .i64 op, .int .i64 imm, .int .i64 keep, .int .i64 cut] 97)) w.heap.size _ _) := k0
  have HF : Hid (Fr (fun _ => False) w (w.alloc (.cells #[.int .i64 op, .int .i64 imm, .int .i64 keep, .int .i64 cut] 97))) := (Fr.refl _ w).alloc _
  have H1 : Hid (Calls _ _ _ _ _) := num_named [] op (w.alloc (.cells #[.int .i64 op, .int .i64 imm, .int .i64 keep, .int .i64 cut] 97)) (by simp)
  clear k0
  go_enter Tryz.func41, Tryz.ntmps41
  go_wp2_with fail
  refine H1.out.mono ?_
  rintro e w1 ⟨t1, rfl, T1, l1, hF1⟩
  simp only [List.length_nil] at l1
  have k1 : Has w1 w.heap.size _ _ := HK.out.fr hF1 (fun h => h)
  have d1 := k1.cell 1
  simp at d1
  have HK1 : Hid (Has w1 w.heap.size _ _) := k1
  have HF1 : Hid (Fr (fun _ => False) w w1) := HF.out.trans hF1 (fun _ _ h => h)
  have H2 : Hid (Calls _ _ _ _ _) := num_named t1 imm w1 (by omega)
  clear hF1 k1 H1 HK HF
  go_wp2_with fail
  refine H2.out.mono ?_
  rintro e w2 ⟨t2, rfl, T2, l2, hF2⟩
  have k2 : Has w2 w.heap.size _ _ := HK1.out.fr hF2 (fun h => h)
  have d2 := k2.cell 2
  simp at d2
  have HK2 : Hid (Has w2 w.heap.size _ _) := k2
  have HF2 : Hid (Fr (fun _ => False) w w2) := HF1.out.trans hF2 (fun _ _ h => h)
  have H3 : Hid (Calls _ _ _ _ _) := num_named t2 keep w2 (by omega)
  clear hF2 k2 H2 HK1 HF1 d1
  go_wp2_with fail
  refine H3.out.mono ?_
  rintro e w3 ⟨t3, rfl, T3, l3, hF3⟩
  have k3 : Has w3 w.heap.size _ _ := HK2.out.fr hF3 (fun h => h)
  have d3 := k3.cell 3
  simp at d3
  have HF3 : Hid (Fr (fun _ => False) w w3) := HF2.out.trans hF3 (fun _ _ h => h)
  have H4 : Hid (Calls _ _ _ _ _) := num_named t3 cut w3 (by omega)
  clear hF3 k3 H3 HK2 HF2 d2
  go_wp2_with fail
  refine H4.out.mono ?_
  rintro e w4 ⟨t4, rfl, T4, l4, hF4⟩
  have HF4 : Hid (Fr (fun _ => False) w w4) := HF3.out.trans hF4 (fun _ _ h => h)
  clear hF4 H4 HF3 d3
  go_wp2
  go_ret
  refine ⟨t4, rfl, ?_, HF4.out⟩
  show t4 = _
  rw [T4.out, T3.out, T2.out, T1.out]
  simp only [flatT, List.nil_append, List.append_assoc]
end Go.Proofs.Qxb6500576aGreatDoor
