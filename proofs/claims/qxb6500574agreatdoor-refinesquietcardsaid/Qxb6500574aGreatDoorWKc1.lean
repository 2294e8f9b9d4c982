/-
  THE WALK of comp: closed.
-/
import Derived.Test.Qxb6500574aGreatDoorWCm1
import Derived.Test.Qxb6500574aGreatDoorWFt2
import Derived.Test.Qxb6500574aGreatDoorReg9
import Derived.Test.Qxb6500574aGreatDoorRegC
import Derived.LaidEqlPtr
namespace Go.Proofs.Qxb6500574aGreatDoor
open Go Go.RowKit
set_option linter.unusedVariables false
set_option linter.unusedSimpArgs false
open Go.Lib
section
set_option maxRecDepth 100000
set_option maxHeartbeats 1000000
variable {w : World} {o : Nat → Nat} {C : CC} {N : List Nd} {c : CmD} {x : Nat}
theorem closed_any (R : CRep w o C N c) (hx : x < c.np) {op y : Nat} (hi : FtD c x (op, y)) (h16 : y < 65536) (hop : op < 256) :
    Calls Tryz.prog 37 #[fptr C.gF x, .agg #[.int .u8 op, .int .u16 y], .int .i64 x] w fun e w' => e = .returned (.bool true) ∧ Fr (fun _ => False) w w' := by
  obtain ⟨xs, L, F⟩ := R.fn hx
  have c0 := F.cell 0 (by omega)
  have c4 := F.cell 4 (by omega)
  have c9 := F.cell 9 (by omega)
  have fl := F.lt
  have hc := F.ok.1
  have b3 := R.blk.has.cell 3
  have bl := R.blk.has.lt
  have h13 := R.np
  simp only [fnV, comC, hc, Option.map_some, Nat.add_zero, List.getElem?_toArray, List.getElem?_cons_succ, List.getElem?_cons_zero, Sl.v] at c0 c4 c9 b3
  have HF : Hid (FnAt w o C c x xs L) := F
  obtain ⟨v1, HV1⟩ : ∃ v, Hid ((c.fn x).nslots = v) := ⟨_, rfl⟩
  obtain ⟨v4, HV4⟩ : ∃ v, Hid ((c.fn x).code.length = v) := ⟨_, rfl⟩
  rw [HV1.out] at c4
  rw [HV4.out] at c9
  clear F hc
  unfold fptr
  unfold FtD at hi
  dsimp only at hi
  by_cases hj : op = 21 ∨ op = 22 ∨ op = 23 ∨ op = 24
  · have hh : (y : Int) < (v4 : Int) := by rw [HV4.out] at hi; omega
    clear hi
    rcases hj with rfl | rfl | rfl | rfl <;>
    · go_enter Tryz.func37, Tryz.ntmps37
      go_wp2_with fail
      refine Go.Proofs.Qxb6500574aGreatDoor.C.wp_region_tail 9 (by kernel_rfl) (by kernel_rfl) (fun _ _ _ _ _ h => h) ?_
      simp only [List.take_succ_cons, List.take_zero, List.drop_succ_cons, List.drop_zero]
      repeat go_big_quiet_step (fail)
      refine wpQuiet_nil ?_
      go_wp2_with fail
      go_ret
      exact ⟨rfl, ((Fr.refl _ _).alloc _).drew⟩
  · by_cases hf : op = 30 ∨ op = 31 ∨ op = 32
    · have hh : (y : Int) + 3 < (v1 : Int) := by rw [HV1.out] at hi; omega
      clear hi
      rcases hf with rfl | rfl | rfl <;>
      · go_enter Tryz.func37, Tryz.ntmps37
        go_wp2_with fail
        refine Go.Proofs.Qxb6500574aGreatDoor.C.wp_region_tail 9 (by kernel_rfl) (by kernel_rfl) (fun _ _ _ _ _ h => h) ?_
        simp only [List.take_succ_cons, List.take_zero, List.drop_succ_cons, List.drop_zero]
        repeat go_big_quiet_step (fail)
        refine wpQuiet_nil ?_
        go_wp2_with fail
        go_ret
        exact ⟨rfl, ((Fr.refl _ _).alloc _).drew⟩
    · by_cases h28 : op = 28
      · subst h28
        have hp : x < y ∧ y < c.np ∧ (c.fn y).parent = some x := by
          rcases hi with h | ⟨h, _⟩ | h | h | h | h | h | h | h | h | h
          · omega
          · omega
          · omega
          · omega
          · omega
          · omega
          · omega
          · omega
          · omega
          · exact h.2
          · omega
        obtain ⟨p1, p2, p3⟩ := hp
        obtain ⟨ly, q1, q2⟩ := HF.out.all y p2
        have d1 := HF.out.rep.cell q1 (j := 1) (by omega)
        simp only [fnV, pptr, fptr, p3, List.getElem?_cons_succ, List.getElem?_cons_zero] at d1
        have hh : (x : Int) < (y : Int) := by omega
        have y13 : y < 13 := by omega
        have hpe : ∀ W, (binOp .eql 94 (.pointer (some ⟨C.gF, x * 11, none⟩)) (.pointer (some ⟨C.gF, x * 11, none⟩))).run Tryz.prog W = .ok (.bool true) W := fun W => run_eql_ptr_same W (te := 102) _ (by kernel_rfl) rfl
        clear hi q1 q2 p1 p2 p3
        go_enter Tryz.func37, Tryz.ntmps37
        go_wp2_with fail
        refine Go.Proofs.Qxb6500574aGreatDoor.C.wp_region_tail 21 (by kernel_rfl) (by kernel_rfl) (fun _ _ _ _ _ h => h) ?_
        simp only [List.take_succ_cons, List.take_zero, List.drop_succ_cons, List.drop_zero]
        repeat go_big_quiet_step (fail)
        refine wpQuiet_nil ?_
        go_wp2_with fail
        go_ret
        exact ⟨rfl, ((Fr.refl _ _).alloc _).drew⟩
      · have n1 : ((op : Int) == 21) = false := by rw [beq_eq_false_iff_ne]; omega
        have n2 : ((op : Int) == 22) = false := by rw [beq_eq_false_iff_ne]; omega
        have n3 : ((op : Int) == 23) = false := by rw [beq_eq_false_iff_ne]; omega
        have n4 : ((op : Int) == 24) = false := by rw [beq_eq_false_iff_ne]; omega
        have n5 : ((op : Int) == 30) = false := by rw [beq_eq_false_iff_ne]; omega
        have n6 : ((op : Int) == 31) = false := by rw [beq_eq_false_iff_ne]; omega
        have n7 : ((op : Int) == 32) = false := by rw [beq_eq_false_iff_ne]; omega
        have n8 : ((op : Int) == 28) = false := by rw [beq_eq_false_iff_ne]; omega
        clear hi hj hf h28
        go_enter Tryz.func37, Tryz.ntmps37
        go_wp2_with fail
        go_ret
        exact ⟨rfl, (Fr.refl _ _).alloc _⟩
end
end Go.Proofs.Qxb6500574aGreatDoor
