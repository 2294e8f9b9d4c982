/-
  THE WALKS of numm: Arith.
-/
import Derived.Test.Qxb6500574aGreatDoorZA7
import Derived.Test.Qxb6500574aGreatDoorVUtoa
namespace Go.Proofs.Qxb6500574aGreatDoor
open Go Go.RowKit
set_option linter.unusedVariables false
set_option linter.unusedSimpArgs false
theorem divM_u {a b : Nat} (ha : u64 a) (hb : u64 b) : u64 (divM a b) := by rw [← div_ok ha hb]; exact (arith_ok 4 a b).1
theorem mulM_u {a b : Nat} (ha : u64 a) (hb : u64 b) : u64 (mulM a b) := by rw [← mul_ok ha hb]; exact (arith_ok 3 a b).1
theorem idivM_u {a b : Nat} (ha : u64 a) (hb : u64 b) : u64 (floorM (divM a b)) := by rw [← idiv_ok ha hb]; exact (arith_ok 5 a b).1
section
variable {w : World}
set_option maxRecDepth 100000
set_option maxHeartbeats 4000000
theorem arith_m {bn op : Nat} {a c : Nat} (ho : 1 ≤ op) (ho6 : op ≤ 6) (h : u64 a) (h2 : u64 c) : Calls Tryz.prog 123 #[.pointer (some ⟨bn, 0, none⟩), .int .i64 op, .int .u64 a, .int .u64 c] w fun e w' => e = .returned (.int .u64 (arithN op a c)) ∧ w' = w := by
  have ho : op = 1 ∨ op = 2 ∨ op = 3 ∨ op = 4 ∨ op = 5 ∨ op = 6 := by omega
  have fl := bt_flip h2
  rcases ho with ho | ho | ho | ho | ho | ho
  · subst ho
    have e : arithN ((1 : Nat) : Int) a c = addM a c := add_ok h h2
    rw [e]
    go_enter Tryz.func123, Tryz.ntmps123
    go_wp2_with fail
    refine (add_m h h2).mono ?_
    rintro e w' ⟨rfl, hw⟩
    rw [hw]
    go_wp2_with fail
    go_ret
    exact ⟨rfl, rfl⟩
  · subst ho
    have e : arithN ((2 : Nat) : Int) a c = addM a (flipM c) := sub_ok h h2
    rw [e]
    go_enter Tryz.func123, Tryz.ntmps123
    go_wp2_with fail
    refine (add_m h (flip_u h2)).mono ?_
    rintro e w' ⟨rfl, hw⟩
    rw [hw]
    go_wp2_with fail
    go_ret
    exact ⟨rfl, rfl⟩
  · subst ho
    have e : arithN ((3 : Nat) : Int) a c = mulM a c := mul_ok h h2
    rw [e]
    go_enter Tryz.func123, Tryz.ntmps123
    go_wp2_with fail
    refine (mul_m h h2).mono ?_
    rintro e w' ⟨rfl, hw⟩
    rw [hw]
    go_wp2_with fail
    go_ret
    exact ⟨rfl, rfl⟩
  · subst ho
    have e : arithN ((4 : Nat) : Int) a c = divM a c := div_ok h h2
    rw [e]
    go_enter Tryz.func123, Tryz.ntmps123
    go_wp2_with fail
    refine (div_m h h2).mono ?_
    rintro e w' ⟨rfl, hw⟩
    rw [hw]
    go_wp2_with fail
    go_ret
    exact ⟨rfl, rfl⟩
  · subst ho
    have e : arithN ((5 : Nat) : Int) a c = floorM (divM a c) := idiv_ok h h2
    rw [e]
    go_enter Tryz.func123, Tryz.ntmps123
    go_wp2_with fail
    refine (div_m h h2).mono ?_
    rintro e w' ⟨rfl, hw⟩
    rw [hw]
    go_wp2_with fail
    refine (floor_m (divM_u h h2)).mono ?_
    rintro e w' ⟨rfl, hw⟩
    rw [hw]
    go_wp2_with fail
    go_ret
    exact ⟨rfl, rfl⟩
  · subst ho
    have e : arithN ((6 : Nat) : Int) a c = addM a (flipM (mulM (floorM (divM a c)) c)) := mod_ok h h2
    rw [e]
    have fl2 := bt_flip (mulM_u (idivM_u h h2) h2)
    go_enter Tryz.func123, Tryz.ntmps123
    go_wp2_with fail
    refine (div_m h h2).mono ?_
    rintro e w' ⟨rfl, hw⟩
    rw [hw]
    go_wp2_with fail
    refine (floor_m (divM_u h h2)).mono ?_
    rintro e w' ⟨rfl, hw⟩
    rw [hw]
    go_wp2_with fail
    refine (mul_m (idivM_u h h2) h2).mono ?_
    rintro e w' ⟨rfl, hw⟩
    rw [hw]
    go_wp2_with fail
    refine (add_m h (flip_u (mulM_u (idivM_u h h2) h2))).mono ?_
    rintro e w' ⟨rfl, hw⟩
    rw [hw]
    go_wp2_with fail
    go_ret
    exact ⟨rfl, rfl⟩
theorem itoa_all {i : Int} (h1 : -9007199254740992 ≤ i) (h2 : i ≤ 9007199254740992) : Calls Tryz.prog 43 #[.int .i64 i] w fun e w' => e = .returned (sv (itoaN i)) ∧ Fr (fun _ => False) w w' := by
  by_cases hi : i < 0
  · obtain ⟨n, hn⟩ : ∃ n : Nat, -i = (n : Int) := ⟨(-i).toNat, by omega⟩
    have e0 : itoaN i = [45] ++ utoaN n := by unfold itoaN; rw [if_pos hi, show i.natAbs = n by omega]
    obtain ⟨t, HT⟩ : ∃ t, Hid (utoaN n = t) := ⟨_, rfl⟩
    have nl : n ≤ 9007199254740992 := by omega
    have HU : Hid (Calls Tryz.prog 44 #[.int .u64 n] w fun e w' => e = .returned (sv (utoaN n)) ∧ Fr (fun _ => False) w w') := utoa_any n (by omega)
    have tl : t.length ≤ 20 := by rw [← HT.out]; exact utoa_len n
    rw [HT.out] at e0 HU
    rw [e0]
    clear e0
    go_enter Tryz.func43, Tryz.ntmps43
    go_wp2_with fail
    refine HU.out.mono ?_
    rintro e w' ⟨rfl, hf⟩
    have HF : Hid (Fr (fun _ => False) w w') := hf
    clear hf
    go_wp2_with fail
    go_ret
    exact ⟨rfl, HF.out⟩
  · obtain ⟨n, rfl⟩ : ∃ n : Nat, i = (n : Int) := ⟨i.toNat, by omega⟩
    exact itoa_any n (by omega)
end
end Go.Proofs.Qxb6500574aGreatDoor
