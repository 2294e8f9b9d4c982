/-
  THE WALK of machm.Store, exact.
-/
import Derived.Test.Qxb6500575aGreatDoorYLoad
import Derived.Test.Qxb6500575aGreatDoorXStore
namespace Go.Proofs.Qxb6500575aGreatDoor
open Go Go.RowKit
set_option linter.unusedVariables false
set_option linter.unusedSimpArgs false

theorem shr_byte (v : Int) (j : Nat) (hj : j < 8) : v / 2 ^ (8 * j) % 256 = ((UInt8.ofNat (v / 256 ^ j % 256).toNat).toNat : Int) := by
  have e : (UInt8.ofNat (v / 256 ^ j % 256).toNat).toNat = (v / 256 ^ j % 256).toNat := by
    simp only [UInt8.toNat_ofNat']
    omega
  rw [e]
  have h : j = 0 ∨ j = 1 ∨ j = 2 ∨ j = 3 ∨ j = 4 ∨ j = 5 ∨ j = 6 ∨ j = 7 := by omega
  rcases h with rfl | rfl | rfl | rfl | rfl | rfl | rfl | rfl
  all_goals
    simp only [Nat.mul_zero, Int.pow_zero, show (2 : Int) ^ (8 * 1) = 256 from rfl, show (256 : Int) ^ 1 = 256 from rfl, show (2 : Int) ^ (8 * 2) = 65536 from rfl, show (256 : Int) ^ 2 = 65536 from rfl, show (2 : Int) ^ (8 * 3) = 16777216 from rfl, show (256 : Int) ^ 3 = 16777216 from rfl, show (2 : Int) ^ (8 * 4) = 4294967296 from rfl, show (256 : Int) ^ 4 = 4294967296 from rfl, show (2 : Int) ^ (8 * 5) = 1099511627776 from rfl, show (256 : Int) ^ 5 = 1099511627776 from rfl, show (2 : Int) ^ (8 * 6) = 281474976710656 from rfl, show (256 : Int) ^ 6 = 281474976710656 from rfl, show (2 : Int) ^ (8 * 7) = 72057594037927936 from rfl, show (256 : Int) ^ 7 = 72057594037927936 from rfl]
    omega
theorem put_next (mem : List UInt8) (ea : Nat) (v : Int) (j : Nat) (h : ea + j < mem.length) : (putB mem ea (storeB v j)).set (ea + j) (UInt8.ofNat (v / 256 ^ j % 256).toNat) = putB mem ea (storeB v (j + 1)) := by
  unfold putB
  rw [storeB_len, storeB_len, storeB_succ]
  have l1 : (mem.take ea ++ storeB v j).length = ea + j := by simp [storeB_len]; omega
  rw [List.set_append_right _ _ (by omega), l1, Nat.sub_self, List.drop_eq_getElem_cons h, List.set_cons_zero]
  simp [Nat.add_assoc]
section
variable {w : World} {bm : Nat} {L : ML} {mem : List UInt8} {max : Nat}
set_option maxRecDepth 100000
set_option maxHeartbeats 1000000
theorem ystore_any (h : MKRep w bm L mem max) (op a off v : Int) (h1 : 25 ≤ op) (h2 : op ≤ 28) :
    Calls Tryz.prog 151 #[.pointer (some ⟨bm, 0, none⟩), .int .i64 op, .int .i64 a, .int .i64 off, .int .i64 v] w fun e w' => e = .returned (.int .i64 (storeP mem op a off v).2) ∧ MKRep w' bm L (storeP mem op a off v).1 max ∧ MKStep w w' bm L L := by
  obtain ⟨r, HR⟩ : ∃ r, Hid (r = storeP mem op a off v) := ⟨_, rfl⟩
  rw [← HR.out]
  obtain ⟨r1, r2⟩ := r
  have HW : Hid (∀ w, Calls _ _ _ w _) := mwidth_any op (by omega) (by omega)
  have HP : Hid (Calls _ _ _ _ _) := mplace_any h a off (width op) (width_le op).2
  have H : Hid (MKRep w bm L mem max) := h
  have hml : mem.length ≤ 32 := by have := h.le; have := h.max; omega
  obtain ⟨wd, HWD⟩ : ∃ wd, Hid (width op = wd) := ⟨_, rfl⟩
  obtain ⟨hw1, hw8⟩ := width_le op
  rw [HWD.out] at HW HP hw1 hw8
  obtain ⟨pl, HPL⟩ : ∃ pl, Hid (placeP mem.length a off wd = pl) := ⟨_, rfl⟩
  rw [HPL.out] at HP
  have hne0 : ((wd : Int) == 0) = false := beq_eq_false_iff_ne.2 (by omega)
  have hlt25 : decide (op < 25) = false := by simp; omega
  clear h
  go_enter Tryz.func151, Tryz.ntmps151
  go_wp2_with fail
  refine (HW.out _).mono ?_
  rintro e w1 ⟨rfl, rfl⟩
  clear HW
  cases pl with
  | none =>
    have hr := storeP_none (op := op) (v := v) (by rw [HWD.out]; exact HPL.out)
    rw [← HR.out] at hr
    simp only [Prod.mk.injEq] at hr
    obtain ⟨rfl, rfl⟩ := hr
    simp only [placeV] at HP
    go_wp2_with fail
    refine HP.out.mono ?_
    rintro e w2 ⟨rfl, hw⟩
    obtain rfl := hw.symm
    go_wp2
    go_ret
    exact ⟨rfl, H.out, MKStep.refl _ _ _⟩
  | some ea =>
    have hr := storeP_some (op := op) (v := v) (by rw [HWD.out]; exact HPL.out)
    rw [← HR.out, HWD.out] at hr
    have hin := (placeP_le HPL.out).1
    simp only [placeV] at HP
    have HRV : Hid ((r1, r2) = _) := hr
    clear hr HR HPL
    have hea : ea ≤ 32 := by omega
    go_wp2_with fail
    refine HP.out.mono ?_
    rintro e w2 ⟨rfl, hw⟩
    obtain rfl := hw.symm
    clear HP
    go_wp2
    go_loopw [13] (fun t wr => ∃ j : Nat, j ≤ wd ∧ t = .int .i64 j ∧ Hid (MKRep wr bm L (putB mem ea (storeB v j)) max) ∧ Hid (MKStep w1 wr bm L L)) (fun t _ => wd - (intOf t).toNat)
    case atStart => exact ⟨0, Nat.zero_le _, rfl, by show MKRep _ _ _ _ _; simpa [putB, storeB] using H.out, MKStep.refl _ _ _⟩
    case round =>
      obtain ⟨j, hj, rfl, HM, HS⟩ := hrel
      by_cases hlt : j < wd
      · have hl2 : (putB mem ea (storeB v j)).length = mem.length := putB_len _ _ _ (by rw [storeB_len]; omega)
        obtain ⟨b, g, gb, ga, gc, gf, gl, gcap, gne⟩ := HM.out.at_ (i := ea + j) (by omega)
        have c0 := HM.out.here.cell 0
        simp at c0
        rw [ga, hl2] at c0
        rw [hl2] at gcap
        have gfj := gf (ea + j)
        have hidx : (ea : Int) + j < mem.length := by omega
        have HB : Hid (v / 2 ^ (8 * j) % 256 = _) := shr_byte v j (by omega)
        have HPN : Hid (_ = putB mem ea (storeB v (j + 1))) := put_next mem ea v j (by omega)
        have HGA : Hid (L.ma = some ⟨g, 0, none⟩) := ga
        clear gb ga gf hl2
        go_wp2
        refine C.wp_region_tail 12 (by kernel_rfl) (by kernel_rfl) (fun _ _ _ _ _ h => h) ?_
        simp only [List.take_succ_cons, List.take_zero, List.drop_succ_cons, List.drop_zero]
        repeat go_big_quiet_step (fail)
        refine wpQuiet_nil ?_
        go_wp2
        go_roundw
        case rel =>
          refine ⟨j + 1, by omega, by go_num, ?_, ?_⟩
          · rw [HB.out, ← HPN.out]
            exact ((HM.out.put HGA.out (ea + j) _).1).fresh ((Fr.refl _ _).drew)
          · rw [HB.out]
            exact (HS.out.trans (HM.out.put HGA.out (ea + j) _).2).trans (MKStep.fresh ((Fr.refl _ _).drew))
        case measure => simp [intOf]; omega
      · obtain rfl : j = wd := by omega
        have hrv := HRV.out
        simp only [Prod.mk.injEq] at hrv
        obtain ⟨rfl, rfl⟩ := hrv
        go_wp2
        go_ret
        exact ⟨rfl, HM.out, HS.out⟩
end
end Go.Proofs.Qxb6500575aGreatDoor
