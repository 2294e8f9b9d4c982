/-
  THE WALK of machm.Load, exact.
-/
import Derived.Test.Qxb6500575aGreatDoorYMem
namespace Go.Proofs.Qxb6500575aGreatDoor
open Go Go.RowKit
set_option linter.unusedVariables false
set_option linter.unusedSimpArgs false

theorem or_i64 (x b : Nat) (hx : x < 72057594037927936) (hb : b < 256) : bits BinOp.or IntKind.i64 (wrap64 ((x : Int) * 256)) (b : Int) = wrap64 ((x : Int) * 256 + b) := by
  show IntKind.i64.wrap ((BitVec.ofInt 64 (wrap64 ((x : Int) * 256)) ||| BitVec.ofInt 64 (b : Int)).toNat : Int) = _
  have e1 : (wrap64 ((x : Int) * 256) % 18446744073709551616).toNat = x * 256 := by unfold wrap64; omega
  have e2 : ((b : Int) % 18446744073709551616).toNat = b := by omega
  rw [BitVec.toNat_or, ofInt64, ofInt64, e1, e2, nat_join 8 (x * 256) b (by omega) (by omega), IntKind.wrap_i64]
  unfold wrap64
  omega
theorem leN_drop {bs : List UInt8} {j : Nat} {b : UInt8} (hj : bs[j]? = some b) : leN (bs.drop j) = b.toNat + 256 * leN (bs.drop (j + 1)) := by
  obtain ⟨h1, h2⟩ := List.getElem?_eq_some_iff.1 hj
  rw [List.drop_eq_getElem_cons h1, h2]
  rfl
theorem or_step {bs : List UInt8} {j : Nat} {b : UInt8} (hl : bs.length ≤ 8) (hj : bs[j]? = some b) : bits BinOp.or IntKind.i64 (wrap64 (wrap64 (leN (bs.drop (j + 1))) * 256)) (b.toNat : Int) = wrap64 (leN (bs.drop j)) := by
  have h1 := (List.getElem?_eq_some_iff.1 hj).1
  have h2 := leN_lt (bs.drop (j + 1))
  have h3 : 256 ^ (bs.drop (j + 1)).length ≤ 256 ^ 7 := Nat.pow_le_pow_right (by omega) (by simp; omega)
  have h4 := b.toNat_lt
  rw [leN_drop hj]
  generalize leN (bs.drop (j + 1)) = x at *
  have hx : x < 72057594037927936 := by omega
  have e : wrap64 (x : Int) = x := by unfold wrap64; omega
  rw [e, or_i64 x _ hx (by omega)]
  congr 1
  omega
section
variable {w : World} {bm : Nat} {L : ML} {mem : List UInt8} {max : Nat}
set_option maxRecDepth 100000
set_option maxHeartbeats 1000000
theorem yload_any (h : MKRep w bm L mem max) (op a off : Int) (h1 : 19 ≤ op) (h2 : op ≤ 24) :
    Calls Tryz.prog 150 #[.pointer (some ⟨bm, 0, none⟩), .int .i64 op, .int .i64 a, .int .i64 off] w fun e w' => e = .returned (.tuple #[.int .i64 (loadP mem op a off).1, .int .i64 (loadP mem op a off).2]) ∧ w' = w := by
  obtain ⟨r, HR⟩ : ∃ r, Hid (r = loadP mem op a off) := ⟨_, rfl⟩
  rw [← HR.out]
  obtain ⟨r1, r2⟩ := r
  have HW : Hid (∀ w, Calls _ _ _ w _) := mwidth_any op (by omega) (by omega)
  have HP : Hid (Calls _ _ _ _ _) := mplace_any h a off (width op) (width_le op).2
  have H : Hid (MKRep w bm L mem max) := h
  have hml : mem.length ≤ 32 := by have := h.le; have := h.max; omega
  have c0 := h.here.cell 0
  simp at c0
  obtain ⟨wd, HWD⟩ : ∃ wd, Hid (width op = wd) := ⟨_, rfl⟩
  obtain ⟨hw1, hw8⟩ := width_le op
  rw [HWD.out] at HW HP hw1 hw8
  obtain ⟨pl, HPL⟩ : ∃ pl, Hid (placeP mem.length a off wd = pl) := ⟨_, rfl⟩
  rw [HPL.out] at HP
  have hne0 : ((wd : Int) == 0) = false := beq_eq_false_iff_ne.2 (by omega)
  have hlt25 : decide (25 ≤ op) = false := by simp; omega
  clear h
  go_enter Tryz.func150, Tryz.ntmps150
  go_wp2_with fail
  refine (HW.out _).mono ?_
  rintro e w1 ⟨rfl, rfl⟩
  clear HW
  cases pl with
  | none =>
    have hr := loadP_none (op := op) (by rw [HWD.out]; exact HPL.out)
    rw [← HR.out] at hr
    simp only [Prod.mk.injEq] at hr
    obtain ⟨rfl, rfl⟩ := hr
    simp only [placeV] at HP
    go_wp2_with fail
    refine HP.out.mono ?_
    rintro e w2 ⟨rfl, hw⟩
    obtain rfl := hw.symm
    go_wp2
    go_ret2
    exact ⟨rfl, rfl⟩
  | some ea =>
    have hr := loadP_some (op := op) (by rw [HWD.out]; exact HPL.out)
    rw [← HR.out, HWD.out] at hr
    have hin := (placeP_le HPL.out).1
    simp only [placeV] at HP
    have HRV : Hid ((r1, r2) = _) := hr
    clear hr HR HPL
    obtain ⟨bs, HBS⟩ : ∃ bs, Hid (bs = (mem.drop ea).take wd) := ⟨_, rfl⟩
    rw [← HBS.out] at HRV
    have hbl : bs.length = wd := by rw [HBS.out]; simp; omega
    have hea : ea ≤ 32 := by omega
    go_wp2_with fail
    refine HP.out.mono ?_
    rintro e w2 ⟨rfl, hw⟩
    obtain rfl := hw.symm
    clear HP
    go_wp2
    go_loopw [13, 12] (fun t u wr => ∃ (j : Nat) (v : Int), j ≤ wd ∧ t = .int .i64 ((j : Int) - 1) ∧ u = .int .i64 v ∧ Hid (v = wrap64 (leN (bs.drop j))) ∧ wr = w1) (fun t _ _ => (intOf t + 1).toNat)
    case atStart => exact ⟨wd, 0, Nat.le_refl _, rfl, rfl, by show _ = _; rw [List.drop_eq_nil_of_le (by omega)]; simp [leN, wrap64], rfl⟩
    case round =>
      obtain ⟨j, v, hj, rfl, rfl, HV, rfl⟩ := hrel
      by_cases h0 : 0 < j
      · obtain ⟨i, rfl⟩ : ∃ i, j = i + 1 := ⟨j - 1, by omega⟩
        obtain ⟨b, g, gb, ga, gc, _, gl, gcap, _⟩ := H.out.at_ (i := ea + i) (by omega)
        have hb : bs[i]? = some b := by
          rw [HBS.out, List.getElem?_take_of_lt (by omega), List.getElem?_drop, gb]
        clear gb
        have HN : Hid (_ = wrap64 (leN (bs.drop i))) := or_step (by omega) hb
        rw [← HV.out] at HN
        rw [ga] at c0
        have hi0 : ((i + 1 : Nat) : Int) - 1 = i := by omega
        rw [hi0]
        have hbb := b.toNat_lt
        have hidx : (ea : Int) + i < mem.length := by omega
        generalize b.toNat = bv at *
        clear hb
        go_wp2
        go_roundw
        case rel => exact ⟨i, _, by omega, by go_num, rfl, HN.out, trivial⟩
        case measure => simp [intOf]
      · obtain rfl : j = 0 := by omega
        have hv : v = wrap64 (leN bs) := HV.out
        have h3 := leN_lt bs
        rw [hbl] at h3
        have hrv := HRV.out
        simp only [Prod.mk.injEq] at hrv
        obtain ⟨hr1, rfl⟩ := hrv
        have HR1 : Hid (r1 = loadV op (leN bs)) := hr1
        have HVV : Hid (v = wrap64 (leN bs)) := hv
        have HLT : Hid (leN bs < 256 ^ wd) := h3
        have hop : op = 19 ∨ op = 20 ∨ op = 21 ∨ op = 22 ∨ op = 23 ∨ op = 24 := by omega
        clear hr1 hv h3 HRV HV
        rcases hop with rfl | rfl | rfl | rfl | rfl | rfl
        all_goals
          go_wp2
          go_ret2
          refine ⟨?_, rfl⟩
          have e1 := HR1.out
          have e2 := HVV.out
          have e3 := HLT.out
          have e4 := HWD.out
          simp [width] at e4
          subst e4
          simp [loadV] at e1
          generalize leN bs = x at *
          subst e1 e2
          first | (simp [wrap_i8, wrap_i16]; done) | (simp [wrap_i8, wrap_i16]; unfold wrap64; omega) | (simp [wrap_i8, wrap_i16]; unfold wrap64 wrap32; omega)
end
end Go.Proofs.Qxb6500575aGreatDoor
