/-
  THE WALK of mach.Store, exact.
-/
import Derived.Test.Qxb6500575aGreatDoorXScat
namespace Go.Proofs.Qxb6500575aGreatDoor
open Go Go.RowKit
set_option linter.unusedVariables false
set_option linter.unusedSimpArgs false

theorem storeB_succ (v : Int) (n : Nat) : storeB v (n + 1) = storeB v n ++ [UInt8.ofNat (v / 256 ^ n % 256).toNat] := by simp [storeB, List.range_succ]
theorem storeB_take (v : Int) (n k : Nat) (h : k ≤ n) : (storeB v n).take k = storeB v k := by
  simp only [storeB, ← List.map_take, List.take_range, Nat.min_eq_left h]
theorem store_step (v : Int) (j : Nat) (hj : j < 8) : (storeB v j ++ List.replicate (8 - j) 0).set j (UInt8.ofNat (v / 256 ^ j % 256).toNat) = storeB v (j + 1) ++ List.replicate (8 - (j + 1)) 0 := by
  rw [show 8 - j = (8 - (j + 1)) + 1 by omega, List.replicate_succ, List.set_append_right _ _ (by rw [storeB_len]; omega), storeB_len, Nat.sub_self, List.set_cons_zero, storeB_succ, List.append_assoc]
  rfl
theorem store_byte (v : Int) (j : Nat) (hj : j < 8) : IntKind.u64.wrap v / 2 ^ (8 * j) % 256 = v / 256 ^ j % 256 := by
  rw [IntKind.wrap_u64]
  have h : j = 0 ∨ j = 1 ∨ j = 2 ∨ j = 3 ∨ j = 4 ∨ j = 5 ∨ j = 6 ∨ j = 7 := by omega
  rcases h with rfl | rfl | rfl | rfl | rfl | rfl | rfl | rfl
  all_goals
    simp only [Nat.mul_zero, Int.pow_zero, show (2 : Int) ^ (8 * 1) = 256 from rfl, show (256 : Int) ^ 1 = 256 from rfl, show (2 : Int) ^ (8 * 2) = 65536 from rfl, show (256 : Int) ^ 2 = 65536 from rfl, show (2 : Int) ^ (8 * 3) = 16777216 from rfl, show (256 : Int) ^ 3 = 16777216 from rfl, show (2 : Int) ^ (8 * 4) = 4294967296 from rfl, show (256 : Int) ^ 4 = 4294967296 from rfl, show (2 : Int) ^ (8 * 5) = 1099511627776 from rfl, show (256 : Int) ^ 5 = 1099511627776 from rfl, show (2 : Int) ^ (8 * 6) = 281474976710656 from rfl, show (256 : Int) ^ 6 = 281474976710656 from rfl, show (2 : Int) ^ (8 * 7) = 72057594037927936 from rfl, show (256 : Int) ^ 7 = 72057594037927936 from rfl]
    omega
theorem Wr.flat {d d2 : KD} {ea wd : Nat} {wb : List UInt8} (h : Wr d d2 ea wd 0 wb) (hwb : wd ≤ wb.length) (hin : ea + wd ≤ d.pages.length * 8) : d2.flat = putB d.flat ea (wb.take wd) := by
  have hl : (wb.take wd).length = wd := by simp; omega
  have hf := d.flat_len
  have hf2 := d2.flat_len
  have hlen := h.len
  apply List.ext_getElem?
  intro i
  unfold putB
  rw [hl]
  by_cases hi : i < d.pages.length * 8
  · rw [d2.flat_byte i (by omega), h.byte]
    by_cases c1 : i < ea
    · rw [if_neg (by omega), List.append_assoc, List.getElem?_append_left (by simp; omega), List.getElem?_take_of_lt c1, d.flat_byte i hi]
    · by_cases c2 : i < ea + wd
      · rw [if_pos (by omega), List.append_assoc, List.getElem?_append_right (by simp; omega), List.getElem?_append_left (by simp; omega), List.getElem?_take_of_lt (by simp; omega)]
        rw [List.length_take, show min ea d.flat.length = ea by omega, List.getD_eq_getElem?_getD, Nat.zero_add, List.getElem?_eq_getElem (by omega)]
        rfl
      · rw [if_neg (by omega), List.append_assoc, List.getElem?_append_right (by simp; omega), List.getElem?_append_right (by simp; omega), List.getElem?_drop, List.length_take, hl, show min ea d.flat.length = ea by omega, show ea + wd + (i - ea - wd) = i by omega, d.flat_byte i hi]
  · rw [List.getElem?_eq_none (by omega), List.getElem?_eq_none (by simp; omega)]
section
variable {w : World} {bk : Nat} {L : KL} {d : KD}
set_option maxRecDepth 100000
set_option maxHeartbeats 400000
theorem xstore_any (h : KRep w bk L d) (op a off v : Int) (h1 : 25 ≤ op) (h2 : op ≤ 28) :
    Calls Tryz.prog 104 #[.pointer (some ⟨bk, 0, none⟩), .int .i64 op, .int .i64 a, .int .i64 off, .int .i64 v] w fun e w' => ∃ L' d', e = .returned (.int .i64 (storeP d.flat op a off v).2) ∧ KRep w' bk L' d' ∧ KStep w w' bk L L' ∧ d'.flat = (storeP d.flat op a off v).1 ∧ d'.max = d.max := by
  obtain ⟨r, HR⟩ : ∃ r, Hid (r = storeP d.flat op a off v) := ⟨_, rfl⟩
  rw [← HR.out]
  obtain ⟨r1, r2⟩ := r
  have HFL : Hid (d.flat.length = d.pages.length * 8) := d.flat_len
  have HRE : Hid (Calls _ _ _ _ _) := xreach h op 25 28 a off (by omega) (by omega) (by omega) (by omega)
  have H : Hid (KRep w bk L d) := h
  clear h
  go_enter Tryz.func104, Tryz.ntmps104
  go_wp2_with fail
  refine HRE.out.mono ?_
  clear HRE
  rintro e w1 ⟨⟨rfl, HPL⟩ | ⟨ea, HPL, rfl⟩, rfl⟩
  · go_wp2
    go_ret
    have := HR.out
    unfold storeP at this
    rw [HFL.out, HPL] at this
    cases this
    exact ⟨L, d, rfl, H.out, KStep.refl _ _ _, rfl, rfl⟩
  · obtain ⟨wd, HWD⟩ : ∃ wd, Hid (wd = width op) := ⟨_, rfl⟩
    have hin := (placeP_le HPL).1
    obtain ⟨hw1, hw8⟩ := width_le op
    have HVAL : Hid ((r1, r2) = (putB d.flat ea (storeB v (width op)), (0 : Int))) := by
      show _ = _
      have := HR.out
      unfold storeP at this
      rw [HFL.out, HPL] at this
      rw [this]
    clear HPL HR
    rw [← HWD.out] at hw1 hw8 hin ⊢
    have s1 := fun w => run_arrHi w1.heap.size wd w hw8 wd rfl
    obtain ⟨B, HBS⟩ : ∃ B, Hid (B = w1.heap.size) := ⟨_, rfl⟩
    go_wp2
    rw [← HBS.out] at s1 ⊢
    go_loopw [28] (fun i wr => ∃ j : Nat, j ≤ 8 ∧ i = .int .i64 j ∧ Hid (∃ bs : List UInt8, bs = storeB v j ++ List.replicate (8 - j) 0 ∧ Has wr B (byteCells bs).toArray 158) ∧ Hid (Fr (fun _ => False) w1 wr)) (fun i _ => 8 - (intOf i).toNat)
    case atStart =>
      refine ⟨0, by omega, rfl, ⟨List.replicate 8 0, by simp [storeB], ?_⟩, (Fr.refl _ _).alloc _⟩
      rw [HBS.out]
      simpa [byteCells] using Has.new w1 _ 158
    case round =>
      obtain ⟨j, hj, rfl, HB, HF⟩ := hrel
      by_cases hlt : j < 8
      · obtain ⟨bs, hbv, hb⟩ := HB.out
        have hbl : bs.length = 8 := by rw [hbv]; simp [storeB_len]; omega
        have HBV : Hid (bs = _) := hbv
        clear hbv
        have hsr := fun (x : Int) (w : World) => run_shr Tryz.prog .u64 .i64 x (8 * (j : Int)) (by omega) w
        have q1 := hb.cell j
        have q2 := hb.frozen j
        have q3 := hb.lt
        have q4 : ∃ u : Int, (byteCells bs).toArray[j]? = some (.int .u8 u) := by
          refine ⟨bs[j].toNat, ?_⟩
          rw [List.getElem?_toArray, byteCells, List.getElem?_map, List.getElem?_eq_getElem (by omega)]
          rfl
        obtain ⟨u, q4⟩ := q4
        rw [q4] at q1
        have HB1 : Hid (Has wr B (byteCells bs).toArray 158) := hb
        have HBL : Hid (bs.length = 8) := hbl
        clear hb hbl q4
        go_wp2
        go_roundw
        case rel =>
          refine ⟨j + 1, by omega, by go_num, ?_, ?_⟩
          · have hb : IntKind.u64.wrap v / 2 ^ (8 * j) % 256 = ((UInt8.ofNat (v / 256 ^ j % 256).toNat).toNat : Int) := by
              rw [store_byte v j hlt]
              simp [UInt8.toNat_ofNat]
              omega
            refine ⟨bs.set j (UInt8.ofNat (v / 256 ^ j % 256).toNat), by rw [HBV.out]; exact store_step v j hlt, ?_⟩
            rw [hb]
            generalize UInt8.ofNat (v / 256 ^ j % 256).toNat = b
            have := HB1.out.put j (.int .u8 b.toNat)
            simpa [byteCells, List.map_set] using this
          · exact HF.out.setCell (.inr (by rw [HBS.out]; simp)) _
        case measure =>
          simp [intOf]
          omega
      · obtain ⟨bs, hbv, hb⟩ := HB.out
        obtain rfl : j = 8 := by omega
        have hbl : bs.length = 8 := by rw [hbv]; simp [storeB_len]
        have HBV : Hid (bs = storeB v 8) := by show _ = _; rw [hbv]; simp
        clear hbv
        have hK := H.out.fresh HF.out
        have HSC : Hid (Calls _ _ _ _ _) := xscatter hK hbl hb ea wd hw1 hw8 hin
        have HF2 : Hid (KStep w1 wr bk L L) := KStep.fresh HF.out
        clear hb hK
        go_wp2_with fail
        refine HSC.out.mono ?_
        rintro e w2 ⟨rfl, L', d', k1, k2, k3⟩
        have K3 : Hid (d'.flat = r1 ∧ r2 = 0 ∧ d'.max = d.max) := by
          have hv := HVAL.out
          simp only [Prod.mk.injEq] at hv
          refine ⟨?_, hv.2, k3.max⟩
          rw [hv.1, k3.flat (by omega) hin, HBV.out, storeB_take v 8 wd hw8, HWD.out]
        have K1 : Hid (KRep w2 bk L' d') := k1
        have K2 : Hid (KStep wr w2 bk L L') := k2
        clear k1 k2 k3
        go_wp2
        go_ret
        exact ⟨L', d', by rw [K3.out.2.1]; rfl, K1.out, HF2.out.trans K2.out, K3.out.1, K3.out.2.2⟩
end
end Go.Proofs.Qxb6500575aGreatDoor
