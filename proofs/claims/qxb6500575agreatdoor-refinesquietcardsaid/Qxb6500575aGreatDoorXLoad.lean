/-
  THE WALKS of mach.reach, le16, le32 and mach.Load, exact.
-/
import Derived.Test.Qxb6500575aGreatDoorPMem
import Derived.Test.Qxb6500575aGreatDoorKLoad
namespace Go.Proofs.Qxb6500575aGreatDoor
open Go Go.RowKit
set_option linter.unusedVariables false
set_option linter.unusedSimpArgs false

theorem or_u32 (x y i : Nat) (hx : x < 2 ^ i) (hy : y % 2 ^ i = 0) (hy2 : y < 4294967296) (hi : i ≤ 32) : bits .or .u32 (x : Int) (y : Int) = ((x + y : Nat) : Int) := by
  have : 2 ^ i ≤ 2 ^ 32 := Nat.pow_le_pow_right (by omega) hi
  rw [u32_or_nat x y (by omega) hy2, Nat.or_comm, nat_join i y x hy hx, Nat.add_comm]
theorem or_u16 (x y : Nat) (hx : x < 256) (hy : y % 256 = 0) (hy2 : y < 65536) : bits .or .u16 (x : Int) (y : Int) = ((x + y : Nat) : Int) := by
  rw [u16_or_nat x y (by omega) hy2, Nat.or_comm, nat_join 8 y x hy hx, Nat.add_comm]
theorem or_u64 (x y : Nat) (hx : x < 4294967296) (hy : y % 4294967296 = 0) (hy2 : y < 18446744073709551616) : bits .or .u64 (y : Int) (x : Int) = ((y + x : Nat) : Int) := by
  rw [u64_or_nat y x hy2 (by omega), nat_join 32 y x hy hx]
theorem wrap_i8 (n : Int) : IntKind.i8.wrap n = (n + 128) % 256 - 128 := by
  simp [IntKind.wrap, IntKind.bits, IntKind.signed]
  split <;> omega
theorem wrap_i16 (n : Int) : IntKind.i16.wrap n = (n + 32768) % 65536 - 32768 := by
  simp [IntKind.wrap, IntKind.bits, IntKind.signed]
  split <;> omega
theorem le32_val (v0 v1 v2 v3 : Nat) (h0 : v0 < 256) (h1 : v1 < 256) (h2 : v2 < 256) (h3 : v3 < 256) : bits BinOp.or IntKind.u32
      (bits BinOp.or IntKind.u32 (bits BinOp.or IntKind.u32 (v0 : Int) ((v1 : Int) * 256)) ((v2 : Int) * 65536)) ((v3 : Int) * 16777216) = (v0 : Int) + v1 * 256 + v2 * 65536 + v3 * 16777216 := by
  rw [show (v1 : Int) * 256 = ((v1 * 256 : Nat) : Int) by omega, show (v2 : Int) * 65536 = ((v2 * 65536 : Nat) : Int) by omega, show (v3 : Int) * 16777216 = ((v3 * 16777216 : Nat) : Int) by omega]
  rw [or_u32 v0 (v1 * 256) 8 h0 (by omega) (by omega) (by omega), or_u32 (v0 + v1 * 256) (v2 * 65536) 16 (by omega) (by omega) (by omega) (by omega), or_u32 (v0 + v1 * 256 + v2 * 65536) (v3 * 16777216) 24 (by omega) (by omega) (by omega) (by omega)]
  omega
theorem le16_val (v0 v1 : Nat) (h0 : v0 < 256) (h1 : v1 < 256) : bits BinOp.or IntKind.u16 (v0 : Int) ((v1 : Int) * 256) = (v0 : Int) + v1 * 256 := by
  rw [show (v1 : Int) * 256 = ((v1 * 256 : Nat) : Int) by omega, or_u16 v0 (v1 * 256) h0 (by omega) (by omega)]
  omega
set_option maxRecDepth 100000
set_option maxHeartbeats 1000000
theorem xle32 (b0 b1 b2 b3 : Value) (v0 v1 v2 v3 : Nat) (h0 : v0 < 256) (h1 : v1 < 256) (h2 : v2 < 256) (h3 : v3 < 256) (e0 : b0 = .int .u8 v0) (e1 : b1 = .int .u8 v1) (e2 : b2 = .int .u8 v2) (e3 : b3 = .int .u8 v3) (w : World) : Calls Tryz.prog 70 #[.agg #[b0, b1, b2, b3]] w fun e w' => e = .returned (.int .u32 ((v0 : Int) + v1 * 256 + v2 * 65536 + v3 * 16777216)) ∧ Fr (fun _ => False) w w' := by
  subst e0 e1 e2 e3
  have hv := le32_val v0 v1 v2 v3 h0 h1 h2 h3
  go_enter Tryz.func70, Tryz.ntmps70
  go_wp2
  go_ret
  exact ⟨rfl, (Fr.refl _ _).alloc _⟩
theorem xle16 (B : Nat) (v0 v1 : Nat) (h0 : v0 < 256) (h1 : v1 < 256) (w : World) (c0 : w.cell? ⟨B, 0, none⟩ = some (.int .u8 v0)) (c1 : w.cell? ⟨B, 1, none⟩ = some (.int .u8 v1)) : Calls Tryz.prog 69 #[.pointer (some ⟨B, 0, none⟩)] w fun e w' => e = .returned (.int .u16 ((v0 : Int) + v1 * 256)) ∧ Fr (fun _ => False) w w' := by
  have hv := le16_val v0 v1 h0 h1
  go_enter Tryz.func69, Tryz.ntmps69
  go_wp2
  refine C.wp_region_tail 12 (by kernel_rfl) (by kernel_rfl) (fun _ _ _ _ _ h => h) ?_
  simp only [List.take_succ_cons, List.take_zero, List.drop_succ_cons, List.drop_zero]
  repeat go_big_quiet_step (fail)
  refine wpQuiet_nil ?_
  go_wp2
  go_ret
  exact ⟨rfl, (Fr.refl _ _).drew⟩
section
variable {w : World} {bk : Nat} {L : KL} {d : KD}
def XReach (d : KD) (op addr off : Int) (e : Ending) : Prop := (e = .returned (.tuple #[.int .i64 0, .int .i64 0, .int .i64 12]) ∧ placeP (d.pages.length * 8) addr off (width op) = none) ∨ ∃ ea : Nat, placeP (d.pages.length * 8) addr off (width op) = some ea ∧ e = .returned (.tuple #[.int .i64 ea, .int .i64 (width op : Nat), .int .i64 0])
theorem xreach (h : KRep w bk L d) (op first last addr off : Int) (h1 : 19 ≤ op) (h2 : op ≤ 28) (h3 : first ≤ op) (h4 : op ≤ last) :
    Calls Tryz.prog 67 #[.pointer (some ⟨bk, 0, none⟩), .int .i64 op, .int .i64 first, .int .i64 last, .int .i64 addr, .int .i64 off] w fun e w' => XReach d op addr off e ∧ w' = w := by
  have c0 := h.here.cell 0
  simp at c0
  have hp : d.pages.length ≤ 4 := by have := h.le; have := h.max; omega
  have hu : ∃ a : Nat, addr % 4294967296 = a ∧ a < 4294967296 := ⟨(addr % 4294967296).toNat, by omega, by omega⟩
  obtain ⟨a, ha, hal⟩ := hu
  obtain ⟨kk, wd, rfl, hkk, hw1, hw8, HWD, hb⟩ : ∃ (kk wd : Nat), op = 19 + (kk : Int) ∧ kk < 10 ∧ 1 ≤ wd ∧ wd ≤ 8 ∧ Hid (width op = wd) ∧ ∀ h, (((⟨#[4, 8, 1, 1, 2, 2, 4, 8, 1, 2]⟩ : ByteArray)[kk]'h).toNat : Int) = wd := by
    have : op = 19 ∨ op = 20 ∨ op = 21 ∨ op = 22 ∨ op = 23 ∨ op = 24 ∨ op = 25 ∨ op = 26 ∨ op = 27 ∨ op = 28 := by omega
    rcases this with rfl | rfl | rfl | rfl | rfl | rfl | rfl | rfl | rfl | rfl
    · exact ⟨0, 4, by omega, by omega, by omega, by omega, rfl, fun _ => rfl⟩
    · exact ⟨1, 8, by omega, by omega, by omega, by omega, rfl, fun _ => rfl⟩
    · exact ⟨2, 1, by omega, by omega, by omega, by omega, rfl, fun _ => rfl⟩
    · exact ⟨3, 1, by omega, by omega, by omega, by omega, rfl, fun _ => rfl⟩
    · exact ⟨4, 2, by omega, by omega, by omega, by omega, rfl, fun _ => rfl⟩
    · exact ⟨5, 2, by omega, by omega, by omega, by omega, rfl, fun _ => rfl⟩
    · exact ⟨6, 4, by omega, by omega, by omega, by omega, rfl, fun _ => rfl⟩
    · exact ⟨7, 8, by omega, by omega, by omega, by omega, rfl, fun _ => rfl⟩
    · exact ⟨8, 1, by omega, by omega, by omega, by omega, rfl, fun _ => rfl⟩
    · exact ⟨9, 2, by omega, by omega, by omega, by omega, rfl, fun _ => rfl⟩
  have hsub : (19 : Int) + kk - 19 = kk := by omega
  have hlt : (kk : Int) < 10 := by omega
  clear h
  by_cases o1 : off < 0
  · go_enter Tryz.func67, Tryz.ntmps67
    go_wp2
    (try simp only [Exit.inBlock, Exit.then])
    refine bodyPost_ret (results_tmp3 rfl _ _ _) rfl ?_
    exact ⟨.inl ⟨rfl, by unfold placeP; rw [if_pos (by omega)]⟩, rfl⟩
  · by_cases o2 : 4294967295 < off
    · go_enter Tryz.func67, Tryz.ntmps67
      go_wp2
      (try simp only [Exit.inBlock, Exit.then])
      refine bodyPost_ret (results_tmp3 rfl _ _ _) rfl ?_
      exact ⟨.inl ⟨rfl, by unfold placeP; rw [if_pos (by omega)]⟩, rfl⟩
    · obtain ⟨f, rfl⟩ : ∃ f : Nat, off = f := ⟨off.toNat, by omega⟩
      by_cases hin : (a : Int) + f + wd ≤ d.pages.length * 8
      · go_enter Tryz.func67, Tryz.ntmps67
        go_wp2
        (try simp only [Exit.inBlock, Exit.then])
        refine bodyPost_ret (results_tmp3 rfl _ _ _) rfl ?_
        exact ⟨.inr ⟨a + f, by rw [HWD.out]; unfold placeP; rw [if_neg (by omega)]; congr 1; omega, by rw [HWD.out]; simp⟩, rfl⟩
      · go_enter Tryz.func67, Tryz.ntmps67
        go_wp2
        (try simp only [Exit.inBlock, Exit.then])
        refine bodyPost_ret (results_tmp3 rfl _ _ _) rfl ?_
        exact ⟨.inl ⟨rfl, by rw [HWD.out]; unfold placeP; rw [if_pos (by omega)]⟩, rfl⟩
theorem xload_any (h : KRep w bk L d) (op a off : Int) (h1 : 19 ≤ op) (h2 : op ≤ 24) :
    Calls Tryz.prog 43 #[.pointer (some ⟨bk, 0, none⟩), .int .i64 op, .int .i64 a, .int .i64 off] w fun e w' => e = .returned (.tuple #[.int .i64 (loadP d.flat op a off).1, .int .i64 (loadP d.flat op a off).2]) ∧ Fr (fun _ => False) w w' := by
  have HRE : Hid (Calls _ _ _ _ _) := xreach h op 19 24 a off (by omega) (by omega) (by omega) (by omega)
  have H : Hid (KRep w bk L d) := h
  have hfl := d.flat_len
  obtain ⟨r, HR⟩ : ∃ r, Hid (r = loadP d.flat op a off) := ⟨_, rfl⟩
  rw [← HR.out]
  obtain ⟨r1, r2⟩ := r
  have HFL : Hid (d.flat.length = d.pages.length * 8) := hfl
  clear h hfl
  go_enter Tryz.func43, Tryz.ntmps43
  go_wp2_with fail
  refine HRE.out.mono ?_
  clear HRE
  rintro e w1 ⟨⟨rfl, HPL⟩ | ⟨ea, HPL, rfl⟩, rfl⟩
  · go_wp2
    go_ret2
    have := HR.out
    unfold loadP at this
    rw [HFL.out, HPL] at this
    cases this
    exact ⟨rfl, Fr.refl _ _⟩
  · obtain ⟨wd, HWD⟩ : ∃ wd, Hid (wd = width op) := ⟨_, rfl⟩
    have hin := (placeP_le HPL).1
    obtain ⟨hw1, hw8⟩ := width_le op
    have HVAL : Hid ((r1, r2) = (loadV op (leN (d.bytes ea (width op))), (0 : Int))) := by
      show _ = _
      have := HR.out
      unfold loadP at this
      rw [HFL.out, HPL] at this
      rw [this]
      show (loadV op (leN (List.take (width op) (List.drop ea d.flat))), (0 : Int)) = _
      rw [KD.flat_cut d ea _ hin]
    clear HPL HR
    rw [← HWD.out] at hw1 hw8 hin ⊢
    have F0 : Fr (fun _ => False) w1 (w1.alloc (.cells #[.int .u8 0, .int .u8 0, .int .u8 0, .int .u8 0, .int .u8 0, .int .u8 0, .int .u8 0, .int .u8 0] 158)) := (Fr.refl _ _).alloc _
    have HG : Hid (Calls _ _ _ _ _) := gather_any (H.out.fresh F0) (B := w1.heap.size) (by simpa [byteCells] using Has.new w1 _ 158) ea wd hw1 hw8 hin
    have HF0 : Hid (Fr _ _ _) := F0
    clear F0
    have s1 := fun w => run_arrHi w1.heap.size wd w hw8 wd rfl
    go_wp2_with fail
    refine HG.out.mono ?_
    clear HG s1
    rintro e w2 ⟨rfl, f2, b2⟩
    obtain ⟨b0, b1, b3, b4, b5, b6, b7, b8, hbs⟩ := eight (l := d.bytes ea wd ++ List.replicate (8 - wd) 0) (by simp [KD.bytes_len]; omega)
    rw [hbs] at b2
    simp only [byteCells, List.map_cons, List.map_nil] at b2
    obtain ⟨v0, hq0, HV0⟩ : ∃ v : Nat, v < 256 ∧ Hid (v = b0.toNat) := ⟨_, b0.toNat_lt, rfl⟩
    obtain ⟨v1, hq1, HV1⟩ : ∃ v : Nat, v < 256 ∧ Hid (v = b1.toNat) := ⟨_, b1.toNat_lt, rfl⟩
    obtain ⟨v2, hq2, HV2⟩ : ∃ v : Nat, v < 256 ∧ Hid (v = b3.toNat) := ⟨_, b3.toNat_lt, rfl⟩
    obtain ⟨v3, hq3, HV3⟩ : ∃ v : Nat, v < 256 ∧ Hid (v = b4.toNat) := ⟨_, b4.toNat_lt, rfl⟩
    obtain ⟨v4, hq4, HV4⟩ : ∃ v : Nat, v < 256 ∧ Hid (v = b5.toNat) := ⟨_, b5.toNat_lt, rfl⟩
    obtain ⟨v5, hq5, HV5⟩ : ∃ v : Nat, v < 256 ∧ Hid (v = b6.toNat) := ⟨_, b6.toNat_lt, rfl⟩
    obtain ⟨v6, hq6, HV6⟩ : ∃ v : Nat, v < 256 ∧ Hid (v = b7.toNat) := ⟨_, b7.toNat_lt, rfl⟩
    obtain ⟨v7, hq7, HV7⟩ : ∃ v : Nat, v < 256 ∧ Hid (v = b8.toNat) := ⟨_, b8.toNat_lt, rfl⟩
    rw [← HV0.out, ← HV1.out, ← HV2.out, ← HV3.out, ← HV4.out, ← HV5.out, ← HV6.out, ← HV7.out] at b2
    have HBS : Hid (_ = [b0, b1, b3, b4, b5, b6, b7, b8]) := hbs
    clear hbs
    have F2 : Hid (Fr (fun _ => False) w1 w2) := HF0.out.trans f2 (fun j hj e => by omega)
    have B2 : Hid (Has w2 w1.heap.size _ _) := b2
    have q0 := b2.cell 0
    have q1 := b2.cell 1
    have q2 := b2.cell 2
    have q3 := b2.cell 3
    have q4 := b2.cell 4
    have q5 := b2.cell 5
    have q6 := b2.cell 6
    have q7 := b2.cell 7
    simp at q0 q1 q2 q3 q4 q5 q6 q7
    clear f2 b2 HF0 H
    generalize w1.heap.size = B at *
    have s2 := fun w => run_arrHi B 2 w (by omega) 2 rfl
    have s4 := fun w => run_arrHi B 4 w (by omega) 4 rfl
    have s5 := fun w => run_arrLo B w
    have t1 := fun w => run_arrAt 289 2 5 (by kernel_rfl) ⟨B, 0, none⟩ 2 8 (by omega) w
    have t2 := fun w => run_arrAt 165 4 5 (by kernel_rfl) ⟨B, 0, none⟩ 4 8 (by omega) w
    have t3 := fun w => run_arrAt 165 4 5 (by kernel_rfl) ⟨B, 4, none⟩ 4 4 (by omega) w
    go_wp2_with fail
    refine (xle16 B v0 v1 hq0 hq1 w2 q0 q1).mono ?_
    rintro e w3 ⟨rfl, f3⟩
    clear q0 q1 q2 q3 q4 q5 q6 q7
    have F3 : Hid (Fr (fun _ => False) w1 w3) := F2.out.trans f3 (fun _ _ h => h)
    have B3 : Hid (Has w3 B _ _) := B2.out.fr f3 (fun h => h)
    have q0 := B3.out.cell 0
    have q1 := B3.out.cell 1
    have q2 := B3.out.cell 2
    have q3 := B3.out.cell 3
    have q4 := B3.out.cell 4
    have q5 := B3.out.cell 5
    have q6 := B3.out.cell 6
    have q7 := B3.out.cell 7
    simp at q0 q1 q2 q3 q4 q5 q6 q7
    clear f3
    go_wp2_with fail
    refine (xle32 _ _ _ _ v0 v1 v2 v3 hq0 hq1 hq2 hq3 rfl rfl rfl rfl w3).mono ?_
    rintro e w4 ⟨rfl, f4⟩
    clear q0 q1 q2 q3 q4 q5 q6 q7
    have F4 : Hid (Fr (fun _ => False) w1 w4) := F3.out.trans f4 (fun _ _ h => h)
    have B4 : Hid (Has w4 B _ _) := B3.out.fr f4 (fun h => h)
    have q0 := B4.out.cell 0
    have q1 := B4.out.cell 1
    have q2 := B4.out.cell 2
    have q3 := B4.out.cell 3
    have q4 := B4.out.cell 4
    have q5 := B4.out.cell 5
    have q6 := B4.out.cell 6
    have q7 := B4.out.cell 7
    simp at q0 q1 q2 q3 q4 q5 q6 q7
    clear f4
    go_wp2_with fail
    refine (xle32 _ _ _ _ v4 v5 v6 v7 hq4 hq5 hq6 hq7 rfl rfl rfl rfl w4).mono ?_
    rintro e w5 ⟨rfl, f5⟩
    clear q0 q1 q2 q3 q4 q5 q6 q7
    have F5 : Hid (Fr (fun _ => False) w1 w5) := F4.out.trans f5 (fun _ _ h => h)
    have B5 : Hid (Has w5 B _ _) := B4.out.fr f5 (fun h => h)
    have q0 := B5.out.cell 0
    have q1 := B5.out.cell 1
    have q2 := B5.out.cell 2
    have q3 := B5.out.cell 3
    have q4 := B5.out.cell 4
    have q5 := B5.out.cell 5
    have q6 := B5.out.cell 6
    have q7 := B5.out.cell 7
    simp at q0 q1 q2 q3 q4 q5 q6 q7
    clear f5
    have HTK : Hid (d.bytes ea wd = [b0, b1, b3, b4, b5, b6, b7, b8].take wd) := by
      show _ = _
      rw [← HBS.out, List.take_left' (KD.bytes_len d ea wd)]
    rw [HWD.out] at HTK
    have hop : op = 19 ∨ op = 20 ∨ op = 21 ∨ op = 22 ∨ op = 23 ∨ op = 24 := by omega
    clear HBS hw1 hw8 hin HWD
    have hor : bits BinOp.or IntKind.u64 (((v4 : Int) + v5 * 256 + v6 * 65536 + v7 * 16777216) * 4294967296) ((v0 : Int) + v1 * 256 + v2 * 65536 + v3 * 16777216) = ((v4 : Int) + v5 * 256 + v6 * 65536 + v7 * 16777216) * 4294967296 + ((v0 : Int) + v1 * 256 + v2 * 65536 + v3 * 16777216) := by
      have := or_u64 (v0 + v1 * 256 + v2 * 65536 + v3 * 16777216) ((v4 + v5 * 256 + v6 * 65536 + v7 * 16777216) * 4294967296) (by omega) (by omega) (by omega)
      simpa using this
    rcases hop with rfl | rfl | rfl | rfl | rfl | rfl
    · have hv := HVAL.out
      rw [HTK.out, show width 19 = 4 from rfl] at hv
      simp only [List.take_succ_cons, List.take_zero, leN, ← HV0.out, ← HV1.out, ← HV2.out, ← HV3.out] at hv
      have HV : Hid (_ = _) := hv
      clear hv HVAL HTK
      go_wp2
      go_ret2
      refine ⟨?_, F5.out⟩
      have hv := HV.out
      simp only [Prod.mk.injEq] at hv
      rw [hv.1, hv.2]
      simp [loadV]
      rw [w64_32]
      congr 1
      omega
    · have hv := HVAL.out
      rw [HTK.out, show width 20 = 8 from rfl] at hv
      simp only [List.take_succ_cons, List.take_zero, leN, ← HV0.out, ← HV1.out, ← HV2.out, ← HV3.out, ← HV4.out, ← HV5.out, ← HV6.out, ← HV7.out] at hv
      have HV : Hid (_ = _) := hv
      clear hv HVAL HTK
      go_wp2
      go_ret2
      refine ⟨?_, F5.out⟩
      have hv := HV.out
      simp only [Prod.mk.injEq] at hv
      rw [hv.1, hv.2]
      simp [loadV]
      congr 1
      omega
    · have hv := HVAL.out
      rw [HTK.out, show width 21 = 1 from rfl] at hv
      simp only [List.take_succ_cons, List.take_zero, leN, ← HV0.out] at hv
      have HV : Hid (_ = _) := hv
      clear hv HVAL HTK
      go_wp2
      go_ret2
      refine ⟨?_, F5.out⟩
      have hv := HV.out
      simp only [Prod.mk.injEq] at hv
      rw [hv.1, hv.2]
      simp [loadV]
      rw [wrap_i8]
      exact w64 (by unfold I64; omega)
    · have hv := HVAL.out
      rw [HTK.out, show width 22 = 1 from rfl] at hv
      simp only [List.take_succ_cons, List.take_zero, leN, ← HV0.out] at hv
      have HV : Hid (_ = _) := hv
      clear hv HVAL HTK
      go_wp2
      go_ret2
      refine ⟨?_, F5.out⟩
      have hv := HV.out
      simp only [Prod.mk.injEq] at hv
      rw [hv.1, hv.2]
      simp [loadV]
    · have hv := HVAL.out
      rw [HTK.out, show width 23 = 2 from rfl] at hv
      simp only [List.take_succ_cons, List.take_zero, leN, ← HV0.out, ← HV1.out] at hv
      have HV : Hid (_ = _) := hv
      clear hv HVAL HTK
      go_wp2
      go_ret2
      refine ⟨?_, F5.out⟩
      have hv := HV.out
      simp only [Prod.mk.injEq] at hv
      rw [hv.1, hv.2]
      simp [loadV]
      rw [wrap_i16, w64 (by unfold I64; omega)]
      omega
    · have hv := HVAL.out
      rw [HTK.out, show width 24 = 2 from rfl] at hv
      simp only [List.take_succ_cons, List.take_zero, leN, ← HV0.out, ← HV1.out] at hv
      have HV : Hid (_ = _) := hv
      clear hv HVAL HTK
      go_wp2
      go_ret2
      refine ⟨?_, F5.out⟩
      have hv := HV.out
      simp only [Prod.mk.injEq] at hv
      rw [hv.1, hv.2]
      simp [loadV]
      omega
end
end Go.Proofs.Qxb6500575aGreatDoor
