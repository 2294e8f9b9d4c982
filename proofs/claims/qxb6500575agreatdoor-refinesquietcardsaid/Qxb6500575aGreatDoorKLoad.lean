/-
  THE WALK of mach.Load.
-/
import Derived.Test.Qxb6500575aGreatDoorKGath
import Derived.Test.Qxb6500575aGreatDoorKUnit
namespace Go.Proofs.Qxb6500575aGreatDoor
open Go Go.RowKit
set_option linter.unusedVariables false
set_option linter.unusedSimpArgs false

theorem arr8 : Tryz.prog.underlying 158 = some (.array 8 5) := by kernel_rfl
theorem u8one : ∃ i, Tryz.prog.info? 5 = some i ∧ i.size = 1 := by
  have hi : (Tryz.prog.info? 5).map (·.size) = some 1 := by kernel_rfl
  cases hq : Tryz.prog.info? 5 with
  | none => simp [hq] at hi
  | some i => exact ⟨i, rfl, by simpa [hq] using hi⟩
theorem run_arrHi (g n : Nat) (w : World) (h : n ≤ 8) (v : Int) (hv : v = n) : (Instr.sliceAt 158 (.pointer (some ⟨g, 0, none⟩)) none (some (.int .i64 v)) none).run Tryz.prog w = .ok (.slice (some ⟨g, 0, none⟩) n 8) w := by
  subst hv
  obtain ⟨i, hq, hs⟩ := u8one
  have a1 : (0 : Int) ≤ (n : Int) ∧ (n : Int) ≤ 8 := by omega
  simp [Instr.sliceAt, run_underlying arr8, Instr.sureAddr, Instr.sliceBounds, Instr.sliceBound, asIntOf, h, sizeOf, typeInfo, hq, hs, Addr.add_lit]
theorem run_arrLo (g : Nat) (w : World) : (Instr.sliceAt 158 (.pointer (some ⟨g, 0, none⟩)) (some (.int .i64 4)) none none).run Tryz.prog w = .ok (.slice (some ⟨g, 4, none⟩) 4 4) w := by
  obtain ⟨i, hq, hs⟩ := u8one
  simp [Instr.sliceAt, run_underlying arr8, Instr.sureAddr, Instr.sliceBounds, Instr.sliceBound, asIntOf, sizeOf, typeInfo, hq, hs, Addr.add_lit]
theorem run_arrAt (arr : TypeId) (n : Nat) (e : TypeId) (hu : Tryz.prog.underlying arr = some (.array n e)) (p : Addr) (l c : Nat) (h : n ≤ l) (w : World) : (Instr.arrayAt arr (.slice (some p) l c)).run Tryz.prog w = .ok (.pointer (some p)) w := by
  have : ¬ l < n := by omega
  simp [Instr.arrayAt, run_underlying hu, this]
theorem eight {l : List UInt8} (h : l.length = 8) : ∃ a b c d e f g i, l = [a, b, c, d, e, f, g, i] := by
  match l, h with
  | [a, b, c, d, e, f, g, i], _ => exact ⟨a, b, c, d, e, f, g, i, rfl⟩
section
variable {w : World} {bk : Nat} {L : KL} {d : KD}
set_option maxRecDepth 100000
set_option maxHeartbeats 1000000
theorem kload_core (h : KRep w bk L d) (op a off : Int) (h1 : 19 ≤ op) (h2 : op ≤ 24) (tr : Prop) (ok : Nat → Prop)
    (hre : Calls Tryz.prog 67 #[.pointer (some ⟨bk, 0, none⟩), .int .i64 op, .int .i64 19, .int .i64 24, .int .i64 a, .int .i64 off] w fun e w' => ((tr ∧ e = .returned (.tuple #[.int .i64 0, .int .i64 0, .int .i64 12])) ∨ ∃ ea wd : Nat, ok ea ∧ 1 ≤ wd ∧ wd ≤ 8 ∧ ea + wd ≤ d.pages.length * 8 ∧ e = .returned (.tuple #[.int .i64 ea, .int .i64 wd, .int .i64 0])) ∧ w' = w) :
    Calls Tryz.prog 43 #[.pointer (some ⟨bk, 0, none⟩), .int .i64 op, .int .i64 a, .int .i64 off] w fun e w' => ∃ n er, e = .returned (.tuple #[.int .i64 n, .int .i64 er]) ∧ I64 n ∧ Fr (fun _ => False) w w' ∧ ((er = 12 ∧ tr) ∨ (er = 0 ∧ ∃ ea, ok ea ∧ (op = 22 → n = (d.byte ea).toNat))) := by
  have HRE : Hid (Calls _ _ _ _ _) := hre
  have H : Hid (KRep w bk L d) := h
  clear h hre
  go_enter Tryz.func43, Tryz.ntmps43
  go_wp2_with fail
  refine HRE.out.mono ?_
  clear HRE
  rintro e w1 ⟨⟨htr, rfl⟩ | ⟨ea, wd, hok, hw1, hw8, hin, rfl⟩, rfl⟩
  · go_wp2
    go_ret2
    exact ⟨0, 12, rfl, by unfold I64; omega, Fr.refl _ _, .inl ⟨rfl, htr⟩⟩
  · have F0 : Fr (fun _ => False) w1 (w1.alloc (.cells #[.int .u8 0, .int .u8 0, .int .u8 0, .int .u8 0, .int .u8 0, .int .u8 0, .int .u8 0, .int .u8 0] 158)) := (Fr.refl _ _).alloc _
    have HG : Hid (Calls _ _ _ _ _) := gather_any (H.out.fresh F0) (B := w1.heap.size) (by simpa [byteCells] using Has.new w1 _ 158) ea wd hw1 hw8 hin
    have HF0 : Hid (Fr _ _ _) := F0
    clear F0
    have s1 := fun w => run_arrHi w1.heap.size wd w hw8 wd rfl
    go_wp2_with fail
    refine HG.out.mono ?_
    clear HG s1
    rintro e w2 ⟨rfl, f2, b2⟩
    obtain ⟨b0, b1, b3, b4, b5, b6, b7, b8, hbs⟩ := eight (l := d.bytes ea wd ++ List.replicate (8 - wd) 0) (by simp [KD.bytes_len]; omega)
    have hb0 : (b0.toNat : Int) = (d.byte ea).toNat := by
      obtain ⟨k, rfl⟩ : ∃ k, wd = k + 1 := ⟨wd - 1, by omega⟩
      rw [KD.bytes, List.range_succ_eq_map] at hbs
      simp at hbs
      rw [hbs.1]
    rw [hbs] at b2
    simp only [byteCells, List.map_cons, List.map_nil] at b2
    generalize (b0.toNat : Int) = v0 at *
    generalize (b1.toNat : Int) = v1 at *
    generalize (b3.toNat : Int) = v2 at *
    generalize (b4.toNat : Int) = v3 at *
    generalize (b5.toNat : Int) = v4 at *
    generalize (b6.toNat : Int) = v5 at *
    generalize (b7.toNat : Int) = v6 at *
    generalize (b8.toNat : Int) = v7 at *
    have hv0 : 0 ≤ v0 ∧ v0 ≤ 255 := by have := (d.byte ea).toNat_lt; omega
    have HB0 : Hid (v0 = (d.byte ea).toNat) := hb0
    have F2 : Hid (Fr (fun _ => False) w1 w2) := HF0.out.trans f2 (fun j hj e => by omega)
    have B2 : Hid (Has w2 w1.heap.size _ _) := b2
    have q0 := b2.cell 0
    have q1 := b2.cell 1
    have q2 := b2.cell 2
    have q3 := b2.cell 3
    have q4 := b2.cell 4
    have q5 := b2.cell 5
    have q6 := b2.cell 6
    have q7 := b2.cell 7
    simp at q0 q1 q2 q3 q4 q5 q6 q7
    clear hb0 hbs f2 b2 HF0 H
    generalize w1.heap.size = B at *
    have s2 := fun w => run_arrHi B 2 w (by omega) 2 rfl
    have s4 := fun w => run_arrHi B 4 w (by omega) 4 rfl
    have s5 := fun w => run_arrLo B w
    have t1 := fun w => run_arrAt 289 2 5 (by kernel_rfl) ⟨B, 0, none⟩ 2 8 (by omega) w
    have t2 := fun w => run_arrAt 165 4 5 (by kernel_rfl) ⟨B, 0, none⟩ 4 8 (by omega) w
    have t3 := fun w => run_arrAt 165 4 5 (by kernel_rfl) ⟨B, 4, none⟩ 4 4 (by omega) w
    go_wp2_with fail
    refine (le16_any B v0 v1 w2 q0 q1).mono ?_
    rintro e w3 ⟨n16, rfl, f3⟩
    clear q0 q1 q2 q3 q4 q5 q6 q7
    have F3 : Hid (Fr (fun _ => False) w1 w3) := F2.out.trans f3 (fun _ _ h => h)
    have B3 : Hid (Has w3 B _ _) := B2.out.fr f3 (fun h => h)
    have q0 := B3.out.cell 0
    have q1 := B3.out.cell 1
    have q2 := B3.out.cell 2
    have q3 := B3.out.cell 3
    have q4 := B3.out.cell 4
    have q5 := B3.out.cell 5
    have q6 := B3.out.cell 6
    have q7 := B3.out.cell 7
    simp at q0 q1 q2 q3 q4 q5 q6 q7
    clear f3
    go_wp2_with fail
    refine (le32_any _ _ _ _ v0 v1 v2 v3 rfl rfl rfl rfl w3).mono ?_
    rintro e w4 ⟨n32, rfl, f4⟩
    clear q0 q1 q2 q3 q4 q5 q6 q7
    have F4 : Hid (Fr (fun _ => False) w1 w4) := F3.out.trans f4 (fun _ _ h => h)
    have B4 : Hid (Has w4 B _ _) := B3.out.fr f4 (fun h => h)
    have q0 := B4.out.cell 0
    have q1 := B4.out.cell 1
    have q2 := B4.out.cell 2
    have q3 := B4.out.cell 3
    have q4 := B4.out.cell 4
    have q5 := B4.out.cell 5
    have q6 := B4.out.cell 6
    have q7 := B4.out.cell 7
    simp at q0 q1 q2 q3 q4 q5 q6 q7
    clear f4
    go_wp2_with fail
    refine (le32_any _ _ _ _ v4 v5 v6 v7 rfl rfl rfl rfl w4).mono ?_
    rintro e w5 ⟨m32, rfl, f5⟩
    clear q0 q1 q2 q3 q4 q5 q6 q7
    have F5 : Hid (Fr (fun _ => False) w1 w5) := F4.out.trans f5 (fun _ _ h => h)
    have B5 : Hid (Has w5 B _ _) := B4.out.fr f5 (fun h => h)
    have q0 := B5.out.cell 0
    have q1 := B5.out.cell 1
    have q2 := B5.out.cell 2
    have q3 := B5.out.cell 3
    have q4 := B5.out.cell 4
    have q5 := B5.out.cell 5
    have q6 := B5.out.cell 6
    have q7 := B5.out.cell 7
    simp at q0 q1 q2 q3 q4 q5 q6 q7
    clear f5
    go_wp2
    all_goals
      go_ret2
      refine ⟨_, _, rfl, ?_, F5.out, .inr ⟨rfl, ea, hok, ?_⟩⟩
      · first | exact i64_wrap _ | (unfold I64; omega)
      · intro h22
        first | exact HB0.out | (exfalso; subst h22; simp_all)
theorem kload_any (h : KRep w bk L d) (op a off : Int) (h1 : 19 ≤ op) (h2 : op ≤ 24) :
    Calls Tryz.prog 43 #[.pointer (some ⟨bk, 0, none⟩), .int .i64 op, .int .i64 a, .int .i64 off] w fun e w' => ∃ n er, e = .returned (.tuple #[.int .i64 n, .int .i64 er]) ∧ (er = 0 ∨ er = 12) ∧ I64 n ∧ Fr (fun _ => False) w w' := by
  refine (kload_core h op a off h1 h2 True (fun _ => True) ((reach_any h op 19 24 a off (by omega) (by omega) (by omega) (by omega)).mono ?_)).mono ?_
  · rintro e w' ⟨hr | ⟨ea, wd, e1, e2, e3, e4⟩, rfl⟩
    · exact ⟨.inl ⟨trivial, hr⟩, rfl⟩
    · exact ⟨.inr ⟨ea, wd, trivial, e1, e2, e3, e4⟩, rfl⟩
  · rintro e w' ⟨n, er, e1, e2, e3, ⟨e4, _⟩ | ⟨e4, _⟩⟩
    · exact ⟨n, er, e1, .inr e4, e2, e3⟩
    · exact ⟨n, er, e1, .inl e4, e2, e3⟩
theorem reach_byte (h : KRep w bk L d) (i : Nat) (hi : i < d.pages.length * 8) :
    Calls Tryz.prog 67 #[.pointer (some ⟨bk, 0, none⟩), .int .i64 22, .int .i64 19, .int .i64 24, .int .i64 i, .int .i64 0] w fun e w' => e = .returned (.tuple #[.int .i64 i, .int .i64 1, .int .i64 0]) ∧ w' = w := by
  have c0 := h.here.cell 0
  simp at c0
  have hp : d.pages.length ≤ 4 := by have := h.le; have := h.max; omega
  have hm : (i : Int) % 4294967296 = i := by omega
  have hb : ∀ h, (((⟨#[4, 8, 1, 1, 2, 2, 4, 8, 1, 2]⟩ : ByteArray)[3]'h).toNat : Int) = 1 := fun _ => rfl
  have hle : (i : Int) + 1 ≤ d.pages.length * 8 := by omega
  clear h
  go_enter Tryz.func67, Tryz.ntmps67
  go_wp2
  (try simp only [Exit.inBlock, Exit.then])
  refine bodyPost_ret (results_tmp3 rfl _ _ _) rfl ?_
  exact ⟨rfl, rfl⟩
/-- the byte at place i -/
theorem kbyte_any (h : KRep w bk L d) (i : Nat) (hi : i < d.pages.length * 8) :
    Calls Tryz.prog 43 #[.pointer (some ⟨bk, 0, none⟩), .int .i64 22, .int .i64 i, .int .i64 0] w fun e w' => e = .returned (.tuple #[.int .i64 (d.byte i).toNat, .int .i64 0]) ∧ Fr (fun _ => False) w w' := by
  refine (kload_core h 22 i 0 (by omega) (by omega) False (fun ea => ea = i) ((reach_byte h i hi).mono ?_)).mono ?_
  · rintro e w' ⟨hr, rfl⟩
    exact ⟨.inr ⟨i, 1, rfl, by omega, by omega, by omega, hr⟩, rfl⟩
  · rintro e w' ⟨n, er, e1, e2, e3, ⟨e4, e5⟩ | ⟨e4, ea, rfl, e5⟩⟩
    · exact e5.elim
    · exact ⟨by rw [e1, e4, e5 rfl], e3⟩
end
end Go.Proofs.Qxb6500575aGreatDoor
