/-
  THE WALK of mach.Grow, exact; mach's contracts, exact, together.
-/
import Derived.Test.Qxb6500575aGreatDoorXStore
import Derived.Test.Qxb6500575aGreatDoorKGrow
import Derived.Test.Qxb6500575aGreatDoorXBin0
namespace Go.Proofs.Qxb6500575aGreatDoor
open Go Go.RowKit
set_option linter.unusedVariables false
set_option linter.unusedSimpArgs false

theorem KD.longer_flat (d : KD) (m : Nat) : (d.longer m).flat = d.flat ++ List.replicate (m * 8) 0 := by
  apply List.ext_getElem?
  intro i
  have hl : (d.longer m).pages.length = d.pages.length + m := by simp [KD.longer]
  have hf := d.flat_len
  have hf2 := (d.longer m).flat_len
  by_cases hi : i < (d.pages.length + m) * 8
  · rw [(d.longer m).flat_byte i (by omega)]
    by_cases h1 : i < d.pages.length * 8
    · rw [List.getElem?_append_left (by omega), d.flat_byte i h1]
      congr 1
      unfold KD.byte KD.longer
      simp only
      rw [List.getElem?_append_left (by omega)]
    · rw [List.getElem?_append_right (by omega), List.getElem?_replicate, if_pos (by omega)]
      congr 1
      unfold KD.byte KD.longer
      simp only
      rw [List.getElem?_append_right (by omega), List.getElem?_replicate, if_pos (by omega)]
      rfl
  · rw [List.getElem?_eq_none (by omega), List.getElem?_eq_none (by simp; omega)]
section
variable {w : World} {bk : Nat} {L : KL} {d : KD}
set_option maxRecDepth 100000
set_option maxHeartbeats 1000000
theorem xgrow_any (h : KRep w bk L d) (n : Int) : Calls Tryz.prog 103 #[.pointer (some ⟨bk, 0, none⟩), .int .i64 n] w fun e w' => ∃ L' d', e = .returned (.int .i64 (growP d.flat d.max n).2) ∧ KRep w' bk L' d' ∧ KStep w w' bk L L' ∧ d'.flat = (growP d.flat d.max n).1 ∧ d'.max = d.max := by
  obtain ⟨r, HR⟩ : ∃ r, Hid (r = growP d.flat d.max n) := ⟨_, rfl⟩
  rw [← HR.out]
  obtain ⟨r1, r2⟩ := r
  have HFL : Hid (d.flat.length / 8 = d.pages.length) := by show _ = _; rw [d.flat_len]; omega
  have c0 := h.here.cell 0
  have c1 := h.here.cell 1
  simp at c0 c1
  have f0 := h.here.frozen 0
  have k1 := h.here.lt
  have hle := h.le
  have hmx := h.max
  obtain ⟨m, hm⟩ : ∃ m : Nat, bits .and .i64 n 4294967295 = m := ⟨(bits .and .i64 n 4294967295).toNat, by have := and32 n; omega⟩
  have HM : Hid (n % 4294967296 = m) := by show _ = _; rw [← hm, andiU]
  have hml : m ≤ 4294967295 := by have := and32 n; omega
  have H : Hid (KRep w bk L d) := h
  have HO : Hid (w.ownsRow 0 223 1 (.slice L.pa d.pages.length L.pc) d.pages.length (L.ps.map ptrV)) := h.row
  clear h
  by_cases hbig : (d.max : Int) - d.pages.length < m
  · go_enter Tryz.func103, Tryz.ntmps103
    go_wp2
    go_ret
    have := HR.out
    unfold growP at this
    rw [HFL.out, HM.out, if_pos hbig] at this
    cases this
    exact ⟨L, d, rfl, H.out, KStep.refl _ _ _, rfl, rfl⟩
  · go_enter Tryz.func103, Tryz.ntmps103
    go_wp2_with (at_builtin; go_must (refine wpList_appz rowPage.1 rowPage.2.1 rowPage.2.2 rfl rfl _ rfl (.tmp 25) (.tmp 26) rfl _ _ _ rfl HO.out m rfl ?bd ?go))
    case bd => omega
    case go =>
      intro a cap w1 q1 q2 q3
      obtain ⟨r1, r2⟩ := H.out.longer m (by omega) q1 q2 q3
      have hH : Has w1 bk _ _ := H.out.here.fr q2 (fun e => owns_ne H.out.row H.out.here (by decide) e)
      have d0 := hH.cell 0
      simp at d0
      have g0 := hH.frozen 0
      have g1 := hH.lt
      have R1 : Hid (KRep _ _ _ _) := r1
      have R2 : Hid (KStep _ _ _ _ _) := r2
      clear q1 q2 q3 r1 r2 hH H HO
      go_wp2
      go_ret
      have := HR.out
      unfold growP at this
      rw [HFL.out, HM.out, if_neg (by omega), Int.toNat_natCast, ← KD.longer_flat] at this
      cases this
      exact ⟨_, _, rfl, R1.out, R2.out, rfl, rfl⟩
end
/-- mach's contracts, exact -/
structure MachX : Prop where
  grow : ∀ {w bk L d} (n : Int), KRep w bk L d → Calls Tryz.prog 103 #[.pointer (some ⟨bk, 0, none⟩), .int .i64 n] w fun e w' => ∃ L' d', e = .returned (.int .i64 (growP d.flat d.max n).2) ∧ KRep w' bk L' d' ∧ KStep w w' bk L L' ∧ d'.flat = (growP d.flat d.max n).1 ∧ d'.max = d.max
  load : ∀ {w bk L d} (op a off : Int), KRep w bk L d → 19 ≤ op → op ≤ 24 → Calls Tryz.prog 43 #[.pointer (some ⟨bk, 0, none⟩), .int .i64 op, .int .i64 a, .int .i64 off] w fun e w' => e = .returned (.tuple #[.int .i64 (loadP d.flat op a off).1, .int .i64 (loadP d.flat op a off).2]) ∧ Fr (fun _ => False) w w'
  store : ∀ {w bk L d} (op a off v : Int), KRep w bk L d → 25 ≤ op → op ≤ 28 → Calls Tryz.prog 104 #[.pointer (some ⟨bk, 0, none⟩), .int .i64 op, .int .i64 a, .int .i64 off, .int .i64 v] w fun e w' => ∃ L' d', e = .returned (.int .i64 (storeP d.flat op a off v).2) ∧ KRep w' bk L' d' ∧ KStep w w' bk L L' ∧ d'.flat = (storeP d.flat op a off v).1 ∧ d'.max = d.max
  alu : ∀ {w bk} (op a b : Int), I64 a → I64 b → (29 ≤ op ∧ op ≤ 33) ∨ (40 ≤ op ∧ op < 56) ∨ (60 ≤ op ∧ op < 76) → Calls Tryz.prog 131 #[.pointer (some ⟨bk, 0, none⟩), .int .i64 op, .int .i64 a, .int .i64 b] w fun e w' => e = .returned (.tuple #[.int .i64 (aluP op a b).1, .int .i64 (aluP op a b).2]) ∧ w' = w
theorem machX : MachX where
  grow := fun n h => xgrow_any h n
  load := fun op a off h h1 h2 => xload_any h op a off h1 h2
  store := fun op a off v h h1 h2 => xstore_any h op a off v h1 h2
  alu := fun op a b ha hb hop => xalu_any _ op a b ha hb hop _
end Go.Proofs.Qxb6500575aGreatDoor
