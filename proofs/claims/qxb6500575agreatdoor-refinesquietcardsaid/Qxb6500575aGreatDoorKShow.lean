/-
  THE WALKS of mach: Show, New; machm.New; run: Show, High, Check, New.
-/
import Derived.Test.Qxb6500575aGreatDoorKLoad
import Derived.Test.Qxb6500575aGreatDoorNum
namespace Go.Proofs.Qxb6500575aGreatDoor
open Go Go.RowKit
set_option linter.unusedVariables false
set_option linter.unusedSimpArgs false

theorem num_name (s : List UInt8) (n : Int) (w : World) (hs : s.length ≤ 1000000) :
    Calls Tryz.prog 42 #[sv s, .int .i64 n] w fun e w' => ∃ z, e = .returned (sv z) ∧ Hid (z = s ++ numT n) ∧ z.length ≤ s.length + 22 ∧ Fr (fun _ => False) w w' := by
  refine (num_any s n w hs).mono ?_
  rintro e w' ⟨h1, h2⟩
  exact ⟨_, h1, rfl, by have := numT_len n; simp; omega, h2⟩
def KD.cells (d : KD) (j : Nat) : List UInt8 := (List.range j).flatMap fun i => numT (d.byte i).toNat
theorem KD.cells_succ (d : KD) (j : Nat) : d.cells (j + 1) = d.cells j ++ numT (d.byte j).toNat := by simp [KD.cells, List.range_succ]
/-- mach.Show -/
def KD.text (d : KD) : List UInt8 := numT d.pages.length ++ numT d.max ++ d.cells (d.pages.length * 8)
section
variable {w : World} {bk : Nat} {L : KL} {d : KD}
set_option maxRecDepth 100000
set_option maxHeartbeats 400000
theorem kshow_any (h : KRep w bk L d) : Calls Tryz.prog 18 #[.pointer (some ⟨bk, 0, none⟩)] w fun e w' => ∃ z, e = .returned (sv z) ∧ Hid (z = d.text) ∧ z.length ≤ 1000 ∧ Fr (fun _ => False) w w' := by
  have c0 := h.here.cell 0
  have c1 := h.here.cell 1
  simp at c0 c1
  have hp : d.pages.length ≤ 4 := by have := h.le; have := h.max; omega
  have H : Hid (KRep w bk L d) := h
  obtain ⟨N, hN⟩ : ∃ N : Nat, d.pages.length = N := ⟨_, rfl⟩
  obtain ⟨M, hM⟩ : ∃ M : Nat, d.max = M := ⟨_, rfl⟩
  have HN : Hid (d.pages.length = N) := hN
  have HM : Hid (d.max = M) := hM
  rw [hN] at c0 hp
  rw [hM] at c1
  have N1 : Hid (Calls _ _ _ _ _) := num_name [] N w (by simp)
  clear h hN hM
  go_enter Tryz.func18, Tryz.ntmps18
  go_wp2_with fail
  refine N1.out.mono ?_
  rintro e w1 ⟨z1, rfl, Z1, hl1, f1⟩
  have k0 : w1.cell? ⟨bk, 0, none⟩ = _ := (H.out.fresh f1).here.cell 0
  have k1 : w1.cell? ⟨bk, 1, none⟩ = _ := (H.out.fresh f1).here.cell 1
  simp at k0 k1
  rw [HN.out] at k0
  rw [HM.out] at k1
  have N2 : Hid (Calls _ _ _ _ _) := num_name z1 M w1 (by simp at hl1; omega)
  have F1 : Hid (Fr _ w w1) := f1
  clear N1 f1 c0 c1
  go_wp2_with fail
  refine N2.out.mono ?_
  rintro e w2 ⟨z2, rfl, Z2, hl2, f2⟩
  have F2 : Fr (fun _ => False) w w2 := F1.out.trans f2 (fun _ _ h => h)
  have k0 : w2.cell? ⟨bk, 0, none⟩ = _ := (H.out.fresh F2).here.cell 0
  simp at k0
  rw [HN.out] at k0
  have HF2 : Hid (Fr _ w w2) := F2
  clear N2 f2 F2 F1
  have hl3 : z2.length ≤ 44 := by simp at hl1; omega
  have HZ : Hid (z2 = numT d.pages.length ++ numT d.max) := by
    show _ = _
    rw [Z2.out, Z1.out, HN.out, HM.out]; simp
  clear Z1 Z2 hl1 hl2
  go_wp2
  go_loopw [25, 3] (fun t u wr => ∃ (j : Nat) (X : List UInt8), j ≤ N * 8 ∧ t = .int .i64 j ∧ u = sv X ∧ X.length ≤ 44 + j * 22 ∧ Hid (X = z2 ++ d.cells j) ∧ Hid (Fr (fun _ => False) w wr)) (fun t _ _ => N * 8 - (intOf t).toNat)
  case atStart => exact ⟨0, z2, Nat.zero_le _, rfl, rfl, by omega, by show z2 = _; simp [KD.cells], HF2⟩
  case round =>
    obtain ⟨j, X, hj, rfl, rfl, hXl, HX, G⟩ := hrel
    by_cases hjl : j < N * 8
    · have hlt : (j : Int) < (N : Int) * 8 := by omega
      have KB : Hid (Calls _ _ _ _ _) := kbyte_any (H.out.fresh G.out) j (by have := HN.out; omega)
      go_wp2_with fail
      refine KB.out.mono ?_
      rintro e w3 ⟨rfl, f3⟩
      obtain ⟨bv, HBV⟩ : ∃ bv : Int, Hid (bv = (d.byte j).toNat) := ⟨_, rfl⟩
      rw [← HBV.out]
      have N3 : Hid (Calls _ _ _ _ _) := num_name X bv w3 (by omega)
      have G3 : Hid (Fr (fun _ => False) w w3) := G.out.trans f3 (fun _ _ h => h)
      clear KB f3
      go_wp2_with fail
      refine N3.out.mono ?_
      rintro e w4 ⟨z4, rfl, Z4, hl4, f4⟩
      have G4 : Hid (Fr (fun _ => False) w w4) := G3.out.trans f4 (fun _ _ h => h)
      clear f4 N3 G3
      go_wp2
      go_roundw
      case rel =>
        refine ⟨j + 1, z4, by omega, by go_num, rfl, by omega, ?_, G4⟩
        show z4 = _
        rw [Z4.out, HX.out, KD.cells_succ, HBV.out, List.append_assoc]
      case measure => simp [intOf]; omega
    · have hge : ¬ (j : Int) < (N : Int) * 8 := by omega
      have hje : j = N * 8 := by omega
      have HE : Hid (X = d.text) := by
        show X = _
        rw [HX.out, HZ.out, hje, KD.text, HN.out]
      clear HX hje
      go_wp2
      go_ret
      exact ⟨X, rfl, HE, by omega, G.out⟩
end
end Go.Proofs.Qxb6500575aGreatDoor
