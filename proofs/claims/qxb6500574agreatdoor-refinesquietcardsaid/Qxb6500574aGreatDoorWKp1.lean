/-
  THE WALK of complaw: RunImage.
-/
import Derived.Test.Qxb6500574aGreatDoorWKp0
namespace Go.Proofs.Qxb6500574aGreatDoor
open Go Go.RowKit
set_option linter.unusedVariables false
set_option linter.unusedSimpArgs false
section
set_option maxRecDepth 100000
set_option maxHeartbeats 1000000
variable {w : World} {o : Nat → Nat} {C : CC} {sx bc : Nat} {num : Value} {c : CmD} {A : VL}
theorem runImage_any (h : CM bc w o A C sx num c) {im : Bs} {fuel : Int} (hf1 : fuel ≤ 9223372036854775807) {n : Nat} {an : AnD} (hr : runN n im fuel = some an) (a0 a2 : Nat) :
    Calls Tryz.prog 24 #[.agg #[.pointer (some ⟨a0, 0, none⟩), .pointer (some ⟨bc, 0, none⟩), .pointer (some ⟨a2, 0, none⟩)], sv im, .int .i64 fuel] w (RuQ bc w o C sx num an) := by
  obtain ⟨W0, HW0⟩ : ∃ W, Hid (w.alloc (.cells #[.pointer (some ⟨a0, 0, none⟩), .pointer (some ⟨bc, 0, none⟩), .pointer (some ⟨a2, 0, none⟩)] 27) = W) := ⟨_, Eq.refl _⟩
  have e0 : w.alloc (.cells #[.pointer (some ⟨a0, 0, none⟩), .pointer (some ⟨bc, 0, none⟩), .pointer (some ⟨a2, 0, none⟩)] 27) = W0 := HW0.out
  obtain ⟨ba, HBA⟩ : ∃ b, Hid (W0.heap.size = b) := ⟨_, rfl⟩
  obtain ⟨W1, HW1⟩ : ∃ W, Hid (W0.alloc (.cells #[.int .i64 0, .int .i64 0, .int .i64 0, sv [], sv []] 54) = W) := ⟨_, Eq.refl _⟩
  have e1 : W0.alloc (.cells #[.int .i64 0, .int .i64 0, .int .i64 0, sv [], sv []] 54) = W1 := HW1.out
  have F0 : Fr (fun _ => False) w W0 := by rw [← HW0.out]; exact (Fr.refl _ _).alloc _
  have M0 : CM bc W0 o A C sx num c := h.st (Stp.fresh (fun _ => False) o F0) (fun x => x) (fun x => x) (fun _ _ x => x)
  have hL := M0.local (.cells #[.int .i64 0, .int .i64 0, .int .i64 0, sv [], sv []] 54)
  have hA : Has _ ba #[.int .i64 0, .int .i64 0, .int .i64 0, sv [], sv []] 54 := Has.newC W0 _ _ HBA.out.symm
  have hB : Has _ w.heap.size #[.pointer (some ⟨a0, 0, none⟩), .pointer (some ⟨bc, 0, none⟩), .pointer (some ⟨a2, 0, none⟩)] 27 := (Has.newC w _ _ rfl).alloc (.cells #[.int .i64 0, .int .i64 0, .int .i64 0, sv [], sv []] 54)
  rw [HW0.out, HW1.out] at hB
  rw [HBA.out, HW1.out] at hL
  rw [HW1.out] at hA
  have d1 := hB.cell 1
  have dl := hB.lt
  simp only [List.getElem?_toArray, List.getElem?_cons_succ, List.getElem?_cons_zero] at d1
  have HM1 : Hid (CM bc W1 (upd o ba 998) A C sx num c) := hL.1
  have HS1 : Hid (Stp QM w o W1 (upd o ba 998)) := (Stp.fresh QM o F0).trans hL.2
  have HA1 : Hid (Has W1 ba #[.int .i64 0, .int .i64 0, .int .i64 0, sv [], sv []] 54) := hA
  have HRN : Hid (Calls Tryz.prog 32 #[.pointer (some ⟨bc, 0, none⟩), sv im, .int .i64 fuel] W1 (RnPost bc W1 A an)) := runC_any HM1.out.I hf1 hr
  clear h hL hA hB hr M0 F0
  go_enter Tryz.func24, Tryz.ntmps24
  go_wp2_with fail
  rw [HBA.out]
  refine HRN.out.mono ?_
  rintro e3 w3 ⟨rfl, A3, I3, S3⟩
  obtain ⟨o3, M3, T3⟩ := HM1.out.run I3 S3
  have ha3 := T3.has HA1.out (by rw [upd_self]; omega)
  have oa3 : o3 ba = 998 := by rw [T3.ext ba HA1.out.lt]; exact upd_self _ _ _
  have HF2 : Hid _ := ru_put (an := an) M3 rfl rfl (HS1.out.trans (T3.weaken (fun l hl => .inr (.inl hl)))) ha3 oa3
  have a0 := ha3.cell 0
  have a1 := ha3.cell 1
  have a2 := ha3.cell 2
  have a3 := ha3.cell 3
  have a4 := ha3.cell 4
  have az := ha3.frozen
  have az0 := az 0
  have az1 := az 1
  have az2 := az 2
  have az3 := az 3
  have az4 := az 4
  have al := ha3.lt
  simp only [List.getElem?_toArray, List.getElem?_cons_succ, List.getElem?_cons_zero] at a0 a1 a2 a3 a4
  obtain ⟨ae, an', am, ax, ay⟩ := an
  clear HRN HM1 HS1 HA1 M3 T3 I3 S3 ha3 oa3 az e0 e1 HW0 HW1 HBA d1 dl
  go_wp2_with fail
  exact bodyPost_ret (res_cell isAns rfl rfl HF2.out.2 rfl) rfl HF2.out.1
end
end Go.Proofs.Qxb6500574aGreatDoor
