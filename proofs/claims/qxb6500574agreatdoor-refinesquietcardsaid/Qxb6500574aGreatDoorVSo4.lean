/-
  THE WALK of vm: sound: whole.
-/
import Derived.Test.Qxb6500574aGreatDoorVSo1
import Derived.Test.Qxb6500574aGreatDoorVSo2
import Derived.Test.Qxb6500574aGreatDoorVSo3
namespace Go.Proofs.Qxb6500574aGreatDoor
open Go Go.RowKit
set_option linter.unusedVariables false
set_option linter.unusedSimpArgs false
section
variable {w : World} {A : VL} {m : VMD} {f e i g j gp pi : Nat} {t : ThD} {K : Cx} {fm : FmD} {p : PrD}
set_option maxRecDepth 100000
set_option maxHeartbeats 600000
/-- vm.sound -/
theorem sound_any (h : PB w A m f e K i t fm g j gp pi p) {op x : Nat} (hop : op < 256) (hx16 : x < 65536) : Calls Tryz.prog 263 #[.pointer (some ⟨A.b, 0, none⟩), .pointer (some ⟨A.bT, i * 5, none⟩), .pointer (some ⟨g, j * 5, none⟩), .pointer (some ⟨gp, pi * 8, none⟩), .int .u8 op, .int .i64 x] w (SoPost (soundP m i op x) w) := by
  by_cases k1 : op = 1
  · subst k1
    exact sound_1 h hx16
  by_cases k9 : op = 9
  · subst k9
    exact sound_9 h hx16
  by_cases k10 : op = 10
  · subst k10
    exact sound_10 h hx16
  by_cases k5 : op = 5
  · subst k5
    exact sound_5 h hx16
  by_cases k6 : op = 6
  · subst k6
    exact sound_6 h hx16
  by_cases k7 : op = 7
  · subst k7
    exact sound_7 h hx16
  by_cases k8 : op = 8
  · subst k8
    exact sound_8 h hx16
  by_cases k15 : op = 15
  · subst k15
    exact sound_15 h hx16
  by_cases k16 : op = 16
  · subst k16
    exact sound_16 h hx16
  by_cases k21 : op = 21
  · subst k21
    exact sound_21 h hx16
  by_cases k22 : op = 22
  · subst k22
    exact sound_22 h hx16
  by_cases k23 : op = 23
  · subst k23
    exact sound_23 h hx16
  by_cases k24 : op = 24
  · subst k24
    exact sound_24 h hx16
  by_cases k26 : op = 26
  · subst k26
    exact sound_26 h hx16
  by_cases k29 : op = 29
  · subst k29
    exact sound_29 h hx16
  by_cases k30 : op = 30
  · subst k30
    exact sound_30 h hx16
  by_cases k32 : op = 32
  · subst k32
    exact sound_32 h hx16
  by_cases k31 : op = 31
  · subst k31
    exact sound_31 h hx16
  by_cases k28 : op = 28
  · subst k28
    exact sound_28 h hx16
  exact sound_rest h hop hx16 k1 k9 k10 k5 k6 k7 k8 k15 k16 k21 k22 k23 k24 k26 k29 k30 k32 k31 k28
end
end Go.Proofs.Qxb6500574aGreatDoor
