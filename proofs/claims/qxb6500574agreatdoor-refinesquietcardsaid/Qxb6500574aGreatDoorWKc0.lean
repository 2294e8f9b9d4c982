/-
  THE WALKS of comp: fits, closed.
-/
import Derived.Test.Qxb6500574aGreatDoorWCm1
import Derived.Test.Qxb6500574aGreatDoorWFt2
namespace Go.Proofs.Qxb6500574aGreatDoor
open Go Go.RowKit
set_option linter.unusedVariables false
set_option linter.unusedSimpArgs false
open Go.Lib
section
set_option maxRecDepth 100000
set_option maxHeartbeats 1000000
variable {w : World} {o : Nat → Nat} {C : CC} {N : List Nd} {c : CmD} {x : Nat}
theorem fits_any (R : CRep w o C N c) (hx : x < c.np) {op y : Nat} (hi : FtD c x (op, y)) (h16 : y < 65536) :
    Calls Tryz.prog 59 #[fptr C.gF x, .agg #[.int .u8 op, .int .u16 y]] w fun e w' => e = .returned (.bool true) ∧ Fr (fun _ => False) w w' := by
  obtain ⟨xs, L, F⟩ := R.fn hx
  have c0 := F.cell 0 (by omega)
  have c4 := F.cell 4 (by omega)
  have c5 := F.cell 5 (by omega)
  have c6 := F.cell 6 (by omega)
  have c9 := F.cell 9 (by omega)
  have fl := F.lt
  have hc := F.ok.1
  have b4 := R.blk.has.cell 4
  have bl := R.blk.has.lt
  simp only [fnV, comC, hc, Option.map_some, Nat.add_zero, List.getElem?_toArray, List.getElem?_cons_succ, List.getElem?_cons_zero, Sl.v] at c0 c4 c5 c6 c9 b4
  have HCN : Hid (Row w o (labF x 2) 68 3 L.cn (c.fn x).consts.length ((c.fn x).consts.flatMap vCells)) := F.one.cn
  obtain ⟨v1, HV1⟩ : ∃ v, Hid ((c.fn x).nslots = v) := ⟨_, rfl⟩
  obtain ⟨v2, HV2⟩ : ∃ v, Hid ((c.fn x).ups.length = v) := ⟨_, rfl⟩
  obtain ⟨v3, HV3⟩ : ∃ v, Hid ((c.fn x).consts.length = v) := ⟨_, rfl⟩
  obtain ⟨v4, HV4⟩ : ∃ v, Hid ((c.fn x).code.length = v) := ⟨_, rfl⟩
  obtain ⟨np, HNP⟩ : ∃ v, Hid (c.np = v) := ⟨_, rfl⟩
  rw [HV1.out] at c4
  rw [HV2.out] at c5
  rw [HV3.out] at c6
  rw [HV4.out] at c9
  rw [HNP.out] at b4
  clear F hc
  unfold fptr
  unfold FtD at hi
  dsimp only at hi
  rw [HV1.out, HV2.out, HV3.out, HV4.out, HNP.out] at hi
  rcases hi with ⟨rfl, h⟩ | ⟨h1, s, hs⟩ | ⟨h1, h⟩ | ⟨h1, h⟩ | ⟨h1, h⟩ | ⟨h1, h, h6⟩ | ⟨h1, h⟩ | ⟨rfl, h⟩ | ⟨rfl, h, h3⟩ | ⟨rfl, h, h3, h4⟩ | ⟨h1, rfl⟩
  · have hh : (y : Int) < (v3 : Int) := by omega
    go_enter Tryz.func59, Tryz.ntmps59
    go_wp2_with fail
    go_ret
    exact ⟨rfl, (Fr.refl _ _).alloc _⟩
  · have hlt := (List.getElem?_eq_some_iff.1 hs).1
    have hh : (y : Int) < (v3 : Int) := by rw [HV3.out] at hlt; omega
    obtain ⟨g, e1, e2, e3, e4, e5, e6⟩ := HCN.out.at vCells_len hs
    have k0 := e5 0 (by omega)
    rw [HV3.out] at e2
    simp only [vCells, strV, List.getElem?_cons_succ, List.getElem?_cons_zero, Nat.add_zero] at k0
    rw [e1] at c6
    have g2 : y < L.cn.c := by omega
    clear e1 e3 e5 e6 hs HCN hlt
    rcases h1 with rfl | rfl
    · go_enter Tryz.func59, Tryz.ntmps59
      go_wp2_with fail
      go_ret
      exact ⟨rfl, (Fr.refl _ _).alloc _⟩
    · go_enter Tryz.func59, Tryz.ntmps59
      go_wp2_with fail
      go_ret
      exact ⟨rfl, (Fr.refl _ _).alloc _⟩
  · have hh : (y : Int) < (v1 : Int) := by omega
    rcases h1 with rfl | rfl | rfl <;>
    · go_enter Tryz.func59, Tryz.ntmps59
      go_wp2_with fail
      go_ret
      exact ⟨rfl, (Fr.refl _ _).alloc _⟩
  · have hh : (y : Int) < (v1 : Int) := by omega
    rcases h1 with rfl | rfl | rfl <;>
    · go_enter Tryz.func59, Tryz.ntmps59
      go_wp2_with fail
      go_ret
      exact ⟨rfl, (Fr.refl _ _).alloc _⟩
  · have hh : (y : Int) < (v2 : Int) := by omega
    rcases h1 with rfl | rfl <;>
    · go_enter Tryz.func59, Tryz.ntmps59
      go_wp2_with fail
      go_ret
      exact ⟨rfl, (Fr.refl _ _).alloc _⟩
  · have hh : (1 : Int) ≤ (y : Int) := by omega
    have hh6 : (y : Int) ≤ 6 := by omega
    rcases h1 with rfl | rfl <;>
    · go_enter Tryz.func59, Tryz.ntmps59
      go_wp2_with fail
      go_ret
      exact ⟨rfl, (Fr.refl _ _).alloc _⟩
  · have hh : (y : Int) ≤ (v4 : Int) := by omega
    rcases h1 with rfl | rfl | rfl | rfl <;>
    · go_enter Tryz.func59, Tryz.ntmps59
      go_wp2_with fail
      go_ret
      exact ⟨rfl, (Fr.refl _ _).alloc _⟩
  · have hh : (y : Int) ≤ 3 := by omega
    go_enter Tryz.func59, Tryz.ntmps59
    go_wp2_with fail
    go_ret
    exact ⟨rfl, (Fr.refl _ _).alloc _⟩
  · have hh : (1 : Int) ≤ (y : Int) := by omega
    have hh6 : (y : Int) ≤ 300 := by omega
    go_enter Tryz.func59, Tryz.ntmps59
    go_wp2_with fail
    go_ret
    exact ⟨rfl, (Fr.refl _ _).alloc _⟩
  · have hh : (1 : Int) ≤ (y : Int) := by omega
    have hh6 : (y : Int) < (np : Int) := by omega
    go_enter Tryz.func59, Tryz.ntmps59
    go_wp2_with fail
    go_ret
    exact ⟨rfl, (Fr.refl _ _).alloc _⟩
  · rcases h1 with rfl | rfl | rfl | rfl | rfl | rfl | rfl | rfl | rfl | rfl | rfl | rfl <;>
    · go_enter Tryz.func59, Tryz.ntmps59
      go_wp2_with fail
      go_ret
      exact ⟨rfl, (Fr.refl _ _).alloc _⟩
end
end Go.Proofs.Qxb6500574aGreatDoor
