/-
  THE WALKS of prep.sound and prep.Prog.Check.
-/
import Derived.Test.Qxb6500576aGreatDoorProgOps
import Derived.Test.Qxb6500576aGreatDoorLaw4
namespace Go.Proofs.Qxb6500576aGreatDoor
open Go Go.RowKit
set_option linter.unusedVariables false
set_option linter.unusedSimpArgs false

set_option maxRecDepth 100000 in
set_option maxHeartbeats 4000000 in
theorem sound_any (c : Flat) (pc n : Nat) (hn : n ≤ 1000) (h : SoundOk n pc c) (w : World) :
    Calls Tryz.prog 48 #[c.val, .int .i64 pc, .int .i64 n] w fun e w' => e = .returned (.bool true) ∧ Fr (fun _ => False) w w' := by
  obtain ⟨op, imm, keep, cut⟩ := c
  obtain ⟨⟨k0, k1⟩, ⟨c0, c1⟩, hl, hj, ht⟩ := h
  simp only at k0 k1 c0 c1 hl hj ht
  unfold Flat.val
  simp only
  by_cases h5 : op = 5
  · have hpn := hl.1 h5
    subst h5
    obtain rfl : n = pc + 1 := hpn.symm
    clear hl hj ht
    go_enter Tryz.func48, Tryz.ntmps48
    go_wp2
    go_ret
    exact ⟨rfl, (Fr.refl _ _).alloc _⟩
  · have hpn : ¬ pc + 1 = n := fun e => h5 (hl.2 e)
    have b5 : (op == 5) = false := beq_eq_false_iff_ne.2 h5
    have bn : ((pc : Int) == (n : Int) - 1) = false := by rw [beq_eq_false_iff_ne]; omega
    clear hl
    by_cases h3 : op = 3
    · obtain ⟨j0, j1⟩ := hj (.inl h3)
      subst h3
      clear hj ht
      go_enter Tryz.func48, Tryz.ntmps48
      go_wp2
      go_ret
      exact ⟨rfl, (Fr.refl _ _).alloc _⟩
    by_cases h4 : op = 4
    · obtain ⟨j0, j1⟩ := hj (.inr (.inl h4))
      subst h4
      clear hj ht
      go_enter Tryz.func48, Tryz.ntmps48
      go_wp2
      go_ret
      exact ⟨rfl, (Fr.refl _ _).alloc _⟩
    by_cases h6 : op = 6
    · obtain ⟨j0, j1⟩ := hj (.inr (.inr (.inl h6)))
      subst h6
      clear hj ht
      go_enter Tryz.func48, Tryz.ntmps48
      go_wp2
      go_ret
      exact ⟨rfl, (Fr.refl _ _).alloc _⟩
    by_cases h7 : op = 7
    · obtain ⟨j0, j1⟩ := hj (.inr (.inr (.inr h7)))
      subst h7
      clear hj ht
      go_enter Tryz.func48, Tryz.ntmps48
      go_wp2
      go_ret
      exact ⟨rfl, (Fr.refl _ _).alloc _⟩
    by_cases h8 : op = 8
    · obtain ⟨j0, j1⟩ := ht h8
      subst h8
      clear hj ht
      go_enter Tryz.func48, Tryz.ntmps48
      go_wp2
      go_ret
      exact ⟨rfl, (Fr.refl _ _).alloc _⟩
    have b3 : (op == 3) = false := beq_eq_false_iff_ne.2 h3
    have b4 : (op == 4) = false := beq_eq_false_iff_ne.2 h4
    have b6 : (op == 6) = false := beq_eq_false_iff_ne.2 h6
    have b7 : (op == 7) = false := beq_eq_false_iff_ne.2 h7
    have b8 : (op == 8) = false := beq_eq_false_iff_ne.2 h8
    clear hj ht
    go_enter Tryz.func48, Tryz.ntmps48
    go_wp2
    go_ret
    exact ⟨rfl, (Fr.refl _ _).alloc _⟩
end Go.Proofs.Qxb6500576aGreatDoor
