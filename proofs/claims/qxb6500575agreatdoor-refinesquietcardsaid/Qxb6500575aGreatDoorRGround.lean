/-
  THE WALK of runlaw.Ground.
-/
import Derived.Test.Qxb6500575aGreatDoorRLoad
import Derived.Test.Qxb6500575aGreatDoorMod2
namespace Go.Proofs.Qxb6500575aGreatDoor
open Go Go.RowKit
set_option linter.unusedVariables false
set_option linter.unusedSimpArgs false

/-- what Ground leaves behind -/
def GroundPost (w : World) (e : Ending) (w' : World) : Prop :=
  ∃ bb K, ∃ S : Nat → Prop, ∃ bp LP bk KK pm km, e = .returned (.pointer (some ⟨bb, 0, none⟩)) ∧ BelRep ⟨some ⟨bp, 0, none⟩, some ⟨bk, 0, none⟩, pm, km⟩ S w' bb K BelD.ground ∧ ProgRep (PS bp LP) w' bp LP (ModD.empty.progN 0) ∧ KRep w' bk KK (KD.zero 0 0) ∧
    (∀ k, S k → w.heap.size ≤ k ∧ k < w'.heap.size) ∧ (∀ k, PS bp LP k → w.heap.size ≤ k ∧ ¬ S k) ∧ (∀ k, KS bk KK k → w.heap.size ≤ k ∧ ¬ S k) ∧ Fr (fun _ => False) w w'
set_option maxRecDepth 100000
set_option maxHeartbeats 1000000
theorem rground_any (w : World) : Calls Tryz.prog 9 #[] w (GroundPost w) := by
  have HN : Hid (Calls _ _ _ _ _) := modNew_any w
  go_enter Tryz.func9, Tryz.ntmps9
  go_wp2_with fail
  refine HN.out.mono ?_
  rintro e w1 ⟨rfl, ⟨L, hM⟩, hF, hlt⟩
  obtain ⟨W, HW⟩ : ∃ W, Hid (W = w1.alloc (.cells #[.pointer (some ⟨w.heap.size, 0, none⟩), .slice none 0 0, .pointer none, .pointer none, .pointer none, .pointer none] 36)) := ⟨_, rfl⟩
  have hs : w1.heap.size < W.heap.size := by rw [HW.out]; simp
  have hF1 : Fr (fun _ => False) w1 W := by rw [HW.out]; exact (Fr.refl _ _).alloc _
  have HB : Hid (BelRep ⟨none, none, none, none⟩ (fun k => w.heap.size ≤ k ∧ k < W.heap.size) W w1.heap.size ⟨w.heap.size, L, none, 0⟩ BelD.ground) :=
    { here := by rw [HW.out]; exact Has.new _ _ _
      mod := (hM.fr hF1 (fun _ _ h => h)).sub (fun k hk => by subst hk; exact ⟨⟨Nat.le_refl _, by omega⟩, by omega, by simp [Value.ownBlock]⟩)
      code := ⟨rfl, .inl ⟨rfl, rfl⟩⟩
      own := ⟨by omega, hs⟩
      ownC := fun g hg => by simp [Value.ownBlock] at hg }
  have HLD : Hid (Calls _ _ _ _ _) := rload_good HB.out (fun k hk => hk.2) BelFit.ground rfl
  have HF : Hid (Fr _ w W) := hF.trans hF1 (fun _ _ h => h)
  have HS : Hid (w.heap.size ≤ w1.heap.size) := hF.size
  clear hM hF HN hs hF1 hlt
  go_wp2_with fail
  rw [← HW.out]
  refine HLD.out.mono ?_
  rintro e w2 ⟨rfl, bp, LP, bk, KK, pm, km, b1, b2, b3, b4, b5, b6⟩
  have FIN : Hid (GroundPost w (.returned (.pointer (some ⟨w1.heap.size, 0, none⟩))) w2) := by
    have q1 := HF.out.size
    have q2 := b6.size
    have q3 := HS.out
    refine ⟨_, _, _, bp, LP, bk, KK, pm, km, rfl, b1, b2, b3, fun k hk => ⟨hk.1, by have := hk.2; omega⟩, fun k hk => ⟨?_, fun h => ?_⟩, fun k hk => ⟨?_, fun h => ?_⟩, (HF.out.trans b6 (fun j hj e => by omega))⟩
    · have := b4 k hk; omega
    · have := b4 k hk; have := h.2; omega
    · have := b5 k hk; omega
    · have := b5 k hk; have := h.2; omega
  clear b1 b2 b3 b4 b5 b6 HLD HB HF HW HS
  go_wp2
  go_ret
  exact FIN.out
end Go.Proofs.Qxb6500575aGreatDoor
