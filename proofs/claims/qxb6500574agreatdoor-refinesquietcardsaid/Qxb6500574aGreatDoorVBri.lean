/-
  BETWEEN THE PLAIN INVARIANT AND THE WALKS. No walk.
-/
import Derived.Test.Qxb6500574aGreatDoorVCap
import Derived.Test.Qxb6500574aGreatDoorVInv9
namespace Go.Proofs.Qxb6500574aGreatDoor
open Go Go.RowKit
set_option linter.unusedVariables false
set_option linter.unusedSimpArgs false

theorem incr_len (p : Nat → Nat) (L : Nat) : ∀ (l : List Nat) (a : Nat), l.Pairwise (fun c d => p c < p d) → (∀ c ∈ l, a ≤ p c ∧ p c < L) → a ≤ L → l.length ≤ L - a := by
  intro l
  induction l with
  | nil => intro a _ _ _; simp
  | cons c r ih =>
    intro a h hb hL
    obtain ⟨h1, h2⟩ := List.pairwise_cons.1 h
    have hc := hb c (by simp)
    have := ih (p c + 1) h2 (fun d hd => ⟨h1 d hd, (hb d (by simp [hd])).2⟩) (by omega)
    simp
    omega
section
variable {K : Cx} {m : VMD} {i : Nat} {t : ThD} {fm : FmD}
theorem VI.opn_len (h : VI K m) (hi : m.ths[i]? = some t) : t.opn.length ≤ t.stack.length := by
  have T := h.th i t hi
  have := incr_len (fun c => (m.cells.getD c ce0).pos) t.stack.length t.opn 0 T.op.so (fun c hc => ?_) (Nat.zero_le _)
  · omega
  · obtain ⟨ce, h1, _, f, h3, _, h5⟩ := T.op.ok c hc
    have hb := T.fr.below h3
    rw [show m.cells.getD c ce0 = ce by simp [h1]]
    exact ⟨Nat.zero_le _, by omega⟩
theorem VI.opnOk (h : VI K m) (hi : m.ths[i]? = some t) (hs : t.stack.length ≤ 10000) (hu : m.upix.length ≤ 10000) : OpnOk m t := by
  have T := h.th i t hi
  refine ⟨fun c hc => ?_, by have := h.opn_len hi; omega, by omega, by have := h.cu; omega⟩
  obtain ⟨ce, h1, _, f, h3, _, h5⟩ := T.op.ok c hc
  have hb := T.fr.below h3
  exact ⟨ce, h1, by omega⟩
theorem At.sl (h : At K m i t fm) (room : Room K 0 t) : t.stack.length ≤ 1120 := h.ok.fr.stackLe h.hf (by have := room fm h.hf; omega) h.vi.ns12
theorem UpL.le (h : VI K m) (u : UpL m) : m.upix.length ≤ 6120 := by
  have h1 := h.kc
  have h2 := h.cn
  unfold UpL at u
  omega
end
end Go.Proofs.Qxb6500574aGreatDoor
