/-
  The hosts of runlaw, exact: the tape, the nil *Tape, none.
-/
import Derived.Test.Qxb6500575aGreatDoorSCall
namespace Go.Proofs.Qxb6500575aGreatDoor
open Go Go.RowKit
set_option linter.unusedVariables false
set_option linter.unusedSimpArgs false

/-- a tape: its script, the calls so far, what is written down -/
abbrev TSem : Type := List UInt8 × Nat × List UInt8
def semT (s : TapeD) : TSem := (s.tape, s.k, s.trace)
def tapeAsk (s : TSem) (imp : Int) (args : List BV) : TSem × (List BV × Int) :=
  if 6 < s.2.1 then (s, ([], 16)) else ((s.1, s.2.1 + 1, s.2.2 ++ [104] ++ numT imp ++ valsT args), answerP s.1 s.2.1)
def nilAsk (s : TSem) (_ : Int) (_ : List BV) : TSem × (List BV × Int) := (s, ([], 15))
def noHost : HF TSem := fun s _ _ => (s, 15, [])
theorem hostF_nil (P : ProgD) : hostF P nilAsk = noHost := by
  funext s g args
  simp [hostF, nilAsk, hostR, noHost]
theorem sansw_nil (R : RP TapeD) : AnswX semT nilAsk R (.pointer none) := by
  intro w L K x n d s imp args aa ac hr hal hown hap
  refine (tcall_nil imp _ w).mono ?_
  rintro e w' ⟨h, rfl⟩
  exact ⟨s, hr, rfl, h⟩
theorem sansw_tape (R : RP TapeD) (bt : Nat) (hH : R.H = tapeH bt) : AnswX semT tapeAsk R (.pointer (some ⟨bt, 0, none⟩)) := by
  obtain ⟨bx, bp, bk, LP, P, H, w0, L0, K0, d0, s0⟩ := R
  simp only at hH
  subst hH
  intro w L K x n d s imp args aa ac hr hal hown hap
  have hrep : TapeRep bt w s ∧ TapeOk s := hr.host
  have hkl := hrep.2.kle
  by_cases hk : s.k = 7
  · refine (tcall_done hrep.1 hk imp _).mono ?_
    rintro e w' ⟨h, rfl⟩
    have ha : tapeAsk (semT s) imp args = (semT s, ([], 16)) := by
      unfold tapeAsk semT
      rw [if_pos (by simp only; omega)]
    exact ⟨s, hr, by rw [ha], by rw [ha]; exact h⟩
  · refine (tcall_on hrep.1 hrep.2 (by omega) imp args hal aa ac hown (fun g hg => (hap g hg).2)).mono ?_
    rintro e w' ⟨s', h1, h2, h3, h4, ⟨h5, h6, h7⟩, h8⟩
    have ha : tapeAsk (semT s) imp args = (semT s', answerP s.tape s.k) := by
      unfold tapeAsk semT
      rw [if_neg (by simp only; omega), h5, h6, h7]
    exact ⟨s', hr.asked (R := ⟨bx, bp, bk, LP, P, tapeH bt, w0, L0, K0, d0, s0⟩) ⟨h1, h2⟩ hown (fun g hg => (hap g hg).1) h3 h4, by rw [ha], by rw [ha]; exact h8⟩
/-- the host of a call: c = 0: the tape; else none that answers -/
def callH (P : ProgD) (c : Int) : HF TSem := if c = 0 then hostF P tapeAsk else noHost
end Go.Proofs.Qxb6500575aGreatDoor
