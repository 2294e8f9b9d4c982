/-
  THE FLAT MACHINE, plain: a round, a run. No walk.
-/
import Derived.Test.Qxb6500575aGreatDoorPFlat
namespace Go.Proofs.Qxb6500575aGreatDoor
open Go Go.RowKit
set_option linter.unusedVariables false
set_option linter.unusedSimpArgs false

/-- between two rounds -/
structure FC (τ : Type) where
  fr : List FF
  used : Int
  n : Int
  mem : List UInt8
  max : Nat
  s : τ
/-- behind a round: t = 0: on · 1: done, with vs · else: a trap -/
structure FS (τ : Type) where
  t : Int
  vs : List V
  k : FC τ
section
variable {τ : Type}
def fafter (k : FC τ) (us : Int) (o : FO τ) : FS τ := ⟨o.t, if o.t = 1 then o.vs else [], ⟨if o.t = 0 then o.fr else [], us, wrap64 (wrap64 (k.n + 1) + o.dn), o.mem, k.max, o.s⟩⟩
def fpaid (P : ProgD) (H : HF τ) (fuel : Int) (k : FC τ) (c : List Flat) (i : Flat) (f : FF) (rest : List FF) : FS τ :=
  if i.op = 4 ∨ i.op = 5 then fafter k k.used (fexec P H c i f rest k.mem k.max k.s)
  else if k.used < fuel then fafter k (k.used + 1) (fexec P H c i f rest k.mem k.max k.s)
  else ⟨17, [], ⟨[], k.used, wrap64 (k.n + 1), k.mem, k.max, k.s⟩⟩
def fround (P : ProgD) (H : HF τ) (fuel : Int) (k : FC τ) : FS τ :=
  match k.fr with
  | [] => ⟨10, [], k⟩
  | f :: rest =>
    match P.codes[f.fn]? with
    | none => ⟨10, [], k⟩
    | some c =>
      match c[f.pc]? with
      | none => ⟨10, [], k⟩
      | some i => fpaid P H fuel k c i f rest
theorem fround_at {P : ProgD} {H : HF τ} {fuel : Int} {k : FC τ} {f : FF} {rest : List FF} {c : List Flat} {i : Flat} (h1 : k.fr = f :: rest) (h2 : P.codes[f.fn]? = some c) (h3 : c[f.pc]? = some i) : fround P H fuel k = fpaid P H fuel k c i f rest := by
  unfold fround
  rw [h1]
  simp only
  rw [h2]
  simp only
  rw [h3]
/-- j rounds, all of which go on -/
def fsteps (P : ProgD) (H : HF τ) (fuel : Int) : Nat → FC τ → Option (FC τ)
  | 0, k => some k
  | j + 1, k => if (fround P H fuel k).t = 0 then fsteps P H fuel j (fround P H fuel k).k else none
theorem fsteps_snoc {P : ProgD} {H : HF τ} {fuel : Int} : ∀ (j : Nat) (k k' : FC τ), fsteps P H fuel j k = some k' → (fround P H fuel k').t = 0 → fsteps P H fuel (j + 1) k = some (fround P H fuel k').k
  | 0, k, k', h, ht => by
    simp [fsteps] at h
    subst h
    simp [fsteps, ht]
  | j + 1, k, k', h, ht => by
    rw [fsteps] at h
    split at h
    · rename_i h0
      have := fsteps_snoc j _ k' h ht
      rw [fsteps, if_pos h0]
      exact this
    · cases h
/-- the run from k ends with r -/
def FEnds (P : ProgD) (H : HF τ) (fuel : Int) (k : FC τ) (r : FS τ) : Prop := ∃ j k', fsteps P H fuel j k = some k' ∧ fround P H fuel k' = r ∧ r.t ≠ 0
theorem FEnds.det {P : ProgD} {H : HF τ} {fuel : Int} : ∀ {k : FC τ} {r r' : FS τ}, FEnds P H fuel k r → FEnds P H fuel k r' → r = r' := by
  have key : ∀ (j : Nat) (k k1 k2 : FC τ) (j' : Nat), fsteps P H fuel j k = some k1 → (fround P H fuel k1).t ≠ 0 → fsteps P H fuel j' k = some k2 → (fround P H fuel k2).t ≠ 0 → k1 = k2 := by
    intro j
    induction j with
    | zero =>
      intro k k1 k2 j' h1 t1 h2 t2
      simp [fsteps] at h1
      subst h1
      cases j' with
      | zero => simpa [fsteps] using h2
      | succ j' =>
        rw [fsteps, if_neg t1] at h2
        cases h2
    | succ j ih =>
      intro k k1 k2 j' h1 t1 h2 t2
      rw [fsteps] at h1
      split at h1
      · rename_i h0
        cases j' with
        | zero =>
          simp [fsteps] at h2
          subst h2
          exact absurd h0 t2
        | succ j' =>
          rw [fsteps, if_pos h0] at h2
          exact ih _ _ _ _ h1 t1 h2 t2
      · cases h1
  rintro k r r' ⟨j, k1, h1, rfl, t1⟩ ⟨j', k2, h2, rfl, t2⟩
  rw [key j k k1 k2 j' h1 t1 h2 t2]
theorem FEnds.step {P : ProgD} {H : HF τ} {fuel : Int} {k : FC τ} {r : FS τ} (ht : (fround P H fuel k).t = 0) (h : FEnds P H fuel (fround P H fuel k).k r) : FEnds P H fuel k r := by
  obtain ⟨j, k', h1, h2, h3⟩ := h
  exact ⟨j + 1, k', by rw [fsteps, if_pos ht]; exact h1, h2, h3⟩
theorem FEnds.last {P : ProgD} {H : HF τ} {fuel : Int} {k : FC τ} {r : FS τ} (hr : fround P H fuel k = r) (ht : r.t ≠ 0) : FEnds P H fuel k r := ⟨0, k, rfl, hr, ht⟩
theorem FEnds.steps {P : ProgD} {H : HF τ} {fuel : Int} {r : FS τ} : ∀ (j : Nat) (k k' : FC τ), fsteps P H fuel j k = some k' → FEnds P H fuel k' r → FEnds P H fuel k r
  | 0, k, k', h, hr => by
    simp [fsteps] at h
    subst h
    exact hr
  | j + 1, k, k', h, hr => by
    rw [fsteps] at h
    split at h
    · rename_i h0
      exact FEnds.step h0 (FEnds.steps j _ k' h hr)
    · cases h
end
end Go.Proofs.Qxb6500575aGreatDoor
