/-
  THE PLAIN LAW of prep.sound. No program.
-/
import Derived.Test.Qxb6500575aGreatDoorLaw3
namespace Go.Proofs.Qxb6500575aGreatDoor
open Go Go.RowKit
set_option linter.unusedVariables false
set_option linter.unusedSimpArgs false
/-! ### prep.sound -/
structure SoundOk (n pc : Nat) (c : Flat) : Prop where
  keep : 0 ≤ c.keep ∧ c.keep ≤ 1
  cut : 0 ≤ c.cut ∧ c.cut ≤ 24
  last : c.op = 5 ↔ pc + 1 = n
  jump : (c.op = 3 ∨ c.op = 4 ∨ c.op = 6 ∨ c.op = 7) → 0 ≤ c.imm ∧ c.imm < n
  table : c.op = 8 → 0 ≤ c.imm ∧ (pc : Int) + c.imm + 1 < n
structure KindOk (n a : Nat) (kd : Kd) : Prop where
  five : kd.op ≠ 5
  zero : kd.t = 0 → kd.op ≠ 3 ∧ kd.op ≠ 4 ∧ kd.op ≠ 6 ∧ kd.op ≠ 7
  one : kd.t = 0 ∨ kd.t = 1 ∨ kd.t = 2
  table : kd.op = 8 → kd.t = 0 ∧ 0 ≤ kd.imm ∧ (a : Int) + kd.imm + 1 < n
theorem KindOk.mono {n n' a : Nat} {kd : Kd} (h : KindOk n a kd) (hn : n ≤ n') : KindOk n' a kd := ⟨h.five, h.zero, h.one, fun h8 => ⟨(h.table h8).1, (h.table h8).2.1, by have := (h.table h8).2.2; omega⟩⟩
theorem nest_last : ∀ (code : List Ins) (opn : List Int), nestR code opn = 0 → ∀ c, code[code.length - 1]? = some c → c.op = 5
  | [], _, h, _, _ => by cases h
  | x :: cs, opn, h, c, hc => by
    have key : ∀ opn', nestR cs opn' = 0 → c.op = 5 := by
      intro opn' h'
      refine nest_last cs opn' h' c ?_
      cases cs with
      | nil => cases h'
      | cons y ys => simpa using hc
    unfold nestR at h
    split at h
    · cases h
    split at h
    · split at h
      · cases h
      · exact key _ h
    split at h
    · cases opn with
      | nil => cases h
      | cons o r =>
        simp only at h
        split at h
        · exact key _ h
        · cases h
    split at h
    · rename_i h5
      cases opn with
      | nil =>
        simp only at h
        split at h
        · rename_i e; subst e
          simp at hc
          subst hc
          exact h5
        · cases h
      | cons o r => exact key _ h
    · exact key _ h
theorem emits_kinds (code : List Ins) (hw : ∀ c ∈ code, well c = true) : ∀ (k : Nat), k < code.length → ∀ (a : Nat) kd, (emitsTo code k)[a]? = some kd → KindOk (emitsTo code k).length a kd
  | 0, _, a, kd, h => by simp [emitsTo] at h
  | k + 1, hk, a, kd, h => by
    have ih := emits_kinds code hw k (by omega)
    have hc : code[k]? = some code[k] := List.getElem?_eq_getElem (by omega)
    have hwc := hw _ (List.getElem_mem (by omega : k < code.length))
    generalize code[k] = c at *
    have e : emitsTo code (k + 1) = emitsTo code k ++ emitK c false := by
      conv => lhs; unfold emitsTo
      rw [hc, decide_eq_false (by omega)]
    rw [e] at h ⊢
    by_cases hal : a < (emitsTo code k).length
    · rw [List.getElem?_append_left hal] at h
      exact (ih a kd h).mono (by simp)
    · rw [List.getElem?_append_right (by omega)] at h
      obtain ⟨d, hd⟩ : ∃ d, a = (emitsTo code k).length + d := ⟨a - (emitsTo code k).length, by omega⟩
      rw [hd, Nat.add_sub_cancel_left] at h
      rw [hd, List.length_append]
      generalize (emitsTo code k).length = n
      unfold emitK at h ⊢
      by_cases h1 : c.op = 1 ∨ c.op = 2
      · rw [if_pos h1] at h; simp at h
      rw [if_neg h1] at h ⊢
      by_cases h3 : c.op = 3 ∨ c.op = 4
      · rw [if_pos h3] at h ⊢
        cases d with
        | zero =>
          simp at h; subst h
          exact ⟨by show c.op ≠ 5; omega, (fun e => by cases e), .inr (.inl rfl), fun e => by have : c.op = 8 := e; omega⟩
        | succ d => simp at h
      rw [if_neg h3] at h ⊢
      by_cases h5 : c.op = 5
      · rw [if_pos h5] at h; simp at h
      rw [if_neg h5] at h ⊢
      by_cases h6 : c.op = 6 ∨ c.op = 7
      · rw [if_pos h6] at h ⊢
        cases d with
        | zero =>
          simp at h; subst h
          exact ⟨h5, (fun e => by cases e), .inr (.inr rfl), fun e => by have : c.op = 8 := e; omega⟩
        | succ d => simp at h
      rw [if_neg h6] at h ⊢
      by_cases h8 : c.op = 8
      · rw [if_pos h8] at h ⊢
        have ht : 1 ≤ c.tab.length := by
          unfold well at hwc
          rw [if_pos h8] at hwc
          simp at hwc
          omega
        cases d with
        | zero =>
          simp at h; subst h
          refine ⟨by show (8 : Int) ≠ 5; decide, fun _ => by show (8 : Int) ≠ 3 ∧ (8 : Int) ≠ 4 ∧ (8 : Int) ≠ 6 ∧ (8 : Int) ≠ 7; decide, .inl rfl, fun _ => ⟨rfl, by show 0 ≤ (c.tab.length : Int) - 1; omega, ?_⟩⟩
          simp; omega
        | succ d =>
          simp [List.getElem?_replicate] at h
          obtain ⟨_, rfl⟩ := h
          exact ⟨by decide, (fun e => by cases e), .inr (.inr rfl), fun e => by cases e⟩
      rw [if_neg h8] at h ⊢
      cases d with
      | zero =>
        simp at h; subst h
        exact ⟨h5, fun _ => ⟨by show c.op ≠ 3; omega, by show c.op ≠ 4; omega, by show c.op ≠ 6; omega, by show c.op ≠ 7; omega⟩, .inl rfl, fun e => absurd e h8⟩
      | succ d => simp at h
theorem emits_last (code : List Ins) (hn : nestR code [] = 0) : ∃ k, code.length = k + 1 ∧ emitsTo code code.length = emitsTo code k ++ [⟨0, 5, 0⟩] := by
  cases hl : code.length with
  | zero =>
    have : code = [] := List.eq_nil_of_length_eq_zero hl
    subst this; cases hn
  | succ k =>
    refine ⟨k, rfl, ?_⟩
    have hc : code[k]? = some code[k] := List.getElem?_eq_getElem (by omega)
    have hk1 : code.length - 1 = k := by omega
    have hc1 : code[code.length - 1]? = some code[k] := (congrArg (fun i => code[i]?) hk1).trans hc
    have h5 := nest_last code [] hn code[k] hc1
    conv => lhs; unfold emitsTo
    rw [hc, decide_eq_true (by omega)]
    simp only
    unfold emitK
    rw [if_neg (by omega), if_neg (by omega), if_pos h5]
    rfl
theorem FinalOk.sound {code : List Ins} {flat : List Flat} (hn : nestR code [] = 0) (h : FinalOk flat (emitsTo code code.length)) : ∀ (a : Nat) c, flat[a]? = some c → SoundOk flat.length a c := by
  intro a c hc
  obtain ⟨k, hk, he⟩ := emits_last code hn
  have hkl := h.klen
  have hal : a < flat.length := (List.getElem?_eq_some_iff.1 hc).1
  have hkd : (emitsTo code code.length)[a]? = some (emitsTo code code.length)[a] := List.getElem?_eq_getElem (by omega)
  have hf := h.cells a c _ hc hkd
  have hlen : flat.length = (emitsTo code k).length + 1 := by rw [← hkl, he]; simp
  generalize (emitsTo code code.length)[a] = kd at *
  rw [he] at hkd
  by_cases hlt : a < (emitsTo code k).length
  · rw [List.getElem?_append_left hlt] at hkd
    have hko := emits_kinds code (nest_well code [] hn) k (by omega) a kd hkd
    rcases hko.one with h0 | h1 | h2
    · have e := hf.p0 h0
      obtain ⟨z3, z4, z6, z7⟩ := hko.zero h0
      subst e
      refine ⟨by simp, by simp, ?_, fun h => ?_, fun h => ?_⟩
      · have := hko.five
        simp only
        constructor
        · intro h; exact absurd h this
        · intro h; omega
      · simp only at h; omega
      · have := hko.table h
        simp only at this ⊢
        exact ⟨this.2.1, by omega⟩
    · obtain ⟨a1, a2, a3, a4, a5⟩ := hf.p1 h1
      refine ⟨by omega, by omega, ?_, fun h => by omega, fun h => ?_⟩
      · have := hko.five
        rw [a1]
        constructor
        · intro h; exact absurd h this
        · intro h; omega
      · rw [a1] at h
        have := (hko.table h).1
        omega
    · obtain ⟨a1, a2, a3, a4, a5, a6, a7, a8⟩ := hf.p2 h2
      refine ⟨by omega, by omega, ?_, fun h => by omega, fun h => ?_⟩
      · have := hko.five
        rw [a1]
        constructor
        · intro h; exact absurd h this
        · intro h; omega
      · rw [a1] at h
        have := (hko.table h).1
        omega
  · have hae : a = (emitsTo code k).length := by omega
    subst hae
    rw [List.getElem?_append_right (Nat.le_refl _)] at hkd
    simp at hkd
    subst hkd
    have e := hf.p0 rfl
    subst e
    refine ⟨by simp, by simp, ?_, fun h => by simp at h, fun h => by simp at h⟩
    simp; omega
end Go.Proofs.Qxb6500575aGreatDoor
