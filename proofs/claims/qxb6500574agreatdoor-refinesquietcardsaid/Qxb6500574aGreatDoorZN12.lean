/-
  moon: THE TEXT OF A NUMBER IS READ (numm.Parse). Plain; no memory, no walk.
-/
import Derived.Test.Qxb6500574aGreatDoorZN11
namespace Go.Proofs.Qxb6500574aGreatDoor
set_option linter.unusedVariables false
set_option linter.unusedSimpArgs false
def digC (c : UInt8) : Bool := decide (48 ≤ c.toNat ∧ c.toNat ≤ 57)
/-- Parse's first loop: the digits, at most one point -/
def scanM : Bs → Nat → Nat → Nat → Option Nat → Option (Nat × Nat × Nat × Option Nat × Bs)
  | [], m, ten, nd, k => some (m, ten, nd, k, [])
  | c :: s, m, ten, nd, k =>
    if c = 46 ∧ k = none ∧ 0 < nd then scanM s m ten nd (some 0)
    else if digC c = false then some (m, ten, nd, k, c :: s)
    else if 16 < nd + 1 then none
    else scanM s (m * 10 + (c.toNat - 48)) (if k.isSome then ten * 10 else ten) (nd + 1) (k.map (· + 1))
/-- Parse's second loop: nothing but digits, at most four -/
def expM : Bs → Nat → Nat → Option (Nat × Nat)
  | [], e, ne => some (e, ne)
  | c :: s, e, ne => if digC c = false then none else if 4 < ne + 1 then none else expM s (e * 10 + (c.toNat - 48)) (ne + 1)
def magM (neg : Bool) (s : Bs) : Option Nat :=
  match scanM s 0 1 0 none with
  | none => none
  | some (m, ten, nd, k, r) =>
    if nd = 0 ∨ k = some 0 ∨ 9007199254740992 < m then none
    else match r with
      | [] => some (signM neg + (match k with
        | none => packM false m 0 false
        | some _ => divM (packM false m 0 false) (packM false ten 0 false)))
      | c :: r =>
        if c ≠ 112 ∨ k.isSome then none
        else
          let dn : Bool := r.head? == some 45
          match expM (if dn then r.drop 1 else r) 0 0 with
          | none => none
          | some (e, ne) => if ne = 0 then none else some (packM neg m (if dn then -(e : Int) else (e : Int)) false)
def parseM (s : Bs) : Option Nat :=
  if 24 < s.length then none
  else
    let neg : Bool := s.head? == some 45
    let t := if neg then s.drop 1 else s
    if t = [105, 110, 102] then some (signM neg + infM)
    else if s = [110, 97, 110] then some nanB
    else magM neg t
theorem digs_cons (c : UInt8) (s : Bs) (m : Nat) : digs (c :: s) m = if digC c then (let r := digs s ((m * 10 + (c.toNat - 48)) % 2 ^ 64); (r.1, r.2.1 + 1, r.2.2)) else (m, 0, c :: s) := by
  rw [digs]
  unfold digC
  by_cases h : 48 ≤ c.toNat ∧ c.toNat ≤ 57
  · rw [if_pos h, decide_eq_true h, if_pos rfl]
  · rw [if_neg h, decide_eq_false h]
    rfl
theorem dig_dot : digC 46 = false := by decide
theorem dig_p : digC 112 = false := by decide
/-- behind the point, or with none to come -/
theorem scan_digs : ∀ (s : Bs) (m ten nd k : Nat), nd ≤ 16 → m < 10 ^ nd → match scanM s m ten nd (some k) with
    | none => 16 < nd + (digs s m).2.1
    | some x => nd + (digs s m).2.1 ≤ 16 ∧ x = ((digs s m).1, ten * 10 ^ (digs s m).2.1, nd + (digs s m).2.1, some (k + (digs s m).2.1), (digs s m).2.2) ∧ (digs s m).1 < 10 ^ (nd + (digs s m).2.1)
  | [], m, ten, nd, k, h, hm => by
    simp only [scanM, digs]
    exact ⟨h, by simp, by simpa using hm⟩
  | c :: s, m, ten, nd, k, h, hm => by
    rw [scanM, digs_cons]
    have hno : ¬ (c = 46 ∧ (some k : Option Nat) = none ∧ 0 < nd) := fun z => by cases z.2.1
    rw [if_neg hno]
    by_cases hd : digC c = true
    · rw [hd]
      simp only [Bool.true_eq_false, if_false, if_true, Option.isSome_some, Option.map_some]
      have hdc : c.toNat ≤ 57 ∧ 48 ≤ c.toNat := by unfold digC at hd; have := of_decide_eq_true hd; omega
      by_cases h16 : 16 < nd + 1
      · rw [if_pos h16]
        dsimp only
        omega
      · rw [if_neg h16]
        have hp : 10 ^ (nd + 1) = 10 ^ nd * 10 := Nat.pow_succ 10 nd
        have hb : m * 10 + (c.toNat - 48) < 10 ^ (nd + 1) := by omega
        have hle : 10 ^ (nd + 1) ≤ 10 ^ 16 := Nat.pow_le_pow_right (by decide) (by omega)
        have h1616 : (10 : Nat) ^ 16 = 10000000000000000 := by decide
        have h64 : (2 : Nat) ^ 64 = 18446744073709551616 := by decide
        have hmod : (m * 10 + (c.toNat - 48)) % 2 ^ 64 = m * 10 + (c.toNat - 48) := Nat.mod_eq_of_lt (by omega)
        rw [hmod]
        have ih := scan_digs s (m * 10 + (c.toNat - 48)) (ten * 10) (nd + 1) (k + 1) (by omega) hb
        generalize digs s (m * 10 + (c.toNat - 48)) = d at ih
        cases hs : scanM s (m * 10 + (c.toNat - 48)) (ten * 10) (nd + 1) (some (k + 1)) with
        | none =>
          rw [hs] at ih
          dsimp only at ih ⊢
          omega
        | some x =>
          rw [hs] at ih
          dsimp only at ih ⊢
          obtain ⟨i1, i2, i3⟩ := ih
          refine ⟨by omega, ?_, by rw [show nd + (d.2.1 + 1) = nd + 1 + d.2.1 by omega]; exact i3⟩
          rw [i2]
          have e1 : ten * 10 * 10 ^ d.2.1 = ten * 10 ^ (d.2.1 + 1) := by rw [Nat.pow_succ, Nat.mul_assoc, Nat.mul_comm 10]
          rw [e1, show nd + 1 + d.2.1 = nd + (d.2.1 + 1) by omega, show k + 1 + d.2.1 = k + (d.2.1 + 1) by omega]
    · have hd : digC c = false := by simpa using hd
      rw [hd]
      simp only [if_true, Bool.false_eq_true, if_false]
      exact ⟨by omega, by simp, by simpa using hm⟩
/-- ahead of the point -/
theorem scan_first : ∀ (s : Bs) (m nd : Nat), nd ≤ 16 → m < 10 ^ nd → match scanM s m 1 nd none with
    | none => 16 < nd + (digs s m).2.1 ∨ ∃ s2, (digs s m).2.2 = 46 :: s2 ∧ 0 < nd + (digs s m).2.1 ∧ 16 < nd + (digs s m).2.1 + (digs s2 (digs s m).1).2.1
    | some x => nd + (digs s m).2.1 ≤ 16 ∧ (digs s m).1 < 10 ^ (nd + (digs s m).2.1) ∧ ((x = ((digs s m).1, 1, nd + (digs s m).2.1, none, (digs s m).2.2) ∧ ¬ (0 < nd + (digs s m).2.1 ∧ ∃ s2, (digs s m).2.2 = 46 :: s2)) ∨
        ∃ s2, (digs s m).2.2 = 46 :: s2 ∧ 0 < nd + (digs s m).2.1 ∧ nd + (digs s m).2.1 + (digs s2 (digs s m).1).2.1 ≤ 16 ∧ x = ((digs s2 (digs s m).1).1, 10 ^ (digs s2 (digs s m).1).2.1, nd + (digs s m).2.1 + (digs s2 (digs s m).1).2.1, some (digs s2 (digs s m).1).2.1, (digs s2 (digs s m).1).2.2) ∧ (digs s2 (digs s m).1).1 < 10 ^ 16)
  | [], m, nd, h, hm => by
    simp only [scanM, digs]
    refine ⟨h, by simpa using hm, .inl ⟨by simp, fun z => ?_⟩⟩
    obtain ⟨_, s2, z⟩ := z
    cases z
  | c :: s, m, nd, h, hm => by
    rw [scanM, digs_cons]
    by_cases hd : digC c = true
    · have hdc : c.toNat ≤ 57 ∧ 48 ≤ c.toNat := by unfold digC at hd; have := of_decide_eq_true hd; omega
      have hno : ¬ (c = 46 ∧ (none : Option Nat) = none ∧ 0 < nd) := fun z => by rw [z.1, dig_dot] at hd; cases hd
      rw [if_neg hno, hd]
      simp only [Bool.true_eq_false, if_false, if_true, Option.isSome_none, Option.map_none, Bool.false_eq_true]
      by_cases h16 : 16 < nd + 1
      · rw [if_pos h16]
        dsimp only
        left
        omega
      · rw [if_neg h16]
        have hp : 10 ^ (nd + 1) = 10 ^ nd * 10 := Nat.pow_succ 10 nd
        have hb : m * 10 + (c.toNat - 48) < 10 ^ (nd + 1) := by omega
        have hle : 10 ^ (nd + 1) ≤ 10 ^ 16 := Nat.pow_le_pow_right (by decide) (by omega)
        have h1616 : (10 : Nat) ^ 16 = 10000000000000000 := by decide
        have h64 : (2 : Nat) ^ 64 = 18446744073709551616 := by decide
        have hmod : (m * 10 + (c.toNat - 48)) % 2 ^ 64 = m * 10 + (c.toNat - 48) := Nat.mod_eq_of_lt (by omega)
        rw [hmod]
        have ih := scan_first s (m * 10 + (c.toNat - 48)) (nd + 1) (by omega) hb
        generalize digs s (m * 10 + (c.toNat - 48)) = d at ih
        have e0 : ∀ z : Nat, nd + (z + 1) = nd + 1 + z := fun z => by omega
        cases hs : scanM s (m * 10 + (c.toNat - 48)) 1 (nd + 1) none with
        | none =>
          rw [hs] at ih
          dsimp only at ih ⊢
          rw [e0]
          exact ih
        | some x =>
          rw [hs] at ih
          dsimp only at ih ⊢
          rw [e0]
          exact ih
    · have hd : digC c = false := by simpa using hd
      by_cases hdot : c = 46 ∧ (none : Option Nat) = none ∧ 0 < nd
      · rw [if_pos hdot, hd]
        simp only [Bool.false_eq_true, if_false, Nat.add_zero]
        have sd := scan_digs s m 1 nd 0 h hm
        cases hs : scanM s m 1 nd (some 0) with
        | none =>
          rw [hs] at sd
          dsimp only at sd ⊢
          right
          exact ⟨s, by rw [hdot.1], hdot.2.2, sd⟩
        | some x =>
          rw [hs] at sd
          dsimp only at sd ⊢
          obtain ⟨i1, i2, i3⟩ := sd
          refine ⟨h, hm, .inr ⟨s, by rw [hdot.1], hdot.2.2, i1, ?_, ?_⟩⟩
          · rw [i2, Nat.one_mul, Nat.zero_add]
          · exact Nat.lt_of_lt_of_le i3 (Nat.pow_le_pow_right (by decide) i1)
      · rw [if_neg hdot, hd]
        simp only [if_true, Bool.false_eq_true, if_false, Nat.add_zero]
        refine ⟨h, hm, .inl ⟨trivial, fun z => ?_⟩⟩
        obtain ⟨z1, s2, z2⟩ := z
        injection z2 with z3 z4
        exact hdot ⟨z3, (by first | rfl | trivial), z1⟩
theorem exp_digs : ∀ (s : Bs) (e ne : Nat), ne ≤ 4 → e < 10 ^ ne → expM s e ne = if (digs s e).2.2 = [] ∧ ne + (digs s e).2.1 ≤ 4 then some ((digs s e).1, ne + (digs s e).2.1) else none
  | [], e, ne, h, he => by
    simp only [expM, digs]
    rw [if_pos ⟨trivial, by omega⟩]
    simp
  | c :: s, e, ne, h, he => by
    rw [expM, digs_cons]
    by_cases hd : digC c = true
    · have hdc : c.toNat ≤ 57 ∧ 48 ≤ c.toNat := by unfold digC at hd; have := of_decide_eq_true hd; omega
      rw [hd]
      simp only [Bool.true_eq_false, if_false, if_true]
      by_cases h4 : 4 < ne + 1
      · rw [if_pos h4, if_neg (fun z => by have := z.2; omega)]
      · rw [if_neg h4]
        have hp : 10 ^ (ne + 1) = 10 ^ ne * 10 := Nat.pow_succ 10 ne
        have hb : e * 10 + (c.toNat - 48) < 10 ^ (ne + 1) := by omega
        have hle : 10 ^ (ne + 1) ≤ 10 ^ 4 := Nat.pow_le_pow_right (by decide) (by omega)
        have h44 : (10 : Nat) ^ 4 = 10000 := by decide
        have h64 : (2 : Nat) ^ 64 = 18446744073709551616 := by decide
        have hmod : (e * 10 + (c.toNat - 48)) % 2 ^ 64 = e * 10 + (c.toNat - 48) := Nat.mod_eq_of_lt (by omega)
        rw [hmod, exp_digs s _ (ne + 1) (by omega) hb]
        generalize digs s (e * 10 + (c.toNat - 48)) = d
        rw [show ne + (d.2.1 + 1) = ne + 1 + d.2.1 by omega]
    · have hd : digC c = false := by simpa using hd
      rw [hd]
      simp only [if_true, Bool.false_eq_true, if_false]
      rw [if_neg (fun z => by cases z.1)]
theorem near_small {n : Nat} (h0 : n ≠ 0) (h : n < 2 ^ 64) : 0 < Ieee.double.nearest false n 0 ∧ Ieee.double.nearest false n 0 < infM := by
  rw [← pack_exact false h]
  have hl : n.log2 < 64 := (Nat.log2_lt h0).2 h
  have h1 := Nat.log2_self_le h0
  have h2 := Nat.lt_log2_self (n := n)
  unfold packM
  rw [if_neg h0]
  dsimp only
  generalize n.log2 = l at *
  rw [if_neg (show ¬ 1023 < 0 + (l : Int) by omega), if_neg (show ¬ 0 + (l : Int) < -1022 by omega), if_neg (show ¬ 64 < 11 by decide)]
  have hs0 : signM false = 0 := rfl
  rw [hs0, if_neg (show ¬ 0 + (l : Int) < -1022 by omega)]
  have e1 : (0 + (l : Int) + 1022).toNat = l + 1022 := by omega
  rw [e1]
  have hq1 : 4503599627370496 ≤ n * 2 ^ (63 - l) / 2 ^ 11 := by
    have : 2 ^ 63 ≤ n * 2 ^ (63 - l) := by
      have e : (2 : Nat) ^ 63 = 2 ^ l * 2 ^ (63 - l) := by rw [← Nat.pow_add]; congr 1; omega
      rw [e]
      exact Nat.mul_le_mul_right _ h1
    rw [Nat.le_div_iff_mul_le (by decide)]
    have e2 : (4503599627370496 : Nat) * 2 ^ 11 = 2 ^ 63 := by decide
    omega
  have hq2 : n * 2 ^ (63 - l) / 2 ^ 11 < 9007199254740992 := by
    rw [Nat.div_lt_iff_lt_mul (by decide)]
    have e2 : (9007199254740992 : Nat) * 2 ^ 11 = 2 ^ (l + 1) * 2 ^ (63 - l) := by rw [← Nat.pow_add, show l + 1 + (63 - l) = 64 by omega]
    rw [e2]
    exact Nat.mul_lt_mul_of_pos_right h2 (Nat.pow_pos (by decide))
  have hr : rndMZ (n * 2 ^ (63 - l)) 11 false ≤ n * 2 ^ (63 - l) / 2 ^ 11 + 1 := by
    unfold rndMZ
    refine Nat.add_le_add_left ?_ _
    generalize (decide (2 ^ 11 < 2 * (n * 2 ^ (63 - l) % 2 ^ 11)) || (decide (2 ^ 11 = 2 * (n * 2 ^ (63 - l) % 2 ^ 11)) && (false || n * 2 ^ (63 - l) / 2 ^ 11 % 2 == 1))) = b
    cases b <;> decide
  have hr2 := rnd_le (n * 2 ^ (63 - l)) 11 false
  generalize rndMZ (n * 2 ^ (63 - l)) 11 false = r at hr hr2
  generalize n * 2 ^ (63 - l) / 2 ^ 11 = q at *
  have hb : (l + 1022) * 4503599627370496 ≤ 1085 * 4503599627370496 := Nat.mul_le_mul_right _ (by omega)
  have hlt : (l + 1022) * 4503599627370496 + r < infM := by unfold infM; omega
  rw [if_neg (by omega), Nat.zero_add]
  exact ⟨by omega, hlt⟩
theorem small_word {x : Nat} (h : x < infM) : absM x < infM ∧ negM x = false := by
  unfold infM at h
  refine ⟨?_, decide_eq_false (by omega)⟩
  unfold absM infM
  omega
theorem mag_ok (neg : Bool) (s : Bs) (hinf : s ≠ [105, 110, 102]) : (magN s).map (fun f => if neg then f ^^^ 2 ^ 63 else f) = magM neg s := by
  have h1616 : (10 : Nat) ^ 16 = 10000000000000000 := by decide
  have h53 : (2 : Nat) ^ 53 = 9007199254740992 := by decide
  have h64 : (2 : Nat) ^ 64 = 18446744073709551616 := by decide
  have e63 : (2 : Nat) ^ 63 = 9223372036854775808 := by decide
  -- the sign
  have sgn : ∀ f, f ≤ infM → (if neg = true then f ^^^ 2 ^ 63 else f) = signM neg + f := fun f hf => by
    unfold infM at hf
    cases neg
    · simp [signM]
    · simp only [if_true, signM, sgnM]
      rw [e63, xor_lo (by omega), Nat.add_comm]
  have nle : ∀ m e, Ieee.double.nearest false m e ≤ infM := fun m e => by
    have := near_le false m e
    unfold absM u64 infM at *
    have h2 : Ieee.double.nearest false m e < 9223372036854775808 := by
      refine Nat.lt_of_not_le fun z => ?_
      have h3 := near_neg true m e
      have h4 := (near_le true m e).2
      unfold u64 signM sgnM at *
      simp only [if_true] at h3
      omega
    omega
  have F := scan_first s 0 0 (by decide) (by decide)
  unfold magN magM
  rw [if_neg hinf]
  dsimp only
  simp only [Nat.zero_add] at F
  generalize hd : digs s 0 = d at F
  obtain ⟨m, nd, rest⟩ := d
  simp only at F ⊢
  cases hs : scanM s 0 1 0 none with
  | none =>
    rw [hs] at F
    dsimp only at F ⊢
    rcases F with F | ⟨s2, F1, F2, F3⟩
    · rw [if_pos (by omega)]
      rfl
    · by_cases h16 : nd = 0 ∨ nd > 16
      · rw [if_pos h16]; rfl
      · rw [if_neg h16, F1]
        dsimp only
        rw [if_pos rfl, if_pos (by omega)]
        rfl
  | some x =>
    rw [hs] at F
    dsimp only at F ⊢
    obtain ⟨F1, F2, F⟩ := F
    have hm16 : m < 10 ^ 16 := Nat.lt_of_lt_of_le F2 (Nat.pow_le_pow_right (by decide) F1)
    rcases F with ⟨rfl, F3⟩ | ⟨s2, F3, F4, F5, rfl, F6⟩
    · dsimp only
      by_cases h0 : nd = 0
      · rw [if_pos (.inl h0), if_pos (.inl h0)]
        rfl
      · rw [if_neg (by omega)]
        cases rest with
        | nil =>
          dsimp only
          by_cases hm : m ≤ 2 ^ 53
          · rw [if_pos hm, if_neg (by simp; omega)]
            simp only [Option.map_some]
            have e : fromIntN (m : Int) = Ieee.double.nearest false m 0 := fromInt_nat m
            rw [e, pack_exact false (by omega), sgn _ (nle _ _)]
          · rw [if_neg hm, if_pos (by omega)]
            rfl
        | cons c r =>
          dsimp only
          have hc46 : c ≠ 46 := fun z => F3 ⟨by omega, r, by rw [z]⟩
          rw [if_neg hc46]
          by_cases hm : m > 2 ^ 53
          · rw [if_pos (show nd = 0 ∨ (none : Option Nat) = some 0 ∨ 9007199254740992 < m by omega)]
            by_cases hp : c = 112
            · rw [if_pos hp, if_pos (by omega)]
              rfl
            · rw [if_neg hp]
              rfl
          · rw [if_neg (show ¬ (nd = 0 ∨ (none : Option Nat) = some 0 ∨ 9007199254740992 < m) by simp; omega)]
            by_cases hp : c = 112
            · rw [if_pos hp, if_neg (show ¬ (c ≠ 112 ∨ (none : Option Nat).isSome = true) by rw [hp]; simp)]
              rw [exp_digs _ 0 0 (by decide) (by decide)]
              generalize hdn : (r.head? == some 45) = dn
              generalize digs (if dn = true then r.drop 1 else r) 0 = q
              simp only [Nat.zero_add]
              by_cases hq : q.2.2 = [] ∧ q.2.1 ≤ 4
              · rw [if_pos hq]
                dsimp only
                by_cases hq0 : q.2.1 = 0
                · rw [if_pos (.inl hq0), if_pos hq0]
                  rfl
                · rw [if_neg (by simp [hq.1]; omega), if_neg hq0]
                  simp only [Option.map_some]
                  rw [ldexp_ok (by omega), sgn _ (nle _ _), pack_exact neg (by omega), ← near_neg]
              · rw [if_neg hq]
                dsimp only
                rw [if_pos (by
                  by_cases hr : q.2.2 = []
                  · right; left
                    have : ¬ q.2.1 ≤ 4 := fun z => hq ⟨hr, z⟩
                    omega
                  · exact .inr (.inr (.inl hr)))]
                rfl
            · rw [if_neg hp, if_pos (.inl hp)]
              rfl
    · dsimp only
      rw [F3]
      rw [if_neg (by omega)]
      dsimp only
      rw [if_pos rfl]
      generalize digs s2 m = q at F5 F6
      by_cases hq0 : q.2.1 = 0
      · rw [if_pos (.inl hq0), if_pos (.inr (.inl (by rw [hq0])))]
        rfl
      · by_cases hqm : q.1 > 2 ^ 53
        · rw [if_pos (by omega), if_pos (show nd + q.2.1 = 0 ∨ some q.2.1 = some 0 ∨ 9007199254740992 < q.1 by omega)]
          rfl
        · rw [if_neg (show ¬ (nd + q.2.1 = 0 ∨ some q.2.1 = some 0 ∨ 9007199254740992 < q.1) by simp; omega)]
          cases hr : q.2.2 with
          | nil =>
            dsimp only
            rw [if_neg (by simp; omega)]
            simp only [Option.map_some]
            have hten : 10 ^ q.2.1 < 2 ^ 64 := by
              have : 10 ^ q.2.1 ≤ 10 ^ 16 := Nat.pow_le_pow_right (by decide) (by omega)
              omega
            have e1 : fromIntN (q.1 : Int) = Ieee.double.nearest false q.1 0 := fromInt_nat q.1
            have e2 : fromIntN ((10 : Int) ^ q.2.1) = Ieee.double.nearest false (10 ^ q.2.1) 0 := by
              have : ((10 : Int) ^ q.2.1) = ((10 ^ q.2.1 : Nat) : Int) := by simp
              rw [this]
              exact fromInt_nat _
            rw [e1, e2, pack_exact false (by omega), pack_exact false hten]
            generalize hX : Ieee.double.nearest false q.1 0 = X
            generalize hY : Ieee.double.nearest false (10 ^ q.2.1) 0 = Y
            have uX : u64 X := by rw [← hX]; exact (near_le _ _ _).2
            have uY : u64 Y := by rw [← hY]; exact (near_le _ _ _).2
            have hfin : ∃ A B, FloatKind.f64.format.div X Y = some (Ieee.double.nearest false A B) := by
              have hY2 := near_small (n := 10 ^ q.2.1) (Nat.ne_of_gt (Nat.pow_pos (by decide))) hten
              rw [hY] at hY2
              have hX2 : X < infM := by
                by_cases z : q.1 = 0
                · rw [← hX, z]; decide
                · rw [← hX]; exact (near_small z (by omega)).2
              have fX : absM X < infM ∧ negM X = false := small_word hX2
              have fY : absM Y < infM ∧ negM Y = false := small_word hY2.2
              have rX := read_num uX fX.1
              have rY := read_num uY fY.1
              have nz : absM Y ≠ 0 := by
                have : absM Y = Y := Nat.mod_eq_of_lt (by have := hY2.2; unfold infM at this; omega)
                rw [this]
                exact Nat.ne_of_gt hY2.1
              have cY := (parts_canon uY fY.1 nz).1
              have e : FloatKind.f64.format.div X Y = ((Ieee.double.read X).quotient 54 (Ieee.double.read Y)).map Ieee.double.write := rfl
              rw [e, rX, rY]
              simp only [Ieee.Datum.quotient]
              rw [if_neg cY.nz, fX.2, fY.2]
              exact ⟨_, _, rfl⟩
            obtain ⟨A, B, hAB⟩ := hfin
            rw [← div_ok uX uY, div_is, hAB, Option.getD_some, bits_near, sgn _ (nle _ _)]
          | cons c r =>
            dsimp only
            rw [if_pos (by simp), if_pos (.inr rfl)]
            rfl
end Go.Proofs.Qxb6500574aGreatDoor
