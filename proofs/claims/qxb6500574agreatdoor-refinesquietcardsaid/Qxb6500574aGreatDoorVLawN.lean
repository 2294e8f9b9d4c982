/-
  moon: NUMBERS AND TEXTS are of the sort a value may hold. Plain; no memory, no walk.
-/
import Derived.Test.Qxb6500574aGreatDoorVFloat2
import Derived.Test.Qxb6500574aGreatDoorVInv
namespace Go.Proofs.Qxb6500574aGreatDoor
open Go
set_option linter.unusedVariables false
set_option linter.unusedSimpArgs false

/-- 64 bits, and a NaN is the one -/
def NumOk (n : Nat) : Prop := n < 18446744073709551616 ∧ (isNan n = true → n = nanB)
theorem NumOk.val {K : Cx} {n : Nat} (h : NumOk n) : VOk K (numV n) := VOk.num K h.1 h.2
theorem nan_ok : NumOk nanB := ⟨by decide, fun _ => rfl⟩
theorem enc_lt (d : Ieee.Datum) : FloatKind.f64.encode d < 18446744073709551616 := by
  have := FloatKind.f64.format.write_lt d
  exact this
theorem enc_ok {d : Ieee.Datum} (h : ∀ s t, d ≠ .nan s t) : NumOk (FloatKind.f64.encode d) := ⟨enc_lt d, fun x => by rw [write_ok h] at x; cases x⟩
theorem bits_ok (o : Option Nat) (h : ∀ r, o = some r → r < 18446744073709551616) : NumOk (bitsN o) := by
  cases o with
  | none => exact nan_ok
  | some r =>
    unfold bitsN
    dsimp only
    split
    · exact nan_ok
    · rename_i hn
      exact ⟨h r rfl, fun x => (hn x).elim⟩
theorem map_lt {o : Option Ieee.Datum} {r : Nat} (h : o.map FloatKind.f64.format.write = some r) : r < 18446744073709551616 := by
  cases o with
  | none => cases h
  | some d => simp at h; rw [← h]; exact enc_lt d
theorem add_lt {a b r : Nat} (h : FloatKind.f64.format.add a b = some r) : r < 18446744073709551616 := map_lt h
theorem sub_lt {a b r : Nat} (h : FloatKind.f64.format.sub a b = some r) : r < 18446744073709551616 := map_lt h
theorem mul_lt {a b r : Nat} (h : FloatKind.f64.format.mul a b = some r) : r < 18446744073709551616 := map_lt h
theorem div_lt {a b r : Nat} (h : FloatKind.f64.format.div a b = some r) : r < 18446744073709551616 := map_lt h
theorem floor_lt (a : Nat) : floorN a < 18446744073709551616 := enc_lt _
theorem arith_ok (op : Int) (a b : Nat) : NumOk (arithN op a b) := by
  unfold arithN
  repeat' split
  · exact bits_ok _ fun r h => add_lt h
  · exact bits_ok _ fun r h => sub_lt h
  · exact bits_ok _ fun r h => mul_lt h
  · exact bits_ok _ fun r h => div_lt h
  · refine bits_ok _ fun r h => ?_
    cases hd : FloatKind.f64.format.div a b with
    | none => rw [hd] at h; cases h
    | some q => rw [hd] at h; simp at h; rw [← h]; exact floor_lt q
  · refine bits_ok _ fun r h => ?_
    cases hd : FloatKind.f64.format.div a b with
    | none => rw [hd] at h; cases h
    | some q =>
      rw [hd] at h
      simp only [Option.map_some, Option.bind_some] at h
      cases hm : FloatKind.f64.format.mul (floorN q) b with
      | none => rw [hm] at h; cases h
      | some p => rw [hm] at h; simp only [Option.bind_some] at h; exact sub_lt h
  · exact nan_ok
theorem xor_lt {a : Nat} (h : a < 18446744073709551616) : a ^^^ 2 ^ 63 < 18446744073709551616 := Nat.xor_lt_two_pow (n := 64) h (by decide)
theorem neg_ok {a : Nat} (h : a < 18446744073709551616) : NumOk (negN a) := bits_ok _ fun r e => by cases e; exact xor_lt h
theorem fromInt_num (i : Int) : NumOk (fromIntN i) := ⟨nearest_lt i, fun x => by rw [fromInt_ok] at x; cases x⟩
/-- the sign's bit turned -/
theorem xor_read {x : Nat} (h : x < 18446744073709551616) : (x ^^^ 2 ^ 63) % 2 ^ 63 = x % 2 ^ 63 := by
  rw [Nat.xor_mod_two_pow]
  simp
theorem read_nan (x : Nat) : (∃ s t, FloatKind.f64.decode x = .nan s t) ↔ 9218868437227405312 < x % 2 ^ 63 := by
  have e : FloatKind.f64.decode x = Ieee.double.read x := rfl
  have hi : Ieee.double.infRung = 9218868437227405312 := rfl
  have hsw : Ieee.double.signWeight = 2 ^ 63 := rfl
  have hb : Ieee.double.binade = 4503599627370496 := rfl
  rw [e]
  unfold Ieee.Format.read
  simp only [hi, hsw, hb]
  split
  · constructor
    · rintro ⟨s, t, h⟩; cases h
    · intro h; omega
  · split
    · constructor
      · rintro ⟨s, t, h⟩; cases h
      · intro h; omega
    · split
      · constructor
        · rintro ⟨s, t, h⟩; cases h
        · intro h; omega
      · constructor
        · intro _; omega
        · intro _; exact ⟨_, _, rfl⟩
theorem nan_bits (x : Nat) : isNan x = true ↔ 9218868437227405312 < x % 2 ^ 63 := (nan_iff x).trans (read_nan x)
theorem nan_xor {x : Nat} (h : x < 18446744073709551616) (hn : isNan x = false) : isNan (x ^^^ 2 ^ 63) = false := by
  cases h2 : isNan (x ^^^ 2 ^ 63) with
  | false => rfl
  | true =>
    have := (nan_bits _).1 h2
    rw [xor_read h, ← nan_bits] at this
    rw [this] at hn
    cases hn
/-- a number that is no NaN -/
def FinOk (n : Nat) : Prop := n < 18446744073709551616 ∧ isNan n = false
theorem FinOk.num {n : Nat} (h : FinOk n) : NumOk n := ⟨h.1, fun x => by rw [h.2] at x; cases x⟩
theorem map_fin {o : Option Ieee.Datum} (h : ∀ d, o = some d → ∀ s t, d ≠ .nan s t) : FinOk ((o.map FloatKind.f64.format.write).getD 0) := by
  cases o with
  | none => exact ⟨by decide, by decide⟩
  | some d => exact ⟨enc_lt d, write_ok (h d rfl)⟩
theorem product_fin {a b d : Ieee.Datum} (h : a.product b = some d) : ∀ s t, d ≠ .nan s t := by
  intro s t e
  subst e
  cases a <;> cases b <;> simp [Ieee.Datum.product] at h
theorem quotient_fin {k : Nat} {a b d : Ieee.Datum} (h : a.quotient k b = some d) : ∀ s t, d ≠ .nan s t := by
  intro s t e
  subst e
  cases a <;> cases b <;> simp [Ieee.Datum.quotient] at h
  split at h
  · split at h
    · cases h
    · simp at h
  · simp at h
theorem mul_fin (a b : Nat) : FinOk ((FloatKind.f64.format.mul a b).getD 0) := map_fin fun d hd => product_fin hd
theorem div_fin (a b : Nat) : FinOk ((FloatKind.f64.format.div a b).getD 0) := map_fin fun d hd => quotient_fin hd
theorem fromInt_fin (i : Int) : FinOk (fromIntN i) := ⟨nearest_lt i, fromInt_ok i⟩
theorem ldexp_fin {a : Nat} (h : FinOk a) (ex : Int) : FinOk (ldexpN a ex) := by
  unfold ldexpN
  split
  · exact h
  split
  · exact h
  · dsimp only
    have hx : FinOk (if (fOrd (a % 2 ^ 63) 4503599627370496 == some Ordering.lt) = true then ((FloatKind.f64.format.mul a 4841369599423283200).getD 0, (-52 : Int)) else (a, 0)).1 := by
      split
      · exact mul_fin _ _
      · exact h
    generalize (if (fOrd (a % 2 ^ 63) 4503599627370496 == some Ordering.lt) = true then ((FloatKind.f64.format.mul a 4841369599423283200).getD 0, (-52 : Int)) else (a, 0)) = nm at hx ⊢
    split
    · have h1 := hx.1
      have h2 : nm.1 / 2 ^ 63 * 2 ^ 63 % 2 ^ 63 = 0 := Nat.mul_mod_left _ _
      refine ⟨by omega, ?_⟩
      cases hn : isNan (nm.1 / 2 ^ 63 * 2 ^ 63) with
      | false => rfl
      | true =>
        have := (nan_bits _).1 hn
        omega
    · split
      · split
        · exact ⟨by decide, by decide⟩
        · exact ⟨by decide, by decide⟩
      · exact mul_fin _ _
theorem mag_fin {s : Bs} {x : Nat} (h : magN s = some x) : FinOk x := by
  unfold magN at h
  split at h
  · cases h; exact ⟨by decide, by decide⟩
  · dsimp only at h
    split at h
    · cases h
    · split at h
      · split at h
        · cases h; exact fromInt_fin _
        · cases h
      · split at h
        · split at h
          · cases h
          · cases h; exact div_fin _ _
        · repeat' (split at h)
          all_goals first
            | (cases h; done)
            | (cases h; exact ldexp_fin (fromInt_fin _) _)
theorem if_len1 (p : Prop) [Decidable p] (b : UInt8) : (if p then ([b] : Bs) else []).length ≤ 1 := by split <;> simp
theorem parse_ok {s : Bs} {x : Nat} (h : parseN s = some x) : NumOk x := by
  unfold parseN at h
  split at h
  · cases h
  · split at h
    · cases h; exact nan_ok
    · dsimp only at h
      cases hm : magN (if (s.head? == some 45) = true then s.drop 1 else s) with
      | none => rw [hm] at h; cases h
      | some f =>
        rw [hm] at h
        have hf := mag_fin hm
        simp only [Option.map_some, Option.some.injEq] at h
        rw [← h]
        split
        · exact FinOk.num ⟨xor_lt hf.1, nan_xor hf.1 hf.2⟩
        · exact hf.num

/-! ### lengths of texts -/
theorem decR_len : ∀ (k d u : Nat), u < 10 ^ (d + 1) → (decR k u).length ≤ d + 1 := by
  intro k
  induction k with
  | zero => intro d u _; simp [decR]
  | succ k ih =>
    intro d u h
    unfold decR
    split
    · simp
    · rename_i hne
      cases d with
      | zero => simp at h; omega
      | succ d =>
        have := ih d (u / 10) (by rw [Nat.pow_succ] at h; omega)
        simp
        omega
theorem decR_len2 : ∀ (k u : Nat), (decR k u).length ≤ k := by
  intro k
  induction k with
  | zero => intro u; simp [decR]
  | succ k ih =>
    intro u
    unfold decR
    split
    · simp
    · have := ih (u / 10); simp; omega
theorem decN_len (d u : Nat) (h : u < 10 ^ (d + 1)) : (decN u).length ≤ d + 1 := by
  unfold decN
  rw [List.length_reverse]
  exact decR_len 20 d u h
theorem decN_len2 (u : Nat) : (decN u).length ≤ 20 := by
  unfold decN
  rw [List.length_reverse]
  exact decR_len2 20 u
theorem trail_le : ∀ (k m : Nat), trail k m ≤ k := by
  intro k
  induction k with
  | zero => intro m; exact Nat.le_refl _
  | succ k ih =>
    intro m
    unfold trail
    split
    · omega
    · have := ih (m / 2); omega
theorem fmt_len (x : Nat) (hx : x < 18446744073709551616) : (fmtN x).length ≤ 23 := by
  unfold fmtN
  split
  · simp
  · split
    · simp
    · split
      · simp
      · dsimp only
        have hsg : (if x / 2 ^ 63 = 0 then ([] : Bs) else [45]).length ≤ 1 := by split <;> simp
        split
        · have := decN_len2 (((FloatKind.f64.decode (x % 2 ^ 63)).toInt .zero).getD 0).toNat
          rw [List.length_append]
          omega
        · have ht := trail_le 53 (if x % 2 ^ 63 / 2 ^ 52 = 0 then x % 2 ^ 52 else x % 2 ^ 52 + 2 ^ 52)
          have hm : (if x % 2 ^ 63 / 2 ^ 52 = 0 then x % 2 ^ 52 else x % 2 ^ 52 + 2 ^ 52) / 2 ^ trail 53 (if x % 2 ^ 63 / 2 ^ 52 = 0 then x % 2 ^ 52 else x % 2 ^ 52 + 2 ^ 52) < 10 ^ (15 + 1) := by
            refine Nat.lt_of_le_of_lt (Nat.div_le_self _ _) ?_
            split <;> omega
          have h1 := decN_len 15 _ hm
          have he : ((if x % 2 ^ 63 / 2 ^ 52 = 0 then (-1074 : Int) else Int.ofNat (x % 2 ^ 63 / 2 ^ 52) - 1075) + (trail 53 (if x % 2 ^ 63 / 2 ^ 52 = 0 then x % 2 ^ 52 else x % 2 ^ 52 + 2 ^ 52) : Nat)).natAbs < 10 ^ (3 + 1) := by
            have hex : x % 2 ^ 63 / 2 ^ 52 < 2048 := by omega
            have ht2 := trail_le 53 (x % 2 ^ 52)
            have ht3 := trail_le 53 (x % 2 ^ 52 + 2 ^ 52)
            split
            · omega
            · simp only [Int.ofNat_eq_natCast]; omega
          have h2 := decN_len 3 _ he
          simp only [List.length_append, List.length_singleton]
          have h3 := if_len1 ((if x % 2 ^ 63 / 2 ^ 52 = 0 then (-1074 : Int) else Int.ofNat (x % 2 ^ 63 / 2 ^ 52) - 1075) + (trail 53 (if x % 2 ^ 63 / 2 ^ 52 = 0 then x % 2 ^ 52 else x % 2 ^ 52 + 2 ^ 52) : Nat) < 0) 45
          omega
theorem builtin_len (b : Int) : (builtinN b).length ≤ 8 := by
  unfold builtinN
  repeat' split
  all_goals simp [sPrint, sToString, sToNumber, sType, sError, sPcall, sNext, sCreate, sResume, sYield, sStatus]
theorem type_len (v : Vl) : (typeN v).length ≤ 8 := by
  unfold typeN
  repeat' split
  all_goals simp
theorem status_len (n : Nat) : (statusN n).length ≤ 9 := by
  unfold statusN
  repeat' split
  all_goals simp
theorem utoa_len (u : Nat) : (utoaN u).length ≤ 20 := by
  unfold utoaN
  split
  · simp
  · exact decN_len2 u
theorem text_len {K : Cx} {v : Vl} (h : VOk K v) : (textV v).length ≤ 40 := by
  have h1 := h.well
  have h2 := fmt_len v.n h.b
  have h3 := builtin_len v.n
  have h4 := type_len v
  have h5 := utoa_len v.n
  unfold textV
  repeat' split
  all_goals first
    | omega
    | (simp only [List.length_append, List.length_cons, List.length_nil]; omega)
end Go.Proofs.Qxb6500574aGreatDoor
