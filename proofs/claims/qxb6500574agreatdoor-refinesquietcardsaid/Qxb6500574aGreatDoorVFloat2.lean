/-
  NUMBERS, PLAIN: what compares as equal and is not zero has the same bits; a whole number has one key. No program.
-/
import Derived.Test.Qxb6500574aGreatDoorVFloat
namespace Go.Proofs.Qxb6500574aGreatDoor
open Go

theorem read_form {x : Nat} (hx : x < 18446744073709551616) {s : Bool} {m : Nat} {p : Int} (h : FloatKind.f64.decode x = .number s m p) :
    x = (if s then 9223372036854775808 else 0) + (m + (p + 1074).toNat * 4503599627370496) ∧ -1074 ≤ p ∧ (-1074 < p → 4503599627370496 ≤ m) := by
  have h2 : Ieee.double.read x = .number s m p := h
  unfold Ieee.Format.read at h2
  have hb : Ieee.double.binade = 4503599627370496 := rfl
  have hs : Ieee.double.signWeight = 9223372036854775808 := rfl
  have hi : Ieee.double.infRung = 9218868437227405312 := rfl
  have hl : Ieee.double.leastPlace = -1074 := rfl
  simp only [hb, hs, hi, hl] at h2
  have hsgn : x = (if (x / 9223372036854775808 % 2 == 1) = true then 9223372036854775808 else 0) + x % 9223372036854775808 := by
    split
    · rename_i h; simp at h; omega
    · rename_i h; simp at h; omega
  split at h2
  · rename_i hr
    injection h2 with h3 h4 h5
    subst h3 h4 h5
    refine ⟨?_, by omega, by omega⟩
    have : ((-1074 : Int) + 1074).toNat = 0 := by omega
    rw [this, Nat.zero_mul, Nat.add_zero]
    exact hsgn
  · split at h2
    · rename_i hr1 hr2
      injection h2 with h3 h4 h5
      subst h3 h4 h5
      refine ⟨?_, by omega, fun _ => by omega⟩
      have e : ((-1074 : Int) + ((x % 9223372036854775808 / 4503599627370496 - 1 : Nat) : Int) + 1074).toNat = x % 9223372036854775808 / 4503599627370496 - 1 := by omega
      rw [e]
      refine hsgn.trans ?_
      congr 1
      omega
    · split at h2 <;> cases h2
theorem ord_eq_bits {x y : Nat} (hx : x < 18446744073709551616) (hy : y < 18446744073709551616) (h : fOrd x y = some .eq) (hz : y % 9223372036854775808 ≠ 0) : x = y := by
  have e : fOrd x y = (FloatKind.f64.decode x).order (FloatKind.f64.decode y) := rfl
  rw [e] at h
  cases hdx : FloatKind.f64.decode x with
  | nan s t => rw [hdx] at h; simp [Ieee.Datum.order] at h
  | infinity s =>
    cases hdy : FloatKind.f64.decode y with
    | nan s t => rw [hdx, hdy] at h; simp [Ieee.Datum.order] at h
    | number s2 m p => rw [hdx, hdy] at h; cases s <;> simp [Ieee.Datum.order] at h
    | infinity s2 =>
      have key : ∀ {z : Nat} {s : Bool}, z < 18446744073709551616 → FloatKind.f64.decode z = .infinity s → z = (if s then 9223372036854775808 else 0) + 9218868437227405312 := by
        intro z s hz hd
        have h2 : Ieee.double.read z = .infinity s := hd
        unfold Ieee.Format.read at h2
        have hb : Ieee.double.binade = 4503599627370496 := rfl
        have hs : Ieee.double.signWeight = 9223372036854775808 := rfl
        have hi : Ieee.double.infRung = 9218868437227405312 := rfl
        simp only [hb, hs, hi] at h2
        split at h2
        · cases h2
        · split at h2
          · cases h2
          · split at h2
            · rename_i hr
              injection h2 with h3
              subst h3
              split
              · rename_i h; simp at h; omega
              · rename_i h; simp at h; omega
            · cases h2
      rw [key hx hdx, key hy hdy]
      rw [hdx, hdy] at h
      cases s <;> cases s2 <;> simp [Ieee.Datum.order] at h ⊢
  | number s m p =>
    cases hdy : FloatKind.f64.decode y with
    | nan s t => rw [hdx, hdy] at h; simp [Ieee.Datum.order] at h
    | infinity s2 => rw [hdx, hdy] at h; cases s2 <;> simp [Ieee.Datum.order] at h
    | number s2 m2 p2 =>
      rw [hdx, hdy] at h
      obtain ⟨fx, px, qx⟩ := read_form hx hdx
      obtain ⟨fy, py, qy⟩ := read_form hy hdy
      have mx := read_mant hdx
      have my := read_mant hdy
      simp only [Ieee.Datum.order, Option.some.injEq] at h
      have h' := Int.compare_eq_eq.1 h
      have hm2 : m2 ≠ 0 := by
        intro h0
        subst h0
        have : p2 = -1074 := by
          rcases Int.lt_or_le (-1074) p2 with h | h
          · have := qy h; omega
          · omega
        subst this
        rw [fy] at hz
        apply hz
        cases s2 <;> simp
      have pos : ∀ a k : Nat, a ≠ 0 → 0 < a <<< k := fun a k ha => by
        rw [Nat.shiftLeft_eq]
        exact Nat.mul_pos (by omega) (Nat.two_pow_pos k)
      have hs : s = s2 ∧ m <<< (p - min p p2).toNat = m2 <<< (p2 - min p p2).toNat := by
        have h3 := pos m2 (p2 - min p p2).toNat hm2
        unfold Ieee.signed at h'
        generalize m <<< (p - min p p2).toNat = X1 at h' ⊢
        generalize m2 <<< (p2 - min p p2).toNat = X2 at h' h3 ⊢
        clear fx fy qx qy hz hx hy
        cases s <;> cases s2 <;> simp only [if_true, if_false, Bool.false_eq_true] at h'
        · exact ⟨rfl, by omega⟩
        · omega
        · omega
        · exact ⟨rfl, by omega⟩
      obtain ⟨rfl, hm⟩ := hs
      have hp : p = p2 ∧ m = m2 := by
        rcases Int.lt_trichotomy p p2 with hlt | heq | hgt
        · exfalso
          have e1 : min p p2 = p := by omega
          rw [e1] at hm
          have e2 : (p - p).toNat = 0 := by omega
          rw [e2, Nat.shiftLeft_zero, Nat.shiftLeft_eq] at hm
          have h5 := qy (by omega)
          have e3 : (p2 - p).toNat = ((p2 - p).toNat - 1) + 1 := by omega
          rw [e3, Nat.pow_succ] at hm
          have h6 : 1 ≤ 2 ^ ((p2 - p).toNat - 1) := Nat.two_pow_pos _
          have h7 : m2 * 2 ≤ m2 * (2 ^ ((p2 - p).toNat - 1) * 2) := Nat.mul_le_mul_left _ (by omega)
          omega
        · subst heq
          have e2 : (p - min p p).toNat = 0 := by omega
          rw [e2, Nat.shiftLeft_zero, Nat.shiftLeft_zero] at hm
          exact ⟨rfl, hm⟩
        · exfalso
          have e1 : min p p2 = p2 := by omega
          rw [e1] at hm
          have e2 : (p2 - p2).toNat = 0 := by omega
          rw [e2, Nat.shiftLeft_zero, Nat.shiftLeft_eq] at hm
          have h5 := qx (by omega)
          have e3 : (p - p2).toNat = ((p - p2).toNat - 1) + 1 := by omega
          rw [e3, Nat.pow_succ] at hm
          have h6 : 1 ≤ 2 ^ ((p - p2).toNat - 1) := Nat.two_pow_pos _
          have h7 : m * 2 ≤ m * (2 ^ ((p - p2).toNat - 1) * 2) := Nat.mul_le_mul_left _ (by omega)
          omega
      obtain ⟨rfl, rfl⟩ := hp
      rw [fx, fy]
theorem nearest_lt (i : Int) : fromIntN i < 18446744073709551616 := by
  have := FloatKind.f64.format.write_lt (.number (decide (i < 0)) i.natAbs 0)
  exact this
theorem toIntN_ord {x : Nat} {i : Int} (h : toIntN x = some i) : fOrd (fromIntN i) x = some .eq ∧ (FloatKind.f64.decode x).toInt .zero = some i := by
  unfold toIntN at h
  split at h
  · split at h
    · rename_i j hj
      split at h
      · rename_i hq
        cases h
        exact ⟨by simpa using hq, hj⟩
      · cases h
    · cases h
  · cases h
theorem toInt_inj {x y : Nat} (hx : x < 18446744073709551616) (hy : y < 18446744073709551616) {i : Int} (h1 : toIntN x = some i) (h2 : toIntN y = some i) (hi : i ≠ 0) : x = y := by
  have key : ∀ {z : Nat}, z < 18446744073709551616 → toIntN z = some i → z % 9223372036854775808 ≠ 0 := by
    intro z hz h hc
    have h3 := (toIntN_ord h).2
    have hd : ∃ s, FloatKind.f64.decode z = .number s 0 (-1074) := by
      have e : FloatKind.f64.decode z = Ieee.double.read z := rfl
      rw [e]
      unfold Ieee.Format.read
      have hb : Ieee.double.binade = 4503599627370496 := rfl
      have hs : Ieee.double.signWeight = 9223372036854775808 := rfl
      have hl : Ieee.double.leastPlace = -1074 := rfl
      simp only [hb, hs, hl, hc]
      exact ⟨_, rfl⟩
    obtain ⟨s, hd⟩ := hd
    rw [hd] at h3
    have e0 : (Ieee.Datum.number s 0 (-1074)).toInt .zero = some 0 := by cases s <;> rfl
    rw [e0] at h3
    cases h3
    exact hi rfl
  have a := ord_eq_bits (nearest_lt i) hx (toIntN_ord h1).1 (key hx h1)
  have b := ord_eq_bits (nearest_lt i) hy (toIntN_ord h2).1 (key hy h2)
  rw [← a, ← b]
end Go.Proofs.Qxb6500574aGreatDoor
