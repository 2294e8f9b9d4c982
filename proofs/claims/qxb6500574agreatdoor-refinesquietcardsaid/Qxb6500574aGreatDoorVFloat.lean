/-
  NUMBERS, PLAIN: what a comparison with 2^53 says of the whole part; what is written is no NaN. No program.
-/
import Derived.Test.Qxb6500574aGreatDoorVPlain
import Derived.Laws.FloatArith
namespace Go.Proofs.Qxb6500574aGreatDoor
open Go

theorem read_mant {x : Nat} {s : Bool} {m : Nat} {p : Int} (h : FloatKind.f64.decode x = .number s m p) : m < 9007199254740992 := by
  have h2 : Ieee.double.read x = .number s m p := h
  unfold Ieee.Format.read at h2
  have hb : Ieee.double.binade = 4503599627370496 := rfl
  simp only [hb] at h2
  split at h2
  · injection h2; omega
  · split at h2
    · injection h2; omega
    · split at h2 <;> cases h2
theorem dec_two53 : FloatKind.f64.decode two53 = .number false 4503599627370496 1 := by rfl
theorem dec_minus53 : FloatKind.f64.decode minus53 = .number true 4503599627370496 1 := by rfl
theorem cut_zero_le (s : Bool) (n d : Nat) : Ieee.Toward.zero.cut s n d ≤ n := by
  simp only [Ieee.Toward.cut]
  exact Nat.div_le_self _ _
theorem toInt_in {x : Nat} (h1 : fOrd x minus53 = some .gt ∨ fOrd x minus53 = some .eq) (h2 : fOrd x two53 = some .lt ∨ fOrd x two53 = some .eq) :
    ∃ i, (FloatKind.f64.decode x).toInt .zero = some i ∧ -9007199254740992 ≤ i ∧ i ≤ 9007199254740992 := by
  have e1 : fOrd x minus53 = (FloatKind.f64.decode x).order (.number true 4503599627370496 1) := by rw [← dec_minus53]; rfl
  have e2 : fOrd x two53 = (FloatKind.f64.decode x).order (.number false 4503599627370496 1) := by rw [← dec_two53]; rfl
  rw [e1] at h1
  rw [e2] at h2
  cases hd : FloatKind.f64.decode x with
  | nan s t => rw [hd] at h1; simp [Ieee.Datum.order] at h1
  | infinity s => rw [hd] at h1 h2; cases s <;> simp [Ieee.Datum.order] at h1 h2
  | number s m p =>
    rw [hd] at h1 h2
    have hm := read_mant hd
    refine ⟨_, rfl, ?_⟩
    have key : Ieee.Toward.zero.cut s (m <<< p.toNat) (-p).toNat ≤ 9007199254740992 := by
      refine Nat.le_trans (cut_zero_le _ _ _) ?_
      by_cases hp : 1 ≤ p
      · have hb : min p 1 = 1 := by omega
        simp only [Ieee.Datum.order, hb] at h1 h2
        have hz : ((1 : Int) - 1).toNat = 0 := by omega
        rw [hz] at h1 h2
        obtain ⟨K, hK⟩ : ∃ K, m <<< (p - 1).toNat = K := ⟨_, rfl⟩
        have hk : K ≤ 4503599627370496 := by
          cases s
          · simp only [Ieee.signed, hK] at h2
            simp [Int.compare_eq_lt] at h2
            omega
          · simp only [Ieee.signed, hK] at h1
            simp [Int.compare_eq_gt] at h1
            omega
        have e : p.toNat = (p - 1).toNat + 1 := by omega
        rw [e, Nat.shiftLeft_succ, hK]
        omega
      · have : p.toNat = 0 := by omega
        rw [this, Nat.shiftLeft_zero]
        omega
    simp only [Ieee.signed, Nat.shiftLeft_zero]
    split <;> omega
/-- what is written of a number is no NaN -/
theorem nan_iff (x : Nat) : isNan x = true ↔ ∃ s t, FloatKind.f64.decode x = .nan s t := by
  have e : isNan x = ((FloatKind.f64.decode x).order (FloatKind.f64.decode x) != some .eq) := rfl
  rw [e]
  cases FloatKind.f64.decode x with
  | nan s t => simp [Ieee.Datum.order]
  | infinity s => cases s <;> simp [Ieee.Datum.order]
  | number s m p =>
    simp [Ieee.Datum.order]
theorem read_word {s : Bool} {r : Nat} (h : r ≤ 9218868437227405312) : ∀ a t, FloatKind.f64.decode (Ieee.double.word s r) ≠ .nan a t := by
  intro a t
  have e : FloatKind.f64.decode (Ieee.double.word s r) = Ieee.double.read (Ieee.double.word s r) := rfl
  rw [e]
  have hw : Ieee.double.word s r % Ieee.double.signWeight = r := by
    have hsw : Ieee.double.signWeight = 9223372036854775808 := rfl
    unfold Ieee.Format.word
    rw [hsw]
    split <;> omega
  have hi : Ieee.double.infRung = 9218868437227405312 := rfl
  unfold Ieee.Format.read
  simp only [hw, hi]
  split
  · exact fun h => nomatch h
  · split
    · exact fun h => nomatch h
    · split
      · exact fun h => nomatch h
      · omega
theorem write_num (s : Bool) (m : Nat) (p : Int) : isNan (FloatKind.f64.encode (.number s m p)) = false := by
  have hi : Ieee.double.infRung = 9218868437227405312 := rfl
  have key : ∀ a t, FloatKind.f64.decode (FloatKind.f64.encode (.number s m p)) ≠ .nan a t := by
    have e : FloatKind.f64.encode (.number s m p) = Ieee.double.nearest s m p := rfl
    rw [e]
    unfold Ieee.Format.nearest
    split
    · exact read_word (by omega)
    · exact read_word (by rw [hi]; exact Nat.min_le_right _ _)
  cases h : isNan (FloatKind.f64.encode (.number s m p)) with
  | false => rfl
  | true => obtain ⟨a, t, h2⟩ := (nan_iff _).1 h; exact (key a t h2).elim
theorem fromInt_ok (i : Int) : isNan (fromIntN i) = false := write_num _ _ _
theorem write_inf (s : Bool) : isNan (FloatKind.f64.encode (.infinity s)) = false := by cases s <;> rfl
/-- a result that is some: no NaN -/
theorem write_ok {d : Ieee.Datum} (h : ∀ s t, d ≠ .nan s t) : isNan (FloatKind.f64.encode d) = false := by
  cases d with
  | nan s t => exact (h s t rfl).elim
  | infinity s => exact write_inf s
  | number s m p => exact write_num s m p
end Go.Proofs.Qxb6500574aGreatDoor
