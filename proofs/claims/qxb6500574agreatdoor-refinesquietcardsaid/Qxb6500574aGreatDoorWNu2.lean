/-
  NUMBERS, PLAIN: the text of a finite number that is not negative is read back as that number. No program.
-/
import Derived.Test.Qxb6500574aGreatDoorWNu1
import Derived.Test.Qxb6500574aGreatDoorVLawN
namespace Go.Proofs.Qxb6500574aGreatDoor
open Go
set_option linter.unusedVariables false
/-! ### digits -/
def isD (c : UInt8) : Prop := 48 ≤ c.toNat ∧ c.toNat ≤ 57
def valD (ds : Bs) (m : Nat) : Nat := ds.foldl (fun m c => (m * 10 + (c.toNat - 48)) % 2 ^ 64) m
theorem digs_app : ∀ (ds rest : Bs) (m : Nat), (∀ c ∈ ds, isD c) → (∀ c, rest.head? = some c → ¬ isD c) → digs (ds ++ rest) m = (valD ds m, ds.length, rest) := by
  intro ds
  induction ds with
  | nil =>
    intro rest m _ h
    cases rest with
    | nil => rfl
    | cons c rest =>
      have : ¬ (48 ≤ c.toNat ∧ c.toNat ≤ 57) := h c rfl
      show digs (c :: rest) m = _
      unfold digs
      rw [if_neg this]
      rfl
  | cons c ds ih =>
    intro rest m h hr
    have hc : 48 ≤ c.toNat ∧ c.toNat ≤ 57 := h c (by simp)
    rw [List.cons_append]
    unfold digs
    rw [if_pos hc]
    simp only
    rw [ih rest _ (fun x hx => h x (by simp [hx])) hr]
    rfl
theorem decR_digit : ∀ (k u : Nat), ∀ c ∈ decR k u, isD c := by
  intro k
  induction k with
  | zero => intro u c hc; cases hc
  | succ k ih =>
    intro u c hc
    unfold decR at hc
    rcases List.mem_cons.1 hc with rfl | hc
    · have : u % 10 < 10 := Nat.mod_lt _ (by omega)
      have e : (UInt8.ofNat (48 + u % 10)).toNat = 48 + u % 10 := by rw [UInt8.toNat_ofNat']; omega
      unfold isD
      omega
    · split at hc
      · cases hc
      · exact ih _ c hc
theorem decN_digit (u : Nat) : ∀ c ∈ decN u, isD c := fun c hc => decR_digit 20 u c (by unfold decN at hc; exact List.mem_reverse.1 hc)
theorem decR_val : ∀ (k u : Nat), u < 10 ^ k → u < 2 ^ 64 → valD (decR k u).reverse 0 = u := by
  intro k
  induction k with
  | zero => intro u h _; simp at h; subst h; rfl
  | succ k ih =>
    intro u h hu
    have hm : u % 10 < 10 := Nat.mod_lt _ (by omega)
    have e : (UInt8.ofNat (48 + u % 10)).toNat = 48 + u % 10 := by rw [UInt8.toNat_ofNat']; omega
    unfold decR
    rw [List.reverse_cons]
    unfold valD
    rw [List.foldl_append]
    have h1 : List.foldl (fun m (c : UInt8) => (m * 10 + (c.toNat - 48)) % 2 ^ 64) 0 (if u / 10 = 0 then [] else decR k (u / 10)).reverse = u / 10 := by
      split
      · rename_i h0; rw [h0]; rfl
      · exact ih (u / 10) (by rw [Nat.pow_succ] at h; omega) (by omega)
    rw [h1]
    simp only [List.foldl_cons, List.foldl_nil, e]
    omega
theorem decN_val (u : Nat) (hu : u < 2 ^ 64) : valD (decN u) 0 = u := decR_val 20 u (Nat.lt_of_lt_of_le hu (by decide)) hu
theorem decN_pos (u : Nat) : 1 ≤ (decN u).length := by
  unfold decN
  rw [List.length_reverse]
  unfold decR
  simp
theorem digs_dec (u : Nat) (hu : u < 2 ^ 64) (rest : Bs) (hr : ∀ c, rest.head? = some c → ¬ isD c) : digs (decN u ++ rest) 0 = (u, (decN u).length, rest) := by
  rw [digs_app _ _ _ (decN_digit u) hr, decN_val u hu]
/-! ### the odd part -/
theorem trail_odd : ∀ (k m : Nat), m ≠ 0 → m < 2 ^ k → ∃ q, m = q * 2 ^ trail k m ∧ q ≠ 0 := by
  intro k
  induction k with
  | zero => intro m h0 h; simp at h; omega
  | succ k ih =>
    intro m h0 h
    unfold trail
    split
    · exact ⟨m, by simp, h0⟩
    · rename_i hm
      obtain ⟨q, h1, h2⟩ := ih (m / 2) (by omega) (by rw [Nat.pow_succ] at h; omega)
      refine ⟨q, ?_, h2⟩
      rw [Nat.pow_succ, ← Nat.mul_assoc, ← h1]
      omega
/-! ### order -/
theorem ord_num (x y : Nat) {s t : Bool} {m n : Nat} {i j : Int} (hx : FloatKind.f64.decode x = .number s m i) (hy : FloatKind.f64.decode y = .number t n j) :
    fOrd x y = some (compare (Ieee.signed s m (i - min i j).toNat) (Ieee.signed t n (j - min i j).toNat)) := by
  have e : fOrd x y = (FloatKind.f64.decode x).order (FloatKind.f64.decode y) := rfl
  rw [e, hx, hy]
  rfl
theorem dec_0 : FloatKind.f64.decode 0 = .number false 0 (-1074) := by rfl
theorem dec_max : FloatKind.f64.decode maxFin = .number false 9007199254740991 971 := by rfl
theorem dec_mmax : FloatKind.f64.decode (maxFin + 2 ^ 63) = .number true 9007199254740991 971 := by rfl
theorem dec_min : FloatKind.f64.decode 4503599627370496 = .number false 4503599627370496 (-1074) := by rfl
theorem dec_one : FloatKind.f64.decode 4607182418800017408 = .number false 4503599627370496 (-52) := by rfl
theorem dec_tiny : FloatKind.f64.decode 4368491638549381120 = .number false 4503599627370496 (-105) := by rfl
theorem cmp_gt {a b : Int} (h : a ≤ b) : (some (compare a b) == some Ordering.gt) = false := by
  have : compare a b ≠ .gt := fun hc => by have := Int.compare_eq_gt.1 hc; omega
  cases hcm : compare a b <;> first | rfl | exact absurd hcm this
theorem cmp_lt {a b : Int} (h : b ≤ a) : (some (compare a b) == some Ordering.lt) = false := by
  have : compare a b ≠ .lt := fun hc => by have := Int.compare_eq_lt.1 hc; omega
  cases hcm : compare a b <;> first | rfl | exact absurd hcm this
theorem cmp_eq {a b : Int} (h : a ≠ b) : (some (compare a b) == some Ordering.eq) = false := by
  have : compare a b ≠ .eq := fun hc => by have := Int.compare_eq_eq.1 hc; omega
  cases hcm : compare a b <;> first | rfl | exact absurd hcm this
theorem signed_pos (m u : Nat) : Ieee.signed false m u = ((m * 2 ^ u : Nat) : Int) := by unfold Ieee.signed; rw [Nat.shiftLeft_eq]; rfl
section
variable {x m : Nat} {p : Int}
theorem fin_max (hx : FloatKind.f64.decode x = .number false m p) (h : Canon m p) : (fOrd x maxFin == some .gt) = false := by
  rw [ord_num x maxFin hx dec_max]
  have h1 := h.hi
  have h2 := h.lt
  rw [show min p 971 = p by omega, show (p - p).toNat = 0 by omega, signed_pos, signed_pos]
  refine cmp_gt (Int.ofNat_le.2 ?_)
  have : 0 < 2 ^ (971 - p).toNat := Nat.two_pow_pos _
  generalize 2 ^ (971 - p).toNat = K at *
  rw [Nat.pow_zero, Nat.mul_one]
  have := Nat.mul_le_mul_left 9007199254740991 this
  omega
theorem fin_mmax (hx : FloatKind.f64.decode x = .number false m p) (h : Canon m p) : (fOrd x (maxFin + 2 ^ 63) == some .lt) = false := by
  rw [ord_num x _ hx dec_mmax]
  refine cmp_lt ?_
  rw [signed_pos]
  unfold Ieee.signed
  rw [if_pos rfl]
  generalize m * 2 ^ (p - min p 971).toNat = A
  generalize 9007199254740991 <<< (971 - min p 971).toNat = B
  omega
theorem fin_0 (hx : FloatKind.f64.decode x = .number false m p) (h : Canon m p) : (fOrd x 0 == some .eq) = false := by
  rw [ord_num x 0 hx dec_0]
  refine cmp_eq ?_
  rw [signed_pos, signed_pos, Nat.zero_mul]
  intro hc
  have := Int.ofNat_inj.1 hc
  rcases Nat.mul_eq_zero.1 this with h0 | h0
  · exact h.nz h0
  · exact absurd h0 (Nat.ne_of_gt (Nat.two_pow_pos _))
theorem fin_norm (hx : FloatKind.f64.decode x = .number false m p) (h : Canon m p) (hm : 4503599627370496 ≤ m) : (fOrd x 4503599627370496 == some .lt) = false := by
  rw [ord_num x _ hx dec_min]
  have h1 := h.lo
  rw [show min p (-1074) = -1074 by omega, show ((-1074 : Int) - -1074).toNat = 0 by omega, signed_pos, signed_pos]
  refine cmp_lt (Int.ofNat_le.2 ?_)
  have : 0 < 2 ^ (p - -1074).toNat := Nat.two_pow_pos _
  generalize 2 ^ (p - -1074).toNat = K at *
  rw [Nat.pow_zero, Nat.mul_one]
  have := Nat.mul_le_mul_left m this
  omega
theorem fin_nan (hx : FloatKind.f64.decode x = .number false m p) : isNan x = false := by
  cases hn : isNan x with
  | false => rfl
  | true => obtain ⟨s, t, e⟩ := (nan_iff x).1 hn; rw [hx] at e; cases e
end
end Go.Proofs.Qxb6500574aGreatDoor
