/-
  THE MEMORY, plain: bytes in a row. No walk.
-/
import Derived.Test.Qxb6500575aGreatDoorKMem
import Derived.Test.Qxb6500575aGreatDoorPAlu
namespace Go.Proofs.Qxb6500575aGreatDoor
open Go Go.RowKit
set_option linter.unusedVariables false
set_option linter.unusedSimpArgs false

def width (op : Int) : Nat := if op = 21 ∨ op = 22 ∨ op = 27 then 1 else if op = 23 ∨ op = 24 ∨ op = 28 then 2 else if op = 19 ∨ op = 25 then 4 else 8
theorem width_le (op : Int) : 1 ≤ width op ∧ width op ≤ 8 := by
  unfold width
  split
  · omega
  split
  · omega
  split
  · omega
  · omega
def leN : List UInt8 → Nat
  | [] => 0
  | b :: r => b.toNat + 256 * leN r
def loadV (op : Int) (x : Nat) : Int := if op = 21 then ((x : Int) + 128) % 256 - 128 else if op = 23 then ((x : Int) + 32768) % 65536 - 32768 else if op = 19 then wrap32 x else if op = 20 then wrap64 x else x
/-- the first byte touched -/
def placeP (len : Nat) (a off : Int) (w : Nat) : Option Nat := if off < 0 ∨ 4294967295 < off ∨ (len : Int) < a % 4294967296 + off + w then none else some (a % 4294967296 + off).toNat
theorem placeP_le {len w ea : Nat} {a off : Int} (h : placeP len a off w = some ea) : ea + w ≤ len ∧ (ea : Int) = a % 4294967296 + off := by
  unfold placeP at h
  split at h
  · cases h
  · simp at h; omega
def loadP (mem : List UInt8) (op a off : Int) : Int × Int :=
  match placeP mem.length a off (width op) with
  | none => (0, 12)
  | some ea => (loadV op (leN ((mem.drop ea).take (width op))), 0)
theorem loadP_none {mem : List UInt8} {op a off : Int} (h : placeP mem.length a off (width op) = none) : loadP mem op a off = (0, 12) := by
  unfold loadP
  rw [h]
theorem loadP_some {mem : List UInt8} {op a off : Int} {ea : Nat} (h : placeP mem.length a off (width op) = some ea) : loadP mem op a off = (loadV op (leN ((mem.drop ea).take (width op))), 0) := by
  unfold loadP
  rw [h]
def storeB (v : Int) (w : Nat) : List UInt8 := (List.range w).map fun i => UInt8.ofNat (v / 256 ^ i % 256).toNat
def putB (mem : List UInt8) (ea : Nat) (bs : List UInt8) : List UInt8 := mem.take ea ++ bs ++ mem.drop (ea + bs.length)
def storeP (mem : List UInt8) (op a off v : Int) : List UInt8 × Int :=
  match placeP mem.length a off (width op) with
  | none => (mem, 12)
  | some ea => (putB mem ea (storeB v (width op)), 0)
theorem storeP_none {mem : List UInt8} {op a off v : Int} (h : placeP mem.length a off (width op) = none) : storeP mem op a off v = (mem, 12) := by
  unfold storeP
  rw [h]
theorem storeP_some {mem : List UInt8} {op a off v : Int} {ea : Nat} (h : placeP mem.length a off (width op) = some ea) : storeP mem op a off v = (putB mem ea (storeB v (width op)), 0) := by
  unfold storeP
  rw [h]
/-- the pages that lie, or -1 -/
def growP (mem : List UInt8) (max : Nat) (n : Int) : List UInt8 × Int :=
  if (max : Int) - (mem.length / 8 : Nat) < n % 4294967296 then (mem, -1) else (mem ++ List.replicate ((n % 4294967296).toNat * 8) 0, (mem.length / 8 : Nat))
/-- the bytes of a paged memory -/
def KD.flat (d : KD) : List UInt8 := d.bytes 0 (d.pages.length * 8)
theorem KD.flat_len (d : KD) : d.flat.length = d.pages.length * 8 := KD.bytes_len d 0 _
theorem KD.bytes_drop (d : KD) (a n k : Nat) (h : k ≤ n) : (d.bytes a n).drop k = d.bytes (a + k) (n - k) := by
  have := KD.bytes_add d a k (n - k)
  rw [show k + (n - k) = n by omega] at this
  rw [this, List.drop_left' (KD.bytes_len d a k)]
theorem KD.bytes_take (d : KD) (a n k : Nat) (h : k ≤ n) : (d.bytes a n).take k = d.bytes a k := by
  have := KD.bytes_add d a k (n - k)
  rw [show k + (n - k) = n by omega] at this
  rw [this, List.take_left' (KD.bytes_len d a k)]
theorem KD.flat_cut (d : KD) (ea w : Nat) (h : ea + w ≤ d.pages.length * 8) : (d.flat.drop ea).take w = d.bytes ea w := by
  unfold KD.flat
  rw [KD.bytes_drop d 0 _ ea (by omega), KD.bytes_take _ _ _ _ (by omega), Nat.zero_add]
theorem KD.flat_byte (d : KD) (i : Nat) (h : i < d.pages.length * 8) : d.flat[i]? = some (d.byte i) := by
  simp [KD.flat, KD.bytes, h]
theorem putB_len (mem : List UInt8) (ea : Nat) (bs : List UInt8) (h : ea + bs.length ≤ mem.length) : (putB mem ea bs).length = mem.length := by
  simp [putB]; omega
theorem storeB_len (v : Int) (w : Nat) : (storeB v w).length = w := by simp [storeB]
theorem leN_lt : ∀ l : List UInt8, leN l < 256 ^ l.length
  | [] => by simp [leN]
  | b :: r => by
    have := leN_lt r
    have := b.toNat_lt
    simp only [leN, List.length_cons, Nat.pow_succ]
    omega
theorem loadP_i64 (mem : List UInt8) (op a off : Int) (h19 : 19 ≤ op) (h24 : op ≤ 24) : I64 (loadP mem op a off).1 := by
  unfold loadP
  split
  · exact i64_0
  · rename_i ea h
    have h1 := leN_lt ((mem.drop ea).take (width op))
    have h2 : ((mem.drop ea).take (width op)).length ≤ width op := List.length_take_le _ _
    have h3 : 256 ^ ((mem.drop ea).take (width op)).length ≤ 256 ^ width op := Nat.pow_le_pow_right (by omega) h2
    have h4 : leN ((mem.drop ea).take (width op)) < 256 ^ width op := by omega
    show I64 (loadV op _)
    unfold loadV
    split
    · unfold I64; omega
    split
    · unfold I64; omega
    split
    · exact i64_w32 _
    split
    · exact i64_wrap _
    · generalize leN ((mem.drop ea).take (width op)) = x at h4
      unfold width at h4
      unfold I64
      split at h4
      · omega
      split at h4
      · omega
      split at h4
      · omega
      · omega
theorem loadP_err (mem : List UInt8) (op a off : Int) : (loadP mem op a off).2 = 0 ∨ (loadP mem op a off).2 = 12 := by
  unfold loadP
  split
  · exact .inr rfl
  · exact .inl rfl
theorem storeP_err (mem : List UInt8) (op a off v : Int) : (storeP mem op a off v).2 = 0 ∨ (storeP mem op a off v).2 = 12 := by
  unfold storeP
  split
  · exact .inr rfl
  · exact .inl rfl
end Go.Proofs.Qxb6500575aGreatDoor
