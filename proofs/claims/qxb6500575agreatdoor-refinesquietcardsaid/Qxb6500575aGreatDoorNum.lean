/-
  THE WALK of api.Num.
-/
import Derived.Test.Qxb6500575aGreatDoorProg
import Derived.Test.Qxb6500575aGreatDoorData
import Derived.Laws.IdiomStrings
import Derived.IntWalk
namespace Go.Proofs.Qxb6500575aGreatDoor
open Go Go.RowKit
set_option linter.unusedVariables false
set_option linter.unusedSimpArgs false

/-- the decimal digits of u, at most f of them -/
def digs : Nat → Nat → List UInt8
  | 0, _ => []
  | f + 1, u => if u = 0 then [] else digs f (u / 10) ++ [UInt8.ofNat (48 + u % 10)]
def numMag (n : Int) : Int := if n < 0 then IntKind.u64.wrap (-IntKind.u64.wrap n) else IntKind.u64.wrap n
def numT (n : Int) : List UInt8 := if n = 0 then [48, 32] else (if n < 0 then [45] else []) ++ (digs 20 (numMag n).toNat ++ [32])
theorem digs_zero : ∀ f, digs f 0 = []
  | 0 => rfl
  | _ + 1 => by unfold digs; rw [if_pos rfl]
theorem digs_len : ∀ f u, (digs f u).length ≤ f
  | 0, _ => Nat.le_refl _
  | f + 1, u => by
    unfold digs
    split
    · simp
    · have := digs_len f (u / 10)
      simp; omega
theorem numT_len (n : Int) : (numT n).length ≤ 22 := by
  have := digs_len 20 (numMag n).toNat
  unfold numT
  split
  · simp
  · split <;> simp <;> omega
def u8Cells (l : List UInt8) : List Value := l.map fun b => .int .u8 b.toNat
structure NumS (w wr : World) (M m i : Nat) (D : List UInt8) : Prop where
  here : Has wr w.heap.size (List.replicate i (Value.int .u8 0) ++ u8Cells D).toArray 156
  fr : Fr (fun _ => False) w wr
  eq : digs 20 M = digs i m ++ D
  lt : m < 10 ^ i
theorem numMag_wrap (n : Int) (h : n = IntKind.u64.wrap n) : 0 ≤ n ∧ n < 18446744073709551616 := by
  rw [IntKind.wrap_u64] at h; omega
theorem wrap_wrap (n : Int) : 0 ≤ IntKind.u64.wrap n ∧ IntKind.u64.wrap n < 18446744073709551616 := by
  rw [IntKind.wrap_u64]; omega
theorem u8_code (r : Nat) (h : r ≤ 9) : ((UInt8.ofNat (48 + r)).toNat : Int) = 48 + (r : Int) := by
  have : (UInt8.ofNat (48 + r)).toNat = (48 + r) % 256 := by simp
  rw [this]; omega
theorem replicate_set (j : Nat) (D : List UInt8) (b : UInt8) (v : Value) (hv : v = .int .u8 b.toNat) : (List.replicate (j + 1) (Value.int .u8 0) ++ u8Cells D).set j v = List.replicate j (Value.int .u8 0) ++ u8Cells (b :: D) := by
  subst hv
  rw [List.replicate_succ', List.append_assoc, List.set_append_right _ _ (by simp)]
  simp [u8Cells]
theorem NumS.step {w wr : World} {M m j : Nat} {D : List UInt8} (h : NumS w wr M m (j + 1) D) (hm : m ≠ 0) (v : Value) (hv : v = .int .u8 (48 + ((m % 10 : Nat) : Int))) : NumS w (wr.setCell ⟨w.heap.size, j, none⟩ v) M (m / 10) j (UInt8.ofNat (48 + m % 10) :: D) := by
  have h9 : m % 10 ≤ 9 := by omega
  refine ⟨?_, h.fr.setCell (p := ⟨w.heap.size, j, none⟩) (.inr (Nat.le_refl _)) _, ?_, ?_⟩
  · have := h.here.put j v
    rw [← replicate_set j D (UInt8.ofNat (48 + m % 10)) v (by rw [hv, u8_code _ h9])]
    simpa using this
  · rw [h.eq]
    conv => lhs; unfold digs
    rw [if_neg hm]
    simp
  · have := h.lt
    rw [Nat.pow_succ] at this
    omega
theorem NumS.pos {w wr : World} {M m i : Nat} {D : List UInt8} (h : NumS w wr M m i D) (hm : m ≠ 0) : ∃ j, i = j + 1 := by
  cases i with
  | zero => have := h.lt; simp at this; omega
  | succ j => exact ⟨j, rfl⟩

theorem ba_app (a b : List UInt8) : ((⟨a.toArray⟩ : ByteArray) ++ ⟨b.toArray⟩) = ⟨(a ++ b).toArray⟩ := by
  apply ByteArray.ext
  simp
theorem num_slice (w : World) (b i : Nat) (D : List UInt8) (hD : D.length + i = 20) (hc : ∀ k (hk : k < D.length), w.cell? ⟨b, i + k, none⟩ = some (.int .u8 (D[k].toNat : Int))) :
    ∃ A : Addr, (Instr.sliceAt 156 (.pointer (some ⟨b, 0, none⟩)) (some (.int .i64 i)) none none).run Tryz.prog w = .ok (.slice (some A) D.length D.length) w ∧ ∀ k (hk : k < D.length), w.cell? (A.add k) = some (.int .u8 (D[k].toNat : Int)) := by
  have ht : Tryz.prog.underlying 156 = some (.array (Tryz.prog.arrayLen 156) (Tryz.prog.elem 156)) := by kernel_rfl
  have hl : Tryz.prog.arrayLen 156 = 20 := by kernel_rfl
  have hz : (sizeOf (Tryz.prog.elem 156)).run Tryz.prog w = .ok 1 w := by kernel_rfl
  refine ⟨if 20 = i then ⟨b, 0, none⟩ else (⟨b, 0, none⟩ : Addr).add (i * 1), ?_, ?_⟩
  · rw [run_sliceAt_array_l w 156 ⟨b, 0, none⟩ ht .i64 i (by omega) (by rw [hl]; omega), hz, hl]
    have : 20 - i = D.length := by omega
    simp [slicedAt, this]
  · intro k hk
    rw [if_neg (by omega)]
    have hadd : ((⟨b, 0, none⟩ : Addr).add (i * 1)).add k = ⟨b, i + k, none⟩ := by
      by_cases hi : i = 0
      · subst hi; by_cases hk0 : k = 0 <;> simp [Addr.add, hk0]
      · by_cases hk0 : k = 0 <;> simp [Addr.add, hk0, hi]
    rw [hadd]
    exact hc k hk

set_option maxRecDepth 100000 in
set_option maxHeartbeats 2000000 in
theorem num_any (s : List UInt8) (n : Int) (w : World) (hs : s.length ≤ 1000000) :
    Calls Tryz.prog 42 #[sv s, .int .i64 n] w fun e w' => e = .returned (sv (s ++ numT n)) ∧ Fr (fun _ => False) w w' := by
  by_cases h0 : n = 0
  · subst h0
    have e0 : Value.string ((⟨s.toArray⟩ : ByteArray) ++ ⟨#[48, 32]⟩) = sv (s ++ numT 0) := by simp [numT]; rfl
    rw [← e0]
    clear e0
    go_enter Tryz.func42, Tryz.ntmps42
    go_wp2
    go_ret
    exact ⟨rfl, Fr.refl _ _⟩
  · have b0 : (n == 0) = false := by simpa using h0
    by_cases h1 : n < 0
    · obtain ⟨S1, hS1⟩ : ∃ S1 : List UInt8, S1 = s ++ [45] := ⟨_, rfl⟩
      obtain ⟨M, hM⟩ : ∃ M : Nat, IntKind.u64.wrap (-IntKind.u64.wrap n) = (M : Int) := ⟨(IntKind.u64.wrap (-IntKind.u64.wrap n)).toNat, by have := (wrap_wrap (-IntKind.u64.wrap n)).1; omega⟩
      have hM2 : M < 18446744073709551616 := by have := (wrap_wrap (-IntKind.u64.wrap n)).2; omega
      have hres : s ++ numT n = S1 ++ (digs 20 M ++ [32]) := by
        unfold numT numMag
        rw [if_neg h0, if_pos h1, if_pos h1, hM]
        simp [hS1]
      have hl1 : S1.length ≤ 1000001 := by rw [hS1]; simp; omega
      rw [hres]
      have hM' : IntKind.u64.wrap (-IntKind.u64.wrap n) = (M : Int) := hM
      have HR : Hid (numT n = numT n) := rfl
      clear hres HR
      go_enter Tryz.func42, Tryz.ntmps42
      go_wp2
      go_loopw [5, 7] (fun t u wr => ∃ (i m : Nat) (D : List UInt8), i ≤ 20 ∧ D.length + i = 20 ∧ m < 18446744073709551616 ∧ t = .int .u64 m ∧ u = .int .i64 i ∧ Hid (NumS w wr M m i D)) (fun t _ _ => (intOf t).toNat)
      case atStart => exact ⟨20, M, [], Nat.le_refl _, rfl, hM2, rfl, rfl, ⟨Has.new _ _ _, (Fr.refl _ _).alloc _, by simp, by omega⟩⟩
      case round =>
        obtain ⟨i, m, D, hi, hD, hm64, rfl, rfl, G1⟩ := hrel
        by_cases hm : m = 0
        · subst hm
          have hq := G1.out.eq
          rw [digs_zero, List.nil_append] at hq
          have HQ : Hid (digs 20 M = D) := hq
          obtain ⟨A, hsl, hcell⟩ := num_slice wr w.heap.size i D hD (fun k hk => by
            rw [G1.out.here.cell]
            simp [u8Cells, List.getElem?_append_right, hk])
          have hconv := run_convert_bytes_back (P := Tryz.prog) wr 134 9 5 A D.length D (by kernel_rfl) (by kernel_rfl) (by kernel_rfl) hcell
          have gl := G1.out.here.lt
          have HF : Hid (Fr (fun _ => False) w wr) := G1.out.fr
          clear hq hcell G1
          go_wp2
          go_ret
          refine ⟨?_, HF.out⟩
          rw [HQ.out, hS1]
          have e1 : ∀ (x : List UInt8), (⟨x.toArray⟩ : ByteArray) ++ ⟨#[45]⟩ ++ ⟨D.toArray⟩ ++ ⟨#[32]⟩ = ⟨(x ++ [45] ++ (D ++ [32])).toArray⟩ := by
            intro x
            have h45 : (⟨#[45]⟩ : ByteArray) = ⟨[45].toArray⟩ := rfl
            have h32 : (⟨#[32]⟩ : ByteArray) = ⟨[32].toArray⟩ := rfl
            rw [h45, h32, ba_app, ba_app, ba_app]
            simp
          show Ending.returned (Value.string (_ ++ _ ++ _ ++ _)) = _
          rw [e1]
        · obtain ⟨j, rfl⟩ := G1.out.pos hm
          have cj : wr.cell? ⟨w.heap.size, j, none⟩ = some (.int .u8 0) := by
            rw [G1.out.here.cell]
            simp [List.getElem?_append]
          have fj := G1.out.here.frozen j
          have gl := G1.out.here.lt
          have hmp : 0 < m := by omega
          have hst : ∀ v, v = .int .u8 (48 + ((m % 10 : Nat) : Int)) → NumS w (wr.setCell ⟨w.heap.size, j, none⟩ v) M (m / 10) j (UInt8.ofNat (48 + m % 10) :: D) := fun v hv => G1.out.step hm v hv
          have HST : Hid (∀ v : Value, _) := hst
          clear hst G1
          go_wp2
          go_roundw
          case rel => exact ⟨j, m / 10, UInt8.ofNat (48 + m % 10) :: D, by omega, by simp; omega, by omega, by simp, rfl, HST.out _ (by simp)⟩
          case measure => simp [intOf]; omega
    · obtain ⟨S1, hS1⟩ : ∃ S1 : List UInt8, S1 = s := ⟨_, rfl⟩
      obtain ⟨M, hM⟩ : ∃ M : Nat, IntKind.u64.wrap n = (M : Int) := ⟨(IntKind.u64.wrap n).toNat, by have := (wrap_wrap (n)).1; omega⟩
      have hM2 : M < 18446744073709551616 := by have := (wrap_wrap (n)).2; omega
      have hres : s ++ numT n = S1 ++ (digs 20 M ++ [32]) := by
        unfold numT numMag
        rw [if_neg h0, if_neg h1, if_neg h1, hM]
        simp [hS1]
      have hl1 : S1.length ≤ 1000001 := by rw [hS1]; omega
      rw [hres]
      have hM' : IntKind.u64.wrap n = (M : Int) := hM
      have HR : Hid (numT n = numT n) := rfl
      clear hres HR
      go_enter Tryz.func42, Tryz.ntmps42
      go_wp2
      go_loopw [5, 7] (fun t u wr => ∃ (i m : Nat) (D : List UInt8), i ≤ 20 ∧ D.length + i = 20 ∧ m < 18446744073709551616 ∧ t = .int .u64 m ∧ u = .int .i64 i ∧ Hid (NumS w wr M m i D)) (fun t _ _ => (intOf t).toNat)
      case atStart => exact ⟨20, M, [], Nat.le_refl _, rfl, hM2, rfl, rfl, ⟨Has.new _ _ _, (Fr.refl _ _).alloc _, by simp, by omega⟩⟩
      case round =>
        obtain ⟨i, m, D, hi, hD, hm64, rfl, rfl, G1⟩ := hrel
        by_cases hm : m = 0
        · subst hm
          have hq := G1.out.eq
          rw [digs_zero, List.nil_append] at hq
          have HQ : Hid (digs 20 M = D) := hq
          obtain ⟨A, hsl, hcell⟩ := num_slice wr w.heap.size i D hD (fun k hk => by
            rw [G1.out.here.cell]
            simp [u8Cells, List.getElem?_append_right, hk])
          have hconv := run_convert_bytes_back (P := Tryz.prog) wr 134 9 5 A D.length D (by kernel_rfl) (by kernel_rfl) (by kernel_rfl) hcell
          have gl := G1.out.here.lt
          have HF : Hid (Fr (fun _ => False) w wr) := G1.out.fr
          clear hq hcell G1
          go_wp2
          go_ret
          refine ⟨?_, HF.out⟩
          rw [HQ.out, hS1]
          have e1 : ∀ (x : List UInt8), (⟨x.toArray⟩ : ByteArray) ++ ⟨D.toArray⟩ ++ ⟨#[32]⟩ = ⟨(x ++ (D ++ [32])).toArray⟩ := by
            intro x
            have h32 : (⟨#[32]⟩ : ByteArray) = ⟨[32].toArray⟩ := rfl
            rw [h32, ba_app, ba_app]
            simp
          show Ending.returned (Value.string (_ ++ _ ++ _)) = _
          rw [e1]
        · obtain ⟨j, rfl⟩ := G1.out.pos hm
          have cj : wr.cell? ⟨w.heap.size, j, none⟩ = some (.int .u8 0) := by
            rw [G1.out.here.cell]
            simp [List.getElem?_append]
          have fj := G1.out.here.frozen j
          have gl := G1.out.here.lt
          have hmp : 0 < m := by omega
          have hst : ∀ v, v = .int .u8 (48 + ((m % 10 : Nat) : Int)) → NumS w (wr.setCell ⟨w.heap.size, j, none⟩ v) M (m / 10) j (UInt8.ofNat (48 + m % 10) :: D) := fun v hv => G1.out.step hm v hv
          have HST : Hid (∀ v : Value, _) := hst
          clear hst G1
          go_wp2
          go_roundw
          case rel => exact ⟨j, m / 10, UInt8.ofNat (48 + m % 10) :: D, by omega, by simp; omega, by omega, by simp, rfl, HST.out _ (by simp)⟩
          case measure => simp [intOf]; omega
end Go.Proofs.Qxb6500575aGreatDoor
