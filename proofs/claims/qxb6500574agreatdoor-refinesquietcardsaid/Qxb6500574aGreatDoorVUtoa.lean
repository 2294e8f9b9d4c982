/-
  THE WALKS of api: Utoa, Itoa, ShowVal.
-/
import Derived.Test.Qxb6500574aGreatDoorVFly
import Derived.Test.Qxb6500574aGreatDoorVLawN
import Derived.Laws.IdiomStrings
import Derived.IntWalk
namespace Go.Proofs.Qxb6500574aGreatDoor
open Go Go.RowKit
set_option linter.unusedVariables false
set_option linter.unusedSimpArgs false

/-- the decimal digits of u, at most f of them -/
def ndig : Nat → Nat → List UInt8
  | 0, _ => []
  | f + 1, u => if u = 0 then [] else ndig f (u / 10) ++ [UInt8.ofNat (48 + u % 10)]
theorem ndig_zero : ∀ f, ndig f 0 = []
  | 0 => rfl
  | _ + 1 => by unfold ndig; rw [if_pos rfl]
theorem decR_ndig : ∀ (k u : Nat), u ≠ 0 → (decR k u).reverse = ndig k u
  | 0, _, _ => rfl
  | k + 1, u, h => by
    unfold decR ndig
    rw [if_neg h, List.reverse_cons]
    congr 1
    split
    · rename_i h0; rw [h0, ndig_zero]; rfl
    · rename_i h0; exact decR_ndig k (u / 10) h0
def u8Cells (l : List UInt8) : List Value := l.map fun b => .int .u8 b.toNat
structure NumS (w wr : World) (M m i : Nat) (D : List UInt8) : Prop where
  here : Has wr w.heap.size (List.replicate i (Value.int .u8 0) ++ u8Cells D).toArray 160
  fr : Fr (fun _ => False) w wr
  eq : ndig 20 M = ndig i m ++ D
  lt : m < 10 ^ i
theorem u8_code (r : Nat) (h : r ≤ 9) : ((UInt8.ofNat (48 + r)).toNat : Int) = 48 + (r : Int) := by
  have : (UInt8.ofNat (48 + r)).toNat = (48 + r) % 256 := by simp
  rw [this]; omega
theorem replicate_set (j : Nat) (D : List UInt8) (b : UInt8) (v : Value) (hv : v = .int .u8 b.toNat) : (List.replicate (j + 1) (Value.int .u8 0) ++ u8Cells D).set j v = List.replicate j (Value.int .u8 0) ++ u8Cells (b :: D) := by
  subst hv
  rw [List.replicate_succ', List.append_assoc, List.set_append_right _ _ (by simp)]
  simp [u8Cells]
theorem NumS.step {w wr : World} {M m j : Nat} {D : List UInt8} (h : NumS w wr M m (j + 1) D) (hm : m ≠ 0) (v : Value) (hv : v = .int .u8 (48 + ((m % 10 : Nat) : Int))) : NumS w (wr.setCell ⟨w.heap.size, j, none⟩ v) M (m / 10) j (UInt8.ofNat (48 + m % 10) :: D) := by
  have h9 : m % 10 ≤ 9 := by omega
  refine ⟨?_, h.fr.setCell (p := ⟨w.heap.size, j, none⟩) (.inr (Nat.le_refl _)) _, ?_, ?_⟩
  · have := h.here.put j v
    rw [← replicate_set j D (UInt8.ofNat (48 + m % 10)) v (by rw [hv, u8_code _ h9])]
    simpa using this
  · rw [h.eq]
    conv => lhs; unfold ndig
    rw [if_neg hm]
    simp
  · have := h.lt
    rw [Nat.pow_succ] at this
    omega
theorem NumS.pos {w wr : World} {M m i : Nat} {D : List UInt8} (h : NumS w wr M m i D) (hm : m ≠ 0) : ∃ j, i = j + 1 := by
  cases i with
  | zero => have := h.lt; simp at this; omega
  | succ j => exact ⟨j, rfl⟩

theorem ba_app (a b : List UInt8) : ((⟨a.toArray⟩ : ByteArray) ++ ⟨b.toArray⟩) = ⟨(a ++ b).toArray⟩ := by
  apply ByteArray.ext
  simp
theorem num_slice (w : World) (b i : Nat) (D : List UInt8) (hD : D.length + i = 20) (hc : ∀ k (hk : k < D.length), w.cell? ⟨b, i + k, none⟩ = some (.int .u8 (D[k].toNat : Int))) :
    ∃ A : Addr, (Instr.sliceAt 160 (.pointer (some ⟨b, 0, none⟩)) (some (.int .i64 i)) none none).run Tryz.prog w = .ok (.slice (some A) D.length D.length) w ∧ ∀ k (hk : k < D.length), w.cell? (A.add k) = some (.int .u8 (D[k].toNat : Int)) := by
  have ht : Tryz.prog.underlying 160 = some (.array (Tryz.prog.arrayLen 160) (Tryz.prog.elem 160)) := by kernel_rfl
  have hl : Tryz.prog.arrayLen 160 = 20 := by kernel_rfl
  have hz : (sizeOf (Tryz.prog.elem 160)).run Tryz.prog w = .ok 1 w := by kernel_rfl
  refine ⟨if 20 = i then ⟨b, 0, none⟩ else (⟨b, 0, none⟩ : Addr).add (i * 1), ?_, ?_⟩
  · rw [run_sliceAt_array_l w 160 ⟨b, 0, none⟩ ht .i64 i (by omega) (by rw [hl]; omega), hz, hl]
    have : 20 - i = D.length := by omega
    simp [slicedAt, this]
  · intro k hk
    rw [if_neg (by omega)]
    have hadd : ((⟨b, 0, none⟩ : Addr).add (i * 1)).add k = ⟨b, i + k, none⟩ := by
      by_cases hi : i = 0
      · subst hi; by_cases hk0 : k = 0 <;> simp [Addr.add, hk0]
      · by_cases hk0 : k = 0 <;> simp [Addr.add, hk0, hi]
    rw [hadd]
    exact hc k hk

section
variable {w : World}
set_option maxRecDepth 100000
set_option maxHeartbeats 1000000
theorem utoa_any (M : Nat) (hM2 : M < 18446744073709551616) : Calls Tryz.prog 44 #[.int .u64 M] w fun e w' => e = .returned (sv (utoaN M)) ∧ Fr (fun _ => False) w w' := by
  by_cases h0 : M = 0
  · subst h0
    go_enter Tryz.func44, Tryz.ntmps44
    go_wp2
    go_ret
    exact ⟨rfl, Fr.refl _ _⟩
  · have hut : utoaN M = ndig 20 M := by unfold utoaN decN; rw [if_neg h0, decR_ndig 20 M h0]
    rw [hut]
    have b0 : ((M : Int) == 0) = false := by rw [beq_eq_false_iff_ne]; omega
    clear hut
    go_enter Tryz.func44, Tryz.ntmps44
    go_wp2
    go_loopw [0, 4] (fun t u wr => ∃ (i m : Nat) (D : List UInt8), i ≤ 20 ∧ D.length + i = 20 ∧ m < 18446744073709551616 ∧ t = .int .u64 m ∧ u = .int .i64 i ∧ Hid (NumS w wr M m i D)) (fun t _ _ => (intOf t).toNat)
    case atStart => exact ⟨20, M, [], Nat.le_refl _, rfl, hM2, rfl, rfl, ⟨Has.new _ _ _, (Fr.refl _ _).alloc _, by simp, by omega⟩⟩
    case round =>
      obtain ⟨i, m, D, hi, hD, hm64, rfl, rfl, G1⟩ := hrel
      by_cases hm : m = 0
      · subst hm
        have hq := G1.out.eq
        rw [ndig_zero, List.nil_append] at hq
        have HQ : Hid (ndig 20 M = D) := hq
        obtain ⟨A, hsl, hcell⟩ := num_slice wr w.heap.size i D hD (fun k hk => by
          rw [G1.out.here.cell]
          simp [u8Cells, List.getElem?_append_right, hk])
        have hconv := run_convert_bytes_back (P := Tryz.prog) wr 49 9 5 A D.length D (by kernel_rfl) (by kernel_rfl) (by kernel_rfl) hcell
        have gl := G1.out.here.lt
        have HF : Hid (Fr (fun _ => False) w wr) := G1.out.fr
        clear hq hcell G1
        go_wp2
        go_ret
        refine ⟨?_, HF.out⟩
        rw [HQ.out]
        rfl
      · obtain ⟨j, rfl⟩ := G1.out.pos hm
        have cj : wr.cell? ⟨w.heap.size, j, none⟩ = some (.int .u8 0) := by
          rw [G1.out.here.cell]
          simp [List.getElem?_append]
        have fj := G1.out.here.frozen j
        have gl := G1.out.here.lt
        have hmp : 0 < m := by omega
        have hst : ∀ v, v = .int .u8 (48 + ((m % 10 : Nat) : Int)) → NumS w (wr.setCell ⟨w.heap.size, j, none⟩ v) M (m / 10) j (UInt8.ofNat (48 + m % 10) :: D) := fun v hv => G1.out.step hm v hv
        have HST : Hid (∀ v : Value, _) := hst
        clear hst G1
        go_wp2
        go_roundw
        case rel => exact ⟨j, m / 10, UInt8.ofNat (48 + m % 10) :: D, by omega, by simp; omega, by omega, by simp, rfl, HST.out _ (by simp)⟩
        case measure => simp [intOf]; omega
theorem itoa_any (n : Nat) (h : n < 9223372036854775808) : Calls Tryz.prog 43 #[.int .i64 n] w fun e w' => e = .returned (sv (itoaN n)) ∧ Fr (fun _ => False) w w' := by
  have e0 : itoaN (n : Int) = utoaN n := by unfold itoaN; rw [if_neg (by omega)]; rfl
  rw [e0]
  clear e0
  have h0 : ¬ ((n : Int) < 0) := by omega
  have h1 : IntKind.u64.wrap (n : Int) = (n : Int) := by rw [IntKind.wrap_u64]; omega
  go_enter Tryz.func43, Tryz.ntmps43
  go_wp2_with fail
  refine (utoa_any n (by omega)).mono ?_
  rintro e w' ⟨rfl, hf⟩
  have HF : Hid (Fr (fun _ => False) w w') := hf
  clear hf
  go_wp2_with fail
  go_ret
  exact ⟨rfl, HF.out⟩
theorem sv_app (a b : Bs) : (⟨a.toArray⟩ : ByteArray) ++ ⟨b.toArray⟩ = ⟨(a ++ b).toArray⟩ := ba_app a b
theorem itoaN_len (n : Nat) : (itoaN n).length ≤ 20 := by
  have e0 : itoaN (n : Int) = utoaN n := by unfold itoaN; rw [if_neg (by omega)]; rfl
  rw [e0]
  exact utoa_len n
theorem showVal_any (vt vn : Nat) (vs : Bs) (h1 : vt < 8) (h2 : vn < 18446744073709551616) (h3 : vs.length ≤ 40) : Calls Tryz.prog 27 #[(⟨vt, vn, vs⟩ : Vl).val] w fun e w' => e = .returned (sv (showV ⟨vt, vn, vs⟩)) ∧ Fr (fun _ => False) w w' := by
  obtain ⟨Q, HQ⟩ : ∃ Q : Ending → World → Prop, Hid ((fun e w' => e = .returned (sv (showV ⟨vt, vn, vs⟩)) ∧ Fr (fun _ => False) w w') = Q) := ⟨_, rfl⟩
  rw [HQ.out]
  go_enter Tryz.func27, Tryz.ntmps27
  go_wp2_with fail
  refine (itoa_any vs.length (by omega)).mono ?_
  rintro e w1 ⟨rfl, f1⟩
  have k1 : Has w1 w.heap.size _ _ := (Has.new w #[.int .i64 vt, .int .u64 vn, sv vs] 68).fr f1 (fun x => x)
  have c0 := k1.cell 0
  have c1 := k1.cell 1
  have c2 := k1.cell 2
  simp only [List.getElem?_toArray, List.getElem?_cons_succ, List.getElem?_cons_zero] at c0 c1 c2
  have kl := k1.lt
  have hL := itoaN_len vs.length
  obtain ⟨I1, HI1⟩ : ∃ I1 : Bs, Hid (itoaN vs.length = I1) := ⟨_, rfl⟩
  rw [HI1.out] at hL ⊢
  have HF1 : Hid (Fr (fun _ => False) w w1) := ((Fr.refl _ w).alloc _).trans f1 (fun _ _ x => x)
  by_cases hc : vt = 3 ∧ vn = 0
  · obtain ⟨rfl, rfl⟩ := hc
    clear k1 f1
    go_wp2_with fail
    rw [← HQ.out]
    refine ⟨?_, HF1.out⟩
    have e : showV ⟨(3 : Nat), 0, vs⟩ = [115] ++ I1 ++ [58] ++ vs := by
      unfold showV
      rw [if_pos ⟨rfl, rfl⟩, ← HI1.out]
    show Ending.returned (Value.string (⟨([115] : Bs).toArray⟩ ++ ⟨I1.toArray⟩ ++ ⟨([58] : Bs).toArray⟩ ++ ⟨vs.toArray⟩)) = Ending.returned (sv (showV ⟨(3 : Nat), 0, vs⟩))
    rw [e, sv_app, sv_app, sv_app]
  · have HK1 : Hid (Has w1 w.heap.size #[.int .i64 vt, .int .u64 vn, sv vs] 68) := k1
    by_cases h3t : vt = 3
    · have hn0 : ((vn : Int) == 0) = false := by rw [beq_eq_false_iff_ne]; intro x; exact hc ⟨h3t, by omega⟩
      have HN0 : Hid (vn ≠ 0) := fun x => hc ⟨h3t, x⟩
      subst h3t
      clear hc
      clear k1 f1
      go_wp2_with fail
      refine (utoa_any vn h2).mono ?_
      rintro e w2 ⟨rfl, f2⟩
      have k2 : Has w2 w.heap.size _ _ := HK1.out.fr f2 (fun x => x)
      have HK2 : Hid (Has w2 w.heap.size _ _) := k2
      have c20 := k2.cell 0
      have c22 := k2.cell 2
      simp only [List.getElem?_toArray, List.getElem?_cons_succ, List.getElem?_cons_zero] at c20 c22
      have kl2 := k2.lt
      have hU := utoa_len vn
      obtain ⟨U1, HU1⟩ : ∃ U1 : Bs, Hid (utoaN vn = U1) := ⟨_, rfl⟩
      rw [HU1.out] at hU ⊢
      have HF2 : Hid (Fr (fun _ => False) w w2) := HF1.out.trans f2 (fun _ _ x => x)
      clear k2 f2
      go_wp2_with fail
      refine (itoa_any 3 (by omega)).mono ?_
      rintro e w3 ⟨rfl, f3⟩
      have k3 : Has w3 w.heap.size _ _ := HK2.out.fr f3 (fun x => x)
      have c32 := k3.cell 2
      simp only [List.getElem?_toArray, List.getElem?_cons_succ, List.getElem?_cons_zero] at c32
      have kl3 := k3.lt
      have hT := itoaN_len 3
      obtain ⟨T1, HT1⟩ : ∃ T1 : Bs, Hid (itoaN (3 : Nat) = T1) := ⟨_, rfl⟩
      rw [HT1.out] at hT ⊢
      have HF3 : Hid (Fr (fun _ => False) w w3) := HF2.out.trans f3 (fun _ _ x => x)
      clear k3 f3
      by_cases hz : vs = []
      · subst hz
        have hsh : showV ⟨(3 : Nat), vn, []⟩ = [118] ++ T1 ++ [46] ++ U1 := by
          unfold showV
          rw [if_neg (fun x => HN0.out x.2), if_pos rfl, ← HT1.out, ← HU1.out]
        have HSH : Hid (showV ⟨(3 : Nat), vn, []⟩ = [118] ++ T1 ++ [46] ++ U1) := hsh
        clear hsh
        go_wp2_with fail
        rw [← HQ.out]
        refine ⟨?_, HF3.out⟩
        show Ending.returned (Value.string (⟨([118] : Bs).toArray⟩ ++ ⟨T1.toArray⟩ ++ ⟨([46] : Bs).toArray⟩ ++ ⟨U1.toArray⟩)) = Ending.returned (sv (showV ⟨(3 : Nat), vn, []⟩))
        rw [HSH.out, sv_app, sv_app, sv_app]
      · have hz2 : (vs == []) = false := by simpa using hz
        have hsh : showV ⟨(3 : Nat), vn, vs⟩ = [118] ++ T1 ++ [46] ++ U1 ++ [33] ++ I1 ++ [58] ++ vs := by
          unfold showV
          rw [if_neg (fun x => HN0.out x.2), if_neg hz, ← HT1.out, ← HU1.out, ← HI1.out]
        have HSH : Hid (showV ⟨(3 : Nat), vn, vs⟩ = [118] ++ T1 ++ [46] ++ U1 ++ [33] ++ I1 ++ [58] ++ vs) := hsh
        clear hsh
        go_wp2_with fail
        rw [← HQ.out]
        refine ⟨?_, HF3.out⟩
        show Ending.returned (Value.string (⟨([118] : Bs).toArray⟩ ++ ⟨T1.toArray⟩ ++ ⟨([46] : Bs).toArray⟩ ++ ⟨U1.toArray⟩ ++ ⟨([33] : Bs).toArray⟩ ++ ⟨I1.toArray⟩ ++ ⟨([58] : Bs).toArray⟩ ++ ⟨vs.toArray⟩)) = Ending.returned (sv (showV ⟨(3 : Nat), vn, vs⟩))
        rw [HSH.out, sv_app, sv_app, sv_app, sv_app, sv_app, sv_app, sv_app]
    · have ht3 : ((vt : Int) == 3) = false := by rw [beq_eq_false_iff_ne]; omega
      have HT3 : Hid (vt ≠ 3) := h3t
      clear hc h3t
      clear k1 f1
      go_wp2_with fail
      refine (utoa_any vn h2).mono ?_
      rintro e w2 ⟨rfl, f2⟩
      have k2 : Has w2 w.heap.size _ _ := HK1.out.fr f2 (fun x => x)
      have HK2 : Hid (Has w2 w.heap.size _ _) := k2
      have c20 := k2.cell 0
      have c22 := k2.cell 2
      simp only [List.getElem?_toArray, List.getElem?_cons_succ, List.getElem?_cons_zero] at c20 c22
      have kl2 := k2.lt
      have hU := utoa_len vn
      obtain ⟨U1, HU1⟩ : ∃ U1 : Bs, Hid (utoaN vn = U1) := ⟨_, rfl⟩
      rw [HU1.out] at hU ⊢
      have HF2 : Hid (Fr (fun _ => False) w w2) := HF1.out.trans f2 (fun _ _ x => x)
      clear k2 f2
      go_wp2_with fail
      refine (itoa_any vt (by omega)).mono ?_
      rintro e w3 ⟨rfl, f3⟩
      have k3 : Has w3 w.heap.size _ _ := HK2.out.fr f3 (fun x => x)
      have c32 := k3.cell 2
      simp only [List.getElem?_toArray, List.getElem?_cons_succ, List.getElem?_cons_zero] at c32
      have kl3 := k3.lt
      have hT := itoaN_len vt
      obtain ⟨T1, HT1⟩ : ∃ T1 : Bs, Hid (itoaN vt = T1) := ⟨_, rfl⟩
      rw [HT1.out] at hT ⊢
      have HF3 : Hid (Fr (fun _ => False) w w3) := HF2.out.trans f3 (fun _ _ x => x)
      clear k3 f3
      by_cases hz : vs = []
      · subst hz
        have hsh : showV ⟨vt, vn, []⟩ = [118] ++ T1 ++ [46] ++ U1 := by
          unfold showV
          rw [if_neg (fun x => HT3.out (by have := x.1; dsimp only at this; omega)), if_pos rfl, ← HT1.out, ← HU1.out]
        have HSH : Hid (showV ⟨vt, vn, []⟩ = [118] ++ T1 ++ [46] ++ U1) := hsh
        clear hsh
        go_wp2_with fail
        rw [← HQ.out]
        refine ⟨?_, HF3.out⟩
        show Ending.returned (Value.string (⟨([118] : Bs).toArray⟩ ++ ⟨T1.toArray⟩ ++ ⟨([46] : Bs).toArray⟩ ++ ⟨U1.toArray⟩)) = Ending.returned (sv (showV ⟨vt, vn, []⟩))
        rw [HSH.out, sv_app, sv_app, sv_app]
      · have hz2 : (vs == []) = false := by simpa using hz
        have hsh : showV ⟨vt, vn, vs⟩ = [118] ++ T1 ++ [46] ++ U1 ++ [33] ++ I1 ++ [58] ++ vs := by
          unfold showV
          rw [if_neg (fun x => HT3.out (by have := x.1; dsimp only at this; omega)), if_neg hz, ← HT1.out, ← HU1.out, ← HI1.out]
        have HSH : Hid (showV ⟨vt, vn, vs⟩ = [118] ++ T1 ++ [46] ++ U1 ++ [33] ++ I1 ++ [58] ++ vs) := hsh
        clear hsh
        go_wp2_with fail
        rw [← HQ.out]
        refine ⟨?_, HF3.out⟩
        show Ending.returned (Value.string (⟨([118] : Bs).toArray⟩ ++ ⟨T1.toArray⟩ ++ ⟨([46] : Bs).toArray⟩ ++ ⟨U1.toArray⟩ ++ ⟨([33] : Bs).toArray⟩ ++ ⟨I1.toArray⟩ ++ ⟨([58] : Bs).toArray⟩ ++ ⟨vs.toArray⟩)) = Ending.returned (sv (showV ⟨vt, vn, vs⟩))
        rw [HSH.out, sv_app, sv_app, sv_app, sv_app, sv_app, sv_app, sv_app]
end
end Go.Proofs.Qxb6500574aGreatDoor
