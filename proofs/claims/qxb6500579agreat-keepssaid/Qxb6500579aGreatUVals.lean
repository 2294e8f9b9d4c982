/-
  THE WALK of vm: vals.
-/
import Derived.Test.Qxb6500579aGreatVUtoa
import Derived.Test.Qxb6500579aGreatVMem2
namespace Go.Proofs.Qxb6500579aGreat
open Go Go.RowKit
set_option linter.unusedVariables false
set_option linter.unusedSimpArgs false
/-- what can be shown -/
structure Shw (v : Vl) : Prop where
  t0 : 0 ≤ v.t
  t8 : v.t < 8
  n : v.n < 18446744073709551616
  s : v.s.length ≤ 40
  w : v.s = [] ∨ (v.t = 3 ∧ v.n = 0)
def valsN (xs : List Vl) : Bs := xs.flatMap fun v => showV v ++ [44]
theorem vals_take {xs : List Vl} {k : Nat} {v : Vl} (h : xs[k]? = some v) : valsN (xs.take (k + 1)) = valsN (xs.take k) ++ showV v ++ [44] := by
  unfold valsN
  rw [List.take_add_one, h, List.flatMap_append]
  simp
theorem Shw.len {v : Vl} (h : Shw v) : (showV v).length ≤ 64 := by
  obtain ⟨t, n, s⟩ := v
  obtain ⟨k, rfl⟩ : ∃ k : Nat, t = (k : Int) := ⟨t.toNat, (Int.toNat_of_nonneg h.t0).symm⟩
  have h1 := h.s
  have h2 := itoaN_len k
  have h3 := itoaN_len s.length
  have h4 := utoa_len n
  have h5 := h.w
  unfold showV
  simp only at *
  split
  · simp; omega
  · rename_i hn
    have hs : s = [] := by
      rcases h5 with e | e
      · exact e
      · exact absurd e hn
    rw [if_pos hs]
    simp; omega
theorem vals_len {xs : List Vl} (h : ∀ v ∈ xs, Shw v) : ∀ k, (valsN (xs.take k)).length ≤ 65 * k := by
  induction xs with
  | nil => intro k; simp [valsN]
  | cons a r ih =>
    intro k
    cases k with
    | zero => simp [valsN]
    | succ k =>
      have h1 := ih (fun v hv => h v (by simp [hv])) k
      have h2 := (h a (by simp)).len
      unfold valsN at h1 ⊢
      simp only [List.take_succ_cons, List.flatMap_cons, List.length_append, List.length_singleton]
      omega
/-- values one behind the other -/
structure VAt (w : World) (a : Option Addr) (xs : List Vl) : Prop where
  ne : xs ≠ [] → ∃ g off, a = some ⟨g, off, none⟩ ∧ g < w.heap.size ∧ ∀ (j : Nat) (v : Vl), xs[j]? = some v → w.cell? ⟨g, off + j * 3, none⟩ = some (.int .i64 v.t) ∧ w.cell? ⟨g, off + j * 3 + 1, none⟩ = some (.int .u64 v.n) ∧ w.cell? ⟨g, off + j * 3 + 2, none⟩ = some (sv v.s)
theorem showVal_shw {w : World} {v : Vl} (h : Shw v) : Calls Tryz.prog 17 #[v.val] w fun e w' => e = .returned (sv (showV v)) ∧ Fr (fun _ => False) w w' := by
  obtain ⟨t, n, s⟩ := v
  obtain ⟨k, rfl⟩ : ∃ k : Nat, t = (k : Int) := ⟨t.toNat, (Int.toNat_of_nonneg h.t0).symm⟩
  have h8 := h.t8
  exact showVal_any k n s (by simp only at h8; omega) h.n h.s
section
variable {w : World}
set_option maxRecDepth 100000
set_option maxHeartbeats 1000000
theorem vals_any {c : Nat} {a : Option Addr} (xs : List Vl) (hx : ∀ v ∈ xs, Shw v) (hl : xs.length ≤ 100000) (H : VAt w a xs) :
    Calls Tryz.prog 34 #[.slice a xs.length c] w fun e w' => e = .returned (sv (valsN xs)) ∧ Fr (fun _ => False) w w' := by
  obtain ⟨Q, HQ⟩ : ∃ Q : Ending → World → Prop, Hid ((fun e w' => e = .returned (sv (valsN xs)) ∧ Fr (fun _ => False) w w') = Q) := ⟨_, rfl⟩
  rw [HQ.out]
  have HX : Hid (∀ v ∈ xs, Shw v) := hx
  have HV : Hid (VAt w a xs) := H
  obtain ⟨N, HN⟩ : ∃ N, Hid (xs.length = N) := ⟨_, rfl⟩
  rw [HN.out] at hl ⊢
  clear hx H
  go_enter Tryz.func34, Tryz.ntmps34
  go_wp2_with fail
  go_loopw [3, 9] (fun v3 v9 wr => ∃ (k : Nat), k ≤ N ∧ v9 = .int .i64 k ∧ v3 = sv (valsN (xs.take k)) ∧ Hid (Fr (fun _ => False) w wr)) (fun _ v9 _ => N - (intOf v9).toNat)
  case atStart => exact ⟨0, by omega, rfl, rfl, Fr.refl _ _⟩
  case round =>
    obtain ⟨k, hk, rfl, rfl, HF⟩ := hrel
    by_cases h3 : k = N
    · subst h3
      have htk : xs.take k = xs := List.take_of_length_le (by rw [HN.out]; omega)
      rw [htk]
      have FIN : Hid (Q (.returned (sv (valsN xs))) wr) := by rw [← HQ.out]; exact ⟨rfl, HF.out⟩
      clear htk
      go_wp2_with fail
      exact FIN.out
    · obtain ⟨v, hv⟩ : ∃ v, xs[k]? = some v := ⟨_, List.getElem?_eq_getElem (by rw [HN.out]; omega)⟩
      obtain ⟨g, off, ha, hg, hc⟩ := HV.out.ne (by intro e; rw [e] at hv; simp at hv)
      obtain ⟨c0, c1, c2⟩ := hc k v hv
      have c0 := HF.out.cell c0
      have c1 := HF.out.cell c1
      have c2 := HF.out.cell c2
      have hkN : (k : Int) < (N : Int) := by omega
      subst ha
      clear hc
      have HV1 : Hid (Shw v) := HX.out v (List.mem_of_getElem? hv)
      have HT : Hid (valsN (xs.take (k + 1)) = valsN (xs.take k) ++ showV v ++ [44]) := vals_take hv
      have l1 := HV1.out.len
      have l2 := vals_len HX.out k
      go_wp2_with fail
      refine (showVal_shw HV1.out).mono ?_
      rintro e' w2 ⟨rfl, F2⟩
      have HF2 : Hid (Fr (fun _ => False) w w2) := HF.out.trans (((Fr.refl _ _).alloc _).trans F2 (fun _ _ x => x)) (fun _ _ x => x)
      clear F2 hv c0 c1 c2
      go_wp2_with fail
      refine ⟨⟨k + 1, by omega, by go_num, ?_, HF2⟩, by simp [intOf]; omega⟩
      rw [HT.out, sv_app (valsN (xs.take k)) (showV v)]
      exact congrArg Value.string (sv_app _ [44])
end
end Go.Proofs.Qxb6500579aGreat
