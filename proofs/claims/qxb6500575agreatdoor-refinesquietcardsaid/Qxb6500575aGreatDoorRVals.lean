/-
  THE WALK of api.Vals.
-/
import Derived.Test.Qxb6500575aGreatDoorKShow
namespace Go.Proofs.Qxb6500575aGreatDoor
open Go Go.RowKit
set_option linter.unusedVariables false
set_option linter.unusedSimpArgs false

/-- api.Val -/
structure BV where
  t : UInt8
  v : Int
def bvCells (l : List BV) : List Value := l.flatMap fun x => [.int .u8 x.t.toNat, .int .i64 x.v]
theorem bvCells_len (l : List BV) : (bvCells l).length = l.length * 2 := by
  induction l with
  | nil => rfl
  | cons a l ih => simp only [bvCells, List.flatMap_cons, List.length_append, List.length_cons, List.length_nil] at ih ⊢; omega
theorem bvCells_at : ∀ (l : List BV) (i : Nat) (x : BV), l[i]? = some x → (bvCells l)[i * 2]? = some (.int .u8 x.t.toNat) ∧ (bvCells l)[i * 2 + 1]? = some (.int .i64 x.v)
  | [], i, x, h => by simp at h
  | a :: l, 0, x, h => by
    simp at h
    subst h
    exact ⟨rfl, rfl⟩
  | a :: l, i + 1, x, h => by
    have := bvCells_at l i x (by simpa using h)
    have e1 : (i + 1) * 2 = i * 2 + 1 + 1 := by omega
    rw [e1]
    exact this
def valT (x : BV) : List UInt8 := x.t :: numT x.v
theorem valT_len (x : BV) : (valT x).length ≤ 23 := by have := numT_len x.v; simp [valT]; omega
def valsT (l : List BV) : List UInt8 := l.flatMap valT
theorem valsT_len (l : List BV) : (valsT l).length ≤ l.length * 23 := by
  induction l with
  | nil => simp [valsT]
  | cons a l ih => have := valT_len a; simp only [valsT, List.flatMap_cons, List.length_append, List.length_cons] at ih ⊢; omega
set_option maxRecDepth 100000
set_option maxHeartbeats 400000
theorem vals_any {w : World} (s : List UInt8) (hs : s.length ≤ 100000) (vs : List BV) (hv : vs.length ≤ 3) (a : Option Addr) (c : Nat) (hown : w.ownsRow 0 70 2 (.slice a vs.length c) vs.length (bvCells vs)) :
    Calls Tryz.prog 39 #[sv s, .slice a vs.length c] w fun e w' => ∃ z, e = .returned (sv z) ∧ Hid (z = s ++ valsT vs) ∧ z.length ≤ s.length + vs.length * 23 ∧ Fr (fun _ => False) w w' := by
  have HO : Hid (w.ownsRow 0 70 2 (.slice a vs.length c) vs.length (bvCells vs)) := hown
  clear hown
  obtain ⟨n, hn⟩ : ∃ n, vs.length = n := ⟨_, rfl⟩
  have HN : Hid (vs.length = n) := hn
  rw [hn] at HO hv ⊢
  clear hn
  go_enter Tryz.func39, Tryz.ntmps39
  go_wp2
  go_loopw [5, 0] (fun t u wr => ∃ (j : Nat) (X : List UInt8), j ≤ n ∧ t = .int .i64 j ∧ u = sv X ∧ X.length ≤ s.length + j * 23 ∧ Hid (X = s ++ valsT (vs.take j)) ∧ Hid (Fr (fun _ => False) w wr)) (fun t _ _ => n - (intOf t).toNat)
  case atStart => exact ⟨0, s, Nat.zero_le _, rfl, rfl, by omega, by show s = _; simp [valsT], Fr.refl _ _⟩
  case round =>
    obtain ⟨j, X, hj, rfl, rfl, hXl, HX, G⟩ := hrel
    by_cases hjl : j < n
    · obtain ⟨g, rfl, hc⟩ := owns_some (owns_fr HO.out G.out (fun _ _ h => h)) (by omega)
      obtain ⟨x, hx⟩ : ∃ x, vs[j]? = some x := ⟨_, List.getElem?_eq_getElem (by rw [HN.out]; exact hjl)⟩
      obtain ⟨b0, b1⟩ := bvCells_at vs j x hx
      have HXX : Hid (vs[j]? = some x) := hx
      have c0 := hc (j * 2) (by omega)
      have c1 := hc (j * 2 + 1) (by omega)
      rw [b0] at c0
      rw [b1] at c1
      have hgl := owns_lt (owns_fr HO.out G.out (fun _ _ h => h)) g rfl
      have hcap : n ≤ c := by
        rcases owns_form HO.out with ⟨h, _⟩ | ⟨_, _, h⟩
        · cases h
        · exact h
      obtain ⟨xt, xv⟩ := x
      simp only at c0 c1
      clear hc b0 b1 hx
      have hW : Has (wr.alloc (.cells #[.int .u8 xt.toNat] 5)) wr.heap.size _ _ := Has.new wr _ _
      have hconv := run_convert_bytes_back (P := Tryz.prog) (wr.alloc (.cells #[.int .u8 xt.toNat] 5)) 134 9 5 ⟨wr.heap.size, 0, none⟩ 1 [xt] (by kernel_rfl) (by kernel_rfl) (by kernel_rfl)
        (fun k hk => by
          simp at hk
          subst hk
          have hadd : (⟨wr.heap.size, 0, none⟩ : Addr).add 0 = ⟨wr.heap.size, 0, none⟩ := by simp [Addr.add]
          rw [hadd, hW.cell]
          rfl)
      simp only [List.length_singleton] at hconv
      clear hW
      obtain ⟨Y, HY, hYl⟩ : ∃ Y : List UInt8, Hid (Y = X ++ [xt]) ∧ Y.length ≤ s.length + j * 23 + 1 := ⟨_, rfl, by simp; omega⟩
      have hcat : (⟨X.toArray⟩ : ByteArray) ++ ⟨[xt].toArray⟩ = ⟨Y.toArray⟩ := by rw [ba_app, HY.out]
      have G1 : Hid (Fr (fun _ => False) w (wr.alloc (.cells #[.int .u8 xt.toNat] 5))) := G.out.alloc _
      have d1 : (wr.alloc (.cells #[.int .u8 xt.toNat] 5)).cell? ⟨g, j * 2 + 1, none⟩ = some (.int .i64 xv) := by rw [World.cell?_alloc_lt _ _ _ hgl]; exact c1
      have N1 : Hid (Calls _ _ _ _ _) := num_name Y xv (wr.alloc (.cells #[.int .u8 xt.toNat] 5)) (by omega)
      go_wp2_with fail
      refine N1.out.mono ?_
      rintro e w3 ⟨z, rfl, Z, hl, f3⟩
      have G3 : Hid (Fr (fun _ => False) w w3) := G1.out.trans f3 (fun _ _ h => h)
      clear f3 N1 G1
      go_wp2
      go_roundw
      case rel =>
        refine ⟨j + 1, z, by omega, by go_num, rfl, by omega, ?_, G3⟩
        show z = _
        rw [Z.out, HY.out, HX.out, List.take_add_one, HXX.out]
        simp [valsT, valT]
      case measure => simp [intOf]; omega
    · have hje : j = n := by omega
      have HE : Hid (X = s ++ valsT vs) := by
        show X = _
        rw [HX.out, hje, ← HN.out, List.take_length]
      clear HX
      subst hje
      go_wp2
      go_ret
      exact ⟨X, rfl, HE, by omega, G.out⟩
end Go.Proofs.Qxb6500575aGreatDoor
