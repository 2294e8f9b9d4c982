/-
  THE PACKAGE's TABLES AT THE START, out of what the row says of them. No walk.
-/
import Derived.Test.Qxb6500574aGreatDoorRows
import Derived.Test.Qxb6500574aGreatDoorWRu4
import Derived.ChangeSame
import Derived.ChangeVars
import Derived.JoinedOf
import Derived.RowKit
import Derived.LaidLaws
import Derived.LaidHandle
import Derived.MakeChecks
import Derived.Stop.Joined
import Derived.ProofKit
import Derived.ChangeSlices
import Derived.Deep.Slices
import Derived.Deep.Strs
namespace Go.Proofs.Qxb6500574aGreatDoor
open Go Go.RowKit
set_option linter.unusedVariables false
set_option linter.unusedSimpArgs false
open Go.ChangeShapes Go.WideShapes Go.ChangeAt Go.RowKit Go.Deep
section
variable {H : Type} {enc : TypeId × Value → H} {W : World} {base fuel : Nat} {spare : Nat → Bool} {held : Bool}
theorem add_off (b j i : Nat) : (⟨b, j, none⟩ : Addr).add i = ⟨b, j + i, none⟩ := by
  unfold Addr.add
  split
  · rename_i h0; simp at h0 ⊢; try omega
  · simp
theorem gcell_lt {b j : Nat} {v : Value} (h : W.cell? ⟨b, j, none⟩ = some v) : b < W.heap.size := by
  rcases Nat.lt_or_ge b W.heap.size with hl | hl
  · exact hl
  · simp [World.cell?, Array.getElem?_eq_none hl] at h
/-- a list of texts -/
theorem str_tab {cs : List Value} {l : List Bs} {p : List MemPlace} (h0 : 0 < l.length) (h : DataW.trod enc Tryz.prog W base spare held fuel 95 cs = some (.slice (l.map fun s => .lit (.string s)) [], p)) :
    ∃ b j c, cs = [.slice (some ⟨b, j, none⟩) l.length c] ∧ b < W.heap.size ∧ ∀ i x, l[i]? = some x → W.cell? ⟨b, j + i, none⟩ = some (sv x) := by
  rcases open_slice1 Tryz.underlying95 (by kernel_rfl) h with ⟨_, hx⟩ | ⟨a, len, cap, m, n, V, D, Pl, hcs, _, hl, hm, hmm, hx, hel⟩
  · simp at hx
  · simp only [Prod.mk.injEq, DataW.slice.injEq] at hx
    obtain ⟨⟨hD, _⟩, _⟩ := hx
    have hlen : l.length = len := by
      have := congrArg List.length hD
      simpa using this
    have hlm : len ≤ m := by rw [hmm]; split <;> omega
    have each : ∀ i x, l[i]? = some x → W.cell? (a.add i) = some (sv x) := by
      intro i x hi
      have hil : i < l.length := (List.getElem?_eq_some_iff.1 hi).1
      obtain ⟨h1, h2⟩ := hel i (by omega)
      obtain ⟨t, e1, e2, _⟩ := DataW.trod_string Tryz.underlying9 h2
      have hDi : D i = .lit (.string x) := by
        have h3 := congrArg (fun q => q[i]?) hD
        simp only [List.getElem?_map, hi, Option.map_some] at h3
        rw [List.getElem?_range (by omega)] at h3
        simpa using h3.symm
      simp only [Prod.mk.injEq] at e2
      rw [hDi] at e2
      simp only [DataW.lit.injEq, Lit.string.injEq, List.cons.injEq, and_true] at e1 e2
      rw [h1, e1, e2.1]
    obtain ⟨b, j, spot⟩ := a
    obtain ⟨x0, hx0⟩ : ∃ x, l[0]? = some x := ⟨_, List.getElem?_eq_getElem h0⟩
    have c0 := each 0 x0 hx0
    have hspot : spot = none := by simpa [Addr.add] using World.cell?_spot c0
    subst hspot
    rw [add_off] at c0
    refine ⟨b, j, cap, by rw [hcs, hlen], gcell_lt c0, fun i x hi => ?_⟩
    rw [← add_off]
    exact each i x hi
set_option maxRecDepth 100000 in
theorem bindFields {n : Nat} {cs : List Value} {x : DataW H × List MemPlace} (h : DataW.trod enc Tryz.prog W base spare held n 375 cs = some x) :
    ∃ r k o : Int, cs = [.int .i64 r, .int .i64 k, .int .u64 o] ∧ x.1 = .agg [.lit (.int .i64 r), .lit (.int .i64 k), .lit (.int .u64 o)] := by
  obtain ⟨xs, n', _, hxe, hl, hlen, hf⟩ := DataW.trod_struct Tryz.underlying375 h
  have hc : Tryz.prog.cellsOf 375 = 3 := by kernel_rfl
  rw [hc] at hl
  have hx3 : xs.length = 3 := by simpa using hlen
  match cs, hl, xs, hx3 with
  | [c0, c1, c2], _, [y0, y1, y2], _ =>
    have ci : Tryz.prog.cellsOf 3 = 1 := by kernel_rfl
    have cu : Tryz.prog.cellsOf 36 = 1 := by kernel_rfl
    have f0 : DataW.trod enc Tryz.prog W base spare held n' 3 (([c0, c1, c2].drop 0).take (Tryz.prog.cellsOf 3)) = some y0 := hf 0 _ rfl
    have f1 : DataW.trod enc Tryz.prog W base spare held n' 3 (([c0, c1, c2].drop 1).take (Tryz.prog.cellsOf 3)) = some y1 := hf 1 _ rfl
    have f2 : DataW.trod enc Tryz.prog W base spare held n' 36 (([c0, c1, c2].drop 2).take (Tryz.prog.cellsOf 36)) = some y2 := hf 2 _ rfl
    rw [ci] at f0 f1
    rw [cu] at f2
    obtain ⟨i0, e0, z0, _⟩ := DataW.trod_int Tryz.underlying3 f0
    obtain ⟨i1, e1, z1, _⟩ := DataW.trod_int Tryz.underlying3 f1
    obtain ⟨i2, e2, z2, _⟩ := DataW.trod_int Tryz.underlying36 f2
    simp at e0 e1 e2
    subst e0 e1 e2 z0 z1 z2
    exact ⟨i0, i1, i2, rfl, by rw [hxe]; rfl⟩
def bindD (x : Nat × Nat × Nat) : DataW H := .agg [.lit (.int .i64 x.1), .lit (.int .i64 x.2.1), .lit (.int .u64 x.2.2)]
theorem bind_tab {cs : List Value} {p : List MemPlace} (h : DataW.trod enc Tryz.prog W base spare held fuel 376 cs = some (.slice (bindL.map bindD) [], p)) :
    ∃ b j c, cs = [.slice (some ⟨b, j, none⟩) 15 c] ∧ b < W.heap.size ∧ ∀ i x, bindL[i]? = some x → W.cell? ⟨b, j + i * 3, none⟩ = some (.int .i64 x.1) ∧ W.cell? ⟨b, j + i * 3 + 1, none⟩ = some (.int .i64 x.2.1) ∧ W.cell? ⟨b, j + i * 3 + 2, none⟩ = some (.int .u64 x.2.2) := by
  have hc : Tryz.prog.cellsOf 375 = 3 := by kernel_rfl
  rcases open_slice Tryz.underlying376 h with ⟨_, hx⟩ | ⟨a, len, cap, m, n, D, Pl, hcs, _, hl, hm, hmm, hx, hel⟩
  · simp at hx
  · simp only [Prod.mk.injEq, DataW.slice.injEq] at hx
    obtain ⟨⟨hD, _⟩, _⟩ := hx
    rw [hc] at hel
    have hlen : 15 = len := by
      have := congrArg List.length hD
      simpa [bindL] using this
    have hlm : len ≤ m := by rw [hmm]; split <;> omega
    have each : ∀ i x, bindL[i]? = some x → ∀ k v, [Value.int .i64 x.1, Value.int .i64 x.2.1, Value.int .u64 x.2.2][k]? = some v → W.cell? ((a.add (i * 3)).add k) = some v := by
      intro i x hi k v hk
      have hil : i < 15 := (List.getElem?_eq_some_iff.1 hi).1
      obtain ⟨cs', h1, h2⟩ := hel i (by omega)
      obtain ⟨r, q, o, e1, e2⟩ := bindFields h2
      have hDi : D i = bindD x := by
        have h3 := congrArg (fun q => q[i]?) hD
        simp only [List.getElem?_map, hi, Option.map_some] at h3
        rw [List.getElem?_range (by omega)] at h3
        simpa using h3.symm
      dsimp only at e2
      rw [hDi] at e2
      unfold bindD at e2
      simp only [DataW.agg.injEq, List.cons.injEq, DataW.lit.injEq, Lit.int.injEq, true_and, and_true] at e2
      obtain ⟨g1, g2, g3⟩ := e2
      obtain ⟨_, hle, hcell⟩ := World.cells?_some h1
      subst e1
      rw [← g1, ← g2, ← g3] at hcell
      have hk3 : k < 3 := by have := (List.getElem?_eq_some_iff.1 hk).1; simpa using this
      have := hcell k (by simpa using hk3)
      rw [this]
      exact hk
    obtain ⟨b, j, spot⟩ := a
    have c0 := each 0 _ (rfl : bindL[0]? = some (1, 25, 0)) 0 _ rfl
    have hspot : spot = none := by simpa [Addr.add] using World.cell?_spot c0
    subst hspot
    have hadd : ∀ i k, ((⟨b, j, none⟩ : Addr).add (i * 3)).add k = ⟨b, j + i * 3 + k, none⟩ := fun i k => by rw [add_off, add_off]
    rw [hadd] at c0
    refine ⟨b, j, cap, by rw [hcs, hlen], gcell_lt c0, fun i x hi => ⟨?_, ?_, ?_⟩⟩
    · have := each i x hi 0 _ rfl
      rw [hadd] at this
      exact this
    · have := each i x hi 1 _ rfl
      rw [hadd] at this
      exact this
    · have := each i x hi 2 _ rfl
      rw [hadd] at this
      exact this
end
theorem glob_of_laid {W : World} (h : laidMetH Tryz.prog Rows.keepsRow.laid W) : Glob W := by
  rw [MakeChecks.laidMetH_plain _ _ _ (by kernel_rfl)] at h
  obtain ⟨ps, ⟨g0, t0, cs0, f0, p0, q0, hg0, ht0, hv0, hd0, ⟨g1, t1, cs1, f1, p1, q1, hg1, ht1, hv1, hd1, ⟨g2, t2, cs2, f2, p2, q2, hg2, ht2, hv2, hd2, _, _⟩, _⟩, _⟩, _, _⟩ := h
  obtain rfl : g0 = 1 := Option.some.inj (hg0.symm.trans (by kernel_rfl))
  obtain rfl : g1 = 2 := Option.some.inj (hg1.symm.trans (by kernel_rfl))
  obtain rfl : g2 = 3 := Option.some.inj (hg2.symm.trans (by kernel_rfl))
  obtain rfl : t0 = 95 := Option.some.inj (ht0.symm.trans (by kernel_rfl))
  obtain rfl : t1 = 95 := Option.some.inj (ht1.symm.trans (by kernel_rfl))
  obtain rfl : t2 = 376 := Option.some.inj (ht2.symm.trans (by kernel_rfl))
  obtain ⟨b0, j0, c0, e0, l0, h0⟩ := str_tab (l := keywordL) (by decide) hd0
  obtain ⟨b1, j1, c1, e1, l1, h1⟩ := str_tab (l := signL) (by decide) hd1
  obtain ⟨b2, j2, c2, e2, l2, h2⟩ := bind_tab hd2
  have k0 : W.cell? ⟨1, 0, none⟩ = some (.slice (some ⟨b0, j0, none⟩) keywordL.length c0) := by
    have := World.var?_cell hg0 hv0 0
    rw [Array.eq_one_of_toList e0] at this
    simpa using this
  have k1 : W.cell? ⟨2, 0, none⟩ = some (.slice (some ⟨b1, j1, none⟩) signL.length c1) := by
    have := World.var?_cell hg1 hv1 0
    rw [Array.eq_one_of_toList e1] at this
    simpa using this
  have k2 : W.cell? ⟨3, 0, none⟩ = some (.slice (some ⟨b2, j2, none⟩) 15 c2) := by
    have := World.var?_cell hg2 hv2 0
    rw [Array.eq_one_of_toList e2] at this
    simpa using this
  have lab : ∀ k, k < W.heap.size → ob W k = 1039 := fun k hk => if_pos hk
  exact ⟨⟨b0, j0, c0, k0, gcell_lt k0, l0, lab _ (gcell_lt k0), lab _ l0, h0⟩, ⟨b1, j1, c1, k1, gcell_lt k1, l1, lab _ (gcell_lt k1), lab _ l1, h1⟩, ⟨b2, j2, c2, k2, gcell_lt k2, l2, lab _ (gcell_lt k2), lab _ l2, h2⟩⟩
end Go.Proofs.Qxb6500574aGreatDoor
