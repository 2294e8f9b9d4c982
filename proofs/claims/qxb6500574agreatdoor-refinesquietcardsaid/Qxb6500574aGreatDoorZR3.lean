/-
  THE WALKS of syntaxm: a node of the arena; binOp.
-/
import Derived.Test.Qxb6500574aGreatDoorZR2
namespace Go.Proofs.Qxb6500574aGreatDoor
open Go Go.RowKit
set_option linter.unusedVariables false
set_option linter.unusedSimpArgs false
/-- a node's cells in the parser's arena -/
structure NdZ (W : World) (b g L c n : Nat) (d : Nd) : Prop where
  c8 : W.cell? ⟨b, 8, none⟩ = some (.slice (some ⟨g, 0, none⟩) L c)
  lc : L ≤ c
  lb : b < W.heap.size
  lg : g < W.heap.size
  ln : n < L
  d0 : W.cell? ⟨g, n * 8, none⟩ = some (.int .i64 d.k)
  d4 : W.cell? ⟨g, n * 8 + 4, none⟩ = some (.int .i64 d.next)
  d7 : W.cell? ⟨g, n * 8 + 7, none⟩ = some (.int .i64 d.p)
  f4 : W.frozen? ⟨g, n * 8 + 4, none⟩ = false
  gb : g ≠ b
section
variable {w W W1 : World} {A A1 : PzP} {d d1 : PzD} {T : List Tok} {s s' : PSt} {t : Tok} {q : Nat} {y : Nat × Nat}
theorem PzK.node (h : PzK w A T s W) {l : Nat} (hl : l < s.nodes.length) : ∃ g c, NdZ W A.b g s.nodes.length c l (s.nodes.getD l nd0) ∧ ∀ (x : Nat), l ≠ 0 → PzK w A T (s.link l x) (W.setCell ⟨g, l * 8 + 4, none⟩ (.int .i64 x)) := by
  obtain ⟨A', q, m, S⟩ := h
  have nod : Row W A'.o 2 134 8 A'.nd s.nodes.length (s.nodes.flatMap mdV) := m.m.nod
  obtain ⟨g, h1, h2, h3, h4, h5, h6⟩ := nod.cells (show 0 < s.nodes.length by omega)
  have hd : s.nodes[l]? = some (s.nodes.getD l nd0) := by rw [List.getD_eq_getElem?_getD, List.getElem?_eq_getElem hl]; rfl
  have k : ∀ i, i < 8 → W.cell? ⟨g, l * 8 + i, none⟩ = (mdV (s.nodes.getD l nd0))[i]? := fun i hi => (h5 _ (by omega)).trans (flatMap_at _ 8 mdV_len s.nodes l i _ hd hi)
  have c8 : W.cell? ⟨A'.b, 8, none⟩ = some (.slice A'.nd.a s.nodes.length A'.nd.c) := m.m.c 8
  rw [h1, S.b] at c8
  have gb : g ≠ A.b := fun e => by
    have lb := m.m.blk.lb
    rw [S.b, ← e, h3] at lb
    omega
  refine ⟨g, A'.nd.c, ⟨c8, h2, by rw [← S.b]; exact m.m.lt, h4, hl, k 0 (by omega), k 4 (by omega), k 7 (by omega), h6 _, gb⟩, fun x h0 => ?_⟩
  have e1 : (s.nodes.flatMap mdV).set (l * 8 + 4) (.int .i64 x) = (s.nodes.set l { s.nodes.getD l nd0 with next := x }).flatMap mdV := (flatMap_set mdV 8 mdV_len s.nodes l 4 _ { s.nodes.getD l nd0 with next := x } (.int .i64 x) hd (by omega) rfl).symm
  obtain ⟨r1, r2⟩ := nod.put h1 (l * 8 + 4) (.int .i64 x) e1
  have ek : s.link l x = { s with nodes := s.nodes.set l { s.nodes.getD l nd0 with next := x } } := by unfold PSt.link; rw [if_neg h0]
  rw [ek]
  have hb := m.m.blk.st r2 (by omega)
  refine ⟨{ A' with o := _ }, q, ⟨⟨?_, ?_, r2.hi m.m.own, m.m.pe, m.m.ls⟩, m.x, m.ta⟩, S.trans ⟨r2.weaken (fun l hl => by omega), rfl, rfl, rfl⟩⟩
  · have e2 : pzV A' (gd s (curT T s) q) = pzV A' (gd { s with nodes := s.nodes.set l { s.nodes.getD l nd0 with next := x } } (curT T s) q) := by unfold pzV gd; simp
    rw [e2] at hb
    exact hb
  · show Row _ _ _ _ _ _ (s.nodes.set l { s.nodes.getD l nd0 with next := x }).length _
    rw [List.length_set]
    exact r1
set_option maxRecDepth 100000
set_option maxHeartbeats 1000000
/-- the operator at hand, if its rank is r -/
def bopN (k r : Nat) : Nat := if rkT k = r + 2 then (bindL.getD (k - 22) (0, 0, 0)).2.2 else 0
theorem bop_pos {k r : Nat} (h : rkT k = r + 2) (h1 : 1 ≤ r) (h2 : r ≠ 2) (hk : k ≤ 46) : bopN k r ≠ 0 := by
  unfold bopN
  rw [if_pos h]
  have : ∀ k, k ≤ 46 → 3 ≤ rkT k → rkT k ≠ 4 → (bindL.getD (k - 22) (0, 0, 0)).2.2 ≠ 0 := by decide
  exact this k hk (by omega) (by omega)
theorem op_bin {t : Tok} {r : Nat} (h : rkT t.k = r + 2) (h1 : 1 ≤ r) (a b : Nat) (hk : t.k ≤ 46) : opN t a b = ⟨22, a, b, 0, 0, bopN t.k r, [], t.p⟩ := by
  unfold opN bopN
  rw [if_pos h]
  have : ∀ k, k ≤ 46 → 3 ≤ rkT k → (bindL.getD (k - 22) (0, 0, 0)).2.1 = 22 := by decide
  rw [this t.k hk (by omega)]
theorem bop_le {k r : Nat} (hk : k ≤ 46) : bopN k r ≤ 20 := by
  unfold bopN
  split
  · have : ∀ k, k ≤ 46 → (bindL.getD (k - 22) (0, 0, 0)).2.2 ≤ 20 := by decide
    exact this k hk
  · omega
theorem PzK.binOp (h : PzK w A T s W) {r : Nat} (hr : r = 1 ∨ r = 3 ∨ r = 4) {r' : Int} (hre : r' = r) : Calls Tryz.prog 315 #[.pointer (some ⟨A.b, 0, none⟩), .int .i64 r'] W fun e w' => e = .returned (.int .i64 (bopN (curT T s).k r : Nat)) ∧ w' = W := by
  subst hre
  obtain ⟨c3, c4, _, _, _, _, _, _⟩ := h.c
  have lb := h.lt
  have k46 := h.k46.1
  obtain ⟨t, HT⟩ : ∃ t, Hid (curT T s = t) := ⟨_, rfl⟩
  rw [HT.out] at c3 c4 k46 ⊢
  clear h HT
  by_cases h5 : t.k < 5
  · have e3 := tk_no h5
    have hb : bopN t.k r = 0 := by
      unfold bopN
      have : rkT t.k = 0 := by unfold rkT; rw [if_pos (.inl (by omega))]
      rw [this, if_neg (by omega)]
    rw [hb]
    obtain ⟨tk, HTK⟩ : ∃ tk, Hid ((tkc t).k = tk) := ⟨_, rfl⟩
    rw [HTK.out] at c3 e3
    have b4 : ((tk : Int) != 4) = true := by rw [bne_iff_ne]; omega
    clear e3 HTK h5 hb c4 k46
    go_enter Tryz.func315, Tryz.ntmps315
    go_wp2_with fail
    go_ret
    exact ⟨rfl, rfl⟩
  obtain ⟨e3, e4⟩ := tk_sym (show 5 ≤ t.k by omega)
  have IS := fun k h5 h46 => is_tok (t := t) (k := k) h5 h46 k46
  rw [e3, e4] at IS
  rw [e3] at c3
  rw [e4] at c4
  have c3 : W.cell? ⟨A.b, 3, none⟩ = some (.int .i64 4) := c3
  have IS : ∀ k, 5 ≤ k → k ≤ 46 → t.k ≠ k → (symS t.k == symS k) = false := fun k h5 h46 hk => by
    have := IS k h5 h46
    rw [decide_eq_false hk] at this
    simpa using this
  by_cases hop : 24 ≤ t.k ∧ t.k ≤ 36 ∧ t.k ≠ 30
  · obtain ⟨k, HK⟩ : ∃ k, Hid (t.k = k) := ⟨_, rfl⟩
    rw [HK.out] at c4 hop ⊢
    clear IS e3 e4 h5 HK k46
    have hk : k = 24 ∨ k = 25 ∨ k = 26 ∨ k = 27 ∨ k = 28 ∨ k = 29 ∨ k = 31 ∨ k = 32 ∨ k = 33 ∨ k = 34 ∨ k = 35 ∨ k = 36 := by omega
    clear hop
    rcases hr with rfl | rfl | rfl
    all_goals
      rcases hk with rfl | rfl | rfl | rfl | rfl | rfl | rfl | rfl | rfl | rfl | rfl | rfl
      all_goals
        simp only [symS, signL, keywordL, Nat.reduceLT, Nat.reduceSub, if_true, if_false, List.getD_cons_succ, List.getD_cons_zero, ite_true, ite_false] at c4
        go_enter Tryz.func315, Tryz.ntmps315
        go_wp2_with fail
        go_ret
        exact ⟨rfl, rfl⟩
  · have hb : bopN t.k r = 0 := by
      unfold bopN
      have : ∀ k, k ≤ 46 → ¬ (24 ≤ k ∧ k ≤ 36 ∧ k ≠ 30) → rkT k = 0 ∨ rkT k = 1 ∨ rkT k = 2 ∨ rkT k = 4 := by decide
      have := this t.k k46 hop
      rw [if_neg (by omega)]
    rw [hb]
    have b24 : (symS t.k == [61, 61]) = false := IS 24 (by decide) (by decide) (by omega)
    have b25 : (symS t.k == [126, 61]) = false := IS 25 (by decide) (by decide) (by omega)
    have b26 : (symS t.k == [60]) = false := IS 26 (by decide) (by decide) (by omega)
    have b27 : (symS t.k == [60, 61]) = false := IS 27 (by decide) (by decide) (by omega)
    have b28 : (symS t.k == [62]) = false := IS 28 (by decide) (by decide) (by omega)
    have b29 : (symS t.k == [62, 61]) = false := IS 29 (by decide) (by decide) (by omega)
    have b31 : (symS t.k == [43]) = false := IS 31 (by decide) (by decide) (by omega)
    have b32 : (symS t.k == [45]) = false := IS 32 (by decide) (by decide) (by omega)
    have b33 : (symS t.k == [42]) = false := IS 33 (by decide) (by decide) (by omega)
    have b34 : (symS t.k == [47]) = false := IS 34 (by decide) (by decide) (by omega)
    have b35 : (symS t.k == [47, 47]) = false := IS 35 (by decide) (by decide) (by omega)
    have b36 : (symS t.k == [37]) = false := IS 36 (by decide) (by decide) (by omega)
    obtain ⟨x, HX⟩ : ∃ x, Hid (symS t.k = x) := ⟨_, rfl⟩
    rw [HX.out] at c4 b24 b25 b26 b27 b28 b29 b31 b32 b33 b34 b35 b36
    have br : ((0 : Int) != (r : Int)) = true := by rw [bne_iff_ne]; omega
    clear IS e3 e4 h5 hb hop k46 HX hr
    go_enter Tryz.func315, Tryz.ntmps315
    go_wp2_with fail
    go_ret
    exact ⟨rfl, rfl⟩
end
end Go.Proofs.Qxb6500574aGreatDoor
