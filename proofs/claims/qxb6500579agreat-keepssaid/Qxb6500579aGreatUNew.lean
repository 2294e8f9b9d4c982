/-
  THE WALKS of num.New, table.New, vm.New, vmlaw.Ground, Fresh.
-/
import Derived.Test.Qxb6500579aGreatVExec
import Derived.Test.Qxb6500579aGreatVLoad
namespace Go.Proofs.Qxb6500579aGreat
open Go Go.RowKit
set_option linter.unusedVariables false
set_option linter.unusedSimpArgs false
def z24 : Array Value := ((List.replicate 24 (0 : UInt8)).flatMap bCells).toArray
def th0L : ThD × ThL := (⟨0, 0, [], [], []⟩, ⟨sl0, sl0, sl0⟩)
def z25 : Array Value := ((List.replicate 5 th0L).flatMap thCells).toArray
theorem run_make24 (w : World) : (Instr.makeSlice 59 (.int .i64 24) (.int .i64 24)).run Tryz.prog w = .ok (.slice (some ⟨w.heap.size, 0, none⟩) 24 24) (w.alloc (.cells z24 5)) := by
  have hi : (Tryz.prog.info? 5).map (fun i => (i.zero, i.size, i.bytes)) = some (some (.int .u8 0), 1, 1) := by kernel_rfl
  obtain ⟨i, hi, hz, hsize, hby⟩ := info_parts hi
  have ht : Tryz.prog.underlying 59 = some (.slice 5) := by kernel_rfl
  have := run_make (P := Tryz.prog) w _ _ i _ ht hi hz .i64 .i64 24 24 (by omega) (by omega) (by rw [hby]; omega) (by omega)
  rw [this]
  have hc : madeCells (Value.int .u8 0).cells (Int.toNat 24 * i.size) = z24 := by
    rw [hsize]
    kernel_rfl
  rw [hc]
  rfl
theorem run_make5 (w : World) : (Instr.makeSlice 58 (.int .i64 0) (.int .i64 5)).run Tryz.prog w = .ok (.slice (some ⟨w.heap.size, 0, none⟩) 0 5) (w.alloc (.cells z25 66)) := by
  have hi : (Tryz.prog.info? 66).map (fun i => (i.zero, i.size, i.bytes)) = some (some (.agg #[.int .i64 0, .int .i64 0, .slice none 0 0, .slice none 0 0, .slice none 0 0]), 5, 88) := by kernel_rfl
  obtain ⟨i, hi, hz, hsize, hby⟩ := info_parts hi
  have ht : Tryz.prog.underlying 58 = some (.slice 66) := by kernel_rfl
  have := run_make (P := Tryz.prog) w _ _ i _ ht hi hz .i64 .i64 0 5 (by omega) (by omega) (by rw [hby]; omega) (by omega)
  rw [this]
  have hc : madeCells (Value.agg #[.int .i64 0, .int .i64 0, .slice none 0 0, .slice none 0 0, .slice none 0 0]).cells (Int.toNat 5 * i.size) = z25 := by
    rw [hsize]
    kernel_rfl
  rw [hc]
  rfl
/-- a machine just built, in blocks that were not there -/
structure Born (w : World) (A : VL) (w' : World) : Prop where
  rep : VRep w' A vm0 0 21
  fr : Fr (fun _ => False) w w'
  old : ∀ k, k < w.heap.size → A.o k = 0
section
variable {w : World}
set_option maxRecDepth 100000
set_option maxHeartbeats 1000000
theorem numNew_any : Calls Tryz.prog 19 #[] w fun e' w' => e' = .returned (.pointer (some ⟨w.heap.size + 1, 0, none⟩)) ∧ w' = (w.alloc (.cells z24 5)).alloc (.cells #[.slice (some ⟨w.heap.size, 0, none⟩) 24 24] 110) := by
  have hm := run_make24
  go_enter Tryz.func19, Tryz.ntmps19
  go_wp2_with fail
  go_ret
  exact ⟨rfl, rfl⟩
theorem vmNew_any {s : Nat} (hs : w.heap.size = s) (bn bt : Nat) : Calls Tryz.prog 10 #[.pointer (some ⟨bn, 0, none⟩), .pointer (some ⟨bt, 0, none⟩)] w fun e' w' => e' = .returned (.pointer (some ⟨s + 1, 0, none⟩)) ∧ w' = (w.alloc (.cells z25 66)).alloc (.cells #[.pointer (some ⟨bn, 0, none⟩), .pointer (some ⟨bt, 0, none⟩), .slice none 0 0, .slice none 0 0, .slice none 0 0, .slice none 0 0, .slice none 0 0, .slice none 0 0, .slice none 0 0, .slice (some ⟨s, 0, none⟩) 0 5, .int .i64 0, .slice none 0 0, .int .i64 21] 61) := by
  have hm := run_make5
  subst hs
  go_enter Tryz.func10, Tryz.ntmps10
  go_wp2_with fail
  go_ret
  exact ⟨rfl, rfl⟩
theorem tabNew_any (bn : Nat) : Calls Tryz.prog 20 #[.pointer (some ⟨bn, 0, none⟩)] w fun e' w' => e' = .returned (.pointer (some ⟨w.heap.size, 0, none⟩)) ∧ w' = w.alloc (.cells #[.pointer (some ⟨bn, 0, none⟩), .slice none 0 0, .int .i64 0] 98) := by
  go_enter Tryz.func20, Tryz.ntmps20
  go_wp2_with fail
  go_ret
  exact ⟨rfl, rfl⟩
/-- a machine's blocks: buffer, number layer, tables, threads, machine -/
def deepA (f n t h b : Nat) : VL := { o := fun k => if k = f then 3 else if k = n then 2 else if k = t then 4 else if k = h then 13 else if k = b then 1 else 0, b := b, bn := n, bf := f, bt := t, bT := h, C := ⟨sl0, sl0, sl0, sl0, sl0, sl0, sl0, sl0⟩, X := [], Z := List.replicate 5 th0L, ts := sl0, tl := [] }
theorem deep_rep {W : World} {f n t h b : Nat} (hf : Fr (fun _ => False) w W) (hf0 : w.heap.size ≤ f) (hn : f < n) (ht : n < t) (hh : t < h) (hb : h < b)
    (h0 : Has W f z24 5) (h1 : Has W n #[.slice (some ⟨f, 0, none⟩) 24 24] 110) (h2 : Has W t #[.pointer (some ⟨n, 0, none⟩), .slice none 0 0, .int .i64 0] 98) (h3 : Has W h z25 66)
    (h4 : Has W b #[.pointer (some ⟨n, 0, none⟩), .pointer (some ⟨t, 0, none⟩), .slice none 0 0, .slice none 0 0, .slice none 0 0, .slice none 0 0, .slice none 0 0, .slice none 0 0, .slice none 0 0, .slice (some ⟨h, 0, none⟩) 0 5, .int .i64 0, .slice none 0 0, .int .i64 21] 61) : Born w (deepA f n t h b) W := by
  have hsl : sl0 = ⟨none, 0⟩ := rfl
  have hbl := h4.lt
  have row0 : ∀ (lab T k : Nat), Row W (deepA f n t h b).o lab T k sl0 0 [] := fun lab T k => Row.nil _ _ _ _ _
  have o0 : ∀ k, k < f ∨ b < k → (deepA f n t h b).o k = 0 := by
    intro k hk
    show (if k = f then 3 else if k = n then 2 else if k = t then 4 else if k = h then 13 else if k = b then 1 else 0) = 0
    rw [if_neg (by omega), if_neg (by omega), if_neg (by omega), if_neg (by omega), if_neg (by omega)]
  refine ⟨⟨⟨⟨h4, ?_⟩, row0 _ _ _, row0 _ _ _, row0 _ _ _, row0 _ _ _, row0 _ _ _, row0 _ _ _, row0 _ _ _, row0 _ _ _⟩, ⟨⟨h3, ?_⟩, ?_⟩, rfl, rfl, ⟨⟨h1, ?_⟩, _, rfl, ⟨h0, ?_⟩⟩, ⟨0, ⟨rfl, Nat.zero_le _⟩, ⟨⟨h2, ?_⟩, row0 _ _ _, ?_, ?_, Nat.le_refl _⟩⟩, ?_⟩, hf, ?_⟩
  · show (if b = f then 3 else if b = n then 2 else if b = t then 4 else if b = h then 13 else if b = b then 1 else 0) = 1
    rw [if_neg (by omega), if_neg (by omega), if_neg (by omega), if_neg (by omega), if_pos rfl]
  · show (if h = f then 3 else if h = n then 2 else if h = t then 4 else if h = h then 13 else if h = b then 1 else 0) = 13
    rw [if_neg (by omega), if_neg (by omega), if_neg (by omega), if_pos rfl]
  · intro j x hx
    have : x = th0L := by
      have hx' : (List.replicate 5 th0L)[j]? = some x := hx
      exact List.eq_of_mem_replicate (List.mem_of_getElem? hx')
    subst this
    exact ⟨row0 _ _ _, row0 _ _ _, row0 _ _ _⟩
  · show (if n = f then 3 else if n = n then 2 else if n = t then 4 else if n = h then 13 else if n = b then 1 else 0) = 2
    rw [if_neg (by omega), if_pos rfl]
  · show (if f = f then 3 else if f = n then 2 else if f = t then 4 else if f = h then 13 else if f = b then 1 else 0) = 3
    rw [if_pos rfl]
  · show (if t = f then 3 else if t = n then 2 else if t = t then 4 else if t = h then 13 else if t = b then 1 else 0) = 4
    rw [if_neg (by omega), if_neg (by omega), if_pos rfl]
  · intro j x hx
    simp [vm0, deepA] at hx
  · intro j x hx
    simp [vm0, deepA] at hx
  · intro k hk
    exact o0 k (by omega)
  · intro k hk
    exact o0 k (by omega)
structure Grd (w w' : World) (f n t : Nat) : Prop where
  fr : Fr (fun _ => False) w w'
  f0 : w.heap.size ≤ f
  n0 : f < n
  t0 : n < t
  hf : Has w' f z24 5
  hn : Has w' n #[.slice (some ⟨f, 0, none⟩) 24 24] 110
  ht : Has w' t #[.pointer (some ⟨n, 0, none⟩), .slice none 0 0, .int .i64 0] 98
theorem isBelow : IsStr 27 2 := ⟨by kernel_rfl, by kernel_rfl⟩
theorem isSide : IsStr 29 3 := ⟨by kernel_rfl, by kernel_rfl⟩
theorem ground_any : Calls Tryz.prog 9 #[] w fun e' w' => ∃ f n t, e' = .returned (.agg #[.pointer (some ⟨n, 0, none⟩), .pointer (some ⟨t, 0, none⟩)]) ∧ Grd w w' f n t := by
  go_enter Tryz.func9, Tryz.ntmps9
  go_wp2_with fail
  refine numNew_any.mono ?_
  rintro e' w1 ⟨rfl, rfl⟩
  go_wp2_with fail
  refine (tabNew_any _).mono ?_
  rintro e' w2 ⟨rfl, rfl⟩
  go_wp2_with fail
  have hs1 : (w.alloc (.cells #[.pointer (some ⟨w.heap.size + 1 + 1, 0, none⟩), .pointer (some ⟨w.heap.size + 1 + 1 + 1, 0, none⟩)] 27)).heap.size = w.heap.size + 1 := by simp
  refine bodyPost_ret (res_cell isBelow rfl rfl ((((Has.newC w _ _ rfl).alloc _).alloc _).alloc _) rfl) rfl ⟨w.heap.size + 1, w.heap.size + 1 + 1, w.heap.size + 1 + 1 + 1, rfl, ⟨((((Fr.refl _ _).alloc _).alloc _).alloc _).alloc _, by omega, by omega, by omega, ?_, ?_, ?_⟩⟩
  · exact ((Has.newC _ _ _ (by simp)).alloc _).alloc _
  · exact (Has.newC _ _ _ (by simp)).alloc _
  · exact Has.newC _ _ _ (by simp)
/-- a side -/
def sideV (A : VL) : Value := .agg #[.pointer (some ⟨A.b, 0, none⟩), .pointer (some ⟨A.bn, 0, none⟩), .pointer (some ⟨A.bt, 0, none⟩)]
theorem fresh_any : Calls Tryz.prog 4 #[] w fun e' w' => ∃ A, e' = .returned (sideV A) ∧ Born w A w' := by
  go_enter Tryz.func4, Tryz.ntmps4
  go_wp2_with fail
  refine ground_any.mono ?_
  rintro e' w1 ⟨f, n, t, rfl, G⟩
  have G0 := G.f0
  have hsz : w.heap.size < w1.heap.size := by have := G.fr.size; simp at this; omega
  have HG : Hid (Grd (w.alloc (.cells #[.pointer none, .pointer none, .pointer none] 29)) w1 f n t) := G
  clear G
  go_wp2_with fail
  refine (vmNew_any (s := w1.heap.size + 1) (by simp) _ _).mono ?_
  rintro e' w2 ⟨rfl, hw2⟩
  have F12 : Fr (fun _ => False) w1 w2 := by rw [hw2]; exact (((Fr.refl _ _).alloc _).alloc _).alloc _
  have hloc : Has w2 w1.heap.size #[.pointer (some ⟨n, 0, none⟩), .pointer (some ⟨t, 0, none⟩)] 27 := by rw [hw2]; exact ((Has.newC _ _ _ rfl).alloc _).alloc _
  have h3 : Has w2 (w1.heap.size + 1) z25 66 := by rw [hw2]; exact (Has.newC _ _ _ (by simp)).alloc _
  have h4 : Has w2 (w1.heap.size + 1 + 1) #[.pointer (some ⟨n, 0, none⟩), .pointer (some ⟨t, 0, none⟩), .slice none 0 0, .slice none 0 0, .slice none 0 0, .slice none 0 0, .slice none 0 0, .slice none 0 0, .slice none 0 0, .slice (some ⟨w1.heap.size + 1, 0, none⟩) 0 5, .int .i64 0, .slice none 0 0, .int .i64 21] 61 := by rw [hw2]; exact Has.newC _ _ _ (by simp)
  clear hw2
  have tl := HG.out.ht.lt
  have n0 := HG.out.n0
  have t0 := HG.out.t0
  have B := deep_rep (HG.out.fr.trans F12 (fun _ _ x => x)) HG.out.f0 HG.out.n0 HG.out.t0 (show t < w1.heap.size + 1 by omega) (show w1.heap.size + 1 < w1.heap.size + 1 + 1 by omega) (HG.out.hf.fr F12 (fun x => x)) (HG.out.hn.fr F12 (fun x => x)) (HG.out.ht.fr F12 (fun x => x)) h3 h4
  have f0 : Fr (fun _ => False) w (w.alloc (.cells #[.pointer none, .pointer none, .pointer none] 29)) := (Fr.refl _ _).alloc _
  have hb : Has w2 w.heap.size #[.pointer none, .pointer none, .pointer none] 29 := (Has.newC w _ _ rfl).fr B.fr (fun x => x)
  have ob : (deepA f n t (w1.heap.size + 1) (w1.heap.size + 1 + 1)).o w.heap.size = 0 := B.old _ (by simp)
  have FIN : Hid (∀ x y z : Value, Born w (deepA f n t (w1.heap.size + 1) (w1.heap.size + 1 + 1)) (((w2.setCell ⟨w.heap.size, 0, none⟩ x).setCell ⟨w.heap.size, 1, none⟩ y).setCell ⟨w.heap.size, 2, none⟩ z) ∧ Has (((w2.setCell ⟨w.heap.size, 0, none⟩ x).setCell ⟨w.heap.size, 1, none⟩ y).setCell ⟨w.heap.size, 2, none⟩ z) w.heap.size #[x, y, z] 29) := by
    intro x y z
    have z1 : Stp (fun l => l = 0) w2 (deepA f n t (w1.heap.size + 1) (w1.heap.size + 1 + 1)).o (((w2.setCell ⟨w.heap.size, 0, none⟩ x).setCell ⟨w.heap.size, 1, none⟩ y).setCell ⟨w.heap.size, 2, none⟩ z) (deepA f n t (w1.heap.size + 1) (w1.heap.size + 1 + 1)).o := (((Stp.refl _ _ _).setCell (p := ⟨w.heap.size, 0, none⟩) ob x).setCell (p := ⟨w.heap.size, 1, none⟩) ob y).setCell (p := ⟨w.heap.size, 2, none⟩) ob z
    refine ⟨⟨B.rep.zero z1, ?_, fun k hk => B.old k (by simp; omega)⟩, ?_⟩
    · exact (((f0.trans B.fr (fun _ _ x => x)).setCell (p := ⟨w.heap.size, 0, none⟩) (.inr (Nat.le_refl _)) x).setCell (p := ⟨w.heap.size, 1, none⟩) (.inr (Nat.le_refl _)) y).setCell (p := ⟨w.heap.size, 2, none⟩) (.inr (Nat.le_refl _)) z
    · have := ((hb.put 0 x).put 1 y).put 2 z
      simpa using this
  have x0 := hb.cell 0
  have x1 := hb.cell 1
  have x2 := hb.cell 2
  have z0 := hb.frozen 0
  have z1 := hb.frozen 1
  have z2 := hb.frozen 2
  have xl := hb.lt
  have y0 := hloc.cell 0
  have y1 := hloc.cell 1
  have yl := hloc.lt
  simp only [List.getElem?_toArray, List.getElem?_cons_succ, List.getElem?_cons_zero] at x0 x1 x2 y0 y1
  clear B hb f0 ob h3 h4 hloc F12 HG
  go_wp2_with fail
  exact bodyPost_ret (res_cell isSide rfl rfl (FIN.out _ _ _).2 rfl) rfl ⟨_, rfl, (FIN.out _ _ _).1⟩
end
end Go.Proofs.Qxb6500579aGreat
