/-
  THE WALKS of num.New, table.New, vm.New, colaw.Deep, Ground, co.New.
-/
import Derived.Test.Qxb6500574aGreatDoorVRunC
namespace Go.Proofs.Qxb6500574aGreatDoor
open Go Go.RowKit
set_option linter.unusedVariables false
set_option linter.unusedSimpArgs false
def z24 : Array Value := ((List.replicate 24 (0 : UInt8)).flatMap bCells).toArray
def th0L : ThD × ThL := (⟨0, 0, [], [], []⟩, ⟨sl0, sl0, sl0⟩)
def z25 : Array Value := ((List.replicate 5 th0L).flatMap thCells).toArray
theorem run_make24 (w : World) : (Instr.makeSlice 49 (.int .i64 24) (.int .i64 24)).run Tryz.prog w = .ok (.slice (some ⟨w.heap.size, 0, none⟩) 24 24) (w.alloc (.cells z24 5)) := by
  have hi : (Tryz.prog.info? 5).map (fun i => (i.zero, i.size, i.bytes)) = some (some (.int .u8 0), 1, 1) := by kernel_rfl
  obtain ⟨i, hi, hz, hsize, hby⟩ := info_parts hi
  have ht : Tryz.prog.underlying 49 = some (.slice 5) := by kernel_rfl
  have := run_make (P := Tryz.prog) w _ _ i _ ht hi hz .i64 .i64 24 24 (by omega) (by omega) (by rw [hby]; omega) (by omega)
  rw [this]
  have hc : madeCells (Value.int .u8 0).cells (Int.toNat 24 * i.size) = z24 := by
    rw [hsize]
    kernel_rfl
  rw [hc]
  rfl
theorem run_make5 (w : World) : (Instr.makeSlice 82 (.int .i64 0) (.int .i64 5)).run Tryz.prog w = .ok (.slice (some ⟨w.heap.size, 0, none⟩) 0 5) (w.alloc (.cells z25 265)) := by
  have hi : (Tryz.prog.info? 265).map (fun i => (i.zero, i.size, i.bytes)) = some (some (.agg #[.int .i64 0, .int .i64 0, .slice none 0 0, .slice none 0 0, .slice none 0 0]), 5, 88) := by kernel_rfl
  obtain ⟨i, hi, hz, hsize, hby⟩ := info_parts hi
  have ht : Tryz.prog.underlying 82 = some (.slice 265) := by kernel_rfl
  have := run_make (P := Tryz.prog) w _ _ i _ ht hi hz .i64 .i64 0 5 (by omega) (by omega) (by rw [hby]; omega) (by omega)
  rw [this]
  have hc : madeCells (Value.agg #[.int .i64 0, .int .i64 0, .slice none 0 0, .slice none 0 0, .slice none 0 0]).cells (Int.toNat 5 * i.size) = z25 := by
    rw [hsize]
    kernel_rfl
  rw [hc]
  rfl
/-- a machine just built, in blocks that were not there -/
structure Born (w : World) (A : VL) (w' : World) : Prop where
  rep : VRep w' A vm0 0 21
  fr : Fr (fun _ => False) w w'
  old : ∀ k, k < w.heap.size → A.o k = 0
section
variable {w : World}
set_option maxRecDepth 100000
set_option maxHeartbeats 1000000
theorem numNew_any : Calls Tryz.prog 12 #[] w fun e' w' => e' = .returned (.pointer (some ⟨w.heap.size + 1, 0, none⟩)) ∧ w' = (w.alloc (.cells z24 5)).alloc (.cells #[.slice (some ⟨w.heap.size, 0, none⟩) 24 24] 75) := by
  have hm := run_make24
  go_enter Tryz.func12, Tryz.ntmps12
  go_wp2_with fail
  go_ret
  exact ⟨rfl, rfl⟩
theorem vmNew_any {s : Nat} (hs : w.heap.size = s) (bn bt : Nat) : Calls Tryz.prog 15 #[.pointer (some ⟨bn, 0, none⟩), .pointer (some ⟨bt, 0, none⟩)] w fun e' w' => e' = .returned (.pointer (some ⟨s + 1, 0, none⟩)) ∧ w' = (w.alloc (.cells z25 265)).alloc (.cells #[.pointer (some ⟨bn, 0, none⟩), .pointer (some ⟨bt, 0, none⟩), .slice none 0 0, .slice none 0 0, .slice none 0 0, .slice none 0 0, .slice none 0 0, .slice none 0 0, .slice none 0 0, .slice (some ⟨s, 0, none⟩) 0 5, .int .i64 0, .slice none 0 0, .int .i64 21] 91) := by
  have hm := run_make5
  subst hs
  go_enter Tryz.func15, Tryz.ntmps15
  go_wp2_with fail
  go_ret
  exact ⟨rfl, rfl⟩
theorem tabNew_any (bn : Nat) : Calls Tryz.prog 13 #[.pointer (some ⟨bn, 0, none⟩)] w fun e' w' => e' = .returned (.pointer (some ⟨w.heap.size, 0, none⟩)) ∧ w' = w.alloc (.cells #[.pointer (some ⟨bn, 0, none⟩), .slice none 0 0, .int .i64 0] 78) := by
  go_enter Tryz.func13, Tryz.ntmps13
  go_wp2_with fail
  go_ret
  exact ⟨rfl, rfl⟩
theorem coNew_any (b : Nat) : Calls Tryz.prog 16 #[.pointer (some ⟨b, 0, none⟩)] w fun e' w' => e' = .returned (.pointer (some ⟨w.heap.size, 0, none⟩)) ∧ w' = w.alloc (.cells #[.pointer (some ⟨b, 0, none⟩), .int .i64 0, .int .i64 0] 93) := by
  go_enter Tryz.func16, Tryz.ntmps16
  go_wp2_with fail
  go_ret
  exact ⟨rfl, rfl⟩
/-- the world behind Deep's three calls -/
abbrev deepW (w : World) (s : Nat) : World := ((((w.alloc (.cells z24 5)).alloc (.cells #[.slice (some ⟨s, 0, none⟩) 24 24] 75)).alloc (.cells #[.pointer (some ⟨s + 1, 0, none⟩), .slice none 0 0, .int .i64 0] 78)).alloc (.cells z25 265)).alloc (.cells #[.pointer (some ⟨s + 1, 0, none⟩), .pointer (some ⟨s + 1 + 1, 0, none⟩), .slice none 0 0, .slice none 0 0, .slice none 0 0, .slice none 0 0, .slice none 0 0, .slice none 0 0, .slice none 0 0, .slice (some ⟨s + 1 + 1 + 1, 0, none⟩) 0 5, .int .i64 0, .slice none 0 0, .int .i64 21] 91)
def deepA (s : Nat) : VL := { o := fun k => if k = s then 3 else if k = s + 1 then 2 else if k = s + 2 then 4 else if k = s + 3 then 13 else if k = s + 4 then 1 else 0, b := s + 4, bn := s + 1, bf := s, bt := s + 2, bT := s + 3, C := ⟨sl0, sl0, sl0, sl0, sl0, sl0, sl0, sl0⟩, X := [], Z := List.replicate 5 th0L, ts := sl0, tl := [] }
theorem deep_rep {s : Nat} (hs0 : w.heap.size = s) : Born w (deepA s) (deepW w s) := by
  have hf : Fr (fun _ => False) w (deepW w s) := (((((Fr.refl _ _).alloc _).alloc _).alloc _).alloc _).alloc _
  have hs : (deepW w s).heap.size = s + 5 := by simp [hs0]
  have h0 : Has (deepW w s) s z24 5 := ((((Has.newC w _ _ hs0.symm).alloc _).alloc _).alloc _).alloc _
  have h1 : Has (deepW w s) (s + 1) #[.slice (some ⟨s, 0, none⟩) 24 24] 75 := (((Has.newC (w.alloc (.cells z24 5)) _ _ (by simp [hs0])).alloc _).alloc _).alloc _
  have h2 : Has (deepW w s) (s + 2) #[.pointer (some ⟨s + 1, 0, none⟩), .slice none 0 0, .int .i64 0] 78 := ((Has.newC ((w.alloc (.cells z24 5)).alloc (.cells #[.slice (some ⟨s, 0, none⟩) 24 24] 75)) _ _ (by simp [hs0])).alloc _).alloc _
  have h3 : Has (deepW w s) (s + 3) z25 265 := (Has.newC (((w.alloc (.cells z24 5)).alloc (.cells #[.slice (some ⟨s, 0, none⟩) 24 24] 75)).alloc (.cells #[.pointer (some ⟨s + 1, 0, none⟩), .slice none 0 0, .int .i64 0] 78)) _ _ (by simp [hs0])).alloc _
  have h4 : Has (deepW w s) (s + 4) #[.pointer (some ⟨s + 1, 0, none⟩), .pointer (some ⟨s + 2, 0, none⟩), .slice none 0 0, .slice none 0 0, .slice none 0 0, .slice none 0 0, .slice none 0 0, .slice none 0 0, .slice none 0 0, .slice (some ⟨s + 3, 0, none⟩) 0 5, .int .i64 0, .slice none 0 0, .int .i64 21] 91 := Has.newC _ _ _ (by simp [hs0])
  generalize deepW w s = W at hf hs h0 h1 h2 h3 h4
  have hsl : sl0 = ⟨none, 0⟩ := rfl
  have row0 : ∀ (lab T k : Nat), Row W (deepA s).o lab T k sl0 0 [] := fun lab T k => Row.nil _ _ _ _ _
  refine ⟨⟨⟨⟨h4, ?_⟩, row0 _ _ _, row0 _ _ _, row0 _ _ _, row0 _ _ _, row0 _ _ _, row0 _ _ _, row0 _ _ _, row0 _ _ _⟩, ⟨⟨h3, ?_⟩, ?_⟩, rfl, rfl, ⟨⟨h1, ?_⟩, _, rfl, ⟨h0, ?_⟩⟩, ⟨0, ⟨rfl, Nat.zero_le _⟩, ⟨⟨h2, ?_⟩, row0 _ _ _, ?_, ?_, Nat.le_refl _⟩⟩, ?_⟩, hf, ?_⟩
  · simp [deepA]
  · simp [deepA]
  · intro j x hx
    have : x = th0L := by
      have hx' : (List.replicate 5 th0L)[j]? = some x := hx
      exact List.eq_of_mem_replicate (List.mem_of_getElem? hx')
    subst this
    exact ⟨row0 _ _ _, row0 _ _ _, row0 _ _ _⟩
  · simp [deepA]
  · simp [deepA]
  · simp [deepA]
  · intro j x hx
    simp [vm0, deepA] at hx
  · intro j x hx
    simp [vm0, deepA] at hx
  · intro k hk
    show (if k = s then 3 else if k = s + 1 then 2 else if k = s + 2 then 4 else if k = s + 3 then 13 else if k = s + 4 then 1 else 0) = 0
    rw [if_neg (by omega), if_neg (by omega), if_neg (by omega), if_neg (by omega), if_neg (by omega)]
  · intro k hk
    show (if k = s then 3 else if k = s + 1 then 2 else if k = s + 2 then 4 else if k = s + 3 then 13 else if k = s + 4 then 1 else 0) = 0
    rw [if_neg (by omega), if_neg (by omega), if_neg (by omega), if_neg (by omega), if_neg (by omega)]
end
end Go.Proofs.Qxb6500574aGreatDoor
