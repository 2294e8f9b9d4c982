/-
  THE WALK of complaw: Ground; the state it leaves.
-/
import Derived.Test.Qxb6500574aGreatDoorWRu2
namespace Go.Proofs.Qxb6500574aGreatDoor
open Go Go.RowKit
set_option linter.unusedVariables false
set_option linter.unusedSimpArgs false
def gA (s : Nat) : VL := { o := fun k => if k = s + 1 then 3 else if k = s + 2 then 2 else if k = s + 3 then 4 else if k = s + 5 then 13 else if k = s + 6 then 1 else 0, b := s + 6, bn := s + 2, bf := s + 1, bt := s + 3, bT := s + 5, C := ⟨sl0, sl0, sl0, sl0, sl0, sl0, sl0, sl0⟩, X := [], Z := List.replicate 5 th0L, ts := sl0, tl := [] }
/-- what Ground leaves -/
structure Grd (w : World) (s : Nat) (w' : World) : Prop where
  rep : VRep w' (gA s) vm0 0 21
  fr : Fr (fun _ => False) w w'
  sy : Has w' (s + 4) #[.pointer (some ⟨s + 2, 0, none⟩), .slice none 0 0, .slice none 0 0] 81
  co : Has w' (s + 7) #[.pointer (some ⟨s + 6, 0, none⟩), .int .i64 0, .int .i64 0] 93
  sz : w'.heap.size = s + 8
theorem gA_rep {W : World} {s : Nat} (hs : W.heap.size = s + 8) (h0 : Has W (s + 1) z24 5) (h1 : Has W (s + 2) #[.slice (some ⟨s + 1, 0, none⟩) 24 24] 75) (h2 : Has W (s + 3) #[.pointer (some ⟨s + 2, 0, none⟩), .slice none 0 0, .int .i64 0] 78) (h3 : Has W (s + 5) z25 265)
    (h4 : Has W (s + 6) #[.pointer (some ⟨s + 2, 0, none⟩), .pointer (some ⟨s + 3, 0, none⟩), .slice none 0 0, .slice none 0 0, .slice none 0 0, .slice none 0 0, .slice none 0 0, .slice none 0 0, .slice none 0 0, .slice (some ⟨s + 5, 0, none⟩) 0 5, .int .i64 0, .slice none 0 0, .int .i64 21] 91) : VRep W (gA s) vm0 0 21 := by
  have row0 : ∀ (lab T k : Nat), Row W (gA s).o lab T k sl0 0 [] := fun lab T k => Row.nil _ _ _ _ _
  refine ⟨⟨⟨h4, ?_⟩, row0 _ _ _, row0 _ _ _, row0 _ _ _, row0 _ _ _, row0 _ _ _, row0 _ _ _, row0 _ _ _, row0 _ _ _⟩, ⟨⟨h3, ?_⟩, ?_⟩, rfl, rfl, ⟨⟨h1, ?_⟩, _, rfl, ⟨h0, ?_⟩⟩, ⟨0, ⟨rfl, Nat.zero_le _⟩, ⟨⟨h2, ?_⟩, row0 _ _ _, ?_, ?_, Nat.le_refl _⟩⟩, ?_⟩
  · simp [gA]
  · simp [gA]
  · intro j x hx
    have : x = th0L := by
      have hx' : (List.replicate 5 th0L)[j]? = some x := hx
      exact List.eq_of_mem_replicate (List.mem_of_getElem? hx')
    subst this
    exact ⟨row0 _ _ _, row0 _ _ _, row0 _ _ _⟩
  · simp [gA]
  · simp [gA]
  · simp [gA]
  · intro j x hx
    simp [vm0, gA] at hx
  · intro j x hx
    simp [vm0, gA] at hx
  · intro k hk
    show (if k = s + 1 then 3 else if k = s + 2 then 2 else if k = s + 3 then 4 else if k = s + 5 then 13 else if k = s + 6 then 1 else 0) = 0
    rw [if_neg (by omega), if_neg (by omega), if_neg (by omega), if_neg (by omega), if_neg (by omega)]
theorem isBelowC : IsStr 27 3 := ⟨by kernel_rfl, by kernel_rfl⟩
/-- the world behind Ground's six calls -/
abbrev grW (w : World) (s : Nat) : World := (((((((w.alloc (.cells #[.pointer none, .pointer none, .pointer none] 27)).alloc (.cells z24 5)).alloc (.cells #[.slice (some ⟨s + 1, 0, none⟩) 24 24] 75)).alloc (.cells #[.pointer (some ⟨s + 1 + 1, 0, none⟩), .slice none 0 0, .int .i64 0] 78)).alloc (.cells #[.pointer (some ⟨s + 1 + 1, 0, none⟩), .slice none 0 0, .slice none 0 0] 81)).alloc (.cells z25 265)).alloc (.cells #[.pointer (some ⟨s + 1 + 1, 0, none⟩), .pointer (some ⟨s + 1 + 1 + 1, 0, none⟩), .slice none 0 0, .slice none 0 0, .slice none 0 0, .slice none 0 0, .slice none 0 0, .slice none 0 0, .slice none 0 0, .slice (some ⟨s + 1 + 1 + 1 + 1 + 1, 0, none⟩) 0 5, .int .i64 0, .slice none 0 0, .int .i64 21] 91)).alloc (.cells #[.pointer (some ⟨s + 1 + 1 + 1 + 1 + 1 + 1, 0, none⟩), .int .i64 0, .int .i64 0] 93)
theorem grW_rep {w : World} {s : Nat} (hs0 : w.heap.size = s) : Grd w s (grW w s) ∧ Has (grW w s) s #[.pointer none, .pointer none, .pointer none] 27 := by
  have hb : Has (grW w s) s #[.pointer none, .pointer none, .pointer none] 27 := (((((((Has.newC w _ _ hs0.symm).alloc _).alloc _).alloc _).alloc _).alloc _).alloc _).alloc _
  refine ⟨⟨gA_rep (by simp [hs0]) ?_ ?_ ?_ ?_ ?_, ((((((((Fr.refl _ _).alloc _).alloc _).alloc _).alloc _).alloc _).alloc _).alloc _).alloc _, ?_, ?_, by simp [hs0]⟩, hb⟩
  · exact ((((((Has.newC (w.alloc (.cells #[.pointer none, .pointer none, .pointer none] 27)) _ _ (by simp [hs0])).alloc _).alloc _).alloc _).alloc _).alloc _).alloc _
  · exact (((((Has.newC ((w.alloc (.cells #[.pointer none, .pointer none, .pointer none] 27)).alloc (.cells z24 5)) _ _ (by simp [hs0])).alloc _).alloc _).alloc _).alloc _).alloc _
  · exact ((((Has.newC _ _ _ (by simp [hs0])).alloc _).alloc _).alloc _).alloc _
  · exact ((Has.newC _ _ _ (by simp [hs0])).alloc _).alloc _
  · exact (Has.newC _ _ _ (by simp [hs0])).alloc _
  · exact (((Has.newC _ _ _ (by simp [hs0])).alloc _).alloc _).alloc _
  · exact Has.newC _ _ _ (by simp [hs0])
section
variable {w : World}
set_option maxRecDepth 100000
set_option maxHeartbeats 1000000
theorem cground_any {s : Nat} (hs : w.heap.size = s) : Calls Tryz.prog 6 #[] w fun e' w' => e' = .returned (.agg #[.pointer (some ⟨s + 4, 0, none⟩), .pointer (some ⟨s + 7, 0, none⟩), .pointer (some ⟨s + 2, 0, none⟩)]) ∧ Grd w s w' := by
  obtain ⟨G, hb⟩ := grW_rep hs
  obtain ⟨WD, HWD⟩ : ∃ WD, Hid (grW w s = WD) := ⟨_, rfl⟩
  rw [HWD.out] at G hb
  have ob : (gA s).o s = 0 := by simp [gA]
  have FIN : Hid (∀ x y z : Value, Grd w s (((WD.setCell ⟨s, 0, none⟩ x).setCell ⟨s, 1, none⟩ y).setCell ⟨s, 2, none⟩ z) ∧ Has (((WD.setCell ⟨s, 0, none⟩ x).setCell ⟨s, 1, none⟩ y).setCell ⟨s, 2, none⟩ z) s #[x, y, z] 27) := by
    intro x y z
    have hle : w.heap.size ≤ s := by omega
    have n4 : s + 4 ≠ s := by omega
    have n7 : s + 7 ≠ s := by omega
    have z1 : Stp (fun l => l = 0) WD (gA s).o (((WD.setCell ⟨s, 0, none⟩ x).setCell ⟨s, 1, none⟩ y).setCell ⟨s, 2, none⟩ z) (gA s).o := (((Stp.refl _ _ _).setCell (p := ⟨s, 0, none⟩) ob x).setCell (p := ⟨s, 1, none⟩) ob y).setCell (p := ⟨s, 2, none⟩) ob z
    refine ⟨⟨G.rep.zero z1, ?_, ?_, ?_, ?_⟩, ?_⟩
    · exact (((G.fr).setCell (p := ⟨s, 0, none⟩) (.inr hle) x).setCell (p := ⟨s, 1, none⟩) (.inr hle) y).setCell (p := ⟨s, 2, none⟩) (.inr hle) z
    · exact ((G.sy.other (p := ⟨s, 0, none⟩) n4 _).other (p := ⟨s, 1, none⟩) n4 _).other (p := ⟨s, 2, none⟩) n4 _
    · exact ((G.co.other (p := ⟨s, 0, none⟩) n7 _).other (p := ⟨s, 1, none⟩) n7 _).other (p := ⟨s, 2, none⟩) n7 _
    · simp [G.sz]
    · have := ((hb.put 0 x).put 1 y).put 2 z
      simpa using this
  have x0 := hb.cell 0
  have x1 := hb.cell 1
  have x2 := hb.cell 2
  have z0 := hb.frozen 0
  have z1 := hb.frozen 1
  have z2 := hb.frozen 2
  have xl := hb.lt
  simp only [List.getElem?_toArray, List.getElem?_cons_succ, List.getElem?_cons_zero] at x0 x1 x2
  have eD : grW w s = WD := HWD.out
  unfold grW at eD
  clear G hb ob HWD
  subst hs
  go_enter Tryz.func6, Tryz.ntmps6
  go_wp2_with fail
  refine numNew_any.mono ?_
  rintro e' w1 ⟨rfl, rfl⟩
  go_wp2_with fail
  refine (tabNew_any _).mono ?_
  rintro e' w2 ⟨rfl, rfl⟩
  go_wp2_with fail
  refine (snew_any _).mono ?_
  rintro e' w3 ⟨rfl, rfl⟩
  go_wp2_with fail
  refine (vmNew_any (s := w.heap.size + 1 + 1 + 1 + 1 + 1) (by simp) _ _).mono ?_
  rintro e' w4 ⟨rfl, rfl⟩
  go_wp2_with fail
  refine (coNew_any _).mono ?_
  rintro e' w5 ⟨rfl, rfl⟩
  rw [eD]
  clear eD
  go_wp2_with fail
  exact bodyPost_ret (res_cell isBelowC rfl rfl (FIN.out _ _ _).2 rfl) rfl ⟨rfl, (FIN.out _ _ _).1⟩
end
end Go.Proofs.Qxb6500574aGreatDoor
