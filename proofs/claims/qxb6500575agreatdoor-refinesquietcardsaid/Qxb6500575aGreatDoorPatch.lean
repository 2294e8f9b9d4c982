import Derived.Test.Qxb6500575aGreatDoorCloses
namespace Go.Proofs.Qxb6500575aGreatDoor
open Go Go.RowKit
set_option linter.unusedVariables false
set_option linter.unusedSimpArgs false

theorem CkRep.patch {B : Nat} {w : World} {bk : Nat} {fx : CkF} {L : CkL} {s : Ck} (h : CkRep B w bk fx L s) (a gc : Nat) (target : Int) (ha : a < s.code.length) (hgc : L.ca = some ⟨gc, 0, none⟩) :
    CkRep B (w.setCell ⟨gc, a * 4 + 1, none⟩ (.int .i64 target)) bk fx L { s with code := patchAt s.code a target } ∧ CkStep w (w.setCell ⟨gc, a * 4 + 1, none⟩ (.int .i64 target)) bk L L := by
  have hown : (L.codeV s).ownBlock = some gc := by unfold CkL.codeV; rw [hgc]; rfl
  have hbk : bk ≠ gc := fun e => owns_ne h.code h.here (by decide) (by rw [hown, e])
  have hc : s.code[a]? = some s.code[a] := by simp [ha]
  have hp : patchAt s.code a target = s.code.set a { s.code[a] with imm := target } := by unfold patchAt; rw [hc]
  have ho := h.code
  unfold CkL.codeV at ho
  rw [hgc] at ho
  have hst := (ho.stored (a * 4 + 1) (.int .i64 target)).1
  have hfm := flatMap_set Flat.cells 4 Flat.cells_len s.code a 1 s.code[a] { s.code[a] with imm := target } (.int .i64 target) hc (by decide) rfl
  exact h.putCode (patchAt s.code a target) (w2 := w.setCell ⟨gc, a * 4 + 1, none⟩ (.int .i64 target)) (ca2 := L.ca) (cc2 := L.cc)
    (Fr.setCell (S := fun k => (L.codeV s).ownBlock = some k ∨ k = bk) (Fr.refl _ _) (p := ⟨gc, a * 4 + 1, none⟩) (.inl (.inl hown)) _)
    (by rw [patchAt_len]; have := h.here.other (p := ⟨gc, a * 4 + 1, none⟩) hbk (.int .i64 target); simpa using this)
    (by rw [patchAt_len, hgc, hp]; unfold flatCells; rw [hfm]; exact hst)
    (fun g hg => .inl (by rw [ownBlock_any _ _ _ s.code.length L.cc] at hg; exact hg))

set_option maxHeartbeats 1000000 in
theorem patch_any (B bk : Nat) (fx : CkF) (L : CkL) (s : Ck) (w : World) (h : CkRep B w bk fx L s) (b1 b2 a : Nat) (target : Int) (h1 : Has w b1 #[.pointer (some ⟨bk, 0, none⟩)] 189) (h2 : Has w b2 #[.int .i64 a] 3) (ha : a < s.code.length) (hn : s.code.length ≤ 1000) :
    Calls Tryz.prog 144 #[.int .i64 target, .pointer (some ⟨b1, 0, none⟩), .pointer (some ⟨b2, 0, none⟩)] w fun e w' => e = .returned (.tuple #[]) ∧ CkRep B w' bk fx L { s with code := patchAt s.code a target } ∧ CkStep w w' bk L L := by
  obtain ⟨gc, hgc, hcl⟩ := owns_some h.code (by omega)
  have hown : (L.codeV s).ownBlock = some gc := by unfold CkL.codeV; rw [hgc]; rfl
  have fin : ∀ n, CkRep B ((w.drewN n).setCell ⟨gc, a * 4 + 1, none⟩ (.int .i64 target)) bk fx L { s with code := patchAt s.code a target } ∧ CkStep w ((w.drewN n).setCell ⟨gc, a * 4 + 1, none⟩ (.int .i64 target)) bk L L := fun n =>
    ⟨((h.drewN n).patch a gc target ha hgc).1, ((CkStep.refl w bk L).drewN n).trans ((h.drewN n).patch a gc target ha hgc).2⟩
  have FIN : Hid (∀ n : Nat, _) := fin
  have c4 := h.here.cell 4
  have d1 := h1.cell 0
  have d2 := h2.cell 0
  have d3 := hcl (a * 4 + 1) (by omega)
  unfold flatCells at d3
  rw [flatMap_at Flat.cells 4 Flat.cells_len s.code a 1 s.code[a] (by simp [ha]) (by decide)] at d3
  simp [hgc, Flat.cells] at c4 d1 d2 d3
  have f3 : w.frozen? ⟨gc, a * 4 + 1, none⟩ = false := by
    have ho := h.code
    unfold CkL.codeV at ho
    rw [hgc] at ho
    exact ho.frozenAt _
  clear fin h h1 h2 hcl
  go_enter Tryz.func144, Tryz.ntmps144
  refine wp_region_tail 6 (by kernel_rfl) (by kernel_rfl) (fun _ _ _ _ _ h => h) ?_
  simp only [List.take_succ_cons, List.take_zero, List.drop_succ_cons, List.drop_zero]
  repeat go_big_quiet_step (fail)
  refine wpQuiet_nil ?_
  go_wp2
  go_end0
  exact ⟨rfl, FIN.out 1⟩
end Go.Proofs.Qxb6500575aGreatDoor
