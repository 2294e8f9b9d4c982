/-
  THE WALK of vm: sound: numbers.
-/
import Derived.Test.Qxb6500574aGreatDoorVPl0
import Derived.Test.Qxb6500574aGreatDoorVInv9
namespace Go.Proofs.Qxb6500574aGreatDoor
open Go Go.RowKit
set_option linter.unusedVariables false
set_option linter.unusedSimpArgs false
def SoPost (b : Bool) (w : World) (e' : Ending) (w' : World) : Prop := e' = .returned (.bool b) ∧ Fr (fun _ => False) w w'
/-- what sound reads first -/
structure SC (w : World) (A : VL) (m : VMD) (fm : FmD) (g j gp pi gk nup NC : Nat) (p : PrD) : Prop where
  a6 : w.cell? ⟨A.b, 6, none⟩ = some (.slice (some ⟨gk, 0, none⟩) NC A.C.clos.c)
  bl : A.b < w.heap.size
  f0 : w.cell? ⟨g, j * 5, none⟩ = some (.int .i64 fm.clo)
  fl : g < w.heap.size
  k2 : w.cell? ⟨gk, fm.clo * 3 + 2, none⟩ = some (.int .i64 nup)
  kl : gk < w.heap.size
  cl : fm.clo < NC
  nc : NC ≤ 24
  p1 : w.cell? ⟨gp, pi * 8 + 1, none⟩ = some (.int .i64 p.ns)
  p4 : w.cell? ⟨gp, pi * 8 + 4, none⟩ = some (.int .i64 p.k)
  p5 : w.cell? ⟨gp, pi * 8 + 5, none⟩ = some (.int .i64 p.nk)
  p7 : w.cell? ⟨gp, pi * 8 + 7, none⟩ = some (.int .i64 p.nc)
  pl : gp < w.heap.size
  nu : (m.clos.getD fm.clo cl0).nup = nup
section
variable {w : World} {A : VL} {m : VMD} {f e i g j gp pi : Nat} {t : ThD} {K : Cx} {fm : FmD} {p : PrD}
set_option maxRecDepth 100000
set_option maxHeartbeats 600000
theorem PB.sc (h : PB w A m f e K i t fm g j gp pi p) : ∃ gk nup NC, SC w A m fm g j gp pi gk nup NC p := by
  obtain ⟨l, hx, hg⟩ := h.lay
  obtain ⟨g1, a1, a2, a3, a4, a5, a6⟩ := (h.rep.one h.at'.hi hx).f.at fCells_len h.hj
  dsimp only at a1
  rw [hg] at a1
  cases a1
  obtain ⟨g2, b1, b2, b3, b4, b5, b6⟩ := h.rep.core.protos.at pCells_len h.hp
  rw [h.pa] at b1
  cases b1
  have hcl := h.at'.clo
  obtain ⟨q, p', hq, hp', hpe, hpm, hnup, hup⟩ := h.at'.vi.proto hcl
  obtain ⟨gk, k1, k2, k3, k4, k5, k6⟩ := h.rep.core.clos.at clCells_len hq
  have c6 := h.rep.cell0 6
  simp only [vmCells, List.getElem?_toArray, List.getElem?_cons_succ, List.getElem?_cons_zero, Sl.v, k1] at c6
  have q0 := a5 0 (by omega)
  have r1 := b5 1 (by omega)
  have r4 := b5 4 (by omega)
  have r5 := b5 5 (by omega)
  have r7 := b5 7 (by omega)
  have s2 := k5 2 (by omega)
  simp only [fCells, pCells, clCells, List.getElem?_cons_succ, List.getElem?_cons_zero, Nat.add_zero] at q0 r1 r4 r5 r7 s2
  refine ⟨gk, q.nup, m.clos.length, c6, h.rep.bl, q0, a4, s2, k4, by rw [h.at'.vi.kc]; exact hcl, by rw [h.at'.vi.kc]; exact h.at'.vi.cn, r1, r4, r5, r7, b4, ?_⟩
  simp [hq]
theorem sound_1 (h : PB w A m f e K i t fm g j gp pi p) {x : Nat} (hx16 : x < 65536)  : Calls Tryz.prog 263 #[.pointer (some ⟨A.b, 0, none⟩), .pointer (some ⟨A.bT, i * 5, none⟩), .pointer (some ⟨g, j * 5, none⟩), .pointer (some ⟨gp, pi * 8, none⟩), .int .u8 1, .int .i64 x] w (SoPost (soundP m i 1 x) w) := by
  obtain ⟨Q, HQ⟩ : ∃ Q : Ending → World → Prop, Hid (SoPost (soundP m i 1 x) w = Q) := ⟨_, rfl⟩
  rw [HQ.out]
  obtain ⟨gk, nup, NC, S⟩ := h.sc
  have HNU : Hid ((m.clos.getD fm.clo cl0).nup = nup) := S.nu
  have HS : Hid (soundP m i 1 x = decide (x < p.nk)) := by
    have hpe := h.pe
    have htf := (plP_is h).1
    have hth := (plP_is h).2
    have hnu := S.nu
    show _ = _
    unfold soundP
    dsimp only
    rw [htf, hth, hpe, hnu]
    simp (config := { decide := true }) only [if_true, if_false]
  rw [HS.out] at HQ
  have HB : Hid (PB w A m f e K i t fm g j gp pi p) := h
  obtain ⟨c1, c2, c3, c4, c5, c6, c7, c8, c9, c10, c11, c12, c13, c14⟩ := S
  clear c14 h
  go_enter Tryz.func263, Tryz.ntmps263
  go_wp2_with fail
  refine wp_region_tail 11 (by kernel_rfl) (by kernel_rfl) (fun _ _ _ _ _ h => h) ?_
  simp only [List.take_succ_cons, List.take_zero, List.drop_succ_cons, List.drop_zero]
  repeat go_big_quiet_step (fail)
  refine wpQuiet_nil ?_
  go_wp2_with fail
  rw [← HQ.out]
  exact ⟨by simp, ((Fr.refl _ _).drew)⟩
theorem sound_5 (h : PB w A m f e K i t fm g j gp pi p) {x : Nat} (hx16 : x < 65536)  : Calls Tryz.prog 263 #[.pointer (some ⟨A.b, 0, none⟩), .pointer (some ⟨A.bT, i * 5, none⟩), .pointer (some ⟨g, j * 5, none⟩), .pointer (some ⟨gp, pi * 8, none⟩), .int .u8 5, .int .i64 x] w (SoPost (soundP m i 5 x) w) := by
  obtain ⟨Q, HQ⟩ : ∃ Q : Ending → World → Prop, Hid (SoPost (soundP m i 5 x) w = Q) := ⟨_, rfl⟩
  rw [HQ.out]
  obtain ⟨gk, nup, NC, S⟩ := h.sc
  have HNU : Hid ((m.clos.getD fm.clo cl0).nup = nup) := S.nu
  have HS : Hid (soundP m i 5 x = decide (x < p.ns)) := by
    have hpe := h.pe
    have htf := (plP_is h).1
    have hth := (plP_is h).2
    have hnu := S.nu
    show _ = _
    unfold soundP
    dsimp only
    rw [htf, hth, hpe, hnu]
    simp (config := { decide := true }) only [if_true, if_false]
  rw [HS.out] at HQ
  have HB : Hid (PB w A m f e K i t fm g j gp pi p) := h
  obtain ⟨c1, c2, c3, c4, c5, c6, c7, c8, c9, c10, c11, c12, c13, c14⟩ := S
  clear c14 h
  go_enter Tryz.func263, Tryz.ntmps263
  go_wp2_with fail
  refine wp_region_tail 11 (by kernel_rfl) (by kernel_rfl) (fun _ _ _ _ _ h => h) ?_
  simp only [List.take_succ_cons, List.take_zero, List.drop_succ_cons, List.drop_zero]
  repeat go_big_quiet_step (fail)
  refine wpQuiet_nil ?_
  go_wp2_with fail
  rw [← HQ.out]
  exact ⟨by simp, ((Fr.refl _ _).drew)⟩
theorem sound_6 (h : PB w A m f e K i t fm g j gp pi p) {x : Nat} (hx16 : x < 65536)  : Calls Tryz.prog 263 #[.pointer (some ⟨A.b, 0, none⟩), .pointer (some ⟨A.bT, i * 5, none⟩), .pointer (some ⟨g, j * 5, none⟩), .pointer (some ⟨gp, pi * 8, none⟩), .int .u8 6, .int .i64 x] w (SoPost (soundP m i 6 x) w) := by
  obtain ⟨Q, HQ⟩ : ∃ Q : Ending → World → Prop, Hid (SoPost (soundP m i 6 x) w = Q) := ⟨_, rfl⟩
  rw [HQ.out]
  obtain ⟨gk, nup, NC, S⟩ := h.sc
  have HNU : Hid ((m.clos.getD fm.clo cl0).nup = nup) := S.nu
  have HS : Hid (soundP m i 6 x = decide (x < p.ns)) := by
    have hpe := h.pe
    have htf := (plP_is h).1
    have hth := (plP_is h).2
    have hnu := S.nu
    show _ = _
    unfold soundP
    dsimp only
    rw [htf, hth, hpe, hnu]
    simp (config := { decide := true }) only [if_true, if_false]
  rw [HS.out] at HQ
  have HB : Hid (PB w A m f e K i t fm g j gp pi p) := h
  obtain ⟨c1, c2, c3, c4, c5, c6, c7, c8, c9, c10, c11, c12, c13, c14⟩ := S
  clear c14 h
  go_enter Tryz.func263, Tryz.ntmps263
  go_wp2_with fail
  refine wp_region_tail 11 (by kernel_rfl) (by kernel_rfl) (fun _ _ _ _ _ h => h) ?_
  simp only [List.take_succ_cons, List.take_zero, List.drop_succ_cons, List.drop_zero]
  repeat go_big_quiet_step (fail)
  refine wpQuiet_nil ?_
  go_wp2_with fail
  rw [← HQ.out]
  exact ⟨by simp, ((Fr.refl _ _).drew)⟩
theorem sound_7 (h : PB w A m f e K i t fm g j gp pi p) {x : Nat} (hx16 : x < 65536)  : Calls Tryz.prog 263 #[.pointer (some ⟨A.b, 0, none⟩), .pointer (some ⟨A.bT, i * 5, none⟩), .pointer (some ⟨g, j * 5, none⟩), .pointer (some ⟨gp, pi * 8, none⟩), .int .u8 7, .int .i64 x] w (SoPost (soundP m i 7 x) w) := by
  obtain ⟨Q, HQ⟩ : ∃ Q : Ending → World → Prop, Hid (SoPost (soundP m i 7 x) w = Q) := ⟨_, rfl⟩
  rw [HQ.out]
  obtain ⟨gk, nup, NC, S⟩ := h.sc
  have HNU : Hid ((m.clos.getD fm.clo cl0).nup = nup) := S.nu
  have HS : Hid (soundP m i 7 x = decide (x < nup)) := by
    have hpe := h.pe
    have htf := (plP_is h).1
    have hth := (plP_is h).2
    have hnu := S.nu
    show _ = _
    unfold soundP
    dsimp only
    rw [htf, hth, hpe, hnu]
    simp (config := { decide := true }) only [if_true, if_false]
  rw [HS.out] at HQ
  have HB : Hid (PB w A m f e K i t fm g j gp pi p) := h
  obtain ⟨c1, c2, c3, c4, c5, c6, c7, c8, c9, c10, c11, c12, c13, c14⟩ := S
  clear c14 h
  go_enter Tryz.func263, Tryz.ntmps263
  go_wp2_with fail
  refine wp_region_tail 11 (by kernel_rfl) (by kernel_rfl) (fun _ _ _ _ _ h => h) ?_
  simp only [List.take_succ_cons, List.take_zero, List.drop_succ_cons, List.drop_zero]
  repeat go_big_quiet_step (fail)
  refine wpQuiet_nil ?_
  go_wp2_with fail
  rw [← HQ.out]
  exact ⟨by simp, ((Fr.refl _ _).drew)⟩
theorem sound_8 (h : PB w A m f e K i t fm g j gp pi p) {x : Nat} (hx16 : x < 65536)  : Calls Tryz.prog 263 #[.pointer (some ⟨A.b, 0, none⟩), .pointer (some ⟨A.bT, i * 5, none⟩), .pointer (some ⟨g, j * 5, none⟩), .pointer (some ⟨gp, pi * 8, none⟩), .int .u8 8, .int .i64 x] w (SoPost (soundP m i 8 x) w) := by
  obtain ⟨Q, HQ⟩ : ∃ Q : Ending → World → Prop, Hid (SoPost (soundP m i 8 x) w = Q) := ⟨_, rfl⟩
  rw [HQ.out]
  obtain ⟨gk, nup, NC, S⟩ := h.sc
  have HNU : Hid ((m.clos.getD fm.clo cl0).nup = nup) := S.nu
  have HS : Hid (soundP m i 8 x = decide (x < nup)) := by
    have hpe := h.pe
    have htf := (plP_is h).1
    have hth := (plP_is h).2
    have hnu := S.nu
    show _ = _
    unfold soundP
    dsimp only
    rw [htf, hth, hpe, hnu]
    simp (config := { decide := true }) only [if_true, if_false]
  rw [HS.out] at HQ
  have HB : Hid (PB w A m f e K i t fm g j gp pi p) := h
  obtain ⟨c1, c2, c3, c4, c5, c6, c7, c8, c9, c10, c11, c12, c13, c14⟩ := S
  clear c14 h
  go_enter Tryz.func263, Tryz.ntmps263
  go_wp2_with fail
  refine wp_region_tail 11 (by kernel_rfl) (by kernel_rfl) (fun _ _ _ _ _ h => h) ?_
  simp only [List.take_succ_cons, List.take_zero, List.drop_succ_cons, List.drop_zero]
  repeat go_big_quiet_step (fail)
  refine wpQuiet_nil ?_
  go_wp2_with fail
  rw [← HQ.out]
  exact ⟨by simp, ((Fr.refl _ _).drew)⟩
theorem sound_21 (h : PB w A m f e K i t fm g j gp pi p) {x : Nat} (hx16 : x < 65536)  : Calls Tryz.prog 263 #[.pointer (some ⟨A.b, 0, none⟩), .pointer (some ⟨A.bT, i * 5, none⟩), .pointer (some ⟨g, j * 5, none⟩), .pointer (some ⟨gp, pi * 8, none⟩), .int .u8 21, .int .i64 x] w (SoPost (soundP m i 21 x) w) := by
  obtain ⟨Q, HQ⟩ : ∃ Q : Ending → World → Prop, Hid (SoPost (soundP m i 21 x) w = Q) := ⟨_, rfl⟩
  rw [HQ.out]
  obtain ⟨gk, nup, NC, S⟩ := h.sc
  have HNU : Hid ((m.clos.getD fm.clo cl0).nup = nup) := S.nu
  have HS : Hid (soundP m i 21 x = decide (x < p.nc)) := by
    have hpe := h.pe
    have htf := (plP_is h).1
    have hth := (plP_is h).2
    have hnu := S.nu
    show _ = _
    unfold soundP
    dsimp only
    rw [htf, hth, hpe, hnu]
    simp (config := { decide := true }) only [if_true, if_false]
  rw [HS.out] at HQ
  have HB : Hid (PB w A m f e K i t fm g j gp pi p) := h
  obtain ⟨c1, c2, c3, c4, c5, c6, c7, c8, c9, c10, c11, c12, c13, c14⟩ := S
  clear c14 h
  go_enter Tryz.func263, Tryz.ntmps263
  go_wp2_with fail
  refine wp_region_tail 11 (by kernel_rfl) (by kernel_rfl) (fun _ _ _ _ _ h => h) ?_
  simp only [List.take_succ_cons, List.take_zero, List.drop_succ_cons, List.drop_zero]
  repeat go_big_quiet_step (fail)
  refine wpQuiet_nil ?_
  go_wp2_with fail
  rw [← HQ.out]
  exact ⟨by simp, ((Fr.refl _ _).drew)⟩
theorem sound_22 (h : PB w A m f e K i t fm g j gp pi p) {x : Nat} (hx16 : x < 65536)  : Calls Tryz.prog 263 #[.pointer (some ⟨A.b, 0, none⟩), .pointer (some ⟨A.bT, i * 5, none⟩), .pointer (some ⟨g, j * 5, none⟩), .pointer (some ⟨gp, pi * 8, none⟩), .int .u8 22, .int .i64 x] w (SoPost (soundP m i 22 x) w) := by
  obtain ⟨Q, HQ⟩ : ∃ Q : Ending → World → Prop, Hid (SoPost (soundP m i 22 x) w = Q) := ⟨_, rfl⟩
  rw [HQ.out]
  obtain ⟨gk, nup, NC, S⟩ := h.sc
  have HNU : Hid ((m.clos.getD fm.clo cl0).nup = nup) := S.nu
  have HS : Hid (soundP m i 22 x = decide (x < p.nc)) := by
    have hpe := h.pe
    have htf := (plP_is h).1
    have hth := (plP_is h).2
    have hnu := S.nu
    show _ = _
    unfold soundP
    dsimp only
    rw [htf, hth, hpe, hnu]
    simp (config := { decide := true }) only [if_true, if_false]
  rw [HS.out] at HQ
  have HB : Hid (PB w A m f e K i t fm g j gp pi p) := h
  obtain ⟨c1, c2, c3, c4, c5, c6, c7, c8, c9, c10, c11, c12, c13, c14⟩ := S
  clear c14 h
  go_enter Tryz.func263, Tryz.ntmps263
  go_wp2_with fail
  refine wp_region_tail 11 (by kernel_rfl) (by kernel_rfl) (fun _ _ _ _ _ h => h) ?_
  simp only [List.take_succ_cons, List.take_zero, List.drop_succ_cons, List.drop_zero]
  repeat go_big_quiet_step (fail)
  refine wpQuiet_nil ?_
  go_wp2_with fail
  rw [← HQ.out]
  exact ⟨by simp, ((Fr.refl _ _).drew)⟩
theorem sound_23 (h : PB w A m f e K i t fm g j gp pi p) {x : Nat} (hx16 : x < 65536)  : Calls Tryz.prog 263 #[.pointer (some ⟨A.b, 0, none⟩), .pointer (some ⟨A.bT, i * 5, none⟩), .pointer (some ⟨g, j * 5, none⟩), .pointer (some ⟨gp, pi * 8, none⟩), .int .u8 23, .int .i64 x] w (SoPost (soundP m i 23 x) w) := by
  obtain ⟨Q, HQ⟩ : ∃ Q : Ending → World → Prop, Hid (SoPost (soundP m i 23 x) w = Q) := ⟨_, rfl⟩
  rw [HQ.out]
  obtain ⟨gk, nup, NC, S⟩ := h.sc
  have HNU : Hid ((m.clos.getD fm.clo cl0).nup = nup) := S.nu
  have HS : Hid (soundP m i 23 x = decide (x < p.nc)) := by
    have hpe := h.pe
    have htf := (plP_is h).1
    have hth := (plP_is h).2
    have hnu := S.nu
    show _ = _
    unfold soundP
    dsimp only
    rw [htf, hth, hpe, hnu]
    simp (config := { decide := true }) only [if_true, if_false]
  rw [HS.out] at HQ
  have HB : Hid (PB w A m f e K i t fm g j gp pi p) := h
  obtain ⟨c1, c2, c3, c4, c5, c6, c7, c8, c9, c10, c11, c12, c13, c14⟩ := S
  clear c14 h
  go_enter Tryz.func263, Tryz.ntmps263
  go_wp2_with fail
  refine wp_region_tail 11 (by kernel_rfl) (by kernel_rfl) (fun _ _ _ _ _ h => h) ?_
  simp only [List.take_succ_cons, List.take_zero, List.drop_succ_cons, List.drop_zero]
  repeat go_big_quiet_step (fail)
  refine wpQuiet_nil ?_
  go_wp2_with fail
  rw [← HQ.out]
  exact ⟨by simp, ((Fr.refl _ _).drew)⟩
theorem sound_24 (h : PB w A m f e K i t fm g j gp pi p) {x : Nat} (hx16 : x < 65536)  : Calls Tryz.prog 263 #[.pointer (some ⟨A.b, 0, none⟩), .pointer (some ⟨A.bT, i * 5, none⟩), .pointer (some ⟨g, j * 5, none⟩), .pointer (some ⟨gp, pi * 8, none⟩), .int .u8 24, .int .i64 x] w (SoPost (soundP m i 24 x) w) := by
  obtain ⟨Q, HQ⟩ : ∃ Q : Ending → World → Prop, Hid (SoPost (soundP m i 24 x) w = Q) := ⟨_, rfl⟩
  rw [HQ.out]
  obtain ⟨gk, nup, NC, S⟩ := h.sc
  have HNU : Hid ((m.clos.getD fm.clo cl0).nup = nup) := S.nu
  have HS : Hid (soundP m i 24 x = decide (x < p.nc)) := by
    have hpe := h.pe
    have htf := (plP_is h).1
    have hth := (plP_is h).2
    have hnu := S.nu
    show _ = _
    unfold soundP
    dsimp only
    rw [htf, hth, hpe, hnu]
    simp (config := { decide := true }) only [if_true, if_false]
  rw [HS.out] at HQ
  have HB : Hid (PB w A m f e K i t fm g j gp pi p) := h
  obtain ⟨c1, c2, c3, c4, c5, c6, c7, c8, c9, c10, c11, c12, c13, c14⟩ := S
  clear c14 h
  go_enter Tryz.func263, Tryz.ntmps263
  go_wp2_with fail
  refine wp_region_tail 11 (by kernel_rfl) (by kernel_rfl) (fun _ _ _ _ _ h => h) ?_
  simp only [List.take_succ_cons, List.take_zero, List.drop_succ_cons, List.drop_zero]
  repeat go_big_quiet_step (fail)
  refine wpQuiet_nil ?_
  go_wp2_with fail
  rw [← HQ.out]
  exact ⟨by simp, ((Fr.refl _ _).drew)⟩
theorem sound_26 (h : PB w A m f e K i t fm g j gp pi p) {x : Nat} (hx16 : x < 65536)  : Calls Tryz.prog 263 #[.pointer (some ⟨A.b, 0, none⟩), .pointer (some ⟨A.bT, i * 5, none⟩), .pointer (some ⟨g, j * 5, none⟩), .pointer (some ⟨gp, pi * 8, none⟩), .int .u8 26, .int .i64 x] w (SoPost (soundP m i 26 x) w) := by
  obtain ⟨Q, HQ⟩ : ∃ Q : Ending → World → Prop, Hid (SoPost (soundP m i 26 x) w = Q) := ⟨_, rfl⟩
  rw [HQ.out]
  obtain ⟨gk, nup, NC, S⟩ := h.sc
  have HNU : Hid ((m.clos.getD fm.clo cl0).nup = nup) := S.nu
  have HS : Hid (soundP m i 26 x = decide (x ≤ 3)) := by
    have hpe := h.pe
    have htf := (plP_is h).1
    have hth := (plP_is h).2
    have hnu := S.nu
    show _ = _
    unfold soundP
    dsimp only
    rw [htf, hth, hpe, hnu]
    simp (config := { decide := true }) only [if_true, if_false]
  rw [HS.out] at HQ
  have HB : Hid (PB w A m f e K i t fm g j gp pi p) := h
  obtain ⟨c1, c2, c3, c4, c5, c6, c7, c8, c9, c10, c11, c12, c13, c14⟩ := S
  clear c14 h
  go_enter Tryz.func263, Tryz.ntmps263
  go_wp2_with fail
  refine wp_region_tail 11 (by kernel_rfl) (by kernel_rfl) (fun _ _ _ _ _ h => h) ?_
  simp only [List.take_succ_cons, List.take_zero, List.drop_succ_cons, List.drop_zero]
  repeat go_big_quiet_step (fail)
  refine wpQuiet_nil ?_
  obtain ⟨b, HBB⟩ : ∃ b, Hid (decide ((x : Int) ≤ 3) = b) := ⟨_, rfl⟩
  have hb := HBB.out
  go_wp2_with fail
  rw [← HQ.out]
  exact ⟨by subst hb; simp; omega, ((Fr.refl _ _).drew)⟩
theorem sound_29 (h : PB w A m f e K i t fm g j gp pi p) {x : Nat} (hx16 : x < 65536)  : Calls Tryz.prog 263 #[.pointer (some ⟨A.b, 0, none⟩), .pointer (some ⟨A.bT, i * 5, none⟩), .pointer (some ⟨g, j * 5, none⟩), .pointer (some ⟨gp, pi * 8, none⟩), .int .u8 29, .int .i64 x] w (SoPost (soundP m i 29 x) w) := by
  obtain ⟨Q, HQ⟩ : ∃ Q : Ending → World → Prop, Hid (SoPost (soundP m i 29 x) w = Q) := ⟨_, rfl⟩
  rw [HQ.out]
  obtain ⟨gk, nup, NC, S⟩ := h.sc
  have HNU : Hid ((m.clos.getD fm.clo cl0).nup = nup) := S.nu
  have HS : Hid (soundP m i 29 x = decide (x ≤ p.ns)) := by
    have hpe := h.pe
    have htf := (plP_is h).1
    have hth := (plP_is h).2
    have hnu := S.nu
    show _ = _
    unfold soundP
    dsimp only
    rw [htf, hth, hpe, hnu]
    simp (config := { decide := true }) only [if_true, if_false]
  rw [HS.out] at HQ
  have HB : Hid (PB w A m f e K i t fm g j gp pi p) := h
  obtain ⟨c1, c2, c3, c4, c5, c6, c7, c8, c9, c10, c11, c12, c13, c14⟩ := S
  clear c14 h
  go_enter Tryz.func263, Tryz.ntmps263
  go_wp2_with fail
  refine wp_region_tail 11 (by kernel_rfl) (by kernel_rfl) (fun _ _ _ _ _ h => h) ?_
  simp only [List.take_succ_cons, List.take_zero, List.drop_succ_cons, List.drop_zero]
  repeat go_big_quiet_step (fail)
  refine wpQuiet_nil ?_
  go_wp2_with fail
  rw [← HQ.out]
  exact ⟨by simp, ((Fr.refl _ _).drew)⟩
theorem sound_15 (h : PB w A m f e K i t fm g j gp pi p) {x : Nat} (hx16 : x < 65536)  : Calls Tryz.prog 263 #[.pointer (some ⟨A.b, 0, none⟩), .pointer (some ⟨A.bT, i * 5, none⟩), .pointer (some ⟨g, j * 5, none⟩), .pointer (some ⟨gp, pi * 8, none⟩), .int .u8 15, .int .i64 x] w (SoPost (soundP m i 15 x) w) := by
  obtain ⟨Q, HQ⟩ : ∃ Q : Ending → World → Prop, Hid (SoPost (soundP m i 15 x) w = Q) := ⟨_, rfl⟩
  rw [HQ.out]
  obtain ⟨gk, nup, NC, S⟩ := h.sc
  have HNU : Hid ((m.clos.getD fm.clo cl0).nup = nup) := S.nu
  have HS : Hid (soundP m i 15 x = decide (1 ≤ x ∧ x ≤ 6)) := by
    have hpe := h.pe
    have htf := (plP_is h).1
    have hth := (plP_is h).2
    have hnu := S.nu
    show _ = _
    unfold soundP
    dsimp only
    rw [htf, hth, hpe, hnu]
    simp (config := { decide := true }) only [if_true, if_false]
  rw [HS.out] at HQ
  have HB : Hid (PB w A m f e K i t fm g j gp pi p) := h
  obtain ⟨c1, c2, c3, c4, c5, c6, c7, c8, c9, c10, c11, c12, c13, c14⟩ := S
  clear c14 h
  go_enter Tryz.func263, Tryz.ntmps263
  go_wp2_with fail
  refine wp_region_tail 11 (by kernel_rfl) (by kernel_rfl) (fun _ _ _ _ _ h => h) ?_
  simp only [List.take_succ_cons, List.take_zero, List.drop_succ_cons, List.drop_zero]
  repeat go_big_quiet_step (fail)
  refine wpQuiet_nil ?_
  by_cases h1 : 1 ≤ x
  · have b1 : decide ((x : Int) ≥ 1) = true := by rw [decide_eq_true_iff]; omega
    by_cases h2 : x ≤ 6
    · have b2 : decide ((x : Int) ≤ 6) = true := by rw [decide_eq_true_iff]; omega
      have hr : decide (1 ≤ x ∧ x ≤ 6) = true := by rw [decide_eq_true_iff]; omega
      rw [hr] at HQ
      clear hr
      go_wp2_with fail
      rw [← HQ.out]
      exact ⟨by simp, ((Fr.refl _ _).drew)⟩
    · have b2 : decide ((x : Int) ≤ 6) = false := by rw [decide_eq_false_iff_not]; omega
      have hr : decide (1 ≤ x ∧ x ≤ 6) = false := by rw [decide_eq_false_iff_not]; omega
      rw [hr] at HQ
      clear hr
      go_wp2_with fail
      rw [← HQ.out]
      exact ⟨by simp, ((Fr.refl _ _).drew)⟩
  · have b1 : decide ((x : Int) ≥ 1) = false := by rw [decide_eq_false_iff_not]; omega
    have hr : decide (1 ≤ x ∧ x ≤ 6) = false := by rw [decide_eq_false_iff_not]; omega
    rw [hr] at HQ
    clear hr
    go_wp2_with fail
    rw [← HQ.out]
    exact ⟨by simp, ((Fr.refl _ _).drew)⟩
theorem sound_16 (h : PB w A m f e K i t fm g j gp pi p) {x : Nat} (hx16 : x < 65536)  : Calls Tryz.prog 263 #[.pointer (some ⟨A.b, 0, none⟩), .pointer (some ⟨A.bT, i * 5, none⟩), .pointer (some ⟨g, j * 5, none⟩), .pointer (some ⟨gp, pi * 8, none⟩), .int .u8 16, .int .i64 x] w (SoPost (soundP m i 16 x) w) := by
  obtain ⟨Q, HQ⟩ : ∃ Q : Ending → World → Prop, Hid (SoPost (soundP m i 16 x) w = Q) := ⟨_, rfl⟩
  rw [HQ.out]
  obtain ⟨gk, nup, NC, S⟩ := h.sc
  have HNU : Hid ((m.clos.getD fm.clo cl0).nup = nup) := S.nu
  have HS : Hid (soundP m i 16 x = decide (1 ≤ x ∧ x ≤ 6)) := by
    have hpe := h.pe
    have htf := (plP_is h).1
    have hth := (plP_is h).2
    have hnu := S.nu
    show _ = _
    unfold soundP
    dsimp only
    rw [htf, hth, hpe, hnu]
    simp (config := { decide := true }) only [if_true, if_false]
  rw [HS.out] at HQ
  have HB : Hid (PB w A m f e K i t fm g j gp pi p) := h
  obtain ⟨c1, c2, c3, c4, c5, c6, c7, c8, c9, c10, c11, c12, c13, c14⟩ := S
  clear c14 h
  go_enter Tryz.func263, Tryz.ntmps263
  go_wp2_with fail
  refine wp_region_tail 11 (by kernel_rfl) (by kernel_rfl) (fun _ _ _ _ _ h => h) ?_
  simp only [List.take_succ_cons, List.take_zero, List.drop_succ_cons, List.drop_zero]
  repeat go_big_quiet_step (fail)
  refine wpQuiet_nil ?_
  by_cases h1 : 1 ≤ x
  · have b1 : decide ((x : Int) ≥ 1) = true := by rw [decide_eq_true_iff]; omega
    by_cases h2 : x ≤ 6
    · have b2 : decide ((x : Int) ≤ 6) = true := by rw [decide_eq_true_iff]; omega
      have hr : decide (1 ≤ x ∧ x ≤ 6) = true := by rw [decide_eq_true_iff]; omega
      rw [hr] at HQ
      clear hr
      go_wp2_with fail
      rw [← HQ.out]
      exact ⟨by simp, ((Fr.refl _ _).drew)⟩
    · have b2 : decide ((x : Int) ≤ 6) = false := by rw [decide_eq_false_iff_not]; omega
      have hr : decide (1 ≤ x ∧ x ≤ 6) = false := by rw [decide_eq_false_iff_not]; omega
      rw [hr] at HQ
      clear hr
      go_wp2_with fail
      rw [← HQ.out]
      exact ⟨by simp, ((Fr.refl _ _).drew)⟩
  · have b1 : decide ((x : Int) ≥ 1) = false := by rw [decide_eq_false_iff_not]; omega
    have hr : decide (1 ≤ x ∧ x ≤ 6) = false := by rw [decide_eq_false_iff_not]; omega
    rw [hr] at HQ
    clear hr
    go_wp2_with fail
    rw [← HQ.out]
    exact ⟨by simp, ((Fr.refl _ _).drew)⟩
theorem sound_30 (h : PB w A m f e K i t fm g j gp pi p) {x : Nat} (hx16 : x < 65536)  : Calls Tryz.prog 263 #[.pointer (some ⟨A.b, 0, none⟩), .pointer (some ⟨A.bT, i * 5, none⟩), .pointer (some ⟨g, j * 5, none⟩), .pointer (some ⟨gp, pi * 8, none⟩), .int .u8 30, .int .i64 x] w (SoPost (soundP m i 30 x) w) := by
  obtain ⟨Q, HQ⟩ : ∃ Q : Ending → World → Prop, Hid (SoPost (soundP m i 30 x) w = Q) := ⟨_, rfl⟩
  rw [HQ.out]
  obtain ⟨gk, nup, NC, S⟩ := h.sc
  have HNU : Hid ((m.clos.getD fm.clo cl0).nup = nup) := S.nu
  have HS : Hid (soundP m i 30 x = decide (x + 3 < p.ns)) := by
    have hpe := h.pe
    have htf := (plP_is h).1
    have hth := (plP_is h).2
    have hnu := S.nu
    show _ = _
    unfold soundP
    dsimp only
    rw [htf, hth, hpe, hnu]
    simp (config := { decide := true }) only [if_true, if_false]
  rw [HS.out] at HQ
  have HB : Hid (PB w A m f e K i t fm g j gp pi p) := h
  obtain ⟨c1, c2, c3, c4, c5, c6, c7, c8, c9, c10, c11, c12, c13, c14⟩ := S
  clear c14 h
  go_enter Tryz.func263, Tryz.ntmps263
  go_wp2_with fail
  refine wp_region_tail 11 (by kernel_rfl) (by kernel_rfl) (fun _ _ _ _ _ h => h) ?_
  simp only [List.take_succ_cons, List.take_zero, List.drop_succ_cons, List.drop_zero]
  repeat go_big_quiet_step (fail)
  refine wpQuiet_nil ?_
  by_cases h2 : x + 3 < p.ns
  · have b2 : decide ((x : Int) + 3 < (p.ns : Int)) = true := by rw [decide_eq_true_iff]; omega
    have hr : decide (x + 3 < p.ns) = true := by rw [decide_eq_true_iff]; omega
    rw [hr] at HQ
    clear hr
    go_wp2_with fail
    rw [← HQ.out]
    exact ⟨by simp, ((Fr.refl _ _).drew)⟩
  · have b2 : decide ((x : Int) + 3 < (p.ns : Int)) = false := by rw [decide_eq_false_iff_not]; omega
    have hr : decide (x + 3 < p.ns) = false := by rw [decide_eq_false_iff_not]; omega
    rw [hr] at HQ
    clear hr
    go_wp2_with fail
    rw [← HQ.out]
    exact ⟨by simp, ((Fr.refl _ _).drew)⟩
theorem sound_32 (h : PB w A m f e K i t fm g j gp pi p) {x : Nat} (hx16 : x < 65536)  : Calls Tryz.prog 263 #[.pointer (some ⟨A.b, 0, none⟩), .pointer (some ⟨A.bT, i * 5, none⟩), .pointer (some ⟨g, j * 5, none⟩), .pointer (some ⟨gp, pi * 8, none⟩), .int .u8 32, .int .i64 x] w (SoPost (soundP m i 32 x) w) := by
  obtain ⟨Q, HQ⟩ : ∃ Q : Ending → World → Prop, Hid (SoPost (soundP m i 32 x) w = Q) := ⟨_, rfl⟩
  rw [HQ.out]
  obtain ⟨gk, nup, NC, S⟩ := h.sc
  have HNU : Hid ((m.clos.getD fm.clo cl0).nup = nup) := S.nu
  have HS : Hid (soundP m i 32 x = decide (x + 3 < p.ns)) := by
    have hpe := h.pe
    have htf := (plP_is h).1
    have hth := (plP_is h).2
    have hnu := S.nu
    show _ = _
    unfold soundP
    dsimp only
    rw [htf, hth, hpe, hnu]
    simp (config := { decide := true }) only [if_true, if_false]
  rw [HS.out] at HQ
  have HB : Hid (PB w A m f e K i t fm g j gp pi p) := h
  obtain ⟨c1, c2, c3, c4, c5, c6, c7, c8, c9, c10, c11, c12, c13, c14⟩ := S
  clear c14 h
  go_enter Tryz.func263, Tryz.ntmps263
  go_wp2_with fail
  refine wp_region_tail 11 (by kernel_rfl) (by kernel_rfl) (fun _ _ _ _ _ h => h) ?_
  simp only [List.take_succ_cons, List.take_zero, List.drop_succ_cons, List.drop_zero]
  repeat go_big_quiet_step (fail)
  refine wpQuiet_nil ?_
  by_cases h2 : x + 3 < p.ns
  · have b2 : decide ((x : Int) + 3 < (p.ns : Int)) = true := by rw [decide_eq_true_iff]; omega
    have hr : decide (x + 3 < p.ns) = true := by rw [decide_eq_true_iff]; omega
    rw [hr] at HQ
    clear hr
    go_wp2_with fail
    rw [← HQ.out]
    exact ⟨by simp, ((Fr.refl _ _).drew)⟩
  · have b2 : decide ((x : Int) + 3 < (p.ns : Int)) = false := by rw [decide_eq_false_iff_not]; omega
    have hr : decide (x + 3 < p.ns) = false := by rw [decide_eq_false_iff_not]; omega
    rw [hr] at HQ
    clear hr
    go_wp2_with fail
    rw [← HQ.out]
    exact ⟨by simp, ((Fr.refl _ _).drew)⟩
end
end Go.Proofs.Qxb6500574aGreatDoor
