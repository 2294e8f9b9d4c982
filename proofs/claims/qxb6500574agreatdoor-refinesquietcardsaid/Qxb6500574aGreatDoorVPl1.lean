/-
  THE WALK of vm: plain: constants, nil, booleans.
-/
import Derived.Test.Qxb6500574aGreatDoorVPl0
namespace Go.Proofs.Qxb6500574aGreatDoor
open Go Go.RowKit
set_option linter.unusedVariables false
set_option linter.unusedSimpArgs false
section
variable {w : World} {A : VL} {m : VMD} {f e i g j gp pi : Nat} {t : ThD} {K : Cx} {fm : FmD} {p : PrD}
set_option maxRecDepth 100000
set_option maxHeartbeats 400000
theorem plain_2 (h : PB w A m f e K i t fm g j gp pi p) {x : Nat} (hx16 : x < 65536) :
    Calls Tryz.prog 269 #[.pointer (some ⟨A.b, 0, none⟩), .int .i64 i, .pointer (some ⟨A.bT, i * 5, none⟩), .pointer (some ⟨g, j * 5, none⟩), .pointer (some ⟨gp, pi * 8, none⟩), .int .u8 2, .int .i64 x] w (PlPost (plainP m i 2 x) w A f e i) := by
  have hop : plainP m i 2 x = (.inr (), m.setTh i { t with stack := t.stack ++ [nilV] }) := by
    unfold plainP
    simp (config := { decide := true }) only [if_true, if_false]
    rw [push_is h.at'.hi]
  obtain ⟨Q, HQ⟩ : ∃ Q : Ending → World → Prop, Hid (PlPost (plainP m i 2 x) w A f e i = Q) := ⟨_, rfl⟩
  rw [HQ.out]
  have HOP : Hid (plainP m i 2 x = _) := hop
  clear hop
  have HI : Hid (m.ths[i]? = some t) := h.at'.hi
  have HB : Hid (PB w A m f e K i t fm g j gp pi p) := h
  obtain ⟨l, hx, hg, c1, c2, c3, c4, c5, c6, c7, c8, c9, c10, c11, c12⟩ := h.cells
  have HX : Hid (A.X[i]? = some l) := hx
  have HG : Hid (l.f.a = some ⟨g, 0, none⟩) := hg
  have HSN : Hid (t.stack.length ≤ 1120) := c11
  obtain ⟨sa, HSA⟩ : ∃ sa, Hid (l.s.a = sa) := ⟨_, rfl⟩
  obtain ⟨sc, HSC⟩ : ∃ sc, Hid (l.s.c = sc) := ⟨_, rfl⟩
  rw [HSA.out, HSC.out] at c1
  rw [HSC.out] at c9
  obtain ⟨n, HN⟩ : ∃ n, Hid (t.stack.length = n) := ⟨_, rfl⟩
  rw [HN.out] at c1 c9 c10 c11
  clear h hx hg
  go_enter Tryz.func269, Tryz.ntmps269
  go_wp2_with fail
  go_quiet (fail)
  obtain ⟨SL, HSL⟩ : ∃ v, Hid (Value.slice (if sc = fm.base then sa else Option.map (fun x => x.add (fm.base * 3)) sa) (fm.base + p.ns - fm.base) (sc - fm.base) = v) := ⟨_, rfl⟩
  rw [HSL.out]
  have F0 : Fr (fun _ => False) w (w.drewN nq) := (Fr.refl _ _).drewN nq
  obtain ⟨w0, HW0⟩ : ∃ w0, Hid (w.drewN nq = w0) := ⟨_, rfl⟩
  rw [HW0.out] at F0 ⊢
  have HF0 : Hid (Fr (fun _ => False) w w0) := F0
  have B0 := HB.out.fresh F0
  have HB0 : Hid (PB w0 A m f e K i t fm g j gp pi p) := B0
  clear F0 c1 c2 c3 c4 c5 c6 c7 c8
  clear B0
  go_wp2_with fail
  refine (vpush_fk (HB0.out.rep.fresh ((Fr.refl _ _).alloc _)) HI.out [nilV] (by simp) (by have := HSN.out; simp; omega) (Has.newC _ _ _ (by simp))).mono ?_
  rintro e' wz ⟨rfl, A', z1, z2, z3⟩
  have FIN : Hid (Q (.returned (.tuple #[])) wz) := by
    rw [← HQ.out, HOP.out]
    exact ⟨rfl, A', z1, ((VSt.fresh HF0.out).trans (VSt.fresh ((Fr.refl _ _).alloc _))).trans (z2.weaken (fun k hk => by unfold isVM; unfold isT at hk; omega)), z3⟩
  clear z1 z2 z3
  go_wp2_with fail
  go_end0
  exact FIN.out
theorem plain_3 (h : PB w A m f e K i t fm g j gp pi p) {x : Nat} (hx16 : x < 65536) :
    Calls Tryz.prog 269 #[.pointer (some ⟨A.b, 0, none⟩), .int .i64 i, .pointer (some ⟨A.bT, i * 5, none⟩), .pointer (some ⟨g, j * 5, none⟩), .pointer (some ⟨gp, pi * 8, none⟩), .int .u8 3, .int .i64 x] w (PlPost (plainP m i 3 x) w A f e i) := by
  have hop : plainP m i 3 x = (.inr (), m.setTh i { t with stack := t.stack ++ [boolV true] }) := by
    unfold plainP
    simp (config := { decide := true }) only [if_true, if_false]
    rw [push_is h.at'.hi]
  obtain ⟨Q, HQ⟩ : ∃ Q : Ending → World → Prop, Hid (PlPost (plainP m i 3 x) w A f e i = Q) := ⟨_, rfl⟩
  rw [HQ.out]
  have HOP : Hid (plainP m i 3 x = _) := hop
  clear hop
  have HI : Hid (m.ths[i]? = some t) := h.at'.hi
  have HB : Hid (PB w A m f e K i t fm g j gp pi p) := h
  obtain ⟨l, hx, hg, c1, c2, c3, c4, c5, c6, c7, c8, c9, c10, c11, c12⟩ := h.cells
  have HX : Hid (A.X[i]? = some l) := hx
  have HG : Hid (l.f.a = some ⟨g, 0, none⟩) := hg
  have HSN : Hid (t.stack.length ≤ 1120) := c11
  obtain ⟨sa, HSA⟩ : ∃ sa, Hid (l.s.a = sa) := ⟨_, rfl⟩
  obtain ⟨sc, HSC⟩ : ∃ sc, Hid (l.s.c = sc) := ⟨_, rfl⟩
  rw [HSA.out, HSC.out] at c1
  rw [HSC.out] at c9
  obtain ⟨n, HN⟩ : ∃ n, Hid (t.stack.length = n) := ⟨_, rfl⟩
  rw [HN.out] at c1 c9 c10 c11
  clear h hx hg
  go_enter Tryz.func269, Tryz.ntmps269
  go_wp2_with fail
  go_quiet (fail)
  obtain ⟨SL, HSL⟩ : ∃ v, Hid (Value.slice (if sc = fm.base then sa else Option.map (fun x => x.add (fm.base * 3)) sa) (fm.base + p.ns - fm.base) (sc - fm.base) = v) := ⟨_, rfl⟩
  rw [HSL.out]
  have F0 : Fr (fun _ => False) w (w.drewN nq) := (Fr.refl _ _).drewN nq
  obtain ⟨w0, HW0⟩ : ∃ w0, Hid (w.drewN nq = w0) := ⟨_, rfl⟩
  rw [HW0.out] at F0 ⊢
  have HF0 : Hid (Fr (fun _ => False) w w0) := F0
  have B0 := HB.out.fresh F0
  have HB0 : Hid (PB w0 A m f e K i t fm g j gp pi p) := B0
  clear F0 c1 c2 c3 c4 c5 c6 c7 c8
  clear B0
  go_wp2_with fail
  refine (vpush_fk (HB0.out.rep.fresh ((Fr.refl _ _).alloc _)) HI.out [boolV true] (by simp) (by have := HSN.out; simp; omega) (Has.newC _ _ _ (by simp))).mono ?_
  rintro e' wz ⟨rfl, A', z1, z2, z3⟩
  have FIN : Hid (Q (.returned (.tuple #[])) wz) := by
    rw [← HQ.out, HOP.out]
    exact ⟨rfl, A', z1, ((VSt.fresh HF0.out).trans (VSt.fresh ((Fr.refl _ _).alloc _))).trans (z2.weaken (fun k hk => by unfold isVM; unfold isT at hk; omega)), z3⟩
  clear z1 z2 z3
  go_wp2_with fail
  go_end0
  exact FIN.out
theorem plain_4 (h : PB w A m f e K i t fm g j gp pi p) {x : Nat} (hx16 : x < 65536) :
    Calls Tryz.prog 269 #[.pointer (some ⟨A.b, 0, none⟩), .int .i64 i, .pointer (some ⟨A.bT, i * 5, none⟩), .pointer (some ⟨g, j * 5, none⟩), .pointer (some ⟨gp, pi * 8, none⟩), .int .u8 4, .int .i64 x] w (PlPost (plainP m i 4 x) w A f e i) := by
  have hop : plainP m i 4 x = (.inr (), m.setTh i { t with stack := t.stack ++ [boolV false] }) := by
    unfold plainP
    simp (config := { decide := true }) only [if_true, if_false]
    rw [push_is h.at'.hi]
  obtain ⟨Q, HQ⟩ : ∃ Q : Ending → World → Prop, Hid (PlPost (plainP m i 4 x) w A f e i = Q) := ⟨_, rfl⟩
  rw [HQ.out]
  have HOP : Hid (plainP m i 4 x = _) := hop
  clear hop
  have HI : Hid (m.ths[i]? = some t) := h.at'.hi
  have HB : Hid (PB w A m f e K i t fm g j gp pi p) := h
  obtain ⟨l, hx, hg, c1, c2, c3, c4, c5, c6, c7, c8, c9, c10, c11, c12⟩ := h.cells
  have HX : Hid (A.X[i]? = some l) := hx
  have HG : Hid (l.f.a = some ⟨g, 0, none⟩) := hg
  have HSN : Hid (t.stack.length ≤ 1120) := c11
  obtain ⟨sa, HSA⟩ : ∃ sa, Hid (l.s.a = sa) := ⟨_, rfl⟩
  obtain ⟨sc, HSC⟩ : ∃ sc, Hid (l.s.c = sc) := ⟨_, rfl⟩
  rw [HSA.out, HSC.out] at c1
  rw [HSC.out] at c9
  obtain ⟨n, HN⟩ : ∃ n, Hid (t.stack.length = n) := ⟨_, rfl⟩
  rw [HN.out] at c1 c9 c10 c11
  clear h hx hg
  go_enter Tryz.func269, Tryz.ntmps269
  go_wp2_with fail
  go_quiet (fail)
  obtain ⟨SL, HSL⟩ : ∃ v, Hid (Value.slice (if sc = fm.base then sa else Option.map (fun x => x.add (fm.base * 3)) sa) (fm.base + p.ns - fm.base) (sc - fm.base) = v) := ⟨_, rfl⟩
  rw [HSL.out]
  have F0 : Fr (fun _ => False) w (w.drewN nq) := (Fr.refl _ _).drewN nq
  obtain ⟨w0, HW0⟩ : ∃ w0, Hid (w.drewN nq = w0) := ⟨_, rfl⟩
  rw [HW0.out] at F0 ⊢
  have HF0 : Hid (Fr (fun _ => False) w w0) := F0
  have B0 := HB.out.fresh F0
  have HB0 : Hid (PB w0 A m f e K i t fm g j gp pi p) := B0
  clear F0 c1 c2 c3 c4 c5 c6 c7 c8
  clear B0
  go_wp2_with fail
  refine (vpush_fk (HB0.out.rep.fresh ((Fr.refl _ _).alloc _)) HI.out [boolV false] (by simp) (by have := HSN.out; simp; omega) (Has.newC _ _ _ (by simp))).mono ?_
  rintro e' wz ⟨rfl, A', z1, z2, z3⟩
  have FIN : Hid (Q (.returned (.tuple #[])) wz) := by
    rw [← HQ.out, HOP.out]
    exact ⟨rfl, A', z1, ((VSt.fresh HF0.out).trans (VSt.fresh ((Fr.refl _ _).alloc _))).trans (z2.weaken (fun k hk => by unfold isVM; unfold isT at hk; omega)), z3⟩
  clear z1 z2 z3
  go_wp2_with fail
  go_end0
  exact FIN.out
theorem plain_1 (h : PB w A m f e K i t fm g j gp pi p) {x : Nat} (hx16 : x < 65536) {c : Vl} (hc : m.consts[p.k + x]? = some c) :
    Calls Tryz.prog 269 #[.pointer (some ⟨A.b, 0, none⟩), .int .i64 i, .pointer (some ⟨A.bT, i * 5, none⟩), .pointer (some ⟨g, j * 5, none⟩), .pointer (some ⟨gp, pi * 8, none⟩), .int .u8 1, .int .i64 x] w (PlPost (plainP m i 1 x) w A f e i) := by
  have hop : plainP m i 1 x = (.inr (), m.setTh i { t with stack := t.stack ++ [c] }) := by
    unfold plainP
    simp (config := { decide := true }) only [if_true, if_false]
    rw [h.at'.topF, h.pe, push_is h.at'.hi]
    simp [hc]
  obtain ⟨Q, HQ⟩ : ∃ Q : Ending → World → Prop, Hid (PlPost (plainP m i 1 x) w A f e i = Q) := ⟨_, rfl⟩
  rw [HQ.out]
  have HOP : Hid (plainP m i 1 x = _) := hop
  clear hop
  have HI : Hid (m.ths[i]? = some t) := h.at'.hi
  have HB : Hid (PB w A m f e K i t fm g j gp pi p) := h
  have HC : Hid (m.consts[p.k + x]? = some c) := hc
  clear hc
  obtain ⟨l, hx, hg, c1, c2, c3, c4, c5, c6, c7, c8, c9, c10, c11, c12⟩ := h.cells
  have HX : Hid (A.X[i]? = some l) := hx
  have HG : Hid (l.f.a = some ⟨g, 0, none⟩) := hg
  have HSN : Hid (t.stack.length ≤ 1120) := c11
  obtain ⟨sa, HSA⟩ : ∃ sa, Hid (l.s.a = sa) := ⟨_, rfl⟩
  obtain ⟨sc, HSC⟩ : ∃ sc, Hid (l.s.c = sc) := ⟨_, rfl⟩
  rw [HSA.out, HSC.out] at c1
  rw [HSC.out] at c9
  obtain ⟨n, HN⟩ : ∃ n, Hid (t.stack.length = n) := ⟨_, rfl⟩
  rw [HN.out] at c1 c9 c10 c11
  clear h hx hg
  go_enter Tryz.func269, Tryz.ntmps269
  go_wp2_with fail
  go_quiet (fail)
  obtain ⟨SL, HSL⟩ : ∃ v, Hid (Value.slice (if sc = fm.base then sa else Option.map (fun x => x.add (fm.base * 3)) sa) (fm.base + p.ns - fm.base) (sc - fm.base) = v) := ⟨_, rfl⟩
  rw [HSL.out]
  have F0 : Fr (fun _ => False) w (w.drewN nq) := (Fr.refl _ _).drewN nq
  obtain ⟨w0, HW0⟩ : ∃ w0, Hid (w.drewN nq = w0) := ⟨_, rfl⟩
  rw [HW0.out] at F0 ⊢
  have HF0 : Hid (Fr (fun _ => False) w w0) := F0
  have B0 := HB.out.fresh F0
  have HB0 : Hid (PB w0 A m f e K i t fm g j gp pi p) := B0
  clear F0 c1 c2 c3 c4 c5 c6 c7 c8
  have cc := B0.rep.cell0 4
  simp only [vmCells, List.getElem?_toArray, List.getElem?_cons_succ, List.getElem?_cons_zero, Sl.v] at cc
  have hbl := B0.rep.bl
  obtain ⟨gc, k1, k2, k3, k4, k5, k6⟩ := B0.rep.core.consts.at vCells_len HC.out
  rw [k1] at cc
  have k50 := k5 0 (by omega)
  have k51 := k5 1 (by omega)
  have k52 := k5 2 (by omega)
  simp only [vCells, List.getElem?_cons_succ, List.getElem?_cons_zero, Nat.add_zero] at k50 k51 k52
  obtain ⟨_, _, _, _, _, _, _, _, _, p4, pl, _⟩ := B0.cells
  have hkl := (List.getElem?_eq_some_iff.1 HC.out).1
  have hkx := B0.at'.vi.txt.kl
  clear k1 k3 k5 k6 B0
  obtain ⟨ct, cn, cs⟩ := c
  go_wp2_with fail
  refine wp_region_tailA 13 0 (by kernel_rfl) (by kernel_rfl) (fun _ _ _ _ _ h => h) _ rfl ?_
  simp only [List.take_succ_cons, List.take_zero, List.drop_succ_cons, List.drop_zero, List.eraseIdx_cons_succ, List.eraseIdx_cons_zero]
  repeat go_big_quiet_step (fail)
  refine wpQuiet_nil ?_
  go_wp2_with fail
  refine (vpush_fk (HB0.out.rep.fresh (((Fr.refl _ _).drew).alloc _)) HI.out [⟨ct, cn, cs⟩] (by simp) (by have := HSN.out; simp; omega) (Has.newC _ _ _ (by simp))).mono ?_
  rintro e' wz ⟨rfl, A', z1, z2, z3⟩
  have FIN : Hid (Q (.returned (.tuple #[])) wz) := by
    rw [← HQ.out, HOP.out]
    exact ⟨rfl, A', z1, ((VSt.fresh HF0.out).trans (VSt.fresh (((Fr.refl _ _).drew).alloc _))).trans (z2.weaken (fun k hk => by unfold isVM; unfold isT at hk; omega)), z3⟩
  clear z1 z2 z3
  go_wp2_with fail
  go_end0
  exact FIN.out
end
end Go.Proofs.Qxb6500574aGreatDoor
