/-
  THE WALK of vm: plain: locals, pop.
-/
import Derived.Test.Qxb6500574aGreatDoorVPl0
namespace Go.Proofs.Qxb6500574aGreatDoor
open Go Go.RowKit
set_option linter.unusedVariables false
set_option linter.unusedSimpArgs false
section
variable {w : World} {A : VL} {m : VMD} {f e i g j gp pi : Nat} {t : ThD} {K : Cx} {fm : FmD} {p : PrD}
set_option maxRecDepth 100000
set_option maxHeartbeats 400000
theorem plain_5 (h : PB w A m f e K i t fm g j gp pi p) {x : Nat} (hx16 : x < 65536) (hxs : x < p.ns) {u : Vl} (hu : t.stack[fm.base + x]? = some u) :
    Calls Tryz.prog 269 #[.pointer (some ⟨A.b, 0, none⟩), .int .i64 i, .pointer (some ⟨A.bT, i * 5, none⟩), .pointer (some ⟨g, j * 5, none⟩), .pointer (some ⟨gp, pi * 8, none⟩), .int .u8 5, .int .i64 x] w (PlPost (plainP m i 5 x) w A f e i) := by
  have hop : plainP m i 5 x = (.inr (), m.setTh i { t with stack := t.stack ++ [u] }) := by
    unfold plainP
    simp (config := { decide := true }) only [if_true, if_false]
    rw [h.at'.topF, push_is h.at'.hi, th_get h.at'.hi]
    simp [hu]
  obtain ⟨Q, HQ⟩ : ∃ Q : Ending → World → Prop, Hid (PlPost (plainP m i 5 x) w A f e i = Q) := ⟨_, rfl⟩
  rw [HQ.out]
  have HOP : Hid (plainP m i 5 x = _) := hop
  clear hop
  have HI : Hid (m.ths[i]? = some t) := h.at'.hi
  have HB : Hid (PB w A m f e K i t fm g j gp pi p) := h
  have HU : Hid (t.stack[fm.base + x]? = some u) := hu
  clear hu
  obtain ⟨l, hx, hg, c1, c2, c3, c4, c5, c6, c7, c8, c9, c10, c11, c12⟩ := h.cells
  have HX : Hid (A.X[i]? = some l) := hx
  have HG : Hid (l.f.a = some ⟨g, 0, none⟩) := hg
  have HSN : Hid (t.stack.length ≤ 1120) := c11
  obtain ⟨sa, HSA⟩ : ∃ sa, Hid (l.s.a = sa) := ⟨_, rfl⟩
  obtain ⟨sc, HSC⟩ : ∃ sc, Hid (l.s.c = sc) := ⟨_, rfl⟩
  rw [HSA.out, HSC.out] at c1
  rw [HSC.out] at c9
  obtain ⟨n, HN⟩ : ∃ n, Hid (t.stack.length = n) := ⟨_, rfl⟩
  rw [HN.out] at c1 c9 c10 c11
  clear h hx hg
  go_enter Tryz.func269, Tryz.ntmps269
  go_wp2_with fail
  go_quiet (fail)
  obtain ⟨gs, ga, gl⟩ : ∃ gs, sa = some ⟨gs, 0, none⟩ ∧ gs < w.heap.size := by
    obtain ⟨q, q1, _, _, q4, _⟩ := ((HB.out.rep.one HI.out HX.out).s).cells (by dsimp only; rw [HN.out]; omega)
    exact ⟨q, by rw [← HSA.out]; exact q1, q4⟩
  have hSL : Value.slice (Option.map (fun x => x.add (fm.base * 3)) sa) (fm.base + p.ns - fm.base) (sc - fm.base) = Value.slice (some ⟨gs, fm.base * 3, none⟩) p.ns (sc - fm.base) := by
    rw [ga, show fm.base + p.ns - fm.base = p.ns by omega]
    simp [Addr.add]
    omega
  rw [hSL]
  clear hSL
  have F0 : Fr (fun _ => False) w (w.drewN nq) := (Fr.refl _ _).drewN nq
  obtain ⟨w0, HW0⟩ : ∃ w0, Hid (w.drewN nq = w0) := ⟨_, rfl⟩
  rw [HW0.out] at F0 ⊢
  have HF0 : Hid (Fr (fun _ => False) w w0) := F0
  have B0 := HB.out.fresh F0
  have HB0 : Hid (PB w0 A m f e K i t fm g j gp pi p) := B0
  clear F0 c1 c2 c3 c4 c5 c6 c7 c8
  obtain ⟨g2, a1, a2, a3, a4, a5, a6⟩ := (B0.rep.one HI.out HX.out).s.at vCells_len (show (t, l).1.stack[fm.base + x]? = some u from HU.out)
  dsimp only at a1
  rw [HSA.out, ga] at a1
  cases a1
  have e3 : (fm.base + x) * 3 = fm.base * 3 + x * 3 := by omega
  rw [e3] at a5
  have u0 := a5 0 (by omega)
  have u1 := a5 1 (by omega)
  have u2 := a5 2 (by omega)
  simp only [vCells, List.getElem?_cons_succ, List.getElem?_cons_zero, Nat.add_zero] at u0 u1 u2
  clear a2 a3 a5 a6 e3
  clear B0
  obtain ⟨ut, un, us⟩ := u
  go_wp2_with fail
  refine (vpush_fk (HB0.out.rep.fresh ((Fr.refl _ _).alloc _)) HI.out [⟨ut, un, us⟩] (by simp) (by have := HSN.out; simp; omega) (Has.newC _ _ _ (by simp))).mono ?_
  rintro e' wz ⟨rfl, A', z1, z2, z3⟩
  have FIN : Hid (Q (.returned (.tuple #[])) wz) := by
    rw [← HQ.out, HOP.out]
    exact ⟨rfl, A', z1, ((VSt.fresh HF0.out).trans (VSt.fresh ((Fr.refl _ _).alloc _))).trans (z2.weaken (fun k hk => by unfold isVM; unfold isT at hk; omega)), z3⟩
  clear z1 z2 z3
  go_wp2_with fail
  go_end0
  exact FIN.out
theorem plain_25 (h : PB w A m f e K i t fm g j gp pi p) {x : Nat} (hx16 : x < 65536) {r : List Vl} {b : Vl} (hs : t.stack = r ++ [b]) :
    Calls Tryz.prog 269 #[.pointer (some ⟨A.b, 0, none⟩), .int .i64 i, .pointer (some ⟨A.bT, i * 5, none⟩), .pointer (some ⟨g, j * 5, none⟩), .pointer (some ⟨gp, pi * 8, none⟩), .int .u8 25, .int .i64 x] w (PlPost (plainP m i 25 x) w A f e i) := by
  have hop : plainP m i 25 x = (.inr (), m.setTh i { t with stack := r }) := by
    unfold plainP
    simp (config := { decide := true }) only [if_true, if_false]
    rw [pops_1 h.at'.hi hs]
  obtain ⟨Q, HQ⟩ : ∃ Q : Ending → World → Prop, Hid (PlPost (plainP m i 25 x) w A f e i = Q) := ⟨_, rfl⟩
  rw [HQ.out]
  have HOP : Hid (plainP m i 25 x = _) := hop
  clear hop
  have HI : Hid (m.ths[i]? = some t) := h.at'.hi
  have HB : Hid (PB w A m f e K i t fm g j gp pi p) := h
  have HS : Hid (t.stack = r ++ [b]) := hs
  clear hs
  obtain ⟨l, hx, hg, c1, c2, c3, c4, c5, c6, c7, c8, c9, c10, c11, c12⟩ := h.cells
  have HX : Hid (A.X[i]? = some l) := hx
  have HG : Hid (l.f.a = some ⟨g, 0, none⟩) := hg
  have HSN : Hid (t.stack.length ≤ 1120) := c11
  obtain ⟨sa, HSA⟩ : ∃ sa, Hid (l.s.a = sa) := ⟨_, rfl⟩
  obtain ⟨sc, HSC⟩ : ∃ sc, Hid (l.s.c = sc) := ⟨_, rfl⟩
  rw [HSA.out, HSC.out] at c1
  rw [HSC.out] at c9
  obtain ⟨n, HN⟩ : ∃ n, Hid (t.stack.length = n) := ⟨_, rfl⟩
  rw [HN.out] at c1 c9 c10 c11
  clear h hx hg
  go_enter Tryz.func269, Tryz.ntmps269
  go_wp2_with fail
  go_quiet (fail)
  obtain ⟨SL, HSL⟩ : ∃ v, Hid (Value.slice (if sc = fm.base then sa else Option.map (fun x => x.add (fm.base * 3)) sa) (fm.base + p.ns - fm.base) (sc - fm.base) = v) := ⟨_, rfl⟩
  rw [HSL.out]
  have F0 : Fr (fun _ => False) w (w.drewN nq) := (Fr.refl _ _).drewN nq
  obtain ⟨w0, HW0⟩ : ∃ w0, Hid (w.drewN nq = w0) := ⟨_, rfl⟩
  rw [HW0.out] at F0 ⊢
  have HF0 : Hid (Fr (fun _ => False) w w0) := F0
  have B0 := HB.out.fresh F0
  have HB0 : Hid (PB w0 A m f e K i t fm g j gp pi p) := B0
  clear F0 c1 c2 c3 c4 c5 c6 c7 c8
  clear B0
  go_wp2_with fail
  refine (vpop_any HB0.out.rep HI.out HS.out (by have := HSN.out; rw [HS.out] at this; simp at this; omega)).mono ?_
  rintro e' wz ⟨rfl, z1, z2⟩
  have FIN : Hid (Q (.returned (.tuple #[])) wz) := by
    rw [← HQ.out, HOP.out]
    exact ⟨rfl, A, z1, (VSt.fresh HF0.out).trans (z2.weaken (fun k hk => by unfold isVM; unfold isT at hk; omega)), FK.refl _ _⟩
  clear z1 z2
  go_wp2_with fail
  go_end0
  exact FIN.out
theorem plain_6 (h : PB w A m f e K i t fm g j gp pi p) {x : Nat} (hx16 : x < 65536) (hxs : x < p.ns) {r : List Vl} {b u : Vl} (hs : t.stack = r ++ [b]) (hu : r[fm.base + x]? = some u) :
    Calls Tryz.prog 269 #[.pointer (some ⟨A.b, 0, none⟩), .int .i64 i, .pointer (some ⟨A.bT, i * 5, none⟩), .pointer (some ⟨g, j * 5, none⟩), .pointer (some ⟨gp, pi * 8, none⟩), .int .u8 6, .int .i64 x] w (PlPost (plainP m i 6 x) w A f e i) := by
  have hop : plainP m i 6 x = (.inr (), m.setTh i { t with stack := r.set (fm.base + x) b }) := by
    unfold plainP
    simp (config := { decide := true }) only [if_true, if_false]
    rw [h.at'.topF, topV_0 h.at'.hi hs, th_get h.at'.hi, hs]
    simp
  obtain ⟨Q, HQ⟩ : ∃ Q : Ending → World → Prop, Hid (PlPost (plainP m i 6 x) w A f e i = Q) := ⟨_, rfl⟩
  rw [HQ.out]
  have HOP : Hid (plainP m i 6 x = _) := hop
  clear hop
  have HI : Hid (m.ths[i]? = some t) := h.at'.hi
  have HB : Hid (PB w A m f e K i t fm g j gp pi p) := h
  have HS : Hid (t.stack = r ++ [b]) := hs
  have HU : Hid (r[fm.base + x]? = some u) := hu
  clear hu hs
  obtain ⟨l, hx, hg, c1, c2, c3, c4, c5, c6, c7, c8, c9, c10, c11, c12⟩ := h.cells
  have HX : Hid (A.X[i]? = some l) := hx
  have HG : Hid (l.f.a = some ⟨g, 0, none⟩) := hg
  have HSN : Hid (t.stack.length ≤ 1120) := c11
  obtain ⟨sa, HSA⟩ : ∃ sa, Hid (l.s.a = sa) := ⟨_, rfl⟩
  obtain ⟨sc, HSC⟩ : ∃ sc, Hid (l.s.c = sc) := ⟨_, rfl⟩
  rw [HSA.out, HSC.out] at c1
  rw [HSC.out] at c9
  obtain ⟨n, HN⟩ : ∃ n, Hid (t.stack.length = n) := ⟨_, rfl⟩
  rw [HN.out] at c1 c9 c10 c11
  clear h hx hg
  go_enter Tryz.func269, Tryz.ntmps269
  go_wp2_with fail
  go_quiet (fail)
  obtain ⟨gs, ga, gl⟩ : ∃ gs, sa = some ⟨gs, 0, none⟩ ∧ gs < w.heap.size := by
    obtain ⟨q, q1, _, _, q4, _⟩ := ((HB.out.rep.one HI.out HX.out).s).cells (by dsimp only; rw [HN.out]; omega)
    exact ⟨q, by rw [← HSA.out]; exact q1, q4⟩
  have hSL : Value.slice (Option.map (fun x => x.add (fm.base * 3)) sa) (fm.base + p.ns - fm.base) (sc - fm.base) = Value.slice (some ⟨gs, fm.base * 3, none⟩) p.ns (sc - fm.base) := by
    rw [ga, show fm.base + p.ns - fm.base = p.ns by omega]
    simp [Addr.add]
    omega
  rw [hSL]
  clear hSL
  have F0 : Fr (fun _ => False) w (w.drewN nq) := (Fr.refl _ _).drewN nq
  obtain ⟨w0, HW0⟩ : ∃ w0, Hid (w.drewN nq = w0) := ⟨_, rfl⟩
  rw [HW0.out] at F0 ⊢
  have HF0 : Hid (Fr (fun _ => False) w w0) := F0
  have B0 := HB.out.fresh F0
  have HB0 : Hid (PB w0 A m f e K i t fm g j gp pi p) := B0
  clear F0 c1 c2 c3 c4 c5 c6 c7 c8
  clear B0
  go_wp2_with fail
  refine (vpop_any HB0.out.rep HI.out HS.out (by have := HSN.out; rw [HS.out] at this; simp at this; omega)).mono ?_
  rintro e' w1 ⟨rfl, z1, z2⟩
  obtain ⟨g2, a1, a2, a3, a4, a5, a6⟩ := (z1.one (setTh_get HI.out) HX.out).s.at vCells_len (show r[fm.base + x]? = some u from HU.out)
  dsimp only at a1
  rw [HSA.out, ga] at a1
  cases a1
  have e3 : (fm.base + x) * 3 = fm.base * 3 + x * 3 := by omega
  have HE3 : Hid ((fm.base + x) * 3 = fm.base * 3 + x * 3) := e3
  rw [e3] at a5
  have u0 := a5 0 (by omega)
  have u1 := a5 1 (by omega)
  have u2 := a5 2 (by omega)
  simp only [vCells, List.getElem?_cons_succ, List.getElem?_cons_zero, Nat.add_zero] at u0 u1 u2
  have y0 := a6 (fm.base * 3 + x * 3)
  have y1 := a6 (fm.base * 3 + x * 3 + 1)
  have y2 := a6 (fm.base * 3 + x * 3 + 2)
  obtain ⟨s1, s2⟩ := z1.setVal (setTh_get HI.out) HX.out (show l.s.a = some ⟨gs, 0, none⟩ by rw [HSA.out, ga]) (show r[fm.base + x]? = some u from HU.out) b
  rw [e3, setTh_setTh] at s1
  rw [e3] at s2
  have FIN : Hid (Q (.returned (.tuple #[])) (((w1.setCell ⟨gs, fm.base * 3 + x * 3, none⟩ (.int .i64 b.t)).setCell ⟨gs, fm.base * 3 + x * 3 + 1, none⟩ (.int .u64 b.n)).setCell ⟨gs, fm.base * 3 + x * 3 + 2, none⟩ (sv b.s))) := by
    rw [← HQ.out, HOP.out]
    exact ⟨rfl, A, s1, (VSt.fresh HF0.out).trans ((z2.trans s2).weaken (fun k hk => by unfold isVM; unfold isT at hk; omega)), FK.refl _ _⟩
  clear z1 z2 s1 s2 a2 a3 a5 a6 e3
  obtain ⟨bt, bn, bs⟩ := b
  obtain ⟨ut, un, us⟩ := u
  go_wp2_with fail
  go_end0
  exact FIN.out
end
end Go.Proofs.Qxb6500574aGreatDoor
