/-
  THE WALK of vm: plain: the loops.
-/
import Derived.Test.Qxb6500574aGreatDoorVPl0
import Derived.Test.Qxb6500574aGreatDoorVFor2
import Derived.Test.Qxb6500574aGreatDoorVPl6
namespace Go.Proofs.Qxb6500574aGreatDoor
open Go Go.RowKit
set_option linter.unusedVariables false
set_option linter.unusedSimpArgs false
section
variable {w : World} {A : VL} {m : VMD} {f e i g j gp pi : Nat} {t : ThD} {K : Cx} {fm : FmD} {p : PrD}
set_option maxRecDepth 100000
set_option maxHeartbeats 400000
theorem plain_30 (h : PB w A m f e K i t fm g j gp pi p) {x : Nat} (hx16 : x < 65536) (hxs : x + 3 < p.ns) :
    Calls Tryz.prog 269 #[.pointer (some ⟨A.b, 0, none⟩), .int .i64 i, .pointer (some ⟨A.bT, i * 5, none⟩), .pointer (some ⟨g, j * 5, none⟩), .pointer (some ⟨gp, pi * 8, none⟩), .int .u8 30, .int .i64 x] w (PlPost (plainP m i 30 x) w A f e i) := by
  have hop : plainP m i 30 x = forP m i 30 (fm.base + x) := by
    unfold plainP
    simp (config := { decide := true }) only [if_true, if_false]
    rw [h.at'.topF]
  obtain ⟨Q, HQ⟩ : ∃ Q : Ending → World → Prop, Hid (PlPost (plainP m i 30 x) w A f e i = Q) := ⟨_, rfl⟩
  rw [HQ.out]
  have HOP : Hid (plainP m i 30 x = _) := hop
  clear hop
  have HI : Hid (m.ths[i]? = some t) := h.at'.hi
  have HB : Hid (PB w A m f e K i t fm g j gp pi p) := h
  obtain ⟨l, hx, hg, c1, c2, c3, c4, c5, c6, c7, c8, c9, c10, c11, c12⟩ := h.cells
  have HX : Hid (A.X[i]? = some l) := hx
  have HG : Hid (l.f.a = some ⟨g, 0, none⟩) := hg
  have HSN : Hid (t.stack.length ≤ 1120) := c11
  obtain ⟨sa, HSA⟩ : ∃ sa, Hid (l.s.a = sa) := ⟨_, rfl⟩
  obtain ⟨sc, HSC⟩ : ∃ sc, Hid (l.s.c = sc) := ⟨_, rfl⟩
  rw [HSA.out, HSC.out] at c1
  rw [HSC.out] at c9
  obtain ⟨n, HN⟩ : ∃ n, Hid (t.stack.length = n) := ⟨_, rfl⟩
  rw [HN.out] at c1 c9 c10 c11
  clear h hx hg
  go_enter Tryz.func269, Tryz.ntmps269
  go_wp2_with fail
  go_quiet (fail)
  obtain ⟨gs, ga, gl⟩ : ∃ gs, sa = some ⟨gs, 0, none⟩ ∧ gs < w.heap.size := by
    obtain ⟨q, q1, _, _, q4, _⟩ := ((HB.out.rep.one HI.out HX.out).s).cells (by dsimp only; rw [HN.out]; omega)
    exact ⟨q, by rw [← HSA.out]; exact q1, q4⟩
  have hSL : Value.slice (Option.map (fun x => x.add (fm.base * 3)) sa) (fm.base + p.ns - fm.base) (sc - fm.base) = Value.slice (some ⟨gs, fm.base * 3, none⟩) p.ns (sc - fm.base) := by
    rw [ga, show fm.base + p.ns - fm.base = p.ns by omega]
    simp [Addr.add]
    omega
  rw [hSL]
  clear hSL
  have F0 : Fr (fun _ => False) w (w.drewN nq) := (Fr.refl _ _).drewN nq
  obtain ⟨w0, HW0⟩ : ∃ w0, Hid (w.drewN nq = w0) := ⟨_, rfl⟩
  rw [HW0.out] at F0 ⊢
  have HF0 : Hid (Fr (fun _ => False) w w0) := F0
  have B0 := HB.out.fresh F0
  have HB0 : Hid (PB w0 A m f e K i t fm g j gp pi p) := B0
  clear F0 c1 c2 c3 c4 c5 c6 c7 c8
  have hst := c10
  rw [← HN.out] at hst
  obtain ⟨v0, a0⟩ : ∃ v, t.stack[fm.base + x]? = some v := ⟨t.stack[fm.base + x]'(by omega), by simp⟩
  obtain ⟨v1, a1⟩ : ∃ v, t.stack[fm.base + x + 1]? = some v := ⟨t.stack[fm.base + x + 1]'(by omega), by simp⟩
  obtain ⟨v2, a2⟩ : ∃ v, t.stack[fm.base + x + 2]? = some v := ⟨t.stack[fm.base + x + 2]'(by omega), by simp⟩
  obtain ⟨v3, a3⟩ : ∃ v, t.stack[fm.base + x + 3]? = some v := ⟨t.stack[fm.base + x + 3]'(by omega), by simp⟩
  have HFO : Hid (Fo w0 A m f e i t l gs (fm.base + x) K v0 v1 v2 v3) := ⟨B0.rep, HI.out, HX.out, by rw [HSA.out, ga], a0, a1, a2, a3, B0.at'.ok.sv _ (List.mem_of_getElem? a0), B0.at'.ok.sv _ (List.mem_of_getElem? a1), B0.at'.ok.sv _ (List.mem_of_getElem? a2), B0.at'.vi, HSN.out⟩
  clear a0 a1 a2 a3 B0 hst
  go_wp2_with fail
  have CALL := for_30 (cap := sc - fm.base - x) HFO.out (by omega)
  rw [show (fm.base + x) * 3 = fm.base * 3 + x * 3 by omega] at CALL
  refine CALL.mono ?_
  clear CALL
  intro e' wz hz
  have FIN : Hid (Q e' wz) := by
    rw [← HQ.out, HOP.out]
    exact PlPost.pre (VSt.fresh HF0.out) (FK.refl _ _) hz
  rcases hz.ends with rfl | ⟨ch, rfl⟩
  · clear hz
    go_wp2_with fail
    go_end0
    exact FIN.out
  · exact ⟨rfl, FIN.out⟩
theorem plain_31 (h : PB w A m f e K i t fm g j gp pi p) {x : Nat} (hx16 : x < 65536) (hxs : x + 3 < p.ns) :
    Calls Tryz.prog 269 #[.pointer (some ⟨A.b, 0, none⟩), .int .i64 i, .pointer (some ⟨A.bT, i * 5, none⟩), .pointer (some ⟨g, j * 5, none⟩), .pointer (some ⟨gp, pi * 8, none⟩), .int .u8 31, .int .i64 x] w (PlPost (plainP m i 31 x) w A f e i) := by
  have hop : plainP m i 31 x = forP m i 31 (fm.base + x) := by
    unfold plainP
    simp (config := { decide := true }) only [if_true, if_false]
    rw [h.at'.topF]
  obtain ⟨Q, HQ⟩ : ∃ Q : Ending → World → Prop, Hid (PlPost (plainP m i 31 x) w A f e i = Q) := ⟨_, rfl⟩
  rw [HQ.out]
  have HOP : Hid (plainP m i 31 x = _) := hop
  clear hop
  have HI : Hid (m.ths[i]? = some t) := h.at'.hi
  have HB : Hid (PB w A m f e K i t fm g j gp pi p) := h
  obtain ⟨l, hx, hg, c1, c2, c3, c4, c5, c6, c7, c8, c9, c10, c11, c12⟩ := h.cells
  have HX : Hid (A.X[i]? = some l) := hx
  have HG : Hid (l.f.a = some ⟨g, 0, none⟩) := hg
  have HSN : Hid (t.stack.length ≤ 1120) := c11
  obtain ⟨sa, HSA⟩ : ∃ sa, Hid (l.s.a = sa) := ⟨_, rfl⟩
  obtain ⟨sc, HSC⟩ : ∃ sc, Hid (l.s.c = sc) := ⟨_, rfl⟩
  rw [HSA.out, HSC.out] at c1
  rw [HSC.out] at c9
  obtain ⟨n, HN⟩ : ∃ n, Hid (t.stack.length = n) := ⟨_, rfl⟩
  rw [HN.out] at c1 c9 c10 c11
  clear h hx hg
  go_enter Tryz.func269, Tryz.ntmps269
  go_wp2_with fail
  go_quiet (fail)
  obtain ⟨gs, ga, gl⟩ : ∃ gs, sa = some ⟨gs, 0, none⟩ ∧ gs < w.heap.size := by
    obtain ⟨q, q1, _, _, q4, _⟩ := ((HB.out.rep.one HI.out HX.out).s).cells (by dsimp only; rw [HN.out]; omega)
    exact ⟨q, by rw [← HSA.out]; exact q1, q4⟩
  have hSL : Value.slice (Option.map (fun x => x.add (fm.base * 3)) sa) (fm.base + p.ns - fm.base) (sc - fm.base) = Value.slice (some ⟨gs, fm.base * 3, none⟩) p.ns (sc - fm.base) := by
    rw [ga, show fm.base + p.ns - fm.base = p.ns by omega]
    simp [Addr.add]
    omega
  rw [hSL]
  clear hSL
  have F0 : Fr (fun _ => False) w (w.drewN nq) := (Fr.refl _ _).drewN nq
  obtain ⟨w0, HW0⟩ : ∃ w0, Hid (w.drewN nq = w0) := ⟨_, rfl⟩
  rw [HW0.out] at F0 ⊢
  have HF0 : Hid (Fr (fun _ => False) w w0) := F0
  have B0 := HB.out.fresh F0
  have HB0 : Hid (PB w0 A m f e K i t fm g j gp pi p) := B0
  clear F0 c1 c2 c3 c4 c5 c6 c7 c8
  have hst := c10
  rw [← HN.out] at hst
  obtain ⟨v0, a0⟩ : ∃ v, t.stack[fm.base + x]? = some v := ⟨t.stack[fm.base + x]'(by omega), by simp⟩
  obtain ⟨v1, a1⟩ : ∃ v, t.stack[fm.base + x + 1]? = some v := ⟨t.stack[fm.base + x + 1]'(by omega), by simp⟩
  obtain ⟨v2, a2⟩ : ∃ v, t.stack[fm.base + x + 2]? = some v := ⟨t.stack[fm.base + x + 2]'(by omega), by simp⟩
  obtain ⟨v3, a3⟩ : ∃ v, t.stack[fm.base + x + 3]? = some v := ⟨t.stack[fm.base + x + 3]'(by omega), by simp⟩
  have HFO : Hid (Fo w0 A m f e i t l gs (fm.base + x) K v0 v1 v2 v3) := ⟨B0.rep, HI.out, HX.out, by rw [HSA.out, ga], a0, a1, a2, a3, B0.at'.ok.sv _ (List.mem_of_getElem? a0), B0.at'.ok.sv _ (List.mem_of_getElem? a1), B0.at'.ok.sv _ (List.mem_of_getElem? a2), B0.at'.vi, HSN.out⟩
  clear a0 a1 a2 a3 B0 hst
  go_wp2_with fail
  have CALL := for_31 (cap := sc - fm.base - x) HFO.out (by omega)
  rw [show (fm.base + x) * 3 = fm.base * 3 + x * 3 by omega] at CALL
  refine CALL.mono ?_
  clear CALL
  intro e' wz hz
  have FIN : Hid (Q e' wz) := by
    rw [← HQ.out, HOP.out]
    exact PlPost.pre (VSt.fresh HF0.out) (FK.refl _ _) hz
  rcases hz.ends with rfl | ⟨ch, rfl⟩
  · clear hz
    go_wp2_with fail
    go_end0
    exact FIN.out
  · exact ⟨rfl, FIN.out⟩
theorem plain_32 (h : PB w A m f e K i t fm g j gp pi p) {x : Nat} (hx16 : x < 65536) (hxs : x + 3 < p.ns) :
    Calls Tryz.prog 269 #[.pointer (some ⟨A.b, 0, none⟩), .int .i64 i, .pointer (some ⟨A.bT, i * 5, none⟩), .pointer (some ⟨g, j * 5, none⟩), .pointer (some ⟨gp, pi * 8, none⟩), .int .u8 32, .int .i64 x] w (PlPost (plainP m i 32 x) w A f e i) := by
  have hop : plainP m i 32 x = forP m i 32 (fm.base + x) := by
    unfold plainP
    simp (config := { decide := true }) only [if_true, if_false]
    rw [h.at'.topF]
  obtain ⟨Q, HQ⟩ : ∃ Q : Ending → World → Prop, Hid (PlPost (plainP m i 32 x) w A f e i = Q) := ⟨_, rfl⟩
  rw [HQ.out]
  have HOP : Hid (plainP m i 32 x = _) := hop
  clear hop
  have HI : Hid (m.ths[i]? = some t) := h.at'.hi
  have HB : Hid (PB w A m f e K i t fm g j gp pi p) := h
  obtain ⟨l, hx, hg, c1, c2, c3, c4, c5, c6, c7, c8, c9, c10, c11, c12⟩ := h.cells
  have HX : Hid (A.X[i]? = some l) := hx
  have HG : Hid (l.f.a = some ⟨g, 0, none⟩) := hg
  have HSN : Hid (t.stack.length ≤ 1120) := c11
  obtain ⟨sa, HSA⟩ : ∃ sa, Hid (l.s.a = sa) := ⟨_, rfl⟩
  obtain ⟨sc, HSC⟩ : ∃ sc, Hid (l.s.c = sc) := ⟨_, rfl⟩
  rw [HSA.out, HSC.out] at c1
  rw [HSC.out] at c9
  obtain ⟨n, HN⟩ : ∃ n, Hid (t.stack.length = n) := ⟨_, rfl⟩
  rw [HN.out] at c1 c9 c10 c11
  clear h hx hg
  go_enter Tryz.func269, Tryz.ntmps269
  go_wp2_with fail
  go_quiet (fail)
  obtain ⟨gs, ga, gl⟩ : ∃ gs, sa = some ⟨gs, 0, none⟩ ∧ gs < w.heap.size := by
    obtain ⟨q, q1, _, _, q4, _⟩ := ((HB.out.rep.one HI.out HX.out).s).cells (by dsimp only; rw [HN.out]; omega)
    exact ⟨q, by rw [← HSA.out]; exact q1, q4⟩
  have hSL : Value.slice (Option.map (fun x => x.add (fm.base * 3)) sa) (fm.base + p.ns - fm.base) (sc - fm.base) = Value.slice (some ⟨gs, fm.base * 3, none⟩) p.ns (sc - fm.base) := by
    rw [ga, show fm.base + p.ns - fm.base = p.ns by omega]
    simp [Addr.add]
    omega
  rw [hSL]
  clear hSL
  have F0 : Fr (fun _ => False) w (w.drewN nq) := (Fr.refl _ _).drewN nq
  obtain ⟨w0, HW0⟩ : ∃ w0, Hid (w.drewN nq = w0) := ⟨_, rfl⟩
  rw [HW0.out] at F0 ⊢
  have HF0 : Hid (Fr (fun _ => False) w w0) := F0
  have B0 := HB.out.fresh F0
  have HB0 : Hid (PB w0 A m f e K i t fm g j gp pi p) := B0
  clear F0 c1 c2 c3 c4 c5 c6 c7 c8
  have hst := c10
  rw [← HN.out] at hst
  obtain ⟨v0, a0⟩ : ∃ v, t.stack[fm.base + x]? = some v := ⟨t.stack[fm.base + x]'(by omega), by simp⟩
  obtain ⟨v1, a1⟩ : ∃ v, t.stack[fm.base + x + 1]? = some v := ⟨t.stack[fm.base + x + 1]'(by omega), by simp⟩
  obtain ⟨v2, a2⟩ : ∃ v, t.stack[fm.base + x + 2]? = some v := ⟨t.stack[fm.base + x + 2]'(by omega), by simp⟩
  obtain ⟨v3, a3⟩ : ∃ v, t.stack[fm.base + x + 3]? = some v := ⟨t.stack[fm.base + x + 3]'(by omega), by simp⟩
  have HFO : Hid (Fo w0 A m f e i t l gs (fm.base + x) K v0 v1 v2 v3) := ⟨B0.rep, HI.out, HX.out, by rw [HSA.out, ga], a0, a1, a2, a3, B0.at'.ok.sv _ (List.mem_of_getElem? a0), B0.at'.ok.sv _ (List.mem_of_getElem? a1), B0.at'.ok.sv _ (List.mem_of_getElem? a2), B0.at'.vi, HSN.out⟩
  clear a0 a1 a2 a3 B0 hst
  go_wp2_with fail
  have CALL := for_32 (cap := sc - fm.base - x) HFO.out (by omega)
  rw [show (fm.base + x) * 3 = fm.base * 3 + x * 3 by omega] at CALL
  refine CALL.mono ?_
  clear CALL
  intro e' wz hz
  have FIN : Hid (Q e' wz) := by
    rw [← HQ.out, HOP.out]
    exact PlPost.pre (VSt.fresh HF0.out) (FK.refl _ _) hz
  rcases hz.ends with rfl | ⟨ch, rfl⟩
  · clear hz
    go_wp2_with fail
    go_end0
    exact FIN.out
  · exact ⟨rfl, FIN.out⟩
end
end Go.Proofs.Qxb6500574aGreatDoor
