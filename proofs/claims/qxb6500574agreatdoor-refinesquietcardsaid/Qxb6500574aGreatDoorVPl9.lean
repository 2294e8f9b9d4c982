/-
  THE WALK of vm: plain: operators.
-/
import Derived.Test.Qxb6500574aGreatDoorVPl0
import Derived.Test.Qxb6500574aGreatDoorVPl6
import Derived.Test.Qxb6500574aGreatDoorVLawN
namespace Go.Proofs.Qxb6500574aGreatDoor
open Go Go.RowKit
set_option linter.unusedVariables false
set_option linter.unusedSimpArgs false
section
variable {w : World} {A : VL} {m : VMD} {f e i g j gp pi : Nat} {t : ThD} {K : Cx} {fm : FmD} {p : PrD}
set_option maxRecDepth 100000
set_option maxHeartbeats 400000
theorem plain_15 (h : PB w A m f e K i t fm g j gp pi p) {x : Nat} (hx16 : x < 65536) {r : List Vl} {a b : Vl} (hs : t.stack = r ++ [a, b]) (hx6 : 1 ≤ x ∧ x ≤ 6) :
    Calls Tryz.prog 269 #[.pointer (some ⟨A.b, 0, none⟩), .int .i64 i, .pointer (some ⟨A.bT, i * 5, none⟩), .pointer (some ⟨g, j * 5, none⟩), .pointer (some ⟨gp, pi * 8, none⟩), .int .u8 15, .int .i64 x] w (PlPost (plainP m i 15 x) w A f e i) := by
  have hop : plainP m i 15 x = operP m i 15 x := by
    unfold plainP
    simp (config := { decide := true }) only [if_true, if_false]
  obtain ⟨Q, HQ⟩ : ∃ Q : Ending → World → Prop, Hid (PlPost (plainP m i 15 x) w A f e i = Q) := ⟨_, rfl⟩
  rw [HQ.out]
  have HOP : Hid (plainP m i 15 x = _) := hop
  clear hop
  have HI : Hid (m.ths[i]? = some t) := h.at'.hi
  have HB : Hid (PB w A m f e K i t fm g j gp pi p) := h
  have HS : Hid (t.stack = r ++ [a, b]) := hs
  have HVA : Hid (VOk K a) := h.at'.ok.sv a (by rw [hs]; simp)
  have HVB : Hid (VOk K b) := h.at'.ok.sv b (by rw [hs]; simp)
  have HX6 : Hid (1 ≤ x ∧ x ≤ 6) := hx6
  clear hx6
  clear hs
  obtain ⟨l, hx, hg, c1, c2, c3, c4, c5, c6, c7, c8, c9, c10, c11, c12⟩ := h.cells
  have HX : Hid (A.X[i]? = some l) := hx
  have HG : Hid (l.f.a = some ⟨g, 0, none⟩) := hg
  have HSN : Hid (t.stack.length ≤ 1120) := c11
  obtain ⟨sa, HSA⟩ : ∃ sa, Hid (l.s.a = sa) := ⟨_, rfl⟩
  obtain ⟨sc, HSC⟩ : ∃ sc, Hid (l.s.c = sc) := ⟨_, rfl⟩
  rw [HSA.out, HSC.out] at c1
  rw [HSC.out] at c9
  obtain ⟨n, HN⟩ : ∃ n, Hid (t.stack.length = n) := ⟨_, rfl⟩
  rw [HN.out] at c1 c9 c10 c11
  clear h hx hg
  go_enter Tryz.func269, Tryz.ntmps269
  go_wp2_with fail
  go_quiet (fail)
  obtain ⟨SL, HSL⟩ : ∃ v, Hid (Value.slice (if sc = fm.base then sa else Option.map (fun x => x.add (fm.base * 3)) sa) (fm.base + p.ns - fm.base) (sc - fm.base) = v) := ⟨_, rfl⟩
  rw [HSL.out]
  have F0 : Fr (fun _ => False) w (w.drewN nq) := (Fr.refl _ _).drewN nq
  obtain ⟨w0, HW0⟩ : ∃ w0, Hid (w.drewN nq = w0) := ⟨_, rfl⟩
  rw [HW0.out] at F0 ⊢
  have HF0 : Hid (Fr (fun _ => False) w w0) := F0
  have B0 := HB.out.fresh F0
  have HB0 : Hid (PB w0 A m f e K i t fm g j gp pi p) := B0
  clear F0 c1 c2 c3 c4 c5 c6 c7 c8
  clear B0
  have CALL := oper_15 HB0.out.rep HI.out HS.out (by have := HSN.out; rw [HS.out] at this; simp at this; omega) x HX6.out
  go_wp2_with fail
  refine CALL.mono ?_
  clear CALL
  intro e' wz hz
  have FIN : Hid (Q e' wz) := by
    rw [← HQ.out, HOP.out]
    exact PlPost.pre (VSt.fresh HF0.out) (FK.refl _ _) hz
  rcases hz.ends with rfl | ⟨ch, rfl⟩
  · clear hz
    go_wp2_with fail
    go_end0
    exact FIN.out
  · exact ⟨rfl, FIN.out⟩
theorem plain_16 (h : PB w A m f e K i t fm g j gp pi p) {x : Nat} (hx16 : x < 65536) {r : List Vl} {a b : Vl} (hs : t.stack = r ++ [a, b]) (hx6 : 1 ≤ x ∧ x ≤ 6) :
    Calls Tryz.prog 269 #[.pointer (some ⟨A.b, 0, none⟩), .int .i64 i, .pointer (some ⟨A.bT, i * 5, none⟩), .pointer (some ⟨g, j * 5, none⟩), .pointer (some ⟨gp, pi * 8, none⟩), .int .u8 16, .int .i64 x] w (PlPost (plainP m i 16 x) w A f e i) := by
  have hop : plainP m i 16 x = operP m i 16 x := by
    unfold plainP
    simp (config := { decide := true }) only [if_true, if_false]
  obtain ⟨Q, HQ⟩ : ∃ Q : Ending → World → Prop, Hid (PlPost (plainP m i 16 x) w A f e i = Q) := ⟨_, rfl⟩
  rw [HQ.out]
  have HOP : Hid (plainP m i 16 x = _) := hop
  clear hop
  have HI : Hid (m.ths[i]? = some t) := h.at'.hi
  have HB : Hid (PB w A m f e K i t fm g j gp pi p) := h
  have HS : Hid (t.stack = r ++ [a, b]) := hs
  have HVA : Hid (VOk K a) := h.at'.ok.sv a (by rw [hs]; simp)
  have HVB : Hid (VOk K b) := h.at'.ok.sv b (by rw [hs]; simp)
  have HX6 : Hid (1 ≤ x ∧ x ≤ 6) := hx6
  clear hx6
  clear hs
  obtain ⟨l, hx, hg, c1, c2, c3, c4, c5, c6, c7, c8, c9, c10, c11, c12⟩ := h.cells
  have HX : Hid (A.X[i]? = some l) := hx
  have HG : Hid (l.f.a = some ⟨g, 0, none⟩) := hg
  have HSN : Hid (t.stack.length ≤ 1120) := c11
  obtain ⟨sa, HSA⟩ : ∃ sa, Hid (l.s.a = sa) := ⟨_, rfl⟩
  obtain ⟨sc, HSC⟩ : ∃ sc, Hid (l.s.c = sc) := ⟨_, rfl⟩
  rw [HSA.out, HSC.out] at c1
  rw [HSC.out] at c9
  obtain ⟨n, HN⟩ : ∃ n, Hid (t.stack.length = n) := ⟨_, rfl⟩
  rw [HN.out] at c1 c9 c10 c11
  clear h hx hg
  go_enter Tryz.func269, Tryz.ntmps269
  go_wp2_with fail
  go_quiet (fail)
  obtain ⟨SL, HSL⟩ : ∃ v, Hid (Value.slice (if sc = fm.base then sa else Option.map (fun x => x.add (fm.base * 3)) sa) (fm.base + p.ns - fm.base) (sc - fm.base) = v) := ⟨_, rfl⟩
  rw [HSL.out]
  have F0 : Fr (fun _ => False) w (w.drewN nq) := (Fr.refl _ _).drewN nq
  obtain ⟨w0, HW0⟩ : ∃ w0, Hid (w.drewN nq = w0) := ⟨_, rfl⟩
  rw [HW0.out] at F0 ⊢
  have HF0 : Hid (Fr (fun _ => False) w w0) := F0
  have B0 := HB.out.fresh F0
  have HB0 : Hid (PB w0 A m f e K i t fm g j gp pi p) := B0
  clear F0 c1 c2 c3 c4 c5 c6 c7 c8
  clear B0
  have CALL := oper_16 HB0.out.rep HI.out HS.out (by have := HSN.out; rw [HS.out] at this; simp at this; omega) x HX6.out
  go_wp2_with fail
  refine CALL.mono ?_
  clear CALL
  intro e' wz hz
  have FIN : Hid (Q e' wz) := by
    rw [← HQ.out, HOP.out]
    exact PlPost.pre (VSt.fresh HF0.out) (FK.refl _ _) hz
  rcases hz.ends with rfl | ⟨ch, rfl⟩
  · clear hz
    go_wp2_with fail
    go_end0
    exact FIN.out
  · exact ⟨rfl, FIN.out⟩
theorem plain_17 (h : PB w A m f e K i t fm g j gp pi p) {x : Nat} (hx16 : x < 65536) {r : List Vl} {a b : Vl} (hs : t.stack = r ++ [a, b]) :
    Calls Tryz.prog 269 #[.pointer (some ⟨A.b, 0, none⟩), .int .i64 i, .pointer (some ⟨A.bT, i * 5, none⟩), .pointer (some ⟨g, j * 5, none⟩), .pointer (some ⟨gp, pi * 8, none⟩), .int .u8 17, .int .i64 x] w (PlPost (plainP m i 17 x) w A f e i) := by
  have hop : plainP m i 17 x = operP m i 17 x := by
    unfold plainP
    simp (config := { decide := true }) only [if_true, if_false]
  obtain ⟨Q, HQ⟩ : ∃ Q : Ending → World → Prop, Hid (PlPost (plainP m i 17 x) w A f e i = Q) := ⟨_, rfl⟩
  rw [HQ.out]
  have HOP : Hid (plainP m i 17 x = _) := hop
  clear hop
  have HI : Hid (m.ths[i]? = some t) := h.at'.hi
  have HB : Hid (PB w A m f e K i t fm g j gp pi p) := h
  have HS : Hid (t.stack = r ++ [a, b]) := hs
  have HVA : Hid (VOk K a) := h.at'.ok.sv a (by rw [hs]; simp)
  have HVB : Hid (VOk K b) := h.at'.ok.sv b (by rw [hs]; simp)
  clear hs
  obtain ⟨l, hx, hg, c1, c2, c3, c4, c5, c6, c7, c8, c9, c10, c11, c12⟩ := h.cells
  have HX : Hid (A.X[i]? = some l) := hx
  have HG : Hid (l.f.a = some ⟨g, 0, none⟩) := hg
  have HSN : Hid (t.stack.length ≤ 1120) := c11
  obtain ⟨sa, HSA⟩ : ∃ sa, Hid (l.s.a = sa) := ⟨_, rfl⟩
  obtain ⟨sc, HSC⟩ : ∃ sc, Hid (l.s.c = sc) := ⟨_, rfl⟩
  rw [HSA.out, HSC.out] at c1
  rw [HSC.out] at c9
  obtain ⟨n, HN⟩ : ∃ n, Hid (t.stack.length = n) := ⟨_, rfl⟩
  rw [HN.out] at c1 c9 c10 c11
  clear h hx hg
  go_enter Tryz.func269, Tryz.ntmps269
  go_wp2_with fail
  go_quiet (fail)
  obtain ⟨SL, HSL⟩ : ∃ v, Hid (Value.slice (if sc = fm.base then sa else Option.map (fun x => x.add (fm.base * 3)) sa) (fm.base + p.ns - fm.base) (sc - fm.base) = v) := ⟨_, rfl⟩
  rw [HSL.out]
  have F0 : Fr (fun _ => False) w (w.drewN nq) := (Fr.refl _ _).drewN nq
  obtain ⟨w0, HW0⟩ : ∃ w0, Hid (w.drewN nq = w0) := ⟨_, rfl⟩
  rw [HW0.out] at F0 ⊢
  have HF0 : Hid (Fr (fun _ => False) w w0) := F0
  have B0 := HB.out.fresh F0
  have HB0 : Hid (PB w0 A m f e K i t fm g j gp pi p) := B0
  clear F0 c1 c2 c3 c4 c5 c6 c7 c8
  clear B0
  have CALL := oper_17 HB0.out.rep HI.out HS.out (by have := HSN.out; rw [HS.out] at this; simp at this; omega) HVA.out.w HVA.out.b HVB.out.w HVB.out.b (text_len HVA.out) (text_len HVB.out) x
  go_wp2_with fail
  refine CALL.mono ?_
  clear CALL
  intro e' wz hz
  have FIN : Hid (Q e' wz) := by
    rw [← HQ.out, HOP.out]
    exact PlPost.pre (VSt.fresh HF0.out) (FK.refl _ _) hz
  rcases hz.ends with rfl | ⟨ch, rfl⟩
  · clear hz
    go_wp2_with fail
    go_end0
    exact FIN.out
  · exact ⟨rfl, FIN.out⟩
theorem plain_18 (h : PB w A m f e K i t fm g j gp pi p) {x : Nat} (hx16 : x < 65536) {r : List Vl} {b : Vl} (hs : t.stack = r ++ [b]) :
    Calls Tryz.prog 269 #[.pointer (some ⟨A.b, 0, none⟩), .int .i64 i, .pointer (some ⟨A.bT, i * 5, none⟩), .pointer (some ⟨g, j * 5, none⟩), .pointer (some ⟨gp, pi * 8, none⟩), .int .u8 18, .int .i64 x] w (PlPost (plainP m i 18 x) w A f e i) := by
  have hop : plainP m i 18 x = operP m i 18 x := by
    unfold plainP
    simp (config := { decide := true }) only [if_true, if_false]
  obtain ⟨Q, HQ⟩ : ∃ Q : Ending → World → Prop, Hid (PlPost (plainP m i 18 x) w A f e i = Q) := ⟨_, rfl⟩
  rw [HQ.out]
  have HOP : Hid (plainP m i 18 x = _) := hop
  clear hop
  have HI : Hid (m.ths[i]? = some t) := h.at'.hi
  have HB : Hid (PB w A m f e K i t fm g j gp pi p) := h
  have HS : Hid (t.stack = r ++ [b]) := hs
  have HVB : Hid (VOk K b) := h.at'.ok.sv b (by rw [hs]; simp)
  clear hs
  obtain ⟨l, hx, hg, c1, c2, c3, c4, c5, c6, c7, c8, c9, c10, c11, c12⟩ := h.cells
  have HX : Hid (A.X[i]? = some l) := hx
  have HG : Hid (l.f.a = some ⟨g, 0, none⟩) := hg
  have HSN : Hid (t.stack.length ≤ 1120) := c11
  obtain ⟨sa, HSA⟩ : ∃ sa, Hid (l.s.a = sa) := ⟨_, rfl⟩
  obtain ⟨sc, HSC⟩ : ∃ sc, Hid (l.s.c = sc) := ⟨_, rfl⟩
  rw [HSA.out, HSC.out] at c1
  rw [HSC.out] at c9
  obtain ⟨n, HN⟩ : ∃ n, Hid (t.stack.length = n) := ⟨_, rfl⟩
  rw [HN.out] at c1 c9 c10 c11
  clear h hx hg
  go_enter Tryz.func269, Tryz.ntmps269
  go_wp2_with fail
  go_quiet (fail)
  obtain ⟨SL, HSL⟩ : ∃ v, Hid (Value.slice (if sc = fm.base then sa else Option.map (fun x => x.add (fm.base * 3)) sa) (fm.base + p.ns - fm.base) (sc - fm.base) = v) := ⟨_, rfl⟩
  rw [HSL.out]
  have F0 : Fr (fun _ => False) w (w.drewN nq) := (Fr.refl _ _).drewN nq
  obtain ⟨w0, HW0⟩ : ∃ w0, Hid (w.drewN nq = w0) := ⟨_, rfl⟩
  rw [HW0.out] at F0 ⊢
  have HF0 : Hid (Fr (fun _ => False) w w0) := F0
  have B0 := HB.out.fresh F0
  have HB0 : Hid (PB w0 A m f e K i t fm g j gp pi p) := B0
  clear F0 c1 c2 c3 c4 c5 c6 c7 c8
  clear B0
  have CALL := oper_18 HB0.out.rep HI.out HS.out (by have := HSN.out; rw [HS.out] at this; simp at this; omega) x
  go_wp2_with fail
  refine CALL.mono ?_
  clear CALL
  intro e' wz hz
  have FIN : Hid (Q e' wz) := by
    rw [← HQ.out, HOP.out]
    exact PlPost.pre (VSt.fresh HF0.out) (FK.refl _ _) hz
  rcases hz.ends with rfl | ⟨ch, rfl⟩
  · clear hz
    go_wp2_with fail
    go_end0
    exact FIN.out
  · exact ⟨rfl, FIN.out⟩
theorem plain_19 (h : PB w A m f e K i t fm g j gp pi p) {x : Nat} (hx16 : x < 65536) {r : List Vl} {b : Vl} (hs : t.stack = r ++ [b]) :
    Calls Tryz.prog 269 #[.pointer (some ⟨A.b, 0, none⟩), .int .i64 i, .pointer (some ⟨A.bT, i * 5, none⟩), .pointer (some ⟨g, j * 5, none⟩), .pointer (some ⟨gp, pi * 8, none⟩), .int .u8 19, .int .i64 x] w (PlPost (plainP m i 19 x) w A f e i) := by
  have hop : plainP m i 19 x = operP m i 19 x := by
    unfold plainP
    simp (config := { decide := true }) only [if_true, if_false]
  obtain ⟨Q, HQ⟩ : ∃ Q : Ending → World → Prop, Hid (PlPost (plainP m i 19 x) w A f e i = Q) := ⟨_, rfl⟩
  rw [HQ.out]
  have HOP : Hid (plainP m i 19 x = _) := hop
  clear hop
  have HI : Hid (m.ths[i]? = some t) := h.at'.hi
  have HB : Hid (PB w A m f e K i t fm g j gp pi p) := h
  have HS : Hid (t.stack = r ++ [b]) := hs
  have HVB : Hid (VOk K b) := h.at'.ok.sv b (by rw [hs]; simp)
  clear hs
  obtain ⟨l, hx, hg, c1, c2, c3, c4, c5, c6, c7, c8, c9, c10, c11, c12⟩ := h.cells
  have HX : Hid (A.X[i]? = some l) := hx
  have HG : Hid (l.f.a = some ⟨g, 0, none⟩) := hg
  have HSN : Hid (t.stack.length ≤ 1120) := c11
  obtain ⟨sa, HSA⟩ : ∃ sa, Hid (l.s.a = sa) := ⟨_, rfl⟩
  obtain ⟨sc, HSC⟩ : ∃ sc, Hid (l.s.c = sc) := ⟨_, rfl⟩
  rw [HSA.out, HSC.out] at c1
  rw [HSC.out] at c9
  obtain ⟨n, HN⟩ : ∃ n, Hid (t.stack.length = n) := ⟨_, rfl⟩
  rw [HN.out] at c1 c9 c10 c11
  clear h hx hg
  go_enter Tryz.func269, Tryz.ntmps269
  go_wp2_with fail
  go_quiet (fail)
  obtain ⟨SL, HSL⟩ : ∃ v, Hid (Value.slice (if sc = fm.base then sa else Option.map (fun x => x.add (fm.base * 3)) sa) (fm.base + p.ns - fm.base) (sc - fm.base) = v) := ⟨_, rfl⟩
  rw [HSL.out]
  have F0 : Fr (fun _ => False) w (w.drewN nq) := (Fr.refl _ _).drewN nq
  obtain ⟨w0, HW0⟩ : ∃ w0, Hid (w.drewN nq = w0) := ⟨_, rfl⟩
  rw [HW0.out] at F0 ⊢
  have HF0 : Hid (Fr (fun _ => False) w w0) := F0
  have B0 := HB.out.fresh F0
  have HB0 : Hid (PB w0 A m f e K i t fm g j gp pi p) := B0
  clear F0 c1 c2 c3 c4 c5 c6 c7 c8
  clear B0
  have CALL := oper_19 HB0.out.rep HI.out HS.out (by have := HSN.out; rw [HS.out] at this; simp at this; omega) x
  go_wp2_with fail
  refine CALL.mono ?_
  clear CALL
  intro e' wz hz
  have FIN : Hid (Q e' wz) := by
    rw [← HQ.out, HOP.out]
    exact PlPost.pre (VSt.fresh HF0.out) (FK.refl _ _) hz
  rcases hz.ends with rfl | ⟨ch, rfl⟩
  · clear hz
    go_wp2_with fail
    go_end0
    exact FIN.out
  · exact ⟨rfl, FIN.out⟩
theorem plain_20 (h : PB w A m f e K i t fm g j gp pi p) {x : Nat} (hx16 : x < 65536) {r : List Vl} {b : Vl} (hs : t.stack = r ++ [b]) :
    Calls Tryz.prog 269 #[.pointer (some ⟨A.b, 0, none⟩), .int .i64 i, .pointer (some ⟨A.bT, i * 5, none⟩), .pointer (some ⟨g, j * 5, none⟩), .pointer (some ⟨gp, pi * 8, none⟩), .int .u8 20, .int .i64 x] w (PlPost (plainP m i 20 x) w A f e i) := by
  have hop : plainP m i 20 x = operP m i 20 x := by
    unfold plainP
    simp (config := { decide := true }) only [if_true, if_false]
  obtain ⟨Q, HQ⟩ : ∃ Q : Ending → World → Prop, Hid (PlPost (plainP m i 20 x) w A f e i = Q) := ⟨_, rfl⟩
  rw [HQ.out]
  have HOP : Hid (plainP m i 20 x = _) := hop
  clear hop
  have HI : Hid (m.ths[i]? = some t) := h.at'.hi
  have HB : Hid (PB w A m f e K i t fm g j gp pi p) := h
  have HS : Hid (t.stack = r ++ [b]) := hs
  have HVB : Hid (VOk K b) := h.at'.ok.sv b (by rw [hs]; simp)
  clear hs
  obtain ⟨l, hx, hg, c1, c2, c3, c4, c5, c6, c7, c8, c9, c10, c11, c12⟩ := h.cells
  have HX : Hid (A.X[i]? = some l) := hx
  have HG : Hid (l.f.a = some ⟨g, 0, none⟩) := hg
  have HSN : Hid (t.stack.length ≤ 1120) := c11
  obtain ⟨sa, HSA⟩ : ∃ sa, Hid (l.s.a = sa) := ⟨_, rfl⟩
  obtain ⟨sc, HSC⟩ : ∃ sc, Hid (l.s.c = sc) := ⟨_, rfl⟩
  rw [HSA.out, HSC.out] at c1
  rw [HSC.out] at c9
  obtain ⟨n, HN⟩ : ∃ n, Hid (t.stack.length = n) := ⟨_, rfl⟩
  rw [HN.out] at c1 c9 c10 c11
  clear h hx hg
  go_enter Tryz.func269, Tryz.ntmps269
  go_wp2_with fail
  go_quiet (fail)
  obtain ⟨SL, HSL⟩ : ∃ v, Hid (Value.slice (if sc = fm.base then sa else Option.map (fun x => x.add (fm.base * 3)) sa) (fm.base + p.ns - fm.base) (sc - fm.base) = v) := ⟨_, rfl⟩
  rw [HSL.out]
  have F0 : Fr (fun _ => False) w (w.drewN nq) := (Fr.refl _ _).drewN nq
  obtain ⟨w0, HW0⟩ : ∃ w0, Hid (w.drewN nq = w0) := ⟨_, rfl⟩
  rw [HW0.out] at F0 ⊢
  have HF0 : Hid (Fr (fun _ => False) w w0) := F0
  have B0 := HB.out.fresh F0
  have HB0 : Hid (PB w0 A m f e K i t fm g j gp pi p) := B0
  clear F0 c1 c2 c3 c4 c5 c6 c7 c8
  clear B0
  have CALL := oper_20 HB0.out.rep HI.out HS.out (by have := HSN.out; rw [HS.out] at this; simp at this; omega) (fun h4 => by have hnt := HVB.out.t h4; have hkt := HB0.out.at'.vi.kt; exact ⟨m.tabs[b.n]'(by omega), by simp, (HB0.out.at'.vi.tb _ (List.getElem_mem _)).1⟩) (by have := HB0.out.at'.vi.kt; have := HB0.out.at'.vi.tn; omega) (by have := HVB.out.well.2.2; omega) x
  go_wp2_with fail
  refine CALL.mono ?_
  clear CALL
  intro e' wz hz
  have FIN : Hid (Q e' wz) := by
    rw [← HQ.out, HOP.out]
    exact PlPost.pre (VSt.fresh HF0.out) (FK.refl _ _) hz
  rcases hz.ends with rfl | ⟨ch, rfl⟩
  · clear hz
    go_wp2_with fail
    go_end0
    exact FIN.out
  · exact ⟨rfl, FIN.out⟩
end
end Go.Proofs.Qxb6500574aGreatDoor
