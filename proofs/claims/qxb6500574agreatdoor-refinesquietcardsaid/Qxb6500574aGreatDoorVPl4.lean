/-
  THE WALK of vm: plain: closeFrom, closure, a new table.
-/
import Derived.Test.Qxb6500574aGreatDoorVPl0
namespace Go.Proofs.Qxb6500574aGreatDoor
open Go Go.RowKit
set_option linter.unusedVariables false
set_option linter.unusedSimpArgs false
section
variable {w : World} {A : VL} {m : VMD} {f e i g j gp pi : Nat} {t : ThD} {K : Cx} {fm : FmD} {p : PrD}
set_option maxRecDepth 100000
set_option maxHeartbeats 400000
theorem plain_29 (h : PB w A m f e K i t fm g j gp pi p) {x : Nat} (hx16 : x < 65536) :
    Calls Tryz.prog 269 #[.pointer (some ⟨A.b, 0, none⟩), .int .i64 i, .pointer (some ⟨A.bT, i * 5, none⟩), .pointer (some ⟨g, j * 5, none⟩), .pointer (some ⟨gp, pi * 8, none⟩), .int .u8 29, .int .i64 x] w (PlPost (plainP m i 29 x) w A f e i) := by
  have hop : plainP m i 29 x = (.inr (), closeFrom m i (fm.base + x)) := by
    unfold plainP
    simp (config := { decide := true }) only [if_true, if_false]
    rw [h.at'.topF]
  obtain ⟨Q, HQ⟩ : ∃ Q : Ending → World → Prop, Hid (PlPost (plainP m i 29 x) w A f e i = Q) := ⟨_, rfl⟩
  rw [HQ.out]
  have HOP : Hid (plainP m i 29 x = _) := hop
  clear hop
  have HI : Hid (m.ths[i]? = some t) := h.at'.hi
  have HB : Hid (PB w A m f e K i t fm g j gp pi p) := h
  obtain ⟨l, hx, hg, c1, c2, c3, c4, c5, c6, c7, c8, c9, c10, c11, c12⟩ := h.cells
  have HX : Hid (A.X[i]? = some l) := hx
  have HG : Hid (l.f.a = some ⟨g, 0, none⟩) := hg
  have HSN : Hid (t.stack.length ≤ 1120) := c11
  obtain ⟨sa, HSA⟩ : ∃ sa, Hid (l.s.a = sa) := ⟨_, rfl⟩
  obtain ⟨sc, HSC⟩ : ∃ sc, Hid (l.s.c = sc) := ⟨_, rfl⟩
  rw [HSA.out, HSC.out] at c1
  rw [HSC.out] at c9
  obtain ⟨n, HN⟩ : ∃ n, Hid (t.stack.length = n) := ⟨_, rfl⟩
  rw [HN.out] at c1 c9 c10 c11
  clear h hx hg
  go_enter Tryz.func269, Tryz.ntmps269
  go_wp2_with fail
  go_quiet (fail)
  obtain ⟨SL, HSL⟩ : ∃ v, Hid (Value.slice (if sc = fm.base then sa else Option.map (fun x => x.add (fm.base * 3)) sa) (fm.base + p.ns - fm.base) (sc - fm.base) = v) := ⟨_, rfl⟩
  rw [HSL.out]
  have F0 : Fr (fun _ => False) w (w.drewN nq) := (Fr.refl _ _).drewN nq
  obtain ⟨w0, HW0⟩ : ∃ w0, Hid (w.drewN nq = w0) := ⟨_, rfl⟩
  rw [HW0.out] at F0 ⊢
  have HF0 : Hid (Fr (fun _ => False) w w0) := F0
  have B0 := HB.out.fresh F0
  have HB0 : Hid (PB w0 A m f e K i t fm g j gp pi p) := B0
  clear F0 c1 c2 c3 c4 c5 c6 c7 c8
  have CALL := closeFrom_any B0.rep HI.out (B0.at'.vi.opnOk HI.out (by have := HSN.out; omega) (by have := UpL.le B0.at'.vi B0.at'.up; omega)) (fm.base + x)
  rw [show ((fm.base + x : Nat) : Int) = (fm.base : Int) + x from rfl] at CALL
  obtain ⟨_, _, _, _, _, _, f2, fl, _⟩ := B0.cells
  clear B0
  go_wp2_with fail
  refine CALL.mono ?_
  rintro e' wz ⟨rfl, z1, z2⟩
  have FIN : Hid (Q (.returned (.tuple #[])) wz) := by
    rw [← HQ.out, HOP.out]
    exact ⟨rfl, A, z1, (VSt.fresh HF0.out).trans (z2.weaken (fun k hk => by unfold isVM; unfold isCo isT at hk; omega)), FK.refl _ _⟩
  clear z1 z2 CALL
  go_wp2_with fail
  go_end0
  exact FIN.out
theorem plain_14 (h : PB w A m f e K i t fm g j gp pi p) {x : Nat} (hx16 : x < 65536) :
    Calls Tryz.prog 269 #[.pointer (some ⟨A.b, 0, none⟩), .int .i64 i, .pointer (some ⟨A.bT, i * 5, none⟩), .pointer (some ⟨g, j * 5, none⟩), .pointer (some ⟨gp, pi * 8, none⟩), .int .u8 14, .int .i64 x] w (PlPost (plainP m i 14 x) w A f e i) := by
  have hop : plainP m i 14 x = (if m.tabs.length ≥ 12 then trapR 8 m else (.inr (), ({ m with tabs := m.tabs ++ [tab0] } : VMD).setTh i { t with stack := t.stack ++ [⟨4, m.tabs.length, []⟩] })) := by
    unfold plainP
    simp (config := { decide := true }) only [if_true, if_false]
    split
    · rfl
    · rw [push_is (show ({ m with tabs := m.tabs ++ [tab0] } : VMD).ths[i]? = some t from h.at'.hi)]
  obtain ⟨Q, HQ⟩ : ∃ Q : Ending → World → Prop, Hid (PlPost (plainP m i 14 x) w A f e i = Q) := ⟨_, rfl⟩
  rw [HQ.out]
  have HOP : Hid (plainP m i 14 x = _) := hop
  clear hop
  have HI : Hid (m.ths[i]? = some t) := h.at'.hi
  have HB : Hid (PB w A m f e K i t fm g j gp pi p) := h
  obtain ⟨l, hx, hg, c1, c2, c3, c4, c5, c6, c7, c8, c9, c10, c11, c12⟩ := h.cells
  have HX : Hid (A.X[i]? = some l) := hx
  have HG : Hid (l.f.a = some ⟨g, 0, none⟩) := hg
  have HSN : Hid (t.stack.length ≤ 1120) := c11
  obtain ⟨sa, HSA⟩ : ∃ sa, Hid (l.s.a = sa) := ⟨_, rfl⟩
  obtain ⟨sc, HSC⟩ : ∃ sc, Hid (l.s.c = sc) := ⟨_, rfl⟩
  rw [HSA.out, HSC.out] at c1
  rw [HSC.out] at c9
  obtain ⟨n, HN⟩ : ∃ n, Hid (t.stack.length = n) := ⟨_, rfl⟩
  rw [HN.out] at c1 c9 c10 c11
  clear h hx hg
  go_enter Tryz.func269, Tryz.ntmps269
  go_wp2_with fail
  go_quiet (fail)
  obtain ⟨SL, HSL⟩ : ∃ v, Hid (Value.slice (if sc = fm.base then sa else Option.map (fun x => x.add (fm.base * 3)) sa) (fm.base + p.ns - fm.base) (sc - fm.base) = v) := ⟨_, rfl⟩
  rw [HSL.out]
  have F0 : Fr (fun _ => False) w (w.drewN nq) := (Fr.refl _ _).drewN nq
  obtain ⟨w0, HW0⟩ : ∃ w0, Hid (w.drewN nq = w0) := ⟨_, rfl⟩
  rw [HW0.out] at F0 ⊢
  have HF0 : Hid (Fr (fun _ => False) w w0) := F0
  have B0 := HB.out.fresh F0
  have HB0 : Hid (PB w0 A m f e K i t fm g j gp pi p) := B0
  clear F0 c1 c2 c3 c4 c5 c6 c7 c8
  have ct := B0.rep.cell0 1
  simp only [vmCells, List.getElem?_toArray, List.getElem?_cons_succ, List.getElem?_cons_zero] at ct
  have hbl := B0.rep.bl
  have h12 : m.tabs.length ≤ 12 := by have := B0.at'.vi.kt; have := B0.at'.vi.tn; omega
  by_cases hf : m.tabs.length = 12
  · rw [if_pos (by omega)] at HOP
    have CALL := makeFull_vm B0.rep hf
    clear B0
    go_wp2_with fail
    refine CALL.mono ?_
    rintro e' wz ⟨rfl, rfl⟩
    have FIN : Hid (Q (.panicked (trapE 8)) wz) := by
      rw [← HQ.out, HOP.out]
      exact ⟨rfl, A, HB0.out.rep, VSt.fresh HF0.out⟩
    clear CALL
    go_wp2_with fail
    refine (stop_any 8).mono ?_
    rintro e' w' ⟨rfl, rfl⟩
    exact ⟨rfl, FIN.out⟩
  · rw [if_neg (by omega)] at HOP
    have CALL := make_vm B0.rep (by omega)
    clear B0
    go_wp2_with fail
    refine CALL.mono ?_
    rintro e' w1 ⟨rfl, A1, r1, s1, x1⟩
    have HR1 : Hid (VRep w1 A1 { m with tabs := m.tabs ++ [tab0] } f e) := r1
    have HS1 : Hid (VSt isVM w A w1 A1) := (VSt.fresh HF0.out).trans s1
    have HK1 : Hid (FK A A1 i) := fun l hl => ⟨l, by rw [x1]; exact hl, rfl⟩
    clear r1 s1 x1 CALL
    obtain ⟨T, HT⟩ : ∃ T, Hid (m.tabs.length = T) := ⟨_, rfl⟩
    rw [HT.out] at HOP h12 hf ⊢
    have h12b : T < 12 := by omega
    clear hf h12
    go_wp2_with fail
    have PU := vpush_fk (c := 1) (HR1.out.fresh ((Fr.refl _ _).alloc (.cells #[.int .i64 4, .int .u64 T, sv []] 68))) (show ({ m with tabs := m.tabs ++ [tab0] } : VMD).ths[i]? = some t from HI.out) [⟨4, T, []⟩] (by simp) (by have := HSN.out; simp; omega) (B := w1.heap.size) (Has.new _ _ _)
    rw [HS1.out.bT] at PU
    refine PU.mono ?_
    clear PU
    rintro e' wz ⟨rfl, A', z1, z2, z3⟩
    have FIN : Hid (Q (.returned (.tuple #[])) wz) := by
      rw [← HQ.out, HOP.out]
      exact ⟨rfl, A', z1, (HS1.out.trans (VSt.fresh ((Fr.refl _ _).alloc _))).trans (z2.weaken (fun k hk => by unfold isVM; unfold isT at hk; omega)), HK1.out.trans z3⟩
    clear z1 z2 z3
    go_wp2_with fail
    go_end0
    exact FIN.out
theorem plain_28 (h : PB w A m f e K i t fm g j gp pi p) {x : Nat} (hx16 : x < 65536) (hxp : x < m.protos.length) (hd : ∀ d ∈ (m.descs.drop (m.protos.getD x pr0).up).take (m.protos.getD x pr0).nup, ¬ ((d.1 = 1 ∧ d.2 ≥ K.ns fm.clo) ∨ (d.1 = 0 ∧ d.2 ≥ (m.clos.getD fm.clo cl0).nup))) :
    Calls Tryz.prog 269 #[.pointer (some ⟨A.b, 0, none⟩), .int .i64 i, .pointer (some ⟨A.bT, i * 5, none⟩), .pointer (some ⟨g, j * 5, none⟩), .pointer (some ⟨gp, pi * 8, none⟩), .int .u8 28, .int .i64 x] w (PlPost (plainP m i 28 x) w A f e i) := by
  have hop : plainP m i 28 x = (match closure m i fm.base fm.clo x with | (.inl fl, m1) => (.inl fl, m1) | (.inr c, m1) => (.inr (), push m1 i [⟨5, c, []⟩])) := by
    unfold plainP
    simp (config := { decide := true }) only [if_true, if_false]
    rw [h.at'.topF]
    rfl
  obtain ⟨Q, HQ⟩ : ∃ Q : Ending → World → Prop, Hid (PlPost (plainP m i 28 x) w A f e i = Q) := ⟨_, rfl⟩
  rw [HQ.out]
  have HOP : Hid (plainP m i 28 x = _) := hop
  clear hop
  have HI : Hid (m.ths[i]? = some t) := h.at'.hi
  have HB : Hid (PB w A m f e K i t fm g j gp pi p) := h
  have HCO : Hid (_ ∨ _) := closure_ok h.at'.vi h.at'.up h.at'.hi h.at'.mem h.at'.clo hxp hd
  have HXP : Hid (m.protos[x]? = some (m.protos.getD x pr0)) := by
    show m.protos[x]? = _
    simp [hxp]
  have HD : Hid (∀ d ∈ (m.descs.drop (m.protos.getD x pr0).up).take (m.protos.getD x pr0).nup, ¬ ((d.1 = 1 ∧ d.2 ≥ K.ns fm.clo) ∨ (d.1 = 0 ∧ d.2 ≥ (m.clos.getD fm.clo cl0).nup))) := hd
  clear hd hxp
  obtain ⟨l, hx, hg, c1, c2, c3, c4, c5, c6, c7, c8, c9, c10, c11, c12⟩ := h.cells
  have HX : Hid (A.X[i]? = some l) := hx
  have HG : Hid (l.f.a = some ⟨g, 0, none⟩) := hg
  have HSN : Hid (t.stack.length ≤ 1120) := c11
  obtain ⟨sa, HSA⟩ : ∃ sa, Hid (l.s.a = sa) := ⟨_, rfl⟩
  obtain ⟨sc, HSC⟩ : ∃ sc, Hid (l.s.c = sc) := ⟨_, rfl⟩
  rw [HSA.out, HSC.out] at c1
  rw [HSC.out] at c9
  obtain ⟨n, HN⟩ : ∃ n, Hid (t.stack.length = n) := ⟨_, rfl⟩
  rw [HN.out] at c1 c9 c10 c11
  clear h hx hg
  go_enter Tryz.func269, Tryz.ntmps269
  go_wp2_with fail
  go_quiet (fail)
  obtain ⟨SL, HSL⟩ : ∃ v, Hid (Value.slice (if sc = fm.base then sa else Option.map (fun x => x.add (fm.base * 3)) sa) (fm.base + p.ns - fm.base) (sc - fm.base) = v) := ⟨_, rfl⟩
  rw [HSL.out]
  have F0 : Fr (fun _ => False) w (w.drewN nq) := (Fr.refl _ _).drewN nq
  obtain ⟨w0, HW0⟩ : ∃ w0, Hid (w.drewN nq = w0) := ⟨_, rfl⟩
  rw [HW0.out] at F0 ⊢
  have HF0 : Hid (Fr (fun _ => False) w w0) := F0
  have B0 := HB.out.fresh F0
  have HB0 : Hid (PB w0 A m f e K i t fm g j gp pi p) := B0
  clear F0 c1 c2 c3 c4 c5 c6 c7 c8
  have CALL := closure_any B0.rep B0.at' B0.room HX.out HG.out B0.hj HXP.out HD.out
  have h24 := B0.at'.vi.cn
  have hkc := B0.at'.vi.kc
  clear B0
  go_wp2_with fail
  refine CALL.mono ?_
  rintro e' w1 (⟨h24a, rfl, rfl⟩ | ⟨h24a, rfl, A1, r1, s1, k1⟩)
  · have FIN : Hid (Q (.panicked (trapE 8)) w1) := by
      rw [← HQ.out, HOP.out]
      have hc : closure m i fm.base fm.clo x = trapR 8 m := by unfold closure; rw [if_pos (by omega)]
      rw [hc]
      exact ⟨rfl, A, HB0.out.rep, VSt.fresh HF0.out⟩
    exact ⟨rfl, FIN.out⟩
  · obtain ⟨C, HC⟩ : ∃ C, Hid (m.clos.length = C) := ⟨_, rfl⟩
    have hC : C < 24 := by rw [← HC.out]; exact h24a
    have HR1 : Hid (∃ m1 t1, closure m i fm.base fm.clo x = (.inr C, m1) ∧ m1.ths[i]? = some t1 ∧ t1.stack = t.stack ∧ VRep w1 A1 m1 f e) := by
      rcases HCO.out with hc | ⟨K2, m2, t2, hc, C2, h2, _⟩
      · unfold closure at hc; rw [if_neg (by omega)] at hc; cases hc
      · rw [hc] at r1
        exact ⟨m2, t2, by rw [hc, HC.out], C2.hi, h2, r1⟩
    rw [HC.out]
    have HS1 : Hid (VSt isVM w A w1 A1) := (VSt.fresh HF0.out).trans s1
    have HK1 : Hid (FK A A1 i) := k1
    clear r1 s1 k1 CALL h24 hkc h24a
    obtain ⟨m1, t1, e1, e2, e3, r1⟩ := HR1.out
    rw [e1] at HOP
    dsimp only at HOP
    rw [push_is e2] at HOP
    have HI1 : Hid (m1.ths[i]? = some t1) := e2
    have HST : Hid (t1.stack = t.stack) := e3
    have HRM : Hid (VRep w1 A1 m1 f e) := r1
    clear e1 e2 e3 r1 HR1
    go_wp2_with fail
    have PU := vpush_fk (c := 1) (HRM.out.fresh ((Fr.refl _ _).alloc (.cells #[.int .i64 5, .int .u64 C, sv []] 68))) HI1.out [⟨5, C, []⟩] (by simp) (by have := HSN.out; rw [HST.out]; simp; omega) (B := w1.heap.size) (Has.new _ _ _)
    rw [HS1.out.bT] at PU
    refine PU.mono ?_
    clear PU
    rintro e' wz ⟨rfl, A', z1, z2, z3⟩
    have FIN : Hid (Q (.returned (.tuple #[])) wz) := by
      rw [← HQ.out, HOP.out]
      exact ⟨rfl, A', z1, (HS1.out.trans (VSt.fresh ((Fr.refl _ _).alloc _))).trans (z2.weaken (fun k hk => by unfold isVM; unfold isT at hk; omega)), HK1.out.trans z3⟩
    clear z1 z2 z3
    go_wp2_with fail
    go_end0
    exact FIN.out
end
end Go.Proofs.Qxb6500574aGreatDoor
