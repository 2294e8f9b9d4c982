/-
  THE WALK of vm: plain: upvalues.
-/
import Derived.Test.Qxb6500574aGreatDoorVPl0
namespace Go.Proofs.Qxb6500574aGreatDoor
open Go Go.RowKit
set_option linter.unusedVariables false
set_option linter.unusedSimpArgs false
section
variable {w : World} {A : VL} {m : VMD} {f e i g j gp pi : Nat} {t : ThD} {K : Cx} {fm : FmD} {p : PrD}
set_option maxRecDepth 100000
set_option maxHeartbeats 400000
theorem plain_7 (h : PB w A m f e K i t fm g j gp pi p) {x : Nat} (hx16 : x < 65536) (hxu : x < (m.clos.getD fm.clo cl0).nup) :
    Calls Tryz.prog 269 #[.pointer (some ⟨A.b, 0, none⟩), .int .i64 i, .pointer (some ⟨A.bT, i * 5, none⟩), .pointer (some ⟨g, j * 5, none⟩), .pointer (some ⟨gp, pi * 8, none⟩), .int .u8 7, .int .i64 x] w (PlPost (plainP m i 7 x) w A f e i) := by
  have hop : plainP m i 7 x = (.inr (), m.setTh i { t with stack := t.stack ++ [getUp m fm.clo x] }) := by
    unfold plainP
    simp (config := { decide := true }) only [if_true, if_false]
    rw [h.at'.topF, push_is h.at'.hi]
  obtain ⟨Q, HQ⟩ : ∃ Q : Ending → World → Prop, Hid (PlPost (plainP m i 7 x) w A f e i = Q) := ⟨_, rfl⟩
  rw [HQ.out]
  have HOP : Hid (plainP m i 7 x = _) := hop
  clear hop
  have HI : Hid (m.ths[i]? = some t) := h.at'.hi
  have HB : Hid (PB w A m f e K i t fm g j gp pi p) := h
  have HXU : Hid (x < (m.clos.getD fm.clo cl0).nup) := hxu
  clear hxu
  obtain ⟨l, hx, hg, c1, c2, c3, c4, c5, c6, c7, c8, c9, c10, c11, c12⟩ := h.cells
  have HX : Hid (A.X[i]? = some l) := hx
  have HG : Hid (l.f.a = some ⟨g, 0, none⟩) := hg
  have HSN : Hid (t.stack.length ≤ 1120) := c11
  obtain ⟨sa, HSA⟩ : ∃ sa, Hid (l.s.a = sa) := ⟨_, rfl⟩
  obtain ⟨sc, HSC⟩ : ∃ sc, Hid (l.s.c = sc) := ⟨_, rfl⟩
  rw [HSA.out, HSC.out] at c1
  rw [HSC.out] at c9
  obtain ⟨n, HN⟩ : ∃ n, Hid (t.stack.length = n) := ⟨_, rfl⟩
  rw [HN.out] at c1 c9 c10 c11
  clear h hx hg
  go_enter Tryz.func269, Tryz.ntmps269
  go_wp2_with fail
  go_quiet (fail)
  obtain ⟨SL, HSL⟩ : ∃ v, Hid (Value.slice (if sc = fm.base then sa else Option.map (fun x => x.add (fm.base * 3)) sa) (fm.base + p.ns - fm.base) (sc - fm.base) = v) := ⟨_, rfl⟩
  rw [HSL.out]
  have F0 : Fr (fun _ => False) w (w.drewN nq) := (Fr.refl _ _).drewN nq
  obtain ⟨w0, HW0⟩ : ∃ w0, Hid (w.drewN nq = w0) := ⟨_, rfl⟩
  rw [HW0.out] at F0 ⊢
  have HF0 : Hid (Fr (fun _ => False) w w0) := F0
  have B0 := HB.out.fresh F0
  have HB0 : Hid (PB w0 A m f e K i t fm g j gp pi p) := B0
  clear F0 c1 c2 c3 c4 c5 c6 c7 c8
  obtain ⟨q, c, ce, U, hU⟩ := B0.up HXU.out
  have HU : Hid (UpAt m fm.clo x c q ce) := U
  clear U
  rcases hU with ⟨th, hv⟩ | ⟨y, u, v, th, hy, hyp, hv⟩
  · rw [hv] at HOP
    have CALL := getUp_closed B0.rep HU.out hx16 (fa := ⟨g, j * 5, none⟩) (by obtain ⟨_, _, _, _, _, f0, _⟩ := B0.cells; exact f0) rfl (by obtain ⟨_, _, _, _, _, _, _, fl, _⟩ := B0.cells; exact fl) (by omega)
    clear th hv B0
    go_wp2_with fail
    refine CALL.mono ?_
    rintro e' w1 ⟨rfl, f1⟩
    have HF1 : Hid (Fr (fun _ => False) w0 w1) := f1
    clear f1 CALL
    obtain ⟨cet, cep, vt, vn, vs⟩ := ce
    go_wp2_with fail
    refine (vpush_fk (HB0.out.rep.fresh ((HF1.out.alloc _).alloc _)) HI.out [⟨vt, vn, vs⟩] (by simp) (by have := HSN.out; simp; omega) (Has.newC _ _ _ (by simp))).mono ?_
    rintro e' wz ⟨rfl, A', z1, z2, z3⟩
    have FIN : Hid (Q (.returned (.tuple #[])) wz) := by
      rw [← HQ.out, HOP.out]
      exact ⟨rfl, A', z1, ((VSt.fresh HF0.out).trans (VSt.fresh ((HF1.out.alloc _).alloc _))).trans (z2.weaken (fun k hk => by unfold isVM; unfold isT at hk; omega)), z3⟩
    clear z1 z2 z3
    go_wp2_with fail
    go_end0
    exact FIN.out
  · rw [hv] at HOP
    have CALL := getUp_open B0.rep HU.out hx16 (fa := ⟨g, j * 5, none⟩) (by obtain ⟨_, _, _, _, _, f0, _⟩ := B0.cells; exact f0) rfl (by obtain ⟨_, _, _, _, _, _, _, fl, _⟩ := B0.cells; exact fl) th hy hyp (by have := B0.low y u hy; omega)
    clear th hv hy hyp B0
    go_wp2_with fail
    refine CALL.mono ?_
    rintro e' w1 ⟨rfl, f1⟩
    have HF1 : Hid (Fr (fun _ => False) w0 w1) := f1
    clear f1 CALL
    obtain ⟨vt, vn, vs⟩ := v
    go_wp2_with fail
    refine (vpush_fk (HB0.out.rep.fresh ((HF1.out.alloc _).alloc _)) HI.out [⟨vt, vn, vs⟩] (by simp) (by have := HSN.out; simp; omega) (Has.newC _ _ _ (by simp))).mono ?_
    rintro e' wz ⟨rfl, A', z1, z2, z3⟩
    have FIN : Hid (Q (.returned (.tuple #[])) wz) := by
      rw [← HQ.out, HOP.out]
      exact ⟨rfl, A', z1, ((VSt.fresh HF0.out).trans (VSt.fresh ((HF1.out.alloc _).alloc _))).trans (z2.weaken (fun k hk => by unfold isVM; unfold isT at hk; omega)), z3⟩
    clear z1 z2 z3
    go_wp2_with fail
    go_end0
    exact FIN.out
theorem plain_8 (h : PB w A m f e K i t fm g j gp pi p) {x : Nat} (hx16 : x < 65536) (hxu : x < (m.clos.getD fm.clo cl0).nup) {r : List Vl} {b : Vl} (hs : t.stack = r ++ [b]) (hb : fm.base + p.ns ≤ r.length) :
    Calls Tryz.prog 269 #[.pointer (some ⟨A.b, 0, none⟩), .int .i64 i, .pointer (some ⟨A.bT, i * 5, none⟩), .pointer (some ⟨g, j * 5, none⟩), .pointer (some ⟨gp, pi * 8, none⟩), .int .u8 8, .int .i64 x] w (PlPost (plainP m i 8 x) w A f e i) := by
  have hop : plainP m i 8 x = (.inr (), setUp (m.setTh i { t with stack := r }) fm.clo x b) := by
    unfold plainP
    simp (config := { decide := true }) only [if_true, if_false]
    rw [h.at'.topF, pops_1 h.at'.hi hs, topV_0 h.at'.hi hs]
  obtain ⟨Q, HQ⟩ : ∃ Q : Ending → World → Prop, Hid (PlPost (plainP m i 8 x) w A f e i = Q) := ⟨_, rfl⟩
  rw [HQ.out]
  have HOP : Hid (plainP m i 8 x = _) := hop
  clear hop
  have HI : Hid (m.ths[i]? = some t) := h.at'.hi
  have HB : Hid (PB w A m f e K i t fm g j gp pi p) := h
  have HXU : Hid (x < (m.clos.getD fm.clo cl0).nup) := hxu
  have HS : Hid (t.stack = r ++ [b]) := hs
  have HBR : Hid (fm.base + p.ns ≤ r.length) := hb
  clear hxu hs hb
  obtain ⟨l, hx, hg, c1, c2, c3, c4, c5, c6, c7, c8, c9, c10, c11, c12⟩ := h.cells
  have HX : Hid (A.X[i]? = some l) := hx
  have HG : Hid (l.f.a = some ⟨g, 0, none⟩) := hg
  have HSN : Hid (t.stack.length ≤ 1120) := c11
  obtain ⟨sa, HSA⟩ : ∃ sa, Hid (l.s.a = sa) := ⟨_, rfl⟩
  obtain ⟨sc, HSC⟩ : ∃ sc, Hid (l.s.c = sc) := ⟨_, rfl⟩
  rw [HSA.out, HSC.out] at c1
  rw [HSC.out] at c9
  obtain ⟨n, HN⟩ : ∃ n, Hid (t.stack.length = n) := ⟨_, rfl⟩
  rw [HN.out] at c1 c9 c10 c11
  clear h hx hg
  go_enter Tryz.func269, Tryz.ntmps269
  go_wp2_with fail
  go_quiet (fail)
  obtain ⟨SL, HSL⟩ : ∃ v, Hid (Value.slice (if sc = fm.base then sa else Option.map (fun x => x.add (fm.base * 3)) sa) (fm.base + p.ns - fm.base) (sc - fm.base) = v) := ⟨_, rfl⟩
  rw [HSL.out]
  have F0 : Fr (fun _ => False) w (w.drewN nq) := (Fr.refl _ _).drewN nq
  obtain ⟨w0, HW0⟩ : ∃ w0, Hid (w.drewN nq = w0) := ⟨_, rfl⟩
  rw [HW0.out] at F0 ⊢
  have HF0 : Hid (Fr (fun _ => False) w w0) := F0
  have B0 := HB.out.fresh F0
  have HB0 : Hid (PB w0 A m f e K i t fm g j gp pi p) := B0
  clear F0 c1 c2 c3 c4 c5 c6 c7 c8
  clear B0
  go_wp2_with fail
  refine (vpop_any HB0.out.rep HI.out HS.out (by have := HSN.out; rw [HS.out] at this; simp at this; omega)).mono ?_
  rintro e' w1 ⟨rfl, r1, s1⟩
  have HS1 : Hid (VSt isVM w A w1 A) := (VSt.fresh HF0.out).trans (s1.weaken (fun k hk => by unfold isVM; unfold isT at hk; omega))
  have B1 := HB0.out.popped HS.out HBR.out r1
  have HB1 : Hid (PB w1 A (m.setTh i { t with stack := r }) f e K i { t with stack := r } fm g j gp pi p) := B1
  clear r1 s1
  obtain ⟨m1, HM1⟩ : ∃ m1, Hid (m.setTh i { t with stack := r } = m1) := ⟨_, rfl⟩
  obtain ⟨t1, HT1⟩ : ∃ t1 : ThD, Hid ({ t with stack := r } = t1) := ⟨_, rfl⟩
  rw [HM1.out] at HOP B1 HB1
  rw [HT1.out] at B1 HB1
  obtain ⟨q, c, ce, U, hU⟩ := B1.up (x := x) (by rw [← HM1.out]; exact HXU.out)
  have HU : Hid (UpAt m1 fm.clo x c q ce) := U
  clear U
  obtain ⟨bt, bn, bs⟩ := b
  have F1 : Fr (fun _ => False) w1 (w1.alloc (.cells #[.int .i64 bt, .int .u64 bn, sv bs] 68)) := (Fr.refl _ _).alloc _
  have B2 := B1.fresh F1
  have HF1 : Hid (Fr (fun _ => False) w1 (w1.alloc (.cells #[.int .i64 bt, .int .u64 bn, sv bs] 68))) := F1
  clear F1 B1
  rcases hU with ⟨th, hv⟩ | ⟨y, u, v, th, hy, hyp, hv⟩
  · have CALL := setUp_closed B2.rep HU.out hx16 (fa := ⟨g, j * 5, none⟩) (by obtain ⟨_, _, _, _, _, f0, _⟩ := B2.cells; exact f0) rfl (by obtain ⟨_, _, _, _, _, _, _, fl, _⟩ := B2.cells; exact fl) (by omega) ⟨bt, bn, bs⟩
    have FIN : Hid (∀ wz, VRep wz A (setUp m1 fm.clo x ⟨bt, bn, bs⟩) f e → VSt isVM w A wz A → Q (.returned (.tuple #[])) wz) := by
      intro wz hz1 hz2
      rw [← HQ.out, HOP.out]
      exact ⟨rfl, A, hz1, hz2, FK.refl _ _⟩
    have HE : Hid (setUp m1 fm.clo x ⟨bt, bn, bs⟩ = _) := setUp_clo HU.out th ⟨bt, bn, bs⟩
    clear th hv B2
    go_wp2_with fail
    refine CALL.mono ?_
    rintro e' wz ⟨rfl, z1, z2⟩
    have FIN2 : Hid (Q (.returned (.tuple #[])) wz) := FIN.out wz (by rw [HE.out]; exact z1) ((HS1.out.trans (VSt.fresh HF1.out)).trans (z2.weaken (fun k hk => by unfold isVM; unfold isCo at hk; omega)))
    clear z1 z2 CALL FIN
    go_wp2_with fail
    go_end0
    exact FIN2.out
  · have CALL := setUp_open B2.rep HU.out hx16 (fa := ⟨g, j * 5, none⟩) (by obtain ⟨_, _, _, _, _, f0, _⟩ := B2.cells; exact f0) rfl (by obtain ⟨_, _, _, _, _, _, _, fl, _⟩ := B2.cells; exact fl) th hy hyp (by have := B2.low y u hy; omega) ⟨bt, bn, bs⟩
    have FIN : Hid (∀ wz, VRep wz A (setUp m1 fm.clo x ⟨bt, bn, bs⟩) f e → VSt isVM w A wz A → Q (.returned (.tuple #[])) wz) := by
      intro wz hz1 hz2
      rw [← HQ.out, HOP.out]
      exact ⟨rfl, A, hz1, hz2, FK.refl _ _⟩
    have HE : Hid (setUp m1 fm.clo x ⟨bt, bn, bs⟩ = _) := setUp_opn HU.out th hy ⟨bt, bn, bs⟩
    clear th hv B2
    go_wp2_with fail
    refine CALL.mono ?_
    rintro e' wz ⟨rfl, z1, z2⟩
    have FIN2 : Hid (Q (.returned (.tuple #[])) wz) := FIN.out wz (by rw [HE.out]; exact z1) ((HS1.out.trans (VSt.fresh HF1.out)).trans (z2.weaken (fun k hk => by unfold isVM; unfold isT at hk; omega)))
    clear z1 z2 CALL FIN
    go_wp2_with fail
    go_end0
    exact FIN2.out
end
end Go.Proofs.Qxb6500574aGreatDoor
