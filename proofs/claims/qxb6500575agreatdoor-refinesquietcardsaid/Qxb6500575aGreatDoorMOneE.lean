/-
  THE WALKS of prepm.Prog.one: else (written by tools/gen_mone.py).
-/
import Derived.Test.Qxb6500575aGreatDoorMOne1
import Derived.Test.Qxb6500575aGreatDoorReg3
namespace Go.Proofs.Qxb6500575aGreatDoor
open Go Go.RowKit
set_option linter.unusedVariables false
set_option linter.unusedSimpArgs false

set_option maxRecDepth 100000 in
set_option maxHeartbeats 4000000 in
theorem mone_4 (X : OneP) (L : MkL) (cv : Value) (s : Mk) (E : Env) (i : Nat) (c0 : Ctl) (r0 : List Ctl) (h : OneCtx X L cv s E i c0 r0) (hop : X.c.op = 4) (hat0 : 0 ≤ c0.at_) :
    Calls Tryz.prog 58 #[.pointer (some ⟨X.bp, 0, none⟩), .pointer (some ⟨X.bk, 0, none⟩), .pointer (some ⟨X.g, X.f * 5, none⟩), .int .i64 i] X.w0 fun e w' => OnePost X (s.one E X.src i X.c) e w' := by
  have E0 : Hid (s.one E X.src i X.c = ({ st := s.closes.1.st, cs := { c0 with op := 4, dead := false } :: r0, code := s.code ++ [⟨4, posM X.src (endsM X.src c0.at_.toNat).2.toNat, 0, 0⟩] }, typedM s.closes.2)) := by
    show _ = _
    simp [Mk.one, hop, h.top.cs]
  have CODELEN : Hid (s.code.length ≤ 500) := h.code
  have hfit := h.top.fit h.fit
  have hatr : c0.at_ = -1 ∨ (0 ≤ c0.at_ ∧ c0.at_ < X.src.length) := hfit.at_
  obtain ⟨ta, hta⟩ : ∃ ta : Nat, c0.at_ = ta ∧ ta < X.src.length := ⟨c0.at_.toNat, by omega, by omega⟩
  obtain ⟨hta, htal⟩ := hta
  have her := endsM_range htal
  obtain ⟨te, hte⟩ : ∃ te : Nat, (endsM X.src ta).2 = te ∧ te ≤ X.src.length := ⟨(endsM X.src ta).2.toNat, by omega, by omega⟩
  obtain ⟨hte, htel⟩ := hte
  have E1 : Hid (s.one E X.src i X.c = ({ st := s.closes.1.st, cs := { c0 with op := 4, dead := false } :: r0, code := s.code ++ [⟨4, posM X.src te, 0, 0⟩] }, typedM s.closes.2)) := by
    have := E0.out
    have e2 : (endsM X.src c0.at_.toNat).2.toNat = te := by rw [hta]; simp [hte]
    rw [e2] at this
    exact this
  have HTA : Hid (c0.at_ = ta) := hta
  have HTE : Hid ((endsM X.src ta).2 = te) := hte
  clear E0 hatr hat0 her hta hte
  have hX := h.inn.ok
  obtain ⟨gs, scap, hsv, hgl, q0, q1, q2, hil⟩ := h.at
  obtain ⟨m0, m2, m3, lg⟩ := h.inn.pre h.me
  have hsl := h.sl
  have hsst := h.st
  have hscs := h.cs
  have hscd := h.code
  have hfl := h.fl
  have hmp := h.ps E.me (List.mem_of_getElem? h.me)
  obtain ⟨hmp1, hmp2, hmp3⟩ := hmp
  have START : Hid (∀ n, OneL X (((X.w0.alloc (insObj X.c)).alloc (flatObj ⟨X.c.op, X.c.imm, 0, 0⟩)).drewN n) L cv s ⟨X.c.op, X.c.imm, 0, 0⟩) := h.inn.start
  have hbc : Hid (X.w0.heap.size = X.bc) := h.inn.hbc.symm
  have hbo : Hid (X.bc + 1 = X.bo) := by show _ = _; rw [h.inn.hbo, h.inn.hbc]
  have CTX : Hid (OneCtx X L cv s E i c0 r0) := h
  have HX : Hid X.Ok := hX
  have hrl : r0.length ≤ 500 := by have := h.top.cs; have hh := h.cs; rw [this] at hh; simp at hh; omega
  rw [hsv] at m3
  have lg1 : X.g < X.w0.heap.size + 1 := by omega
  have lg2 : X.g < X.w0.heap.size + 1 + 1 := by omega
  have hgl1 : gs < X.w0.heap.size + 1 := by omega
  clear h hX
  go_enter Tryz.func58, Tryz.ntmps58
  go_wp2
  go_quiet (fail)
  rename_i nq
  obtain ⟨W, hW⟩ : ∃ W, W = (((X.w0.alloc (.cells #[.int .i64 4, .int .i64 X.c.imm, .string ⟨X.c.tab.toArray⟩] 67)).alloc (.cells #[.int .i64 4, .int .i64 X.c.imm, .int .i64 0, .int .i64 0] 176)).drewN nq) := ⟨_, rfl⟩
  have ST := START.out nq
  unfold insObj flatObj at ST
  simp only [hop] at ST ⊢
  rw [← hW]
  rw [hbc.out, hbo.out]
  have HL : Hid (OneL X W L cv s ⟨4, X.c.imm, 0, 0⟩) := by rw [hW]; exact ST
  clear ST hW START q0 q1 q2 m0 m2 m3 hbc hbo lg1 lg2 hgl1 lg
  have HC1 : Hid (∀ w', OneL X w' L cv s ⟨4, X.c.imm, 0, 0⟩ → _) := fun w' h' => mcloses_any X.bk L s w' h'.k CTX.out.top (by omega) (by omega) hfit.b0 hfit.b1 (by have := hfit.ht; omega)
  have hcc : s.closes.1.code = s.code := by
    unfold Mk.closes; split
    · rfl
    · rfl
  have hcs : s.closes.1.cs = c0 :: r0 := by
    rw [← CTX.out.top.cs]; unfold Mk.closes; split
    · rfl
    · rfl
  have hcl : s.closes.1.st.length ≤ 500 := by
    unfold Mk.closes; split
    · omega
    · have := s.pops_len2 (resOf (Ctl.bt ‹_›)); simp only; omega
  have HCC : Hid (s.closes.1.code = s.code) := hcc
  have HCS : Hid (s.closes.1.cs = c0 :: r0) := hcs
  clear hcc hcs hfit
  generalize hsc : s.closes = sc at *
  obtain ⟨s1, ok1⟩ := sc
  simp only at HC1 HCC HCS hcl E1
  clear hsc
  obtain ⟨i0, i1, i2, o0, o1, o2, o3, of, p4, k0, k1, kf, m0, m1, m2, m3, m4, gf, lc, lo, lp, lk, lg⟩ := HL.out.facts HX.out CTX.out.me
  rw [hsv] at m3
  go_wp2_with fail
  refine (HC1.out _ (by first | exact HL.out | exact HL.out.drew | exact HL.out.drewN _ | exact (HL.out.drewN _).drew | exact (HL.out.drew).drewN _ | exact (HL.out.drewN _).drewN _)).mono ?_
  rintro e w1 ⟨rfl, g1, g2⟩
  have HL1 : Hid (OneL X w1 L cv s1 ⟨4, X.c.imm, 0, 0⟩) := HL.out.chk g1 g2 HCC.out
  clear g1 g2 HL HC1
  clear i0 i1 i2 o0 o1 o2 o3 of p4 k0 k1 kf m0 m1 m2 m3 m4 gf lc lo lp lk lg
  obtain ⟨go, ha, hcl2, hfr2, hlt2, hbo2⟩ := HL1.out.k.at 0 (c := c0) (by rw [HCS.out]; rfl)
  have hcsl : s1.cs.length = r0.length + 1 := by rw [HCS.out]; rfl
  have hml : s1.cs.length - 1 - 0 = r0.length := by omega
  have e0' := hcl2 0 (by omega)
  have e3' := hcl2 3 (by omega)
  have e4' := hcl2 4 (by omega)
  rw [hml] at e0' e3' e4'
  simp [ctlCells] at e0' e3' e4'
  rw [HTA.out] at e3'
  have fz0 := hfr2 (r0.length * 5)
  have fz4 := hfr2 (r0.length * 5 + 4)
  -- the two stores
  have fin : ∀ n, OneL X (((w1.drewN n).setCell ⟨go, r0.length * 5, none⟩ (.int .i64 4)).setCell ⟨go, r0.length * 5 + 4, none⟩ (.bool false)) L cv { s1 with cs := { c0 with op := 4, dead := false } :: r0 } ⟨4, X.c.imm, 0, 0⟩ := by
    intro n
    have R := (HL1.out.drewN n)
    have a1 := R.k.setTop 0 (c := c0) (r := r0) (go := go) HCS.out ha { c0 with op := 4 } (.int .i64 4) (by decide) rfl
    have a2 := a1.1.setTop 4 (c := { c0 with op := 4 }) (r := r0) (go := go) rfl ha { c0 with op := 4, dead := false } (.bool false) (by decide) rfl
    exact R.chk a2.1 (a1.2.trans a2.2) rfl
  have FIN1 : Hid (∀ n : Nat, _) := fin
  obtain ⟨i0, i1, i2, o0, o1, o2, o3, of, p4, k0, k1, kf, m0, m1, m2, m3, m4, gf, lc, lo, lp, lk, lg⟩ := HL1.out.facts HX.out CTX.out.me
  rw [hsv] at m3
  rw [hcsl, ha] at k1
  clear fin hcl2 hfr2
  go_wp2
  go_quiet (fail)
  obtain ⟨w2, hw2⟩ : ∃ w2, w2 = (((w1.drewN nq).setCell ⟨go, r0.length * 5, none⟩ (.int .i64 4)).setCell ⟨go, r0.length * 5 + 4, none⟩ (.bool false)) := ⟨_, rfl⟩
  have HL2 : Hid (OneL X w2 L cv { s1 with cs := { c0 with op := 4, dead := false } :: r0 } ⟨4, X.c.imm, 0, 0⟩) := by
    rw [hw2]; exact FIN1.out nq
  have HW2 : Hid (w2 = _) := hw2
  clear hw2
  go_wp2
  rw [← HW2.out]
  clear HW2 FIN1 HL1 e0' e3' e4' fz0 fz4
  clear i0 i1 i2 o0 o1 o2 o3 of p4 k0 k1 kf m0 m1 m2 m3 m4 gf lc lo lp lk lg
  obtain ⟨i0, i1, i2, o0, o1, o2, o3, of, p4, k0, k1, kf, m0, m1, m2, m3, m4, gf, lc, lo, lp, lk, lg⟩ := HL2.out.facts HX.out CTX.out.me
  rw [hsv] at m3
  obtain ⟨go2, ha2, hcl3, _, hlt3, _⟩ := HL2.out.k.at 0 (c := { c0 with op := 4, dead := false }) rfl
  obtain rfl : go = go2 := by rw [ha] at ha2; simpa using ha2
  have e3' := hcl3 3 (by omega)
  simp [ctlCells] at e3'
  rw [HTA.out] at e3'
  clear hcl3
  refine wp_region_two [0, 1, 2, 3, 4, 5, 6, 7] 8 [9, 10, 11, 12, 13] 14 (fun x => x = w2.drew) (by kernel_rfl) (by kernel_rfl) (fun _ _ _ _ _ h => h) rfl [_, _, _, _, _, _, _, _] rfl _ rfl [_, _, _, _, _] rfl ?_
  simp only [List.getElem_toArray, List.getElem_cons_zero, List.getElem_cons_succ]
  repeat go_big_quiet_step (fail)
  refine wpQuiet_nil ?_
  go_wp2_with fail
  refine (ends_any X.src (some ⟨gs, 0, none⟩) scap ta _ (by have := HL2.out.drew.src; rw [hsv] at this; exact this) (by omega) htal).mono ?_
  rintro e w4 ⟨rfl, rfl⟩
  go_wp2
  refine ⟨trivial, ?_⟩
  repeat go_big_quiet_step (fail)
  refine wpQuiet_nil ?_
  unfold wpChain
  simp only [List.drop_succ_cons, List.drop_zero, List.drop_nil]
  rw [HTE.out]
  have HL3 : Hid (OneL X _ L cv { s1 with cs := { c0 with op := 4, dead := false } :: r0 } ⟨4, X.c.imm, 0, 0⟩) := HL2.out.drew
  go_wp2_with fail
  refine (pos_any X.src (some ⟨gs, 0, none⟩) scap te _ (by have := HL3.out.src; rw [hsv] at this; exact this) (by omega) htel CTX.out.tab).mono ?_
  rintro e w5 ⟨rfl, rfl⟩
  have HL4 := (HL2.out.setImm HX.out (posM X.src te)).drew
  obtain ⟨w6, hw6⟩ : ∃ w6, w6 = (w2.setCell ⟨X.bo, 1, none⟩ (.int .i64 (posM X.src te))).drew := ⟨_, rfl⟩
  rw [← hw6] at HL4
  have H6 : Hid (OneL X w6 L cv { s1 with cs := { c0 with op := 4, dead := false } :: r0 } ⟨4, posM X.src te, 0, 0⟩) := HL4
  have HW6 : Hid (w6 = (w2.setCell ⟨X.bo, 1, none⟩ (.int .i64 (posM X.src te))).drew) := hw6
  clear hw6 HL4 HL3
  go_wp2
  rw [← HW6.out]
  clear HW6
  clear i0 i1 i2 o0 o1 o2 o3 of p4 k0 k1 kf m0 m1 m2 m3 m4 gf lc lo lp lk lg
  obtain ⟨i09, i19, i29, o09, o19, o29, o39, of9, p49, k09, k19, kf9, m09, m19, m29, m39, m49, gf9, lc9, lo9, lp9, lk9, lg9⟩ := H6.out.facts HX.out CTX.out.me
  clear i09 i19 i29 p49 k09 k19 kf9 m09 m19 m29 m39 lc9 lp9 lk9
  have hcl9 : ({ s1 with cs := { c0 with op := 4, dead := false } :: r0 } : Mk).code.length ≤ 600 := by show s1.code.length ≤ 600; rw [HCC.out]; have := CODELEN.out; omega
  refine wp_region_app rowFlat 6 (by kernel_rfl) (by kernel_rfl) (fun _ _ _ _ _ h => h) _ _ _ rfl (.tmp 511) (.tmp 510) 512 513 rfl rfl rfl rfl rfl rfl _ _ _ H6.out.code (.agg #[.int .i64 (4), .int .i64 (posM X.src te), .int .i64 (0), .int .i64 (0)]) rfl (by decide) (by simp [Value.cells, Value.oneCell']) (by omega) ?_
  intro g2 cap w99 q1 q2 q3 q4
  have FIN : Hid (OneL X _ _ _ _ _) := H6.out.app HX.out q2 (by simpa [Flat.cells, Value.cells] using q1) q3
  obtain ⟨y09, y19, y29, y39, y49, yf9⟩ := H6.out.mid HX.out CTX.out.me q2
  clear q1 q2 q3 q4 H6
  simp only [List.take_succ_cons, List.take_zero]
  repeat go_big_quiet_step (fail)
  refine wpQuiet_nil ⟨rfl, rfl, by simp, rfl, ?_⟩
  go_wp2_with fail
  refine (typed_any ok1 _).mono ?_
  rintro e w8 ⟨rfl, rfl⟩
  go_wp2
  go_ret
  rw [E1.out, ← HCC.out]
  exact ⟨rfl, FIN.out.fr, fun _ => ⟨_, _, _, FIN.out⟩⟩
end Go.Proofs.Qxb6500575aGreatDoor
