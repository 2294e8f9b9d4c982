/-
  THE WALKS of prepm.Prog.one: br, br_if (written by tools/gen_mone.py).
-/
import Derived.Test.Qxb6500575aGreatDoorMOne1
namespace Go.Proofs.Qxb6500575aGreatDoor
open Go Go.RowKit
set_option linter.unusedVariables false
set_option linter.unusedSimpArgs false

set_option maxRecDepth 100000 in
set_option maxHeartbeats 4000000 in
theorem mone_6 (X : OneP) (L : MkL) (cv : Value) (s : Mk) (E : Env) (i : Nat) (c0 : Ctl) (r0 : List Ctl) (h : OneCtx X L cv s E i c0 r0) (hop : X.c.op = 6) (him : 0 ≤ X.c.imm) :
    Calls Tryz.prog 58 #[.pointer (some ⟨X.bp, 0, none⟩), .pointer (some ⟨X.bk, 0, none⟩), .pointer (some ⟨X.g, X.f * 5, none⟩), .int .i64 i] X.w0 fun e w' => OnePost X (s.one E X.src i X.c) e w' := by
  have CODELEN : Hid (s.code.length ≤ 500) := h.code
  have HIM : Hid (0 ≤ X.c.imm) := him
  clear him
  have EONE : Hid (s.one E X.src i X.c = if s.cs.length ≤ X.c.imm.toNat then (s, 5) else ({ (s.pops (s.label X.c.imm.toNat)).1.kill with code := (s.pops (s.label X.c.imm.toNat)).1.kill.code ++ [s.jump X.src X.c.imm.toNat] }, typedM (s.pops (s.label X.c.imm.toNat)).2)) := by
    show _ = _
    (try rw [Mk.kill_code])
    simp only [Mk.one, hop]
    simp
    (try rfl)
  have hX := h.inn.ok
  obtain ⟨gs, scap, hsv, hgl, q0, q1, q2, hil⟩ := h.at
  obtain ⟨m0, m2, m3, lg⟩ := h.inn.pre h.me
  have hsl := h.sl
  have hsst := h.st
  have hscs := h.cs
  have hscd := h.code
  have hfl := h.fl
  have hmp := h.ps E.me (List.mem_of_getElem? h.me)
  obtain ⟨hmp1, hmp2, hmp3⟩ := hmp
  have START : Hid (∀ n, OneL X (((X.w0.alloc (insObj X.c)).alloc (flatObj ⟨X.c.op, X.c.imm, 0, 0⟩)).drewN n) L cv s ⟨X.c.op, X.c.imm, 0, 0⟩) := h.inn.start
  have hbc : Hid (X.w0.heap.size = X.bc) := h.inn.hbc.symm
  have hbo : Hid (X.bc + 1 = X.bo) := by show _ = _; rw [h.inn.hbo, h.inn.hbc]
  have CTX : Hid (OneCtx X L cv s E i c0 r0) := h
  have HX : Hid X.Ok := hX
  have hrl : r0.length ≤ 500 := by have := h.top.cs; have hh := h.cs; rw [this] at hh; simp at hh; omega
  rw [hsv] at m3
  have lg1 : X.g < X.w0.heap.size + 1 := by omega
  have lg2 : X.g < X.w0.heap.size + 1 + 1 := by omega
  have hgl1 : gs < X.w0.heap.size + 1 := by omega
  clear h hX
  go_enter Tryz.func58, Tryz.ntmps58
  go_wp2
  go_quiet (fail)
  rename_i nq
  obtain ⟨W, hW⟩ : ∃ W, W = (((X.w0.alloc (.cells #[.int .i64 6, .int .i64 X.c.imm, .string ⟨X.c.tab.toArray⟩] 67)).alloc (.cells #[.int .i64 6, .int .i64 X.c.imm, .int .i64 0, .int .i64 0] 176)).drewN nq) := ⟨_, rfl⟩
  have ST := START.out nq
  unfold insObj flatObj at ST
  simp only [hop] at ST ⊢
  rw [← hW]
  rw [hbc.out, hbo.out]
  have HL : Hid (OneL X W L cv s ⟨6, X.c.imm, 0, 0⟩) := by rw [hW]; exact ST
  clear ST hW START q0 q1 q2 m0 m2 m3 hbc hbo lg1 lg2 hgl1 lg
  obtain ⟨j, hj⟩ : ∃ j : Nat, X.c.imm = j := ⟨X.c.imm.toNat, by have := HIM.out; omega⟩
  have EJ := EONE.out
  rw [hj] at EJ
  simp only [Int.toNat_natCast] at EJ
  by_cases hjl : s.cs.length ≤ j
  · rw [if_pos hjl] at EJ
    have E0 : Hid (s.one E X.src i X.c = (s, 5)) := EJ
    have FR : Hid (Fr X.S0 X.w0 W) := HL.out.fr
    obtain ⟨i0, i1, i2, o0, o1, o2, o3, of, p4, k0, k1, kf, m0, m1, m2, m3, m4, gf, lc, lo, lp, lk, lg⟩ := HL.out.facts HX.out CTX.out.me
    rw [hsv] at m3
    rw [hj] at i1
    clear EONE EJ
    go_wp2
    go_quiet (fail)
    go_wp2
    go_ret
    rw [E0.out]
    exact ⟨rfl, FR.out.drewN _, fun e => by cases e⟩
  · rw [if_neg hjl] at EJ
    have E0 : Hid (s.one E X.src i X.c = _) := EJ
    clear EONE EJ
    obtain ⟨c, hc⟩ : ∃ c, s.cs[j]? = some c := ⟨_, List.getElem?_eq_getElem (by omega)⟩
    have hcf := CTX.out.fit c (List.mem_of_getElem? hc)
    have hlb : s.label j = c.label := by unfold Mk.label; rw [hc]
    have hjm : s.jump X.src j = c.jump X.src := by unfold Mk.jump; rw [hc]
    have HC1 : Hid (∀ w', OneL X w' L cv s ⟨6, X.c.imm, 0, 0⟩ → _) := fun w' h' => mjump_any X.bk L s X.src (some ⟨gs, 0, none⟩) scap j w' h'.k (by have := h'.src; rw [hsv] at this; exact this) hc hcf (by omega) (by omega) (by omega) CTX.out.tab
    have HC2 : Hid (∀ w', _) := fun w' => label_any c w' hcf.b0 hcf.b1
    have hlab : (s.label j).length ≤ 1 := by rw [hlb]; unfold Ctl.label resOf; split; simp; split <;> simp
    rw [hjm] at E0
    have HLB : Hid (c.label = s.label j) := hlb.symm
    generalize hlg : s.label j = lab at *
    generalize hjg : c.jump X.src = cj at *
    clear hlb hjm hlg
    have hjop : cj.op = 6 := by rw [← hjg]; rfl
    clear hjg
    obtain ⟨jop, jimm, jkeep, jcut⟩ := cj
    simp only at hjop
    subst hjop
    obtain ⟨go, ha, hcl2, hfr2, hlt2, hbo2⟩ := HL.out.k.at j hc
    obtain ⟨m, hm⟩ : ∃ m, s.cs.length = m + 1 + j := ⟨s.cs.length - 1 - j, by omega⟩
    have CELLS : Hid (∀ w', OneL X w' L cv s ⟨6, jimm, jkeep, jcut⟩ → w'.cell? ⟨go, m * 5, none⟩ = some (.int .i64 c.op) ∧ w'.cell? ⟨go, m * 5 + 1, none⟩ = some (.int .i64 c.bt) ∧ w'.cell? ⟨go, m * 5 + 2, none⟩ = some (.int .i64 c.height) ∧ w'.cell? ⟨go, m * 5 + 3, none⟩ = some (.int .i64 c.at_) ∧ w'.cell? ⟨go, m * 5 + 4, none⟩ = some (.bool c.dead) ∧ go < w'.heap.size) := by
      intro w' h'
      obtain ⟨go2, ha2, hcl3, _, hlt3, _⟩ := h'.k.at j hc
      obtain rfl : go = go2 := by rw [ha] at ha2; simpa using ha2
      have hml : s.cs.length - 1 - j = m := by omega
      rw [hml] at hcl3
      exact ⟨by simpa [ctlCells] using hcl3 0 (by omega), by simpa [ctlCells] using hcl3 1 (by omega), by simpa [ctlCells] using hcl3 2 (by omega), by simpa [ctlCells] using hcl3 3 (by omega), by simpa [ctlCells] using hcl3 4 (by omega), hlt3⟩
    clear hcl2 hfr2
    obtain ⟨i0, i1, i2, o0, o1, o2, o3, of, p4, k0, k1, kf, m0, m1, m2, m3, m4, gf, lc, lo, lp, lk, lg⟩ := HL.out.facts HX.out CTX.out.me
    rw [hsv] at m3
    rw [hj] at i1
    go_wp2
    go_quiet (fail)
    go_wp2
    refine wp_region_tail 7 (by kernel_rfl) (by kernel_rfl) (fun _ _ _ _ _ h => h) ?_
    simp only [List.take_succ_cons, List.take_zero, List.drop_succ_cons, List.drop_zero]
    repeat go_big_quiet_step (fail)
    refine wpQuiet_nil ?_
    go_wp2_with fail
    refine (HC1.out _ (by first | exact HL.out | exact HL.out.drew | exact HL.out.drewN _ | exact (HL.out.drewN _).drew | exact (HL.out.drew).drewN _ | exact (HL.out.drewN _).drewN _)).mono ?_
    rintro e w1 ⟨rfl, hf1⟩
    have HL1 : Hid (OneL X w1 L cv s ⟨6, X.c.imm, 0, 0⟩) := OneL.fresh (by first | exact HL.out | exact HL.out.drew | exact HL.out.drewN _ | exact (HL.out.drewN _).drew | exact (HL.out.drew).drewN _ | exact (HL.out.drewN _).drewN _) hf1
    clear hf1 HL HC1
    clear i0 i1 i2 o0 o1 o2 o3 of p4 k0 k1 kf m0 m1 m2 m3 m4 gf lc lo lp lk lg
    have HL2 := (HL1.out.setAll HX.out ⟨6, jimm, jkeep, jcut⟩).setOp HX.out 6
    simp only at HL2
    unfold Flat.val
    obtain ⟨i0, i1, i2, o0, o1, o2, o3, of, p4, k0, k1, kf, m0, m1, m2, m3, m4, gf, lc, lo, lp, lk, lg⟩ := HL1.out.facts HX.out CTX.out.me
    rw [hsv] at m3
    rw [hj] at i1
    rw [hm, ha] at k1
    have nb1 : X.bc ≠ X.bo := HL1.out.ci.ne HL1.out.bo (by decide)
    have nb2 : X.bo ≠ X.bc := fun e => nb1 e.symm
    obtain ⟨w3, hw3⟩ : ∃ w3, w3 = ((((w1.setCell ⟨X.bo, 0, none⟩ (.int .i64 6)).setCell ⟨X.bo, 1, none⟩ (.int .i64 jimm)).setCell ⟨X.bo, 2, none⟩ (.int .i64 jkeep)).setCell ⟨X.bo, 3, none⟩ (.int .i64 jcut)).setCell ⟨X.bo, 0, none⟩ (.int .i64 6) := ⟨_, rfl⟩
    have HL3 : Hid (OneL X w3 L cv s ⟨6, jimm, jkeep, jcut⟩) := by rw [hw3]; exact HL2
    have HW3 : Hid (w3 = _) := hw3
    clear hw3 HL2
    go_wp2
    rw [← HW3.out]
    clear HW3 HL1 nb1 nb2
    clear i0 i1 i2 o0 o1 o2 o3 of p4 k0 k1 kf m0 m1 m2 m3 m4 gf lc lo lp lk lg
    obtain ⟨i0, i1, i2, o0, o1, o2, o3, of, p4, k0, k1, kf, m0, m1, m2, m3, m4, gf, lc, lo, lp, lk, lg⟩ := HL3.out.facts HX.out CTX.out.me
    rw [hsv] at m3
    rw [hj] at i1
    rw [hm, ha] at k1
    obtain ⟨d0, d1, d2, d3, d4, dl⟩ := CELLS.out w3 HL3.out
    refine wp_region_tail 15 (by kernel_rfl) (by kernel_rfl) (fun _ _ _ _ _ h => h) ?_
    simp only [List.take_succ_cons, List.take_zero, List.drop_succ_cons, List.drop_zero]
    repeat go_big_quiet_step (fail)
    refine wpQuiet_nil ?_
    go_wp2_with fail
    refine (HC2.out _).mono ?_
    rintro e w4 ⟨rfl, hf4⟩
    rw [HLB.out]
    have HL4 : Hid (OneL X w4 L cv s ⟨6, jimm, jkeep, jcut⟩) := OneL.fresh (by first | exact HL3.out | exact HL3.out.drew | exact HL3.out.drewN _ | exact (HL3.out.drewN _).drew | exact (HL3.out.drew).drewN _ | exact (HL3.out.drewN _).drewN _) hf4
    clear hf4 HL3 HC2 d0 d1 d2 d3 d4 dl
    clear i0 i1 i2 o0 o1 o2 o3 of p4 k0 k1 kf m0 m1 m2 m3 m4 gf lc lo lp lk lg
    obtain ⟨i0, i1, i2, o0, o1, o2, o3, of, p4, k0, k1, kf, m0, m1, m2, m3, m4, gf, lc, lo, lp, lk, lg⟩ := HL4.out.facts HX.out CTX.out.me
    rw [hsv] at m3
    go_wp2_with fail
    refine (mpops_any X.bk L s lab w4 HL4.out.k CTX.out.top (by omega) (by omega) (by omega)).mono ?_
    rintro e w5 ⟨rfl, g1, g2⟩
    have HL5 : Hid (OneL X w5 L cv (s.pops lab).1 ⟨6, jimm, jkeep, jcut⟩) := HL4.out.chk g1 g2 rfl
    clear g1 g2 HL4
    clear i0 i1 i2 o0 o1 o2 o3 of p4 k0 k1 kf m0 m1 m2 m3 m4 gf lc lo lp lk lg
    have hl5 := s.pops_len2 lab
    have HT5 : Hid ((s.pops lab).1.Top c0 r0) := Mk.pops_top CTX.out.top _
    go_wp2_with fail
    refine (mdead_any X.bk L (s.pops lab).1 w5 HL5.out.k HT5.out (by omega) (by omega)).mono ?_
    rintro e w6 ⟨rfl, g1, g2⟩
    have HL6 : Hid (OneL X w6 L cv (s.pops lab).1.kill ⟨6, jimm, jkeep, jcut⟩) := HL5.out.chk g1 g2 (Mk.kill_code _)
    clear g1 g2 HL5
    go_wp2
    obtain ⟨i09, i19, i29, o09, o19, o29, o39, of9, p49, k09, k19, kf9, m09, m19, m29, m39, m49, gf9, lc9, lo9, lp9, lk9, lg9⟩ := HL6.out.facts HX.out CTX.out.me
    clear i09 i19 i29 p49 k09 k19 kf9 m09 m19 m29 m39 lc9 lp9 lk9
    have hcl9 : ((s.pops lab).1.kill : Mk).code.length ≤ 600 := by rw [Mk.kill_code]; have := CODELEN.out; exact Nat.le_trans this (by decide)
    refine wp_region_app rowFlat 6 (by kernel_rfl) (by kernel_rfl) (fun _ _ _ _ _ h => h) _ _ _ rfl (.tmp 511) (.tmp 510) 512 513 rfl rfl rfl rfl rfl rfl _ _ _ HL6.out.code (.agg #[.int .i64 (6), .int .i64 (jimm), .int .i64 (jkeep), .int .i64 (jcut)]) rfl (by decide) (by simp [Value.cells, Value.oneCell']) (by omega) ?_
    intro g2 cap w99 q1 q2 q3 q4
    have FIN : Hid (OneL X _ _ _ _ _) := HL6.out.app HX.out q2 (by simpa [Flat.cells, Value.cells] using q1) q3
    obtain ⟨y09, y19, y29, y39, y49, yf9⟩ := HL6.out.mid HX.out CTX.out.me q2
    clear q1 q2 q3 q4 HL6
    simp only [List.take_succ_cons, List.take_zero]
    repeat go_big_quiet_step (fail)
    refine wpQuiet_nil ⟨rfl, rfl, by simp, rfl, ?_⟩
    go_wp2_with fail
    refine (typed_any (s.pops lab).2 _).mono ?_
    rintro e w8 ⟨rfl, rfl⟩
    go_wp2
    go_ret
    rw [E0.out]
    exact ⟨rfl, FIN.out.fr, fun _ => ⟨_, _, _, FIN.out⟩⟩
set_option maxRecDepth 100000 in
set_option maxHeartbeats 4000000 in
theorem mone_7 (X : OneP) (L : MkL) (cv : Value) (s : Mk) (E : Env) (i : Nat) (c0 : Ctl) (r0 : List Ctl) (h : OneCtx X L cv s E i c0 r0) (hop : X.c.op = 7) (him : 0 ≤ X.c.imm) :
    Calls Tryz.prog 58 #[.pointer (some ⟨X.bp, 0, none⟩), .pointer (some ⟨X.bk, 0, none⟩), .pointer (some ⟨X.g, X.f * 5, none⟩), .int .i64 i] X.w0 fun e w' => OnePost X (s.one E X.src i X.c) e w' := by
  have CODELEN : Hid (s.code.length ≤ 500) := h.code
  have HIM : Hid (0 ≤ X.c.imm) := him
  clear him
  have EONE : Hid (s.one E X.src i X.c = if s.cs.length ≤ X.c.imm.toNat then (s, 5) else ({ (s.swap (s.label X.c.imm.toNat ++ [105]) (s.label X.c.imm.toNat)).1 with code := s.code ++ [{ s.jump X.src X.c.imm.toNat with op := 7 }] }, typedM (s.swap (s.label X.c.imm.toNat ++ [105]) (s.label X.c.imm.toNat)).2)) := by
    show _ = _
    (try rw [Mk.kill_code])
    simp only [Mk.one, hop]
    simp
    (try rfl)
  have hX := h.inn.ok
  obtain ⟨gs, scap, hsv, hgl, q0, q1, q2, hil⟩ := h.at
  obtain ⟨m0, m2, m3, lg⟩ := h.inn.pre h.me
  have hsl := h.sl
  have hsst := h.st
  have hscs := h.cs
  have hscd := h.code
  have hfl := h.fl
  have hmp := h.ps E.me (List.mem_of_getElem? h.me)
  obtain ⟨hmp1, hmp2, hmp3⟩ := hmp
  have START : Hid (∀ n, OneL X (((X.w0.alloc (insObj X.c)).alloc (flatObj ⟨X.c.op, X.c.imm, 0, 0⟩)).drewN n) L cv s ⟨X.c.op, X.c.imm, 0, 0⟩) := h.inn.start
  have hbc : Hid (X.w0.heap.size = X.bc) := h.inn.hbc.symm
  have hbo : Hid (X.bc + 1 = X.bo) := by show _ = _; rw [h.inn.hbo, h.inn.hbc]
  have CTX : Hid (OneCtx X L cv s E i c0 r0) := h
  have HX : Hid X.Ok := hX
  have hrl : r0.length ≤ 500 := by have := h.top.cs; have hh := h.cs; rw [this] at hh; simp at hh; omega
  rw [hsv] at m3
  have lg1 : X.g < X.w0.heap.size + 1 := by omega
  have lg2 : X.g < X.w0.heap.size + 1 + 1 := by omega
  have hgl1 : gs < X.w0.heap.size + 1 := by omega
  clear h hX
  go_enter Tryz.func58, Tryz.ntmps58
  go_wp2
  go_quiet (fail)
  rename_i nq
  obtain ⟨W, hW⟩ : ∃ W, W = (((X.w0.alloc (.cells #[.int .i64 7, .int .i64 X.c.imm, .string ⟨X.c.tab.toArray⟩] 67)).alloc (.cells #[.int .i64 7, .int .i64 X.c.imm, .int .i64 0, .int .i64 0] 176)).drewN nq) := ⟨_, rfl⟩
  have ST := START.out nq
  unfold insObj flatObj at ST
  simp only [hop] at ST ⊢
  rw [← hW]
  rw [hbc.out, hbo.out]
  have HL : Hid (OneL X W L cv s ⟨7, X.c.imm, 0, 0⟩) := by rw [hW]; exact ST
  clear ST hW START q0 q1 q2 m0 m2 m3 hbc hbo lg1 lg2 hgl1 lg
  obtain ⟨j, hj⟩ : ∃ j : Nat, X.c.imm = j := ⟨X.c.imm.toNat, by have := HIM.out; omega⟩
  have EJ := EONE.out
  rw [hj] at EJ
  simp only [Int.toNat_natCast] at EJ
  by_cases hjl : s.cs.length ≤ j
  · rw [if_pos hjl] at EJ
    have E0 : Hid (s.one E X.src i X.c = (s, 5)) := EJ
    have FR : Hid (Fr X.S0 X.w0 W) := HL.out.fr
    obtain ⟨i0, i1, i2, o0, o1, o2, o3, of, p4, k0, k1, kf, m0, m1, m2, m3, m4, gf, lc, lo, lp, lk, lg⟩ := HL.out.facts HX.out CTX.out.me
    rw [hsv] at m3
    rw [hj] at i1
    clear EONE EJ
    go_wp2
    go_quiet (fail)
    go_wp2
    go_ret
    rw [E0.out]
    exact ⟨rfl, FR.out.drewN _, fun e => by cases e⟩
  · rw [if_neg hjl] at EJ
    have E0 : Hid (s.one E X.src i X.c = _) := EJ
    clear EONE EJ
    obtain ⟨c, hc⟩ : ∃ c, s.cs[j]? = some c := ⟨_, List.getElem?_eq_getElem (by omega)⟩
    have hcf := CTX.out.fit c (List.mem_of_getElem? hc)
    have hlb : s.label j = c.label := by unfold Mk.label; rw [hc]
    have hjm : s.jump X.src j = c.jump X.src := by unfold Mk.jump; rw [hc]
    have HC1 : Hid (∀ w', OneL X w' L cv s ⟨7, X.c.imm, 0, 0⟩ → _) := fun w' h' => mjump_any X.bk L s X.src (some ⟨gs, 0, none⟩) scap j w' h'.k (by have := h'.src; rw [hsv] at this; exact this) hc hcf (by omega) (by omega) (by omega) CTX.out.tab
    have HC2 : Hid (∀ w', _) := fun w' => label_any c w' hcf.b0 hcf.b1
    have hlab : (s.label j).length ≤ 1 := by rw [hlb]; unfold Ctl.label resOf; split; simp; split <;> simp
    rw [hjm] at E0
    have HLB : Hid (c.label = s.label j) := hlb.symm
    generalize hlg : s.label j = lab at *
    generalize hjg : c.jump X.src = cj at *
    clear hlb hjm hlg
    have hjop : cj.op = 6 := by rw [← hjg]; rfl
    clear hjg
    obtain ⟨jop, jimm, jkeep, jcut⟩ := cj
    simp only at hjop
    subst hjop
    obtain ⟨go, ha, hcl2, hfr2, hlt2, hbo2⟩ := HL.out.k.at j hc
    obtain ⟨m, hm⟩ : ∃ m, s.cs.length = m + 1 + j := ⟨s.cs.length - 1 - j, by omega⟩
    have CELLS : Hid (∀ w', OneL X w' L cv s ⟨7, jimm, jkeep, jcut⟩ → w'.cell? ⟨go, m * 5, none⟩ = some (.int .i64 c.op) ∧ w'.cell? ⟨go, m * 5 + 1, none⟩ = some (.int .i64 c.bt) ∧ w'.cell? ⟨go, m * 5 + 2, none⟩ = some (.int .i64 c.height) ∧ w'.cell? ⟨go, m * 5 + 3, none⟩ = some (.int .i64 c.at_) ∧ w'.cell? ⟨go, m * 5 + 4, none⟩ = some (.bool c.dead) ∧ go < w'.heap.size) := by
      intro w' h'
      obtain ⟨go2, ha2, hcl3, _, hlt3, _⟩ := h'.k.at j hc
      obtain rfl : go = go2 := by rw [ha] at ha2; simpa using ha2
      have hml : s.cs.length - 1 - j = m := by omega
      rw [hml] at hcl3
      exact ⟨by simpa [ctlCells] using hcl3 0 (by omega), by simpa [ctlCells] using hcl3 1 (by omega), by simpa [ctlCells] using hcl3 2 (by omega), by simpa [ctlCells] using hcl3 3 (by omega), by simpa [ctlCells] using hcl3 4 (by omega), hlt3⟩
    clear hcl2 hfr2
    obtain ⟨i0, i1, i2, o0, o1, o2, o3, of, p4, k0, k1, kf, m0, m1, m2, m3, m4, gf, lc, lo, lp, lk, lg⟩ := HL.out.facts HX.out CTX.out.me
    rw [hsv] at m3
    rw [hj] at i1
    go_wp2
    go_quiet (fail)
    go_wp2
    refine wp_region_tail 7 (by kernel_rfl) (by kernel_rfl) (fun _ _ _ _ _ h => h) ?_
    simp only [List.take_succ_cons, List.take_zero, List.drop_succ_cons, List.drop_zero]
    repeat go_big_quiet_step (fail)
    refine wpQuiet_nil ?_
    go_wp2_with fail
    refine (HC1.out _ (by first | exact HL.out | exact HL.out.drew | exact HL.out.drewN _ | exact (HL.out.drewN _).drew | exact (HL.out.drew).drewN _ | exact (HL.out.drewN _).drewN _)).mono ?_
    rintro e w1 ⟨rfl, hf1⟩
    have HL1 : Hid (OneL X w1 L cv s ⟨7, X.c.imm, 0, 0⟩) := OneL.fresh (by first | exact HL.out | exact HL.out.drew | exact HL.out.drewN _ | exact (HL.out.drewN _).drew | exact (HL.out.drew).drewN _ | exact (HL.out.drewN _).drewN _) hf1
    clear hf1 HL HC1
    clear i0 i1 i2 o0 o1 o2 o3 of p4 k0 k1 kf m0 m1 m2 m3 m4 gf lc lo lp lk lg
    have HL2 := (HL1.out.setAll HX.out ⟨6, jimm, jkeep, jcut⟩).setOp HX.out 7
    simp only at HL2
    unfold Flat.val
    obtain ⟨i0, i1, i2, o0, o1, o2, o3, of, p4, k0, k1, kf, m0, m1, m2, m3, m4, gf, lc, lo, lp, lk, lg⟩ := HL1.out.facts HX.out CTX.out.me
    rw [hsv] at m3
    rw [hj] at i1
    rw [hm, ha] at k1
    have nb1 : X.bc ≠ X.bo := HL1.out.ci.ne HL1.out.bo (by decide)
    have nb2 : X.bo ≠ X.bc := fun e => nb1 e.symm
    obtain ⟨w3, hw3⟩ : ∃ w3, w3 = ((((w1.setCell ⟨X.bo, 0, none⟩ (.int .i64 6)).setCell ⟨X.bo, 1, none⟩ (.int .i64 jimm)).setCell ⟨X.bo, 2, none⟩ (.int .i64 jkeep)).setCell ⟨X.bo, 3, none⟩ (.int .i64 jcut)).setCell ⟨X.bo, 0, none⟩ (.int .i64 7) := ⟨_, rfl⟩
    have HL3 : Hid (OneL X w3 L cv s ⟨7, jimm, jkeep, jcut⟩) := by rw [hw3]; exact HL2
    have HW3 : Hid (w3 = _) := hw3
    clear hw3 HL2
    go_wp2
    rw [← HW3.out]
    clear HW3 HL1 nb1 nb2
    clear i0 i1 i2 o0 o1 o2 o3 of p4 k0 k1 kf m0 m1 m2 m3 m4 gf lc lo lp lk lg
    obtain ⟨i0, i1, i2, o0, o1, o2, o3, of, p4, k0, k1, kf, m0, m1, m2, m3, m4, gf, lc, lo, lp, lk, lg⟩ := HL3.out.facts HX.out CTX.out.me
    rw [hsv] at m3
    rw [hj] at i1
    rw [hm, ha] at k1
    obtain ⟨d0, d1, d2, d3, d4, dl⟩ := CELLS.out w3 HL3.out
    refine wp_region_tail 15 (by kernel_rfl) (by kernel_rfl) (fun _ _ _ _ _ h => h) ?_
    simp only [List.take_succ_cons, List.take_zero, List.drop_succ_cons, List.drop_zero]
    repeat go_big_quiet_step (fail)
    refine wpQuiet_nil ?_
    go_wp2_with fail
    refine (HC2.out _).mono ?_
    rintro e w4 ⟨rfl, hf4⟩
    rw [HLB.out]
    have HL4 : Hid (OneL X w4 L cv s ⟨7, jimm, jkeep, jcut⟩) := OneL.fresh (by first | exact HL3.out | exact HL3.out.drew | exact HL3.out.drewN _ | exact (HL3.out.drewN _).drew | exact (HL3.out.drew).drewN _ | exact (HL3.out.drewN _).drewN _) hf4
    clear hf4 HL3 HC2 d0 d1 d2 d3 d4 dl
    clear i0 i1 i2 o0 o1 o2 o3 of p4 k0 k1 kf m0 m1 m2 m3 m4 gf lc lo lp lk lg
    obtain ⟨i0, i1, i2, o0, o1, o2, o3, of, p4, k0, k1, kf, m0, m1, m2, m3, m4, gf, lc, lo, lp, lk, lg⟩ := HL4.out.facts HX.out CTX.out.me
    rw [hsv] at m3
    have hap : sv lab = .string ⟨lab.toArray⟩ := rfl
    go_wp2_with fail
    rw [show (Value.string (⟨lab.toArray⟩ ++ ⟨#[105]⟩)) = sv (lab ++ [105]) from by congr 1]
    refine (mswap_any X.bk L s (lab ++ [105]) lab w4 HL4.out.k CTX.out.top (by omega) (by omega) (by simp; omega) (by omega)).mono ?_
    rintro e w5 ⟨sa, sc, rfl, g1, g2⟩
    have HL5 : Hid (OneL X w5 { L with sa := sa, sc := sc } cv (s.swap (lab ++ [105]) lab).1 ⟨7, jimm, jkeep, jcut⟩) := HL4.out.chk g1 g2 rfl
    clear g1 g2 HL4
    clear i0 i1 i2 o0 o1 o2 o3 of p4 k0 k1 kf m0 m1 m2 m3 m4 gf lc lo lp lk lg
    go_wp2
    obtain ⟨i09, i19, i29, o09, o19, o29, o39, of9, p49, k09, k19, kf9, m09, m19, m29, m39, m49, gf9, lc9, lo9, lp9, lk9, lg9⟩ := HL5.out.facts HX.out CTX.out.me
    clear i09 i19 i29 p49 k09 k19 kf9 m09 m19 m29 m39 lc9 lp9 lk9
    have hcl9 : ((s.swap (lab ++ [105]) lab).1 : Mk).code.length ≤ 600 := by have := CODELEN.out; exact Nat.le_trans this (by decide)
    refine wp_region_app rowFlat 6 (by kernel_rfl) (by kernel_rfl) (fun _ _ _ _ _ h => h) _ _ _ rfl (.tmp 511) (.tmp 510) 512 513 rfl rfl rfl rfl rfl rfl _ _ _ HL5.out.code (.agg #[.int .i64 (7), .int .i64 (jimm), .int .i64 (jkeep), .int .i64 (jcut)]) rfl (by decide) (by simp [Value.cells, Value.oneCell']) (by omega) ?_
    intro g2 cap w99 q1 q2 q3 q4
    have FIN : Hid (OneL X _ _ _ _ _) := HL5.out.app HX.out q2 (by simpa [Flat.cells, Value.cells] using q1) q3
    obtain ⟨y09, y19, y29, y39, y49, yf9⟩ := HL5.out.mid HX.out CTX.out.me q2
    clear q1 q2 q3 q4 HL5
    simp only [List.take_succ_cons, List.take_zero]
    repeat go_big_quiet_step (fail)
    refine wpQuiet_nil ⟨rfl, rfl, by simp, rfl, ?_⟩
    go_wp2_with fail
    refine (typed_any (s.swap (lab ++ [105]) lab).2 _).mono ?_
    rintro e w8 ⟨rfl, rfl⟩
    go_wp2
    go_ret
    rw [E0.out]
    exact ⟨rfl, FIN.out.fr, fun _ => ⟨_, _, _, FIN.out⟩⟩
end Go.Proofs.Qxb6500575aGreatDoor
