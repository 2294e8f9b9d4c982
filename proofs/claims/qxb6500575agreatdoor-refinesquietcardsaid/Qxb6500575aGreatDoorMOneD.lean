/-
  THE WALKS of prepm.Prog.one: if, else (written by tools/gen_mone.py).
-/
import Derived.Test.Qxb6500575aGreatDoorMOne1
import Derived.Test.Qxb6500575aGreatDoorReg3
namespace Go.Proofs.Qxb6500575aGreatDoor
open Go Go.RowKit
set_option linter.unusedVariables false
set_option linter.unusedSimpArgs false

set_option maxRecDepth 100000 in
set_option maxHeartbeats 4000000 in
theorem mone_3 (X : OneP) (L : MkL) (cv : Value) (s : Mk) (E : Env) (i : Nat) (c0 : Ctl) (r0 : List Ctl) (h : OneCtx X L cv s E i c0 r0) (hop : X.c.op = 3) :
    Calls Tryz.prog 58 #[.pointer (some ⟨X.bp, 0, none⟩), .pointer (some ⟨X.bk, 0, none⟩), .pointer (some ⟨X.g, X.f * 5, none⟩), .int .i64 i] X.w0 fun e w' => OnePost X (s.one E X.src i X.c) e w' := by
  have E0 : Hid (s.one E X.src i X.c = ({ st := (s.pops [105]).1.st, cs := ⟨3, X.c.imm, (s.pops [105]).1.st.length, i, false⟩ :: s.cs, code := s.code ++ [⟨3, posM X.src (altT X.src i).toNat, 0, 0⟩] }, typedM (s.pops [105]).2)) := by
    show _ = _
    simp [Mk.one, hop]
  have CODELEN : Hid (s.code.length ≤ 500) := h.code
  have hX := h.inn.ok
  obtain ⟨gs, scap, hsv, hgl, q0, q1, q2, hil⟩ := h.at
  obtain ⟨m0, m2, m3, lg⟩ := h.inn.pre h.me
  have hsl := h.sl
  have hsst := h.st
  have hscs := h.cs
  have hscd := h.code
  have hfl := h.fl
  have hmp := h.ps E.me (List.mem_of_getElem? h.me)
  obtain ⟨hmp1, hmp2, hmp3⟩ := hmp
  have START : Hid (∀ n, OneL X (((X.w0.alloc (insObj X.c)).alloc (flatObj ⟨X.c.op, X.c.imm, 0, 0⟩)).drewN n) L cv s ⟨X.c.op, X.c.imm, 0, 0⟩) := h.inn.start
  have hbc : Hid (X.w0.heap.size = X.bc) := h.inn.hbc.symm
  have hbo : Hid (X.bc + 1 = X.bo) := by show _ = _; rw [h.inn.hbo, h.inn.hbc]
  have CTX : Hid (OneCtx X L cv s E i c0 r0) := h
  have HX : Hid X.Ok := hX
  have hrl : r0.length ≤ 500 := by have := h.top.cs; have hh := h.cs; rw [this] at hh; simp at hh; omega
  rw [hsv] at m3
  have lg1 : X.g < X.w0.heap.size + 1 := by omega
  have lg2 : X.g < X.w0.heap.size + 1 + 1 := by omega
  have hgl1 : gs < X.w0.heap.size + 1 := by omega
  clear h hX
  go_enter Tryz.func58, Tryz.ntmps58
  go_wp2
  go_quiet (fail)
  rename_i nq
  obtain ⟨W, hW⟩ : ∃ W, W = (((X.w0.alloc (.cells #[.int .i64 3, .int .i64 X.c.imm, .string ⟨X.c.tab.toArray⟩] 67)).alloc (.cells #[.int .i64 3, .int .i64 X.c.imm, .int .i64 0, .int .i64 0] 176)).drewN nq) := ⟨_, rfl⟩
  have ST := START.out nq
  unfold insObj flatObj at ST
  simp only [hop] at ST ⊢
  rw [← hW]
  rw [hbc.out, hbo.out]
  have HL : Hid (OneL X W L cv s ⟨3, X.c.imm, 0, 0⟩) := by rw [hW]; exact ST
  clear ST hW START q0 q1 q2 m0 m2 m3 hbc hbo lg1 lg2 hgl1 lg
  have CSLEN : Hid ((s.pops [105]).1.cs.length ≤ 500) := CTX.out.cs
  have her := endsM_range hil
  have hlp := s.pops_len2 [105]
  obtain ⟨tg, htg⟩ : ∃ tg : Nat, altT X.src i = tg ∧ tg ≤ X.src.length := by
    unfold altT
    split
    · exact ⟨((endsM X.src i).1 + 1).toNat, by omega, by omega⟩
    · exact ⟨((endsM X.src i).2).toNat, by omega, by omega⟩
  have htgl := htg.2
  have E1 : Hid (s.one E X.src i X.c = ({ st := (s.pops [105]).1.st, cs := ⟨3, X.c.imm, (s.pops [105]).1.st.length, i, false⟩ :: s.cs, code := s.code ++ [⟨3, posM X.src tg, 0, 0⟩] }, typedM (s.pops [105]).2)) := by
    have := E0.out
    rw [htg.1] at this
    show _ = _
    simpa using this
  have HA : Hid (altT X.src i = tg) := htg.1
  clear E0 htg
  obtain ⟨i0, i1, i2, o0, o1, o2, o3, of, p4, k0, k1, kf, m0, m1, m2, m3, m4, gf, lc, lo, lp, lk, lg⟩ := HL.out.facts HX.out CTX.out.me
  rw [hsv] at m3
  go_wp2_with fail
  refine (mpops_any X.bk L s [105] W HL.out.k CTX.out.top (by omega) (by omega) (by simp)).mono ?_
  rintro e w1 ⟨rfl, g1, g2⟩
  have HL1 : Hid (OneL X w1 L cv (s.pops [105]).1 ⟨3, X.c.imm, 0, 0⟩) := HL.out.chk g1 g2 rfl
  clear g1 g2 HL
  clear i0 i1 i2 o0 o1 o2 o3 of p4 k0 k1 kf m0 m1 m2 m3 m4 gf lc lo lp lk lg
  obtain ⟨i0, i1, i2, o0, o1, o2, o3, of, p4, k0, k1, kf, m0, m1, m2, m3, m4, gf, lc, lo, lp, lk, lg⟩ := HL1.out.facts HX.out CTX.out.me
  rw [hsv] at m3
  go_wp2_with fail
  refine (ends_any X.src (some ⟨gs, 0, none⟩) scap i w1 (by have := HL1.out.src; rw [hsv] at this; exact this) (by omega) hil).mono ?_
  rintro e w4 ⟨rfl, rfl⟩
  have ha := HA.out
  unfold altT at ha
  clear HA
  generalize endsM X.src i = en at *
  obtain ⟨els, en⟩ := en
  simp only at ha her ⊢
  by_cases hels : 0 ≤ els
  · rw [if_pos hels] at ha
    have HA2 : Hid (els + 1 = (tg : Int)) := ha
    clear ha
    go_wp2_with fail
    rw [HA2.out]
    refine (pos_any X.src (some ⟨gs, 0, none⟩) scap tg w4 (by have := HL1.out.src; rw [hsv] at this; exact this) (by omega) htgl CTX.out.tab).mono ?_
    rintro e w5 ⟨rfl, rfl⟩
    have HL2 : OneL X _ L cv (s.pops [105]).1 ⟨3, posM X.src tg, 0, 0⟩ := HL1.out.setImm HX.out (posM X.src tg)
    clear HL1
    obtain ⟨w6, hw6⟩ : ∃ w6, w6 = w5.setCell ⟨X.bo, 1, none⟩ (.int .i64 (posM X.src tg)) := ⟨_, rfl⟩
    rw [← hw6] at HL2
    have H6 : Hid (OneL X w6 L cv (s.pops [105]).1 ⟨3, posM X.src tg, 0, 0⟩) := HL2
    have HW6 : Hid (w6 = w5.setCell ⟨X.bo, 1, none⟩ (.int .i64 (posM X.src tg))) := hw6
    clear hw6 HL2
    go_wp2
    rw [← HW6.out]
    clear HW6
    clear i0 i1 i2 o0 o1 o2 o3 of p4 k0 k1 kf m0 m1 m2 m3 m4 gf lc lo lp lk lg
    obtain ⟨i07, i17, i27, o07, o17, o27, o37, of7, p47, k07, k17, kf7, m07, m17, m27, m37, m47, gf7, lc7, lo7, lp7, lk7, lg7⟩ := H6.out.facts HX.out CTX.out.me
    clear i07 i17 i27 p47 k07 k17 kf7 m07 m17 m27 m37 lc7 lp7 lk7
    have hcl7 : ((s.pops [105]).1 : Mk).code.length ≤ 600 := by have := CODELEN.out; exact Nat.le_trans this (by decide)
    refine wp_region_app rowFlat 6 (by kernel_rfl) (by kernel_rfl) (fun _ _ _ _ _ h => h) _ _ _ rfl (.tmp 98) (.tmp 97) 99 100 rfl rfl rfl rfl rfl rfl _ _ _ H6.out.code (.agg #[.int .i64 (3), .int .i64 (posM X.src tg), .int .i64 (0), .int .i64 (0)]) rfl (by decide) (by simp [Value.cells, Value.oneCell']) (by omega) ?_
    intro g2 cap w97 q1 q2 q3 q4
    have H7 : Hid (OneL X _ _ _ _ _) := H6.out.app HX.out q2 (by simpa [Flat.cells, Value.cells] using q1) q3
    obtain ⟨y07, y17, y27, y37, y47, yf7⟩ := H6.out.mid HX.out CTX.out.me q2
    clear q1 q2 q3 q4 H6
    simp only [List.take_succ_cons, List.take_zero]
    repeat go_big_quiet_step (fail)
    refine wpQuiet_nil ⟨rfl, rfl, by simp, rfl, ?_⟩
    obtain ⟨w7, hw7⟩ : ∃ w7, w7 = w97.setCell ⟨X.g, X.f * 5 + 4, none⟩ (.slice (some ⟨g2, 0, none⟩) ((s.pops [105]).1.code.length + 1) cap) := ⟨_, rfl⟩
    rw [← hw7] at H7
    have HW7 : Hid (w7 = w97.setCell ⟨X.g, X.f * 5 + 4, none⟩ (.slice (some ⟨g2, 0, none⟩) ((s.pops [105]).1.code.length + 1) cap)) := hw7
    clear hw7
    go_wp2
    rw [← HW7.out]
    clear HW7 y07 y17 y27 y37 y47 yf7 o07 o17 o27 o37 of7 m47 gf7 lo7 lg7
    obtain ⟨i0, i1, i2, o0, o1, o2, o3, of, p4, k0, k1, kf, m0, m1, m2, m3, m4, gf, lc, lo, lp, lk, lg⟩ := H7.out.facts HX.out CTX.out.me
    rw [hsv] at m3
    have hcsl : ({ (s.pops [105]).1 with code := (s.pops [105]).1.code ++ [⟨3, posM X.src tg, 0, 0⟩] } : Mk).cs.length ≤ 500 := CSLEN.out
    have rk : Hid (MkRep w7 X.bk L ({ (s.pops [105]).1 with code := (s.pops [105]).1.code ++ [⟨3, posM X.src tg, 0, 0⟩] })) := H7.out.k
    refine wp_region_app rowCtl 16 (by kernel_rfl) (by kernel_rfl) (fun _ _ _ _ _ h => h) _ _ _ rfl (.tmp 118) (.tmp 107) 119 120 rfl rfl rfl rfl rfl rfl _ _ _ rk.out.cs (.agg #[.int .i64 3, .int .i64 X.c.imm, .int .i64 ((({ (s.pops [105]).1 with code := (s.pops [105]).1.code ++ [⟨3, posM X.src tg, 0, 0⟩] } : Mk)).st.length : Nat), .int .i64 i, .bool false]) rfl (by decide) (by simp [Value.cells, Value.oneCell']) (by omega) ?_
    intro g cap w2 q1 q2 q3 q4
    have hne := owns_ne rk.out.cs rk.out.here (by decide)
    have hH2 : Has w2 X.bk _ _ := (rk.out.here.alloc _).fr q2 hne
    have hI2 : Has w2 X.bc _ _ := (H7.out.ci.alloc _).fr q2 (owns_ne rk.out.cs H7.out.ci (by decide))
    have z0 := hH2.cell 0
    have z1 := hH2.cell 1
    have u0 := hI2.cell 0
    have u1 := hI2.cell 1
    simp at z0 z1 u0 u1
    have zf1 := hH2.frozen 1
    obtain ⟨n1, n2, n3, n4, n5⟩ := app_net rk.out.here hne q2 q1 (by decide) q3 q4 1
    have fin := rk.out.putCs (⟨3, X.c.imm, ({ (s.pops [105]).1 with code := (s.pops [105]).1.code ++ [⟨3, posM X.src tg, 0, 0⟩] } : Mk).st.length, i, false⟩ :: ({ (s.pops [105]).1 with code := (s.pops [105]).1.code ++ [⟨3, posM X.src tg, 0, 0⟩] } : Mk).cs) (ca2 := some ⟨g, 0, none⟩) (cc2 := cap) n1 (by simpa using n2) (by simpa [ctlCells, Value.cells] using n3) (fun k hk => by simp [Value.ownBlock] at hk; subst hk; exact n4)
    have FIN : Hid (OneL X _ _ _ _ _) := H7.out.chk fin.1 fin.2 rfl
    clear fin n1 n2 n3 n4 n5 q1 q2 q3 q4 hH2 hI2 hne H7 rk
    simp only [List.take_succ_cons, List.take_zero]
    repeat go_big_quiet_step (fail)
    refine wpQuiet_nil ⟨rfl, rfl, by simp, rfl, ?_⟩
    go_wp2_with fail
    refine (typed_any (s.pops [105]).2 _).mono ?_
    rintro e w8 ⟨rfl, rfl⟩
    go_wp2
    go_ret
    rw [E1.out]
    exact ⟨rfl, FIN.out.fr, fun _ => ⟨_, _, _, FIN.out⟩⟩
  · rw [if_neg hels] at ha
    subst ha
    go_wp2_with fail
    refine (pos_any X.src (some ⟨gs, 0, none⟩) scap tg w4 (by have := HL1.out.src; rw [hsv] at this; exact this) (by omega) htgl CTX.out.tab).mono ?_
    rintro e w5 ⟨rfl, rfl⟩
    have HL2 : OneL X _ L cv (s.pops [105]).1 ⟨3, posM X.src tg, 0, 0⟩ := HL1.out.setImm HX.out (posM X.src tg)
    clear HL1
    obtain ⟨w6, hw6⟩ : ∃ w6, w6 = w5.setCell ⟨X.bo, 1, none⟩ (.int .i64 (posM X.src tg)) := ⟨_, rfl⟩
    rw [← hw6] at HL2
    have H6 : Hid (OneL X w6 L cv (s.pops [105]).1 ⟨3, posM X.src tg, 0, 0⟩) := HL2
    have HW6 : Hid (w6 = w5.setCell ⟨X.bo, 1, none⟩ (.int .i64 (posM X.src tg))) := hw6
    clear hw6 HL2
    go_wp2
    rw [← HW6.out]
    clear HW6
    clear i0 i1 i2 o0 o1 o2 o3 of p4 k0 k1 kf m0 m1 m2 m3 m4 gf lc lo lp lk lg
    obtain ⟨i07, i17, i27, o07, o17, o27, o37, of7, p47, k07, k17, kf7, m07, m17, m27, m37, m47, gf7, lc7, lo7, lp7, lk7, lg7⟩ := H6.out.facts HX.out CTX.out.me
    clear i07 i17 i27 p47 k07 k17 kf7 m07 m17 m27 m37 lc7 lp7 lk7
    have hcl7 : ((s.pops [105]).1 : Mk).code.length ≤ 600 := by have := CODELEN.out; exact Nat.le_trans this (by decide)
    refine wp_region_app rowFlat 6 (by kernel_rfl) (by kernel_rfl) (fun _ _ _ _ _ h => h) _ _ _ rfl (.tmp 98) (.tmp 97) 99 100 rfl rfl rfl rfl rfl rfl _ _ _ H6.out.code (.agg #[.int .i64 (3), .int .i64 (posM X.src tg), .int .i64 (0), .int .i64 (0)]) rfl (by decide) (by simp [Value.cells, Value.oneCell']) (by omega) ?_
    intro g2 cap w97 q1 q2 q3 q4
    have H7 : Hid (OneL X _ _ _ _ _) := H6.out.app HX.out q2 (by simpa [Flat.cells, Value.cells] using q1) q3
    obtain ⟨y07, y17, y27, y37, y47, yf7⟩ := H6.out.mid HX.out CTX.out.me q2
    clear q1 q2 q3 q4 H6
    simp only [List.take_succ_cons, List.take_zero]
    repeat go_big_quiet_step (fail)
    refine wpQuiet_nil ⟨rfl, rfl, by simp, rfl, ?_⟩
    obtain ⟨w7, hw7⟩ : ∃ w7, w7 = w97.setCell ⟨X.g, X.f * 5 + 4, none⟩ (.slice (some ⟨g2, 0, none⟩) ((s.pops [105]).1.code.length + 1) cap) := ⟨_, rfl⟩
    rw [← hw7] at H7
    have HW7 : Hid (w7 = w97.setCell ⟨X.g, X.f * 5 + 4, none⟩ (.slice (some ⟨g2, 0, none⟩) ((s.pops [105]).1.code.length + 1) cap)) := hw7
    clear hw7
    go_wp2
    rw [← HW7.out]
    clear HW7 y07 y17 y27 y37 y47 yf7 o07 o17 o27 o37 of7 m47 gf7 lo7 lg7
    obtain ⟨i0, i1, i2, o0, o1, o2, o3, of, p4, k0, k1, kf, m0, m1, m2, m3, m4, gf, lc, lo, lp, lk, lg⟩ := H7.out.facts HX.out CTX.out.me
    rw [hsv] at m3
    have hcsl : ({ (s.pops [105]).1 with code := (s.pops [105]).1.code ++ [⟨3, posM X.src tg, 0, 0⟩] } : Mk).cs.length ≤ 500 := CSLEN.out
    have rk : Hid (MkRep w7 X.bk L ({ (s.pops [105]).1 with code := (s.pops [105]).1.code ++ [⟨3, posM X.src tg, 0, 0⟩] })) := H7.out.k
    refine wp_region_app rowCtl 16 (by kernel_rfl) (by kernel_rfl) (fun _ _ _ _ _ h => h) _ _ _ rfl (.tmp 118) (.tmp 107) 119 120 rfl rfl rfl rfl rfl rfl _ _ _ rk.out.cs (.agg #[.int .i64 3, .int .i64 X.c.imm, .int .i64 ((({ (s.pops [105]).1 with code := (s.pops [105]).1.code ++ [⟨3, posM X.src tg, 0, 0⟩] } : Mk)).st.length : Nat), .int .i64 i, .bool false]) rfl (by decide) (by simp [Value.cells, Value.oneCell']) (by omega) ?_
    intro g cap w2 q1 q2 q3 q4
    have hne := owns_ne rk.out.cs rk.out.here (by decide)
    have hH2 : Has w2 X.bk _ _ := (rk.out.here.alloc _).fr q2 hne
    have hI2 : Has w2 X.bc _ _ := (H7.out.ci.alloc _).fr q2 (owns_ne rk.out.cs H7.out.ci (by decide))
    have z0 := hH2.cell 0
    have z1 := hH2.cell 1
    have u0 := hI2.cell 0
    have u1 := hI2.cell 1
    simp at z0 z1 u0 u1
    have zf1 := hH2.frozen 1
    obtain ⟨n1, n2, n3, n4, n5⟩ := app_net rk.out.here hne q2 q1 (by decide) q3 q4 1
    have fin := rk.out.putCs (⟨3, X.c.imm, ({ (s.pops [105]).1 with code := (s.pops [105]).1.code ++ [⟨3, posM X.src tg, 0, 0⟩] } : Mk).st.length, i, false⟩ :: ({ (s.pops [105]).1 with code := (s.pops [105]).1.code ++ [⟨3, posM X.src tg, 0, 0⟩] } : Mk).cs) (ca2 := some ⟨g, 0, none⟩) (cc2 := cap) n1 (by simpa using n2) (by simpa [ctlCells, Value.cells] using n3) (fun k hk => by simp [Value.ownBlock] at hk; subst hk; exact n4)
    have FIN : Hid (OneL X _ _ _ _ _) := H7.out.chk fin.1 fin.2 rfl
    clear fin n1 n2 n3 n4 n5 q1 q2 q3 q4 hH2 hI2 hne H7 rk
    simp only [List.take_succ_cons, List.take_zero]
    repeat go_big_quiet_step (fail)
    refine wpQuiet_nil ⟨rfl, rfl, by simp, rfl, ?_⟩
    go_wp2_with fail
    refine (typed_any (s.pops [105]).2 _).mono ?_
    rintro e w8 ⟨rfl, rfl⟩
    go_wp2
    go_ret
    rw [E1.out]
    exact ⟨rfl, FIN.out.fr, fun _ => ⟨_, _, _, FIN.out⟩⟩
end Go.Proofs.Qxb6500575aGreatDoor
