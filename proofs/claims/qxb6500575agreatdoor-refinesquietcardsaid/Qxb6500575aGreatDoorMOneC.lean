/-
  THE WALKS of prepm.Prog.one: the plain ones; block, loop, if (written by tools/gen_mone.py).
-/
import Derived.Test.Qxb6500575aGreatDoorMOne1
namespace Go.Proofs.Qxb6500575aGreatDoor
open Go Go.RowKit
set_option linter.unusedVariables false
set_option linter.unusedSimpArgs false

set_option maxRecDepth 100000 in
set_option maxHeartbeats 4000000 in
theorem mone_p (X : OneP) (L : MkL) (cv : Value) (s : Mk) (E : Env) (i : Nat) (c0 : Ctl) (r0 : List Ctl) (h : OneCtx X L cv s E i c0 r0) (hop : ∀ k : Int, 0 ≤ k → k ≤ 14 → X.c.op ≠ k) :
    Calls Tryz.prog 58 #[.pointer (some ⟨X.bp, 0, none⟩), .pointer (some ⟨X.bk, 0, none⟩), .pointer (some ⟨X.g, X.f * 5, none⟩), .int .i64 i] X.w0 fun e w' => OnePost X (s.one E X.src i X.c) e w' := by
  have E0 : Hid (s.one E X.src i X.c = ({ (s.swap (sigM X.c.op).1 (sigM X.c.op).2).1 with code := s.code ++ [⟨X.c.op, X.c.imm, 0, 0⟩] }, typedM (s.swap (sigM X.c.op).1 (sigM X.c.op).2).2)) := by
    show _ = _
    have n0 := hop 0 (by decide) (by decide)
    have n1 := hop 1 (by decide) (by decide)
    have n2 := hop 2 (by decide) (by decide)
    have n3 := hop 3 (by decide) (by decide)
    have n4 := hop 4 (by decide) (by decide)
    have n5 := hop 5 (by decide) (by decide)
    have n6 := hop 6 (by decide) (by decide)
    have n7 := hop 7 (by decide) (by decide)
    have n8 := hop 8 (by decide) (by decide)
    have n9 := hop 9 (by decide) (by decide)
    have n10 := hop 10 (by decide) (by decide)
    have n11 := hop 11 (by decide) (by decide)
    have n12 := hop 12 (by decide) (by decide)
    have n13 := hop 13 (by decide) (by decide)
    have n14 := hop 14 (by decide) (by decide)
    simp [Mk.one, Mk.plain, n0, n1, n2, n3, n4, n5, n6, n7, n8, n9, n10, n11, n12, n13, n14]
  have CODELEN : Hid (s.code.length ≤ 500) := h.code
  have b0 : (X.c.op == 0) = false := beq_eq_false_iff_ne.2 (hop 0 (by decide) (by decide))
  have b1 : (X.c.op == 1) = false := beq_eq_false_iff_ne.2 (hop 1 (by decide) (by decide))
  have b2 : (X.c.op == 2) = false := beq_eq_false_iff_ne.2 (hop 2 (by decide) (by decide))
  have b3 : (X.c.op == 3) = false := beq_eq_false_iff_ne.2 (hop 3 (by decide) (by decide))
  have b4 : (X.c.op == 4) = false := beq_eq_false_iff_ne.2 (hop 4 (by decide) (by decide))
  have b5 : (X.c.op == 5) = false := beq_eq_false_iff_ne.2 (hop 5 (by decide) (by decide))
  have b6 : (X.c.op == 6) = false := beq_eq_false_iff_ne.2 (hop 6 (by decide) (by decide))
  have b7 : (X.c.op == 7) = false := beq_eq_false_iff_ne.2 (hop 7 (by decide) (by decide))
  have b8 : (X.c.op == 8) = false := beq_eq_false_iff_ne.2 (hop 8 (by decide) (by decide))
  have b9 : (X.c.op == 9) = false := beq_eq_false_iff_ne.2 (hop 9 (by decide) (by decide))
  have b10 : (X.c.op == 10) = false := beq_eq_false_iff_ne.2 (hop 10 (by decide) (by decide))
  have b11 : (X.c.op == 11) = false := beq_eq_false_iff_ne.2 (hop 11 (by decide) (by decide))
  have b12 : (X.c.op == 12) = false := beq_eq_false_iff_ne.2 (hop 12 (by decide) (by decide))
  have b13 : (X.c.op == 13) = false := beq_eq_false_iff_ne.2 (hop 13 (by decide) (by decide))
  have b14 : (X.c.op == 14) = false := beq_eq_false_iff_ne.2 (hop 14 (by decide) (by decide))
  clear hop
  have hX := h.inn.ok
  obtain ⟨gs, scap, hsv, hgl, q0, q1, q2, hil⟩ := h.at
  obtain ⟨m0, m2, m3, lg⟩ := h.inn.pre h.me
  have hsl := h.sl
  have hsst := h.st
  have hscs := h.cs
  have hscd := h.code
  have hfl := h.fl
  have hmp := h.ps E.me (List.mem_of_getElem? h.me)
  obtain ⟨hmp1, hmp2, hmp3⟩ := hmp
  have START : Hid (∀ n, OneL X (((X.w0.alloc (insObj X.c)).alloc (flatObj ⟨X.c.op, X.c.imm, 0, 0⟩)).drewN n) L cv s ⟨X.c.op, X.c.imm, 0, 0⟩) := h.inn.start
  have hbc : Hid (X.w0.heap.size = X.bc) := h.inn.hbc.symm
  have hbo : Hid (X.bc + 1 = X.bo) := by show _ = _; rw [h.inn.hbo, h.inn.hbc]
  have CTX : Hid (OneCtx X L cv s E i c0 r0) := h
  have HX : Hid X.Ok := hX
  have hrl : r0.length ≤ 500 := by have := h.top.cs; have hh := h.cs; rw [this] at hh; simp at hh; omega
  rw [hsv] at m3
  have lg1 : X.g < X.w0.heap.size + 1 := by omega
  have lg2 : X.g < X.w0.heap.size + 1 + 1 := by omega
  have hgl1 : gs < X.w0.heap.size + 1 := by omega
  clear h hX
  go_enter Tryz.func58, Tryz.ntmps58
  go_wp2
  go_quiet (fail)
  rename_i nq
  obtain ⟨W, hW⟩ : ∃ W, W = (((X.w0.alloc (.cells #[.int .i64 X.c.op, .int .i64 X.c.imm, .string ⟨X.c.tab.toArray⟩] 67)).alloc (.cells #[.int .i64 X.c.op, .int .i64 X.c.imm, .int .i64 0, .int .i64 0] 176)).drewN nq) := ⟨_, rfl⟩
  have ST := START.out nq
  rw [← hW]
  rw [hbc.out, hbo.out]
  have HL : Hid (OneL X W L cv s ⟨X.c.op, X.c.imm, 0, 0⟩) := by rw [hW]; exact ST
  clear ST hW START q0 q1 q2 m0 m2 m3 hbc hbo lg1 lg2 hgl1 lg
  obtain ⟨i0, i1, i2, o0, o1, o2, o3, of, p4, k0, k1, kf, m0, m1, m2, m3, m4, gf, lc, lo, lp, lk, lg⟩ := HL.out.facts HX.out CTX.out.me
  rw [hsv] at m3
  have hsg : (sigM X.c.op).1.length ≤ 2 ∧ (sigM X.c.op).2.length ≤ 1 := by
    unfold sigM
    repeat' split
    all_goals simp
  obtain ⟨hsg1, hsg2⟩ := hsg
  go_wp2_with fail
  refine (sigM_any X.c.op _).mono ?_
  rintro e w1 ⟨v3, rfl, rfl⟩
  have HC : Hid (∀ w', OneL X w' L cv s ⟨X.c.op, X.c.imm, 0, 0⟩ → _) := fun w' h' => mswap_any X.bk L s (sigM X.c.op).1 (sigM X.c.op).2 w' h'.k CTX.out.top (by omega) (by omega) (by omega) (by omega)
  go_wp2_with fail
  refine (HC.out _ (by first | exact HL.out | exact HL.out.drew | exact HL.out.drewN _ | exact (HL.out.drewN _).drew | exact (HL.out.drew).drewN _ | exact (HL.out.drewN _).drewN _)).mono ?_
  rintro e w1 ⟨sa, sc, rfl, g1, g2⟩
  have HL1 : Hid (OneL X w1 { L with sa := sa, sc := sc } cv (s.swap (sigM X.c.op).1 (sigM X.c.op).2).1 ⟨X.c.op, X.c.imm, 0, 0⟩) := HL.out.chk g1 g2 rfl
  clear g1 g2 HL HC
  clear i0 i1 i2 o0 o1 o2 o3 of p4 k0 k1 kf m0 m1 m2 m3 m4 gf lc lo lp lk lg
  go_wp2
  obtain ⟨i09, i19, i29, o09, o19, o29, o39, of9, p49, k09, k19, kf9, m09, m19, m29, m39, m49, gf9, lc9, lo9, lp9, lk9, lg9⟩ := HL1.out.facts HX.out CTX.out.me
  clear i09 i19 i29 p49 k09 k19 kf9 m09 m19 m29 m39 lc9 lp9 lk9
  have hcl9 : ((s.swap (sigM X.c.op).1 (sigM X.c.op).2).1 : Mk).code.length ≤ 600 := by have := CODELEN.out; exact Nat.le_trans this (by decide)
  refine wp_region_app rowFlat 6 (by kernel_rfl) (by kernel_rfl) (fun _ _ _ _ _ h => h) _ _ _ rfl (.tmp 511) (.tmp 510) 512 513 rfl rfl rfl rfl rfl rfl _ _ _ HL1.out.code (.agg #[.int .i64 (X.c.op), .int .i64 (X.c.imm), .int .i64 (0), .int .i64 (0)]) rfl (by decide) (by simp [Value.cells, Value.oneCell']) (by omega) ?_
  intro g2 cap w99 q1 q2 q3 q4
  have FIN : Hid (OneL X _ _ _ _ _) := HL1.out.app HX.out q2 (by simpa [Flat.cells, Value.cells] using q1) q3
  obtain ⟨y09, y19, y29, y39, y49, yf9⟩ := HL1.out.mid HX.out CTX.out.me q2
  clear q1 q2 q3 q4 HL1
  simp only [List.take_succ_cons, List.take_zero]
  repeat go_big_quiet_step (fail)
  refine wpQuiet_nil ⟨rfl, rfl, by simp, rfl, ?_⟩
  go_wp2_with fail
  refine (typed_any (s.swap (sigM X.c.op).1 (sigM X.c.op).2).2 _).mono ?_
  rintro e w8 ⟨rfl, rfl⟩
  go_wp2
  go_ret
  rw [E0.out]
  exact ⟨rfl, FIN.out.fr, fun _ => ⟨_, _, _, FIN.out⟩⟩
set_option maxRecDepth 100000 in
set_option maxHeartbeats 4000000 in
theorem mone_1 (X : OneP) (L : MkL) (cv : Value) (s : Mk) (E : Env) (i : Nat) (c0 : Ctl) (r0 : List Ctl) (h : OneCtx X L cv s E i c0 r0) (hop : X.c.op = 1) :
    Calls Tryz.prog 58 #[.pointer (some ⟨X.bp, 0, none⟩), .pointer (some ⟨X.bk, 0, none⟩), .pointer (some ⟨X.g, X.f * 5, none⟩), .int .i64 i] X.w0 fun e w' => OnePost X (s.one E X.src i X.c) e w' := by
  have E0 : Hid (s.one E X.src i X.c = ({ s with cs := ⟨1, X.c.imm, s.st.length, i, false⟩ :: s.cs }, 0)) := by
    show _ = _
    simp [Mk.one, hop]
  have CODELEN : Hid (s.code.length ≤ 500) := h.code
  have hX := h.inn.ok
  obtain ⟨gs, scap, hsv, hgl, q0, q1, q2, hil⟩ := h.at
  obtain ⟨m0, m2, m3, lg⟩ := h.inn.pre h.me
  have hsl := h.sl
  have hsst := h.st
  have hscs := h.cs
  have hscd := h.code
  have hfl := h.fl
  have hmp := h.ps E.me (List.mem_of_getElem? h.me)
  obtain ⟨hmp1, hmp2, hmp3⟩ := hmp
  have START : Hid (∀ n, OneL X (((X.w0.alloc (insObj X.c)).alloc (flatObj ⟨X.c.op, X.c.imm, 0, 0⟩)).drewN n) L cv s ⟨X.c.op, X.c.imm, 0, 0⟩) := h.inn.start
  have hbc : Hid (X.w0.heap.size = X.bc) := h.inn.hbc.symm
  have hbo : Hid (X.bc + 1 = X.bo) := by show _ = _; rw [h.inn.hbo, h.inn.hbc]
  have CTX : Hid (OneCtx X L cv s E i c0 r0) := h
  have HX : Hid X.Ok := hX
  have hrl : r0.length ≤ 500 := by have := h.top.cs; have hh := h.cs; rw [this] at hh; simp at hh; omega
  rw [hsv] at m3
  have lg1 : X.g < X.w0.heap.size + 1 := by omega
  have lg2 : X.g < X.w0.heap.size + 1 + 1 := by omega
  have hgl1 : gs < X.w0.heap.size + 1 := by omega
  clear h hX
  go_enter Tryz.func58, Tryz.ntmps58
  go_wp2
  go_quiet (fail)
  rename_i nq
  obtain ⟨W, hW⟩ : ∃ W, W = (((X.w0.alloc (.cells #[.int .i64 1, .int .i64 X.c.imm, .string ⟨X.c.tab.toArray⟩] 67)).alloc (.cells #[.int .i64 1, .int .i64 X.c.imm, .int .i64 0, .int .i64 0] 176)).drewN nq) := ⟨_, rfl⟩
  have ST := START.out nq
  unfold insObj flatObj at ST
  simp only [hop] at ST ⊢
  rw [← hW]
  rw [hbc.out, hbo.out]
  have HL : Hid (OneL X W L cv s ⟨1, X.c.imm, 0, 0⟩) := by rw [hW]; exact ST
  clear ST hW START q0 q1 q2 m0 m2 m3 hbc hbo lg1 lg2 hgl1 lg
  have CSLEN : Hid (s.cs.length ≤ 500) := CTX.out.cs
  obtain ⟨i0, i1, i2, o0, o1, o2, o3, of, p4, k0, k1, kf, m0, m1, m2, m3, m4, gf, lc, lo, lp, lk, lg⟩ := HL.out.facts HX.out CTX.out.me
  rw [hsv] at m3
  go_wp2
  have hcsl : (s : Mk).cs.length ≤ 500 := CSLEN.out
  have rk : Hid (MkRep W X.bk L (s)) := HL.out.k
  refine wp_region_app rowCtl 16 (by kernel_rfl) (by kernel_rfl) (fun _ _ _ _ _ h => h) _ _ _ rfl (.tmp 118) (.tmp 107) 119 120 rfl rfl rfl rfl rfl rfl _ _ _ rk.out.cs (.agg #[.int .i64 1, .int .i64 X.c.imm, .int .i64 (((s : Mk)).st.length : Nat), .int .i64 i, .bool false]) rfl (by decide) (by simp [Value.cells, Value.oneCell']) (by omega) ?_
  intro g cap w2 q1 q2 q3 q4
  have hne := owns_ne rk.out.cs rk.out.here (by decide)
  have hH2 : Has w2 X.bk _ _ := (rk.out.here.alloc _).fr q2 hne
  have hI2 : Has w2 X.bc _ _ := (HL.out.ci.alloc _).fr q2 (owns_ne rk.out.cs HL.out.ci (by decide))
  have z0 := hH2.cell 0
  have z1 := hH2.cell 1
  have u0 := hI2.cell 0
  have u1 := hI2.cell 1
  simp at z0 z1 u0 u1
  have zf1 := hH2.frozen 1
  obtain ⟨n1, n2, n3, n4, n5⟩ := app_net rk.out.here hne q2 q1 (by decide) q3 q4 1
  have fin := rk.out.putCs (⟨1, X.c.imm, (s : Mk).st.length, i, false⟩ :: (s : Mk).cs) (ca2 := some ⟨g, 0, none⟩) (cc2 := cap) n1 (by simpa using n2) (by simpa [ctlCells, Value.cells] using n3) (fun k hk => by simp [Value.ownBlock] at hk; subst hk; exact n4)
  have FIN : Hid (OneL X _ _ _ _ _) := HL.out.chk fin.1 fin.2 rfl
  clear fin n1 n2 n3 n4 n5 q1 q2 q3 q4 hH2 hI2 hne HL rk
  simp only [List.take_succ_cons, List.take_zero]
  repeat go_big_quiet_step (fail)
  refine wpQuiet_nil ⟨rfl, rfl, by simp, rfl, ?_⟩
  go_wp2_with fail
  refine (typed_any true _).mono ?_
  rintro e w8 ⟨rfl, rfl⟩
  go_wp2
  go_ret
  rw [E0.out]
  exact ⟨rfl, FIN.out.fr, fun _ => ⟨_, _, _, FIN.out⟩⟩
set_option maxRecDepth 100000 in
set_option maxHeartbeats 4000000 in
theorem mone_2 (X : OneP) (L : MkL) (cv : Value) (s : Mk) (E : Env) (i : Nat) (c0 : Ctl) (r0 : List Ctl) (h : OneCtx X L cv s E i c0 r0) (hop : X.c.op = 2) :
    Calls Tryz.prog 58 #[.pointer (some ⟨X.bp, 0, none⟩), .pointer (some ⟨X.bk, 0, none⟩), .pointer (some ⟨X.g, X.f * 5, none⟩), .int .i64 i] X.w0 fun e w' => OnePost X (s.one E X.src i X.c) e w' := by
  have E0 : Hid (s.one E X.src i X.c = ({ s with cs := ⟨2, X.c.imm, s.st.length, i, false⟩ :: s.cs }, 0)) := by
    show _ = _
    simp [Mk.one, hop]
  have CODELEN : Hid (s.code.length ≤ 500) := h.code
  have hX := h.inn.ok
  obtain ⟨gs, scap, hsv, hgl, q0, q1, q2, hil⟩ := h.at
  obtain ⟨m0, m2, m3, lg⟩ := h.inn.pre h.me
  have hsl := h.sl
  have hsst := h.st
  have hscs := h.cs
  have hscd := h.code
  have hfl := h.fl
  have hmp := h.ps E.me (List.mem_of_getElem? h.me)
  obtain ⟨hmp1, hmp2, hmp3⟩ := hmp
  have START : Hid (∀ n, OneL X (((X.w0.alloc (insObj X.c)).alloc (flatObj ⟨X.c.op, X.c.imm, 0, 0⟩)).drewN n) L cv s ⟨X.c.op, X.c.imm, 0, 0⟩) := h.inn.start
  have hbc : Hid (X.w0.heap.size = X.bc) := h.inn.hbc.symm
  have hbo : Hid (X.bc + 1 = X.bo) := by show _ = _; rw [h.inn.hbo, h.inn.hbc]
  have CTX : Hid (OneCtx X L cv s E i c0 r0) := h
  have HX : Hid X.Ok := hX
  have hrl : r0.length ≤ 500 := by have := h.top.cs; have hh := h.cs; rw [this] at hh; simp at hh; omega
  rw [hsv] at m3
  have lg1 : X.g < X.w0.heap.size + 1 := by omega
  have lg2 : X.g < X.w0.heap.size + 1 + 1 := by omega
  have hgl1 : gs < X.w0.heap.size + 1 := by omega
  clear h hX
  go_enter Tryz.func58, Tryz.ntmps58
  go_wp2
  go_quiet (fail)
  rename_i nq
  obtain ⟨W, hW⟩ : ∃ W, W = (((X.w0.alloc (.cells #[.int .i64 2, .int .i64 X.c.imm, .string ⟨X.c.tab.toArray⟩] 67)).alloc (.cells #[.int .i64 2, .int .i64 X.c.imm, .int .i64 0, .int .i64 0] 176)).drewN nq) := ⟨_, rfl⟩
  have ST := START.out nq
  unfold insObj flatObj at ST
  simp only [hop] at ST ⊢
  rw [← hW]
  rw [hbc.out, hbo.out]
  have HL : Hid (OneL X W L cv s ⟨2, X.c.imm, 0, 0⟩) := by rw [hW]; exact ST
  clear ST hW START q0 q1 q2 m0 m2 m3 hbc hbo lg1 lg2 hgl1 lg
  have CSLEN : Hid (s.cs.length ≤ 500) := CTX.out.cs
  obtain ⟨i0, i1, i2, o0, o1, o2, o3, of, p4, k0, k1, kf, m0, m1, m2, m3, m4, gf, lc, lo, lp, lk, lg⟩ := HL.out.facts HX.out CTX.out.me
  rw [hsv] at m3
  go_wp2
  have hcsl : (s : Mk).cs.length ≤ 500 := CSLEN.out
  have rk : Hid (MkRep W X.bk L (s)) := HL.out.k
  refine wp_region_app rowCtl 16 (by kernel_rfl) (by kernel_rfl) (fun _ _ _ _ _ h => h) _ _ _ rfl (.tmp 118) (.tmp 107) 119 120 rfl rfl rfl rfl rfl rfl _ _ _ rk.out.cs (.agg #[.int .i64 2, .int .i64 X.c.imm, .int .i64 (((s : Mk)).st.length : Nat), .int .i64 i, .bool false]) rfl (by decide) (by simp [Value.cells, Value.oneCell']) (by omega) ?_
  intro g cap w2 q1 q2 q3 q4
  have hne := owns_ne rk.out.cs rk.out.here (by decide)
  have hH2 : Has w2 X.bk _ _ := (rk.out.here.alloc _).fr q2 hne
  have hI2 : Has w2 X.bc _ _ := (HL.out.ci.alloc _).fr q2 (owns_ne rk.out.cs HL.out.ci (by decide))
  have z0 := hH2.cell 0
  have z1 := hH2.cell 1
  have u0 := hI2.cell 0
  have u1 := hI2.cell 1
  simp at z0 z1 u0 u1
  have zf1 := hH2.frozen 1
  obtain ⟨n1, n2, n3, n4, n5⟩ := app_net rk.out.here hne q2 q1 (by decide) q3 q4 1
  have fin := rk.out.putCs (⟨2, X.c.imm, (s : Mk).st.length, i, false⟩ :: (s : Mk).cs) (ca2 := some ⟨g, 0, none⟩) (cc2 := cap) n1 (by simpa using n2) (by simpa [ctlCells, Value.cells] using n3) (fun k hk => by simp [Value.ownBlock] at hk; subst hk; exact n4)
  have FIN : Hid (OneL X _ _ _ _ _) := HL.out.chk fin.1 fin.2 rfl
  clear fin n1 n2 n3 n4 n5 q1 q2 q3 q4 hH2 hI2 hne HL rk
  simp only [List.take_succ_cons, List.take_zero]
  repeat go_big_quiet_step (fail)
  refine wpQuiet_nil ⟨rfl, rfl, by simp, rfl, ?_⟩
  go_wp2_with fail
  refine (typed_any true _).mono ?_
  rintro e w8 ⟨rfl, rfl⟩
  go_wp2
  go_ret
  rw [E0.out]
  exact ⟨rfl, FIN.out.fr, fun _ => ⟨_, _, _, FIN.out⟩⟩
end Go.Proofs.Qxb6500575aGreatDoor
