/-
  THE WALKS of prepm.Prog.one: unreachable, return, call, drop (written by tools/gen_mone.py).
-/
import Derived.Test.Qxb6500575aGreatDoorMOne1
namespace Go.Proofs.Qxb6500575aGreatDoor
open Go Go.RowKit
set_option linter.unusedVariables false
set_option linter.unusedSimpArgs false

set_option maxRecDepth 100000 in
set_option maxHeartbeats 4000000 in
theorem mone_11 (X : OneP) (L : MkL) (cv : Value) (s : Mk) (E : Env) (i : Nat) (c0 : Ctl) (r0 : List Ctl) (h : OneCtx X L cv s E i c0 r0) (hop : X.c.op = 11) :
    Calls Tryz.prog 58 #[.pointer (some ⟨X.bp, 0, none⟩), .pointer (some ⟨X.bk, 0, none⟩), .pointer (some ⟨X.g, X.f * 5, none⟩), .int .i64 i] X.w0 fun e w' => OnePost X (s.one E X.src i X.c) e w' := by
  have E0 : Hid (s.one E X.src i X.c = ({ (s.pop 0).1 with code := s.code ++ [⟨11, X.c.imm, 0, 0⟩] }, typedM (s.pop 0).2.2)) := by
    show _ = _
    simp [Mk.one, Mk.plain, hop]
  have CODELEN : Hid (s.code.length ≤ 500) := h.code
  have hX := h.inn.ok
  obtain ⟨gs, scap, hsv, hgl, q0, q1, q2, hil⟩ := h.at
  obtain ⟨m0, m2, m3, lg⟩ := h.inn.pre h.me
  have hsl := h.sl
  have hsst := h.st
  have hscs := h.cs
  have hscd := h.code
  have hfl := h.fl
  have hmp := h.ps E.me (List.mem_of_getElem? h.me)
  obtain ⟨hmp1, hmp2, hmp3⟩ := hmp
  have START : Hid (∀ n, OneL X (((X.w0.alloc (insObj X.c)).alloc (flatObj ⟨X.c.op, X.c.imm, 0, 0⟩)).drewN n) L cv s ⟨X.c.op, X.c.imm, 0, 0⟩) := h.inn.start
  have hbc : Hid (X.w0.heap.size = X.bc) := h.inn.hbc.symm
  have hbo : Hid (X.bc + 1 = X.bo) := by show _ = _; rw [h.inn.hbo, h.inn.hbc]
  have CTX : Hid (OneCtx X L cv s E i c0 r0) := h
  have HX : Hid X.Ok := hX
  have hrl : r0.length ≤ 500 := by have := h.top.cs; have hh := h.cs; rw [this] at hh; simp at hh; omega
  rw [hsv] at m3
  have lg1 : X.g < X.w0.heap.size + 1 := by omega
  have lg2 : X.g < X.w0.heap.size + 1 + 1 := by omega
  have hgl1 : gs < X.w0.heap.size + 1 := by omega
  clear h hX
  go_enter Tryz.func58, Tryz.ntmps58
  go_wp2
  go_quiet (fail)
  rename_i nq
  obtain ⟨W, hW⟩ : ∃ W, W = (((X.w0.alloc (.cells #[.int .i64 11, .int .i64 X.c.imm, .string ⟨X.c.tab.toArray⟩] 67)).alloc (.cells #[.int .i64 11, .int .i64 X.c.imm, .int .i64 0, .int .i64 0] 176)).drewN nq) := ⟨_, rfl⟩
  have ST := START.out nq
  unfold insObj flatObj at ST
  simp only [hop] at ST ⊢
  rw [← hW]
  rw [hbc.out, hbo.out]
  have HL : Hid (OneL X W L cv s ⟨11, X.c.imm, 0, 0⟩) := by rw [hW]; exact ST
  clear ST hW START q0 q1 q2 m0 m2 m3 hbc hbo lg1 lg2 hgl1 lg
  obtain ⟨i0, i1, i2, o0, o1, o2, o3, of, p4, k0, k1, kf, m0, m1, m2, m3, m4, gf, lc, lo, lp, lk, lg⟩ := HL.out.facts HX.out CTX.out.me
  rw [hsv] at m3
  go_wp2_with fail
  refine (mpop_any X.bk L s 0 W HL.out.k CTX.out.top (by omega) (by omega)).mono ?_
  rintro e w1 ⟨rfl, g1, g2⟩
  have HL1 : Hid (OneL X w1 L cv (s.pop 0).1 ⟨11, X.c.imm, 0, 0⟩) := HL.out.chk g1 g2 rfl
  clear g1 g2 HL
  clear i0 i1 i2 o0 o1 o2 o3 of p4 k0 k1 kf m0 m1 m2 m3 m4 gf lc lo lp lk lg
  go_wp2
  obtain ⟨i09, i19, i29, o09, o19, o29, o39, of9, p49, k09, k19, kf9, m09, m19, m29, m39, m49, gf9, lc9, lo9, lp9, lk9, lg9⟩ := HL1.out.facts HX.out CTX.out.me
  clear i09 i19 i29 p49 k09 k19 kf9 m09 m19 m29 m39 lc9 lp9 lk9
  have hcl9 : ((s.pop 0).1 : Mk).code.length ≤ 600 := by have := CODELEN.out; exact Nat.le_trans this (by decide)
  refine wp_region_app rowFlat 6 (by kernel_rfl) (by kernel_rfl) (fun _ _ _ _ _ h => h) _ _ _ rfl (.tmp 511) (.tmp 510) 512 513 rfl rfl rfl rfl rfl rfl _ _ _ HL1.out.code (.agg #[.int .i64 (11), .int .i64 (X.c.imm), .int .i64 (0), .int .i64 (0)]) rfl (by decide) (by simp [Value.cells, Value.oneCell']) (by omega) ?_
  intro g2 cap w99 q1 q2 q3 q4
  have FIN : Hid (OneL X _ _ _ _ _) := HL1.out.app HX.out q2 (by simpa [Flat.cells, Value.cells] using q1) q3
  obtain ⟨y09, y19, y29, y39, y49, yf9⟩ := HL1.out.mid HX.out CTX.out.me q2
  clear q1 q2 q3 q4 HL1
  simp only [List.take_succ_cons, List.take_zero]
  repeat go_big_quiet_step (fail)
  refine wpQuiet_nil ⟨rfl, rfl, by simp, rfl, ?_⟩
  go_wp2_with fail
  refine (typed_any (s.pop 0).2.2 _).mono ?_
  rintro e w8 ⟨rfl, rfl⟩
  go_wp2
  go_ret
  rw [E0.out]
  exact ⟨rfl, FIN.out.fr, fun _ => ⟨_, _, _, FIN.out⟩⟩
set_option maxRecDepth 100000 in
set_option maxHeartbeats 4000000 in
theorem mone_0 (X : OneP) (L : MkL) (cv : Value) (s : Mk) (E : Env) (i : Nat) (c0 : Ctl) (r0 : List Ctl) (h : OneCtx X L cv s E i c0 r0) (hop : X.c.op = 0) :
    Calls Tryz.prog 58 #[.pointer (some ⟨X.bp, 0, none⟩), .pointer (some ⟨X.bk, 0, none⟩), .pointer (some ⟨X.g, X.f * 5, none⟩), .int .i64 i] X.w0 fun e w' => OnePost X (s.one E X.src i X.c) e w' := by
  have E0 : Hid (s.one E X.src i X.c = ({ s.kill with code := s.kill.code ++ [⟨0, X.c.imm, 0, 0⟩] }, typedM true)) := by
    show _ = _
    rw [s.kill_code]; simp [Mk.one, Mk.plain, hop]
  have CODELEN : Hid (s.code.length ≤ 500) := h.code
  have hX := h.inn.ok
  obtain ⟨gs, scap, hsv, hgl, q0, q1, q2, hil⟩ := h.at
  obtain ⟨m0, m2, m3, lg⟩ := h.inn.pre h.me
  have hsl := h.sl
  have hsst := h.st
  have hscs := h.cs
  have hscd := h.code
  have hfl := h.fl
  have hmp := h.ps E.me (List.mem_of_getElem? h.me)
  obtain ⟨hmp1, hmp2, hmp3⟩ := hmp
  have START : Hid (∀ n, OneL X (((X.w0.alloc (insObj X.c)).alloc (flatObj ⟨X.c.op, X.c.imm, 0, 0⟩)).drewN n) L cv s ⟨X.c.op, X.c.imm, 0, 0⟩) := h.inn.start
  have hbc : Hid (X.w0.heap.size = X.bc) := h.inn.hbc.symm
  have hbo : Hid (X.bc + 1 = X.bo) := by show _ = _; rw [h.inn.hbo, h.inn.hbc]
  have CTX : Hid (OneCtx X L cv s E i c0 r0) := h
  have HX : Hid X.Ok := hX
  have hrl : r0.length ≤ 500 := by have := h.top.cs; have hh := h.cs; rw [this] at hh; simp at hh; omega
  rw [hsv] at m3
  have lg1 : X.g < X.w0.heap.size + 1 := by omega
  have lg2 : X.g < X.w0.heap.size + 1 + 1 := by omega
  have hgl1 : gs < X.w0.heap.size + 1 := by omega
  clear h hX
  go_enter Tryz.func58, Tryz.ntmps58
  go_wp2
  go_quiet (fail)
  rename_i nq
  obtain ⟨W, hW⟩ : ∃ W, W = (((X.w0.alloc (.cells #[.int .i64 0, .int .i64 X.c.imm, .string ⟨X.c.tab.toArray⟩] 67)).alloc (.cells #[.int .i64 0, .int .i64 X.c.imm, .int .i64 0, .int .i64 0] 176)).drewN nq) := ⟨_, rfl⟩
  have ST := START.out nq
  unfold insObj flatObj at ST
  simp only [hop] at ST ⊢
  rw [← hW]
  rw [hbc.out, hbo.out]
  have HL : Hid (OneL X W L cv s ⟨0, X.c.imm, 0, 0⟩) := by rw [hW]; exact ST
  clear ST hW START q0 q1 q2 m0 m2 m3 hbc hbo lg1 lg2 hgl1 lg
  obtain ⟨i0, i1, i2, o0, o1, o2, o3, of, p4, k0, k1, kf, m0, m1, m2, m3, m4, gf, lc, lo, lp, lk, lg⟩ := HL.out.facts HX.out CTX.out.me
  rw [hsv] at m3
  go_wp2_with fail
  refine (mdead_any X.bk L s W HL.out.k CTX.out.top (by omega) (by omega)).mono ?_
  rintro e w1 ⟨rfl, g1, g2⟩
  have HL1 : Hid (OneL X w1 L cv s.kill ⟨0, X.c.imm, 0, 0⟩) := HL.out.chk g1 g2 s.kill_code
  clear g1 g2 HL
  clear i0 i1 i2 o0 o1 o2 o3 of p4 k0 k1 kf m0 m1 m2 m3 m4 gf lc lo lp lk lg
  go_wp2
  obtain ⟨i09, i19, i29, o09, o19, o29, o39, of9, p49, k09, k19, kf9, m09, m19, m29, m39, m49, gf9, lc9, lo9, lp9, lk9, lg9⟩ := HL1.out.facts HX.out CTX.out.me
  clear i09 i19 i29 p49 k09 k19 kf9 m09 m19 m29 m39 lc9 lp9 lk9
  have hcl9 : (s.kill : Mk).code.length ≤ 600 := by rw [s.kill_code]; have := CODELEN.out; omega
  refine wp_region_app rowFlat 6 (by kernel_rfl) (by kernel_rfl) (fun _ _ _ _ _ h => h) _ _ _ rfl (.tmp 511) (.tmp 510) 512 513 rfl rfl rfl rfl rfl rfl _ _ _ HL1.out.code (.agg #[.int .i64 (0), .int .i64 (X.c.imm), .int .i64 (0), .int .i64 (0)]) rfl (by decide) (by simp [Value.cells, Value.oneCell']) (by omega) ?_
  intro g2 cap w99 q1 q2 q3 q4
  have FIN : Hid (OneL X _ _ _ _ _) := HL1.out.app HX.out q2 (by simpa [Flat.cells, Value.cells] using q1) q3
  obtain ⟨y09, y19, y29, y39, y49, yf9⟩ := HL1.out.mid HX.out CTX.out.me q2
  clear q1 q2 q3 q4 HL1
  simp only [List.take_succ_cons, List.take_zero]
  repeat go_big_quiet_step (fail)
  refine wpQuiet_nil ⟨rfl, rfl, by simp, rfl, ?_⟩
  go_wp2_with fail
  refine (typed_any true _).mono ?_
  rintro e w8 ⟨rfl, rfl⟩
  go_wp2
  go_ret
  rw [E0.out]
  exact ⟨rfl, FIN.out.fr, fun _ => ⟨_, _, _, FIN.out⟩⟩
set_option maxRecDepth 100000 in
set_option maxHeartbeats 4000000 in
theorem mone_9 (X : OneP) (L : MkL) (cv : Value) (s : Mk) (E : Env) (i : Nat) (c0 : Ctl) (r0 : List Ctl) (h : OneCtx X L cv s E i c0 r0) (hop : X.c.op = 9) :
    Calls Tryz.prog 58 #[.pointer (some ⟨X.bp, 0, none⟩), .pointer (some ⟨X.bk, 0, none⟩), .pointer (some ⟨X.g, X.f * 5, none⟩), .int .i64 i] X.w0 fun e w' => OnePost X (s.one E X.src i X.c) e w' := by
  have E0 : Hid (s.one E X.src i X.c = ({ (s.pops E.me.results).1.kill with code := (s.pops E.me.results).1.kill.code ++ [⟨9, X.c.imm, 0, 0⟩] }, typedM (s.pops E.me.results).2)) := by
    show _ = _
    rw [Mk.kill_code]; simp [Mk.one, Mk.plain, hop, Mk.pops]
  have CODELEN : Hid (s.code.length ≤ 500) := h.code
  have hX := h.inn.ok
  obtain ⟨gs, scap, hsv, hgl, q0, q1, q2, hil⟩ := h.at
  obtain ⟨m0, m2, m3, lg⟩ := h.inn.pre h.me
  have hsl := h.sl
  have hsst := h.st
  have hscs := h.cs
  have hscd := h.code
  have hfl := h.fl
  have hmp := h.ps E.me (List.mem_of_getElem? h.me)
  obtain ⟨hmp1, hmp2, hmp3⟩ := hmp
  have START : Hid (∀ n, OneL X (((X.w0.alloc (insObj X.c)).alloc (flatObj ⟨X.c.op, X.c.imm, 0, 0⟩)).drewN n) L cv s ⟨X.c.op, X.c.imm, 0, 0⟩) := h.inn.start
  have hbc : Hid (X.w0.heap.size = X.bc) := h.inn.hbc.symm
  have hbo : Hid (X.bc + 1 = X.bo) := by show _ = _; rw [h.inn.hbo, h.inn.hbc]
  have CTX : Hid (OneCtx X L cv s E i c0 r0) := h
  have HX : Hid X.Ok := hX
  have hrl : r0.length ≤ 500 := by have := h.top.cs; have hh := h.cs; rw [this] at hh; simp at hh; omega
  rw [hsv] at m3
  have lg1 : X.g < X.w0.heap.size + 1 := by omega
  have lg2 : X.g < X.w0.heap.size + 1 + 1 := by omega
  have hgl1 : gs < X.w0.heap.size + 1 := by omega
  clear h hX
  go_enter Tryz.func58, Tryz.ntmps58
  go_wp2
  go_quiet (fail)
  rename_i nq
  obtain ⟨W, hW⟩ : ∃ W, W = (((X.w0.alloc (.cells #[.int .i64 9, .int .i64 X.c.imm, .string ⟨X.c.tab.toArray⟩] 67)).alloc (.cells #[.int .i64 9, .int .i64 X.c.imm, .int .i64 0, .int .i64 0] 176)).drewN nq) := ⟨_, rfl⟩
  have ST := START.out nq
  unfold insObj flatObj at ST
  simp only [hop] at ST ⊢
  rw [← hW]
  rw [hbc.out, hbo.out]
  have HL : Hid (OneL X W L cv s ⟨9, X.c.imm, 0, 0⟩) := by rw [hW]; exact ST
  clear ST hW START q0 q1 q2 m0 m2 m3 hbc hbo lg1 lg2 hgl1 lg
  obtain ⟨i0, i1, i2, o0, o1, o2, o3, of, p4, k0, k1, kf, m0, m1, m2, m3, m4, gf, lc, lo, lp, lk, lg⟩ := HL.out.facts HX.out CTX.out.me
  rw [hsv] at m3
  go_wp2_with fail
  refine (mpops_any X.bk L s E.me.results W HL.out.k CTX.out.top (by omega) (by omega) (by omega)).mono ?_
  rintro e w1 ⟨rfl, g1, g2⟩
  have HL1 : Hid (OneL X w1 L cv (s.pops E.me.results).1 ⟨9, X.c.imm, 0, 0⟩) := HL.out.chk g1 g2 rfl
  clear g1 g2 HL
  clear i0 i1 i2 o0 o1 o2 o3 of p4 k0 k1 kf m0 m1 m2 m3 m4 gf lc lo lp lk lg
  have HT1 : Hid ((s.pops E.me.results).1.Top c0 r0) := Mk.pops_top CTX.out.top _
  have hl1 := s.pops_len2 E.me.results
  go_wp2_with fail
  refine (mdead_any X.bk L (s.pops E.me.results).1 w1 HL1.out.k HT1.out (by omega) (by omega)).mono ?_
  rintro e w2 ⟨rfl, g1, g2⟩
  have HL2 : Hid (OneL X w2 L cv (s.pops E.me.results).1.kill ⟨9, X.c.imm, 0, 0⟩) := HL1.out.chk g1 g2 (Mk.kill_code _)
  clear g1 g2 HL1
  go_wp2
  obtain ⟨i09, i19, i29, o09, o19, o29, o39, of9, p49, k09, k19, kf9, m09, m19, m29, m39, m49, gf9, lc9, lo9, lp9, lk9, lg9⟩ := HL2.out.facts HX.out CTX.out.me
  clear i09 i19 i29 p49 k09 k19 kf9 m09 m19 m29 m39 lc9 lp9 lk9
  have hcl9 : ((s.pops E.me.results).1.kill : Mk).code.length ≤ 600 := by rw [Mk.kill_code]; have := CODELEN.out; exact Nat.le_trans this (by decide)
  refine wp_region_app rowFlat 6 (by kernel_rfl) (by kernel_rfl) (fun _ _ _ _ _ h => h) _ _ _ rfl (.tmp 511) (.tmp 510) 512 513 rfl rfl rfl rfl rfl rfl _ _ _ HL2.out.code (.agg #[.int .i64 (9), .int .i64 (X.c.imm), .int .i64 (0), .int .i64 (0)]) rfl (by decide) (by simp [Value.cells, Value.oneCell']) (by omega) ?_
  intro g2 cap w99 q1 q2 q3 q4
  have FIN : Hid (OneL X _ _ _ _ _) := HL2.out.app HX.out q2 (by simpa [Flat.cells, Value.cells] using q1) q3
  obtain ⟨y09, y19, y29, y39, y49, yf9⟩ := HL2.out.mid HX.out CTX.out.me q2
  clear q1 q2 q3 q4 HL2
  simp only [List.take_succ_cons, List.take_zero]
  repeat go_big_quiet_step (fail)
  refine wpQuiet_nil ⟨rfl, rfl, by simp, rfl, ?_⟩
  go_wp2_with fail
  refine (typed_any (s.pops E.me.results).2 _).mono ?_
  rintro e w8 ⟨rfl, rfl⟩
  go_wp2
  go_ret
  rw [E0.out]
  exact ⟨rfl, FIN.out.fr, fun _ => ⟨_, _, _, FIN.out⟩⟩
set_option maxRecDepth 100000 in
set_option maxHeartbeats 4000000 in
theorem mone_10 (X : OneP) (L : MkL) (cv : Value) (s : Mk) (E : Env) (i : Nat) (c0 : Ctl) (r0 : List Ctl) (h : OneCtx X L cv s E i c0 r0) (hop : X.c.op = 10) (him : 0 ≤ X.c.imm) :
    Calls Tryz.prog 58 #[.pointer (some ⟨X.bp, 0, none⟩), .pointer (some ⟨X.bk, 0, none⟩), .pointer (some ⟨X.g, X.f * 5, none⟩), .int .i64 i] X.w0 fun e w' => OnePost X (s.one E X.src i X.c) e w' := by
  have CODELEN : Hid (s.code.length ≤ 500) := h.code
  have HIM : Hid (0 ≤ X.c.imm) := him
  clear him
  have EONE : Hid (s.one E X.src i X.c = match E.funs[X.c.imm.toNat]? with | none => (s, 5) | some u => ({ (s.swap u.params u.results).1 with code := s.code ++ [⟨10, X.c.imm, 0, 0⟩] }, typedM (s.swap u.params u.results).2)) := by
    show _ = _
    simp only [Mk.one, Mk.plain, hop]
    cases E.funs[X.c.imm.toNat]? <;> simp
  have hX := h.inn.ok
  obtain ⟨gs, scap, hsv, hgl, q0, q1, q2, hil⟩ := h.at
  obtain ⟨m0, m2, m3, lg⟩ := h.inn.pre h.me
  have hsl := h.sl
  have hsst := h.st
  have hscs := h.cs
  have hscd := h.code
  have hfl := h.fl
  have hmp := h.ps E.me (List.mem_of_getElem? h.me)
  obtain ⟨hmp1, hmp2, hmp3⟩ := hmp
  have START : Hid (∀ n, OneL X (((X.w0.alloc (insObj X.c)).alloc (flatObj ⟨X.c.op, X.c.imm, 0, 0⟩)).drewN n) L cv s ⟨X.c.op, X.c.imm, 0, 0⟩) := h.inn.start
  have hbc : Hid (X.w0.heap.size = X.bc) := h.inn.hbc.symm
  have hbo : Hid (X.bc + 1 = X.bo) := by show _ = _; rw [h.inn.hbo, h.inn.hbc]
  have CTX : Hid (OneCtx X L cv s E i c0 r0) := h
  have HX : Hid X.Ok := hX
  have hrl : r0.length ≤ 500 := by have := h.top.cs; have hh := h.cs; rw [this] at hh; simp at hh; omega
  rw [hsv] at m3
  have lg1 : X.g < X.w0.heap.size + 1 := by omega
  have lg2 : X.g < X.w0.heap.size + 1 + 1 := by omega
  have hgl1 : gs < X.w0.heap.size + 1 := by omega
  clear h hX
  go_enter Tryz.func58, Tryz.ntmps58
  go_wp2
  go_quiet (fail)
  rename_i nq
  obtain ⟨W, hW⟩ : ∃ W, W = (((X.w0.alloc (.cells #[.int .i64 10, .int .i64 X.c.imm, .string ⟨X.c.tab.toArray⟩] 67)).alloc (.cells #[.int .i64 10, .int .i64 X.c.imm, .int .i64 0, .int .i64 0] 176)).drewN nq) := ⟨_, rfl⟩
  have ST := START.out nq
  unfold insObj flatObj at ST
  simp only [hop] at ST ⊢
  rw [← hW]
  rw [hbc.out, hbo.out]
  have HL : Hid (OneL X W L cv s ⟨10, X.c.imm, 0, 0⟩) := by rw [hW]; exact ST
  clear ST hW START q0 q1 q2 m0 m2 m3 hbc hbo lg1 lg2 hgl1 lg
  obtain ⟨j, hj⟩ : ∃ j : Nat, X.c.imm = j := ⟨X.c.imm.toNat, by have := HIM.out; omega⟩
  have hef := CTX.out.ef
  cases hu : E.funs[j]? with
  | none =>
    have hjl : X.funs.length ≤ j := by rw [← hef]; exact List.getElem?_eq_none_iff.1 hu
    have E0 : Hid (s.one E X.src i X.c = (s, 5)) := by
      have := EONE.out
      rw [hj] at this
      simp only [Int.toNat_natCast, hu] at this
      exact this
    have FR : Hid (Fr X.S0 X.w0 W) := HL.out.fr
    obtain ⟨i0, i1, i2, o0, o1, o2, o3, of, p4, k0, k1, kf, m0, m1, m2, m3, m4, gf, lc, lo, lp, lk, lg⟩ := HL.out.facts HX.out CTX.out.me
    rw [hsv] at m3
    rw [hj] at i1
    clear EONE hu hef
    go_wp2
    go_quiet (fail)
    go_wp2
    go_ret
    rw [E0.out]
    exact ⟨rfl, FR.out.drewN _, fun e => by cases e⟩
  | some u =>
    have hjl : j < X.funs.length := by rw [← hef]; exact (List.getElem?_eq_some_iff.1 hu).1
    have E0 : Hid (s.one E X.src i X.c = ({ (s.swap u.params u.results).1 with code := s.code ++ [⟨10, X.c.imm, 0, 0⟩] }, typedM (s.swap u.params u.results).2)) := by
      have := EONE.out
      rw [hj] at this ⊢
      simp only [Int.toNat_natCast, hu] at this
      exact this
    rw [hef] at hu
    obtain ⟨hp1, hp2, hp3⟩ := CTX.out.ps u (List.mem_of_getElem? hu)
    obtain ⟨s1, s2⟩ := HL.out.sig HX.out hu
    have HC : Hid (∀ w', OneL X w' L cv s ⟨10, X.c.imm, 0, 0⟩ → _) := fun w' h' => mswap_any X.bk L s u.params u.results w' h'.k CTX.out.top (by omega) (by omega) (by omega) (by omega)
    obtain ⟨i0, i1, i2, o0, o1, o2, o3, of, p4, k0, k1, kf, m0, m1, m2, m3, m4, gf, lc, lo, lp, lk, lg⟩ := HL.out.facts HX.out CTX.out.me
    rw [hsv] at m3
    rw [hj] at i1
    clear EONE hu hef
    go_wp2
    go_quiet (fail)
    go_wp2
    refine wp_region_tail 19 (by kernel_rfl) (by kernel_rfl) (fun _ _ _ _ _ h => h) ?_
    simp only [List.take_succ_cons, List.take_zero, List.drop_succ_cons, List.drop_zero]
    repeat go_big_quiet_step (fail)
    refine wpQuiet_nil ?_
    go_wp2_with fail
    refine (HC.out _ (by first | exact HL.out | exact HL.out.drew | exact HL.out.drewN _ | exact (HL.out.drewN _).drew | exact (HL.out.drew).drewN _ | exact (HL.out.drewN _).drewN _)).mono ?_
    rintro e w1 ⟨sa, sc, rfl, g1, g2⟩
    have HL1 : Hid (OneL X w1 { L with sa := sa, sc := sc } cv (s.swap u.params u.results).1 ⟨10, X.c.imm, 0, 0⟩) := OneL.chk (s := s) (by first | exact HL.out | exact HL.out.drew | exact HL.out.drewN _ | exact (HL.out.drewN _).drew | exact (HL.out.drew).drewN _ | exact (HL.out.drewN _).drewN _) g1 g2 rfl
    clear g1 g2 HL HC s1 s2
    clear i0 i1 i2 o0 o1 o2 o3 of p4 k0 k1 kf m0 m1 m2 m3 m4 gf lc lo lp lk lg
    rw [hj] at HL1
    go_wp2
    obtain ⟨i09, i19, i29, o09, o19, o29, o39, of9, p49, k09, k19, kf9, m09, m19, m29, m39, m49, gf9, lc9, lo9, lp9, lk9, lg9⟩ := HL1.out.facts HX.out CTX.out.me
    clear i09 i19 i29 p49 k09 k19 kf9 m09 m19 m29 m39 lc9 lp9 lk9
    have hcl9 : ((s.swap u.params u.results).1 : Mk).code.length ≤ 600 := by have := CODELEN.out; exact Nat.le_trans this (by decide)
    refine wp_region_app rowFlat 6 (by kernel_rfl) (by kernel_rfl) (fun _ _ _ _ _ h => h) _ _ _ rfl (.tmp 511) (.tmp 510) 512 513 rfl rfl rfl rfl rfl rfl _ _ _ HL1.out.code (.agg #[.int .i64 (10), .int .i64 (j), .int .i64 (0), .int .i64 (0)]) rfl (by decide) (by simp [Value.cells, Value.oneCell']) (by omega) ?_
    intro g2 cap w99 q1 q2 q3 q4
    have FIN : Hid (OneL X _ _ _ _ _) := HL1.out.app HX.out q2 (by simpa [Flat.cells, Value.cells] using q1) q3
    obtain ⟨y09, y19, y29, y39, y49, yf9⟩ := HL1.out.mid HX.out CTX.out.me q2
    clear q1 q2 q3 q4 HL1
    simp only [List.take_succ_cons, List.take_zero]
    repeat go_big_quiet_step (fail)
    refine wpQuiet_nil ⟨rfl, rfl, by simp, rfl, ?_⟩
    go_wp2_with fail
    refine (typed_any (s.swap u.params u.results).2 _).mono ?_
    rintro e w8 ⟨rfl, rfl⟩
    go_wp2
    go_ret
    rw [E0.out, hj]
    exact ⟨rfl, FIN.out.fr, fun _ => ⟨_, _, _, FIN.out⟩⟩
end Go.Proofs.Qxb6500575aGreatDoor
