/-
  THE WALKS of prepm.Prog.one: select, local.get, local.set, the plain ones (written by tools/gen_mone.py).
-/
import Derived.Test.Qxb6500575aGreatDoorMOne1
import Derived.Test.Qxb6500575aGreatDoorLocal
namespace Go.Proofs.Qxb6500575aGreatDoor
open Go Go.RowKit
set_option linter.unusedVariables false
set_option linter.unusedSimpArgs false

set_option maxRecDepth 100000 in
set_option maxHeartbeats 4000000 in
theorem mone_12 (X : OneP) (L : MkL) (cv : Value) (s : Mk) (E : Env) (i : Nat) (c0 : Ctl) (r0 : List Ctl) (h : OneCtx X L cv s E i c0 r0) (hop : X.c.op = 12) :
    Calls Tryz.prog 58 #[.pointer (some ⟨X.bp, 0, none⟩), .pointer (some ⟨X.bk, 0, none⟩), .pointer (some ⟨X.g, X.f * 5, none⟩), .int .i64 i] X.w0 fun e w' => OnePost X (s.one E X.src i X.c) e w' := by
  have E0 : Hid (s.one E X.src i X.c = ({ s.sel.1 with code := s.sel.1.code ++ [⟨12, X.c.imm, 0, 0⟩] }, typedM s.sel.2)) := by
    show _ = _
    simp [Mk.one, Mk.plain, hop, Mk.sel, Mk.pops, Mk.pop]
  have CODELEN : Hid (s.code.length ≤ 500) := h.code
  have hX := h.inn.ok
  obtain ⟨gs, scap, hsv, hgl, q0, q1, q2, hil⟩ := h.at
  obtain ⟨m0, m2, m3, lg⟩ := h.inn.pre h.me
  have hsl := h.sl
  have hsst := h.st
  have hscs := h.cs
  have hscd := h.code
  have hfl := h.fl
  have hmp := h.ps E.me (List.mem_of_getElem? h.me)
  obtain ⟨hmp1, hmp2, hmp3⟩ := hmp
  have START : Hid (∀ n, OneL X (((X.w0.alloc (insObj X.c)).alloc (flatObj ⟨X.c.op, X.c.imm, 0, 0⟩)).drewN n) L cv s ⟨X.c.op, X.c.imm, 0, 0⟩) := h.inn.start
  have hbc : Hid (X.w0.heap.size = X.bc) := h.inn.hbc.symm
  have hbo : Hid (X.bc + 1 = X.bo) := by show _ = _; rw [h.inn.hbo, h.inn.hbc]
  have CTX : Hid (OneCtx X L cv s E i c0 r0) := h
  have HX : Hid X.Ok := hX
  have hrl : r0.length ≤ 500 := by have := h.top.cs; have hh := h.cs; rw [this] at hh; simp at hh; omega
  rw [hsv] at m3
  have lg1 : X.g < X.w0.heap.size + 1 := by omega
  have lg2 : X.g < X.w0.heap.size + 1 + 1 := by omega
  have hgl1 : gs < X.w0.heap.size + 1 := by omega
  clear h hX
  go_enter Tryz.func58, Tryz.ntmps58
  go_wp2
  go_quiet (fail)
  rename_i nq
  obtain ⟨W, hW⟩ : ∃ W, W = (((X.w0.alloc (.cells #[.int .i64 12, .int .i64 X.c.imm, .string ⟨X.c.tab.toArray⟩] 67)).alloc (.cells #[.int .i64 12, .int .i64 X.c.imm, .int .i64 0, .int .i64 0] 176)).drewN nq) := ⟨_, rfl⟩
  have ST := START.out nq
  unfold insObj flatObj at ST
  simp only [hop] at ST ⊢
  rw [← hW]
  rw [hbc.out, hbo.out]
  have HL : Hid (OneL X W L cv s ⟨12, X.c.imm, 0, 0⟩) := by rw [hW]; exact ST
  clear ST hW START q0 q1 q2 m0 m2 m3 hbc hbo lg1 lg2 hgl1 lg
  have htop := CTX.out.top
  have esel : s.sel = ({ (((s.pops [105]).1.pop 0).1.pop ((s.pops [105]).1.pop 0).2.1).1 with st := (((s.pops [105]).1.pop 0).1.pop ((s.pops [105]).1.pop 0).2.1).2.1 :: (((s.pops [105]).1.pop 0).1.pop ((s.pops [105]).1.pop 0).2.1).1.st },
   (s.pops [105]).2 && ((s.pops [105]).1.pop 0).2.2 && (((s.pops [105]).1.pop 0).1.pop ((s.pops [105]).1.pop 0).2.1).2.2) := rfl
  have HC1 : Hid (∀ w', OneL X w' L cv s ⟨12, X.c.imm, 0, 0⟩ → _) := fun w' h' => mpops_any X.bk L s [105] w' h'.k htop (by omega) (by omega) (by simp)
  have ht1 := Mk.pops_top htop [105]
  have hl1 := s.pops_len2 [105]
  have hc1 : (s.pops [105]).1.code = s.code := rfl
  generalize s.pops [105] = p1 at *
  obtain ⟨s1, e1⟩ := p1
  simp only at HC1 ht1 hl1 esel hc1
  have HC2 : Hid (∀ w', OneL X w' L cv s1 ⟨12, X.c.imm, 0, 0⟩ → _) := fun w' h' => mpop_any X.bk L s1 0 w' h'.k ht1 (by omega) (by omega)
  have ht2 := Mk.pop_top ht1 0
  have hl2 := s1.pop_len2 0
  have hc2 : (s1.pop 0).1.code = s1.code := rfl
  generalize s1.pop 0 = p2 at *
  obtain ⟨s2, t2, ok2⟩ := p2
  simp only at HC2 ht2 hl2 esel hc2
  have HC3 : Hid (∀ w', OneL X w' L cv s2 ⟨12, X.c.imm, 0, 0⟩ → _) := fun w' h' => mpop_any X.bk L s2 t2 w' h'.k ht2 (by omega) (by omega)
  have hl3 := s2.pop_len2 t2
  have hc3 : (s2.pop t2).1.code = s2.code := rfl
  generalize s2.pop t2 = p3 at *
  obtain ⟨s3, t3, ok3⟩ := p3
  simp only at HC3 hl3 esel hc3
  have ES : Hid (s.sel = ({ s3 with st := t3 :: s3.st }, e1 && ok2 && ok3)) := esel
  have C1 : Hid (s1.code = s.code) := hc1
  have C2 : Hid (s2.code = s1.code) := hc2
  have C3 : Hid (s3.code = s2.code) := hc3
  clear ht1 ht2 htop esel hc1 hc2 hc3
  obtain ⟨i0, i1, i2, o0, o1, o2, o3, of, p4, k0, k1, kf, m0, m1, m2, m3, m4, gf, lc, lo, lp, lk, lg⟩ := HL.out.facts HX.out CTX.out.me
  rw [hsv] at m3
  go_wp2_with fail
  refine (HC1.out _ (by first | exact HL.out | exact HL.out.drew | exact HL.out.drewN _ | exact (HL.out.drewN _).drew | exact (HL.out.drew).drewN _ | exact (HL.out.drewN _).drewN _)).mono ?_
  rintro e w1 ⟨rfl, g1, g2⟩
  have HL1 : Hid (OneL X w1 L cv s1 ⟨12, X.c.imm, 0, 0⟩) := HL.out.chk g1 g2 C1.out
  clear g1 g2 HL HC1
  clear i0 i1 i2 o0 o1 o2 o3 of p4 k0 k1 kf m0 m1 m2 m3 m4 gf lc lo lp lk lg
  go_wp2_with fail
  refine (HC2.out _ (by first | exact HL1.out | exact HL1.out.drew | exact HL1.out.drewN _ | exact (HL1.out.drewN _).drew | exact (HL1.out.drew).drewN _ | exact (HL1.out.drewN _).drewN _)).mono ?_
  rintro e w2 ⟨rfl, g1, g2⟩
  have HL2 : Hid (OneL X w2 L cv s2 ⟨12, X.c.imm, 0, 0⟩) := HL1.out.chk g1 g2 C2.out
  clear g1 g2 HL1 HC2
  go_wp2_with fail
  refine (HC3.out _ (by first | exact HL2.out | exact HL2.out.drew | exact HL2.out.drewN _ | exact (HL2.out.drewN _).drew | exact (HL2.out.drew).drewN _ | exact (HL2.out.drewN _).drewN _)).mono ?_
  rintro e w3 ⟨rfl, g1, g2⟩
  have HL3 : Hid (OneL X w3 L cv s3 ⟨12, X.c.imm, 0, 0⟩) := HL2.out.chk g1 g2 C3.out
  clear g1 g2 HL2 HC3
  have d0 := HL3.out.k.here.cell 0
  simp at d0
  have df := HL3.out.k.here.frozen 0
  have dl := HL3.out.k.here.lt
  have R3 : Hid (MkRep w3 X.bk L s3) := HL3.out.k
  go_wp2_with (at_builtin; go_must (refine wpList_app rowByte _ rfl (.tmp 460) (.tmp 462) rfl _ _ _ rfl (owns_alloc R3.out.st _) _ [.int .u8 t3.toNat] rfl (Has.new _ _ _) rfl ?one ?bd ?go))
  case one => simp [Value.oneCell']
  case bd => omega
  case go =>
    intro g cap w5 q1 q2 q3 q4
    have hne := owns_ne R3.out.st R3.out.here (by decide)
    have hH5 : Has w5 X.bk _ _ := (R3.out.here.alloc _).fr q2 hne
    have t0 := hH5.cell 0
    simp at t0
    have tf0 := hH5.frozen 0
    obtain ⟨n1, n2, n3, n4, n5⟩ := app_net R3.out.here hne q2 q1 (by decide) q3 q4 0
    have fin := R3.out.putSt (t3 :: s3.st) (sa2 := some ⟨g, 0, none⟩) (sc2 := cap) n1 (by simpa using n2) (by simpa [byteCells] using n3) (fun k hk => by simp [Value.ownBlock] at hk; subst hk; exact n4)
    have HL4 : Hid (OneL X _ { L with sa := some ⟨g, 0, none⟩, sc := cap } cv { s3 with st := t3 :: s3.st } ⟨12, X.c.imm, 0, 0⟩) := HL3.out.chk fin.1 fin.2 rfl
    clear fin n1 n2 n3 n4 n5 q1 q2 q3 q4 hH5 hne R3 HL3 d0 df
    have key : ∀ b, b = (e1 && ok2 && ok3) → s.one E X.src i X.c = ({ ({ s3 with st := t3 :: s3.st } : Mk) with code := s3.code ++ [⟨12, X.c.imm, 0, 0⟩] }, typedM b) := by
      intro b hb
      rw [E0.out, ES.out, hb]
    have KEY : Hid (∀ b, _) := key
    clear key ES E0
    have CL3 : Hid (s3.code.length ≤ 500) := by show _ ≤ _; rw [C3.out, C2.out, C1.out]; exact CODELEN.out
    clear C1 C2 C3
    have hokv : ∀ b : Bool, b = (e1 && ok2 && ok3) → True := fun _ _ => trivial
    clear hokv
    obtain ⟨w6, hw6⟩ : ∃ w6, w6 = w5.setCell ⟨X.bk, 0, none⟩ (.slice (some ⟨g, 0, none⟩) (s3.st.length + 1) cap) := ⟨_, rfl⟩
    rw [← hw6] at HL4
    have HW6 : Hid (w6 = w5.setCell ⟨X.bk, 0, none⟩ (.slice (some ⟨g, 0, none⟩) (s3.st.length + 1) cap)) := hw6
    clear hw6
    cases e1 <;> cases ok2 <;> cases ok3 <;>
    · go_wp2
      rw [← HW6.out]
      clear HW6 t0 tf0
      obtain ⟨i09, i19, i29, o09, o19, o29, o39, of9, p49, k09, k19, kf9, m09, m19, m29, m39, m49, gf9, lc9, lo9, lp9, lk9, lg9⟩ := HL4.out.facts HX.out CTX.out.me
      clear i09 i19 i29 p49 k09 k19 kf9 m09 m19 m29 m39 lc9 lp9 lk9
      have hcl9 : ({ s3 with st := t3 :: s3.st } : Mk).code.length ≤ 600 := by have := CL3.out; exact Nat.le_trans this (by decide)
      refine wp_region_app rowFlat 6 (by kernel_rfl) (by kernel_rfl) (fun _ _ _ _ _ h => h) _ _ _ rfl (.tmp 511) (.tmp 510) 512 513 rfl rfl rfl rfl rfl rfl _ _ _ HL4.out.code (.agg #[.int .i64 (12), .int .i64 (X.c.imm), .int .i64 (0), .int .i64 (0)]) rfl (by decide) (by simp [Value.cells, Value.oneCell']) (by omega) ?_
      intro g2 cap w99 q1 q2 q3 q4
      have FIN : Hid (OneL X _ _ _ _ _) := HL4.out.app HX.out q2 (by simpa [Flat.cells, Value.cells] using q1) q3
      obtain ⟨y09, y19, y29, y39, y49, yf9⟩ := HL4.out.mid HX.out CTX.out.me q2
      clear q1 q2 q3 q4 HL4
      simp only [List.take_succ_cons, List.take_zero]
      repeat go_big_quiet_step (fail)
      refine wpQuiet_nil ⟨rfl, rfl, by simp, rfl, ?_⟩
      go_wp2_with fail
      refine (typed_any _ _).mono ?_
      rintro e w8 ⟨rfl, rfl⟩
      go_wp2
      go_ret
      rw [KEY.out _ rfl]
      exact ⟨rfl, FIN.out.fr, fun _ => ⟨_, _, _, FIN.out⟩⟩
set_option maxRecDepth 100000 in
set_option maxHeartbeats 4000000 in
theorem mone_13 (X : OneP) (L : MkL) (cv : Value) (s : Mk) (E : Env) (i : Nat) (c0 : Ctl) (r0 : List Ctl) (h : OneCtx X L cv s E i c0 r0) (hop : X.c.op = 13) (him : 0 ≤ X.c.imm) :
    Calls Tryz.prog 58 #[.pointer (some ⟨X.bp, 0, none⟩), .pointer (some ⟨X.bk, 0, none⟩), .pointer (some ⟨X.g, X.f * 5, none⟩), .int .i64 i] X.w0 fun e w' => OnePost X (s.one E X.src i X.c) e w' := by
  have CODELEN : Hid (s.code.length ≤ 500) := h.code
  have HIM : Hid (0 ≤ X.c.imm) := him
  clear him
  have EONE : Hid (s.one E X.src i X.c = match (E.me.params ++ E.me.locals)[X.c.imm.toNat]? with | none => (s, 5) | some t => ({ ({ s with st := t :: s.st } : Mk) with code := s.code ++ [⟨13, X.c.imm, 0, 0⟩] }, typedM true)) := by
    show _ = _
    simp only [Mk.one, Mk.plain, hop]
    cases (E.me.params ++ E.me.locals)[X.c.imm.toNat]? <;> simp
  have hX := h.inn.ok
  obtain ⟨gs, scap, hsv, hgl, q0, q1, q2, hil⟩ := h.at
  obtain ⟨m0, m2, m3, lg⟩ := h.inn.pre h.me
  have hsl := h.sl
  have hsst := h.st
  have hscs := h.cs
  have hscd := h.code
  have hfl := h.fl
  have hmp := h.ps E.me (List.mem_of_getElem? h.me)
  obtain ⟨hmp1, hmp2, hmp3⟩ := hmp
  have START : Hid (∀ n, OneL X (((X.w0.alloc (insObj X.c)).alloc (flatObj ⟨X.c.op, X.c.imm, 0, 0⟩)).drewN n) L cv s ⟨X.c.op, X.c.imm, 0, 0⟩) := h.inn.start
  have hbc : Hid (X.w0.heap.size = X.bc) := h.inn.hbc.symm
  have hbo : Hid (X.bc + 1 = X.bo) := by show _ = _; rw [h.inn.hbo, h.inn.hbc]
  have CTX : Hid (OneCtx X L cv s E i c0 r0) := h
  have HX : Hid X.Ok := hX
  have hrl : r0.length ≤ 500 := by have := h.top.cs; have hh := h.cs; rw [this] at hh; simp at hh; omega
  rw [hsv] at m3
  have lg1 : X.g < X.w0.heap.size + 1 := by omega
  have lg2 : X.g < X.w0.heap.size + 1 + 1 := by omega
  have hgl1 : gs < X.w0.heap.size + 1 := by omega
  clear h hX
  go_enter Tryz.func58, Tryz.ntmps58
  go_wp2
  go_quiet (fail)
  rename_i nq
  obtain ⟨W, hW⟩ : ∃ W, W = (((X.w0.alloc (.cells #[.int .i64 13, .int .i64 X.c.imm, .string ⟨X.c.tab.toArray⟩] 67)).alloc (.cells #[.int .i64 13, .int .i64 X.c.imm, .int .i64 0, .int .i64 0] 176)).drewN nq) := ⟨_, rfl⟩
  have ST := START.out nq
  unfold insObj flatObj at ST
  simp only [hop] at ST ⊢
  rw [← hW]
  rw [hbc.out, hbo.out]
  have HL : Hid (OneL X W L cv s ⟨13, X.c.imm, 0, 0⟩) := by rw [hW]; exact ST
  clear ST hW START q0 q1 q2 m0 m2 m3 hbc hbo lg1 lg2 hgl1 lg
  obtain ⟨j, hj⟩ : ∃ j : Nat, X.c.imm = j := ⟨X.c.imm.toNat, by have := HIM.out; omega⟩
  have hal : (E.me.params ++ E.me.locals).length = E.me.params.length + E.me.locals.length := by simp
  cases htt : (E.me.params ++ E.me.locals)[j]? with
  | none =>
    have hjl : E.me.params.length + E.me.locals.length ≤ j := by rw [← hal]; exact List.getElem?_eq_none_iff.1 htt
    have E0 : Hid (s.one E X.src i X.c = (s, 5)) := by
      have := EONE.out
      rw [hj] at this
      simp only [Int.toNat_natCast, htt] at this
      exact this
    have FR : Hid (Fr X.S0 X.w0 W) := HL.out.fr
    obtain ⟨i0, i1, i2, o0, o1, o2, o3, of, p4, k0, k1, kf, m0, m1, m2, m3, m4, gf, lc, lo, lp, lk, lg⟩ := HL.out.facts HX.out CTX.out.me
    rw [hsv] at m3
    rw [hj] at i1
    clear EONE htt hal
    go_wp2
    go_ret
    rw [E0.out]
    exact ⟨rfl, FR.out, fun e => by cases e⟩
  | some t =>
    have hjl : j < E.me.params.length + E.me.locals.length := by rw [← hal]; exact (List.getElem?_eq_some_iff.1 htt).1
    have E0 : Hid (s.one E X.src i X.c = ({ ({ s with st := t :: s.st } : Mk) with code := s.code ++ [⟨13, X.c.imm, 0, 0⟩] }, typedM true)) := by
      have := EONE.out
      rw [hj] at this ⊢
      simp only [Int.toNat_natCast, htt] at this
      exact this
    have HTT : Hid ((E.me.params ++ E.me.locals)[j]? = some t) := htt
    have HC : Hid (∀ w', OneL X w' L cv s ⟨13, X.c.imm, 0, 0⟩ → _) := fun w' h' => mpops_any X.bk L s [t] w' h'.k CTX.out.top (by omega) (by omega) (by simp)
    obtain ⟨i0, i1, i2, o0, o1, o2, o3, of, p4, k0, k1, kf, m0, m1, m2, m3, m4, gf, lc, lo, lp, lk, lg⟩ := HL.out.facts HX.out CTX.out.me
    rw [hsv] at m3
    rw [hj] at i1
    clear EONE htt hal
    have hidx : ∀ hh, ((⟨E.me.params.toArray⟩ : ByteArray) ++ (⟨E.me.locals.toArray⟩ : ByteArray))[j]'hh = t := fun hh => mall_ix _ _ _ _ HTT.out hh
    have hsz : ((⟨E.me.params.toArray⟩ : ByteArray) ++ (⟨E.me.locals.toArray⟩ : ByteArray)).size = E.me.params.length + E.me.locals.length := by simp [ByteArray.size_append, ByteArray.size]
    go_wp2
    refine wp_region_app rowByte 9 (by kernel_rfl) (by kernel_rfl) (fun _ _ _ _ _ h => h) _ _ _ rfl (.tmp 492) (.tmp 488) 493 494 rfl rfl rfl rfl rfl rfl _ _ _ HL.out.k.st (.int .u8 t.toNat) rfl (by decide) (by simp [Value.cells, Value.oneCell']) (by omega) ?_
    intro g cap w2 q1 q2 q3 q4
    have hne := owns_ne HL.out.k.st HL.out.k.here (by decide)
    have hH2 : Has w2 X.bk _ _ := (HL.out.k.here.alloc _).fr q2 hne
    have hI2 : Has w2 X.bc _ _ := (HL.out.ci.alloc _).fr q2 (owns_ne HL.out.k.st HL.out.ci (by decide))
    have t0 := hH2.cell 0
    have u1 := hI2.cell 1
    simp at t0 u1
    rw [hj] at u1
    have tf0 := hH2.frozen 0
    obtain ⟨n1, n2, n3, n4, n5⟩ := app_net HL.out.k.here hne q2 q1 (by decide) q3 q4 0
    have fin := HL.out.k.putSt (t :: s.st) (sa2 := some ⟨g, 0, none⟩) (sc2 := cap) n1 (by simpa using n2) (by simpa [byteCells, Value.cells] using n3) (fun k hk => by simp [Value.ownBlock] at hk; subst hk; exact n4)
    have HL1 : Hid (OneL X _ { L with sa := some ⟨g, 0, none⟩, sc := cap } cv { s with st := t :: s.st } ⟨13, X.c.imm, 0, 0⟩) := HL.out.chk fin.1 fin.2 rfl
    clear fin n1 n2 n3 n4 n5 q1 q2 q3 q4 hH2 hI2 hne HL HC
    simp only [List.take_succ_cons, List.take_zero]
    repeat go_big_quiet_step (fail)
    refine wpQuiet_nil ⟨rfl, ?_, by simp, rfl, ?_⟩
    · simp [Act.eval, hidx]
    obtain ⟨w6, hw6⟩ : ∃ w6, w6 = w2.setCell ⟨X.bk, 0, none⟩ (.slice (some ⟨g, 0, none⟩) (s.st.length + 1) cap) := ⟨_, rfl⟩
    rw [← hw6] at HL1
    have HW6 : Hid (w6 = w2.setCell ⟨X.bk, 0, none⟩ (.slice (some ⟨g, 0, none⟩) (s.st.length + 1) cap)) := hw6
    clear hw6
    go_wp2
    rw [← HW6.out]
    clear HW6 t0 tf0 u1
    clear i0 i1 i2 o0 o1 o2 o3 of p4 k0 k1 kf m0 m1 m2 m3 m4 gf lc lo lp lk lg
    rw [hj] at HL1
    obtain ⟨i09, i19, i29, o09, o19, o29, o39, of9, p49, k09, k19, kf9, m09, m19, m29, m39, m49, gf9, lc9, lo9, lp9, lk9, lg9⟩ := HL1.out.facts HX.out CTX.out.me
    clear i09 i19 i29 p49 k09 k19 kf9 m09 m19 m29 m39 lc9 lp9 lk9
    have hcl9 : ({ s with st := t :: s.st } : Mk).code.length ≤ 600 := by have := CODELEN.out; exact Nat.le_trans this (by decide)
    refine wp_region_app rowFlat 6 (by kernel_rfl) (by kernel_rfl) (fun _ _ _ _ _ h => h) _ _ _ rfl (.tmp 511) (.tmp 510) 512 513 rfl rfl rfl rfl rfl rfl _ _ _ HL1.out.code (.agg #[.int .i64 (13), .int .i64 (j), .int .i64 (0), .int .i64 (0)]) rfl (by decide) (by simp [Value.cells, Value.oneCell']) (by omega) ?_
    intro g2 cap w99 q1 q2 q3 q4
    have FIN : Hid (OneL X _ _ _ _ _) := HL1.out.app HX.out q2 (by simpa [Flat.cells, Value.cells] using q1) q3
    obtain ⟨y09, y19, y29, y39, y49, yf9⟩ := HL1.out.mid HX.out CTX.out.me q2
    clear q1 q2 q3 q4 HL1
    simp only [List.take_succ_cons, List.take_zero]
    repeat go_big_quiet_step (fail)
    refine wpQuiet_nil ⟨rfl, rfl, by simp, rfl, ?_⟩
    go_wp2_with fail
    refine (typed_any true _).mono ?_
    rintro e w8 ⟨rfl, rfl⟩
    go_wp2
    go_ret
    rw [E0.out, hj]
    exact ⟨rfl, FIN.out.fr, fun _ => ⟨_, _, _, FIN.out⟩⟩
set_option maxRecDepth 100000 in
set_option maxHeartbeats 4000000 in
theorem mone_14 (X : OneP) (L : MkL) (cv : Value) (s : Mk) (E : Env) (i : Nat) (c0 : Ctl) (r0 : List Ctl) (h : OneCtx X L cv s E i c0 r0) (hop : X.c.op = 14) (him : 0 ≤ X.c.imm) :
    Calls Tryz.prog 58 #[.pointer (some ⟨X.bp, 0, none⟩), .pointer (some ⟨X.bk, 0, none⟩), .pointer (some ⟨X.g, X.f * 5, none⟩), .int .i64 i] X.w0 fun e w' => OnePost X (s.one E X.src i X.c) e w' := by
  have CODELEN : Hid (s.code.length ≤ 500) := h.code
  have HIM : Hid (0 ≤ X.c.imm) := him
  clear him
  have EONE : Hid (s.one E X.src i X.c = match (E.me.params ++ E.me.locals)[X.c.imm.toNat]? with | none => (s, 5) | some t => ({ (s.pops [t]).1 with code := s.code ++ [⟨14, X.c.imm, 0, 0⟩] }, typedM (s.pops [t]).2)) := by
    show _ = _
    simp only [Mk.one, Mk.plain, hop]
    cases (E.me.params ++ E.me.locals)[X.c.imm.toNat]? <;> simp
  have hX := h.inn.ok
  obtain ⟨gs, scap, hsv, hgl, q0, q1, q2, hil⟩ := h.at
  obtain ⟨m0, m2, m3, lg⟩ := h.inn.pre h.me
  have hsl := h.sl
  have hsst := h.st
  have hscs := h.cs
  have hscd := h.code
  have hfl := h.fl
  have hmp := h.ps E.me (List.mem_of_getElem? h.me)
  obtain ⟨hmp1, hmp2, hmp3⟩ := hmp
  have START : Hid (∀ n, OneL X (((X.w0.alloc (insObj X.c)).alloc (flatObj ⟨X.c.op, X.c.imm, 0, 0⟩)).drewN n) L cv s ⟨X.c.op, X.c.imm, 0, 0⟩) := h.inn.start
  have hbc : Hid (X.w0.heap.size = X.bc) := h.inn.hbc.symm
  have hbo : Hid (X.bc + 1 = X.bo) := by show _ = _; rw [h.inn.hbo, h.inn.hbc]
  have CTX : Hid (OneCtx X L cv s E i c0 r0) := h
  have HX : Hid X.Ok := hX
  have hrl : r0.length ≤ 500 := by have := h.top.cs; have hh := h.cs; rw [this] at hh; simp at hh; omega
  rw [hsv] at m3
  have lg1 : X.g < X.w0.heap.size + 1 := by omega
  have lg2 : X.g < X.w0.heap.size + 1 + 1 := by omega
  have hgl1 : gs < X.w0.heap.size + 1 := by omega
  clear h hX
  go_enter Tryz.func58, Tryz.ntmps58
  go_wp2
  go_quiet (fail)
  rename_i nq
  obtain ⟨W, hW⟩ : ∃ W, W = (((X.w0.alloc (.cells #[.int .i64 14, .int .i64 X.c.imm, .string ⟨X.c.tab.toArray⟩] 67)).alloc (.cells #[.int .i64 14, .int .i64 X.c.imm, .int .i64 0, .int .i64 0] 176)).drewN nq) := ⟨_, rfl⟩
  have ST := START.out nq
  unfold insObj flatObj at ST
  simp only [hop] at ST ⊢
  rw [← hW]
  rw [hbc.out, hbo.out]
  have HL : Hid (OneL X W L cv s ⟨14, X.c.imm, 0, 0⟩) := by rw [hW]; exact ST
  clear ST hW START q0 q1 q2 m0 m2 m3 hbc hbo lg1 lg2 hgl1 lg
  obtain ⟨j, hj⟩ : ∃ j : Nat, X.c.imm = j := ⟨X.c.imm.toNat, by have := HIM.out; omega⟩
  have hal : (E.me.params ++ E.me.locals).length = E.me.params.length + E.me.locals.length := by simp
  cases htt : (E.me.params ++ E.me.locals)[j]? with
  | none =>
    have hjl : E.me.params.length + E.me.locals.length ≤ j := by rw [← hal]; exact List.getElem?_eq_none_iff.1 htt
    have E0 : Hid (s.one E X.src i X.c = (s, 5)) := by
      have := EONE.out
      rw [hj] at this
      simp only [Int.toNat_natCast, htt] at this
      exact this
    have FR : Hid (Fr X.S0 X.w0 W) := HL.out.fr
    obtain ⟨i0, i1, i2, o0, o1, o2, o3, of, p4, k0, k1, kf, m0, m1, m2, m3, m4, gf, lc, lo, lp, lk, lg⟩ := HL.out.facts HX.out CTX.out.me
    rw [hsv] at m3
    rw [hj] at i1
    clear EONE htt hal
    go_wp2
    go_ret
    rw [E0.out]
    exact ⟨rfl, FR.out, fun e => by cases e⟩
  | some t =>
    have hjl : j < E.me.params.length + E.me.locals.length := by rw [← hal]; exact (List.getElem?_eq_some_iff.1 htt).1
    have E0 : Hid (s.one E X.src i X.c = ({ (s.pops [t]).1 with code := s.code ++ [⟨14, X.c.imm, 0, 0⟩] }, typedM (s.pops [t]).2)) := by
      have := EONE.out
      rw [hj] at this ⊢
      simp only [Int.toNat_natCast, htt] at this
      exact this
    have HTT : Hid ((E.me.params ++ E.me.locals)[j]? = some t) := htt
    have HC : Hid (∀ w', OneL X w' L cv s ⟨14, X.c.imm, 0, 0⟩ → _) := fun w' h' => mpops_any X.bk L s [t] w' h'.k CTX.out.top (by omega) (by omega) (by simp)
    obtain ⟨i0, i1, i2, o0, o1, o2, o3, of, p4, k0, k1, kf, m0, m1, m2, m3, m4, gf, lc, lo, lp, lk, lg⟩ := HL.out.facts HX.out CTX.out.me
    rw [hsv] at m3
    rw [hj] at i1
    clear EONE htt hal
    go_wp2_with fail
    rw [sv_ext E.me.params E.me.locals j t HTT.out]
    refine (HC.out _ HL.out).mono ?_
    rintro e w1 ⟨rfl, g1, g2⟩
    have HL1 : Hid (OneL X w1 L cv (s.pops [t]).1 ⟨14, X.c.imm, 0, 0⟩) := HL.out.chk g1 g2 rfl
    clear g1 g2 HL HC
    clear i0 i1 i2 o0 o1 o2 o3 of p4 k0 k1 kf m0 m1 m2 m3 m4 gf lc lo lp lk lg
    rw [hj] at HL1
    go_wp2
    obtain ⟨i09, i19, i29, o09, o19, o29, o39, of9, p49, k09, k19, kf9, m09, m19, m29, m39, m49, gf9, lc9, lo9, lp9, lk9, lg9⟩ := HL1.out.facts HX.out CTX.out.me
    clear i09 i19 i29 p49 k09 k19 kf9 m09 m19 m29 m39 lc9 lp9 lk9
    have hcl9 : ((s.pops [t]).1 : Mk).code.length ≤ 600 := by have := CODELEN.out; exact Nat.le_trans this (by decide)
    refine wp_region_app rowFlat 6 (by kernel_rfl) (by kernel_rfl) (fun _ _ _ _ _ h => h) _ _ _ rfl (.tmp 511) (.tmp 510) 512 513 rfl rfl rfl rfl rfl rfl _ _ _ HL1.out.code (.agg #[.int .i64 (14), .int .i64 (j), .int .i64 (0), .int .i64 (0)]) rfl (by decide) (by simp [Value.cells, Value.oneCell']) (by omega) ?_
    intro g2 cap w99 q1 q2 q3 q4
    have FIN : Hid (OneL X _ _ _ _ _) := HL1.out.app HX.out q2 (by simpa [Flat.cells, Value.cells] using q1) q3
    obtain ⟨y09, y19, y29, y39, y49, yf9⟩ := HL1.out.mid HX.out CTX.out.me q2
    clear q1 q2 q3 q4 HL1
    simp only [List.take_succ_cons, List.take_zero]
    repeat go_big_quiet_step (fail)
    refine wpQuiet_nil ⟨rfl, rfl, by simp, rfl, ?_⟩
    go_wp2_with fail
    refine (typed_any (s.pops [t]).2 _).mono ?_
    rintro e w8 ⟨rfl, rfl⟩
    go_wp2
    go_ret
    rw [E0.out, hj]
    exact ⟨rfl, FIN.out.fr, fun _ => ⟨_, _, _, FIN.out⟩⟩
end Go.Proofs.Qxb6500575aGreatDoor
