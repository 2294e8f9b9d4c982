/-
  THE WALKS of prepm.Prog.one: end (written by tools/gen_mone.py).
-/
import Derived.Test.Qxb6500575aGreatDoorMOne1
import Derived.Test.Qxb6500575aGreatDoorReg4
import Derived.Test.Qxb6500575aGreatDoorEnter
namespace Go.Proofs.Qxb6500575aGreatDoor
open Go Go.RowKit
set_option linter.unusedVariables false
set_option linter.unusedSimpArgs false

/-- kind, its world told ahead -/
theorem kind_ex (bt : Int) (w : World) (h0 : 0 ≤ bt) (h1 : bt ≤ 255) : ∃ w2, Fr (fun _ => False) w w2 ∧ Calls Tryz.prog 80 #[.int .i64 bt] w fun e w' => e = .returned (sv (resOf bt)) ∧ w' = w2 := by
  by_cases hz : bt = 0
  · subst hz
    refine ⟨w, Fr.refl _ _, ?_⟩
    go_enter Tryz.func80, Tryz.ntmps80
    go_wp2
    go_ret
    exact ⟨rfl, rfl⟩
  · have e0 : resOf bt = [UInt8.ofNat bt.toNat] := by unfold resOf; rw [if_neg hz]
    rw [e0]
    have b0 : (bt == 0) = false := beq_eq_false_iff_ne.2 hz
    have hc1 := mconv1
    clear e0 hz
    refine ⟨w.alloc (.cells #[.int .u8 bt] 5), (Fr.refl _ _).alloc _, ?_⟩
    go_enter Tryz.func80, Tryz.ntmps80
    go_wp2
    go_ret
    exact ⟨rfl, rfl⟩

set_option maxRecDepth 100000 in
set_option maxHeartbeats 4000000 in
theorem mone_5 (X : OneP) (L : MkL) (cv : Value) (s : Mk) (E : Env) (i : Nat) (c0 : Ctl) (r0 : List Ctl) (h : OneCtx X L cv s E i c0 r0) (hop : X.c.op = 5) :
    Calls Tryz.prog 58 #[.pointer (some ⟨X.bp, 0, none⟩), .pointer (some ⟨X.bk, 0, none⟩), .pointer (some ⟨X.g, X.f * 5, none⟩), .int .i64 i] X.w0 fun e w' => OnePost X (s.one E X.src i X.c) e w' := by
  have E0 : Hid (s.one E X.src i X.c = ({ st := (resOf c0.bt).reverse ++ s.closes.1.st, cs := r0, code := s.code ++ (if r0.isEmpty then [⟨5, X.c.imm, 0, 0⟩] else []) }, if c0.op = 3 ∧ c0.bt ≠ 0 then 6 else typedM s.closes.2)) := by
    show _ = _
    simp [Mk.one, hop, h.top.cs]
  have CODELEN : Hid (s.code.length ≤ 500) := h.code
  have hfit := h.top.fit h.fit
  have hX := h.inn.ok
  obtain ⟨gs, scap, hsv, hgl, q0, q1, q2, hil⟩ := h.at
  obtain ⟨m0, m2, m3, lg⟩ := h.inn.pre h.me
  have hsl := h.sl
  have hsst := h.st
  have hscs := h.cs
  have hscd := h.code
  have hfl := h.fl
  have hmp := h.ps E.me (List.mem_of_getElem? h.me)
  obtain ⟨hmp1, hmp2, hmp3⟩ := hmp
  have START : Hid (∀ n, OneL X (((X.w0.alloc (insObj X.c)).alloc (flatObj ⟨X.c.op, X.c.imm, 0, 0⟩)).drewN n) L cv s ⟨X.c.op, X.c.imm, 0, 0⟩) := h.inn.start
  have hbc : Hid (X.w0.heap.size = X.bc) := h.inn.hbc.symm
  have hbo : Hid (X.bc + 1 = X.bo) := by show _ = _; rw [h.inn.hbo, h.inn.hbc]
  have CTX : Hid (OneCtx X L cv s E i c0 r0) := h
  have HX : Hid X.Ok := hX
  have hrl : r0.length ≤ 500 := by have := h.top.cs; have hh := h.cs; rw [this] at hh; simp at hh; omega
  rw [hsv] at m3
  have lg1 : X.g < X.w0.heap.size + 1 := by omega
  have lg2 : X.g < X.w0.heap.size + 1 + 1 := by omega
  have hgl1 : gs < X.w0.heap.size + 1 := by omega
  clear h hX
  go_enter Tryz.func58, Tryz.ntmps58
  go_wp2
  go_quiet (fail)
  rename_i nq
  obtain ⟨W, hW⟩ : ∃ W, W = (((X.w0.alloc (.cells #[.int .i64 5, .int .i64 X.c.imm, .string ⟨X.c.tab.toArray⟩] 67)).alloc (.cells #[.int .i64 5, .int .i64 X.c.imm, .int .i64 0, .int .i64 0] 176)).drewN nq) := ⟨_, rfl⟩
  have ST := START.out nq
  unfold insObj flatObj at ST
  simp only [hop] at ST ⊢
  rw [← hW]
  rw [hbc.out, hbo.out]
  have HL : Hid (OneL X W L cv s ⟨5, X.c.imm, 0, 0⟩) := by rw [hW]; exact ST
  clear ST hW START q0 q1 q2 m0 m2 m3 hbc hbo lg1 lg2 hgl1 lg
  have HC1 : Hid (∀ w', OneL X w' L cv s ⟨5, X.c.imm, 0, 0⟩ → _) := fun w' h' => mcloses_any X.bk L s w' h'.k CTX.out.top (by omega) (by omega) hfit.b0 hfit.b1 (by have := hfit.ht; omega)
  have hcc : s.closes.1.code = s.code := by
    unfold Mk.closes; split
    · rfl
    · rfl
  have hcs : s.closes.1.cs = c0 :: r0 := by
    rw [← CTX.out.top.cs]; unfold Mk.closes; split
    · rfl
    · rfl
  have hcl : s.closes.1.st.length ≤ 500 := by
    unfold Mk.closes; split
    · omega
    · have := s.pops_len2 (resOf (Ctl.bt ‹_›)); simp only; omega
  have HCC : Hid (s.closes.1.code = s.code) := hcc
  have HCS : Hid (s.closes.1.cs = c0 :: r0) := hcs
  have hb0 := hfit.b0
  have hb1 := hfit.b1
  clear hcc hcs hfit
  generalize hsc : s.closes = sc at *
  obtain ⟨s1, ok1⟩ := sc
  simp only at HC1 HCC HCS hcl E0
  clear hsc
  obtain ⟨go, ha, hcl2, hfr2, hlt2, hbo2⟩ := HL.out.k.at 0 (c := c0) (by rw [CTX.out.top.cs]; rfl)
  have hcsl : s.cs.length = r0.length + 1 := by rw [CTX.out.top.cs]; rfl
  have hml : s.cs.length - 1 - 0 = r0.length := by omega
  have e0' := hcl2 0 (by omega)
  have e1' := hcl2 1 (by omega)
  have e2' := hcl2 2 (by omega)
  have e3' := hcl2 3 (by omega)
  have e4' := hcl2 4 (by omega)
  rw [hml] at e0' e1' e2' e3' e4'
  simp [ctlCells] at e0' e1' e2' e3' e4'
  obtain ⟨i0, i1, i2, o0, o1, o2, o3, of, p4, k0, k1, kf, m0, m1, m2, m3, m4, gf, lc, lo, lp, lk, lg⟩ := HL.out.facts HX.out CTX.out.me
  rw [hsv] at m3
  rw [hcsl, ha] at k1
  clear hcl2 hfr2
  have hzb := zeroCtl
  go_wp2
  refine wp_region_head 12 1 (fun x => x = W.drew ∨ x = (W.alloc (.cells #[.int .i64 0, .int .i64 0, .int .i64 0, .int .i64 0, .bool false] 132)).drew) (by kernel_rfl) (by kernel_rfl) (fun _ _ _ _ _ h => h) (.inl rfl) ?_
  simp only [List.take_succ_cons, List.take_zero, List.drop_succ_cons, List.drop_zero]
  repeat go_big_quiet_step (fail)
  refine wpQuiet_nil ?_
  unfold wpChain
  go_wp2
  refine ⟨by simp, ?_⟩
  rw [wpChain_zero]
  have HL1 : Hid (OneL X (W.alloc (ctlObj c0)).drew L cv s ⟨5, X.c.imm, 0, 0⟩) := HL.out.fresh (((Fr.refl _ W).alloc _).drew)
  have TB : Hid (Has (W.alloc (ctlObj c0)).drew W.heap.size #[.int .i64 c0.op, .int .i64 c0.bt, .int .i64 c0.height, .int .i64 c0.at_, .bool c0.dead] 132) := (Has.new W _ _).drew
  have NB : Hid (¬ MkS X.bk L W.heap.size) := HL.out.k.new (Nat.le_refl _)
  have NE : Hid (W.heap.size ≠ X.bk) := by show _ ≠ _; omega
  go_wp2_with fail
  refine (HC1.out _ (by first | exact HL1.out | exact HL1.out.drew | exact HL1.out.drewN _ | exact (HL1.out.drewN _).drew | exact (HL1.out.drew).drewN _ | exact (HL1.out.drewN _).drewN _)).mono ?_
  rintro e w2 ⟨rfl, g1, g2⟩
  have HL2 : Hid (OneL X w2 L cv s1 ⟨5, X.c.imm, 0, 0⟩) := HL1.out.chk g1 g2 HCC.out
  have TB2 : Hid (Has w2 W.heap.size #[.int .i64 c0.op, .int .i64 c0.bt, .int .i64 c0.height, .int .i64 c0.at_, .bool c0.dead] 132) := TB.out.fr g2.fr NB.out
  clear g1 g2 HL HL1 HC1 TB hzb e0' e1' e2' e3' e4'
  clear i0 i1 i2 o0 o1 o2 o3 of p4 k0 k1 kf m0 m1 m2 m3 m4 gf lc lo lp lk lg
  generalize W.heap.size = tb at *
  have t0 := TB2.out.cell 0
  have t1 := TB2.out.cell 1
  simp at t0 t1
  have tl := TB2.out.lt
  have hcsl1 : s1.cs.length = r0.length + 1 := by rw [HCS.out]; rfl
  have hcap : r0.length + 1 ≤ L.cc := by
    rcases owns_form HL2.out.k.cs with ⟨_, h1, _⟩ | ⟨_, _, h1⟩ <;> omega
  -- the block is popped
  have fin : OneL X (w2.setCell ⟨X.bk, 1, none⟩ (.slice (some ⟨go, 0, none⟩) r0.length L.cc)).drew L cv { s1 with cs := r0 } ⟨5, X.c.imm, 0, 0⟩ := by
    have a1 := HL2.out.k.popCs HCS.out
    rw [ha] at a1
    exact (HL2.out.chk a1.1 a1.2 rfl).drew
  have FIN3 : Hid (OneL X _ L cv { s1 with cs := r0 } ⟨5, X.c.imm, 0, 0⟩) := fin
  clear fin
  obtain ⟨i0, i1, i2, o0, o1, o2, o3, of, p4, k0, k1, kf, m0, m1, m2, m3, m4, gf, lc, lo, lp, lk, lg⟩ := HL2.out.facts HX.out CTX.out.me
  rw [hsv] at m3
  rw [hcsl1, ha] at k1
  by_cases hcd : c0.op = 3 ∧ c0.bt ≠ 0
  · have hc3 := hcd.1
    have hcb : (c0.bt == 0) = false := beq_eq_false_iff_ne.2 hcd.2
    have hcb2 : (c0.bt != 0) = true := by simp [bne, hcb]
    cases r0 with
    | nil =>
      simp only [List.length_nil, Nat.zero_add] at k1 hcap hcsl1 FIN3
      go_wp2
      refine wp_region_tail 12 (by kernel_rfl) (by kernel_rfl) (fun _ _ _ _ _ h => h) ?_
      simp only [List.take_succ_cons, List.take_zero, List.drop_succ_cons, List.drop_zero]
      repeat go_big_quiet_step (fail)
      refine wpQuiet_nil ?_
      obtain ⟨w3, hw3⟩ : ∃ w3, w3 = (w2.setCell ⟨X.bk, 1, none⟩ (.slice (some ⟨go, 0, none⟩) 0 L.cc)).drew := ⟨_, rfl⟩
      have HL3 : Hid (OneL X w3 L cv { s1 with cs := [] } ⟨5, X.c.imm, 0, 0⟩) := by rw [hw3]; exact FIN3.out
      have TB3 : Hid (Has w3 tb #[.int .i64 c0.op, .int .i64 c0.bt, .int .i64 c0.height, .int .i64 c0.at_, .bool c0.dead] 132) := by
        rw [hw3]; exact (TB2.out.other (p := ⟨X.bk, 1, none⟩) NE.out _).drew
      have HW3 : Hid (w3 = (w2.setCell ⟨X.bk, 1, none⟩ (.slice (some ⟨go, 0, none⟩) 0 L.cc)).drew) := hw3
      clear hw3
      go_wp2
      rw [← HW3.out]
      clear HW3 FIN3 HL2 TB2 t0 t1 tl
      clear i0 i1 i2 o0 o1 o2 o3 of p4 k0 k1 kf m0 m1 m2 m3 m4 gf lc lo lp lk lg
      obtain ⟨wk, fk, hk⟩ := kind_ex c0.bt w3.drew hb0 hb1
      have HLk : Hid (OneL X wk L cv { s1 with cs := [] } ⟨5, X.c.imm, 0, 0⟩) := HL3.out.drew.fresh fk
      have TBk : Has wk tb #[.int .i64 c0.op, .int .i64 c0.bt, .int .i64 c0.height, .int .i64 c0.at_, .bool c0.dead] 132 := (TB3.out.drew).fr fk id
      have hrl1 : (resOf c0.bt).length ≤ 1 := by unfold resOf; split <;> simp
      obtain ⟨sa2, sc2, wa, hra, qa1, qa2, qa3⟩ := run_appStr (P := Tryz.prog) rowByte (u := 9) (by kernel_rfl) wk 134 _ _ _ HLk.out.k.st (resOf c0.bt) (by show s1.st.length + _ ≤ _; omega)
      have hneA := owns_ne HLk.out.k.st HLk.out.k.here (by decide)
      have hHa : Has wa X.bk _ _ := HLk.out.k.here.fr qa2 hneA
      have TBa : Has wa tb _ _ := TBk.fr qa2 (owns_ne HLk.out.k.st TBk (by decide))
      have x0 := HL3.out.k.here.cell 0
      have x1 := TB3.out.cell 1
      have y0 := HLk.out.k.here.cell 0
      have y1 := TBk.cell 1
      have z0 := hHa.cell 0
      have z1 := TBa.cell 1
      have z9 := hHa.cell 1
      have zf := hHa.frozen 0
      simp at x0 x1 y0 y1 z0 z1 z9
      have xl := HL3.out.k.here.lt
      have xt := TB3.out.lt
      have yl := HLk.out.k.here.lt
      have yt := TBk.lt
      have zl := hHa.lt
      have zt := TBa.lt
      have hbs : (Value.slice sa2 (s1.st.length + (resOf c0.bt).length) sc2).ownBlock ≠ some X.bk := owns_ne qa1 hHa (by decide)
      have finA := HLk.out.k.putSt ((resOf c0.bt).reverse ++ s1.st) (w2 := wa.setCell ⟨X.bk, 0, none⟩ (.slice sa2 (s1.st.length + (resOf c0.bt).length) sc2)) (sa2 := sa2) (sc2 := sc2)
        ((qa2.weaken (S' := fun k => (L.stV { s1 with cs := [] }).ownBlock = some k ∨ k = X.bk) (fun _ _ => .inl)).setCell (p := ⟨X.bk, 0, none⟩) (.inl (.inr rfl)) _)
        (by have := hHa.put 0 (.slice sa2 (s1.st.length + (resOf c0.bt).length) sc2); rw [show ((resOf c0.bt).reverse ++ s1.st).length = s1.st.length + (resOf c0.bt).length by simp; omega]; exact this)
        (by
          rw [show ((resOf c0.bt).reverse ++ s1.st).length = s1.st.length + (resOf c0.bt).length by simp; omega]
          refine owns_other ?_ hbs _
          simpa [byteCells] using qa1)
        (fun g hg => by
          rw [show ((resOf c0.bt).reverse ++ s1.st).length = s1.st.length + (resOf c0.bt).length by simp; omega] at hg
          exact qa3 g hg)
      obtain ⟨w6, hw6⟩ : ∃ w6, w6 = wa.setCell ⟨X.bk, 0, none⟩ (.slice sa2 (s1.st.length + (resOf c0.bt).length) sc2) := ⟨_, rfl⟩
      have HL6 : Hid (OneL X w6 { L with sa := sa2, sc := sc2 } cv { s1 with st := (resOf c0.bt).reverse ++ s1.st, cs := [] } ⟨5, X.c.imm, 0, 0⟩) := by rw [hw6]; exact HLk.out.chk finA.1 finA.2 rfl
      have HW6 : Hid (w6 = _) := hw6
      have HRA : Hid (_ = Result.ok _ wa) := hra
      have HK2 : Hid (Calls _ _ _ _ _) := hk
      clear hw6 finA hbs qa1 qa2 qa3 hHa TBa hneA TBk HLk HL3 TB3 fk hra hk
      refine wp_region_mid2 [0, 1, 2, 3, 4, 5, 6] 7 1 (fun x => x = w3.drew ∨ x = wk ∨ x = wa) (by kernel_rfl) (by kernel_rfl) (fun _ _ _ _ _ h => h) (.inl rfl) [_, _, _, _, _, _, _] rfl _ rfl ?_
      simp only [List.getElem_toArray, List.getElem_cons_zero, List.getElem_cons_succ]
      repeat go_big_quiet_step (fail)
      refine wpQuiet_nil ?_
      go_wp2_with fail
      refine HK2.out.mono ?_
      rintro e w5 ⟨rfl, rfl⟩
      go_wp2
      refine ⟨by simp, ?_⟩
      simp only [List.drop_succ_cons, List.drop_zero]
      refine chain_app2 rfl (.tmp 207) (.tmp 210) rfl _ _ _ rfl rfl HRA.out ⟨.inr (.inr rfl), ?_⟩
      rw [wpChain_zero]
      go_wp2
      rw [← HW6.out]
      clear HW6 x0 x1 y0 y1 z0 z1 z9 zf xl xt yl yt zl zt
      obtain ⟨i09, i19, i29, o09, o19, o29, o39, of9, p49, k09, k19, kf9, m09, m19, m29, m39, m49, gf9, lc9, lo9, lp9, lk9, lg9⟩ := HL6.out.facts HX.out CTX.out.me
      clear i09 i19 i29 p49 k09 k19 kf9 m09 m19 m29 m39 lc9 lp9 lk9
      have hcl9 : ({ s1 with st := (resOf c0.bt).reverse ++ s1.st, cs := [] } : Mk).code.length ≤ 600 := by show s1.code.length ≤ 600; rw [HCC.out]; have := CODELEN.out; omega
      refine wp_region_app rowFlat 6 (by kernel_rfl) (by kernel_rfl) (fun _ _ _ _ _ h => h) _ _ _ rfl (.tmp 511) (.tmp 510) 512 513 rfl rfl rfl rfl rfl rfl _ _ _ HL6.out.code (.agg #[.int .i64 (5), .int .i64 (X.c.imm), .int .i64 (0), .int .i64 (0)]) rfl (by decide) (by simp [Value.cells, Value.oneCell']) (by omega) ?_
      intro g2 cap w99 q1 q2 q3 q4
      have FIN : Hid (OneL X _ _ _ _ _) := HL6.out.app HX.out q2 (by simpa [Flat.cells, Value.cells] using q1) q3
      obtain ⟨y09, y19, y29, y39, y49, yf9⟩ := HL6.out.mid HX.out CTX.out.me q2
      clear q1 q2 q3 q4 HL6
      simp only [List.take_succ_cons, List.take_zero]
      repeat go_big_quiet_step (fail)
      refine wpQuiet_nil ⟨rfl, rfl, by simp, rfl, ?_⟩
      go_wp2_with fail
      refine (typed_any false _).mono ?_
      rintro e w8 ⟨rfl, rfl⟩
      go_wp2
      go_ret
      rw [E0.out, if_pos hcd, ← HCC.out]
      exact ⟨rfl, FIN.out.fr, fun _ => ⟨_, _, _, FIN.out⟩⟩
    | cons rx rr =>
      simp only [List.length_cons] at k1 hcap hcsl1 hrl FIN3
      go_wp2
      refine wp_region_tail 12 (by kernel_rfl) (by kernel_rfl) (fun _ _ _ _ _ h => h) ?_
      simp only [List.take_succ_cons, List.take_zero, List.drop_succ_cons, List.drop_zero]
      repeat go_big_quiet_step (fail)
      refine wpQuiet_nil ?_
      obtain ⟨w3, hw3⟩ : ∃ w3, w3 = (w2.setCell ⟨X.bk, 1, none⟩ (.slice (some ⟨go, 0, none⟩) (rr.length + 1) L.cc)).drew := ⟨_, rfl⟩
      have HL3 : Hid (OneL X w3 L cv { s1 with cs := rx :: rr } ⟨5, X.c.imm, 0, 0⟩) := by rw [hw3]; exact FIN3.out
      have TB3 : Hid (Has w3 tb #[.int .i64 c0.op, .int .i64 c0.bt, .int .i64 c0.height, .int .i64 c0.at_, .bool c0.dead] 132) := by
        rw [hw3]; exact (TB2.out.other (p := ⟨X.bk, 1, none⟩) NE.out _).drew
      have HW3 : Hid (w3 = (w2.setCell ⟨X.bk, 1, none⟩ (.slice (some ⟨go, 0, none⟩) (rr.length + 1) L.cc)).drew) := hw3
      clear hw3
      go_wp2
      rw [← HW3.out]
      clear HW3 FIN3 HL2 TB2 t0 t1 tl
      clear i0 i1 i2 o0 o1 o2 o3 of p4 k0 k1 kf m0 m1 m2 m3 m4 gf lc lo lp lk lg
      obtain ⟨wk, fk, hk⟩ := kind_ex c0.bt w3.drew hb0 hb1
      have HLk : Hid (OneL X wk L cv { s1 with cs := rx :: rr } ⟨5, X.c.imm, 0, 0⟩) := HL3.out.drew.fresh fk
      have TBk : Has wk tb #[.int .i64 c0.op, .int .i64 c0.bt, .int .i64 c0.height, .int .i64 c0.at_, .bool c0.dead] 132 := (TB3.out.drew).fr fk id
      have hrl1 : (resOf c0.bt).length ≤ 1 := by unfold resOf; split <;> simp
      obtain ⟨sa2, sc2, wa, hra, qa1, qa2, qa3⟩ := run_appStr (P := Tryz.prog) rowByte (u := 9) (by kernel_rfl) wk 134 _ _ _ HLk.out.k.st (resOf c0.bt) (by show s1.st.length + _ ≤ _; omega)
      have hneA := owns_ne HLk.out.k.st HLk.out.k.here (by decide)
      have hHa : Has wa X.bk _ _ := HLk.out.k.here.fr qa2 hneA
      have TBa : Has wa tb _ _ := TBk.fr qa2 (owns_ne HLk.out.k.st TBk (by decide))
      have x0 := HL3.out.k.here.cell 0
      have x1 := TB3.out.cell 1
      have y0 := HLk.out.k.here.cell 0
      have y1 := TBk.cell 1
      have z0 := hHa.cell 0
      have z1 := TBa.cell 1
      have z9 := hHa.cell 1
      have zf := hHa.frozen 0
      simp at x0 x1 y0 y1 z0 z1 z9
      have xl := HL3.out.k.here.lt
      have xt := TB3.out.lt
      have yl := HLk.out.k.here.lt
      have yt := TBk.lt
      have zl := hHa.lt
      have zt := TBa.lt
      have hbs : (Value.slice sa2 (s1.st.length + (resOf c0.bt).length) sc2).ownBlock ≠ some X.bk := owns_ne qa1 hHa (by decide)
      have finA := HLk.out.k.putSt ((resOf c0.bt).reverse ++ s1.st) (w2 := wa.setCell ⟨X.bk, 0, none⟩ (.slice sa2 (s1.st.length + (resOf c0.bt).length) sc2)) (sa2 := sa2) (sc2 := sc2)
        ((qa2.weaken (S' := fun k => (L.stV { s1 with cs := rx :: rr }).ownBlock = some k ∨ k = X.bk) (fun _ _ => .inl)).setCell (p := ⟨X.bk, 0, none⟩) (.inl (.inr rfl)) _)
        (by have := hHa.put 0 (.slice sa2 (s1.st.length + (resOf c0.bt).length) sc2); rw [show ((resOf c0.bt).reverse ++ s1.st).length = s1.st.length + (resOf c0.bt).length by simp; omega]; exact this)
        (by
          rw [show ((resOf c0.bt).reverse ++ s1.st).length = s1.st.length + (resOf c0.bt).length by simp; omega]
          refine owns_other ?_ hbs _
          simpa [byteCells] using qa1)
        (fun g hg => by
          rw [show ((resOf c0.bt).reverse ++ s1.st).length = s1.st.length + (resOf c0.bt).length by simp; omega] at hg
          exact qa3 g hg)
      obtain ⟨w6, hw6⟩ : ∃ w6, w6 = wa.setCell ⟨X.bk, 0, none⟩ (.slice sa2 (s1.st.length + (resOf c0.bt).length) sc2) := ⟨_, rfl⟩
      have HL6 : Hid (OneL X w6 { L with sa := sa2, sc := sc2 } cv { s1 with st := (resOf c0.bt).reverse ++ s1.st, cs := rx :: rr } ⟨5, X.c.imm, 0, 0⟩) := by rw [hw6]; exact HLk.out.chk finA.1 finA.2 rfl
      have HW6 : Hid (w6 = _) := hw6
      have HRA : Hid (_ = Result.ok _ wa) := hra
      have HK2 : Hid (Calls _ _ _ _ _) := hk
      clear hw6 finA hbs qa1 qa2 qa3 hHa TBa hneA TBk HLk HL3 TB3 fk hra hk
      refine wp_region_mid2 [0, 1, 2, 3, 4, 5, 6] 7 1 (fun x => x = w3.drew ∨ x = wk ∨ x = wa) (by kernel_rfl) (by kernel_rfl) (fun _ _ _ _ _ h => h) (.inl rfl) [_, _, _, _, _, _, _] rfl _ rfl ?_
      simp only [List.getElem_toArray, List.getElem_cons_zero, List.getElem_cons_succ]
      repeat go_big_quiet_step (fail)
      refine wpQuiet_nil ?_
      go_wp2_with fail
      refine HK2.out.mono ?_
      rintro e w5 ⟨rfl, rfl⟩
      go_wp2
      refine ⟨by simp, ?_⟩
      simp only [List.drop_succ_cons, List.drop_zero]
      refine chain_app2 rfl (.tmp 207) (.tmp 210) rfl _ _ _ rfl rfl HRA.out ⟨.inr (.inr rfl), ?_⟩
      rw [wpChain_zero]
      go_wp2_with fail
      refine (typed_any false _).mono ?_
      rintro e w8 ⟨rfl, rfl⟩
      go_wp2
      go_ret
      rw [E0.out, if_pos hcd, ← HCC.out]
      simp only [List.isEmpty_cons, Bool.false_eq_true, if_false, List.append_nil]
      have HL7 := HL6.out
      rw [HW6.out] at HL7
      exact ⟨rfl, HL7.fr, fun _ => ⟨_, _, _, HL7⟩⟩
  · by_cases hc3 : c0.op = 3
    · have hcb2 : (c0.bt != 0) = false := by
        have : c0.bt = 0 := by
          by_cases hz : c0.bt = 0
          · exact hz
          · exact absurd ⟨hc3, hz⟩ hcd
        simp [this]
      cases r0 with
      | nil =>
        simp only [List.length_nil, Nat.zero_add] at k1 hcap hcsl1 FIN3
        go_wp2
        refine wp_region_tail 12 (by kernel_rfl) (by kernel_rfl) (fun _ _ _ _ _ h => h) ?_
        simp only [List.take_succ_cons, List.take_zero, List.drop_succ_cons, List.drop_zero]
        repeat go_big_quiet_step (fail)
        refine wpQuiet_nil ?_
        obtain ⟨w3, hw3⟩ : ∃ w3, w3 = (w2.setCell ⟨X.bk, 1, none⟩ (.slice (some ⟨go, 0, none⟩) 0 L.cc)).drew := ⟨_, rfl⟩
        have HL3 : Hid (OneL X w3 L cv { s1 with cs := [] } ⟨5, X.c.imm, 0, 0⟩) := by rw [hw3]; exact FIN3.out
        have TB3 : Hid (Has w3 tb #[.int .i64 c0.op, .int .i64 c0.bt, .int .i64 c0.height, .int .i64 c0.at_, .bool c0.dead] 132) := by
          rw [hw3]; exact (TB2.out.other (p := ⟨X.bk, 1, none⟩) NE.out _).drew
        have HW3 : Hid (w3 = (w2.setCell ⟨X.bk, 1, none⟩ (.slice (some ⟨go, 0, none⟩) 0 L.cc)).drew) := hw3
        clear hw3
        go_wp2
        rw [← HW3.out]
        clear HW3 FIN3 HL2 TB2 t0 t1 tl
        clear i0 i1 i2 o0 o1 o2 o3 of p4 k0 k1 kf m0 m1 m2 m3 m4 gf lc lo lp lk lg
        obtain ⟨wk, fk, hk⟩ := kind_ex c0.bt w3.drew hb0 hb1
        have HLk : Hid (OneL X wk L cv { s1 with cs := [] } ⟨5, X.c.imm, 0, 0⟩) := HL3.out.drew.fresh fk
        have TBk : Has wk tb #[.int .i64 c0.op, .int .i64 c0.bt, .int .i64 c0.height, .int .i64 c0.at_, .bool c0.dead] 132 := (TB3.out.drew).fr fk id
        have hrl1 : (resOf c0.bt).length ≤ 1 := by unfold resOf; split <;> simp
        obtain ⟨sa2, sc2, wa, hra, qa1, qa2, qa3⟩ := run_appStr (P := Tryz.prog) rowByte (u := 9) (by kernel_rfl) wk 134 _ _ _ HLk.out.k.st (resOf c0.bt) (by show s1.st.length + _ ≤ _; omega)
        have hneA := owns_ne HLk.out.k.st HLk.out.k.here (by decide)
        have hHa : Has wa X.bk _ _ := HLk.out.k.here.fr qa2 hneA
        have TBa : Has wa tb _ _ := TBk.fr qa2 (owns_ne HLk.out.k.st TBk (by decide))
        have x0 := HL3.out.k.here.cell 0
        have x1 := TB3.out.cell 1
        have y0 := HLk.out.k.here.cell 0
        have y1 := TBk.cell 1
        have z0 := hHa.cell 0
        have z1 := TBa.cell 1
        have z9 := hHa.cell 1
        have zf := hHa.frozen 0
        simp at x0 x1 y0 y1 z0 z1 z9
        have xl := HL3.out.k.here.lt
        have xt := TB3.out.lt
        have yl := HLk.out.k.here.lt
        have yt := TBk.lt
        have zl := hHa.lt
        have zt := TBa.lt
        have hbs : (Value.slice sa2 (s1.st.length + (resOf c0.bt).length) sc2).ownBlock ≠ some X.bk := owns_ne qa1 hHa (by decide)
        have finA := HLk.out.k.putSt ((resOf c0.bt).reverse ++ s1.st) (w2 := wa.setCell ⟨X.bk, 0, none⟩ (.slice sa2 (s1.st.length + (resOf c0.bt).length) sc2)) (sa2 := sa2) (sc2 := sc2)
          ((qa2.weaken (S' := fun k => (L.stV { s1 with cs := [] }).ownBlock = some k ∨ k = X.bk) (fun _ _ => .inl)).setCell (p := ⟨X.bk, 0, none⟩) (.inl (.inr rfl)) _)
          (by have := hHa.put 0 (.slice sa2 (s1.st.length + (resOf c0.bt).length) sc2); rw [show ((resOf c0.bt).reverse ++ s1.st).length = s1.st.length + (resOf c0.bt).length by simp; omega]; exact this)
          (by
            rw [show ((resOf c0.bt).reverse ++ s1.st).length = s1.st.length + (resOf c0.bt).length by simp; omega]
            refine owns_other ?_ hbs _
            simpa [byteCells] using qa1)
          (fun g hg => by
            rw [show ((resOf c0.bt).reverse ++ s1.st).length = s1.st.length + (resOf c0.bt).length by simp; omega] at hg
            exact qa3 g hg)
        obtain ⟨w6, hw6⟩ : ∃ w6, w6 = wa.setCell ⟨X.bk, 0, none⟩ (.slice sa2 (s1.st.length + (resOf c0.bt).length) sc2) := ⟨_, rfl⟩
        have HL6 : Hid (OneL X w6 { L with sa := sa2, sc := sc2 } cv { s1 with st := (resOf c0.bt).reverse ++ s1.st, cs := [] } ⟨5, X.c.imm, 0, 0⟩) := by rw [hw6]; exact HLk.out.chk finA.1 finA.2 rfl
        have HW6 : Hid (w6 = _) := hw6
        have HRA : Hid (_ = Result.ok _ wa) := hra
        have HK2 : Hid (Calls _ _ _ _ _) := hk
        clear hw6 finA hbs qa1 qa2 qa3 hHa TBa hneA TBk HLk HL3 TB3 fk hra hk
        refine wp_region_mid2 [0, 1, 2, 3, 4, 5, 6] 7 1 (fun x => x = w3.drew ∨ x = wk ∨ x = wa) (by kernel_rfl) (by kernel_rfl) (fun _ _ _ _ _ h => h) (.inl rfl) [_, _, _, _, _, _, _] rfl _ rfl ?_
        simp only [List.getElem_toArray, List.getElem_cons_zero, List.getElem_cons_succ]
        repeat go_big_quiet_step (fail)
        refine wpQuiet_nil ?_
        go_wp2_with fail
        refine HK2.out.mono ?_
        rintro e w5 ⟨rfl, rfl⟩
        go_wp2
        refine ⟨by simp, ?_⟩
        simp only [List.drop_succ_cons, List.drop_zero]
        refine chain_app2 rfl (.tmp 207) (.tmp 210) rfl _ _ _ rfl rfl HRA.out ⟨.inr (.inr rfl), ?_⟩
        rw [wpChain_zero]
        go_wp2
        rw [← HW6.out]
        clear HW6 x0 x1 y0 y1 z0 z1 z9 zf xl xt yl yt zl zt
        obtain ⟨i09, i19, i29, o09, o19, o29, o39, of9, p49, k09, k19, kf9, m09, m19, m29, m39, m49, gf9, lc9, lo9, lp9, lk9, lg9⟩ := HL6.out.facts HX.out CTX.out.me
        clear i09 i19 i29 p49 k09 k19 kf9 m09 m19 m29 m39 lc9 lp9 lk9
        have hcl9 : ({ s1 with st := (resOf c0.bt).reverse ++ s1.st, cs := [] } : Mk).code.length ≤ 600 := by show s1.code.length ≤ 600; rw [HCC.out]; have := CODELEN.out; omega
        refine wp_region_app rowFlat 6 (by kernel_rfl) (by kernel_rfl) (fun _ _ _ _ _ h => h) _ _ _ rfl (.tmp 511) (.tmp 510) 512 513 rfl rfl rfl rfl rfl rfl _ _ _ HL6.out.code (.agg #[.int .i64 (5), .int .i64 (X.c.imm), .int .i64 (0), .int .i64 (0)]) rfl (by decide) (by simp [Value.cells, Value.oneCell']) (by omega) ?_
        intro g2 cap w99 q1 q2 q3 q4
        have FIN : Hid (OneL X _ _ _ _ _) := HL6.out.app HX.out q2 (by simpa [Flat.cells, Value.cells] using q1) q3
        obtain ⟨y09, y19, y29, y39, y49, yf9⟩ := HL6.out.mid HX.out CTX.out.me q2
        clear q1 q2 q3 q4 HL6
        simp only [List.take_succ_cons, List.take_zero]
        repeat go_big_quiet_step (fail)
        refine wpQuiet_nil ⟨rfl, rfl, by simp, rfl, ?_⟩
        go_wp2_with fail
        refine (typed_any ok1 _).mono ?_
        rintro e w8 ⟨rfl, rfl⟩
        go_wp2
        go_ret
        rw [E0.out, if_neg hcd, ← HCC.out]
        exact ⟨rfl, FIN.out.fr, fun _ => ⟨_, _, _, FIN.out⟩⟩
      | cons rx rr =>
        simp only [List.length_cons] at k1 hcap hcsl1 hrl FIN3
        go_wp2
        refine wp_region_tail 12 (by kernel_rfl) (by kernel_rfl) (fun _ _ _ _ _ h => h) ?_
        simp only [List.take_succ_cons, List.take_zero, List.drop_succ_cons, List.drop_zero]
        repeat go_big_quiet_step (fail)
        refine wpQuiet_nil ?_
        obtain ⟨w3, hw3⟩ : ∃ w3, w3 = (w2.setCell ⟨X.bk, 1, none⟩ (.slice (some ⟨go, 0, none⟩) (rr.length + 1) L.cc)).drew := ⟨_, rfl⟩
        have HL3 : Hid (OneL X w3 L cv { s1 with cs := rx :: rr } ⟨5, X.c.imm, 0, 0⟩) := by rw [hw3]; exact FIN3.out
        have TB3 : Hid (Has w3 tb #[.int .i64 c0.op, .int .i64 c0.bt, .int .i64 c0.height, .int .i64 c0.at_, .bool c0.dead] 132) := by
          rw [hw3]; exact (TB2.out.other (p := ⟨X.bk, 1, none⟩) NE.out _).drew
        have HW3 : Hid (w3 = (w2.setCell ⟨X.bk, 1, none⟩ (.slice (some ⟨go, 0, none⟩) (rr.length + 1) L.cc)).drew) := hw3
        clear hw3
        go_wp2
        rw [← HW3.out]
        clear HW3 FIN3 HL2 TB2 t0 t1 tl
        clear i0 i1 i2 o0 o1 o2 o3 of p4 k0 k1 kf m0 m1 m2 m3 m4 gf lc lo lp lk lg
        obtain ⟨wk, fk, hk⟩ := kind_ex c0.bt w3.drew hb0 hb1
        have HLk : Hid (OneL X wk L cv { s1 with cs := rx :: rr } ⟨5, X.c.imm, 0, 0⟩) := HL3.out.drew.fresh fk
        have TBk : Has wk tb #[.int .i64 c0.op, .int .i64 c0.bt, .int .i64 c0.height, .int .i64 c0.at_, .bool c0.dead] 132 := (TB3.out.drew).fr fk id
        have hrl1 : (resOf c0.bt).length ≤ 1 := by unfold resOf; split <;> simp
        obtain ⟨sa2, sc2, wa, hra, qa1, qa2, qa3⟩ := run_appStr (P := Tryz.prog) rowByte (u := 9) (by kernel_rfl) wk 134 _ _ _ HLk.out.k.st (resOf c0.bt) (by show s1.st.length + _ ≤ _; omega)
        have hneA := owns_ne HLk.out.k.st HLk.out.k.here (by decide)
        have hHa : Has wa X.bk _ _ := HLk.out.k.here.fr qa2 hneA
        have TBa : Has wa tb _ _ := TBk.fr qa2 (owns_ne HLk.out.k.st TBk (by decide))
        have x0 := HL3.out.k.here.cell 0
        have x1 := TB3.out.cell 1
        have y0 := HLk.out.k.here.cell 0
        have y1 := TBk.cell 1
        have z0 := hHa.cell 0
        have z1 := TBa.cell 1
        have z9 := hHa.cell 1
        have zf := hHa.frozen 0
        simp at x0 x1 y0 y1 z0 z1 z9
        have xl := HL3.out.k.here.lt
        have xt := TB3.out.lt
        have yl := HLk.out.k.here.lt
        have yt := TBk.lt
        have zl := hHa.lt
        have zt := TBa.lt
        have hbs : (Value.slice sa2 (s1.st.length + (resOf c0.bt).length) sc2).ownBlock ≠ some X.bk := owns_ne qa1 hHa (by decide)
        have finA := HLk.out.k.putSt ((resOf c0.bt).reverse ++ s1.st) (w2 := wa.setCell ⟨X.bk, 0, none⟩ (.slice sa2 (s1.st.length + (resOf c0.bt).length) sc2)) (sa2 := sa2) (sc2 := sc2)
          ((qa2.weaken (S' := fun k => (L.stV { s1 with cs := rx :: rr }).ownBlock = some k ∨ k = X.bk) (fun _ _ => .inl)).setCell (p := ⟨X.bk, 0, none⟩) (.inl (.inr rfl)) _)
          (by have := hHa.put 0 (.slice sa2 (s1.st.length + (resOf c0.bt).length) sc2); rw [show ((resOf c0.bt).reverse ++ s1.st).length = s1.st.length + (resOf c0.bt).length by simp; omega]; exact this)
          (by
            rw [show ((resOf c0.bt).reverse ++ s1.st).length = s1.st.length + (resOf c0.bt).length by simp; omega]
            refine owns_other ?_ hbs _
            simpa [byteCells] using qa1)
          (fun g hg => by
            rw [show ((resOf c0.bt).reverse ++ s1.st).length = s1.st.length + (resOf c0.bt).length by simp; omega] at hg
            exact qa3 g hg)
        obtain ⟨w6, hw6⟩ : ∃ w6, w6 = wa.setCell ⟨X.bk, 0, none⟩ (.slice sa2 (s1.st.length + (resOf c0.bt).length) sc2) := ⟨_, rfl⟩
        have HL6 : Hid (OneL X w6 { L with sa := sa2, sc := sc2 } cv { s1 with st := (resOf c0.bt).reverse ++ s1.st, cs := rx :: rr } ⟨5, X.c.imm, 0, 0⟩) := by rw [hw6]; exact HLk.out.chk finA.1 finA.2 rfl
        have HW6 : Hid (w6 = _) := hw6
        have HRA : Hid (_ = Result.ok _ wa) := hra
        have HK2 : Hid (Calls _ _ _ _ _) := hk
        clear hw6 finA hbs qa1 qa2 qa3 hHa TBa hneA TBk HLk HL3 TB3 fk hra hk
        refine wp_region_mid2 [0, 1, 2, 3, 4, 5, 6] 7 1 (fun x => x = w3.drew ∨ x = wk ∨ x = wa) (by kernel_rfl) (by kernel_rfl) (fun _ _ _ _ _ h => h) (.inl rfl) [_, _, _, _, _, _, _] rfl _ rfl ?_
        simp only [List.getElem_toArray, List.getElem_cons_zero, List.getElem_cons_succ]
        repeat go_big_quiet_step (fail)
        refine wpQuiet_nil ?_
        go_wp2_with fail
        refine HK2.out.mono ?_
        rintro e w5 ⟨rfl, rfl⟩
        go_wp2
        refine ⟨by simp, ?_⟩
        simp only [List.drop_succ_cons, List.drop_zero]
        refine chain_app2 rfl (.tmp 207) (.tmp 210) rfl _ _ _ rfl rfl HRA.out ⟨.inr (.inr rfl), ?_⟩
        rw [wpChain_zero]
        go_wp2_with fail
        refine (typed_any ok1 _).mono ?_
        rintro e w8 ⟨rfl, rfl⟩
        go_wp2
        go_ret
        rw [E0.out, if_neg hcd, ← HCC.out]
        simp only [List.isEmpty_cons, Bool.false_eq_true, if_false, List.append_nil]
        have HL7 := HL6.out
        rw [HW6.out] at HL7
        exact ⟨rfl, HL7.fr, fun _ => ⟨_, _, _, HL7⟩⟩
    · have hc3b : (c0.op == 3) = false := beq_eq_false_iff_ne.2 hc3
      cases r0 with
      | nil =>
        simp only [List.length_nil, Nat.zero_add] at k1 hcap hcsl1 FIN3
        go_wp2
        refine wp_region_tail 12 (by kernel_rfl) (by kernel_rfl) (fun _ _ _ _ _ h => h) ?_
        simp only [List.take_succ_cons, List.take_zero, List.drop_succ_cons, List.drop_zero]
        repeat go_big_quiet_step (fail)
        refine wpQuiet_nil ?_
        obtain ⟨w3, hw3⟩ : ∃ w3, w3 = (w2.setCell ⟨X.bk, 1, none⟩ (.slice (some ⟨go, 0, none⟩) 0 L.cc)).drew := ⟨_, rfl⟩
        have HL3 : Hid (OneL X w3 L cv { s1 with cs := [] } ⟨5, X.c.imm, 0, 0⟩) := by rw [hw3]; exact FIN3.out
        have TB3 : Hid (Has w3 tb #[.int .i64 c0.op, .int .i64 c0.bt, .int .i64 c0.height, .int .i64 c0.at_, .bool c0.dead] 132) := by
          rw [hw3]; exact (TB2.out.other (p := ⟨X.bk, 1, none⟩) NE.out _).drew
        have HW3 : Hid (w3 = (w2.setCell ⟨X.bk, 1, none⟩ (.slice (some ⟨go, 0, none⟩) 0 L.cc)).drew) := hw3
        clear hw3
        go_wp2
        rw [← HW3.out]
        clear HW3 FIN3 HL2 TB2 t0 t1 tl
        clear i0 i1 i2 o0 o1 o2 o3 of p4 k0 k1 kf m0 m1 m2 m3 m4 gf lc lo lp lk lg
        obtain ⟨wk, fk, hk⟩ := kind_ex c0.bt w3.drew hb0 hb1
        have HLk : Hid (OneL X wk L cv { s1 with cs := [] } ⟨5, X.c.imm, 0, 0⟩) := HL3.out.drew.fresh fk
        have TBk : Has wk tb #[.int .i64 c0.op, .int .i64 c0.bt, .int .i64 c0.height, .int .i64 c0.at_, .bool c0.dead] 132 := (TB3.out.drew).fr fk id
        have hrl1 : (resOf c0.bt).length ≤ 1 := by unfold resOf; split <;> simp
        obtain ⟨sa2, sc2, wa, hra, qa1, qa2, qa3⟩ := run_appStr (P := Tryz.prog) rowByte (u := 9) (by kernel_rfl) wk 134 _ _ _ HLk.out.k.st (resOf c0.bt) (by show s1.st.length + _ ≤ _; omega)
        have hneA := owns_ne HLk.out.k.st HLk.out.k.here (by decide)
        have hHa : Has wa X.bk _ _ := HLk.out.k.here.fr qa2 hneA
        have TBa : Has wa tb _ _ := TBk.fr qa2 (owns_ne HLk.out.k.st TBk (by decide))
        have x0 := HL3.out.k.here.cell 0
        have x1 := TB3.out.cell 1
        have y0 := HLk.out.k.here.cell 0
        have y1 := TBk.cell 1
        have z0 := hHa.cell 0
        have z1 := TBa.cell 1
        have z9 := hHa.cell 1
        have zf := hHa.frozen 0
        simp at x0 x1 y0 y1 z0 z1 z9
        have xl := HL3.out.k.here.lt
        have xt := TB3.out.lt
        have yl := HLk.out.k.here.lt
        have yt := TBk.lt
        have zl := hHa.lt
        have zt := TBa.lt
        have hbs : (Value.slice sa2 (s1.st.length + (resOf c0.bt).length) sc2).ownBlock ≠ some X.bk := owns_ne qa1 hHa (by decide)
        have finA := HLk.out.k.putSt ((resOf c0.bt).reverse ++ s1.st) (w2 := wa.setCell ⟨X.bk, 0, none⟩ (.slice sa2 (s1.st.length + (resOf c0.bt).length) sc2)) (sa2 := sa2) (sc2 := sc2)
          ((qa2.weaken (S' := fun k => (L.stV { s1 with cs := [] }).ownBlock = some k ∨ k = X.bk) (fun _ _ => .inl)).setCell (p := ⟨X.bk, 0, none⟩) (.inl (.inr rfl)) _)
          (by have := hHa.put 0 (.slice sa2 (s1.st.length + (resOf c0.bt).length) sc2); rw [show ((resOf c0.bt).reverse ++ s1.st).length = s1.st.length + (resOf c0.bt).length by simp; omega]; exact this)
          (by
            rw [show ((resOf c0.bt).reverse ++ s1.st).length = s1.st.length + (resOf c0.bt).length by simp; omega]
            refine owns_other ?_ hbs _
            simpa [byteCells] using qa1)
          (fun g hg => by
            rw [show ((resOf c0.bt).reverse ++ s1.st).length = s1.st.length + (resOf c0.bt).length by simp; omega] at hg
            exact qa3 g hg)
        obtain ⟨w6, hw6⟩ : ∃ w6, w6 = wa.setCell ⟨X.bk, 0, none⟩ (.slice sa2 (s1.st.length + (resOf c0.bt).length) sc2) := ⟨_, rfl⟩
        have HL6 : Hid (OneL X w6 { L with sa := sa2, sc := sc2 } cv { s1 with st := (resOf c0.bt).reverse ++ s1.st, cs := [] } ⟨5, X.c.imm, 0, 0⟩) := by rw [hw6]; exact HLk.out.chk finA.1 finA.2 rfl
        have HW6 : Hid (w6 = _) := hw6
        have HRA : Hid (_ = Result.ok _ wa) := hra
        have HK2 : Hid (Calls _ _ _ _ _) := hk
        clear hw6 finA hbs qa1 qa2 qa3 hHa TBa hneA TBk HLk HL3 TB3 fk hra hk
        refine wp_region_mid2 [0, 1, 2, 3, 4, 5, 6] 7 1 (fun x => x = w3.drew ∨ x = wk ∨ x = wa) (by kernel_rfl) (by kernel_rfl) (fun _ _ _ _ _ h => h) (.inl rfl) [_, _, _, _, _, _, _] rfl _ rfl ?_
        simp only [List.getElem_toArray, List.getElem_cons_zero, List.getElem_cons_succ]
        repeat go_big_quiet_step (fail)
        refine wpQuiet_nil ?_
        go_wp2_with fail
        refine HK2.out.mono ?_
        rintro e w5 ⟨rfl, rfl⟩
        go_wp2
        refine ⟨by simp, ?_⟩
        simp only [List.drop_succ_cons, List.drop_zero]
        refine chain_app2 rfl (.tmp 207) (.tmp 210) rfl _ _ _ rfl rfl HRA.out ⟨.inr (.inr rfl), ?_⟩
        rw [wpChain_zero]
        go_wp2
        rw [← HW6.out]
        clear HW6 x0 x1 y0 y1 z0 z1 z9 zf xl xt yl yt zl zt
        obtain ⟨i09, i19, i29, o09, o19, o29, o39, of9, p49, k09, k19, kf9, m09, m19, m29, m39, m49, gf9, lc9, lo9, lp9, lk9, lg9⟩ := HL6.out.facts HX.out CTX.out.me
        clear i09 i19 i29 p49 k09 k19 kf9 m09 m19 m29 m39 lc9 lp9 lk9
        have hcl9 : ({ s1 with st := (resOf c0.bt).reverse ++ s1.st, cs := [] } : Mk).code.length ≤ 600 := by show s1.code.length ≤ 600; rw [HCC.out]; have := CODELEN.out; omega
        refine wp_region_app rowFlat 6 (by kernel_rfl) (by kernel_rfl) (fun _ _ _ _ _ h => h) _ _ _ rfl (.tmp 511) (.tmp 510) 512 513 rfl rfl rfl rfl rfl rfl _ _ _ HL6.out.code (.agg #[.int .i64 (5), .int .i64 (X.c.imm), .int .i64 (0), .int .i64 (0)]) rfl (by decide) (by simp [Value.cells, Value.oneCell']) (by omega) ?_
        intro g2 cap w99 q1 q2 q3 q4
        have FIN : Hid (OneL X _ _ _ _ _) := HL6.out.app HX.out q2 (by simpa [Flat.cells, Value.cells] using q1) q3
        obtain ⟨y09, y19, y29, y39, y49, yf9⟩ := HL6.out.mid HX.out CTX.out.me q2
        clear q1 q2 q3 q4 HL6
        simp only [List.take_succ_cons, List.take_zero]
        repeat go_big_quiet_step (fail)
        refine wpQuiet_nil ⟨rfl, rfl, by simp, rfl, ?_⟩
        go_wp2_with fail
        refine (typed_any ok1 _).mono ?_
        rintro e w8 ⟨rfl, rfl⟩
        go_wp2
        go_ret
        rw [E0.out, if_neg hcd, ← HCC.out]
        exact ⟨rfl, FIN.out.fr, fun _ => ⟨_, _, _, FIN.out⟩⟩
      | cons rx rr =>
        simp only [List.length_cons] at k1 hcap hcsl1 hrl FIN3
        go_wp2
        refine wp_region_tail 12 (by kernel_rfl) (by kernel_rfl) (fun _ _ _ _ _ h => h) ?_
        simp only [List.take_succ_cons, List.take_zero, List.drop_succ_cons, List.drop_zero]
        repeat go_big_quiet_step (fail)
        refine wpQuiet_nil ?_
        obtain ⟨w3, hw3⟩ : ∃ w3, w3 = (w2.setCell ⟨X.bk, 1, none⟩ (.slice (some ⟨go, 0, none⟩) (rr.length + 1) L.cc)).drew := ⟨_, rfl⟩
        have HL3 : Hid (OneL X w3 L cv { s1 with cs := rx :: rr } ⟨5, X.c.imm, 0, 0⟩) := by rw [hw3]; exact FIN3.out
        have TB3 : Hid (Has w3 tb #[.int .i64 c0.op, .int .i64 c0.bt, .int .i64 c0.height, .int .i64 c0.at_, .bool c0.dead] 132) := by
          rw [hw3]; exact (TB2.out.other (p := ⟨X.bk, 1, none⟩) NE.out _).drew
        have HW3 : Hid (w3 = (w2.setCell ⟨X.bk, 1, none⟩ (.slice (some ⟨go, 0, none⟩) (rr.length + 1) L.cc)).drew) := hw3
        clear hw3
        go_wp2
        rw [← HW3.out]
        clear HW3 FIN3 HL2 TB2 t0 t1 tl
        clear i0 i1 i2 o0 o1 o2 o3 of p4 k0 k1 kf m0 m1 m2 m3 m4 gf lc lo lp lk lg
        obtain ⟨wk, fk, hk⟩ := kind_ex c0.bt w3.drew hb0 hb1
        have HLk : Hid (OneL X wk L cv { s1 with cs := rx :: rr } ⟨5, X.c.imm, 0, 0⟩) := HL3.out.drew.fresh fk
        have TBk : Has wk tb #[.int .i64 c0.op, .int .i64 c0.bt, .int .i64 c0.height, .int .i64 c0.at_, .bool c0.dead] 132 := (TB3.out.drew).fr fk id
        have hrl1 : (resOf c0.bt).length ≤ 1 := by unfold resOf; split <;> simp
        obtain ⟨sa2, sc2, wa, hra, qa1, qa2, qa3⟩ := run_appStr (P := Tryz.prog) rowByte (u := 9) (by kernel_rfl) wk 134 _ _ _ HLk.out.k.st (resOf c0.bt) (by show s1.st.length + _ ≤ _; omega)
        have hneA := owns_ne HLk.out.k.st HLk.out.k.here (by decide)
        have hHa : Has wa X.bk _ _ := HLk.out.k.here.fr qa2 hneA
        have TBa : Has wa tb _ _ := TBk.fr qa2 (owns_ne HLk.out.k.st TBk (by decide))
        have x0 := HL3.out.k.here.cell 0
        have x1 := TB3.out.cell 1
        have y0 := HLk.out.k.here.cell 0
        have y1 := TBk.cell 1
        have z0 := hHa.cell 0
        have z1 := TBa.cell 1
        have z9 := hHa.cell 1
        have zf := hHa.frozen 0
        simp at x0 x1 y0 y1 z0 z1 z9
        have xl := HL3.out.k.here.lt
        have xt := TB3.out.lt
        have yl := HLk.out.k.here.lt
        have yt := TBk.lt
        have zl := hHa.lt
        have zt := TBa.lt
        have hbs : (Value.slice sa2 (s1.st.length + (resOf c0.bt).length) sc2).ownBlock ≠ some X.bk := owns_ne qa1 hHa (by decide)
        have finA := HLk.out.k.putSt ((resOf c0.bt).reverse ++ s1.st) (w2 := wa.setCell ⟨X.bk, 0, none⟩ (.slice sa2 (s1.st.length + (resOf c0.bt).length) sc2)) (sa2 := sa2) (sc2 := sc2)
          ((qa2.weaken (S' := fun k => (L.stV { s1 with cs := rx :: rr }).ownBlock = some k ∨ k = X.bk) (fun _ _ => .inl)).setCell (p := ⟨X.bk, 0, none⟩) (.inl (.inr rfl)) _)
          (by have := hHa.put 0 (.slice sa2 (s1.st.length + (resOf c0.bt).length) sc2); rw [show ((resOf c0.bt).reverse ++ s1.st).length = s1.st.length + (resOf c0.bt).length by simp; omega]; exact this)
          (by
            rw [show ((resOf c0.bt).reverse ++ s1.st).length = s1.st.length + (resOf c0.bt).length by simp; omega]
            refine owns_other ?_ hbs _
            simpa [byteCells] using qa1)
          (fun g hg => by
            rw [show ((resOf c0.bt).reverse ++ s1.st).length = s1.st.length + (resOf c0.bt).length by simp; omega] at hg
            exact qa3 g hg)
        obtain ⟨w6, hw6⟩ : ∃ w6, w6 = wa.setCell ⟨X.bk, 0, none⟩ (.slice sa2 (s1.st.length + (resOf c0.bt).length) sc2) := ⟨_, rfl⟩
        have HL6 : Hid (OneL X w6 { L with sa := sa2, sc := sc2 } cv { s1 with st := (resOf c0.bt).reverse ++ s1.st, cs := rx :: rr } ⟨5, X.c.imm, 0, 0⟩) := by rw [hw6]; exact HLk.out.chk finA.1 finA.2 rfl
        have HW6 : Hid (w6 = _) := hw6
        have HRA : Hid (_ = Result.ok _ wa) := hra
        have HK2 : Hid (Calls _ _ _ _ _) := hk
        clear hw6 finA hbs qa1 qa2 qa3 hHa TBa hneA TBk HLk HL3 TB3 fk hra hk
        refine wp_region_mid2 [0, 1, 2, 3, 4, 5, 6] 7 1 (fun x => x = w3.drew ∨ x = wk ∨ x = wa) (by kernel_rfl) (by kernel_rfl) (fun _ _ _ _ _ h => h) (.inl rfl) [_, _, _, _, _, _, _] rfl _ rfl ?_
        simp only [List.getElem_toArray, List.getElem_cons_zero, List.getElem_cons_succ]
        repeat go_big_quiet_step (fail)
        refine wpQuiet_nil ?_
        go_wp2_with fail
        refine HK2.out.mono ?_
        rintro e w5 ⟨rfl, rfl⟩
        go_wp2
        refine ⟨by simp, ?_⟩
        simp only [List.drop_succ_cons, List.drop_zero]
        refine chain_app2 rfl (.tmp 207) (.tmp 210) rfl _ _ _ rfl rfl HRA.out ⟨.inr (.inr rfl), ?_⟩
        rw [wpChain_zero]
        go_wp2_with fail
        refine (typed_any ok1 _).mono ?_
        rintro e w8 ⟨rfl, rfl⟩
        go_wp2
        go_ret
        rw [E0.out, if_neg hcd, ← HCC.out]
        simp only [List.isEmpty_cons, Bool.false_eq_true, if_false, List.append_nil]
        have HL7 := HL6.out
        rw [HW6.out] at HL7
        exact ⟨rfl, HL7.fr, fun _ => ⟨_, _, _, HL7⟩⟩
end Go.Proofs.Qxb6500575aGreatDoor
