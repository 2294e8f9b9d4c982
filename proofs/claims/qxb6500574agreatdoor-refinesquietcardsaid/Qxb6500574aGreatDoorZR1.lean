/-
  THE WALKS of syntaxm: add, blockEnd.
-/
import Derived.Test.Qxb6500574aGreatDoorZQ2
namespace Go.Proofs.Qxb6500574aGreatDoor
open Go Go.RowKit
set_option linter.unusedVariables false
set_option linter.unusedSimpArgs false
theorem rowNodeZ : IsRow Tryz.prog 48 134 (.agg #[.int .i64 0, .int .i64 0, .int .i64 0, .int .i64 0, .int .i64 0, .int .u64 0, sv [], .int .i64 0]) 8 72 := ⟨by kernel_rfl, by kernel_rfl, rfl, by decide⟩
section
variable {w W W1 : World} {A A1 : PzP} {d d1 : PzD} {T : List Tok} {s s' : PSt} {t : Tok} {q : Nat} {y : Nat × Nat}
/-- a node has been laid behind the others -/
theorem PzM.addN (h : PzM W A d) (e : Nd) {w1 w2 : World} {g cap : Nat} (hf : Fr (fun _ => False) W w1)
    (q1 : w2.ownsRow 0 134 8 (.slice (some ⟨g, 0, none⟩) (d.N.length + 1) cap) (d.N.length + 1) (d.N.flatMap mdV ++ mdV e)) (q2 : Fr (fun k => (A.nd.v d.N.length).ownBlock = some k) w1 w2) (q3 : (A.nd.v d.N.length).ownBlock = some g ∨ W.heap.size ≤ g) (q4 : g < w2.heap.size) :
    Has w2 A.b (pzV A d) 213 ∧ ∃ A', PzM (w2.setCell ⟨A.b, 8, none⟩ (.slice (some ⟨g, 0, none⟩) (d.N.length + 1) cap)) A' { d with N := d.N ++ [e] } ∧ PzS W A (w2.setCell ⟨A.b, 8, none⟩ (.slice (some ⟨g, 0, none⟩) (d.N.length + 1) cap)) A' := by
  obtain ⟨r1, r2⟩ := h.nod.app hf q1 q2 q3 q4
  have hb := h.blk.st r2 (by omega)
  obtain ⟨p1, p2⟩ := hb.put 8 (.slice (some ⟨g, 0, none⟩) (d.N.length + 1) cap) (cs' := pzV { A with nd := ⟨some ⟨g, 0, none⟩, cap⟩ } { d with N := d.N ++ [e] }) (by simp [pzV])
  have st := (r2.weaken (Q' := fun l => 1 ≤ l) (fun l hl => by omega)).trans (p2.weaken (fun l hl => by omega))
  refine ⟨hb.has, { A with nd := ⟨some ⟨g, 0, none⟩, cap⟩, o := _ }, ⟨p1, ?_, st.hi h.own, h.pe, h.ls⟩, ⟨st, rfl, rfl, rfl⟩⟩
  show Row _ _ _ _ _ _ (d.N ++ [e]).length ((d.N ++ [e]).flatMap mdV)
  rw [List.length_append, List.flatMap_append]
  have e2 : [e].flatMap mdV = mdV e := by simp
  rw [e2]
  exact r1.st p2 (by omega)
set_option maxRecDepth 100000
set_option maxHeartbeats 1000000
theorem add_z (h : PzM W A d) (e : Nd) (hl : d.N.length ≤ 10000) : Calls Tryz.prog 251 #[.pointer (some ⟨A.b, 0, none⟩), .agg #[.int .i64 e.k, .int .i64 e.a, .int .i64 e.b, .int .i64 e.c, .int .i64 e.next, .int .u64 e.n, sv e.s, .int .i64 e.p]] W fun e1 w' => e1 = .returned (.int .i64 (d.N.length : Nat)) ∧ ∃ A', PzM w' A' { d with N := d.N ++ [e] } ∧ PzS W A w' A' := by
  obtain ⟨Q, HQ⟩ : ∃ Q : Ending → World → Prop, Hid ((fun e1 w' => e1 = .returned (.int .i64 (d.N.length : Nat)) ∧ ∃ A', PzM w' A' { d with N := d.N ++ [e] } ∧ PzS W A w' A') = Q) := ⟨_, rfl⟩
  rw [HQ.out]
  have c8 : W.cell? ⟨A.b, 8, none⟩ = some (.slice A.nd.a d.N.length A.nd.c) := h.c 8
  have lb := h.lt
  have HH := hid h
  obtain ⟨M, HM⟩ : ∃ M : Nat, Hid (d.N.length = M) := ⟨_, rfl⟩
  rw [HM.out] at c8 hl
  obtain ⟨ek, ea, eb, ec, en, enn, es, ep⟩ := e
  clear h
  go_enter Tryz.func251, Tryz.ntmps251
  go_wp2_with fail
  obtain ⟨W2, HW2⟩ : ∃ W2, Hid ((W.alloc (.cells #[.int .i64 (ek : Nat), .int .i64 (ea : Nat), .int .i64 (eb : Nat), .int .i64 (ec : Nat), .int .i64 (en : Nat), .int .u64 (enn : Nat), sv es, .int .i64 (ep : Nat)] 134)) = W2) := ⟨_, rfl⟩
  rw [HW2.out]
  have FW : Fr (fun _ => False) W W2 := by rw [← HW2.out]; exact (Fr.refl _ _).alloc _
  have BW : Has W2 W.heap.size #[.int .i64 (ek : Nat), .int .i64 (ea : Nat), .int .i64 (eb : Nat), .int .i64 (ec : Nat), .int .i64 (en : Nat), .int .u64 (enn : Nat), sv es, .int .i64 (ep : Nat)] 134 := by rw [← HW2.out]; exact Has.new _ _ _
  have d8 := FW.cell c8
  have lbW : A.b < W2.heap.size := Nat.lt_of_lt_of_le lb FW.size
  have y0 := BW.cell 0
  have y1 := BW.cell 1
  have y2 := BW.cell 2
  have y3 := BW.cell 3
  have y4 := BW.cell 4
  have y5 := BW.cell 5
  have y6 := BW.cell 6
  have y7 := BW.cell 7
  simp only [List.getElem?_toArray, List.getElem?_cons_succ, List.getElem?_cons_zero] at y0 y1 y2 y3 y4 y5 y6 y7
  have lB := BW.lt
  have HFW := hid FW
  have HBW := hid BW
  have HRW : Hid (W2.ownsRow 0 134 8 (A.nd.v d.N.length) d.N.length (d.N.flatMap mdV)) := (HH.out.nod.st (Stp.fresh (fun _ => False) A.o FW) (fun x => x)).own
  clear FW BW c8 lb HW2
  refine wp_region_app rowNodeZ 6 (by kernel_rfl) (by kernel_rfl) (fun _ _ _ _ _ h => h) _ _ _ rfl (.tmp 10) (.tmp 9) 11 12 rfl rfl rfl rfl rfl rfl (A.nd.v d.N.length) d.N.length (d.N.flatMap mdV) HRW.out (.agg #[.int .i64 (ek : Nat), .int .i64 (ea : Nat), .int .i64 (eb : Nat), .int .i64 (ec : Nat), .int .i64 (en : Nat), .int .u64 (enn : Nat), sv es, .int .i64 (ep : Nat)]) rfl (by decide) (by simp [Value.cells, Value.oneCell']) (by rw [HM.out]; omega) ?_
  intro g3 cap3 w3 q1 q2 q3 q4
  have hq3 : (A.nd.v d.N.length).ownBlock = some g3 ∨ W.heap.size ≤ g3 := by
    rcases q3 with q3 | q3
    · exact .inl q3
    · right; rw [q3]; have := HFW.out.size; omega
  obtain ⟨hh, A', s1, s2⟩ := HH.out.addN ⟨ek, ea, eb, ec, en, enn, es, ep⟩ (HFW.out.alloc _) q1 q2 hq3 q4
  have hB3 : Has w3 W.heap.size #[.int .i64 (ek : Nat), .int .i64 (ea : Nat), .int .i64 (eb : Nat), .int .i64 (ec : Nat), .int .i64 (en : Nat), .int .u64 (enn : Nat), sv es, .int .i64 (ep : Nat)] 134 := by
    refine (HBW.out.alloc _).fr q2 (fun hq => ?_)
    have := HH.out.nod.lt (by rw [ownBlock_any _ _ _ 0 0] at hq; exact hq)
    omega
  have FIN : Hid (Q (.returned (.int .i64 (M : Nat))) (w3.setCell ⟨A.b, 8, none⟩ (.slice (some ⟨g3, 0, none⟩) (M + 1) cap3))) := by
    show Q _ _
    rw [← HQ.out]
    rw [HM.out] at s1 s2
    exact ⟨by rw [HM.out], A', s1, s2⟩
  have z0 := hB3.cell 0
  have z1 := hB3.cell 1
  have z2 := hB3.cell 2
  have z3 := hB3.cell 3
  have z4 := hB3.cell 4
  have z5 := hB3.cell 5
  have z6 := hB3.cell 6
  have z7 := hB3.cell 7
  simp only [List.getElem?_toArray, List.getElem?_cons_succ, List.getElem?_cons_zero] at z0 z1 z2 z3 z4 z5 z6 z7
  have lz := hB3.lt
  have e8 := hh.cell 8
  simp only [pzV, List.getElem?_toArray, List.getElem?_cons_succ, List.getElem?_cons_zero, Sl.v] at e8
  rw [HM.out] at e8
  have f8 := hh.frozen 8
  have le3 := hh.lt
  rw [HM.out]
  clear q1 q2 q3 q4 hq3 hh s1 s2 hB3
  simp only [List.take_succ_cons, List.take_zero]
  repeat go_big_quiet_step (fail)
  refine wpQuiet_nil ⟨rfl, rfl, by simp, rfl, ?_⟩
  have e1 : (M : Int) + 1 - 1 = M := by omega
  go_wp2_with fail
  first | exact FIN.out | (go_ret; exact FIN.out) | (go_ret2; exact FIN.out)
theorem PzK.add (h : PzK w A T s W) (e : Nd) (hl : s.nodes.length ≤ 10000) : Calls Tryz.prog 251 #[.pointer (some ⟨A.b, 0, none⟩), .agg #[.int .i64 e.k, .int .i64 e.a, .int .i64 e.b, .int .i64 e.c, .int .i64 e.next, .int .u64 e.n, sv e.s, .int .i64 e.p]] W fun e1 w' => e1 = .returned (.int .i64 (s.nodes.length : Nat)) ∧ PzK w A T (s.add e) w' := by
  obtain ⟨A', q, g, S⟩ := h
  have C := add_z g.m e hl
  rw [S.b] at C
  refine C.mono ?_
  rintro e1 w' ⟨h1, A2, m, S2⟩
  exact ⟨h1, A2, q, ⟨m, by rw [S2.sr]; exact g.x, by rw [S2.sr]; exact g.ta⟩, S.trans S2⟩
theorem tk_sym {t : Tok} (h : 5 ≤ t.k) : (tkc t).k = 4 ∧ (tkc t).s = symS t.k := by
  unfold tkc
  rw [if_neg (by omega), if_neg (by omega), if_neg (by omega), if_neg (by omega), if_neg (by omega)]
  exact ⟨rfl, rfl⟩
theorem tk_no {t : Tok} (h : t.k < 5) : (tkc t).k ≠ 4 := by
  have : t.k = 0 ∨ t.k = 1 ∨ t.k = 2 ∨ t.k = 3 ∨ t.k = 4 := by omega
  unfold tkc
  rcases this with h | h | h | h | h <;> rw [h] <;> simp
theorem tk_zero (t : Tok) : (tkc t).k = 0 ↔ t.k = 0 := by
  unfold tkc
  repeat' split
  all_goals first | (simp; omega) | simp_all
/-- does the block end here? -/
theorem PzK.ends (h : PzK w A T s W) : Calls Tryz.prog 185 #[.pointer (some ⟨A.b, 0, none⟩)] W fun e w' => e = .returned (.bool (endsB (curT T s).k)) ∧ w' = W := by
  obtain ⟨c3, c4, _, _, _, _, _, _⟩ := h.c
  have lb := h.lt
  have k46 := h.k46.1
  obtain ⟨b, HB⟩ : ∃ b, Hid (endsB (curT T s).k = b) := ⟨_, rfl⟩
  rw [HB.out]
  have hB := HB.out
  by_cases h0 : (curT T s).k = 0
  · rw [(tk_zero _).2 h0] at c3
    have hb : b = true := by rw [← hB, h0]; rfl
    subst hb
    clear h h0 hB HB c4 k46
    go_enter Tryz.func185, Tryz.ntmps185
    go_wp2_with fail
    go_ret
    exact ⟨rfl, rfl⟩
  by_cases h5 : 5 ≤ (curT T s).k
  · obtain ⟨e3, e4⟩ := tk_sym h5
    rw [e3] at c3
    rw [e4] at c4
    obtain ⟨x, HX⟩ : ∃ x, Hid (symS (curT T s).k = x) := ⟨_, rfl⟩
    rw [HX.out] at c4
    have b9 : (x == [101, 110, 100]) = decide ((curT T s).k = 9) := by
      rw [← HX.out]
      have := is_tok (t := curT T s) (k := 9) (by decide) (by decide) k46
      rw [e3, e4, show symS 9 = [101, 110, 100] from rfl] at this
      simpa using this
    have b7 : (x == [101, 108, 115, 101]) = decide ((curT T s).k = 7) := by
      rw [← HX.out]
      have := is_tok (t := curT T s) (k := 7) (by decide) (by decide) k46
      rw [e3, e4, show symS 7 = [101, 108, 115, 101] from rfl] at this
      simpa using this
    have b8 : (x == [101, 108, 115, 101, 105, 102]) = decide ((curT T s).k = 8) := by
      rw [← HX.out]
      have := is_tok (t := curT T s) (k := 8) (by decide) (by decide) k46
      rw [e3, e4, show symS 8 = [101, 108, 115, 101, 105, 102] from rfl] at this
      simpa using this
    unfold endsB at hB
    have c3 : W.cell? ⟨A.b, 3, none⟩ = some (.int .i64 4) := c3
    by_cases h9 : (curT T s).k = 9
    · have hb : b = true := by rw [← hB, h9]; rfl
      rw [decide_eq_true h9] at b9
      subst hb
      clear h h0 hB HB h5 e3 e4 HX b7 b8 h9 k46
      go_enter Tryz.func185, Tryz.ntmps185
      go_wp2_with fail
      go_ret
      exact ⟨rfl, rfl⟩
    rw [decide_eq_false h9] at b9
    by_cases h7 : (curT T s).k = 7
    · have hb : b = true := by rw [← hB, h7]; rfl
      rw [decide_eq_true h7] at b7
      subst hb
      clear h h0 hB HB h5 e3 e4 HX b8 h7 h9 k46
      go_enter Tryz.func185, Tryz.ntmps185
      go_wp2_with fail
      go_ret
      exact ⟨rfl, rfl⟩
    rw [decide_eq_false h7] at b7
    by_cases h8 : (curT T s).k = 8
    · have hb : b = true := by rw [← hB, h8]; rfl
      rw [decide_eq_true h8] at b8
      subst hb
      clear h h0 hB HB h5 e3 e4 HX h7 h8 h9 k46
      go_enter Tryz.func185, Tryz.ntmps185
      go_wp2_with fail
      go_ret
      exact ⟨rfl, rfl⟩
    rw [decide_eq_false h8] at b8
    have hb : b = false := by rw [← hB]; simp [h0, h7, h8, h9]
    subst hb
    clear h h0 hB HB h5 e3 e4 HX h7 h8 h9 k46
    go_enter Tryz.func185, Tryz.ntmps185
    go_wp2_with fail
    go_ret
    exact ⟨rfl, rfl⟩
  · have e3 := tk_no (show (curT T s).k < 5 by omega)
    have e0 : (tkc (curT T s)).k ≠ 0 := fun z => h0 ((tk_zero _).1 z)
    obtain ⟨tk, HTK⟩ : ∃ tk, Hid ((tkc (curT T s)).k = tk) := ⟨_, rfl⟩
    rw [HTK.out] at c3 e3 e0
    have b4 : ((tk : Int) == 4) = false := by rw [beq_eq_false_iff_ne]; omega
    have b0 : ((tk : Int) == 0) = false := by rw [beq_eq_false_iff_ne]; omega
    have hb : b = false := by
      rw [← hB]
      unfold endsB
      simp
      omega
    subst hb
    clear h h0 hB HB h5 e3 e0 HTK c4 k46
    go_enter Tryz.func185, Tryz.ntmps185
    go_wp2_with fail
    go_ret
    exact ⟨rfl, rfl⟩
end
end Go.Proofs.Qxb6500574aGreatDoor
