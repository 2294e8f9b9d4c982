import Derived.Test.Qxb6500575aGreatDoorEnv
namespace Go.Proofs.Qxb6500575aGreatDoor
open Go Go.RowKit
set_option linter.unusedVariables false
set_option linter.unusedSimpArgs false

theorem Ck.leaves_code (s : Ck) (c : List UInt8) : (s.leaves c).1.code = s.code := by
  unfold Ck.leaves
  split
  · exact Ck.pops_code _ _
  · simp only; exact Ck.pops_code _ _
theorem Ck.swap_code (s : Ck) (i o : List UInt8) : (s.swap i o).1.code = s.code := Ck.pops_code _ _
theorem Ck.call_code (s : Ck) (fs : List FunD) (j : Nat) : (s.call fs j).1.code = s.code := by
  unfold Ck.call
  split
  · rfl
  · exact s.swap_code _ _
theorem Ck.sel_code (s : Ck) : s.sel.1.code = s.code := by
  unfold Ck.sel
  simp only
  rw [Ck.pop_code, Ck.pop_code, Ck.pops_code]
theorem Ck.local_code (s : Ck) (all : List UInt8) (op : Int) (j : Nat) : (s.local all op j).1.code = s.code := by
  unfold Ck.local
  split
  · rfl
  · split
    · exact Ck.pops_code _ _
    · exact s.swap_code _ _
section
variable {B : Nat} {w : World} {bk : Nat} {fx : CkF} {E : Env} {bp : Nat} {n1 n2 n3 n4 : Value} {g fc f : Nat} {cvs : List Value} {bA b3 : Nat} {L : CkL} {s : Ck} {b : Blk} {r : List Blk}
theorem on9_call (h : CkRep B w bk fx L s) (he : EnvAt B w bk fx E bp n1 n2 n3 n4 g fc f cvs bA b3) (ht : s.Top b r) (hr : r.length ≤ 900) (hs : s.st.length ≤ 900) (hl : E.me.results.length ≤ 900) (imm : Int) :
    Calls Tryz.prog 113 #[.agg #[.int .i64 9, .int .i64 imm, sv []], .pointer (some ⟨bA, 0, none⟩), .pointer (some ⟨b3, 0, none⟩)] w fun e w' => e = .returned (.int .i64 (s.leaves E.me.results).2) ∧ CkRep B w' bk fx L (s.leaves E.me.results).1 ∧ CkStep w w' bk L L := by
  obtain ⟨g', cv, hg', _, _, d1, _, _⟩ := he.funs.at he.at_
  simp at hg'
  subst hg'
  have h3 := he.on.u
  rw [he.u] at h3
  exact on9_any B bk fx L s 9 imm [] bA b3 g (f * 4) E.me.results w he.on.a h3 (owns_lt he.funs.row g rfl) d1 hl h ht hr hs
theorem local_call (h : CkRep B w bk fx L s) (he : EnvAt B w bk fx E bp n1 n2 n3 n4 g fc f cvs bA b3) (ht : s.Top b r) (hr : r.length ≤ 900) (hs : s.st.length ≤ 1000) (op : Int) (j : Nat) (hpl : E.me.params.length ≤ 500) (hll : E.me.locals.length ≤ 500) :
    Calls Tryz.prog 118 #[.pointer (some ⟨bk, 0, none⟩), .agg #[.int .i64 op, .int .i64 j, sv []]] w fun e w' => e = .returned (.int .i64 (s.local (E.me.params ++ E.me.locals) op j).2) ∧ ∃ L', CkRep B w' bk fx L' (s.local (E.me.params ++ E.me.locals) op j).1 ∧ CkStep w w' bk L L' := by
  obtain ⟨g', cv, hg', _, d0, _, d2, _⟩ := he.funs.at he.at_
  simp at hg'
  subst hg'
  exact local_any B bk fx L s op j w h ht hr hs he.u d0 d2 (owns_lt he.funs.row g rfl) hpl hll
end

set_option maxRecDepth 100000 in
set_option maxHeartbeats 4000000 in
theorem one_0 (B bk : Nat) (fx : CkF) (L : CkL) (s : Ck) (E : Env) (w : World) (h : CkRep B w bk fx L s) (hfit : s.Fit) {b : Blk} {r : List Blk} (ht : s.Top b r) {bp : Nat} {n1 n2 n3 n4 : Value} {g fc f : Nat} {cvs : List Value} {bA b3 : Nat} (he : EnvAt B w bk fx E bp n1 n2 n3 n4 g fc f cvs bA b3) (hE : EnvOk E) (imm : Int) :
    Calls Tryz.prog 88 #[.pointer (some ⟨bk, 0, none⟩), .agg #[.int .i64 0, .int .i64 imm, sv []]] w fun e w' => e = .returned (.int .i64 (s.one E ⟨0, imm, []⟩).2) ∧ ∃ L', CkRep B w' bk fx L' (s.one E ⟨0, imm, []⟩).1 ∧ CkStep w w' bk L L' := by
  have hro : r.length ≤ 900 := by have := hfit.opn; rw [ht.opn] at this; simp at this; omega
  have f1 := hfit.st
  have f2 := hfit.code
  have c5 := h.here.cell 5
  simp at c5
  have hb := h.here.lt
  have hb1 : bk < w.heap.size + 1 := by omega
  have hlk : ∀ n, (Instr.lookup 193 (.map (some fx.on)) (.int .i64 0) true).run Tryz.prog ((w.alloc (.cells #[.int .i64 0, .int .i64 imm, sv []] 67)).drewN n) = .ok (.tuple #[.func (.func 111) #[] #[.pointer (some ⟨bA, 0, none⟩)], .bool true]) ((w.alloc (.cells #[.int .i64 0, .int .i64 imm, sv []] 67)).drewN n) := fun n => ((he.on.alloc _).drewN n).get 0
  have HC : Hid (∀ w', CkRep B w' bk fx L s → EnvAt B w' bk fx E bp n1 n2 n3 n4 g fc f cvs bA b3 → _) := fun w' h' he' => on0_any B bk fx L s 0 imm [] bA w' he'.on.a h' ht (by omega) (by omega)
  have HCL : Hid ((s.leaves []).1.code.length ≤ 900) := by show _ ≤ 900; rw [Ck.leaves_code]; omega
  have H : Hid (CkRep B w bk fx L s) := h
  have HE : Hid (EnvAt B w bk fx E bp n1 n2 n3 n4 g fc f cvs bA b3) := he
  have e0 : s.one E ⟨0, imm, []⟩ = ({ (s.leaves []).1 with code := (s.leaves []).1.code ++ [{ op := 0, imm := imm, keep := 0, cut := 0 }] }, (s.leaves []).2) := by
    unfold Ck.one
    rw [if_neg (by simp), if_neg (by simp), if_neg (by simp), if_neg (by simp), if_neg (by simp)]
    rfl
  rw [e0]
  clear e0 h ht he
  generalize (s.leaves []) = pp at *
  obtain ⟨s2, er⟩ := pp
  simp only at HC HCL ⊢
  go_enter Tryz.func88, Tryz.ntmps88
  go_wp2
  go_quiet (fail)
  go_wp2_with fail
  refine (sigs_any _ _).mono ?_
  rintro e w1 ⟨rfl, o, rfl⟩
  obtain ⟨W1, hW1⟩ : ∃ W1, W1 = ((w.alloc (.cells #[.int .i64 0, .int .i64 imm, sv []] 67)).drewN nq).alloc o := ⟨_, rfl⟩
  have R1 : Hid (CkRep B W1 bk fx L s) := by rw [hW1]; exact ((H.out.alloc _).drewN _).alloc _
  have E1 : Hid (EnvAt B W1 bk fx E bp n1 n2 n3 n4 g fc f cvs bA b3) := by rw [hW1]; exact ((HE.out.alloc _).drewN _).alloc _
  have S1 : Hid (CkStep w W1 bk L L) := by rw [hW1]; exact (((CkStep.refl _ _ _).alloc _).drewN _).alloc _
  have K1 : Hid (Has W1 w.heap.size #[.int .i64 0, .int .i64 imm, sv []] 67) := by rw [hW1]; exact ((Has.new _ _ _).drewN _).alloc _
  rw [← hW1]
  clear hW1 H HE hlk c5 hb hb1
  have i0 := K1.out.cell 0
  have i1 := K1.out.cell 1
  have i2 := K1.out.cell 2
  simp at i0 i1 i2
  have l2 := K1.out.lt
  have l21 : w.heap.size < W1.heap.size + 1 := by omega
  go_wp2_with fail
  refine (HC.out _ (R1.out.alloc _) (E1.out.alloc _)).mono ?_
  rintro e w2 ⟨rfl, g1, g2⟩
  have R2 : Hid (CkRep B w2 bk fx _ s2) := g1
  have S2 : Hid (CkStep w w2 bk L _) := (S1.out.alloc _).trans g2
  have K2 : Hid (Has w2 w.heap.size #[.int .i64 0, .int .i64 imm, sv []] 67) := g2.has (K1.out.alloc _) (R1.out.typIns K1.out)
  clear g1 g2 R1 E1 S1 K1 HC i0 i1 i2 l2 l21
  have c4 := R2.out.here.cell 4
  have i0 := K2.out.cell 0
  have i1 := K2.out.cell 1
  simp at c4 i0 i1
  have l1 := R2.out.here.lt
  have l2 := K2.out.lt
  have hcl : s2.code.length ≤ 900 := HCL.out
  have hne := owns_ne R2.out.code R2.out.here (by decide)
  have hne1 : (Value.slice _ s2.code.length _).ownBlock ≠ some w.heap.size := owns_ne R2.out.code K2.out (by decide)
  go_wp2
  refine wp_region_app rowFlat 10 (by kernel_rfl) (by kernel_rfl) (fun _ _ _ _ _ h => h) _ _ _ rfl (.tmp 74) (.tmp 69) 75 76 rfl rfl rfl rfl rfl rfl _ _ _ R2.out.code (.agg #[.int .i64 0, .int .i64 imm, .int .i64 0, .int .i64 0]) rfl (by decide) (by simp [Value.cells, Value.oneCell']) (by omega) ?_
  intro gg cap w5 q1 q2 q3 q4
  have K5 : Has w5 w.heap.size _ _ := (K2.out.alloc _).fr q2 hne1
  have hH' : Has w5 bk _ _ := (R2.out.here.alloc _).fr q2 hne
  have d5' := hH'.cell 4
  have e5' := hH'.frozen 4
  have j0 := K5.cell 0
  have j1 := K5.cell 1
  simp at d5' j0 j1
  have l3 := hH'.lt
  have l4 := K5.lt
  obtain ⟨m1, m2, m3, m4, m5⟩ := app_net R2.out.here hne q2 q1 (by decide) q3 q4 4
  have fin := R2.out.putCode (s2.code ++ [{ op := 0, imm := imm, keep := 0, cut := 0 }]) (ca2 := some ⟨gg, 0, none⟩) (cc2 := cap) m1 (by simpa using m2) (by rw [flatCells_snoc]; simpa [Flat.cells, Value.cells] using m3) (fun k hk => by simp [Value.ownBlock] at hk; subst hk; exact m4)
  have FIN : Hid (_ ∧ _) := And.intro fin.1 (S2.out.trans fin.2)
  clear m1 m2 m3 m4 m5 fin q1 q2 q3 q4 hne hne1 K5 hH' R2 S2 K2
  simp only [List.take_succ_cons, List.take_zero]
  repeat go_big_quiet_step (fail)
  refine wpQuiet_nil ⟨rfl, rfl, by simp, rfl, ?_⟩
  go_wp2
  go_ret
  exact ⟨rfl, _, FIN.out⟩

set_option maxRecDepth 100000 in
set_option maxHeartbeats 4000000 in
theorem one_11 (B bk : Nat) (fx : CkF) (L : CkL) (s : Ck) (E : Env) (w : World) (h : CkRep B w bk fx L s) (hfit : s.Fit) {b : Blk} {r : List Blk} (ht : s.Top b r) {bp : Nat} {n1 n2 n3 n4 : Value} {g fc f : Nat} {cvs : List Value} {bA b3 : Nat} (he : EnvAt B w bk fx E bp n1 n2 n3 n4 g fc f cvs bA b3) (hE : EnvOk E) (imm : Int) :
    Calls Tryz.prog 88 #[.pointer (some ⟨bk, 0, none⟩), .agg #[.int .i64 11, .int .i64 imm, sv []]] w fun e w' => e = .returned (.int .i64 (s.one E ⟨11, imm, []⟩).2) ∧ ∃ L', CkRep B w' bk fx L' (s.one E ⟨11, imm, []⟩).1 ∧ CkStep w w' bk L L' := by
  have hro : r.length ≤ 900 := by have := hfit.opn; rw [ht.opn] at this; simp at this; omega
  have f1 := hfit.st
  have f2 := hfit.code
  have c5 := h.here.cell 5
  simp at c5
  have hb := h.here.lt
  have hb1 : bk < w.heap.size + 1 := by omega
  have hlk : ∀ n, (Instr.lookup 193 (.map (some fx.on)) (.int .i64 11) true).run Tryz.prog ((w.alloc (.cells #[.int .i64 11, .int .i64 imm, sv []] 67)).drewN n) = .ok (.tuple #[.func (.func 114) #[] #[.pointer (some ⟨bA, 0, none⟩)], .bool true]) ((w.alloc (.cells #[.int .i64 11, .int .i64 imm, sv []] 67)).drewN n) := fun n => ((he.on.alloc _).drewN n).get 11
  have HC : Hid (∀ w', CkRep B w' bk fx L s → EnvAt B w' bk fx E bp n1 n2 n3 n4 g fc f cvs bA b3 → _) := fun w' h' he' => on11_any B bk fx L s 11 imm [] bA w' he'.on.a h' ht (by omega) (by omega)
  have HCL : Hid ((s.pops [0]).1.code.length ≤ 900) := by show _ ≤ 900; rw [Ck.pops_code]; omega
  have H : Hid (CkRep B w bk fx L s) := h
  have HE : Hid (EnvAt B w bk fx E bp n1 n2 n3 n4 g fc f cvs bA b3) := he
  have e0 : s.one E ⟨11, imm, []⟩ = ({ (s.pops [0]).1 with code := (s.pops [0]).1.code ++ [{ op := 11, imm := imm, keep := 0, cut := 0 }] }, (s.pops [0]).2) := by
    unfold Ck.one
    rw [if_neg (by simp), if_neg (by simp), if_neg (by simp), if_neg (by simp), if_neg (by simp)]
    rfl
  rw [e0]
  clear e0 h ht he
  generalize (s.pops [0]) = pp at *
  obtain ⟨s2, er⟩ := pp
  simp only at HC HCL ⊢
  go_enter Tryz.func88, Tryz.ntmps88
  go_wp2
  go_quiet (fail)
  go_wp2_with fail
  refine (sigs_any _ _).mono ?_
  rintro e w1 ⟨rfl, o, rfl⟩
  obtain ⟨W1, hW1⟩ : ∃ W1, W1 = ((w.alloc (.cells #[.int .i64 11, .int .i64 imm, sv []] 67)).drewN nq).alloc o := ⟨_, rfl⟩
  have R1 : Hid (CkRep B W1 bk fx L s) := by rw [hW1]; exact ((H.out.alloc _).drewN _).alloc _
  have E1 : Hid (EnvAt B W1 bk fx E bp n1 n2 n3 n4 g fc f cvs bA b3) := by rw [hW1]; exact ((HE.out.alloc _).drewN _).alloc _
  have S1 : Hid (CkStep w W1 bk L L) := by rw [hW1]; exact (((CkStep.refl _ _ _).alloc _).drewN _).alloc _
  have K1 : Hid (Has W1 w.heap.size #[.int .i64 11, .int .i64 imm, sv []] 67) := by rw [hW1]; exact ((Has.new _ _ _).drewN _).alloc _
  rw [← hW1]
  clear hW1 H HE hlk c5 hb hb1
  have i0 := K1.out.cell 0
  have i1 := K1.out.cell 1
  have i2 := K1.out.cell 2
  simp at i0 i1 i2
  have l2 := K1.out.lt
  have l21 : w.heap.size < W1.heap.size + 1 := by omega
  go_wp2_with fail
  refine (HC.out _ (R1.out.alloc _) (E1.out.alloc _)).mono ?_
  rintro e w2 ⟨rfl, g1, g2⟩
  have R2 : Hid (CkRep B w2 bk fx _ s2) := g1
  have S2 : Hid (CkStep w w2 bk L _) := (S1.out.alloc _).trans g2
  have K2 : Hid (Has w2 w.heap.size #[.int .i64 11, .int .i64 imm, sv []] 67) := g2.has (K1.out.alloc _) (R1.out.typIns K1.out)
  clear g1 g2 R1 E1 S1 K1 HC i0 i1 i2 l2 l21
  have c4 := R2.out.here.cell 4
  have i0 := K2.out.cell 0
  have i1 := K2.out.cell 1
  simp at c4 i0 i1
  have l1 := R2.out.here.lt
  have l2 := K2.out.lt
  have hcl : s2.code.length ≤ 900 := HCL.out
  have hne := owns_ne R2.out.code R2.out.here (by decide)
  have hne1 : (Value.slice _ s2.code.length _).ownBlock ≠ some w.heap.size := owns_ne R2.out.code K2.out (by decide)
  go_wp2
  refine wp_region_app rowFlat 10 (by kernel_rfl) (by kernel_rfl) (fun _ _ _ _ _ h => h) _ _ _ rfl (.tmp 74) (.tmp 69) 75 76 rfl rfl rfl rfl rfl rfl _ _ _ R2.out.code (.agg #[.int .i64 11, .int .i64 imm, .int .i64 0, .int .i64 0]) rfl (by decide) (by simp [Value.cells, Value.oneCell']) (by omega) ?_
  intro gg cap w5 q1 q2 q3 q4
  have K5 : Has w5 w.heap.size _ _ := (K2.out.alloc _).fr q2 hne1
  have hH' : Has w5 bk _ _ := (R2.out.here.alloc _).fr q2 hne
  have d5' := hH'.cell 4
  have e5' := hH'.frozen 4
  have j0 := K5.cell 0
  have j1 := K5.cell 1
  simp at d5' j0 j1
  have l3 := hH'.lt
  have l4 := K5.lt
  obtain ⟨m1, m2, m3, m4, m5⟩ := app_net R2.out.here hne q2 q1 (by decide) q3 q4 4
  have fin := R2.out.putCode (s2.code ++ [{ op := 11, imm := imm, keep := 0, cut := 0 }]) (ca2 := some ⟨gg, 0, none⟩) (cc2 := cap) m1 (by simpa using m2) (by rw [flatCells_snoc]; simpa [Flat.cells, Value.cells] using m3) (fun k hk => by simp [Value.ownBlock] at hk; subst hk; exact m4)
  have FIN : Hid (_ ∧ _) := And.intro fin.1 (S2.out.trans fin.2)
  clear m1 m2 m3 m4 m5 fin q1 q2 q3 q4 hne hne1 K5 hH' R2 S2 K2
  simp only [List.take_succ_cons, List.take_zero]
  repeat go_big_quiet_step (fail)
  refine wpQuiet_nil ⟨rfl, rfl, by simp, rfl, ?_⟩
  go_wp2
  go_ret
  exact ⟨rfl, _, FIN.out⟩

set_option maxRecDepth 100000 in
set_option maxHeartbeats 4000000 in
theorem one_9 (B bk : Nat) (fx : CkF) (L : CkL) (s : Ck) (E : Env) (w : World) (h : CkRep B w bk fx L s) (hfit : s.Fit) {b : Blk} {r : List Blk} (ht : s.Top b r) {bp : Nat} {n1 n2 n3 n4 : Value} {g fc f : Nat} {cvs : List Value} {bA b3 : Nat} (he : EnvAt B w bk fx E bp n1 n2 n3 n4 g fc f cvs bA b3) (hE : EnvOk E) (imm : Int) :
    Calls Tryz.prog 88 #[.pointer (some ⟨bk, 0, none⟩), .agg #[.int .i64 9, .int .i64 imm, sv []]] w fun e w' => e = .returned (.int .i64 (s.one E ⟨9, imm, []⟩).2) ∧ ∃ L', CkRep B w' bk fx L' (s.one E ⟨9, imm, []⟩).1 ∧ CkStep w w' bk L L' := by
  have hro : r.length ≤ 900 := by have := hfit.opn; rw [ht.opn] at this; simp at this; omega
  have f1 := hfit.st
  have f2 := hfit.code
  have c5 := h.here.cell 5
  simp at c5
  have hb := h.here.lt
  have hb1 : bk < w.heap.size + 1 := by omega
  have hlk : ∀ n, (Instr.lookup 193 (.map (some fx.on)) (.int .i64 9) true).run Tryz.prog ((w.alloc (.cells #[.int .i64 9, .int .i64 imm, sv []] 67)).drewN n) = .ok (.tuple #[.func (.func 113) #[] #[.pointer (some ⟨bA, 0, none⟩), .pointer (some ⟨b3, 0, none⟩)], .bool true]) ((w.alloc (.cells #[.int .i64 9, .int .i64 imm, sv []] 67)).drewN n) := fun n => ((he.on.alloc _).drewN n).get 9
  have hml : E.me.results.length ≤ 900 := by have := hE.rs _ he.me_mem; omega
  have HC : Hid (∀ w', CkRep B w' bk fx L s → EnvAt B w' bk fx E bp n1 n2 n3 n4 g fc f cvs bA b3 → _) := fun w' h' he' => on9_call h' he' ht hro (by omega) hml imm
  have HCL : Hid ((s.leaves E.me.results).1.code.length ≤ 900) := by show _ ≤ 900; rw [Ck.leaves_code]; omega
  have H : Hid (CkRep B w bk fx L s) := h
  have HE : Hid (EnvAt B w bk fx E bp n1 n2 n3 n4 g fc f cvs bA b3) := he
  have e0 : s.one E ⟨9, imm, []⟩ = ({ (s.leaves E.me.results).1 with code := (s.leaves E.me.results).1.code ++ [{ op := 9, imm := imm, keep := 0, cut := 0 }] }, (s.leaves E.me.results).2) := by
    unfold Ck.one
    rw [if_neg (by simp), if_neg (by simp), if_neg (by simp), if_neg (by simp), if_neg (by simp)]
    rfl
  rw [e0]
  clear e0 h ht he
  generalize (s.leaves E.me.results) = pp at *
  obtain ⟨s2, er⟩ := pp
  simp only at HC HCL ⊢
  go_enter Tryz.func88, Tryz.ntmps88
  go_wp2
  go_quiet (fail)
  go_wp2_with fail
  refine (sigs_any _ _).mono ?_
  rintro e w1 ⟨rfl, o, rfl⟩
  obtain ⟨W1, hW1⟩ : ∃ W1, W1 = ((w.alloc (.cells #[.int .i64 9, .int .i64 imm, sv []] 67)).drewN nq).alloc o := ⟨_, rfl⟩
  have R1 : Hid (CkRep B W1 bk fx L s) := by rw [hW1]; exact ((H.out.alloc _).drewN _).alloc _
  have E1 : Hid (EnvAt B W1 bk fx E bp n1 n2 n3 n4 g fc f cvs bA b3) := by rw [hW1]; exact ((HE.out.alloc _).drewN _).alloc _
  have S1 : Hid (CkStep w W1 bk L L) := by rw [hW1]; exact (((CkStep.refl _ _ _).alloc _).drewN _).alloc _
  have K1 : Hid (Has W1 w.heap.size #[.int .i64 9, .int .i64 imm, sv []] 67) := by rw [hW1]; exact ((Has.new _ _ _).drewN _).alloc _
  rw [← hW1]
  clear hW1 H HE hlk c5 hb hb1
  have i0 := K1.out.cell 0
  have i1 := K1.out.cell 1
  have i2 := K1.out.cell 2
  simp at i0 i1 i2
  have l2 := K1.out.lt
  have l21 : w.heap.size < W1.heap.size + 1 := by omega
  go_wp2_with fail
  refine (HC.out _ (R1.out.alloc _) (E1.out.alloc _)).mono ?_
  rintro e w2 ⟨rfl, g1, g2⟩
  have R2 : Hid (CkRep B w2 bk fx _ s2) := g1
  have S2 : Hid (CkStep w w2 bk L _) := (S1.out.alloc _).trans g2
  have K2 : Hid (Has w2 w.heap.size #[.int .i64 9, .int .i64 imm, sv []] 67) := g2.has (K1.out.alloc _) (R1.out.typIns K1.out)
  clear g1 g2 R1 E1 S1 K1 HC i0 i1 i2 l2 l21
  have c4 := R2.out.here.cell 4
  have i0 := K2.out.cell 0
  have i1 := K2.out.cell 1
  simp at c4 i0 i1
  have l1 := R2.out.here.lt
  have l2 := K2.out.lt
  have hcl : s2.code.length ≤ 900 := HCL.out
  have hne := owns_ne R2.out.code R2.out.here (by decide)
  have hne1 : (Value.slice _ s2.code.length _).ownBlock ≠ some w.heap.size := owns_ne R2.out.code K2.out (by decide)
  go_wp2
  refine wp_region_app rowFlat 10 (by kernel_rfl) (by kernel_rfl) (fun _ _ _ _ _ h => h) _ _ _ rfl (.tmp 74) (.tmp 69) 75 76 rfl rfl rfl rfl rfl rfl _ _ _ R2.out.code (.agg #[.int .i64 9, .int .i64 imm, .int .i64 0, .int .i64 0]) rfl (by decide) (by simp [Value.cells, Value.oneCell']) (by omega) ?_
  intro gg cap w5 q1 q2 q3 q4
  have K5 : Has w5 w.heap.size _ _ := (K2.out.alloc _).fr q2 hne1
  have hH' : Has w5 bk _ _ := (R2.out.here.alloc _).fr q2 hne
  have d5' := hH'.cell 4
  have e5' := hH'.frozen 4
  have j0 := K5.cell 0
  have j1 := K5.cell 1
  simp at d5' j0 j1
  have l3 := hH'.lt
  have l4 := K5.lt
  obtain ⟨m1, m2, m3, m4, m5⟩ := app_net R2.out.here hne q2 q1 (by decide) q3 q4 4
  have fin := R2.out.putCode (s2.code ++ [{ op := 9, imm := imm, keep := 0, cut := 0 }]) (ca2 := some ⟨gg, 0, none⟩) (cc2 := cap) m1 (by simpa using m2) (by rw [flatCells_snoc]; simpa [Flat.cells, Value.cells] using m3) (fun k hk => by simp [Value.ownBlock] at hk; subst hk; exact m4)
  have FIN : Hid (_ ∧ _) := And.intro fin.1 (S2.out.trans fin.2)
  clear m1 m2 m3 m4 m5 fin q1 q2 q3 q4 hne hne1 K5 hH' R2 S2 K2
  simp only [List.take_succ_cons, List.take_zero]
  repeat go_big_quiet_step (fail)
  refine wpQuiet_nil ⟨rfl, rfl, by simp, rfl, ?_⟩
  go_wp2
  go_ret
  exact ⟨rfl, _, FIN.out⟩

set_option maxRecDepth 100000 in
set_option maxHeartbeats 4000000 in
theorem one_10 (B bk : Nat) (fx : CkF) (L : CkL) (s : Ck) (E : Env) (w : World) (h : CkRep B w bk fx L s) (hfit : s.Fit) {b : Blk} {r : List Blk} (ht : s.Top b r) {bp : Nat} {n1 n2 n3 n4 : Value} {g fc f : Nat} {cvs : List Value} {bA b3 : Nat} (he : EnvAt B w bk fx E bp n1 n2 n3 n4 g fc f cvs bA b3) (hE : EnvOk E) (j : Nat) :
    Calls Tryz.prog 88 #[.pointer (some ⟨bk, 0, none⟩), .agg #[.int .i64 10, .int .i64 j, sv []]] w fun e w' => e = .returned (.int .i64 (s.one E ⟨10, j, []⟩).2) ∧ ∃ L', CkRep B w' bk fx L' (s.one E ⟨10, j, []⟩).1 ∧ CkStep w w' bk L L' := by
  have hro : r.length ≤ 900 := by have := hfit.opn; rw [ht.opn] at this; simp at this; omega
  have f1 := hfit.st
  have f2 := hfit.code
  have c5 := h.here.cell 5
  simp at c5
  have hb := h.here.lt
  have hb1 : bk < w.heap.size + 1 := by omega
  have hlk : ∀ n, (Instr.lookup 193 (.map (some fx.on)) (.int .i64 10) true).run Tryz.prog ((w.alloc (.cells #[.int .i64 10, .int .i64 j, sv []] 67)).drewN n) = .ok (.tuple #[.func (.func 116) #[.pointer (some ⟨bk, 0, none⟩)] #[], .bool true]) ((w.alloc (.cells #[.int .i64 10, .int .i64 j, sv []] 67)).drewN n) := fun n => ((he.on.alloc _).drewN n).get 10
  have HC : Hid (∀ w', CkRep B w' bk fx L s → EnvAt B w' bk fx E bp n1 n2 n3 n4 g fc f cvs bA b3 → _) := fun w' h' he' => call_any B bk fx L s 10 j w' h' ht hro (by omega) he'.funs he'.p (by have := hE.len; omega) (fun u hu => by have := hE.ps u hu; omega) (fun u hu => by have := hE.rs u hu; omega)
  have HCL : Hid ((s.call E.funs j).1.code.length ≤ 900) := by show _ ≤ 900; rw [Ck.call_code]; omega
  have H : Hid (CkRep B w bk fx L s) := h
  have HE : Hid (EnvAt B w bk fx E bp n1 n2 n3 n4 g fc f cvs bA b3) := he
  have e0 : s.one E ⟨10, j, []⟩ = ({ (s.call E.funs j).1 with code := (s.call E.funs j).1.code ++ [{ op := 10, imm := j, keep := 0, cut := 0 }] }, (s.call E.funs j).2) := by
    unfold Ck.one
    rw [if_neg (by simp), if_neg (by simp), if_neg (by simp), if_neg (by simp), if_neg (by simp)]
    rfl
  rw [e0]
  clear e0 h ht he
  generalize (s.call E.funs j) = pp at *
  obtain ⟨s2, er⟩ := pp
  simp only at HC HCL ⊢
  go_enter Tryz.func88, Tryz.ntmps88
  go_wp2
  go_quiet (fail)
  go_wp2_with fail
  refine (sigs_any _ _).mono ?_
  rintro e w1 ⟨rfl, o, rfl⟩
  obtain ⟨W1, hW1⟩ : ∃ W1, W1 = ((w.alloc (.cells #[.int .i64 10, .int .i64 j, sv []] 67)).drewN nq).alloc o := ⟨_, rfl⟩
  have R1 : Hid (CkRep B W1 bk fx L s) := by rw [hW1]; exact ((H.out.alloc _).drewN _).alloc _
  have E1 : Hid (EnvAt B W1 bk fx E bp n1 n2 n3 n4 g fc f cvs bA b3) := by rw [hW1]; exact ((HE.out.alloc _).drewN _).alloc _
  have S1 : Hid (CkStep w W1 bk L L) := by rw [hW1]; exact (((CkStep.refl _ _ _).alloc _).drewN _).alloc _
  have K1 : Hid (Has W1 w.heap.size #[.int .i64 10, .int .i64 j, sv []] 67) := by rw [hW1]; exact ((Has.new _ _ _).drewN _).alloc _
  rw [← hW1]
  clear hW1 H HE hlk c5 hb hb1
  have i0 := K1.out.cell 0
  have i1 := K1.out.cell 1
  have i2 := K1.out.cell 2
  simp at i0 i1 i2
  have l2 := K1.out.lt
  have l21 : w.heap.size < W1.heap.size + 1 := by omega
  go_wp2_with fail
  refine (HC.out _ (R1.out.alloc _) (E1.out.alloc _)).mono ?_
  rintro e w2 ⟨rfl, L2, g1, g2⟩
  have R2 : Hid (CkRep B w2 bk fx _ s2) := g1
  have S2 : Hid (CkStep w w2 bk L _) := (S1.out.alloc _).trans g2
  have K2 : Hid (Has w2 w.heap.size #[.int .i64 10, .int .i64 j, sv []] 67) := g2.has (K1.out.alloc _) (R1.out.typIns K1.out)
  clear g1 g2 R1 E1 S1 K1 HC i0 i1 i2 l2 l21
  have c4 := R2.out.here.cell 4
  have i0 := K2.out.cell 0
  have i1 := K2.out.cell 1
  simp at c4 i0 i1
  have l1 := R2.out.here.lt
  have l2 := K2.out.lt
  have hcl : s2.code.length ≤ 900 := HCL.out
  have hne := owns_ne R2.out.code R2.out.here (by decide)
  have hne1 : (Value.slice _ s2.code.length _).ownBlock ≠ some w.heap.size := owns_ne R2.out.code K2.out (by decide)
  go_wp2
  refine wp_region_app rowFlat 10 (by kernel_rfl) (by kernel_rfl) (fun _ _ _ _ _ h => h) _ _ _ rfl (.tmp 74) (.tmp 69) 75 76 rfl rfl rfl rfl rfl rfl _ _ _ R2.out.code (.agg #[.int .i64 10, .int .i64 j, .int .i64 0, .int .i64 0]) rfl (by decide) (by simp [Value.cells, Value.oneCell']) (by omega) ?_
  intro gg cap w5 q1 q2 q3 q4
  have K5 : Has w5 w.heap.size _ _ := (K2.out.alloc _).fr q2 hne1
  have hH' : Has w5 bk _ _ := (R2.out.here.alloc _).fr q2 hne
  have d5' := hH'.cell 4
  have e5' := hH'.frozen 4
  have j0 := K5.cell 0
  have j1 := K5.cell 1
  simp at d5' j0 j1
  have l3 := hH'.lt
  have l4 := K5.lt
  obtain ⟨m1, m2, m3, m4, m5⟩ := app_net R2.out.here hne q2 q1 (by decide) q3 q4 4
  have fin := R2.out.putCode (s2.code ++ [{ op := 10, imm := j, keep := 0, cut := 0 }]) (ca2 := some ⟨gg, 0, none⟩) (cc2 := cap) m1 (by simpa using m2) (by rw [flatCells_snoc]; simpa [Flat.cells, Value.cells] using m3) (fun k hk => by simp [Value.ownBlock] at hk; subst hk; exact m4)
  have FIN : Hid (_ ∧ _) := And.intro fin.1 (S2.out.trans fin.2)
  clear m1 m2 m3 m4 m5 fin q1 q2 q3 q4 hne hne1 K5 hH' R2 S2 K2
  simp only [List.take_succ_cons, List.take_zero]
  repeat go_big_quiet_step (fail)
  refine wpQuiet_nil ⟨rfl, rfl, by simp, rfl, ?_⟩
  go_wp2
  go_ret
  exact ⟨rfl, _, FIN.out⟩

set_option maxRecDepth 100000 in
set_option maxHeartbeats 4000000 in
theorem one_12 (B bk : Nat) (fx : CkF) (L : CkL) (s : Ck) (E : Env) (w : World) (h : CkRep B w bk fx L s) (hfit : s.Fit) {b : Blk} {r : List Blk} (ht : s.Top b r) {bp : Nat} {n1 n2 n3 n4 : Value} {g fc f : Nat} {cvs : List Value} {bA b3 : Nat} (he : EnvAt B w bk fx E bp n1 n2 n3 n4 g fc f cvs bA b3) (hE : EnvOk E) (imm : Int) :
    Calls Tryz.prog 88 #[.pointer (some ⟨bk, 0, none⟩), .agg #[.int .i64 12, .int .i64 imm, sv []]] w fun e w' => e = .returned (.int .i64 (s.one E ⟨12, imm, []⟩).2) ∧ ∃ L', CkRep B w' bk fx L' (s.one E ⟨12, imm, []⟩).1 ∧ CkStep w w' bk L L' := by
  have hro : r.length ≤ 900 := by have := hfit.opn; rw [ht.opn] at this; simp at this; omega
  have f1 := hfit.st
  have f2 := hfit.code
  have c5 := h.here.cell 5
  simp at c5
  have hb := h.here.lt
  have hb1 : bk < w.heap.size + 1 := by omega
  have hlk : ∀ n, (Instr.lookup 193 (.map (some fx.on)) (.int .i64 12) true).run Tryz.prog ((w.alloc (.cells #[.int .i64 12, .int .i64 imm, sv []] 67)).drewN n) = .ok (.tuple #[.func (.func 117) #[.pointer (some ⟨bk, 0, none⟩)] #[], .bool true]) ((w.alloc (.cells #[.int .i64 12, .int .i64 imm, sv []] 67)).drewN n) := fun n => ((he.on.alloc _).drewN n).get 12
  have HC : Hid (∀ w', CkRep B w' bk fx L s → EnvAt B w' bk fx E bp n1 n2 n3 n4 g fc f cvs bA b3 → _) := fun w' h' he' => sel_any B bk fx L s _ w' ⟨12, imm, [], rfl⟩ h' ht hro (by omega)
  have HCL : Hid (s.sel.1.code.length ≤ 900) := by show _ ≤ 900; rw [Ck.sel_code]; omega
  have H : Hid (CkRep B w bk fx L s) := h
  have HE : Hid (EnvAt B w bk fx E bp n1 n2 n3 n4 g fc f cvs bA b3) := he
  have e0 : s.one E ⟨12, imm, []⟩ = ({ s.sel.1 with code := s.sel.1.code ++ [{ op := 12, imm := imm, keep := 0, cut := 0 }] }, s.sel.2) := by
    unfold Ck.one
    rw [if_neg (by simp), if_neg (by simp), if_neg (by simp), if_neg (by simp), if_neg (by simp)]
    rfl
  rw [e0]
  clear e0 h ht he
  generalize s.sel = pp at *
  obtain ⟨s2, er⟩ := pp
  simp only at HC HCL ⊢
  go_enter Tryz.func88, Tryz.ntmps88
  go_wp2
  go_quiet (fail)
  go_wp2_with fail
  refine (sigs_any _ _).mono ?_
  rintro e w1 ⟨rfl, o, rfl⟩
  obtain ⟨W1, hW1⟩ : ∃ W1, W1 = ((w.alloc (.cells #[.int .i64 12, .int .i64 imm, sv []] 67)).drewN nq).alloc o := ⟨_, rfl⟩
  have R1 : Hid (CkRep B W1 bk fx L s) := by rw [hW1]; exact ((H.out.alloc _).drewN _).alloc _
  have E1 : Hid (EnvAt B W1 bk fx E bp n1 n2 n3 n4 g fc f cvs bA b3) := by rw [hW1]; exact ((HE.out.alloc _).drewN _).alloc _
  have S1 : Hid (CkStep w W1 bk L L) := by rw [hW1]; exact (((CkStep.refl _ _ _).alloc _).drewN _).alloc _
  have K1 : Hid (Has W1 w.heap.size #[.int .i64 12, .int .i64 imm, sv []] 67) := by rw [hW1]; exact ((Has.new _ _ _).drewN _).alloc _
  rw [← hW1]
  clear hW1 H HE hlk c5 hb hb1
  have i0 := K1.out.cell 0
  have i1 := K1.out.cell 1
  have i2 := K1.out.cell 2
  simp at i0 i1 i2
  have l2 := K1.out.lt
  have l21 : w.heap.size < W1.heap.size + 1 := by omega
  go_wp2_with fail
  refine (HC.out _ (R1.out.alloc _) (E1.out.alloc _)).mono ?_
  rintro e w2 ⟨rfl, L2, g1, g2⟩
  have R2 : Hid (CkRep B w2 bk fx _ s2) := g1
  have S2 : Hid (CkStep w w2 bk L _) := (S1.out.alloc _).trans g2
  have K2 : Hid (Has w2 w.heap.size #[.int .i64 12, .int .i64 imm, sv []] 67) := g2.has (K1.out.alloc _) (R1.out.typIns K1.out)
  clear g1 g2 R1 E1 S1 K1 HC i0 i1 i2 l2 l21
  have c4 := R2.out.here.cell 4
  have i0 := K2.out.cell 0
  have i1 := K2.out.cell 1
  simp at c4 i0 i1
  have l1 := R2.out.here.lt
  have l2 := K2.out.lt
  have hcl : s2.code.length ≤ 900 := HCL.out
  have hne := owns_ne R2.out.code R2.out.here (by decide)
  have hne1 : (Value.slice _ s2.code.length _).ownBlock ≠ some w.heap.size := owns_ne R2.out.code K2.out (by decide)
  go_wp2
  refine wp_region_app rowFlat 10 (by kernel_rfl) (by kernel_rfl) (fun _ _ _ _ _ h => h) _ _ _ rfl (.tmp 74) (.tmp 69) 75 76 rfl rfl rfl rfl rfl rfl _ _ _ R2.out.code (.agg #[.int .i64 12, .int .i64 imm, .int .i64 0, .int .i64 0]) rfl (by decide) (by simp [Value.cells, Value.oneCell']) (by omega) ?_
  intro gg cap w5 q1 q2 q3 q4
  have K5 : Has w5 w.heap.size _ _ := (K2.out.alloc _).fr q2 hne1
  have hH' : Has w5 bk _ _ := (R2.out.here.alloc _).fr q2 hne
  have d5' := hH'.cell 4
  have e5' := hH'.frozen 4
  have j0 := K5.cell 0
  have j1 := K5.cell 1
  simp at d5' j0 j1
  have l3 := hH'.lt
  have l4 := K5.lt
  obtain ⟨m1, m2, m3, m4, m5⟩ := app_net R2.out.here hne q2 q1 (by decide) q3 q4 4
  have fin := R2.out.putCode (s2.code ++ [{ op := 12, imm := imm, keep := 0, cut := 0 }]) (ca2 := some ⟨gg, 0, none⟩) (cc2 := cap) m1 (by simpa using m2) (by rw [flatCells_snoc]; simpa [Flat.cells, Value.cells] using m3) (fun k hk => by simp [Value.ownBlock] at hk; subst hk; exact m4)
  have FIN : Hid (_ ∧ _) := And.intro fin.1 (S2.out.trans fin.2)
  clear m1 m2 m3 m4 m5 fin q1 q2 q3 q4 hne hne1 K5 hH' R2 S2 K2
  simp only [List.take_succ_cons, List.take_zero]
  repeat go_big_quiet_step (fail)
  refine wpQuiet_nil ⟨rfl, rfl, by simp, rfl, ?_⟩
  go_wp2
  go_ret
  exact ⟨rfl, _, FIN.out⟩

set_option maxRecDepth 100000 in
set_option maxHeartbeats 4000000 in
theorem one_13 (B bk : Nat) (fx : CkF) (L : CkL) (s : Ck) (E : Env) (w : World) (h : CkRep B w bk fx L s) (hfit : s.Fit) {b : Blk} {r : List Blk} (ht : s.Top b r) {bp : Nat} {n1 n2 n3 n4 : Value} {g fc f : Nat} {cvs : List Value} {bA b3 : Nat} (he : EnvAt B w bk fx E bp n1 n2 n3 n4 g fc f cvs bA b3) (hE : EnvOk E) (j : Nat) :
    Calls Tryz.prog 88 #[.pointer (some ⟨bk, 0, none⟩), .agg #[.int .i64 13, .int .i64 j, sv []]] w fun e w' => e = .returned (.int .i64 (s.one E ⟨13, j, []⟩).2) ∧ ∃ L', CkRep B w' bk fx L' (s.one E ⟨13, j, []⟩).1 ∧ CkStep w w' bk L L' := by
  have hro : r.length ≤ 900 := by have := hfit.opn; rw [ht.opn] at this; simp at this; omega
  have f1 := hfit.st
  have f2 := hfit.code
  have c5 := h.here.cell 5
  simp at c5
  have hb := h.here.lt
  have hb1 : bk < w.heap.size + 1 := by omega
  have hlk : ∀ n, (Instr.lookup 193 (.map (some fx.on)) (.int .i64 13) true).run Tryz.prog ((w.alloc (.cells #[.int .i64 13, .int .i64 j, sv []] 67)).drewN n) = .ok (.tuple #[.func (.func 118) #[.pointer (some ⟨bk, 0, none⟩)] #[], .bool true]) ((w.alloc (.cells #[.int .i64 13, .int .i64 j, sv []] 67)).drewN n) := fun n => ((he.on.alloc _).drewN n).get 13
  have hpl : E.me.params.length ≤ 500 := by have := hE.ps _ he.me_mem; omega
  have hll : E.me.locals.length ≤ 500 := by have := hE.ls _ he.me_mem; omega
  have HC : Hid (∀ w', CkRep B w' bk fx L s → EnvAt B w' bk fx E bp n1 n2 n3 n4 g fc f cvs bA b3 → _) := fun w' h' he' => local_call h' he' ht hro (by omega) 13 j hpl hll
  have HCL : Hid ((s.local (E.me.params ++ E.me.locals) 13 j).1.code.length ≤ 900) := by show _ ≤ 900; rw [Ck.local_code]; omega
  have H : Hid (CkRep B w bk fx L s) := h
  have HE : Hid (EnvAt B w bk fx E bp n1 n2 n3 n4 g fc f cvs bA b3) := he
  have e0 : s.one E ⟨13, j, []⟩ = ({ (s.local (E.me.params ++ E.me.locals) 13 j).1 with code := (s.local (E.me.params ++ E.me.locals) 13 j).1.code ++ [{ op := 13, imm := j, keep := 0, cut := 0 }] }, (s.local (E.me.params ++ E.me.locals) 13 j).2) := by
    unfold Ck.one
    rw [if_neg (by simp), if_neg (by simp), if_neg (by simp), if_neg (by simp), if_neg (by simp)]
    rfl
  rw [e0]
  clear e0 h ht he
  generalize (s.local (E.me.params ++ E.me.locals) 13 j) = pp at *
  obtain ⟨s2, er⟩ := pp
  simp only at HC HCL ⊢
  go_enter Tryz.func88, Tryz.ntmps88
  go_wp2
  go_quiet (fail)
  go_wp2_with fail
  refine (sigs_any _ _).mono ?_
  rintro e w1 ⟨rfl, o, rfl⟩
  obtain ⟨W1, hW1⟩ : ∃ W1, W1 = ((w.alloc (.cells #[.int .i64 13, .int .i64 j, sv []] 67)).drewN nq).alloc o := ⟨_, rfl⟩
  have R1 : Hid (CkRep B W1 bk fx L s) := by rw [hW1]; exact ((H.out.alloc _).drewN _).alloc _
  have E1 : Hid (EnvAt B W1 bk fx E bp n1 n2 n3 n4 g fc f cvs bA b3) := by rw [hW1]; exact ((HE.out.alloc _).drewN _).alloc _
  have S1 : Hid (CkStep w W1 bk L L) := by rw [hW1]; exact (((CkStep.refl _ _ _).alloc _).drewN _).alloc _
  have K1 : Hid (Has W1 w.heap.size #[.int .i64 13, .int .i64 j, sv []] 67) := by rw [hW1]; exact ((Has.new _ _ _).drewN _).alloc _
  rw [← hW1]
  clear hW1 H HE hlk c5 hb hb1
  have i0 := K1.out.cell 0
  have i1 := K1.out.cell 1
  have i2 := K1.out.cell 2
  simp at i0 i1 i2
  have l2 := K1.out.lt
  have l21 : w.heap.size < W1.heap.size + 1 := by omega
  go_wp2_with fail
  refine (HC.out _ (R1.out.alloc _) (E1.out.alloc _)).mono ?_
  rintro e w2 ⟨rfl, L2, g1, g2⟩
  have R2 : Hid (CkRep B w2 bk fx _ s2) := g1
  have S2 : Hid (CkStep w w2 bk L _) := (S1.out.alloc _).trans g2
  have K2 : Hid (Has w2 w.heap.size #[.int .i64 13, .int .i64 j, sv []] 67) := g2.has (K1.out.alloc _) (R1.out.typIns K1.out)
  clear g1 g2 R1 E1 S1 K1 HC i0 i1 i2 l2 l21
  have c4 := R2.out.here.cell 4
  have i0 := K2.out.cell 0
  have i1 := K2.out.cell 1
  simp at c4 i0 i1
  have l1 := R2.out.here.lt
  have l2 := K2.out.lt
  have hcl : s2.code.length ≤ 900 := HCL.out
  have hne := owns_ne R2.out.code R2.out.here (by decide)
  have hne1 : (Value.slice _ s2.code.length _).ownBlock ≠ some w.heap.size := owns_ne R2.out.code K2.out (by decide)
  go_wp2
  refine wp_region_app rowFlat 10 (by kernel_rfl) (by kernel_rfl) (fun _ _ _ _ _ h => h) _ _ _ rfl (.tmp 74) (.tmp 69) 75 76 rfl rfl rfl rfl rfl rfl _ _ _ R2.out.code (.agg #[.int .i64 13, .int .i64 j, .int .i64 0, .int .i64 0]) rfl (by decide) (by simp [Value.cells, Value.oneCell']) (by omega) ?_
  intro gg cap w5 q1 q2 q3 q4
  have K5 : Has w5 w.heap.size _ _ := (K2.out.alloc _).fr q2 hne1
  have hH' : Has w5 bk _ _ := (R2.out.here.alloc _).fr q2 hne
  have d5' := hH'.cell 4
  have e5' := hH'.frozen 4
  have j0 := K5.cell 0
  have j1 := K5.cell 1
  simp at d5' j0 j1
  have l3 := hH'.lt
  have l4 := K5.lt
  obtain ⟨m1, m2, m3, m4, m5⟩ := app_net R2.out.here hne q2 q1 (by decide) q3 q4 4
  have fin := R2.out.putCode (s2.code ++ [{ op := 13, imm := j, keep := 0, cut := 0 }]) (ca2 := some ⟨gg, 0, none⟩) (cc2 := cap) m1 (by simpa using m2) (by rw [flatCells_snoc]; simpa [Flat.cells, Value.cells] using m3) (fun k hk => by simp [Value.ownBlock] at hk; subst hk; exact m4)
  have FIN : Hid (_ ∧ _) := And.intro fin.1 (S2.out.trans fin.2)
  clear m1 m2 m3 m4 m5 fin q1 q2 q3 q4 hne hne1 K5 hH' R2 S2 K2
  simp only [List.take_succ_cons, List.take_zero]
  repeat go_big_quiet_step (fail)
  refine wpQuiet_nil ⟨rfl, rfl, by simp, rfl, ?_⟩
  go_wp2
  go_ret
  exact ⟨rfl, _, FIN.out⟩

set_option maxRecDepth 100000 in
set_option maxHeartbeats 4000000 in
theorem one_14 (B bk : Nat) (fx : CkF) (L : CkL) (s : Ck) (E : Env) (w : World) (h : CkRep B w bk fx L s) (hfit : s.Fit) {b : Blk} {r : List Blk} (ht : s.Top b r) {bp : Nat} {n1 n2 n3 n4 : Value} {g fc f : Nat} {cvs : List Value} {bA b3 : Nat} (he : EnvAt B w bk fx E bp n1 n2 n3 n4 g fc f cvs bA b3) (hE : EnvOk E) (j : Nat) :
    Calls Tryz.prog 88 #[.pointer (some ⟨bk, 0, none⟩), .agg #[.int .i64 14, .int .i64 j, sv []]] w fun e w' => e = .returned (.int .i64 (s.one E ⟨14, j, []⟩).2) ∧ ∃ L', CkRep B w' bk fx L' (s.one E ⟨14, j, []⟩).1 ∧ CkStep w w' bk L L' := by
  have hro : r.length ≤ 900 := by have := hfit.opn; rw [ht.opn] at this; simp at this; omega
  have f1 := hfit.st
  have f2 := hfit.code
  have c5 := h.here.cell 5
  simp at c5
  have hb := h.here.lt
  have hb1 : bk < w.heap.size + 1 := by omega
  have hlk : ∀ n, (Instr.lookup 193 (.map (some fx.on)) (.int .i64 14) true).run Tryz.prog ((w.alloc (.cells #[.int .i64 14, .int .i64 j, sv []] 67)).drewN n) = .ok (.tuple #[.func (.func 118) #[.pointer (some ⟨bk, 0, none⟩)] #[], .bool true]) ((w.alloc (.cells #[.int .i64 14, .int .i64 j, sv []] 67)).drewN n) := fun n => ((he.on.alloc _).drewN n).get 14
  have hpl : E.me.params.length ≤ 500 := by have := hE.ps _ he.me_mem; omega
  have hll : E.me.locals.length ≤ 500 := by have := hE.ls _ he.me_mem; omega
  have HC : Hid (∀ w', CkRep B w' bk fx L s → EnvAt B w' bk fx E bp n1 n2 n3 n4 g fc f cvs bA b3 → _) := fun w' h' he' => local_call h' he' ht hro (by omega) 14 j hpl hll
  have HCL : Hid ((s.local (E.me.params ++ E.me.locals) 14 j).1.code.length ≤ 900) := by show _ ≤ 900; rw [Ck.local_code]; omega
  have H : Hid (CkRep B w bk fx L s) := h
  have HE : Hid (EnvAt B w bk fx E bp n1 n2 n3 n4 g fc f cvs bA b3) := he
  have e0 : s.one E ⟨14, j, []⟩ = ({ (s.local (E.me.params ++ E.me.locals) 14 j).1 with code := (s.local (E.me.params ++ E.me.locals) 14 j).1.code ++ [{ op := 14, imm := j, keep := 0, cut := 0 }] }, (s.local (E.me.params ++ E.me.locals) 14 j).2) := by
    unfold Ck.one
    rw [if_neg (by simp), if_neg (by simp), if_neg (by simp), if_neg (by simp), if_neg (by simp)]
    rfl
  rw [e0]
  clear e0 h ht he
  generalize (s.local (E.me.params ++ E.me.locals) 14 j) = pp at *
  obtain ⟨s2, er⟩ := pp
  simp only at HC HCL ⊢
  go_enter Tryz.func88, Tryz.ntmps88
  go_wp2
  go_quiet (fail)
  go_wp2_with fail
  refine (sigs_any _ _).mono ?_
  rintro e w1 ⟨rfl, o, rfl⟩
  obtain ⟨W1, hW1⟩ : ∃ W1, W1 = ((w.alloc (.cells #[.int .i64 14, .int .i64 j, sv []] 67)).drewN nq).alloc o := ⟨_, rfl⟩
  have R1 : Hid (CkRep B W1 bk fx L s) := by rw [hW1]; exact ((H.out.alloc _).drewN _).alloc _
  have E1 : Hid (EnvAt B W1 bk fx E bp n1 n2 n3 n4 g fc f cvs bA b3) := by rw [hW1]; exact ((HE.out.alloc _).drewN _).alloc _
  have S1 : Hid (CkStep w W1 bk L L) := by rw [hW1]; exact (((CkStep.refl _ _ _).alloc _).drewN _).alloc _
  have K1 : Hid (Has W1 w.heap.size #[.int .i64 14, .int .i64 j, sv []] 67) := by rw [hW1]; exact ((Has.new _ _ _).drewN _).alloc _
  rw [← hW1]
  clear hW1 H HE hlk c5 hb hb1
  have i0 := K1.out.cell 0
  have i1 := K1.out.cell 1
  have i2 := K1.out.cell 2
  simp at i0 i1 i2
  have l2 := K1.out.lt
  have l21 : w.heap.size < W1.heap.size + 1 := by omega
  go_wp2_with fail
  refine (HC.out _ (R1.out.alloc _) (E1.out.alloc _)).mono ?_
  rintro e w2 ⟨rfl, L2, g1, g2⟩
  have R2 : Hid (CkRep B w2 bk fx _ s2) := g1
  have S2 : Hid (CkStep w w2 bk L _) := (S1.out.alloc _).trans g2
  have K2 : Hid (Has w2 w.heap.size #[.int .i64 14, .int .i64 j, sv []] 67) := g2.has (K1.out.alloc _) (R1.out.typIns K1.out)
  clear g1 g2 R1 E1 S1 K1 HC i0 i1 i2 l2 l21
  have c4 := R2.out.here.cell 4
  have i0 := K2.out.cell 0
  have i1 := K2.out.cell 1
  simp at c4 i0 i1
  have l1 := R2.out.here.lt
  have l2 := K2.out.lt
  have hcl : s2.code.length ≤ 900 := HCL.out
  have hne := owns_ne R2.out.code R2.out.here (by decide)
  have hne1 : (Value.slice _ s2.code.length _).ownBlock ≠ some w.heap.size := owns_ne R2.out.code K2.out (by decide)
  go_wp2
  refine wp_region_app rowFlat 10 (by kernel_rfl) (by kernel_rfl) (fun _ _ _ _ _ h => h) _ _ _ rfl (.tmp 74) (.tmp 69) 75 76 rfl rfl rfl rfl rfl rfl _ _ _ R2.out.code (.agg #[.int .i64 14, .int .i64 j, .int .i64 0, .int .i64 0]) rfl (by decide) (by simp [Value.cells, Value.oneCell']) (by omega) ?_
  intro gg cap w5 q1 q2 q3 q4
  have K5 : Has w5 w.heap.size _ _ := (K2.out.alloc _).fr q2 hne1
  have hH' : Has w5 bk _ _ := (R2.out.here.alloc _).fr q2 hne
  have d5' := hH'.cell 4
  have e5' := hH'.frozen 4
  have j0 := K5.cell 0
  have j1 := K5.cell 1
  simp at d5' j0 j1
  have l3 := hH'.lt
  have l4 := K5.lt
  obtain ⟨m1, m2, m3, m4, m5⟩ := app_net R2.out.here hne q2 q1 (by decide) q3 q4 4
  have fin := R2.out.putCode (s2.code ++ [{ op := 14, imm := j, keep := 0, cut := 0 }]) (ca2 := some ⟨gg, 0, none⟩) (cc2 := cap) m1 (by simpa using m2) (by rw [flatCells_snoc]; simpa [Flat.cells, Value.cells] using m3) (fun k hk => by simp [Value.ownBlock] at hk; subst hk; exact m4)
  have FIN : Hid (_ ∧ _) := And.intro fin.1 (S2.out.trans fin.2)
  clear m1 m2 m3 m4 m5 fin q1 q2 q3 q4 hne hne1 K5 hH' R2 S2 K2
  simp only [List.take_succ_cons, List.take_zero]
  repeat go_big_quiet_step (fail)
  refine wpQuiet_nil ⟨rfl, rfl, by simp, rfl, ?_⟩
  go_wp2
  go_ret
  exact ⟨rfl, _, FIN.out⟩
end Go.Proofs.Qxb6500575aGreatDoor
