import Derived.Test.Qxb6500575aGreatDoorOne1
import Derived.Test.Qxb6500575aGreatDoorPlain1
import Derived.Test.Qxb6500575aGreatDoorOne2
namespace Go.Proofs.Qxb6500575aGreatDoor
open Go Go.RowKit
set_option linter.unusedVariables false
set_option linter.unusedSimpArgs false

theorem sigsP_len (op : Int) : (sigsP op).1.length ≤ 2 ∧ (sigsP op).2.1.length ≤ 2 := by
  unfold sigsP
  repeat' split
  all_goals simp

set_option maxRecDepth 100000 in
set_option maxHeartbeats 4000000 in
theorem one_plain (B bk : Nat) (fx : CkF) (L : CkL) (s : Ck) (E : Env) (w : World) (h : CkRep B w bk fx L s) (hfit : s.Fit) {b : Blk} {r : List Blk} (ht : s.Top b r) {bp : Nat} {n1 n2 n3 n4 : Value} {g fc f : Nat} {cvs : List Value} {bA b3 : Nat} (he : EnvAt B w bk fx E bp n1 n2 n3 n4 g fc f cvs bA b3) (hE : EnvOk E) (op imm : Int) (hop : 15 ≤ op) (hsg : (sigsP op).2.2 = true) :
    Calls Tryz.prog 88 #[.pointer (some ⟨bk, 0, none⟩), .agg #[.int .i64 op, .int .i64 imm, sv []]] w fun e w' => e = .returned (.int .i64 (s.one E ⟨op, imm, []⟩).2) ∧ ∃ L', CkRep B w' bk fx L' (s.one E ⟨op, imm, []⟩).1 ∧ CkStep w w' bk L L' := by
  have hro : r.length ≤ 900 := by have := hfit.opn; rw [ht.opn] at this; simp at this; omega
  have f1 := hfit.st
  have f2 := hfit.code
  have c5 := h.here.cell 5
  simp at c5
  have hb := h.here.lt
  have hb1 : bk < w.heap.size + 1 := by omega
  have hon : onV bk bA b3 op = none := by
    unfold onV
    rw [if_neg (by omega), if_neg (by omega), if_neg (by omega), if_neg (by omega), if_neg (by omega), if_neg (by omega), if_neg (by omega)]
  have hlk : ∀ n, (Instr.lookup 193 (.map (some fx.on)) (.int .i64 op) true).run Tryz.prog ((w.alloc (.cells #[.int .i64 op, .int .i64 imm, sv []] 67)).drewN n) = .ok (.tuple #[.nilFunc, .bool false]) ((w.alloc (.cells #[.int .i64 op, .int .i64 imm, sv []] 67)).drewN n) := fun n => by
    have := ((he.on.alloc (.cells #[.int .i64 op, .int .i64 imm, sv []] 67)).drewN n).get op
    rw [hon] at this
    exact this
  have hlen := sigsP_len op
  have HS := sigs_any op
  have e0 : s.one E ⟨op, imm, []⟩ = ({ (s.swap (sigsP op).1 (sigsP op).2.1).1 with code := (s.swap (sigsP op).1 (sigsP op).2.1).1.code ++ [{ op := op, imm := imm, keep := 0, cut := 0 }] }, (s.swap (sigsP op).1 (sigsP op).2.1).2) := by
    have hh : s.handle E ⟨op, imm, []⟩ = none := by
      unfold Ck.handle
      simp only
      rw [if_neg (by omega), if_neg (by omega), if_neg (by omega), if_neg (by omega), if_neg (by omega), if_neg (by omega)]
    have hp : s.plainOne E ⟨op, imm, []⟩ = s.swap (sigsP op).1 (sigsP op).2.1 := by
      unfold Ck.plainOne
      rw [hh]
      simp only
      rw [if_pos hsg]
    unfold Ck.one
    rw [hp]
    simp only
    rw [if_neg (by omega), if_neg (by omega), if_neg (by omega), if_neg (by omega), if_neg (by omega)]
  rw [e0]
  generalize sigsP op = sg at *
  obtain ⟨si, so, sb⟩ := sg
  simp only at hlen hsg HS ⊢
  subst hsg
  have HC : Hid (∀ w', CkRep B w' bk fx L s → _) := fun w' h' => swap_any B bk fx L s si so w' h' ht (by omega) (by omega) (by omega) (by omega)
  have HCL : Hid ((s.swap si so).1.code.length ≤ 900) := by show _ ≤ 900; rw [Ck.swap_code]; omega
  have H : Hid (CkRep B w bk fx L s) := h
  have HSG : Hid (∀ w : World, _) := HS
  have b1 : (op == 1) = false := beq_eq_false_iff_ne.2 (by omega)
  have b2 : (op == 2) = false := beq_eq_false_iff_ne.2 (by omega)
  have b3' : (op == 3) = false := beq_eq_false_iff_ne.2 (by omega)
  have b4 : (op == 4) = false := beq_eq_false_iff_ne.2 (by omega)
  have b5 : (op == 5) = false := beq_eq_false_iff_ne.2 (by omega)
  have b6 : (op == 6) = false := beq_eq_false_iff_ne.2 (by omega)
  have b7 : (op == 7) = false := beq_eq_false_iff_ne.2 (by omega)
  have b8 : (op == 8) = false := beq_eq_false_iff_ne.2 (by omega)
  clear e0 h ht he HS hon
  generalize s.swap si so = pp at *
  obtain ⟨s2, er⟩ := pp
  simp only at HC HCL ⊢
  go_enter Tryz.func88, Tryz.ntmps88
  go_wp2
  go_quiet (fail)
  go_wp2_with fail
  refine (HSG.out _).mono ?_
  rintro e w1 ⟨rfl, o, rfl⟩
  obtain ⟨W1, hW1⟩ : ∃ W1, W1 = ((w.alloc (.cells #[.int .i64 op, .int .i64 imm, sv []] 67)).drewN nq).alloc o := ⟨_, rfl⟩
  have R1 : Hid (CkRep B W1 bk fx L s) := by rw [hW1]; exact ((H.out.alloc _).drewN _).alloc _
  have S1 : Hid (CkStep w W1 bk L L) := by rw [hW1]; exact (((CkStep.refl _ _ _).alloc _).drewN _).alloc _
  have K1 : Hid (Has W1 w.heap.size #[.int .i64 op, .int .i64 imm, sv []] 67) := by rw [hW1]; exact ((Has.new _ _ _).drewN _).alloc _
  rw [← hW1]
  clear hW1 H hlk c5 hb hb1
  have i0 := K1.out.cell 0
  have i1 := K1.out.cell 1
  have i2 := K1.out.cell 2
  simp at i0 i1 i2
  have l2 := K1.out.lt
  have l21 : w.heap.size < W1.heap.size + 1 := by omega
  go_wp2_with fail
  refine (HC.out _ (R1.out.alloc _)).mono ?_
  rintro e w2 ⟨sa, sc, rfl, g1, g2⟩
  have R2 : Hid (CkRep B w2 bk fx _ s2) := g1
  have S2 : Hid (CkStep w w2 bk L _) := (S1.out.alloc _).trans g2
  have K2 : Hid (Has w2 w.heap.size #[.int .i64 op, .int .i64 imm, sv []] 67) := g2.has (K1.out.alloc _) (R1.out.typIns K1.out)
  clear g1 g2 R1 S1 K1 HC i0 i1 i2 l2 l21
  have c4 := R2.out.here.cell 4
  have i0 := K2.out.cell 0
  have i1 := K2.out.cell 1
  simp at c4 i0 i1
  have l1 := R2.out.here.lt
  have l2 := K2.out.lt
  have hcl : s2.code.length ≤ 900 := HCL.out
  have hne := owns_ne R2.out.code R2.out.here (by decide)
  have hne1 : (Value.slice _ s2.code.length _).ownBlock ≠ some w.heap.size := owns_ne R2.out.code K2.out (by decide)
  go_wp2
  refine wp_region_app rowFlat 10 (by kernel_rfl) (by kernel_rfl) (fun _ _ _ _ _ h => h) _ _ _ rfl (.tmp 74) (.tmp 69) 75 76 rfl rfl rfl rfl rfl rfl _ _ _ R2.out.code (.agg #[.int .i64 op, .int .i64 imm, .int .i64 0, .int .i64 0]) rfl (by decide) (by simp [Value.cells, Value.oneCell']) (by omega) ?_
  intro gg cap w5 q1 q2 q3 q4
  have K5 : Has w5 w.heap.size _ _ := (K2.out.alloc _).fr q2 hne1
  have hH' : Has w5 bk _ _ := (R2.out.here.alloc _).fr q2 hne
  have d5' := hH'.cell 4
  have e5' := hH'.frozen 4
  have j0 := K5.cell 0
  have j1 := K5.cell 1
  simp at d5' j0 j1
  have l3 := hH'.lt
  have l4 := K5.lt
  obtain ⟨m1, m2, m3, m4, m5⟩ := app_net R2.out.here hne q2 q1 (by decide) q3 q4 4
  have fin := R2.out.putCode (s2.code ++ [{ op := op, imm := imm, keep := 0, cut := 0 }]) (ca2 := some ⟨gg, 0, none⟩) (cc2 := cap) m1 (by simpa using m2) (by rw [flatCells_snoc]; simpa [Flat.cells, Value.cells] using m3) (fun k hk => by simp [Value.ownBlock] at hk; subst hk; exact m4)
  have FIN : Hid (_ ∧ _) := And.intro fin.1 (S2.out.trans fin.2)
  clear m1 m2 m3 m4 m5 fin q1 q2 q3 q4 hne hne1 K5 hH' R2 S2 K2
  simp only [List.take_succ_cons, List.take_zero]
  repeat go_big_quiet_step (fail)
  refine wpQuiet_nil ⟨rfl, rfl, by simp, rfl, ?_⟩
  go_wp2
  go_ret
  exact ⟨rfl, _, FIN.out⟩

/-- the instructions that the ground lets in -/
theorem well_cases (c : Ins) (h : well c = true) :
    (c.op = 8 ∧ 1 ≤ c.tab.length ∧ c.tab.length ≤ 5) ∨ (c.tab = [] ∧
      (((c.op = 1 ∨ c.op = 2 ∨ c.op = 3) ∧ 0 ≤ c.imm ∧ c.imm ≤ 255) ∨ ((c.op = 6 ∨ c.op = 7 ∨ c.op = 10 ∨ c.op = 13 ∨ c.op = 14) ∧ 0 ≤ c.imm) ∨ c.op = 0 ∨ c.op = 4 ∨ c.op = 5 ∨ c.op = 9 ∨ c.op = 11 ∨ c.op = 12 ∨ (15 ≤ c.op ∧ (sigsP c.op).2.2 = true))) := by
  obtain ⟨op, imm, tab⟩ := c
  simp only at *
  unfold well at h
  simp only at h
  by_cases h8 : op = 8
  · rw [if_pos h8] at h
    simp at h
    exact .inl ⟨h8, by omega, by omega⟩
  · rw [if_neg h8] at h
    by_cases ht : tab.isEmpty = true
    · rw [if_neg (by simpa using ht)] at h
      refine .inr ⟨by simpa using ht, ?_⟩
      have hsig : ∀ o : Int, 15 ≤ o → (o ≤ 33 ∨ (40 ≤ o ∧ o < 56) ∨ (60 ≤ o ∧ o < 76)) → (sigsP o).2.2 = true := by
        intro o h1 h2
        unfold sigsP
        repeat' split
        all_goals first | rfl | omega
      by_cases c1 : op = 1 ∨ op = 2 ∨ op = 3
      · rw [if_pos c1] at h
        simp at h
        exact .inl ⟨c1, by omega, by omega⟩
      rw [if_neg c1] at h
      by_cases c2 : op = 6 ∨ op = 7 ∨ op = 10 ∨ op = 13 ∨ op = 14
      · rw [if_pos c2] at h
        simp at h
        exact .inr (.inl ⟨c2, by omega⟩)
      rw [if_neg c2] at h
      have big : 15 ≤ op → (op ≤ 33 ∨ (40 ≤ op ∧ op < 56) ∨ (60 ≤ op ∧ op < 76)) → 15 ≤ op ∧ (sigsP op).2.2 = true := fun h1 h2 => ⟨h1, hsig op h1 h2⟩
      by_cases c3 : op = 17
      · exact .inr (.inr (.inr (.inr (.inr (.inr (.inr (.inr (big (by omega) (by omega)))))))))
      rw [if_neg c3] at h
      by_cases c4 : op = 18
      · exact .inr (.inr (.inr (.inr (.inr (.inr (.inr (.inr (big (by omega) (by omega)))))))))
      rw [if_neg c4] at h
      by_cases c5 : 19 ≤ op ∧ op ≤ 28
      · exact .inr (.inr (.inr (.inr (.inr (.inr (.inr (.inr (big (by omega) (by omega)))))))))
      rw [if_neg c5] at h
      by_cases c6 : imm ≠ 0 ∨ op < 0
      · rw [if_pos c6] at h; cases h
      rw [if_neg c6] at h
      have hrange : op ≤ 33 ∨ (40 ≤ op ∧ op < 56) ∨ (60 ≤ op ∧ op < 76) := by
        by_cases c7 : op ≤ 33
        · exact .inl c7
        rw [if_neg c7] at h
        by_cases c8 : 40 ≤ op ∧ op < 56
        · exact .inr (.inl c8)
        rw [if_neg c8] at h
        simp at h
        exact .inr (.inr h)
      by_cases c9 : 15 ≤ op
      · exact .inr (.inr (.inr (.inr (.inr (.inr (.inr (.inr (big c9 hrange))))))))
      · have : op = 0 ∨ op = 4 ∨ op = 5 ∨ op = 9 ∨ op = 11 ∨ op = 12 := by omega
        rcases this with h | h | h | h | h | h
        · exact .inr (.inr (.inl h))
        · exact .inr (.inr (.inr (.inl h)))
        · exact .inr (.inr (.inr (.inr (.inl h))))
        · exact .inr (.inr (.inr (.inr (.inr (.inl h)))))
        · exact .inr (.inr (.inr (.inr (.inr (.inr (.inl h))))))
        · exact .inr (.inr (.inr (.inr (.inr (.inr (.inr (.inl h)))))))
    · rw [if_pos (by simpa using ht)] at h; cases h

theorem one_any (B bk : Nat) (fx : CkF) (L : CkL) (s : Ck) (E : Env) (w : World) (h : CkRep B w bk fx L s) (hfit : s.Fit) {b : Blk} {r : List Blk} (ht : s.Top b r) {bp : Nat} {n1 n2 n3 n4 : Value} {g fc f : Nat} {cvs : List Value} {bA b3 : Nat} (he : EnvAt B w bk fx E bp n1 n2 n3 n4 g fc f cvs bA b3) (hE : EnvOk E) (c : Ins) (hw : well c = true) (hal : c.op = 4 → ∃ al, b.alt = some al) :
    Calls Tryz.prog 88 #[.pointer (some ⟨bk, 0, none⟩), .agg #[.int .i64 c.op, .int .i64 c.imm, sv c.tab]] w fun e w' => e = .returned (.int .i64 (s.one E c).2) ∧ ∃ L', CkRep B w' bk fx L' (s.one E c).1 ∧ CkStep w w' bk L L' := by
  obtain ⟨op, imm, tab⟩ := c
  simp only at hal ⊢
  have hc := well_cases _ hw
  simp only at hc
  rcases hc with ⟨rfl, h1, h5⟩ | ⟨rfl, hc⟩
  · exact one_8 B bk fx L s E w h hfit ht imm tab h1 (by omega)
  · rcases hc with ⟨rfl | rfl | rfl, hi⟩ | ⟨h1, hi⟩ | rfl | rfl | rfl | rfl | rfl | rfl | ⟨h1, h2⟩
    · exact one_1 B bk fx L s E w h hfit ht imm hi
    · exact one_2 B bk fx L s E w h hfit ht imm hi
    · exact one_3 B bk fx L s E w h hfit ht imm hi
    · obtain ⟨j, rfl⟩ : ∃ j : Nat, imm = j := ⟨imm.toNat, by omega⟩
      rcases h1 with rfl | rfl | rfl | rfl | rfl
      · exact one_6 B bk fx L s E w h hfit ht j
      · exact one_7 B bk fx L s E w h hfit ht j
      · exact one_10 B bk fx L s E w h hfit ht he hE j
      · exact one_13 B bk fx L s E w h hfit ht he hE j
      · exact one_14 B bk fx L s E w h hfit ht he hE j
    · exact one_0 B bk fx L s E w h hfit ht he hE imm
    · obtain ⟨al, hal⟩ := hal rfl
      exact one_4 B bk fx L s E w h hfit ht imm [] hal
    · exact one_5 B bk fx L s E w h hfit ht imm []
    · exact one_9 B bk fx L s E w h hfit ht he hE imm
    · exact one_11 B bk fx L s E w h hfit ht he hE imm
    · exact one_12 B bk fx L s E w h hfit ht he hE imm
    · exact one_plain B bk fx L s E w h hfit ht he hE op imm h1 h2
end Go.Proofs.Qxb6500575aGreatDoor
