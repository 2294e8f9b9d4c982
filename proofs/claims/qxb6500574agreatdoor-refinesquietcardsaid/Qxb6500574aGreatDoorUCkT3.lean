/-
  THE WALK of vm: checkThread, of a thread that is yielded or normal.
-/
import Derived.Test.Qxb6500574aGreatDoorUCkR
namespace Go.Proofs.Qxb6500574aGreatDoor
open Go Go.RowKit
set_option linter.unusedVariables false
set_option linter.unusedSimpArgs false
section
variable {w : World} {A : VL} {m : VMD} {f e i : Nat} {t : ThD} {l : ThL} {K : Cx}
set_option maxRecDepth 100000
set_option maxHeartbeats 1000000
theorem checkThread_in (R : VRep w A m f e) (S : Slp K m) (hi : m.ths[i]? = some t) (h0 : i = 0 → t.st ≠ 2) (hst : t.st = 2 ∨ t.st = 3) :
    Calls Tryz.prog 148 #[.pointer (some ⟨A.b, 0, none⟩), .int .i64 i, .bool false, .int .i64 0] w fun e' w' => e' = .returned (.bool true) ∧ Fr (fun _ => False) w w' := by
  obtain ⟨Q, HQ⟩ : ∃ Q : Ending → World → Prop, Hid ((fun e' w' => e' = .returned (.bool true) ∧ Fr (fun _ => False) w w') = Q) := ⟨_, rfl⟩
  rw [HQ.out]
  have il := (List.getElem?_eq_some_iff.1 hi).1
  obtain ⟨l, hx⟩ : ∃ l, A.X[i]? = some l := ⟨_, List.getElem?_eq_getElem (by rw [R.lenX]; exact il)⟩
  have C := CtC.of R hi hx
  have T := S.vi.th i t hi
  have hfn : t.fn < m.clos.length := by rw [S.vi.kc]; exact T.fn
  have n24 : m.clos.length ≤ 24 := by have := S.vi.kc; have := S.vi.cn; omega
  have n5 : m.ths.length ≤ 5 := by have := R.len5; omega
  have n8 := T.fr.len
  have n1 : 1 ≤ t.frames.length := by
    rcases Nat.eq_zero_or_pos t.frames.length with h | h
    · have := T.al.1 (List.length_eq_zero_iff.1 h); omega
    · exact h
  have nl := S.stk hi
  obtain ⟨gf, hgf⟩ : ∃ g, l.f.a = some ⟨g, 0, none⟩ := by
    obtain ⟨g, a1, _⟩ := (R.one hi hx).f.at fCells_len (List.getElem?_eq_getElem (show 0 < t.frames.length by omega))
    exact ⟨g, a1⟩
  have HC : Hid (CtC w A i t l m.clos.length m.protos.length m.cells.length m.ths.length) := C
  have HR : Hid (VRep w A m f e) := R
  have HS : Hid (Slp K m) := S
  have HI : Hid (m.ths[i]? = some t) := hi
  have HX : Hid (A.X[i]? = some l) := hx
  have HT : Hid (ThOk K m.cells i t) := T
  obtain ⟨s0, s1, s2, s3, s4, a2, a6, a8, a9, bl, tl⟩ := C
  rw [hgf] at s3
  obtain ⟨ts, HTS⟩ : ∃ x, Hid (t.st = x) := ⟨_, rfl⟩
  obtain ⟨tf, HTF⟩ : ∃ x, Hid (t.fn = x) := ⟨_, rfl⟩
  obtain ⟨NC, HNC⟩ : ∃ x, Hid (m.clos.length = x) := ⟨_, rfl⟩
  obtain ⟨NT, HNT⟩ : ∃ x, Hid (m.ths.length = x) := ⟨_, rfl⟩
  obtain ⟨NF, HNF⟩ : ∃ x, Hid (t.frames.length = x) := ⟨_, rfl⟩
  obtain ⟨NS, HNS⟩ : ∃ x, Hid (t.stack.length = x) := ⟨_, rfl⟩
  obtain ⟨NO, HNO⟩ : ∃ x, Hid (t.opn.length = x) := ⟨_, rfl⟩
  rw [HTS.out] at s0 hst h0
  rw [HTF.out] at s1 hfn
  rw [HNC.out] at a6 hfn n24
  rw [HNT.out] at a9 n5 il
  rw [HNF.out] at s3 n8 n1
  rw [HNS.out] at s2 nl
  rw [HNO.out] at s4
  have FIN : Hid (∀ W, Fr (fun _ => False) w W → Q (.returned (.bool true)) W) := fun W hF => by rw [← HQ.out]; exact ⟨rfl, hF⟩
  clear T R S hi hx
  have g1 : decide ((tf : Int) < 0) = false := by rw [decide_eq_false_iff_not]; omega
  have g2 : decide (NC ≤ tf) = false := by rw [decide_eq_false_iff_not]; omega
  have g3 : (((ts : Nat) : Int) == 4) = false := by rw [beq_eq_false_iff_ne]; omega
  have g4 : (((ts : Nat) : Int) == 1) = false := by rw [beq_eq_false_iff_ne]; omega
  have g5 : (((ts : Nat) : Int) == 5) = false := by rw [beq_eq_false_iff_ne]; omega
  have g6 : decide (NF < 1) = false := by rw [decide_eq_false_iff_not]; omega
  have g7 : decide (8 < NF) = false := by rw [decide_eq_false_iff_not]; omega
  have HG0 : Hid (i = 0 → ts ≠ 2) := h0
  clear h0
  go_enter Tryz.func148, Tryz.ntmps148
  go_wp2_with fail
  refine wp_region_tail 25 (by kernel_rfl) (by kernel_rfl) (fun _ _ _ _ _ h => h) ?_
  simp only [List.take_succ_cons, List.take_zero, List.drop_succ_cons, List.drop_zero]
  repeat go_big_quiet_step (fail)
  refine wpQuiet_nil ?_
  have HFD : Hid (Fr (fun _ => False) w w.drew) := (Fr.refl _ _).drew
  have s0 := HFD.out.cell s0
  have s2 := HFD.out.cell s2
  have s3 := HFD.out.cell s3
  have s4 := HFD.out.cell s4
  have a9 := HFD.out.cell a9
  have bl := Nat.lt_of_lt_of_le bl HFD.out.size
  have tl := Nat.lt_of_lt_of_le tl HFD.out.size
  generalize w.drew = w1 at HFD s0 s2 s3 s4 a9 bl tl ⊢
  obtain ⟨zi, HZ⟩ : ∃ z : Bool, ((i : Int) == 0) = z := ⟨_, rfl⟩
  rcases hst with hst | hst
  · have hz : zi = false := by
      rw [← HZ, beq_eq_false_iff_ne]
      intro e
      exact HG0.out (by omega) hst
    subst hz
    subst hst
    go_wp2_with fail
    refine wp_loop_ghost (fun n a' w' => ∃ j o, n = NF - j ∧ j ≤ NF ∧ FrO A.b A.bT i NF j o a' ∧ OI K m t j o ∧ Fr (fun _ => False) w w') NF ⟨0, 0, rfl, Nat.zero_le _, ⟨by kernel_rfl, rfl, by kernel_rfl, by kernel_rfl, by kernel_rfl, by kernel_rfl, by kernel_rfl, by kernel_rfl, by kernel_rfl, by kernel_rfl⟩, OI.start, HFD.out⟩ ?_
    rintro n a w2 ⟨j, o, rfl, hj, ha, hOI, hF⟩
    rcases Nat.eq_or_lt_of_le hj with he | hlt
    · have heo := hOI.end HT.out (he.trans HNF.out.symm)
      subst he
      rw [HNO.out] at heo
      subst heo
      have s4 := hF.cell HC.out.s4
      rw [HNO.out] at s4
      have tl := Nat.lt_of_lt_of_le HC.out.tl hF.size
      obtain ⟨u, rfl⟩ := ha.form
      have FIN2 : Hid (Q (.returned (.bool true)) w2) := FIN.out _ hF
      clear ha hF hOI
      go_wp2_with fail
      exact FIN2.out
    · refine ct_round HR.out HS.out HI.out HX.out hF hgf HNF.out hlt hOI ha (fun _ _ _ _ _ h => h) ?_
      intro a' o' w' hA hO hF'
      exact ⟨NF - (j + 1), by omega, j + 1, o', rfl, hlt, hA, hO, hF'⟩
  · subst hst
    cases zi
    · go_wp2_with fail
      refine wp_loop_ghost (fun n a' w' => ∃ j o, n = NF - j ∧ j ≤ NF ∧ FrO A.b A.bT i NF j o a' ∧ OI K m t j o ∧ Fr (fun _ => False) w w') NF ⟨0, 0, rfl, Nat.zero_le _, ⟨by kernel_rfl, rfl, by kernel_rfl, by kernel_rfl, by kernel_rfl, by kernel_rfl, by kernel_rfl, by kernel_rfl, by kernel_rfl, by kernel_rfl⟩, OI.start, HFD.out⟩ ?_
      rintro n a w2 ⟨j, o, rfl, hj, ha, hOI, hF⟩
      rcases Nat.eq_or_lt_of_le hj with he | hlt
      · have heo := hOI.end HT.out (he.trans HNF.out.symm)
        subst he
        rw [HNO.out] at heo
        subst heo
        have s4 := hF.cell HC.out.s4
        rw [HNO.out] at s4
        have tl := Nat.lt_of_lt_of_le HC.out.tl hF.size
        obtain ⟨u, rfl⟩ := ha.form
        have FIN2 : Hid (Q (.returned (.bool true)) w2) := FIN.out _ hF
        clear ha hF hOI
        go_wp2_with fail
        exact FIN2.out
      · refine ct_round HR.out HS.out HI.out HX.out hF hgf HNF.out hlt hOI ha (fun _ _ _ _ _ h => h) ?_
        intro a' o' w' hA hO hF'
        exact ⟨NF - (j + 1), by omega, j + 1, o', rfl, hlt, hA, hO, hF'⟩
    · go_wp2_with fail
      refine wp_loop_ghost (fun n a' w' => ∃ j o, n = NF - j ∧ j ≤ NF ∧ FrO A.b A.bT i NF j o a' ∧ OI K m t j o ∧ Fr (fun _ => False) w w') NF ⟨0, 0, rfl, Nat.zero_le _, ⟨by kernel_rfl, rfl, by kernel_rfl, by kernel_rfl, by kernel_rfl, by kernel_rfl, by kernel_rfl, by kernel_rfl, by kernel_rfl, by kernel_rfl⟩, OI.start, HFD.out⟩ ?_
      rintro n a w2 ⟨j, o, rfl, hj, ha, hOI, hF⟩
      rcases Nat.eq_or_lt_of_le hj with he | hlt
      · have heo := hOI.end HT.out (he.trans HNF.out.symm)
        subst he
        rw [HNO.out] at heo
        subst heo
        have s4 := hF.cell HC.out.s4
        rw [HNO.out] at s4
        have tl := Nat.lt_of_lt_of_le HC.out.tl hF.size
        obtain ⟨u, rfl⟩ := ha.form
        have FIN2 : Hid (Q (.returned (.bool true)) w2) := FIN.out _ hF
        clear ha hF hOI
        go_wp2_with fail
        exact FIN2.out
      · refine ct_round HR.out HS.out HI.out HX.out hF hgf HNF.out hlt hOI ha (fun _ _ _ _ _ h => h) ?_
        intro a' o' w' hA hO hF'
        exact ⟨NF - (j + 1), by omega, j + 1, o', rfl, hlt, hA, hO, hF'⟩
/-- a thread at rest -/
theorem checkThread_any (R : VRep w A m f e) (S : Slp K m) (T0 : Th0 m) (hi : m.ths[i]? = some t) :
    Calls Tryz.prog 148 #[.pointer (some ⟨A.b, 0, none⟩), .int .i64 i, .bool false, .int .i64 0] w fun e' w' => e' = .returned (.bool true) ∧ Fr (fun _ => False) w w' := by
  have h5 := (S.vi.th i t hi).st
  have h4 := (S.sl i t hi).1
  have h0 : i = 0 → t.st ≠ 2 ∧ (t.st = 1 → m.ths.length = 1) := fun e => by subst e; exact T0 t hi
  by_cases h : t.st = 1 ∨ t.st = 5
  · exact checkThread_out R S hi (fun e1 e2 => (h0 e1).2 e2) h
  · exact checkThread_in R S hi (fun e1 => (h0 e1).1) (by omega)
end
end Go.Proofs.Qxb6500574aGreatDoor
