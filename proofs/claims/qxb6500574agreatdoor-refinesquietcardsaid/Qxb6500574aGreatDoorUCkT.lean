/-
  THE WALK of vm: checkThread, of a thread at rest.
-/
import Derived.Test.Qxb6500574aGreatDoorUSlp
namespace Go.Proofs.Qxb6500574aGreatDoor
open Go Go.RowKit
set_option linter.unusedVariables false
set_option linter.unusedSimpArgs false
/-- what checkThread reads of the thread -/
structure CtC (w : World) (A : VL) (i : Nat) (t : ThD) (l : ThL) (NC NP NE NT : Nat) : Prop where
  s0 : w.cell? ⟨A.bT, i * 5, none⟩ = some (.int .i64 t.st)
  s1 : w.cell? ⟨A.bT, i * 5 + 1, none⟩ = some (.int .i64 t.fn)
  s2 : w.cell? ⟨A.bT, i * 5 + 2, none⟩ = some (.slice l.s.a t.stack.length l.s.c)
  s3 : w.cell? ⟨A.bT, i * 5 + 3, none⟩ = some (.slice l.f.a t.frames.length l.f.c)
  s4 : w.cell? ⟨A.bT, i * 5 + 4, none⟩ = some (.slice l.p.a t.opn.length l.p.c)
  a2 : w.cell? ⟨A.b, 2, none⟩ = some (.slice A.C.protos.a NP A.C.protos.c)
  a6 : w.cell? ⟨A.b, 6, none⟩ = some (.slice A.C.clos.a NC A.C.clos.c)
  a8 : w.cell? ⟨A.b, 8, none⟩ = some (.slice A.C.cells.a NE A.C.cells.c)
  a9 : w.cell? ⟨A.b, 9, none⟩ = some (.slice (some ⟨A.bT, 0, none⟩) NT 5)
  bl : A.b < w.heap.size
  tl : A.bT < w.heap.size
section
variable {w w1 : World} {A : VL} {m : VMD} {f e i : Nat} {t : ThD} {l : ThL} {K : Cx}
theorem CtC.of (R : VRep w A m f e) (hi : m.ths[i]? = some t) (hx : A.X[i]? = some l) : CtC w A i t l m.clos.length m.protos.length m.cells.length m.ths.length :=
  ⟨R.thCell hi hx (j := 0) (by omega), R.thCell hi hx (j := 1) (by omega), R.thCell hi hx (j := 2) (by omega), R.thCell hi hx (j := 3) (by omega), R.thCell hi hx (j := 4) (by omega), R.cell0 2, R.cell0 6, R.cell0 8, R.cell0 9, R.core.here.has.lt, R.ths.here.has.lt⟩
theorem CtC.fr {NC NP NE NT : Nat} (C : CtC w A i t l NC NP NE NT) (F : Fr (fun _ => False) w w1) : CtC w1 A i t l NC NP NE NT :=
  ⟨F.cell C.s0, F.cell C.s1, F.cell C.s2, F.cell C.s3, F.cell C.s4, F.cell C.a2, F.cell C.a6, F.cell C.a8, F.cell C.a9, Nat.lt_of_lt_of_le C.bl F.size, Nat.lt_of_lt_of_le C.tl F.size⟩
set_option maxRecDepth 100000
set_option maxHeartbeats 1000000
/-- a thread that is fresh or dead -/
theorem checkThread_out (R : VRep w A m f e) (S : Slp K m) (hi : m.ths[i]? = some t) (h0 : i = 0 → t.st = 1 → m.ths.length = 1) (hst : t.st = 1 ∨ t.st = 5) :
    Calls Tryz.prog 148 #[.pointer (some ⟨A.b, 0, none⟩), .int .i64 i, .bool false, .int .i64 0] w fun e' w' => e' = .returned (.bool true) ∧ Fr (fun _ => False) w w' := by
  obtain ⟨Q, HQ⟩ : ∃ Q : Ending → World → Prop, Hid ((fun e' w' => e' = .returned (.bool true) ∧ Fr (fun _ => False) w w') = Q) := ⟨_, rfl⟩
  rw [HQ.out]
  have il := (List.getElem?_eq_some_iff.1 hi).1
  obtain ⟨l, hx⟩ : ∃ l, A.X[i]? = some l := ⟨_, List.getElem?_eq_getElem (by rw [R.lenX]; exact il)⟩
  have C := CtC.of R hi hx
  have T := S.vi.th i t hi
  have hfn : t.fn < m.clos.length := by rw [S.vi.kc]; exact T.fn
  have n24 : m.clos.length ≤ 24 := by have := S.vi.kc; have := S.vi.cn; omega
  have n5 : m.ths.length ≤ 5 := by have := R.len5; omega
  have ef : t.frames = [] := T.al.2 hst
  have es : t.stack = [] := T.em ef
  have eo : t.opn = [] := by
    cases ho : t.opn with
    | nil => rfl
    | cons c r =>
      obtain ⟨ce, _, _, fr, h3, _⟩ := T.op.ok c (by rw [ho]; simp)
      rw [ef] at h3
      cases h3
  obtain ⟨s0, s1, s2, s3, s4, a2, a6, a8, a9, bl, tl⟩ := C
  rw [ef] at s3
  rw [es] at s2
  rw [eo] at s4
  simp only [List.length_nil] at s2 s3 s4
  obtain ⟨ts, HTS⟩ : ∃ x, Hid (t.st = x) := ⟨_, rfl⟩
  obtain ⟨tf, HTF⟩ : ∃ x, Hid (t.fn = x) := ⟨_, rfl⟩
  obtain ⟨NC, HNC⟩ : ∃ x, Hid (m.clos.length = x) := ⟨_, rfl⟩
  obtain ⟨NT, HNT⟩ : ∃ x, Hid (m.ths.length = x) := ⟨_, rfl⟩
  rw [HTS.out] at s0 hst h0
  rw [HTF.out] at s1 hfn
  rw [HNC.out] at a6 hfn n24
  rw [HNT.out] at a9 n5 il h0
  have FIN : Hid (∀ W, Fr (fun _ => False) w W → Q (.returned (.bool true)) W) := fun W hF => by rw [← HQ.out]; exact ⟨rfl, hF⟩
  clear T R S hi hx ef es eo
  have g1 : decide ((tf : Int) < 0) = false := by rw [decide_eq_false_iff_not]; omega
  have g2 : decide (NC ≤ tf) = false := by rw [decide_eq_false_iff_not]; omega
  rcases hst with hst | hst
  · subst hst
    by_cases hi0 : i = 0
    · have g4 : ((i : Int) == 0) = true := by rw [hi0]; rfl
      have hN1 : NT = 1 := h0 hi0 rfl
      subst hN1
      clear hi0 h0
      go_enter Tryz.func148, Tryz.ntmps148
      go_wp2_with fail
      refine wp_region_tail 25 (by kernel_rfl) (by kernel_rfl) (fun _ _ _ _ _ h => h) ?_
      simp only [List.take_succ_cons, List.take_zero, List.drop_succ_cons, List.drop_zero]
      repeat go_big_quiet_step (fail)
      refine wpQuiet_nil ?_
      have HFD : Hid (Fr (fun _ => False) w w.drew) := (Fr.refl _ _).drew
      have s0 := HFD.out.cell s0
      have s2 := HFD.out.cell s2
      have s3 := HFD.out.cell s3
      have s4 := HFD.out.cell s4
      have a9 := HFD.out.cell a9
      have bl := Nat.lt_of_lt_of_le bl HFD.out.size
      have tl := Nat.lt_of_lt_of_le tl HFD.out.size
      generalize w.drew = w1 at HFD s0 s2 s3 s4 a9 bl tl ⊢
      go_wp2_with fail
      have FIN2 : Hid (Q (.returned (.bool true)) w1.drew) := FIN.out _ HFD.out.drew
      refine wp_region_tail 18 (by kernel_rfl) (by kernel_rfl) (fun _ _ _ _ _ h => h) ?_
      simp only [List.take_succ_cons, List.take_zero, List.drop_succ_cons, List.drop_zero]
      repeat go_big_quiet_step (fail)
      refine wpQuiet_nil ?_
      go_wp2_with fail
      exact FIN2.out
    · have g4 : ((i : Int) == 0) = false := by rw [beq_eq_false_iff_ne]; omega
      clear hi0 h0
      go_enter Tryz.func148, Tryz.ntmps148
      go_wp2_with fail
      refine wp_region_tail 25 (by kernel_rfl) (by kernel_rfl) (fun _ _ _ _ _ h => h) ?_
      simp only [List.take_succ_cons, List.take_zero, List.drop_succ_cons, List.drop_zero]
      repeat go_big_quiet_step (fail)
      refine wpQuiet_nil ?_
      have HFD : Hid (Fr (fun _ => False) w w.drew) := (Fr.refl _ _).drew
      have s0 := HFD.out.cell s0
      have s2 := HFD.out.cell s2
      have s3 := HFD.out.cell s3
      have s4 := HFD.out.cell s4
      have a9 := HFD.out.cell a9
      have bl := Nat.lt_of_lt_of_le bl HFD.out.size
      have tl := Nat.lt_of_lt_of_le tl HFD.out.size
      generalize w.drew = w1 at HFD s0 s2 s3 s4 a9 bl tl ⊢
      go_wp2_with fail
      have FIN2 : Hid (Q (.returned (.bool true)) w1.drew) := FIN.out _ HFD.out.drew
      refine wp_region_tail 18 (by kernel_rfl) (by kernel_rfl) (fun _ _ _ _ _ h => h) ?_
      simp only [List.take_succ_cons, List.take_zero, List.drop_succ_cons, List.drop_zero]
      repeat go_big_quiet_step (fail)
      refine wpQuiet_nil ?_
      go_wp2_with fail
      exact FIN2.out
  · subst hst
    by_cases hi0 : i = 0
    · have g4 : ((i : Int) == 0) = true := by rw [hi0]; rfl
      clear hi0 h0
      go_enter Tryz.func148, Tryz.ntmps148
      go_wp2_with fail
      refine wp_region_tail 25 (by kernel_rfl) (by kernel_rfl) (fun _ _ _ _ _ h => h) ?_
      simp only [List.take_succ_cons, List.take_zero, List.drop_succ_cons, List.drop_zero]
      repeat go_big_quiet_step (fail)
      refine wpQuiet_nil ?_
      have HFD : Hid (Fr (fun _ => False) w w.drew) := (Fr.refl _ _).drew
      have s0 := HFD.out.cell s0
      have s2 := HFD.out.cell s2
      have s3 := HFD.out.cell s3
      have s4 := HFD.out.cell s4
      have a9 := HFD.out.cell a9
      have bl := Nat.lt_of_lt_of_le bl HFD.out.size
      have tl := Nat.lt_of_lt_of_le tl HFD.out.size
      generalize w.drew = w1 at HFD s0 s2 s3 s4 a9 bl tl ⊢
      go_wp2_with fail
      have FIN2 : Hid (Q (.returned (.bool true)) w1.drew) := FIN.out _ HFD.out.drew
      refine wp_region_tail 18 (by kernel_rfl) (by kernel_rfl) (fun _ _ _ _ _ h => h) ?_
      simp only [List.take_succ_cons, List.take_zero, List.drop_succ_cons, List.drop_zero]
      repeat go_big_quiet_step (fail)
      refine wpQuiet_nil ?_
      go_wp2_with fail
      exact FIN2.out
    · have g4 : ((i : Int) == 0) = false := by rw [beq_eq_false_iff_ne]; omega
      clear hi0 h0
      go_enter Tryz.func148, Tryz.ntmps148
      go_wp2_with fail
      refine wp_region_tail 25 (by kernel_rfl) (by kernel_rfl) (fun _ _ _ _ _ h => h) ?_
      simp only [List.take_succ_cons, List.take_zero, List.drop_succ_cons, List.drop_zero]
      repeat go_big_quiet_step (fail)
      refine wpQuiet_nil ?_
      have HFD : Hid (Fr (fun _ => False) w w.drew) := (Fr.refl _ _).drew
      have s0 := HFD.out.cell s0
      have s2 := HFD.out.cell s2
      have s3 := HFD.out.cell s3
      have s4 := HFD.out.cell s4
      have a9 := HFD.out.cell a9
      have bl := Nat.lt_of_lt_of_le bl HFD.out.size
      have tl := Nat.lt_of_lt_of_le tl HFD.out.size
      generalize w.drew = w1 at HFD s0 s2 s3 s4 a9 bl tl ⊢
      go_wp2_with fail
      have FIN2 : Hid (Q (.returned (.bool true)) w1.drew) := FIN.out _ HFD.out.drew
      refine wp_region_tail 18 (by kernel_rfl) (by kernel_rfl) (fun _ _ _ _ _ h => h) ?_
      simp only [List.take_succ_cons, List.take_zero, List.drop_succ_cons, List.drop_zero]
      repeat go_big_quiet_step (fail)
      refine wpQuiet_nil ?_
      go_wp2_with fail
      exact FIN2.out
end
end Go.Proofs.Qxb6500574aGreatDoor
