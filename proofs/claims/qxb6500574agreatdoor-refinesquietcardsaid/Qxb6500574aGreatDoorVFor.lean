/-
  THE WALK of vm: forOp.
-/
import Derived.Test.Qxb6500574aGreatDoorVPl0
import Derived.Test.Qxb6500574aGreatDoorVNext
import Derived.Test.Qxb6500574aGreatDoorReg9
namespace Go.Proofs.Qxb6500574aGreatDoor
open Go Go.RowKit
set_option linter.unusedVariables false
set_option linter.unusedSimpArgs false
/-- the four slots of a loop, from place x0 of thread i's stack on -/
structure Fo (w : World) (A : VL) (m : VMD) (f e i : Nat) (t : ThD) (l : ThL) (gs x0 : Nat) (K : Cx) (s0 s1 s2 s3 : Vl) : Prop where
  rep : VRep w A m f e
  hi : m.ths[i]? = some t
  hx : A.X[i]? = some l
  sa : l.s.a = some ⟨gs, 0, none⟩
  a0 : t.stack[x0]? = some s0
  a1 : t.stack[x0 + 1]? = some s1
  a2 : t.stack[x0 + 2]? = some s2
  a3 : t.stack[x0 + 3]? = some s3
  v0 : VOk K s0
  v1 : VOk K s1
  v2 : VOk K s2
  vi : VI K m
  sn : t.stack.length ≤ 1120
theorem Fo.fresh {w w1 : World} {A : VL} {m : VMD} {f e i : Nat} {t : ThD} {l : ThL} {gs x0 : Nat} {K : Cx} {s0 s1 s2 s3 : Vl} (h : Fo w A m f e i t l gs x0 K s0 s1 s2 s3) (hf : Fr (fun _ => False) w w1) : Fo w1 A m f e i t l gs x0 K s0 s1 s2 s3 :=
  ⟨h.rep.fresh hf, h.hi, h.hx, h.sa, h.a0, h.a1, h.a2, h.a3, h.v0, h.v1, h.v2, h.vi, h.sn⟩
theorem Fo.cells {w : World} {A : VL} {m : VMD} {f e i : Nat} {t : ThD} {l : ThL} {gs x0 : Nat} {K : Cx} {s0 s1 s2 s3 : Vl} (h : Fo w A m f e i t l gs x0 K s0 s1 s2 s3) : ∀ (j : Nat) (v : Vl), t.stack[x0 + j]? = some v →
    w.cell? ⟨gs, x0 * 3 + j * 3, none⟩ = some (.int .i64 v.t) ∧ w.cell? ⟨gs, x0 * 3 + j * 3 + 1, none⟩ = some (.int .u64 v.n) ∧ w.cell? ⟨gs, x0 * 3 + j * 3 + 2, none⟩ = some (sv v.s) ∧ gs < w.heap.size ∧ (∀ k, w.frozen? ⟨gs, k, none⟩ = false) := by
  intro j v hj
  obtain ⟨g, g1, g2, g3, g4, g5, g6, g7, g8⟩ := h.rep.val h.hi h.hx hj
  rw [h.sa] at g1
  cases g1
  rw [show (x0 + j) * 3 = x0 * 3 + j * 3 by omega] at g5 g6 g7
  exact ⟨g5, g6, g7, g4, g8⟩
theorem forP_st {m : VMD} {i : Nat} {t : ThD} (hi : m.ths[i]? = some t) {x0 : Nat} {s0 s1 s2 : Vl} (a0 : t.stack[x0]? = some s0) (a1 : t.stack[x0 + 1]? = some s1) (a2 : t.stack[x0 + 2]? = some s2) : (m.th i).stack = t.stack ∧ (m.th i).stack.getD x0 nilV = s0 ∧ (m.th i).stack.getD (x0 + 1) nilV = s1 ∧ (m.th i).stack.getD (x0 + 2) nilV = s2 := by
  rw [th_get hi]
  simp [a0, a1, a2]
section
variable {w : World} {A : VL} {m : VMD} {f e i gs x0 cap : Nat} {t : ThD} {l : ThL} {K : Cx} {s0 s1 s2 s3 : Vl}
set_option maxRecDepth 100000
set_option maxHeartbeats 400000
theorem for_30 (h : Fo w A m f e i t l gs x0 K s0 s1 s2 s3) (hc : 4 ≤ cap) : Calls Tryz.prog 300 #[.pointer (some ⟨A.b, 0, none⟩), .pointer (some ⟨A.bT, i * 5, none⟩), .slice (some ⟨gs, x0 * 3, none⟩) 4 cap, .int .u8 30] w (PlPost (forP m i 30 x0) w A f e i) := by
  have hop : forP m i 30 x0 = (if s0.t ≠ 2 ∨ s1.t ≠ 2 ∨ s2.t ≠ 2 then thrR mFor m else if cmpN 1 s2.n 0 || cmpN 2 s2.n s2.n then thrR mFor m else (.inr (), m)) := by
    obtain ⟨e1, e2, e3, e4⟩ := forP_st h.hi h.a0 h.a1 h.a2
    unfold forP
    simp only [e2, e3, e4]
    simp (config := { decide := true }) only [if_true, if_false]
  obtain ⟨Q, HQ⟩ : ∃ Q : Ending → World → Prop, Hid (PlPost (forP m i 30 x0) w A f e i = Q) := ⟨_, rfl⟩
  rw [HQ.out]
  have HOP : Hid (forP m i 30 x0 = _) := hop
  clear hop
  have HB : Hid (Fo w A m f e i t l gs x0 K s0 s1 s2 s3) := h
  obtain ⟨c00, c01, c02, gl, gf⟩ := h.cells 0 s0 h.a0
  obtain ⟨c10, c11, c12, _, _⟩ := h.cells 1 s1 h.a1
  obtain ⟨c20, c21, c22, _, _⟩ := h.cells 2 s2 h.a2
  obtain ⟨c30, c31, c32, _, _⟩ := h.cells 3 s3 h.a3
  simp only [Nat.zero_mul, Nat.add_zero, Nat.one_mul] at c00 c01 c02 c10 c11 c12
  have hx0 : x0 ≤ 1120 := by have := (List.getElem?_eq_some_iff.1 h.a0).1; have := h.sn; omega
  have n0 := h.rep.cell0 0
  have n1 := h.rep.cell0 1
  simp only [vmCells, List.getElem?_toArray, List.getElem?_cons_succ, List.getElem?_cons_zero] at n0 n1
  have hbl := h.rep.bl
  obtain ⟨t0, u0, z0⟩ := s0
  obtain ⟨t1, u1, z1⟩ := s1
  obtain ⟨t2, u2, z2⟩ := s2
  obtain ⟨t3, u3, z3⟩ := s3
  dsimp only at c00 c01 c02 c10 c11 c12 c20 c21 c22 c30 c31 c32 HOP
  clear h
  by_cases h0 : t0 = 2
  · subst h0
    by_cases h1 : t1 = 2
    · subst h1
      by_cases h2 : t2 = 2
      · subst h2
        rw [if_neg (by simp)] at HOP
        go_enter Tryz.func300, Tryz.ntmps300
        go_wp2_with fail
        refine wp_region_tail 8 (by kernel_rfl) (by kernel_rfl) (fun _ _ _ _ _ h => h) ?_
        simp only [List.take_succ_cons, List.take_zero, List.drop_succ_cons, List.drop_zero, List.eraseIdx_cons_succ, List.eraseIdx_cons_zero]
        repeat go_big_quiet_step (fail)
        refine wpQuiet_nil ?_
        go_wp2_with fail
        refine (cmp_any (.pointer (some ⟨A.bn, 0, none⟩)) 1 u2 0).mono ?_
        rintro e' w1 ⟨rfl, rfl⟩
        go_wp2_with fail
        refine wp_region_tail 12 (by kernel_rfl) (by kernel_rfl) (fun _ _ _ _ _ h => h) ?_
        simp only [List.take_succ_cons, List.take_zero, List.drop_succ_cons, List.drop_zero, List.eraseIdx_cons_succ, List.eraseIdx_cons_zero]
        repeat go_big_quiet_step (fail)
        refine wpQuiet_nil ?_
        go_wp2_with fail
        refine (cmp_any (.pointer (some ⟨A.bn, 0, none⟩)) 2 u2 u2).mono ?_
        rintro e' w1 ⟨rfl, rfl⟩
        generalize cmpN 1 u2 0 = ba at HOP ⊢
        generalize cmpN 2 u2 u2 = bb at HOP ⊢
        cases ba with
        | true =>
          rw [Bool.true_or, if_pos rfl] at HOP
          go_wp2_with fail
          refine (raise_any mFor).mono ?_
          rintro e' w3 ⟨⟨b, rfl, hb, hbl⟩, f3⟩
          have FIN : Hid (Q (.panicked (thrE b)) w3) := by
            rw [← HQ.out, HOP.out]
            exact ⟨⟨b, rfl, hb, hbl⟩, A, HB.out.rep.fresh (((((Fr.refl _ _).drew).drew)).trans f3 (fun _ _ x => x)), VSt.fresh (((((Fr.refl _ _).drew).drew)).trans f3 (fun _ _ x => x))⟩
          exact ⟨rfl, FIN.out⟩
        | false =>
          cases bb with
          | true =>
            rw [Bool.or_true, if_pos rfl] at HOP
            go_wp2_with fail
            refine (raise_any mFor).mono ?_
            rintro e' w3 ⟨⟨b, rfl, hb, hbl⟩, f3⟩
            have FIN : Hid (Q (.panicked (thrE b)) w3) := by
              rw [← HQ.out, HOP.out]
              exact ⟨⟨b, rfl, hb, hbl⟩, A, HB.out.rep.fresh (((((Fr.refl _ _).drew).drew)).trans f3 (fun _ _ x => x)), VSt.fresh (((((Fr.refl _ _).drew).drew)).trans f3 (fun _ _ x => x))⟩
            exact ⟨rfl, FIN.out⟩
          | false =>
            rw [Bool.or_false, if_neg (by simp)] at HOP
            have FIN : Hid (Q (.returned (.tuple #[])) w.drew.drew) := by
              rw [← HQ.out, HOP.out]
              exact ⟨rfl, A, HB.out.rep.fresh (((Fr.refl _ _).drew).drew), VSt.fresh (((Fr.refl _ _).drew).drew), FK.refl _ _⟩
            go_wp2_with fail
            go_end0
            exact FIN.out
      · have HOP2 : Hid (forP m i 30 x0 = thrR mFor m) := by
          rw [HOP.out]
          exact if_pos (.inr (.inr h2))
        clear HOP
        have HOP := HOP2
        clear HOP2
        go_enter Tryz.func300, Tryz.ntmps300
        go_wp2_with fail
        refine (raise_any mFor).mono ?_
        rintro e' w3 ⟨⟨b, rfl, hb, hbl⟩, f3⟩
        have FIN : Hid (Q (.panicked (thrE b)) w3) := by
          rw [← HQ.out, HOP.out]
          exact ⟨⟨b, rfl, hb, hbl⟩, A, HB.out.rep.fresh ((Fr.refl _ _).trans f3 (fun _ _ x => x)), VSt.fresh ((Fr.refl _ _).trans f3 (fun _ _ x => x))⟩
        exact ⟨rfl, FIN.out⟩
    · have HOP2 : Hid (forP m i 30 x0 = thrR mFor m) := by
        rw [HOP.out]
        exact if_pos (.inr (.inl h1))
      clear HOP
      have HOP := HOP2
      clear HOP2
      go_enter Tryz.func300, Tryz.ntmps300
      go_wp2_with fail
      refine (raise_any mFor).mono ?_
      rintro e' w3 ⟨⟨b, rfl, hb, hbl⟩, f3⟩
      have FIN : Hid (Q (.panicked (thrE b)) w3) := by
        rw [← HQ.out, HOP.out]
        exact ⟨⟨b, rfl, hb, hbl⟩, A, HB.out.rep.fresh ((Fr.refl _ _).trans f3 (fun _ _ x => x)), VSt.fresh ((Fr.refl _ _).trans f3 (fun _ _ x => x))⟩
      exact ⟨rfl, FIN.out⟩
  · have HOP2 : Hid (forP m i 30 x0 = thrR mFor m) := by
      rw [HOP.out]
      exact if_pos (.inl h0)
    clear HOP
    have HOP := HOP2
    clear HOP2
    go_enter Tryz.func300, Tryz.ntmps300
    go_wp2_with fail
    refine (raise_any mFor).mono ?_
    rintro e' w3 ⟨⟨b, rfl, hb, hbl⟩, f3⟩
    have FIN : Hid (Q (.panicked (thrE b)) w3) := by
      rw [← HQ.out, HOP.out]
      exact ⟨⟨b, rfl, hb, hbl⟩, A, HB.out.rep.fresh ((Fr.refl _ _).trans f3 (fun _ _ x => x)), VSt.fresh ((Fr.refl _ _).trans f3 (fun _ _ x => x))⟩
    exact ⟨rfl, FIN.out⟩
theorem for_31 (h : Fo w A m f e i t l gs x0 K s0 s1 s2 s3) (hc : 4 ≤ cap) : Calls Tryz.prog 300 #[.pointer (some ⟨A.b, 0, none⟩), .pointer (some ⟨A.bT, i * 5, none⟩), .slice (some ⟨gs, x0 * 3, none⟩) 4 cap, .int .u8 31] w (PlPost (forP m i 31 x0) w A f e i) := by
  have hop : forP m i 31 x0 = (.inr (), m.setTh i { t with stack := t.stack ++ [boolV (cmpN (if cmpN 5 s2.n 0 then 4 else 6) s0.n s1.n)] }) := by
    obtain ⟨e1, e2, e3, e4⟩ := forP_st h.hi h.a0 h.a1 h.a2
    unfold forP
    simp only [e2, e3, e4]
    simp (config := { decide := true }) only [if_true, if_false]
    rw [push_is h.hi]
  obtain ⟨Q, HQ⟩ : ∃ Q : Ending → World → Prop, Hid (PlPost (forP m i 31 x0) w A f e i = Q) := ⟨_, rfl⟩
  rw [HQ.out]
  have HOP : Hid (forP m i 31 x0 = _) := hop
  clear hop
  have HB : Hid (Fo w A m f e i t l gs x0 K s0 s1 s2 s3) := h
  obtain ⟨c00, c01, c02, gl, gf⟩ := h.cells 0 s0 h.a0
  obtain ⟨c10, c11, c12, _, _⟩ := h.cells 1 s1 h.a1
  obtain ⟨c20, c21, c22, _, _⟩ := h.cells 2 s2 h.a2
  obtain ⟨c30, c31, c32, _, _⟩ := h.cells 3 s3 h.a3
  simp only [Nat.zero_mul, Nat.add_zero, Nat.one_mul] at c00 c01 c02 c10 c11 c12
  have hx0 : x0 ≤ 1120 := by have := (List.getElem?_eq_some_iff.1 h.a0).1; have := h.sn; omega
  have n0 := h.rep.cell0 0
  have n1 := h.rep.cell0 1
  simp only [vmCells, List.getElem?_toArray, List.getElem?_cons_succ, List.getElem?_cons_zero] at n0 n1
  have hbl := h.rep.bl
  obtain ⟨t0, u0, z0⟩ := s0
  obtain ⟨t1, u1, z1⟩ := s1
  obtain ⟨t2, u2, z2⟩ := s2
  obtain ⟨t3, u3, z3⟩ := s3
  dsimp only at c00 c01 c02 c10 c11 c12 c20 c21 c22 c30 c31 c32 HOP
  clear h
  go_enter Tryz.func300, Tryz.ntmps300
  go_wp2_with fail
  refine wp_region_tail 8 (by kernel_rfl) (by kernel_rfl) (fun _ _ _ _ _ h => h) ?_
  simp only [List.take_succ_cons, List.take_zero, List.drop_succ_cons, List.drop_zero, List.eraseIdx_cons_succ, List.eraseIdx_cons_zero]
  repeat go_big_quiet_step (fail)
  refine wpQuiet_nil ?_
  go_wp2_with fail
  refine (cmp_any (.pointer (some ⟨A.bn, 0, none⟩)) 5 u2 0).mono ?_
  rintro e' w1 ⟨rfl, rfl⟩
  generalize cmpN 5 u2 0 = ba at HOP ⊢
  cases ba with
  | true =>
    simp only [if_true, if_false, Bool.false_eq_true] at HOP
    go_wp2_with fail
    refine wp_region_tail 13 (by kernel_rfl) (by kernel_rfl) (fun _ _ _ _ _ h => h) ?_
    simp only [List.take_succ_cons, List.take_zero, List.drop_succ_cons, List.drop_zero, List.eraseIdx_cons_succ, List.eraseIdx_cons_zero]
    repeat go_big_quiet_step (fail)
    refine wpQuiet_nil ?_
    go_wp2_with fail
    refine (cmp_any (.pointer (some ⟨A.bn, 0, none⟩)) 4 u0 u1).mono ?_
    rintro e' w1 ⟨rfl, rfl⟩
    generalize cmpN 4 u0 u1 = bb at HOP ⊢
    clear c00 c01 c02 c10 c11 c12 c20 c21 c22 c30 c31 c32 n0 n1
    go_wp2_with fail
    refine (bool_any bb).mono ?_
    rintro e' w2 ⟨rfl, f2⟩
    have F2 : Fr (fun _ => False) w w2 := (((Fr.refl _ _).drew).drew).trans f2 (fun _ _ x => x)
    have HF2 : Hid (Fr (fun _ => False) w w2) := F2
    clear f2 F2
    obtain ⟨bv, HBV⟩ : ∃ bv, Hid (boolV bb = bv) := ⟨_, rfl⟩
    rw [HBV.out] at HOP ⊢
    clear HBV
    obtain ⟨bt, bn, bs⟩ := bv
    go_wp2_with fail
    have PU := vpush_fk (c := 1) (HB.out.rep.fresh ((HF2.out.alloc (.cells #[.int .i64 bt, .int .u64 bn, sv bs] 68)).alloc (.cells #[.int .i64 bt, .int .u64 bn, sv bs] 68))) HB.out.hi [⟨bt, bn, bs⟩] (by simp) (by have := HB.out.sn; simp; omega) (B := w2.heap.size + 1) (Has.newC _ _ _ (by simp))
    refine PU.mono ?_
    clear PU
    rintro e' wz ⟨rfl, A', z1, z2, z3⟩
    have FIN : Hid (Q (.returned (.tuple #[])) wz) := by
      rw [← HQ.out, HOP.out]
      exact ⟨rfl, A', z1, (VSt.fresh ((HF2.out.alloc _).alloc _)).trans (z2.weaken (fun k hk => by unfold isVM; unfold isT at hk; omega)), z3⟩
    clear z1 z2 z3
    go_wp2_with fail
    go_end0
    exact FIN.out
  | false =>
    simp only [if_true, if_false, Bool.false_eq_true] at HOP
    go_wp2_with fail
    refine wp_region_tail 13 (by kernel_rfl) (by kernel_rfl) (fun _ _ _ _ _ h => h) ?_
    simp only [List.take_succ_cons, List.take_zero, List.drop_succ_cons, List.drop_zero, List.eraseIdx_cons_succ, List.eraseIdx_cons_zero]
    repeat go_big_quiet_step (fail)
    refine wpQuiet_nil ?_
    go_wp2_with fail
    refine (cmp_any (.pointer (some ⟨A.bn, 0, none⟩)) 6 u0 u1).mono ?_
    rintro e' w1 ⟨rfl, rfl⟩
    generalize cmpN 6 u0 u1 = bb at HOP ⊢
    clear c00 c01 c02 c10 c11 c12 c20 c21 c22 c30 c31 c32 n0 n1
    go_wp2_with fail
    refine (bool_any bb).mono ?_
    rintro e' w2 ⟨rfl, f2⟩
    have F2 : Fr (fun _ => False) w w2 := (((Fr.refl _ _).drew).drew).trans f2 (fun _ _ x => x)
    have HF2 : Hid (Fr (fun _ => False) w w2) := F2
    clear f2 F2
    obtain ⟨bv, HBV⟩ : ∃ bv, Hid (boolV bb = bv) := ⟨_, rfl⟩
    rw [HBV.out] at HOP ⊢
    clear HBV
    obtain ⟨bt, bn, bs⟩ := bv
    go_wp2_with fail
    have PU := vpush_fk (c := 1) (HB.out.rep.fresh ((HF2.out.alloc (.cells #[.int .i64 bt, .int .u64 bn, sv bs] 68)).alloc (.cells #[.int .i64 bt, .int .u64 bn, sv bs] 68))) HB.out.hi [⟨bt, bn, bs⟩] (by simp) (by have := HB.out.sn; simp; omega) (B := w2.heap.size + 1) (Has.newC _ _ _ (by simp))
    refine PU.mono ?_
    clear PU
    rintro e' wz ⟨rfl, A', z1, z2, z3⟩
    have FIN : Hid (Q (.returned (.tuple #[])) wz) := by
      rw [← HQ.out, HOP.out]
      exact ⟨rfl, A', z1, (VSt.fresh ((HF2.out.alloc _).alloc _)).trans (z2.weaken (fun k hk => by unfold isVM; unfold isT at hk; omega)), z3⟩
    clear z1 z2 z3
    go_wp2_with fail
    go_end0
    exact FIN.out
end
end Go.Proofs.Qxb6500574aGreatDoor
