/-
  THE WALK of vm: the builtins that answer at once: type, tostring, error, status, create, tonumber of a number.
-/
import Derived.Test.Qxb6500574aGreatDoorVText
import Derived.Test.Qxb6500574aGreatDoorVSpawn
import Derived.Test.Qxb6500574aGreatDoorVPsh
import Derived.Test.Qxb6500574aGreatDoorVInv6
import Derived.Test.Qxb6500574aGreatDoorVCmp
import Derived.Test.Qxb6500574aGreatDoorRegC
namespace Go.Proofs.Qxb6500574aGreatDoor
open Go Go.RowKit
set_option linter.unusedVariables false
set_option linter.unusedSimpArgs false
/-- what a builtin comes to -/
def BuPost (r : RR (Vl × Vl)) (w : World) (A : VL) (f e : Nat) (e' : Ending) (w' : World) : Prop :=
  match r with
  | (.inr p, m') => e' = .returned (.tuple #[p.1.val, p.2.val]) ∧ ∃ A', VRep w' A' m' f e ∧ VSt isVM w A w' A'
  | (.inl (.inl v), m') => Thrown v w e' w' ∧ ∃ A', VRep w' A' m' f e ∧ VSt isVM w A w' A'
  | (.inl (.inr k), m') => e' = .panicked (trapE k) ∧ ∃ A', VRep w' A' m' f e ∧ VSt isVM w A w' A'
/-- the arguments' array -/
structure Ar (w : World) (B d : Nat) (a0 a1 : Vl) : Prop where
  c0 : w.cell? ⟨B, d, none⟩ = some (.int .i64 a0.t)
  c1 : w.cell? ⟨B, d + 1, none⟩ = some (.int .u64 a0.n)
  c2 : w.cell? ⟨B, d + 2, none⟩ = some (sv a0.s)
  c3 : w.cell? ⟨B, d + 3, none⟩ = some (.int .i64 a1.t)
  c4 : w.cell? ⟨B, d + 3 + 1, none⟩ = some (.int .u64 a1.n)
  c5 : w.cell? ⟨B, d + 3 + 2, none⟩ = some (sv a1.s)
  lt : B < w.heap.size
theorem Ar.fresh {w w1 : World} {B d : Nat} {a0 a1 : Vl} (h : Ar w B d a0 a1) (hf : Fr (fun _ => False) w w1) : Ar w1 B d a0 a1 :=
  ⟨hf.cell h.c0, hf.cell h.c1, hf.cell h.c2, hf.cell h.c3, hf.cell h.c4, hf.cell h.c5, Nat.lt_of_lt_of_le h.lt hf.size⟩
/-- two results in their cells -/
structure R2 (w : World) (r : Nat) (a b : Vl) : Prop where
  h4 : Has w r #[.int .i64 a.t, .int .u64 a.n, sv a.s] 68
  h5 : Has w (r + 1) #[.int .i64 b.t, .int .u64 b.n, sv b.s] 68
abbrev set6 (W : World) (r : Nat) (k' v' : Vl) : World := (((((W.setCell ⟨r, 0, none⟩ (.int .i64 k'.t)).setCell ⟨r, 1, none⟩ (.int .u64 k'.n)).setCell ⟨r, 2, none⟩ (sv k'.s)).setCell ⟨r + 1, 0, none⟩ (.int .i64 v'.t)).setCell ⟨r + 1, 1, none⟩ (.int .u64 v'.n)).setCell ⟨r + 1, 2, none⟩ (sv v'.s)
theorem R2.set {W : World} {r : Nat} {k v : Vl} (h : R2 W r k v) (k' v' : Vl) : R2 (set6 W r k' v') r k' v' := by
  have a6 := h.h4.put3 (.int .i64 k'.t) (.int .u64 k'.n) (sv k'.s)
  have a7 := ((h.h5.other (p := ⟨r, 0, none⟩) (by simp) (.int .i64 k'.t)).other (p := ⟨r, 1, none⟩) (by simp) (.int .u64 k'.n)).other (p := ⟨r, 2, none⟩) (by simp) (sv k'.s)
  exact ⟨((a6.other (p := ⟨r + 1, 0, none⟩) (by simp) (.int .i64 v'.t)).other (p := ⟨r + 1, 1, none⟩) (by simp) (.int .u64 v'.n)).other (p := ⟨r + 1, 2, none⟩) (by simp) (sv v'.s), a7.put3 (.int .i64 v'.t) (.int .u64 v'.n) (sv v'.s)⟩
theorem VSt.set6 {Q : Nat → Prop} {w w1 : World} {A A1 : VL} (S : VSt Q w A w1 A1) {r : Nat} (hr : w.heap.size ≤ r) (k v : Vl) : VSt Q w A (set6 w1 r k v) A1 :=
  (((((S.own hr _).own hr _).own hr _).own (Nat.le_succ_of_le hr) _).own (Nat.le_succ_of_le hr) _).own (Nat.le_succ_of_le hr) _
theorem VRep.set6 {w : World} {A : VL} {m : VMD} {f e : Nat} (h : VRep w A m f e) {r : Nat} (h0 : A.o r = 0) (h1 : A.o (r + 1) = 0) (k v : Vl) : VRep (set6 w r k v) A m f e :=
  h.zero ((((((Stp.refl (fun l => l = 0) w A.o).setCell (p := ⟨r, 0, none⟩) h0 _).setCell (p := ⟨r, 1, none⟩) h0 _).setCell (p := ⟨r, 2, none⟩) h0 _).setCell (p := ⟨r + 1, 0, none⟩) h1 _).setCell (p := ⟨r + 1, 1, none⟩) h1 _ |>.setCell (p := ⟨r + 1, 2, none⟩) h1 _)
theorem R2.new (w : World) : R2 ((w.alloc (.cells #[.int .i64 0, .int .u64 0, sv []] 68)).alloc (.cells #[.int .i64 0, .int .u64 0, sv []] 68)) w.heap.size nilV nilV := ⟨(Has.new _ _ _).alloc _, Has.newC _ _ _ (by simp)⟩
theorem R2.st {Q : Nat → Prop} {w w1 : World} {A A1 : VL} {r : Nat} {a b : Vl} (h : R2 w r a b) (S : VSt Q w A w1 A1) (hq : ¬ Q 0) (h0 : A.o r = 0) (h1 : A.o (r + 1) = 0) : R2 w1 r a b ∧ A1.o r = 0 ∧ A1.o (r + 1) = 0 :=
  ⟨⟨(S.keep0 hq h.h4 h0).1, (S.keep0 hq h.h5 h1).1⟩, (S.keep0 hq h.h4 h0).2, (S.keep0 hq h.h5 h1).2⟩
theorem R2.fr {w w1 : World} {r : Nat} {a b : Vl} (h : R2 w r a b) (hf : Fr (fun _ => False) w w1) : R2 w1 r a b := ⟨h.h4.fr hf (fun x => x), h.h5.fr hf (fun x => x)⟩
/-- the end of a builtin -/
theorem bu_end {w W : World} {A A1 : VL} {m1 : VMD} {f e : Nat} {R : RR (Vl × Vl)} {p : Vl × Vl} (hR : R = (.inr p, m1)) (h : VRep W A1 m1 f e) (S : VSt isVM w A W A1) (r2 : ∃ a b, R2 W w.heap.size a b) (h0 : A1.o w.heap.size = 0) (h1 : A1.o (w.heap.size + 1) = 0) :
    BuPost R w A f e (.returned (.tuple #[p.1.val, p.2.val])) (set6 W w.heap.size p.1 p.2) ∧ R2 (set6 W w.heap.size p.1 p.2) w.heap.size p.1 p.2 := by
  obtain ⟨a, b, r2⟩ := r2
  refine ⟨?_, r2.set _ _⟩
  rw [hR]
  exact ⟨rfl, A1, h.set6 h0 h1 _ _, S.set6 (Nat.le_refl _) _ _⟩
section
variable {w : World} {A : VL} {m : VMD} {f e B d : Nat} {a0 a1 : Vl}
set_option maxRecDepth 100000
set_option maxHeartbeats 400000
theorem bType_any (h : VRep w A m f e) (ha : Ar w B d a0 a1) : Calls Tryz.prog 289 #[.pointer (some ⟨A.b, 0, none⟩), .pointer (some ⟨B, d, none⟩)] w (BuPost (builtinP m 4 a0 a1) w A f e) := by
  obtain ⟨Q, HQ⟩ : ∃ Q : Ending → World → Prop, Hid (BuPost (builtinP m 4 a0 a1) w A f e = Q) := ⟨_, rfl⟩
  rw [HQ.out]
  have HR : Hid (VRep w A m f e) := h
  have hf2 : Fr (fun _ => False) w ((w.alloc (.cells #[.int .i64 0, .int .u64 0, sv []] 68)).alloc (.cells #[.int .i64 0, .int .u64 0, sv []] 68)) := ((Fr.refl _ w).alloc _).alloc _
  have z0 : A.o w.heap.size = 0 := h.own _ (Nat.le_refl _)
  have z1 : A.o (w.heap.size + 1) = 0 := h.own _ (Nat.le_succ _)
  have HZ : Hid (A.o w.heap.size = 0 ∧ A.o (w.heap.size + 1) = 0) := ⟨z0, z1⟩
  have HA : Hid (Ar w B d a0 a1) := ha
  have hbl := h.bl
  obtain ⟨c0, c1, c2, c3, c4, c5, cl⟩ := ha
  obtain ⟨t0, n0, s0⟩ := a0
  dsimp only at c0 c1 c2
  clear h z0 z1
  go_enter Tryz.func289, Tryz.ntmps289
  go_wp2_with fail
  refine (typeName_any ⟨t0, n0, s0⟩).mono ?_
  rintro e' w1 ⟨rfl, f1⟩
  have FF : Fr (fun _ => False) w w1 := hf2.trans f1 (fun _ _ x => x)
  have r2 : R2 w1 w.heap.size nilV nilV := (R2.new w).fr f1
  obtain ⟨q1, q2⟩ := bu_end (R := builtinP m 4 ⟨t0, n0, s0⟩ a1) (p := (strV (typeN ⟨t0, n0, s0⟩), nilV)) rfl (HR.out.fresh FF) (VSt.fresh FF) ⟨_, _, r2⟩ HZ.out.1 HZ.out.2
  rw [HQ.out] at q1
  generalize typeN ⟨t0, n0, s0⟩ = ty at *
  have HQ1 : Hid (Q _ _) := q1
  have HQ2 : Hid (R2 _ _ _ _) := q2
  obtain ⟨e0, e1, e2⟩ := Has.cells3 (v := nilV) r2.h4
  obtain ⟨e3, e4, e5⟩ := r2.h4.frz3
  obtain ⟨d0, d1, d2⟩ := Has.cells3 (v := nilV) r2.h5
  obtain ⟨d3, d4, d5⟩ := r2.h5.frz3
  dsimp only [nilV] at e0 e1 e2 d0 d1 d2
  have l4 := r2.h4.lt
  have l5 := r2.h5.lt
  clear q1 q2 r2 f1 hf2 FF
  go_wp2_with fail
  refine bodyPost_ret (res_cell2 isVal isVal rfl rfl HQ2.out.h4 rfl rfl HQ2.out.h5 rfl) rfl ?_
  exact HQ1.out
theorem bToString_any (h : VRep w A m f e) (ha : Ar w B d a0 a1) (hw : wellV a0 = true) (hn : a0.n < 18446744073709551616) : Calls Tryz.prog 287 #[.pointer (some ⟨A.b, 0, none⟩), .pointer (some ⟨B, d, none⟩)] w (BuPost (builtinP m 2 a0 a1) w A f e) := by
  obtain ⟨Q, HQ⟩ : ∃ Q : Ending → World → Prop, Hid (BuPost (builtinP m 2 a0 a1) w A f e = Q) := ⟨_, rfl⟩
  rw [HQ.out]
  have HR : Hid (VRep w A m f e) := h
  have hf2 : Fr (fun _ => False) w ((w.alloc (.cells #[.int .i64 0, .int .u64 0, sv []] 68)).alloc (.cells #[.int .i64 0, .int .u64 0, sv []] 68)) := ((Fr.refl _ w).alloc _).alloc _
  have z0 : A.o w.heap.size = 0 := h.own _ (Nat.le_refl _)
  have z1 : A.o (w.heap.size + 1) = 0 := h.own _ (Nat.le_succ _)
  have HZ : Hid (A.o w.heap.size = 0 ∧ A.o (w.heap.size + 1) = 0) := ⟨z0, z1⟩
  have HA : Hid (Ar w B d a0 a1) := ha
  have hbl := h.bl
  obtain ⟨c0, c1, c2, c3, c4, c5, cl⟩ := ha
  obtain ⟨t0, n0, s0⟩ := a0
  dsimp only at c0 c1 c2
  clear h z0 z1
  go_enter Tryz.func287, Tryz.ntmps287
  go_wp2_with fail
  refine (text_any (HR.out.fresh hf2) ⟨t0, n0, s0⟩ hw hn).mono ?_
  rintro e' w1 ⟨rfl, r1, s1⟩
  obtain ⟨r2, y0, y1⟩ := (R2.new w).st s1 (fun x => x rfl) HZ.out.1 HZ.out.2
  obtain ⟨q1, q2⟩ := bu_end (R := builtinP m 2 ⟨t0, n0, s0⟩ a1) (p := (strV (textV ⟨t0, n0, s0⟩), nilV)) rfl r1 ((VSt.fresh hf2).trans s1) ⟨_, _, r2⟩ y0 y1
  rw [HQ.out] at q1
  generalize textV ⟨t0, n0, s0⟩ = ty at *
  have HQ1 : Hid (Q _ _) := q1
  have HQ2 : Hid (R2 _ _ _ _) := q2
  obtain ⟨e0, e1, e2⟩ := Has.cells3 (v := nilV) r2.h4
  obtain ⟨e3, e4, e5⟩ := r2.h4.frz3
  obtain ⟨d0, d1, d2⟩ := Has.cells3 (v := nilV) r2.h5
  obtain ⟨d3, d4, d5⟩ := r2.h5.frz3
  dsimp only [nilV] at e0 e1 e2 d0 d1 d2
  have l4 := r2.h4.lt
  have l5 := r2.h5.lt
  clear q1 q2 r2 r1 s1 hf2 y0 y1
  go_wp2_with fail
  refine bodyPost_ret (res_cell2 isVal isVal rfl rfl HQ2.out.h4 rfl rfl HQ2.out.h5 rfl) rfl ?_
  exact HQ1.out
theorem bError_any (h : VRep w A m f e) (ha : Ar w B d a0 a1) : Calls Tryz.prog 290 #[.pointer (some ⟨A.b, 0, none⟩), .pointer (some ⟨B, d, none⟩)] w (BuPost (builtinP m 5 a0 a1) w A f e) := by
  obtain ⟨Q, HQ⟩ : ∃ Q : Ending → World → Prop, Hid (BuPost (builtinP m 5 a0 a1) w A f e = Q) := ⟨_, rfl⟩
  rw [HQ.out]
  have HR : Hid (VRep w A m f e) := h
  have hf2 : Fr (fun _ => False) w ((w.alloc (.cells #[.int .i64 0, .int .u64 0, sv []] 68)).alloc (.cells #[.int .i64 0, .int .u64 0, sv []] 68)) := ((Fr.refl _ w).alloc _).alloc _
  have z0 : A.o w.heap.size = 0 := h.own _ (Nat.le_refl _)
  have z1 : A.o (w.heap.size + 1) = 0 := h.own _ (Nat.le_succ _)
  have HZ : Hid (A.o w.heap.size = 0 ∧ A.o (w.heap.size + 1) = 0) := ⟨z0, z1⟩
  have HA : Hid (Ar w B d a0 a1) := ha
  have hbl := h.bl
  obtain ⟨c0, c1, c2, c3, c4, c5, cl⟩ := ha
  obtain ⟨t0, n0, s0⟩ := a0
  dsimp only at c0 c1 c2
  clear h z0 z1
  go_enter Tryz.func290, Tryz.ntmps290
  go_wp2_with fail
  refine (throw_any ⟨t0, n0, s0⟩).mono ?_
  rintro e' w3 ⟨⟨b, rfl, hb, hbl2⟩, f3⟩
  have FIN : Hid (Q (.panicked (thrE b)) w3) := by
    rw [← HQ.out]
    exact ⟨⟨b, rfl, hb, by simp at hbl2; omega⟩, A, HR.out.fresh (hf2.trans f3 (fun _ _ x => x)), VSt.fresh (hf2.trans f3 (fun _ _ x => x))⟩
  exact ⟨rfl, FIN.out⟩
theorem bStatus_any (h : VRep w A m f e) (ha : Ar w B d a0 a1) (h7t : a0.t = 7 → ∃ t, m.ths[a0.n]? = some t) : Calls Tryz.prog 293 #[.pointer (some ⟨A.b, 0, none⟩), .pointer (some ⟨B, d, none⟩)] w (BuPost (builtinP m 11 a0 a1) w A f e) := by
  obtain ⟨Q, HQ⟩ : ∃ Q : Ending → World → Prop, Hid (BuPost (builtinP m 11 a0 a1) w A f e = Q) := ⟨_, rfl⟩
  rw [HQ.out]
  have HR : Hid (VRep w A m f e) := h
  have hf2 : Fr (fun _ => False) w ((w.alloc (.cells #[.int .i64 0, .int .u64 0, sv []] 68)).alloc (.cells #[.int .i64 0, .int .u64 0, sv []] 68)) := ((Fr.refl _ w).alloc _).alloc _
  have z0 : A.o w.heap.size = 0 := h.own _ (Nat.le_refl _)
  have z1 : A.o (w.heap.size + 1) = 0 := h.own _ (Nat.le_succ _)
  have HZ : Hid (A.o w.heap.size = 0 ∧ A.o (w.heap.size + 1) = 0) := ⟨z0, z1⟩
  have HA : Hid (Ar w B d a0 a1) := ha
  have hbl := h.bl
  obtain ⟨c0, c1, c2, c3, c4, c5, cl⟩ := ha
  obtain ⟨t0, n0, s0⟩ := a0
  dsimp only at c0 c1 c2
  clear h z0 z1
  have hop : builtinP m 11 ⟨t0, n0, s0⟩ a1 = (if t0 ≠ 7 then thrR mCo m else (.inr (strV (statusN (m.th n0).st), nilV), m)) := by
    unfold builtinP
    simp (config := { decide := true }) only [if_true, if_false]
  have HOP : Hid (builtinP m 11 ⟨t0, n0, s0⟩ a1 = _) := hop
  clear hop
  by_cases h7 : t0 = 7
  · subst h7
    rw [if_neg (by simp)] at HOP
    obtain ⟨t, ht⟩ := h7t rfl
    rw [th_get ht] at HOP
    obtain ⟨l, hl⟩ := HR.out.lays ht
    have n9 := HR.out.cell0 9
    simp only [vmCells, List.getElem?_toArray, List.getElem?_cons_succ, List.getElem?_cons_zero] at n9
    have c00 := HR.out.thCell ht hl (j := 0) (by omega)
    simp only [thCells, List.getElem?_cons_zero, Nat.add_zero] at c00
    have hTl := HR.out.ths.here.has.lt
    have hi5 := HR.out.i5 ht
    have hil := (List.getElem?_eq_some_iff.1 ht).1
    have h5l := HR.out.len5
    obtain ⟨N, HN⟩ : ∃ N, Hid (m.ths.length = N) := ⟨_, rfl⟩
    rw [HN.out] at n9 hil
    have hN5 : N ≤ 5 := by rw [← HN.out]; omega
    clear h5l
    have F2 := hf2
    have n9' := F2.cell n9
    have c00' := F2.cell c00
    obtain ⟨w0, HW0⟩ : ∃ w0, Hid ((w.alloc (.cells #[.int .i64 0, .int .u64 0, sv []] 68)).alloc (.cells #[.int .i64 0, .int .u64 0, sv []] 68) = w0) := ⟨_, rfl⟩
    go_enter Tryz.func293, Tryz.ntmps293
    go_wp2_with fail
    refine wp_region_tail 12 (by kernel_rfl) (by kernel_rfl) (fun _ _ _ _ _ h => h) ?_
    simp only [List.take_succ_cons, List.take_zero, List.drop_succ_cons, List.drop_zero]
    repeat go_big_quiet_step (fail)
    refine wpQuiet_nil ?_
    go_wp2_with fail
    refine (statusName_any t.st).mono ?_
    rintro e' w1 ⟨rfl, hw1⟩
    have FF : Fr (fun _ => False) w w1 := by rw [hw1]; exact hf2.drew
    have r2 : R2 w1 w.heap.size nilV nilV := by rw [hw1]; exact (R2.new w).fr ((Fr.refl _ _).drew)
    clear hw1
    obtain ⟨q1, q2⟩ := bu_end (R := builtinP m 11 ⟨7, n0, s0⟩ a1) (p := (strV (statusN t.st), nilV)) HOP.out (HR.out.fresh FF) (VSt.fresh FF) ⟨_, _, r2⟩ HZ.out.1 HZ.out.2
    rw [HQ.out] at q1
    generalize statusN t.st = ty at *
    have HQ1 : Hid (Q _ _) := q1
    have HQ2 : Hid (R2 _ _ _ _) := q2
    obtain ⟨e0, e1, e2⟩ := Has.cells3 (v := nilV) r2.h4
    obtain ⟨e3, e4, e5⟩ := r2.h4.frz3
    obtain ⟨d0, d1, d2⟩ := Has.cells3 (v := nilV) r2.h5
    obtain ⟨d3, d4, d5⟩ := r2.h5.frz3
    dsimp only [nilV] at e0 e1 e2 d0 d1 d2
    have l4 := r2.h4.lt
    have l5 := r2.h5.lt
    clear q1 q2 r2 hf2 FF F2 n9 n9' c00 c00' HOP
    go_wp2_with fail
    refine bodyPost_ret (res_cell2 isVal isVal rfl rfl HQ2.out.h4 rfl rfl HQ2.out.h5 rfl) rfl ?_
    exact HQ1.out
  · rw [if_pos h7] at HOP
    go_enter Tryz.func293, Tryz.ntmps293
    go_wp2_with fail
    refine (raise_any mCo).mono ?_
    rintro e' w3 ⟨⟨b, rfl, hb, hbl2⟩, f3⟩
    have FIN : Hid (Q (.panicked (thrE b)) w3) := by
      rw [← HQ.out, HOP.out]
      exact ⟨⟨b, rfl, hb, by simp at hbl2; omega⟩, A, HR.out.fresh (hf2.trans f3 (fun _ _ x => x)), VSt.fresh (hf2.trans f3 (fun _ _ x => x))⟩
    exact ⟨rfl, FIN.out⟩
theorem bCreate_any (h : VRep w A m f e) (ha : Ar w B d a0 a1) (hn5 : a0.t = 5 → a0.n ≤ 1000) : Calls Tryz.prog 292 #[.pointer (some ⟨A.b, 0, none⟩), .pointer (some ⟨B, d, none⟩)] w (BuPost (builtinP m 8 a0 a1) w A f e) := by
  obtain ⟨Q, HQ⟩ : ∃ Q : Ending → World → Prop, Hid (BuPost (builtinP m 8 a0 a1) w A f e = Q) := ⟨_, rfl⟩
  rw [HQ.out]
  have HR : Hid (VRep w A m f e) := h
  have hf2 : Fr (fun _ => False) w ((w.alloc (.cells #[.int .i64 0, .int .u64 0, sv []] 68)).alloc (.cells #[.int .i64 0, .int .u64 0, sv []] 68)) := ((Fr.refl _ w).alloc _).alloc _
  have z0 : A.o w.heap.size = 0 := h.own _ (Nat.le_refl _)
  have z1 : A.o (w.heap.size + 1) = 0 := h.own _ (Nat.le_succ _)
  have HZ : Hid (A.o w.heap.size = 0 ∧ A.o (w.heap.size + 1) = 0) := ⟨z0, z1⟩
  have HA : Hid (Ar w B d a0 a1) := ha
  have hbl := h.bl
  obtain ⟨c0, c1, c2, c3, c4, c5, cl⟩ := ha
  obtain ⟨t0, n0, s0⟩ := a0
  dsimp only at c0 c1 c2
  clear h z0 z1
  have hop : builtinP m 8 ⟨t0, n0, s0⟩ a1 = (if t0 ≠ 5 then thrR mCall m else if m.ths.length ≥ 5 then trapR 8 m else (.inr (⟨7, m.ths.length, []⟩, nilV), spawn m n0)) := by
    unfold builtinP
    simp (config := { decide := true }) only [if_true, if_false]
  have HOP : Hid (builtinP m 8 ⟨t0, n0, s0⟩ a1 = _) := hop
  clear hop
  have n9 := HR.out.cell0 9
  simp only [vmCells, List.getElem?_toArray, List.getElem?_cons_succ, List.getElem?_cons_zero] at n9
  have h5l := HR.out.len5
  have hN5 : m.ths.length ≤ 5 := by omega
  by_cases h5 : t0 = 5
  · subst h5
    rw [if_neg (by simp)] at HOP
    have hn0 : n0 ≤ 1000 := hn5 rfl
    have n9' := hf2.cell n9
    by_cases hf : m.ths.length ≥ 5
    · rw [if_pos hf] at HOP
      have HHF : Hid (m.ths.length = 5) := by
        show _ = _
        omega
      rw [HHF.out] at n9 n9'
      clear hf hN5 h5l
      go_enter Tryz.func292, Tryz.ntmps292
      go_wp2_with fail
      refine (stop_any 8).mono ?_
      rintro e' w3 ⟨rfl, hw3⟩
      have FIN : Hid (Q (.panicked (trapE 8)) w3) := by
        rw [← HQ.out, HOP.out, hw3]
        exact ⟨rfl, A, HR.out.fresh hf2, VSt.fresh hf2⟩
      exact ⟨rfl, FIN.out⟩
    · rw [if_neg hf] at HOP
      obtain ⟨N, HN⟩ : ∃ N, Hid (m.ths.length = N) := ⟨_, rfl⟩
      have CALL := spawn_any (HR.out.fresh hf2) (by omega) n0
      rw [HN.out] at n9 n9' hf hN5 HOP CALL
      clear h5l
      have hN4 : N < 5 := by omega
      clear hf hN5
      go_enter Tryz.func292, Tryz.ntmps292
      go_wp2_with fail
      refine CALL.mono ?_
      rintro e' w1 ⟨rfl, A1, r1, s1⟩
      obtain ⟨r2, y0, y1⟩ := (R2.new w).st s1 isC0 HZ.out.1 HZ.out.2
      obtain ⟨q1, q2⟩ := bu_end (R := builtinP m 8 ⟨5, n0, s0⟩ a1) (p := (⟨7, N, []⟩, nilV)) HOP.out r1 ((VSt.fresh hf2).trans (s1.weaken (fun k hk => by unfold isVM; unfold isCo isT at hk; omega))) ⟨_, _, r2⟩ y0 y1
      rw [HQ.out] at q1
      have HQ1 : Hid (Q _ _) := q1
      have HQ2 : Hid (R2 _ _ _ _) := q2
      obtain ⟨e0, e1, e2⟩ := Has.cells3 (v := nilV) r2.h4
      obtain ⟨e3, e4, e5⟩ := r2.h4.frz3
      obtain ⟨d0, d1, d2⟩ := Has.cells3 (v := nilV) r2.h5
      obtain ⟨d3, d4, d5⟩ := r2.h5.frz3
      dsimp only [nilV] at e0 e1 e2 d0 d1 d2
      have l4 := r2.h4.lt
      have l5 := r2.h5.lt
      clear q1 q2 r2 r1 s1 hf2 y0 y1 n9 n9' CALL HOP
      go_wp2_with fail
      refine bodyPost_ret (res_cell2 isVal isVal rfl rfl HQ2.out.h4 rfl rfl HQ2.out.h5 rfl) rfl ?_
      exact HQ1.out
  · rw [if_pos h5] at HOP
    go_enter Tryz.func292, Tryz.ntmps292
    go_wp2_with fail
    refine (raise_any mCall).mono ?_
    rintro e' w3 ⟨⟨b, rfl, hb, hbl2⟩, f3⟩
    have FIN : Hid (Q (.panicked (thrE b)) w3) := by
      rw [← HQ.out, HOP.out]
      exact ⟨⟨b, rfl, hb, by simp at hbl2; omega⟩, A, HR.out.fresh (hf2.trans f3 (fun _ _ x => x)), VSt.fresh (hf2.trans f3 (fun _ _ x => x))⟩
    exact ⟨rfl, FIN.out⟩
end
end Go.Proofs.Qxb6500574aGreatDoor
