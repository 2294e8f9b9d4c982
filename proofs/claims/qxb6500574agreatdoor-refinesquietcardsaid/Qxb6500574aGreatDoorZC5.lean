/-
  THE WALKS of compm: back.
-/
import Derived.Test.Qxb6500574aGreatDoorZC4
namespace Go.Proofs.Qxb6500574aGreatDoor
open Go Go.RowKit
set_option linter.unusedVariables false
set_option linter.unusedSimpArgs false
section
variable {w : World} {A : RnP} {N : List Nd} {root j : Nat} {m : MD} {T : MTh} {x : XtP}
/-- a thread's state turned -/
theorem MRep.setSt (h : MRep w A N root m) (ht : m.ths[j]? = some T) (hx : A.X[j]? = some x) (st : Nat) :
    ∃ A', MRep (w.setCell ⟨x.b, 0, none⟩ (.int .i64 st)) A' N root { m with ths := m.ths.set j { T with st := st } } ∧ MSt w A (w.setCell ⟨x.b, 0, none⟩ (.int .i64 st)) A' ∧ A'.X[j]? = some x := by
  have O := h.one _ _ _ ht hx
  obtain ⟨p1, p2⟩ := O.b.put 0 (.int .i64 st) (cs' := thV x { T with st := st }) rfl
  have hX : (A.X.set j x)[j]? = some x := List.getElem?_set_self (List.getElem?_eq_some_iff.1 hx).1
  exact (fun z => ⟨_, z.1, z.2, hX⟩) (h.turn ht hx (p2.weaken (fun l hl => by omega)) (x' := x) ⟨p1, O.tk.st p2 (by omega), O.vl.st p2 (by omega)⟩ rfl)
/-- a thread's depth turned -/
theorem MRep.setDp (h : MRep w A N root m) (ht : m.ths[j]? = some T) (hx : A.X[j]? = some x) (d : Nat) :
    ∃ A', MRep (w.setCell ⟨x.b, 2, none⟩ (.int .i64 d)) A' N root { m with ths := m.ths.set j { T with depth := d } } ∧ MSt w A (w.setCell ⟨x.b, 2, none⟩ (.int .i64 d)) A' ∧ A'.X[j]? = some x := by
  have O := h.one _ _ _ ht hx
  obtain ⟨p1, p2⟩ := O.b.put 2 (.int .i64 d) (cs' := thV x { T with depth := d }) rfl
  have hX : (A.X.set j x)[j]? = some x := List.getElem?_set_self (List.getElem?_eq_some_iff.1 hx).1
  exact (fun z => ⟨_, z.1, z.2, hX⟩) (h.turn ht hx (p2.weaken (fun l hl => by omega)) (x' := x) ⟨p1, O.tk.st p2 (by omega), O.vl.st p2 (by omega)⟩ rfl)
theorem vl_form {v : Vl} (hw : wellV v = true) (hn : v.t = 2 → v.n < 18446744073709551616) : ∃ (vt vn : Nat) (vs : Bs), v = ⟨vt, vn, vs⟩ ∧ vt < 8 ∧ vn < 18446744073709551616 ∧ vs.length ≤ 40 := by
  obtain ⟨a, b, c⟩ := well_bounds hw hn
  obtain ⟨t, n, s⟩ := v
  dsimp only at a b c
  refine ⟨t.toNat, n, s, by congr 1; omega, by omega, c, ?_⟩
  unfold wellV at hw
  by_cases h3 : t = 3
  · simp [h3] at hw
    exact hw.2
  · by_cases hs : s = []
    · rw [hs]; simp
    · simp [h3, hs] at hw
theorem sk_at {r : List Nat} {c : Nat} {sk : List Nat} (h : (c :: r).reverse <+: sk) (hl : sk.length = 5) : r.length < 5 ∧ sk.getD r.length 0 = c ∧ r.reverse <+: sk := by
  obtain ⟨t, ht⟩ := h
  rw [List.reverse_cons, List.append_assoc] at ht
  have h5 : r.length < 5 := by
    have := congrArg List.length ht
    simp at this
    omega
  refine ⟨h5, ?_, ⟨_, ht⟩⟩
  rw [← ht, List.getD_eq_getElem?_getD, List.getElem?_append_right (by simp)]
  simp
theorem MRep.skc (h : MRep w A N root m) {n : Nat} (hn : n < 5) : w.cell? ⟨A.br, 6 + n, none⟩ = some (.int .i64 (A.sk.getD n 0 : Nat)) := by
  have : n = 0 ∨ n = 1 ∨ n = 2 ∨ n = 3 ∨ n = 4 := by omega
  rcases this with rfl | rfl | rfl | rfl | rfl
  · exact h.rc 6 rfl
  · exact h.rc 7 rfl
  · exact h.rc 8 rfl
  · exact h.rc 9 rfl
  · exact h.rc 10 rfl
set_option maxRecDepth 100000
set_option maxHeartbeats 1000000
theorem back_end (h : MRep w A N root m) (hs : m.stack = []) (ok : Bool) (v : Vl) (hw : wellV v = true) (hn : v.t = 2 → v.n < 18446744073709551616) : Calls Tryz.prog 190 #[.pointer (some ⟨A.br, 0, none⟩), .bool ok, v.val] w (PQm w A N root (m.back ok v)) := by
  have e0 : m.back ok v = m.finish (if ok then 0 else 12) (showV v) := by unfold MD.back; rw [hs]
  rw [e0]
  obtain ⟨vt, vn, vs, rfl, h1, h2, h3⟩ := vl_form hw hn
  have HS : Hid (∀ W, Calls Tryz.prog 27 #[.agg #[.int .i64 vt, .int .u64 vn, sv vs]] W fun e w' => e = .returned (sv (showV ⟨vt, vn, vs⟩)) ∧ Fr (fun _ => False) W w') := fun W => showVal_any vt vn vs h1 h2 h3
  have l1 := h.run.has.lt
  have c11 : w.cell? ⟨A.br, 11, none⟩ = some (.int .i64 m.stack.length) := h.rc 11 rfl
  rw [hs] at c11
  have HH := hid h
  generalize showV ⟨vt, vn, vs⟩ = S at *
  clear h e0 hw hn h1 h2 h3 hs
  cases ok
  all_goals
    go_enter Tryz.func190, Tryz.ntmps190
    go_wp2_with fail
    refine (HS.out _).mono ?_
    rintro e w1 ⟨rfl, F1⟩
    have HF := hid (((Fr.refl (fun _ => False) w).alloc (.cells #[.int .i64 vt, .int .u64 vn, sv vs] 68)).trans F1 (fun _ _ x => x))
    clear F1
    go_wp2_with fail
  · refine (finish_m (HH.out.fresh HF.out) 12 S rfl).mono ?_
    rintro e w2 ⟨rfl, A', q1, q2⟩
    have HQ1 := hid q1
    have HQ2 := hid q2
    clear q1 q2
    go_wp2
    refine bodyPost_ret (results_none rfl _ _ _) rfl ?_
    exact ⟨rfl, A', HQ1.out, (MSt.fresh A HF.out).trans HQ2.out⟩
  · refine (finish_m (HH.out.fresh HF.out) 0 S rfl).mono ?_
    rintro e w2 ⟨rfl, A', q1, q2⟩
    have HQ1 := hid q1
    have HQ2 := hid q2
    clear q1 q2
    go_wp2
    refine bodyPost_ret (results_none rfl _ _ _) rfl ?_
    exact ⟨rfl, A', HQ1.out, (MSt.fresh A HF.out).trans HQ2.out⟩
theorem back_on (h : MRep w A N root m) {c : Nat} {r : List Nat} (hs : m.stack = c :: r) (hc : c < m.ths.length) (hl : (m.ths.getD c mt0).vals.length ≤ 999999) (ok : Bool) (v : Vl) : Calls Tryz.prog 190 #[.pointer (some ⟨A.br, 0, none⟩), .bool ok, v.val] w (PQm w A N root (m.back ok v)) := by
  have e0 : m.back ok v = (({ m with stack := r, cur := c } : MD).upT fun t => { t with st := 4 }).push [boolV ok, v] := by unfold MD.back; rw [hs]
  rw [e0]
  obtain ⟨Q, HQ⟩ : ∃ Q : Ending → World → Prop, Hid (PQm w A N root ((({ m with stack := r, cur := c } : MD).upT fun t => { t with st := 4 }).push [boolV ok, v]) = Q) := ⟨_, rfl⟩
  rw [HQ.out]
  have sk := h.sk
  rw [hs] at sk
  obtain ⟨r5, hsk, hpre⟩ := sk_at sk h.skl
  have l1 := h.run.has.lt
  have c11 : w.cell? ⟨A.br, 11, none⟩ = some (.int .i64 m.stack.length) := h.rc 11 rfl
  rw [hs, List.length_cons] at c11
  have c12 : w.cell? ⟨A.br, 12, none⟩ = some (.int .i64 m.cur) := h.rc 12 rfl
  have f11 := h.run.has.frozen 11
  have f12 := h.run.has.frozen 12
  have csk := h.skc r5
  rw [hsk] at csk
  -- the run turned
  obtain ⟨p1, p2⟩ := h.run.put 11 (.int .i64 r.length) (cs' := rnV A N root { m with stack := r }) rfl
  obtain ⟨q1, q2⟩ := p1.put 12 (.int .i64 c) (cs' := rnV A N root { m with stack := r, cur := c }) rfl
  obtain ⟨y1, y2⟩ := h.scal (p2.trans q2) (sk := A.sk) (an := A.an) (m' := { m with stack := r, cur := c }) q1.has rfl rfl rfl rfl h.skl hpre h.don
  have fa := (Fr.refl (fun _ => False) ((w.setCell ⟨A.br, 11, none⟩ (.int .i64 r.length)).setCell ⟨A.br, 12, none⟩ (.int .i64 c))).alloc (.cells #[.int .i64 v.t, .int .u64 v.n, sv v.s] 68)
  have z1 := y1.fresh fa
  have z2 := y2.trans (MSt.fresh _ fa)
  have LB := LcB.newC y1.own #[.int .i64 v.t, .int .u64 v.n, sv v.s] 68 (b := w.heap.size) (by simp [World.setCell])
  obtain ⟨gt, x, hx, ht, ⟨d5, d12, dg, k1, k2, k3, kc, kl, k5⟩, O⟩ := z1.cur (show c < m.ths.length from hc)
  have hth : ({ m with stack := r, cur := c } : MD).th = m.ths.getD c mt0 := rfl
  obtain ⟨A2, s1, s2, _⟩ := z1.setSt ht hx 4
  have HS1 : Hid (MRep _ A2 N root (({ m with stack := r, cur := c } : MD).upT fun t => { t with st := 4 })) := s1
  have HS2 := hid (z2.trans s2)
  have LB2 := hid (LB.st s2)
  have f0 := O.b.has.frozen 0
  have c0 := O.b.has.cell 0
  simp only [thV, List.getElem?_toArray, List.getElem?_cons_zero] at c0
  obtain ⟨vt, vn, vs⟩ := v
  dsimp only at HS1 HS2 LB2 d5 d12 dg k1 k2 k3 f0 c0 kc kl k5
  obtain ⟨n, HN⟩ : ∃ n : Nat, Hid (r.length = n) := ⟨_, rfl⟩
  obtain ⟨LT, HLT⟩ : ∃ LT : Nat, Hid (m.ths.length = LT) := ⟨_, rfl⟩
  rw [HN.out] at c11 csk r5 d5 d12 dg k1 k2 k3 f0 c0 HS1 HS2 LB2
  rw [HLT.out] at d5 kc kl k5
  have e1 : (n : Int) + 1 - 1 = n := by omega
  have e2 : ((n : Int) + 1 == 0) = false := by rw [beq_eq_false_iff_ne]; omega
  have n11 : 6 + n ≠ 11 := by omega
  have n12 : 6 + n ≠ 12 := by omega
  obtain ⟨W, HW⟩ : ∃ W, Hid (((w.setCell ⟨A.br, 11, none⟩ (.int .i64 n)).setCell ⟨A.br, 12, none⟩ (.int .i64 c)).alloc (.cells #[.int .i64 vt, .int .u64 vn, sv vs] 68) = W) := ⟨_, rfl⟩
  rw [HW.out] at d5 d12 dg k1 k2 k3 f0 c0 HS1 HS2 LB2
  clear p1 p2 q1 q2 z1 z2 y1 y2 fa LB s1 s2 O h hsk hpre sk hs e0 hx ht hth
  go_enter Tryz.func190, Tryz.ntmps190
  go_wp2
  refine wp_region_tail 10 (by kernel_rfl) (by kernel_rfl) (fun _ _ _ _ _ h => h) ?_
  simp only [List.take_succ_cons, List.take_zero, List.drop_succ_cons, List.drop_zero]
  repeat go_big_quiet_step (fail)
  refine wpQuiet_nil ?_
  go_wp2_with fail
  rw [HW.out]
  clear c11 c12 f11 f12 csk HW l1
  refine wp_region_tail 10 (by kernel_rfl) (by kernel_rfl) (fun _ _ _ _ _ h => h) ?_
  simp only [List.take_succ_cons, List.take_zero, List.drop_succ_cons, List.drop_zero]
  repeat go_big_quiet_step (fail)
  refine wpQuiet_nil ?_
  go_wp2_with fail
  have eth : (({ m with stack := r, cur := c } : MD).upT fun t => { t with st := 4 }).cur = c := rfl
  have eln : (({ m with stack := r, cur := c } : MD).upT fun t => { t with st := 4 }).ths.length = m.ths.length := by simp [MD.upT]
  have evl : (({ m with stack := r, cur := c } : MD).upT fun t => { t with st := 4 }).th.vals = (m.ths.getD c mt0).vals := by
    unfold MD.upT MD.th
    simp [List.getD_eq_getElem?_getD, hc]
  obtain ⟨M2, HM2⟩ : ∃ M2, Hid ((({ m with stack := r, cur := c } : MD).upT fun t => { t with st := 4 }) = M2) := ⟨_, rfl⟩
  rw [HM2.out] at HS1 eth eln evl HQ
  have HR := hid HS1.out.drew.drew
  have HS := hid HS2.out.drew.drew
  have LB3 := hid (LB2.out.st ((MSt.refl _ _).drew.drew))
  have ebr := hid HS2.out.br
  generalize (W.setCell ⟨x.b, 0, none⟩ (.int .i64 4)).drew.drew = W3 at *
  have hcl : M2.cur < M2.ths.length := by rw [eth, eln]; exact hc
  have hvl : M2.th.vals.length ≤ 999999 := by rw [evl]; exact hl
  have C1 := pushBool_m HR.out hcl ok (by omega)
  rw [ebr.out] at C1
  have HC1 := hid C1
  have HCL := hid hcl
  have HVL := hid hvl
  clear C1 d5 d12 dg k1 k2 k3 f0 c0 HS1 HS2 LB2 HM2 eth eln evl hcl hvl hl hc
  refine HC1.out.mono ?_
  rintro e w4 ⟨rfl, A4, r1, r2⟩
  have C2 := push_m r1 (by simp [MD.push, MD.upT]; exact HCL.out) ⟨vt, vn, vs⟩ (by simp [MD.push, MD.upT, MD.th, List.getD_eq_getElem?_getD, HCL.out] at HVL ⊢; have := HVL.out; omega)
  rw [up_push _ _ _ HCL.out, r2.br, ebr.out] at C2
  have HC2 := hid C2
  have LB4 := LB3.out.st r2
  obtain ⟨y0, y1, y2⟩ := Has.cells3 (v := ⟨vt, vn, vs⟩) LB4.h
  dsimp only at y0 y1 y2
  have ly := LB4.h.lt
  have HS4 := hid (HS.out.trans r2)
  clear C2 LB4 r1 r2
  go_wp2_with fail
  refine HC2.out.mono ?_
  rintro e w5 ⟨rfl, A5, r1, r2⟩
  have FIN : Hid (Q (.returned (.tuple #[])) w5) := by
    show Q _ _
    rw [← HQ.out]
    exact ⟨rfl, A5, r1, HS4.out.trans r2⟩
  clear r1 r2 y0 y1 y2 ly
  go_wp2
  go_end0
  exact FIN.out
end
end Go.Proofs.Qxb6500574aGreatDoor
