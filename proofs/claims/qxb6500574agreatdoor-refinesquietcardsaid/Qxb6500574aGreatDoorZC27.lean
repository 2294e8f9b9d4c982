/-
  THE WALKS of compm: apply: functions; the way to the builtins.
-/
import Derived.Test.Qxb6500574aGreatDoorZC26
import Derived.Test.Qxb6500574aGreatDoorZC20
namespace Go.Proofs.Qxb6500574aGreatDoor
open Go Go.RowKit
set_option linter.unusedVariables false
set_option linter.unusedSimpArgs false
/-- what a call asks of the state -/
structure ApOk (N : List Nd) (m : MD) (fn : Vl) (args : List Vl) : Prop where
  thr : ThrOk m
  ref : RefOk m
  u : MU m
  tl : m.th.tasks.length ≤ 900000
  vl : m.th.vals.length ≤ 900000
  d8 : m.th.depth ≤ 8
  fnV : VM m fn
  arV : ∀ v ∈ args, VM m v
  x3 : args.length ≤ 3
  no : NdsOk N
  cl : ∀ q ∈ m.clos, q.1 < N.length ∧ ∃ l, Chain N (N.getD q.1 nd0).a l ∧ l.length ≤ 3
  vo : ∀ c, (m.ths.getD c mt0).vals.length ≤ 900000
  to : ∀ c, (m.ths.getD c mt0).tasks.length ≤ 900000 ∧ (m.ths.getD c mt0).depth ≤ 8
  sk : m.stack.length ≤ 4
  sn : ∀ c ∈ m.stack, c ≠ m.cur ∧ c < m.ths.length
  y : m.cur ≠ 0 → m.stack ≠ []
/-- at the builtins -/
structure ApC (w : World) (A : RnP) (N : List Nd) (root : Nat) (W : World) (A1 : RnP) (m : MD) (bA bF xb ba bb bp bq : Nat) (fn : Vl) (args : List Vl) : Prop where
  B : RB w A N root W A1 m
  LA : LcB W A1 bA (arC args) 317
  LF : LcB W A1 bF (vlC fn) 68
  x : ∃ x, A1.X[m.cur]? = some x ∧ x.b = xb
  La : LcB W A1 ba (vlC (args.getD 0 nilV)) 68
  Lb : LcB W A1 bb (vlC (args.getD 1 nilV)) 68
  Lp : LcB W A1 bp (vlC nilV) 68
  Lq : LcB W A1 bq (vlC nilV) 68
  o1 : ba < bb ∧ bb < bp ∧ bp < bq
  sz : w.heap.size ≤ bp
section
variable {w W W1 : World} {A A1 A2 : RnP} {N : List Nd} {root : Nat} {m R : MD} {bA bF xb x : Nat} {fn : Vl} {args : List Vl} {a : Act}
theorem ApB.dep (P : ApB w A N root W A1 m bA bF xb fn args) : W.cell? ⟨xb, 2, none⟩ = some (.int .i64 m.th.depth) ∧ xb < W.heap.size := by
  obtain ⟨x, hx, rfl⟩ := P.x
  have O := P.B.r.one _ _ _ (th_cur P.B.c) hx
  refine ⟨?_, O.b.has.lt⟩
  rw [O.b.has.cell]
  rfl
set_option maxRecDepth 100000
set_option maxHeartbeats 2000000
theorem ap_deep (P : ApB w A N root W A1 m bA bF xb fn args) (K : ApOk N m fn args) (H : FrAp (.pointer (some ⟨A.br, 0, none⟩)) (.int .i64 x) (.pointer (some ⟨xb, 0, none⟩)) (.pointer (some ⟨bA, 0, none⟩)) (.pointer (some ⟨bF, 0, none⟩)) a) (h5 : fn.t = 5) (hd : 8 ≤ m.th.depth) :
    (apT Tryz.f126.body).wp Tryz.prog (bodyPost Tryz.prog Tryz.f126 (PQm w A N root (m.raise mDepth))) a W := by
  obtain ⟨u, rfl⟩ := H.form
  obtain ⟨Q, HQ⟩ : ∃ Q : Ending → World → Prop, Hid (PQm w A N root (m.raise mDepth) = Q) := ⟨_, rfl⟩
  rw [HQ.out]
  have C := P.B.raise K.thr mDepth (by decide)
  rw [HQ.out] at C
  have HC : Hid (Calls Tryz.prog 121 #[.pointer (some ⟨A.br, 0, none⟩), sv [100, 101, 112, 116, 104]] W Q) := C
  have HQR : Hid (∀ e w', Q e w' → e = .returned (.tuple #[])) := fun e w' h => by rw [← HQ.out] at h; exact h.1
  obtain ⟨d2, ld⟩ := P.dep
  have f0 := P.LF.h.cell 0
  have lf := P.LF.h.lt
  simp only [vlC, List.getElem?_toArray, List.getElem?_cons_zero] at f0
  rw [h5] at f0
  obtain ⟨dp, HDP⟩ : ∃ dp : Nat, Hid (m.th.depth = dp) := ⟨_, rfl⟩
  rw [HDP.out] at d2 hd
  have hdi : (8 : Int) ≤ (dp : Int) := by omega
  clear C P K H HQ hd
  obtain ⟨c, hc⟩ : ∃ c, c = apT Tryz.f126.body := ⟨_, rfl⟩
  rw [← hc]
  simp only [apT, cR, Tryz.f126, Option.getD_some] at hc
  subst hc
  go_wp2_with fail
  refine HC.out.mono ?_
  intro e w' hq
  obtain rfl := HQR.out _ _ hq
  have HQ2 := hid hq
  clear hq
  go_wp2
  refine bodyPost_ret (results_none rfl _ _ _) rfl ?_
  exact HQ2.out
theorem ap_call (P : ApB w A N root W A1 m bA bF xb fn args) (K : ApOk N m fn args) (H : FrAp (.pointer (some ⟨A.br, 0, none⟩)) (.int .i64 x) (.pointer (some ⟨xb, 0, none⟩)) (.pointer (some ⟨bA, 0, none⟩)) (.pointer (some ⟨bF, 0, none⟩)) a) (h5 : fn.t ≠ 5) (h6 : fn.t ≠ 6) :
    (apT Tryz.f126.body).wp Tryz.prog (bodyPost Tryz.prog Tryz.f126 (PQm w A N root (m.raise mCall))) a W := by
  obtain ⟨u, rfl⟩ := H.form
  obtain ⟨Q, HQ⟩ : ∃ Q : Ending → World → Prop, Hid (PQm w A N root (m.raise mCall) = Q) := ⟨_, rfl⟩
  rw [HQ.out]
  have C := P.B.raise K.thr mCall (by decide)
  rw [HQ.out] at C
  have HC : Hid (Calls Tryz.prog 121 #[.pointer (some ⟨A.br, 0, none⟩), sv [99, 97, 108, 108]] W Q) := C
  have HQR : Hid (∀ e w', Q e w' → e = .returned (.tuple #[])) := fun e w' h => by rw [← HQ.out] at h; exact h.1
  have f0 := P.LF.h.cell 0
  have lf := P.LF.h.lt
  simp only [vlC, List.getElem?_toArray, List.getElem?_cons_zero] at f0
  obtain ⟨ft, HFT⟩ : ∃ ft : Int, Hid (fn.t = ft) := ⟨_, rfl⟩
  rw [HFT.out] at f0 h5 h6
  have b5 : (ft == 5) = false := by rw [beq_eq_false_iff_ne]; exact h5
  have b6 : (ft != 6) = true := by rw [bne_iff_ne]; exact h6
  clear C P K H HQ h5 h6
  obtain ⟨c, hc⟩ : ∃ c, c = apT Tryz.f126.body := ⟨_, rfl⟩
  rw [← hc]
  simp only [apT, cR, Tryz.f126, Option.getD_some] at hc
  subst hc
  go_wp2_with fail
  refine HC.out.mono ?_
  intro e w' hq
  obtain rfl := HQR.out _ _ hq
  have HQ2 := hid hq
  clear hq
  go_wp2
  refine bodyPost_ret (results_none rfl _ _ _) rfl ?_
  exact HQ2.out
theorem ap_fun (P : ApB w A N root W A1 m bA bF xb fn args) (K : ApOk N m fn args) (hxa : args.length = x) (H : FrAp (.pointer (some ⟨A.br, 0, none⟩)) (.int .i64 x) (.pointer (some ⟨xb, 0, none⟩)) (.pointer (some ⟨bA, 0, none⟩)) (.pointer (some ⟨bF, 0, none⟩)) a) (h5 : fn.t = 5) (hd : m.th.depth < 8) :
    (apT Tryz.f126.body).wp Tryz.prog (bodyPost Tryz.prog Tryz.f126 (PQm w A N root (m.enter N root fn.n args 0))) a W := by
  obtain ⟨u, rfl⟩ := H.form
  obtain ⟨Q, HQ⟩ : ∃ Q : Ending → World → Prop, Hid (PQm w A N root (m.enter N root fn.n args 0) = Q) := ⟨_, rfl⟩
  rw [HQ.out]
  have hcl := K.fnV.f h5
  have c24 := K.u.c24
  obtain ⟨q, hq⟩ : ∃ q, m.clos[fn.n]? = some q := ⟨m.clos[fn.n]'hcl, by simp⟩
  obtain ⟨q1, q2⟩ := K.cl q (List.mem_of_getElem? hq)
  have x3 := K.x3
  rw [hxa] at x3
  have AS : ArgS W.drew A1 (.slice (some ⟨bA, 0, none⟩) x 3) args := by
    refine .inr ⟨bA, arC args, 0, 3, 317, P.LA.fr ((Fr.refl _ _).drew), by rw [hxa], K.x3, fun i v hv => ?_⟩
    have hl := (List.getElem?_eq_some_iff.1 hv).1
    have hg : args.getD i nilV = v := by rw [List.getD_eq_getElem?_getD, hv]; rfl
    have : i = 0 ∨ i = 1 ∨ i = 2 := by omega
    rcases this with rfl | rfl | rfl <;> (rw [← hg]; exact ⟨rfl, rfl, rfl⟩)
  have C := enter_m P.B.drew K.ref (by have := K.tl; omega) (by have := K.d8; omega) (by have := K.vl; omega) hq q1 (by omega) q2 (K.no.a _ q1) K.no.nx K.no.l args _ AS K.x3 0 (c' := fn.n) (p' := 0) rfl rfl
  have HC := hid C
  have HEND : Hid (∀ e w' A', e = Ending.returned (.tuple #[]) → RB w A N root w' A' (m.enter N root fn.n args 0) → Q e w') := fun e w' A' he hb => by rw [← HQ.out, he]; exact hb.end
  obtain ⟨d2, ld⟩ := P.dep
  have f0 := P.LF.h.cell 0
  have f1 := P.LF.h.cell 1
  have lf := P.LF.h.lt
  have lA := P.LA.h.lt
  simp only [vlC, List.getElem?_toArray, List.getElem?_cons_zero, List.getElem?_cons_succ] at f0 f1
  rw [h5] at f0
  obtain ⟨dp, HDP⟩ : ∃ dp : Nat, Hid (m.th.depth = dp) := ⟨_, rfl⟩
  rw [HDP.out] at d2 hd
  have hdi : ¬ (8 : Int) ≤ (dp : Int) := by omega
  obtain ⟨fi, HFI⟩ : ∃ fi : Nat, Hid (fn.n = fi) := ⟨_, rfl⟩
  rw [HFI.out] at f1 HC hcl HEND
  have hfi : fi < 24 := by omega
  clear C P K H HQ hd q2 hq q1 AS hcl c24 hxa
  obtain ⟨c, hc⟩ : ∃ c, c = apT Tryz.f126.body := ⟨_, rfl⟩
  rw [← hc]
  simp only [apT, cR, Tryz.f126, Option.getD_some] at hc
  subst hc
  have : x = 0 ∨ x = 1 ∨ x = 2 ∨ x = 3 := by omega
  rcases this with rfl | rfl | rfl | rfl
  all_goals
    go_wp2_with fail
    refine C.wp_region_tail 6 (by kernel_rfl) (by kernel_rfl) (fun _ _ _ _ _ h => h) ?_
    simp only [List.take_succ_cons, List.take_zero, List.drop_succ_cons, List.drop_zero]
    repeat go_big_quiet_step (fail)
    refine wpQuiet_nil ?_
    go_wp2_with fail
    refine HC.out.mono ?_
    rintro e w' ⟨rfl, A', hb, _⟩
    have HQ2 := hid (HEND.out _ _ _ rfl hb)
    clear hb
    go_wp2
    refine bodyPost_ret (results_none rfl _ _ _) rfl ?_
    exact HQ2.out
/-- the way to the builtins -/
theorem ap_in (P : ApB w A N root W A1 m bA bF xb fn args) (h6 : fn.t = 6) {xv : Value} (H : FrAp (.pointer (some ⟨A.br, 0, none⟩)) xv (.pointer (some ⟨xb, 0, none⟩)) (.pointer (some ⟨bA, 0, none⟩)) (.pointer (some ⟨bF, 0, none⟩)) a)
    (hT : ∀ (W1 : World) (ba bb bp bq : Nat) (a : Act), ApC w A N root W1 A1 m bA bF xb ba bb bp bq fn args → FrAq (.pointer (some ⟨A.br, 0, none⟩)) (.pointer (some ⟨xb, 0, none⟩)) (.pointer (some ⟨bA, 0, none⟩)) (.pointer (some ⟨bF, 0, none⟩)) (.pointer (some ⟨ba, 0, none⟩)) (.pointer (some ⟨bb, 0, none⟩)) (.pointer (some ⟨bp, 0, none⟩)) (.pointer (some ⟨bq, 0, none⟩)) a → (apB Tryz.f126.body).wp Tryz.prog (bodyPost Tryz.prog Tryz.f126 (PQm w A N root R)) a W1) :
    (apT Tryz.f126.body).wp Tryz.prog (bodyPost Tryz.prog Tryz.f126 (PQm w A N root R)) a W := by
  obtain ⟨u, rfl⟩ := H.form
  obtain ⟨TL, HTL⟩ : ∃ TL, Hid (apB Tryz.f126.body = TL) := ⟨_, rfl⟩
  have EQ : apT Tryz.f126.body = Code.seq (cL (apT Tryz.f126.body)) (Code.seq (cL (cR (apT Tryz.f126.body))) (Code.seq (cL (cR (cR (apT Tryz.f126.body)))) (Code.seq (cL (cR (cR (cR (apT Tryz.f126.body))))) (Code.seq (cL (cR (cR (cR (cR (apT Tryz.f126.body)))))) (apB Tryz.f126.body))))) := by kernel_rfl
  rw [HTL.out] at hT
  obtain ⟨Q, HQ⟩ : ∃ Q : Exit → Act → World → Prop, Hid (bodyPost Tryz.prog Tryz.f126 (PQm w A N root R) = Q) := ⟨_, rfl⟩
  rw [HQ.out] at hT ⊢
  have HT := hid hT
  have f0 := P.LF.h.cell 0
  have lf := P.LF.h.lt
  simp only [vlC, List.getElem?_toArray, List.getElem?_cons_zero] at f0
  rw [h6] at f0
  obtain ⟨⟨at', an, axs⟩, HA⟩ : ∃ v, Hid (args.getD 0 nilV = v) := ⟨_, rfl⟩
  obtain ⟨⟨bt, bn, bs⟩, HBB⟩ : ∃ v, Hid (args.getD 1 nilV = v) := ⟨_, rfl⟩
  have z0 := P.LA.h.cell 0
  have z1 := P.LA.h.cell 1
  have z2 := P.LA.h.cell 2
  have z3 := P.LA.h.cell 3
  have z4 := P.LA.h.cell 4
  have z5 := P.LA.h.cell 5
  have lA := P.LA.h.lt
  simp only [arC, List.getElem?_toArray, List.getElem?_cons_succ, List.getElem?_cons_zero] at z0 z1 z2 z3 z4 z5
  rw [HA.out] at z0 z1 z2
  rw [HBB.out] at z3 z4 z5
  dsimp only at z0 z1 z2 z3 z4 z5
  have g1 : Fr (fun _ => False) W (W.alloc (.cells #[.int .i64 at', .int .u64 an, sv axs] 68)) := (Fr.refl _ _).alloc _
  obtain ⟨W1, HW1⟩ : ∃ W1, Hid (W.alloc (.cells #[.int .i64 at', .int .u64 an, sv axs] 68) = W1) := ⟨_, rfl⟩
  have ow := P.B.r.own
  have L1 : LcB W1 A1 W.heap.size (vlC (args.getD 0 nilV)) 68 := by rw [← HW1.out, HA.out]; exact LcB.new ow _ _
  have s1 : W1.heap.size = W.heap.size + 1 := by rw [← HW1.out]; simp
  rw [HW1.out] at g1
  have P1 := P.B.fresh g1
  obtain ⟨W2, HW2⟩ : ∃ W2, Hid (W1.alloc (.cells #[.int .i64 bt, .int .u64 bn, sv bs] 68) = W2) := ⟨_, rfl⟩
  have g2 : Fr (fun _ => False) W1 W2 := by rw [← HW2.out]; exact (Fr.refl _ _).alloc _
  have L2 : LcB W2 A1 W1.heap.size (vlC (args.getD 1 nilV)) 68 := by rw [← HW2.out, HBB.out]; exact LcB.new P1.r.own _ _
  have s2 : W2.heap.size = W1.heap.size + 1 := by rw [← HW2.out]; simp
  have P2 := P1.fresh g2
  obtain ⟨W3, HW3⟩ : ∃ W3, Hid (W2.alloc (.cells #[.int .i64 0, .int .u64 0, sv []] 68) = W3) := ⟨_, rfl⟩
  have g3 : Fr (fun _ => False) W2 W3 := by rw [← HW3.out]; exact (Fr.refl _ _).alloc _
  have L3 : LcB W3 A1 W2.heap.size (vlC nilV) 68 := by rw [← HW3.out]; exact LcB.new P2.r.own _ _
  have s3 : W3.heap.size = W2.heap.size + 1 := by rw [← HW3.out]; simp
  have P3 := P2.fresh g3
  obtain ⟨W4, HW4⟩ : ∃ W4, Hid (W3.alloc (.cells #[.int .i64 0, .int .u64 0, sv []] 68) = W4) := ⟨_, rfl⟩
  have g4 : Fr (fun _ => False) W3 W4 := by rw [← HW4.out]; exact (Fr.refl _ _).alloc _
  have L4 : LcB W4 A1 W3.heap.size (vlC nilV) 68 := by rw [← HW4.out]; exact LcB.new P3.r.own _ _
  have P4 := P3.fresh g4
  have AP : ApC w A N root W4 A1 m bA bF xb W.heap.size W1.heap.size W2.heap.size W3.heap.size fn args :=
    ⟨P4, (((P.LA.fr g1).fr g2).fr g3).fr g4, (((P.LF.fr g1).fr g2).fr g3).fr g4, P.x, ((L1.fr g2).fr g3).fr g4, (L2.fr g3).fr g4, L3.fr g4, L4, by omega, by have := P.B.s.s.fr.size; omega⟩
  rw [s3, s2, s1] at AP
  have HAP := hid AP
  clear AP P P1 P2 P3 P4 L1 L2 L3 L4 g1 g2 g3 g4 ow s1 s2 s3 H hT HA HBB
  rw [HTL.out] at EQ
  clear HTL
  rw [EQ]
  clear EQ
  simp only [apT, cL, cR, Tryz.f126, Option.getD_some]
  go_wp2_with fail
  rw [HW1.out, HW2.out, HW3.out, HW4.out]
  exact HT.out _ _ _ _ _ _ HAP.out ⟨by kernel_rfl, by kernel_rfl, by kernel_rfl, by kernel_rfl, by kernel_rfl, by kernel_rfl, by kernel_rfl, by kernel_rfl, by kernel_rfl, rfl⟩
end
end Go.Proofs.Qxb6500574aGreatDoor
