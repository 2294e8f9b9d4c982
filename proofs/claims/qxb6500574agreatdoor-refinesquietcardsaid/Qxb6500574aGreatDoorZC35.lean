/-
  THE WALKS of compm: apply: create.
-/
import Derived.Test.Qxb6500574aGreatDoorZC32
namespace Go.Proofs.Qxb6500574aGreatDoor
open Go Go.RowKit
set_option linter.unusedVariables false
set_option linter.unusedSimpArgs false
theorem rowThP : IsRow Tryz.prog 170 180 (.pointer none) 1 8 := ⟨by kernel_rfl, by kernel_rfl, rfl, by decide⟩
/-- two cells are known -/
structure C2z (b1 i1 : Nat) (v1 : Value) (b2 i2 : Nat) (v2 : Value) where
  y : World
  c1 : y.cell? ⟨b1, i1, none⟩ = some v1
  c2 : y.cell? ⟨b2, i2, none⟩ = some v2
/-- one more thread -/
theorem MRep.addTh {W : World} {A1 : RnP} {N : List Nd} {root : Nat} {M : MD} (h : MRep W A1 N root M) (h5 : M.ths.length < 5) {T : MTh} {x : XtP} (n : ThM W A1.o A1.E M.ths.length T x) {w1 w2 : World} {g cap : Nat} (hf : Fr (fun _ => False) W w1)
    (q1 : w2.ownsRow 0 180 1 (.slice (some ⟨g, 0, none⟩) (M.ths.length + 1) cap) (M.ths.length + 1) (A1.X.flatMap xtV ++ xtV x)) (q2 : Fr (fun k => (A1.th.v M.ths.length).ownBlock = some k) w1 w2) (q3 : (A1.th.v M.ths.length).ownBlock = some g ∨ W.heap.size ≤ g) (q4 : g < w2.heap.size) :
    Has w2 A1.br (rnV A1 N root M) 173 ∧ ∃ A', MRep (w2.setCell ⟨A1.br, 5, none⟩ (.slice (some ⟨g, 0, none⟩) (M.ths.length + 1) cap)) A' N root { M with ths := M.ths ++ [T] } ∧ MSt W A1 (w2.setCell ⟨A1.br, 5, none⟩ (.slice (some ⟨g, 0, none⟩) (M.ths.length + 1) cap)) A' := by
  obtain ⟨r1, r2⟩ := h.ths.app hf q1 q2 q3 q4
  have hb := h.run.st r2 (by omega)
  obtain ⟨p1, p2⟩ := hb.put 5 (.slice (some ⟨g, 0, none⟩) (M.ths.length + 1) cap) (cs' := rnV { A1 with o := upd A1.o g 5, th := ⟨some ⟨g, 0, none⟩, cap⟩, X := A1.X ++ [x] } N root { M with ths := M.ths ++ [T] }) (by simp [rnV])
  have t : Stp (fun l => l = 5 ∨ l = 1) W A1.o _ _ := (r2.weaken (fun l hl => .inl hl)).trans (p2.weaken (fun l hl => .inr hl))
  have lx := h.lx
  refine ⟨hb.has, { A1 with o := upd A1.o g 5, th := ⟨some ⟨g, 0, none⟩, cap⟩, X := A1.X ++ [x] }, ⟨p1, h.tab.st t (fun l hl => by unfold isTm at hl; omega), h.tabs, h.clo.st t (by omega), ?_, by simp [lx], by simp; omega, fun i U y a b => ?_, h.le, fun i e a => (h.env i e a).st t (by omega), h.nod.st t (by omega), h.skl, h.sk, h.don, t.hi h.own⟩, ⟨t.weaken (fun l hl => by omega), rfl, rfl, rfl, List.prefix_rfl, fun i y hy => ⟨y, ?_, rfl⟩⟩⟩
  · show Row _ _ _ _ _ _ (M.ths ++ [T]).length ((A1.X ++ [x]).flatMap xtV)
    rw [List.length_append, List.flatMap_append]
    have e : [x].flatMap xtV = xtV x := by simp
    rw [e]
    exact r1.st p2 (by omega)
  · have a : (M.ths ++ [T])[i]? = some U := a
    have b : (A1.X ++ [x])[i]? = some y := b
    have hi := (List.getElem?_eq_some_iff.1 a).1
    simp at hi
    by_cases e : i < M.ths.length
    · rw [List.getElem?_append_left e] at a
      rw [List.getElem?_append_left (by omega)] at b
      exact (h.one i U y a b).st t (by omega) (by omega) (by omega)
    · have e : i = M.ths.length := by omega
      subst e
      rw [List.getElem?_append_right (Nat.le_refl _)] at a
      rw [List.getElem?_append_right (by omega)] at b
      simp at a
      simp [lx] at b
      rw [← a, ← b]
      exact n.st t (by omega) (by omega) (by omega)
  · show (A1.X ++ [x])[i]? = some y
    rw [List.getElem?_append_left (List.getElem?_eq_some_iff.1 hy).1]
    exact hy
/-- a new block gets a label -/
theorem Stp.lab2 (Q : Nat → Prop) {w w' : World} {o : Nat → Nat} {b l : Nat} (f : Fr (fun _ => False) w w') (h1 : w.heap.size ≤ b) (h2 : b < w'.heap.size) : Stp Q w o w' (upd o b l) :=
  ⟨f.weaken (fun _ _ x => x.elim), fun k hk => upd_ne o l (by omega), fun y k hk => by rw [upd_ne o l (by omega)]; exact y k (Nat.le_trans f.size hk)⟩
theorem MRep.newTh {W Wb : World} {A1 : RnP} {N : List Nd} {root : Nat} {M : MD} (h : MRep W A1 N root M) (f : Fr (fun _ => False) W Wb) {T : MTh} {x : XtP} (hb : Has Wb x.b (thV x T) 183) (l1 : W.heap.size ≤ x.b) (e1 : T.tasks = []) (e2 : T.vals = []) (hx : x.tk = sl0 ∧ x.vl = sl0 := by exact ⟨rfl, rfl⟩) :
    MRep Wb { A1 with o := upd A1.o x.b (10 + M.ths.length) } N root M ∧ MSt W A1 Wb { A1 with o := upd A1.o x.b (10 + M.ths.length) } ∧ ThM Wb (upd A1.o x.b (10 + M.ths.length)) A1.E M.ths.length T x := by
  have t := Stp.lab2 (fun _ => False) (o := A1.o) (l := 10 + M.ths.length) f l1 hb.lt
  refine ⟨h.st t (fun _ _ x => x), ⟨t.weaken (fun _ x => x.elim), rfl, rfl, rfl, List.prefix_rfl, fun j y hy => ⟨y, hy, rfl⟩⟩, ⟨⟨hb, upd_self _ _ _⟩, ?_, ?_⟩⟩
  · rw [e1, hx.1]
    exact Row.nil _ _ _ _ _
  · rw [e2, hx.2]
    exact Row.nil _ _ _ _ _
section
variable {w W W1 : World} {A A1 A2 : RnP} {N : List Nd} {root : Nat} {m R : MD} {bA bF xb ba bb bp bq x : Nat} {fn p q : Vl} {args : List Vl} {a : Act}
set_option maxRecDepth 100000
set_option maxHeartbeats 2000000
theorem ap_b8a (P : ApC w A N root W A1 m bA bF xb ba bb bp bq fn args) (K : ApOk N m fn args) (H : FrAq (.pointer (some ⟨A.br, 0, none⟩)) (.pointer (some ⟨xb, 0, none⟩)) (.pointer (some ⟨bA, 0, none⟩)) (.pointer (some ⟨bF, 0, none⟩)) (.pointer (some ⟨ba, 0, none⟩)) (.pointer (some ⟨bb, 0, none⟩)) (.pointer (some ⟨bp, 0, none⟩)) (.pointer (some ⟨bq, 0, none⟩)) a) (hn : fn.n = 8) (ht : (args.getD 0 nilV).t ≠ 5) :
    (apB Tryz.f126.body).wp Tryz.prog (bodyPost Tryz.prog Tryz.f126 (PQm w A N root (m.raise mCall))) a W := by
  obtain ⟨u, rfl⟩ := H.form
  obtain ⟨Q, HQ⟩ : ∃ Q : Ending → World → Prop, Hid (PQm w A N root (m.raise mCall) = Q) := ⟨_, rfl⟩
  rw [HQ.out]
  have f1 := P.LF.h.cell 1
  have lf := P.LF.h.lt
  simp only [vlC, List.getElem?_toArray, List.getElem?_cons_zero, List.getElem?_cons_succ] at f1
  rw [hn] at f1
  have f1 : W.cell? ⟨bF, 1, none⟩ = some (.int .u64 8) := f1
  have va : VM m (args.getD 0 nilV) := vk_getD K.arV 0
  have vb : VM m (args.getD 1 nilV) := vk_getD K.arV 1
  have nb := va.big K.u.t12 K.u.c24 K.u.h5
  obtain ⟨⟨at', an, axs⟩, HA⟩ : ∃ v, Hid (args.getD 0 nilV = v) := ⟨_, rfl⟩
  obtain ⟨⟨bt, bn, bxs⟩, HBB⟩ : ∃ v, Hid (args.getD 1 nilV = v) := ⟨_, rfl⟩
  have La := P.La
  have Lb := P.Lb
  rw [HA.out] at va La nb ht
  rw [HBB.out] at vb Lb
  try rw [HA.out] at HQ
  try rw [HBB.out] at HQ
  dsimp only at nb ht
  obtain ⟨p0, p1, p2, p3, p4, p5, lp⟩ := P.d.pc
  obtain ⟨q0, q1, q2, q3, q4, q5, lq⟩ := P.d.qc
  have HVL : Hid (m.th.vals.length ≤ 900000) := K.vl
  have a0 := La.h.cell 0
  have a1 := La.h.cell 1
  have a2 := La.h.cell 2
  have b0 := Lb.h.cell 0
  have b1 := Lb.h.cell 1
  have b2 := Lb.h.cell 2
  have la := La.h.lt
  have lb := Lb.h.lt
  simp only [vlC, List.getElem?_toArray, List.getElem?_cons_succ, List.getElem?_cons_zero] at a0 a1 a2 b0 b1 b2
  dsimp only [nilV] at p0 p1 p2 q0 q1 q2
  obtain ⟨cc0, cc1, lcc⟩ := P.B.c0
  have HP := hid P
  have HK := hid K
  have HVA := hid va
  have HVB := hid vb
  have HLa := hid La
  have HLb := hid Lb
  clear P K H va vb La Lb
  obtain ⟨c, hc⟩ : ∃ c, c = apB Tryz.f126.body := ⟨_, rfl⟩
  rw [← hc]
  simp only [apB, apT, cR, Tryz.f126, Option.getD_some] at hc
  subst hc
  have e7 : (at' != 5) = true := by rw [bne_iff_ne]; exact ht
  have HC : Hid (Calls Tryz.prog 121 #[.pointer (some ⟨A.br, 0, none⟩), sv [99, 97, 108, 108]] W (PQm w A N root (m.raise mCall))) := HP.out.B.raise HK.out.thr mCall (by decide)
  go_wp2_with fail
  refine HC.out.mono ?_
  intro e3 w3 hq
  obtain rfl := hq.1
  have FIN : Hid (Q (.returned (.tuple #[])) w3) := by
    show Q _ _
    rw [← HQ.out]
    exact hq
  clear hq
  go_wp2
  refine bodyPost_ret (results_none rfl _ _ _) rfl ?_
  exact FIN.out
theorem ap_b8b (P : ApC w A N root W A1 m bA bF xb ba bb bp bq fn args) (K : ApOk N m fn args) (H : FrAq (.pointer (some ⟨A.br, 0, none⟩)) (.pointer (some ⟨xb, 0, none⟩)) (.pointer (some ⟨bA, 0, none⟩)) (.pointer (some ⟨bF, 0, none⟩)) (.pointer (some ⟨ba, 0, none⟩)) (.pointer (some ⟨bb, 0, none⟩)) (.pointer (some ⟨bp, 0, none⟩)) (.pointer (some ⟨bq, 0, none⟩)) a) (hn : fn.n = 8) (ht : (args.getD 0 nilV).t = 5) (h5 : 5 ≤ m.ths.length) :
    (apB Tryz.f126.body).wp Tryz.prog (bodyPost Tryz.prog Tryz.f126 (PQm w A N root (m.finish 8 [45]))) a W := by
  obtain ⟨u, rfl⟩ := H.form
  obtain ⟨Q, HQ⟩ : ∃ Q : Ending → World → Prop, Hid (PQm w A N root (m.finish 8 [45]) = Q) := ⟨_, rfl⟩
  rw [HQ.out]
  have f1 := P.LF.h.cell 1
  have lf := P.LF.h.lt
  simp only [vlC, List.getElem?_toArray, List.getElem?_cons_zero, List.getElem?_cons_succ] at f1
  rw [hn] at f1
  have f1 : W.cell? ⟨bF, 1, none⟩ = some (.int .u64 8) := f1
  have va : VM m (args.getD 0 nilV) := vk_getD K.arV 0
  have vb : VM m (args.getD 1 nilV) := vk_getD K.arV 1
  have nb := va.big K.u.t12 K.u.c24 K.u.h5
  obtain ⟨⟨at', an, axs⟩, HA⟩ : ∃ v, Hid (args.getD 0 nilV = v) := ⟨_, rfl⟩
  obtain ⟨⟨bt, bn, bxs⟩, HBB⟩ : ∃ v, Hid (args.getD 1 nilV = v) := ⟨_, rfl⟩
  have La := P.La
  have Lb := P.Lb
  rw [HA.out] at va La nb ht
  rw [HBB.out] at vb Lb
  try rw [HA.out] at HQ
  try rw [HBB.out] at HQ
  dsimp only at nb ht
  obtain ⟨p0, p1, p2, p3, p4, p5, lp⟩ := P.d.pc
  obtain ⟨q0, q1, q2, q3, q4, q5, lq⟩ := P.d.qc
  have HVL : Hid (m.th.vals.length ≤ 900000) := K.vl
  have a0 := La.h.cell 0
  have a1 := La.h.cell 1
  have a2 := La.h.cell 2
  have b0 := Lb.h.cell 0
  have b1 := Lb.h.cell 1
  have b2 := Lb.h.cell 2
  have la := La.h.lt
  have lb := Lb.h.lt
  simp only [vlC, List.getElem?_toArray, List.getElem?_cons_succ, List.getElem?_cons_zero] at a0 a1 a2 b0 b1 b2
  dsimp only [nilV] at p0 p1 p2 q0 q1 q2
  obtain ⟨cc0, cc1, lcc⟩ := P.B.c0
  have HP := hid P
  have HK := hid K
  have HVA := hid va
  have HVB := hid vb
  have HLa := hid La
  have HLb := hid Lb
  have c5 : W.cell? ⟨A.br, 5, none⟩ = some (.slice A1.th.a m.ths.length A1.th.c) := by rw [← P.B.s.br]; exact P.B.r.rc 5 rfl
  have f5 : W.frozen? ⟨A.br, 5, none⟩ = false := by rw [← P.B.s.br]; exact P.B.r.run.has.frozen 5
  have t5 := P.B.r.l5
  obtain ⟨LT, HLT⟩ : ∃ LT : Nat, Hid (m.ths.length = LT) := ⟨_, rfl⟩
  rw [HLT.out] at c5 t5 h5
  subst ht
  clear P K H va vb La Lb
  obtain ⟨c, hc⟩ : ∃ c, c = apB Tryz.f126.body := ⟨_, rfl⟩
  rw [← hc]
  simp only [apB, apT, cR, Tryz.f126, Option.getD_some] at hc
  subst hc
  have hli : ((5 : Int) ≤ (LT : Int)) = True := by simp; omega
  have HC := hid (HP.out.B.finish 8 [45] (e' := 8) rfl)
  clear h5
  go_wp2_with fail
  refine HC.out.mono ?_
  rintro e3 w3 ⟨rfl, A3, B3, S3⟩
  have FIN : Hid (Q (.returned (.tuple #[])) w3) := by
    show Q _ _
    rw [← HQ.out]
    exact B3.end
  clear B3 S3
  go_wp2
  refine bodyPost_ret (results_none rfl _ _ _) rfl ?_
  exact FIN.out
theorem ap_b8c (P : ApC w A N root W A1 m bA bF xb ba bb bp bq fn args) (K : ApOk N m fn args) (H : FrAq (.pointer (some ⟨A.br, 0, none⟩)) (.pointer (some ⟨xb, 0, none⟩)) (.pointer (some ⟨bA, 0, none⟩)) (.pointer (some ⟨bF, 0, none⟩)) (.pointer (some ⟨ba, 0, none⟩)) (.pointer (some ⟨bb, 0, none⟩)) (.pointer (some ⟨bp, 0, none⟩)) (.pointer (some ⟨bq, 0, none⟩)) a) (hn : fn.n = 8) (ht : (args.getD 0 nilV).t = 5) (h5 : m.ths.length < 5) :
    (apB Tryz.f126.body).wp Tryz.prog (bodyPost Tryz.prog Tryz.f126 (PQm w A N root (({ m with ths := m.ths ++ [⟨1, (args.getD 0 nilV).n, 0, [], []⟩] } : MD).push [⟨7, m.ths.length, []⟩, nilV]))) a W := by
  obtain ⟨u, rfl⟩ := H.form
  obtain ⟨Q, HQ⟩ : ∃ Q : Ending → World → Prop, Hid (PQm w A N root (({ m with ths := m.ths ++ [⟨1, (args.getD 0 nilV).n, 0, [], []⟩] } : MD).push [⟨7, m.ths.length, []⟩, nilV]) = Q) := ⟨_, rfl⟩
  rw [HQ.out]
  have f1 := P.LF.h.cell 1
  have lf := P.LF.h.lt
  simp only [vlC, List.getElem?_toArray, List.getElem?_cons_zero, List.getElem?_cons_succ] at f1
  rw [hn] at f1
  have f1 : W.cell? ⟨bF, 1, none⟩ = some (.int .u64 8) := f1
  have va : VM m (args.getD 0 nilV) := vk_getD K.arV 0
  have vb : VM m (args.getD 1 nilV) := vk_getD K.arV 1
  have nb := va.big K.u.t12 K.u.c24 K.u.h5
  obtain ⟨⟨at', an, axs⟩, HA⟩ : ∃ v, Hid (args.getD 0 nilV = v) := ⟨_, rfl⟩
  obtain ⟨⟨bt, bn, bxs⟩, HBB⟩ : ∃ v, Hid (args.getD 1 nilV = v) := ⟨_, rfl⟩
  have La := P.La
  have Lb := P.Lb
  rw [HA.out] at va La nb ht
  rw [HBB.out] at vb Lb
  try rw [HA.out] at HQ
  try rw [HBB.out] at HQ
  dsimp only at nb ht
  obtain ⟨p0, p1, p2, p3, p4, p5, lp⟩ := P.d.pc
  obtain ⟨q0, q1, q2, q3, q4, q5, lq⟩ := P.d.qc
  have HVL : Hid (m.th.vals.length ≤ 900000) := K.vl
  have a0 := La.h.cell 0
  have a1 := La.h.cell 1
  have a2 := La.h.cell 2
  have b0 := Lb.h.cell 0
  have b1 := Lb.h.cell 1
  have b2 := Lb.h.cell 2
  have la := La.h.lt
  have lb := Lb.h.lt
  simp only [vlC, List.getElem?_toArray, List.getElem?_cons_succ, List.getElem?_cons_zero] at a0 a1 a2 b0 b1 b2
  dsimp only [nilV] at p0 p1 p2 q0 q1 q2
  obtain ⟨cc0, cc1, lcc⟩ := P.B.c0
  have HP := hid P
  have HK := hid K
  have HVA := hid va
  have HVB := hid vb
  have HLa := hid La
  have HLb := hid Lb
  have c5 : W.cell? ⟨A.br, 5, none⟩ = some (.slice A1.th.a m.ths.length A1.th.c) := by rw [← P.B.s.br]; exact P.B.r.rc 5 rfl
  have f5 : W.frozen? ⟨A.br, 5, none⟩ = false := by rw [← P.B.s.br]; exact P.B.r.run.has.frozen 5
  have t5 := P.B.r.l5
  obtain ⟨LT, HLT⟩ : ∃ LT : Nat, Hid (m.ths.length = LT) := ⟨_, rfl⟩
  rw [HLT.out] at c5 t5 h5
  subst ht
  clear P K H va vb La Lb
  have HEND : Hid (∀ (a : Act) (W' : World) (A' : RnP), ApD w A N root W' A' (({ m with ths := m.ths ++ [⟨1, an, 0, [], []⟩] } : MD)) bp bq ⟨7, m.ths.length, []⟩ nilV → FrAe (.pointer (some ⟨A.br, 0, none⟩)) (.pointer (some ⟨bp, 0, none⟩)) (.pointer (some ⟨bq, 0, none⟩)) a → (apE Tryz.f126.body).wp Tryz.prog (bodyPost Tryz.prog Tryz.f126 Q) a W') := fun a W' A' D H => by
    rw [← HQ.out]
    exact ap_end D (by
      have := HVL.out
      have e : ({ m with ths := m.ths ++ [⟨1, an, 0, [], []⟩] } : MD).th = m.th := by
        unfold MD.th
        show (m.ths ++ [_]).getD m.cur mt0 = _
        rw [List.getD_eq_getElem?_getD, List.getElem?_append_left HP.out.B.c, ← List.getD_eq_getElem?_getD]
      rw [e]
      exact this) H
  obtain ⟨TL, HTL⟩ : ∃ TL, Hid (apE Tryz.f126.body = TL) := ⟨_, rfl⟩
  have EQ : apB Tryz.f126.body = Code.seq (cL (apB Tryz.f126.body)) (apE Tryz.f126.body) := by kernel_rfl
  rw [HTL.out] at EQ HEND
  rw [EQ]
  obtain ⟨c, hc⟩ : ∃ c, c = cL (apB Tryz.f126.body) := ⟨_, rfl⟩
  rw [← hc]
  clear EQ HTL
  simp only [apB, apT, cR, cL, Tryz.f126, Option.getD_some] at hc
  subst hc
  rw [HLT.out] at HEND
  have hli : ((5 : Int) ≤ (LT : Int)) = False := by simp; omega
  have hca : an < 100 := Nat.lt_of_lt_of_le (HVA.out.f rfl) (by have := HK.out.u.c24; omega)
  have k0 := fun z : C2z A.br 5 (.slice A1.th.a LT A1.th.c) ba 1 (.int .u64 an) => z.c1
  have k1 := fun z : C2z A.br 5 (.slice A1.th.a LT A1.th.c) ba 1 (.int .u64 an) => z.c2
  have NE : Nonempty (C2z A.br 5 (.slice A1.th.a LT A1.th.c) ba 1 (.int .u64 an)) := ⟨⟨W, c5, a1⟩⟩
  go_wp2_with fail
  refine C.wp_region_head 9 3 (fun y => ∃ s : C2z A.br 5 (.slice A1.th.a LT A1.th.c) ba 1 (.int .u64 an), y = s.y) (by kernel_rfl) (by kernel_rfl) (fun _ _ _ _ _ h => h) ⟨⟨W.drew, c5, a1⟩, rfl⟩ ?_
  simp only [List.take_succ_cons, List.take_zero, List.drop_succ_cons, List.drop_zero]
  repeat go_big_quiet_step (fail)
  refine wpQuiet_nil ?_
  clear k0 k1 NE
  unfold C.wpChain
  go_wp2_with fail
  obtain ⟨Wb, HWb⟩ : ∃ Wb, Hid ((W.alloc (.cells #[.int .i64 1, .int .i64 (an : Nat), .int .i64 0, .slice none 0 0, .slice none 0 0] 183)).drew = Wb) := ⟨_, rfl⟩
  obtain ⟨tb, HTB⟩ : ∃ tb, Hid (W.heap.size = tb) := ⟨_, rfl⟩
  have FB : Fr (fun _ => False) W Wb := by rw [← HWb.out]; exact ((Fr.refl _ _).alloc _).drew
  have hTb : Has Wb tb #[.int .i64 1, .int .i64 (an : Nat), .int .i64 0, .slice none 0 0, .slice none 0 0] 183 := by rw [← HWb.out, ← HTB.out]; exact (Has.new _ _ _).drew
  rw [HWb.out, HTB.out]
  refine ⟨⟨⟨Wb, FB.cell c5, FB.cell a1⟩, rfl⟩, ?_⟩
  unfold C.wpChain
  go_wp2_with fail
  obtain ⟨Wc, HWc⟩ : ∃ Wc, Hid (Wb.alloc (.cells #[.pointer (some ⟨tb, 0, none⟩)] 180) = Wc) := ⟨_, rfl⟩
  have FC : Fr (fun _ => False) Wb Wc := by rw [← HWc.out]; exact (Fr.refl _ _).alloc _
  have hSc : Has Wc Wb.heap.size #[.pointer (some ⟨tb, 0, none⟩)] 180 := by rw [← HWc.out]; exact Has.new _ _ _
  obtain ⟨sb, HSB⟩ : ∃ sb, Hid (Wb.heap.size = sb) := ⟨_, rfl⟩
  rw [HWc.out, HSB.out]
  rw [HSB.out] at hSc
  refine ⟨⟨⟨Wc, FC.cell (FB.cell c5), FC.cell (FB.cell a1)⟩, rfl⟩, ?_⟩
  -- the new thread in memory
  have lTB : W.heap.size ≤ tb := by rw [HTB.out]; exact Nat.le_refl _
  obtain ⟨RB1, RB2, RB3⟩ := HP.out.B.r.newTh FB (T := ⟨1, an, 0, [], []⟩) (x := ⟨tb, sl0, sl0⟩) hTb lTB rfl rfl
  have HOWN : Wc.ownsRow 0 180 1 (.slice A1.th.a LT A1.th.c) LT (A1.X.flatMap xtV) := by
    have := (RB1.ths.st (Stp.fresh (fun _ => False) _ FC) (fun x => x)).own
    rw [HLT.out] at this
    exact this
  obtain ⟨g3, cap3, w3, hr, q1, q2, q3, q4⟩ := app_run rowThP Wc 170 (.slice A1.th.a LT A1.th.c) LT (A1.X.flatMap xtV) HOWN sb [.pointer (some ⟨tb, 0, none⟩)] hSc rfl (by simp [Value.oneCell']) (by omega)
  have q1' : w3.ownsRow 0 180 1 (.slice (some ⟨g3, 0, none⟩) (m.ths.length + 1) cap3) (m.ths.length + 1) (A1.X.flatMap xtV ++ xtV ⟨tb, sl0, sl0⟩) := by rw [HLT.out]; exact q1
  have q2' : Fr (fun k => (Sl.v A1.th m.ths.length).ownBlock = some k) Wc w3 := by rw [HLT.out]; exact q2
  have q3' : (Sl.v A1.th m.ths.length).ownBlock = some g3 ∨ Wb.heap.size ≤ g3 := by
    rw [HLT.out]
    rcases q3 with z | z
    · exact .inl z
    · right; rw [z]; exact FC.size
  obtain ⟨hrun, A6, R6, S6⟩ := RB1.addTh (by rw [HLT.out]; omega) RB3 FC q1' q2' q3' q4
  have hn5 : ∀ k, A1.o k ≠ 5 → k < W.heap.size → ¬ ((Sl.v A1.th m.ths.length).ownBlock = some k) := fun k hk hl z => hk (HP.out.B.r.ths.lb k (by
    have : (Value.slice A1.th.a m.ths.length A1.th.c).ownBlock = some k := z
    rw [ownBlock_any _ _ _ 0 0] at this
    exact this))
  have kp : ∀ {b : Nat} {cs : Array Value} {T : TypeId}, LcB W A1 b cs T → Has w3 b cs T := fun {b cs T} h => ((h.h.fr FB (fun x => x)).fr FC (fun x => x)).fr q2' (hn5 b (by rw [h.z]; decide) h.h.lt)
  have HS6 : Hid (MSt W A1 _ A6) := RB2.trans S6
  have HR6 := hid R6
  have obr : A1.o A.br = 1 := by rw [← HP.out.B.s.br]; exact HP.out.B.r.run.lb
  have w5 : w3.cell? ⟨A.br, 5, none⟩ = some (.slice A1.th.a LT A1.th.c) := by
    have := hrun.cell 5
    have e : A1.br = A.br := HP.out.B.s.br
    have this : w3.cell? ⟨A1.br, 5, none⟩ = some (.slice A1.th.a m.ths.length A1.th.c) := this
    rw [e, HLT.out] at this
    exact this
  have wf5 : w3.frozen? ⟨A.br, 5, none⟩ = false := by have := hrun.frozen 5; rw [← HP.out.B.s.br]; exact this
  have wbr : A.br < w3.heap.size := by have := hrun.lt; rw [← HP.out.B.s.br]; exact this
  have wa1 : w3.cell? ⟨ba, 1, none⟩ = some (.int .u64 an) := by have := (kp HLa.out).cell 1; exact this
  have HP3 := kp HP.out.d.Lp
  have p0 := HP3.cell 0
  have p1 := HP3.cell 1
  have p2 := HP3.cell 2
  have p3 := HP3.frozen 0
  have p4 := HP3.frozen 1
  have p5 := HP3.frozen 2
  have lp := HP3.lt
  simp only [vlC, nilV, List.getElem?_toArray, List.getElem?_cons_succ, List.getElem?_cons_zero] at p0 p1 p2
  have np : bp ≠ A.br := fun e => by have := HP.out.d.Lp.z; rw [e] at this; omega
  have np2 : A.br ≠ bp := fun e => np e.symm
  have HD2 : Hid (ApD w A N root (w3.setCell ⟨A.br, 5, none⟩ (.slice (some ⟨g3, 0, none⟩) (LT + 1) cap3)) A6 ({ m with ths := m.ths ++ [⟨1, an, 0, [], []⟩] } : MD) bp bq nilV nilV) := by
    have e : ({ A1 with o := upd A1.o tb (10 + m.ths.length) } : RnP).br = A.br := HP.out.B.s.br
    rw [e, HLT.out] at HR6 HS6
    exact ⟨⟨HR6.out, HP.out.B.s.trans HS6.out, by show m.cur < (m.ths ++ [_]).length; rw [List.length_append]; have := HP.out.B.c; omega⟩, HP.out.d.Lp.st HS6.out, HP.out.d.Lq.st HS6.out, HP.out.d.ne, HP.out.d.sp, HP.out.d.sq⟩
  have hLT : (LT : Int) + 1 - 1 = LT := by omega
  have HRUN := hid hr
  clear hr q1 q2 q3 q1' q2' q3' q4 hrun R6 S6 RB1 RB2 RB3 HOWN hn5 kp HP3 HR6 HS6 obr FB FC hTb hSc lTB
  refine C.chain_of_run (v := .slice (some ⟨g3, 0, none⟩) (LT + 1) cap3) (w' := w3) rfl ?_ ⟨⟨⟨w3, w5, wa1⟩, rfl⟩, ?_⟩
  · simp only [execOp, resolve, invoke, builtin, Sem.run_bind, Sem.run_pure, Result.andThen_ok, List.map_toArray, List.map_cons, List.map_nil, Act.eval]
    simp only [Array.getD_eq_getD_getElem?, List.getElem?_toArray, List.getElem?_cons_succ, List.getElem?_cons_zero, Option.getD_some]
    rw [HRUN.out]
    rfl
  rw [C.wpChain_zero]
  clear c5 f5 a0 a1 a2 la b0 b1 b2 lb q0 q1 q2 q3 q4 q5 lq cc0 cc1 lcc f1 lf
  go_wp2_with fail
  exact HEND.out _ _ _ (HD2.out.setP ⟨7, LT, []⟩) ⟨by kernel_rfl, by kernel_rfl, by kernel_rfl, by kernel_rfl, rfl⟩
end
end Go.Proofs.Qxb6500574aGreatDoor
