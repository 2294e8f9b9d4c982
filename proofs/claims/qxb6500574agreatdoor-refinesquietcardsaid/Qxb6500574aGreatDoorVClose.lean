/-
  THE WALKS of vm: closeFrom, kill.
-/
import Derived.Test.Qxb6500574aGreatDoorVUp
import Derived.Test.Qxb6500574aGreatDoorVInv0
namespace Go.Proofs.Qxb6500574aGreatDoor
open Go Go.RowKit
set_option linter.unusedVariables false
set_option linter.unusedSimpArgs false

theorem ce_set5 (xs : List CeD) (c : Nat) {ce : CeD} (h : xs[c]? = some ce) (v : Vl) : (((((xs.flatMap ceCells).set (c * 5 + 2) (.int .i64 v.t)).set (c * 5 + 3) (.int .u64 v.n)).set (c * 5 + 4) (sv v.s)).set (c * 5) (.int .i64 (-1))).set (c * 5 + 1) (.int .i64 0) = (xs.set c ⟨-1, 0, v⟩).flatMap ceCells := by
  have hp : c < xs.length := (List.getElem?_eq_some_iff.1 h).1
  rw [← flatMap_set _ 5 ceCells_len xs c 2 ce ⟨ce.th, ce.pos, ⟨v.t, ce.v.n, ce.v.s⟩⟩ (.int .i64 v.t) h (by omega) rfl]
  rw [← flatMap_set _ 5 ceCells_len (xs.set c ⟨ce.th, ce.pos, ⟨v.t, ce.v.n, ce.v.s⟩⟩) c 3 ⟨ce.th, ce.pos, ⟨v.t, ce.v.n, ce.v.s⟩⟩ ⟨ce.th, ce.pos, ⟨v.t, v.n, ce.v.s⟩⟩ (.int .u64 v.n) (by rw [List.getElem?_set_self hp]) (by omega) rfl, List.set_set]
  rw [← flatMap_set _ 5 ceCells_len (xs.set c ⟨ce.th, ce.pos, ⟨v.t, v.n, ce.v.s⟩⟩) c 4 ⟨ce.th, ce.pos, ⟨v.t, v.n, ce.v.s⟩⟩ ⟨ce.th, ce.pos, v⟩ (sv v.s) (by rw [List.getElem?_set_self hp]) (by omega) rfl, List.set_set]
  rw [show c * 5 = c * 5 + 0 from rfl, ← flatMap_set _ 5 ceCells_len (xs.set c ⟨ce.th, ce.pos, v⟩) c 0 ⟨ce.th, ce.pos, v⟩ ⟨-1, ce.pos, v⟩ (.int .i64 (-1)) (by rw [List.getElem?_set_self hp]) (by omega) rfl, List.set_set]
  rw [show c * 5 + 0 + 1 = c * 5 + 1 from rfl, ← flatMap_set _ 5 ceCells_len (xs.set c ⟨-1, ce.pos, v⟩) c 1 ⟨-1, ce.pos, v⟩ ⟨-1, 0, v⟩ (.int .i64 0) (by rw [List.getElem?_set_self hp]) (by omega) rfl, List.set_set]
section
variable {w w1 : World} {A : VL} {m : VMD} {f e i : Nat} {t : ThD} {l : ThL}
/-- the cells' row turned in place -/
theorem VRep.setCells (h : VRep w A m f e) {cs : List CeD} (hl : cs.length = m.cells.length) (s : Stp (fun k => k = 12) w A.o w1 A.o) (hr : Row w1 A.o 12 274 5 A.C.cells cs.length (cs.flatMap ceCells)) : VRep w1 A { m with cells := cs } f e ∧ VSt isCo w A w1 A := by
  have c := h.core.st (Q := fun k => k = 12) (w1 := w1) (o1 := A.o)
  refine h.setCore (C' := A.C) (s.weaken (fun k hk => .inr (.inl (by omega)))) ⟨?_, h.core.protos.st s (by omega), h.core.descs.st s (by omega), h.core.consts.st s (by omega), h.core.code.st s (by omega), h.core.clos.st s (by omega), h.core.upix.st s (by omega), hr, h.core.out.st s (by omega)⟩ rfl rfl
  have := h.core.here.st s (by omega)
  unfold vmCells at this ⊢
  rw [hl]
  exact this
theorem VRep.closeCe (h : VRep w A m f e) {g c : Nat} (hg : A.C.cells.a = some ⟨g, 0, none⟩) {ce : CeD} (hc : m.cells[c]? = some ce) (v : Vl) :
    VRep (((((w.setCell ⟨g, c * 5 + 2, none⟩ (.int .i64 v.t)).setCell ⟨g, c * 5 + 3, none⟩ (.int .u64 v.n)).setCell ⟨g, c * 5 + 4, none⟩ (sv v.s)).setCell ⟨g, c * 5, none⟩ (.int .i64 (-1))).setCell ⟨g, c * 5 + 1, none⟩ (.int .i64 0)) A { m with cells := m.cells.set c ⟨-1, 0, v⟩ } f e ∧
    VSt isCo w A (((((w.setCell ⟨g, c * 5 + 2, none⟩ (.int .i64 v.t)).setCell ⟨g, c * 5 + 3, none⟩ (.int .u64 v.n)).setCell ⟨g, c * 5 + 4, none⟩ (sv v.s)).setCell ⟨g, c * 5, none⟩ (.int .i64 (-1))).setCell ⟨g, c * 5 + 1, none⟩ (.int .i64 0)) A := by
  obtain ⟨r1, s1⟩ := h.core.cells.put hg (c * 5 + 2) (.int .i64 v.t) rfl
  obtain ⟨r2, s2⟩ := r1.put hg (c * 5 + 3) (.int .u64 v.n) rfl
  obtain ⟨r3, s3⟩ := r2.put hg (c * 5 + 4) (sv v.s) rfl
  obtain ⟨r4, s4⟩ := r3.put hg (c * 5) (.int .i64 (-1)) rfl
  obtain ⟨r5, s5⟩ := r4.put hg (c * 5 + 1) (.int .i64 0) (ce_set5 m.cells c hc v)
  refine h.setCells (by simp) ((((s1.trans s2).trans s3).trans s4).trans s5) ?_
  simpa using r5
theorem OpnOk.step {n : Nat} (h : OpnOk m t) (hn : n + 1 = t.opn.length) {c : Nat} (hc : t.opn[n]? = some c) {ce : CeD} (he : m.cells[c]? = some ce) (hp : ce.pos < t.stack.length) (v : Vl) : OpnOk { m with cells := m.cells.set c ⟨-1, 0, v⟩, ths := m.ths.set i { t with opn := t.opn.take n } } { t with opn := t.opn.take n } := by
  refine ⟨fun c' hc' => ?_, by simp; have := h.ol; omega, h.sl, by simpa using h.cl⟩
  obtain ⟨ce', h1, h2⟩ := h.ok c' (List.mem_of_mem_take hc')
  by_cases e : c = c'
  · subst e
    exact ⟨_, by rw [List.getElem?_set_self (List.getElem?_eq_some_iff.1 he).1], by dsimp only; omega⟩
  · exact ⟨ce', by rw [List.getElem?_set_ne e]; exact h1, h2⟩
set_option maxRecDepth 100000
set_option maxHeartbeats 600000
theorem closeFrom_any (h : VRep w A m f e) (hi : m.ths[i]? = some t) (ok : OpnOk m t) (a : Nat) :
    Calls Tryz.prog 260 #[.pointer (some ⟨A.b, 0, none⟩), .pointer (some ⟨A.bT, i * 5, none⟩), .int .i64 a] w fun e' w' => e' = .returned (.tuple #[]) ∧ VRep w' A (closeFrom m i a) f e ∧ VSt (fun k => isCo k ∨ isT i k) w A w' A := by
  obtain ⟨l, hx⟩ := h.lays hi
  have c4 := h.thCell hi hx (j := 4) (by omega)
  simp only [thCells, List.getElem?_cons_succ, List.getElem?_cons_zero, Sl.v] at c4
  have hb := h.bl
  have hT := h.ths.here.has.lt
  have hol := ok.ol
  have HR : Hid (VRep w A m f e) := h
  have HI : Hid (m.ths[i]? = some t) := hi
  have HX : Hid (A.X[i]? = some l) := hx
  have HOK : Hid (OpnOk m t) := ok
  have hcf : closeFrom m i a = closeN t.opn.length m i a := by unfold closeFrom; rw [VMD.th_some hi]
  obtain ⟨mz, HMZ⟩ : ∃ mz, Hid (closeFrom m i a = mz) := ⟨_, rfl⟩
  rw [HMZ.out]
  have HCF : Hid (mz = closeN t.opn.length m i a) := HMZ.out.symm.trans hcf
  obtain ⟨N, HN⟩ : ∃ N : Nat, Hid (t.opn.length = N) := ⟨_, rfl⟩
  rw [HN.out] at c4 hol
  clear h hi hx ok hcf
  go_enter Tryz.func260, Tryz.ntmps260
  go_wp2_with fail
  go_loopw [6] (fun v wr => ∃ (n : Nat) (m1 : VMD) (t1 : ThD), n ≤ N ∧ v = .int .i64 n ∧ Hid (VRep wr A m1 f e) ∧ Hid (VSt (fun k => isCo k ∨ isT i k) w A wr A) ∧ Hid (m1.ths[i]? = some t1 ∧ t1.opn.length = n) ∧ Hid (OpnOk m1 t1) ∧ Hid (mz = closeN n m1 i a)) (fun v _ => (intOf v).toNat)
  case atStart => exact ⟨N, m, t, Nat.le_refl _, rfl, HR, VSt.refl _ _ _, ⟨HI.out, HN.out⟩, HOK, by rw [← HN.out]; exact HCF⟩
  case round =>
    obtain ⟨n, m1, t1, hn, rfl, R1, S1, I1, O1, M1⟩ := hrel
    by_cases hn0 : n = 0
    · subst hn0
      have HM : Hid (mz = m1) := M1.out
      clear M1
      go_wp2_with fail
      go_end0
      rw [HM.out]
      exact ⟨rfl, R1.out, S1.out⟩
    · obtain ⟨k, rfl⟩ : ∃ k, n = k + 1 := ⟨n - 1, by omega⟩
      have hlen := I1.out.2
      obtain ⟨c, hc⟩ : ∃ c, t1.opn[k]? = some c := ⟨_, List.getElem?_eq_getElem (by omega)⟩
      obtain ⟨ce, hce, hps⟩ := O1.out.ok c (List.mem_of_getElem? hc)
      have hcl := O1.out.cl
      have hsl := O1.out.sl
      obtain ⟨l1, hx1⟩ := R1.out.lays I1.out.1
      obtain ⟨go, o1, o2, o3, o4, o5, o6⟩ := (R1.out.one I1.out.1 hx1).p.at nCells_len hc
      obtain ⟨gc, q1, q2, q3, q4, q5, q6⟩ := R1.out.core.cells.at ceCells_len hce
      have o50 := o5 0 (by omega)
      have q50 := q5 0 (by omega)
      have q51 := q5 1 (by omega)
      have q52 := q5 2 (by omega)
      have q53 := q5 3 (by omega)
      have q54 := q5 4 (by omega)
      simp only [nCells, ceCells, List.getElem?_cons_succ, List.getElem?_cons_zero, Nat.add_zero, Nat.mul_one] at o50 q50 q51 q52 q53 q54
      have p0 := q6 (c * 5)
      have p1 := q6 (c * 5 + 1)
      have p2 := q6 (c * 5 + 2)
      have p3 := q6 (c * 5 + 3)
      have p4 := q6 (c * 5 + 4)
      have d8 := R1.out.cell0 8
      simp only [vmCells, List.getElem?_toArray, List.getElem?_cons_succ, List.getElem?_cons_zero, Sl.v, q1] at d8
      have t4 := R1.out.thCell I1.out.1 hx1 (j := 4) (by omega)
      have t2 := R1.out.thCell I1.out.1 hx1 (j := 2) (by omega)
      have o1' : l1.p.a = some ⟨go, 0, none⟩ := o1
      simp only [thCells, List.getElem?_cons_succ, List.getElem?_cons_zero, Sl.v, o1', hlen] at t4 t2
      have z4 := R1.out.ths.frozen (i * 5 + 4)
      have hb1 := R1.out.bl
      have hT1 := R1.out.ths.here.has.lt
      obtain ⟨v, hv⟩ : ∃ v, t1.stack[ce.pos]? = some v := ⟨_, List.getElem?_eq_getElem hps⟩
      obtain ⟨gs, s1, s2, s3, s4, s50, s51, s52, s6⟩ := R1.out.val I1.out.1 hx1 hv
      rw [s1] at t2
      have ncl := (List.getElem?_eq_some_iff.1 hce).1
      have o2' : t1.opn.length ≤ l1.p.c := o2
      have bTl := R1.out.ths.here.lb
      have hne1 : gc ≠ A.bT := fun e => by rw [e, bTl] at q3; omega
      have hne2 : A.bT ≠ gc := fun e => hne1 e.symm
      have hne3 : gs ≠ gc := fun e => by rw [e, q3] at s3; omega
      have hM : mz = if ce.pos < a then m1 else closeN k { m1 with cells := m1.cells.set c ⟨-1, 0, v⟩, ths := m1.ths.set i { t1 with opn := t1.opn.take k } } i a := by
        rw [M1.out]
        simp only [closeN, VMD.th_some I1.out.1]
        simp [hc, hce, hv]
      have HM : Hid (mz = if ce.pos < a then m1 else closeN k { m1 with cells := m1.cells.set c ⟨-1, 0, v⟩, ths := m1.ths.set i { t1 with opn := t1.opn.take k } } i a) := hM
      have HC : Hid (m1.cells[c]? = some ce) := hce
      have HOC : Hid (t1.opn[k]? = some c) := hc
      have HPS : Hid (ce.pos < t1.stack.length) := hps
      have HQ1 : Hid (A.C.cells.a = some ⟨gc, 0, none⟩) := q1
      have HX1 : Hid (A.X[i]? = some l1) := hx1
      have HO1 : Hid (l1.p.a = some ⟨go, 0, none⟩) := o1'
      obtain ⟨NC, HNC⟩ : ∃ N : Nat, Hid (m1.cells.length = N) := ⟨_, rfl⟩
      obtain ⟨NS, HNS⟩ : ∃ N : Nat, Hid (t1.stack.length = N) := ⟨_, rfl⟩
      rw [HNC.out] at d8 hcl ncl q2
      rw [HNS.out] at t2 hsl hps s2
      rw [hlen] at o2'
      obtain ⟨ps, HP⟩ : ∃ N : Nat, Hid (ce.pos = N) := ⟨_, rfl⟩
      rw [HP.out] at q51 hps s50 s51 s52
      have hk1 : (k : Int) + 1 - 1 = k := by omega
      have hk2 : ((k + 1 : Nat) : Int) - 1 = k := by omega
      have hpos : (0 : Int) < ((k + 1 : Nat) : Int) := by omega
      clear o5 q5 q6 o6 s6 hM hce hc q1 hx1 o1' o1 o2 s1 hv M1
      by_cases hlt : ce.pos < a
      · have HM2 : Hid (mz = m1) := HM.out.trans (if_pos hlt)
        rw [HP.out] at hlt
        have hlt2 : (ps : Int) < (a : Int) := by omega
        clear HM hlt
        go_wp2_with fail
        refine wp_region_quiet_lit (by kernel_rfl) (by kernel_rfl) ?_
        repeat go_big_quiet_step (fail)
        refine wpQuiet_nil ?_
        rintro w' ⟨nq, rfl⟩
        go_wp2_with fail
        refine bodyPost_ret (results_none rfl _ _ _) rfl ?_
        rw [HM2.out]
        exact ⟨rfl, R1.out.fresh ((Fr.refl _ _).drewN nq), S1.out.trans (VSt.fresh ((Fr.refl _ _).drewN nq))⟩
      · have HM2 : Hid (mz = closeN k { m1 with cells := m1.cells.set c ⟨-1, 0, v⟩, ths := m1.ths.set i { t1 with opn := t1.opn.take k } } i a) := HM.out.trans (if_neg hlt)
        rw [HP.out] at hlt
        have hlt2 : ¬ (ps : Int) < (a : Int) := by omega
        have FIN : Hid (∀ nq, VRep ((((((((wr.drewN nq).setCell ⟨gc, c * 5 + 2, none⟩ (.int .i64 v.t)).setCell ⟨gc, c * 5 + 3, none⟩ (.int .u64 v.n)).setCell ⟨gc, c * 5 + 4, none⟩ (sv v.s)).setCell ⟨gc, c * 5, none⟩ (.int .i64 (-1))).setCell ⟨gc, c * 5 + 1, none⟩ (.int .i64 0))).setCell ⟨A.bT, i * 5 + 4, none⟩ (.slice (some ⟨go, 0, none⟩) k l1.p.c)) A { m1 with cells := m1.cells.set c ⟨-1, 0, v⟩, ths := m1.ths.set i { t1 with opn := t1.opn.take k } } f e ∧ VSt (fun k => isCo k ∨ isT i k) w A ((((((((wr.drewN nq).setCell ⟨gc, c * 5 + 2, none⟩ (.int .i64 v.t)).setCell ⟨gc, c * 5 + 3, none⟩ (.int .u64 v.n)).setCell ⟨gc, c * 5 + 4, none⟩ (sv v.s)).setCell ⟨gc, c * 5, none⟩ (.int .i64 (-1))).setCell ⟨gc, c * 5 + 1, none⟩ (.int .i64 0))).setCell ⟨A.bT, i * 5 + 4, none⟩ (.slice (some ⟨go, 0, none⟩) k l1.p.c)) A) := fun nq => by
          obtain ⟨x1, x2⟩ := (R1.out.fresh ((Fr.refl _ wr).drewN nq)).closeCe HQ1.out HC.out v
          obtain ⟨y1, y2⟩ := x1.cutP (i := i) (t := t1) I1.out.1 HX1.out (n := k) (by omega)
          rw [HO1.out] at y1 y2
          exact ⟨y1, ((S1.out.trans (VSt.fresh ((Fr.refl _ wr).drewN nq))).trans (x2.weaken (fun k hk => .inl hk))).trans (y2.weaken (fun k hk => .inr hk))⟩
        have NEXT : Hid (OpnOk { m1 with cells := m1.cells.set c ⟨-1, 0, v⟩, ths := m1.ths.set i { t1 with opn := t1.opn.take k } } { t1 with opn := t1.opn.take k }) := O1.out.step hlen.symm HOC.out HC.out HPS.out v
        obtain ⟨vt, vn, vs⟩ := v
        dsimp only at s50 s51 s52 FIN
        clear HM hlt
        go_wp2_with fail
        refine wp_region_quiet_lit (by kernel_rfl) (by kernel_rfl) ?_
        repeat go_big_quiet_step (fail)
        refine wpQuiet_nil ?_
        rintro w' ⟨nq, rfl⟩
        go_wp2_with fail
        refine wp_region_tail 11 (by kernel_rfl) (by kernel_rfl) (fun _ _ _ _ _ h => h) ?_
        simp only [List.take_succ_cons, List.take_zero, List.drop_succ_cons, List.drop_zero]
        repeat go_big_quiet_step (fail)
        refine wpQuiet_nil ?_
        go_wp2_with fail
        obtain ⟨F1, F2⟩ := FIN.out (nq + 1)
        have hil : i < m1.ths.length := (List.getElem?_eq_some_iff.1 I1.out.1).1
        refine ⟨⟨k, { m1 with cells := m1.cells.set c ⟨-1, 0, ⟨vt, vn, vs⟩⟩, ths := m1.ths.set i { t1 with opn := t1.opn.take k } }, { t1 with opn := t1.opn.take k }, by omega, rfl, F1, F2, ⟨?_, ?_⟩, NEXT, HM2⟩, by simp [intOf]⟩
        · show (m1.ths.set i { t1 with opn := t1.opn.take k })[i]? = _
          rw [List.getElem?_set_self hil]
        · simp
          omega
/-- closing cells leaves the rest of the thread -/
theorem closeN_th : ∀ (n : Nat) {m : VMD} {t : ThD} (a : Nat), m.ths[i]? = some t → ∃ t1, (closeN n m i a).ths[i]? = some t1 ∧ t1.stack = t.stack ∧ t1.frames = t.frames ∧ t1.st = t.st ∧ t1.fn = t.fn ∧ (closeN n m i a).ths.length = m.ths.length
  | 0, m, t, a, h => ⟨t, h, rfl, rfl, rfl, rfl, rfl⟩
  | n + 1, m, t, a, h => by
    unfold closeN
    simp only [VMD.th_some h]
    split
    · exact ⟨t, h, rfl, rfl, rfl, rfl, rfl⟩
    · have hil : i < m.ths.length := (List.getElem?_eq_some_iff.1 h).1
      obtain ⟨t1, h1, h2, h3, h4, h5, h6⟩ := closeN_th n (m := { m with cells := m.cells.set (t.opn.getD n 0) ⟨-1, 0, t.stack.getD (m.cells.getD (t.opn.getD n 0) ce0).pos nilV⟩, ths := m.ths.set i { t with opn := t.opn.take n } }) (t := { t with opn := t.opn.take n }) a (by show (m.ths.set i _)[i]? = _; rw [List.getElem?_set_self hil])
      exact ⟨t1, h1, h2, h3, h4, h5, by rw [h6]; simp⟩
theorem closeFrom_th (a : Nat) (h : m.ths[i]? = some t) : ∃ t1, (closeFrom m i a).ths[i]? = some t1 ∧ t1.stack = t.stack ∧ t1.frames = t.frames ∧ t1.st = t.st ∧ t1.fn = t.fn ∧ (closeFrom m i a).ths.length = m.ths.length := closeN_th _ a h
theorem kill_any (h : VRep w A m f e) (hi : m.ths[i]? = some t) (ok : OpnOk m t) :
    Calls Tryz.prog 261 #[.pointer (some ⟨A.b, 0, none⟩), .pointer (some ⟨A.bT, i * 5, none⟩)] w fun e' w' => e' = .returned (.tuple #[]) ∧ VRep w' A (kill m i) f e ∧ VSt (fun k => isCo k ∨ isT i k) w A w' A := by
  have hC := closeFrom_any h hi ok 0
  obtain ⟨t1, h1, h2, h3, h4, h5, h6⟩ := closeFrom_th 0 hi
  have hk : kill m i = (closeFrom m i 0).setTh i { t1 with stack := [], frames := [], st := 5 } := by
    simp only [kill, VMD.th_some h1]
  rw [hk]
  obtain ⟨mz, HMZ⟩ : ∃ mz, Hid (closeFrom m i 0 = mz) := ⟨_, rfl⟩
  rw [HMZ.out] at hC h1 ⊢
  have HH1 : Hid (mz.ths[i]? = some t1) := h1
  have HC : Hid (Calls _ _ _ _ _) := hC
  clear h hi ok hC hk h1 h2 h3 h4 h5 h6
  go_enter Tryz.func261, Tryz.ntmps261
  go_wp2_with fail
  refine HC.out.mono ?_
  rintro e' w1 ⟨rfl, R1, S1⟩
  obtain ⟨l, hx⟩ := R1.lays HH1.out
  have t2 := R1.thCell HH1.out hx (j := 2) (by omega)
  have t3 := R1.thCell HH1.out hx (j := 3) (by omega)
  have t0 := R1.thCell HH1.out hx (j := 0) (by omega)
  simp only [thCells, List.getElem?_cons_succ, List.getElem?_cons_zero, Sl.v, Nat.add_zero] at t2 t3 t0
  have z2 := R1.ths.frozen (i * 5 + 2)
  have z3 := R1.ths.frozen (i * 5 + 3)
  have z0 := R1.ths.frozen (i * 5)
  have hT := R1.ths.here.has.lt
  have hil : i < mz.ths.length := (List.getElem?_eq_some_iff.1 HH1.out).1
  have FIN : Hid (VRep (((w1.setCell ⟨A.bT, i * 5 + 2, none⟩ (.slice l.s.a 0 l.s.c)).setCell ⟨A.bT, i * 5 + 3, none⟩ (.slice l.f.a 0 l.f.c)).setCell ⟨A.bT, i * 5, none⟩ (.int .i64 ((5 : Nat) : Int))) A (mz.setTh i { t1 with stack := [], frames := [], st := 5 }) f e ∧ VSt (fun k => isCo k ∨ isT i k) w A (((w1.setCell ⟨A.bT, i * 5 + 2, none⟩ (.slice l.s.a 0 l.s.c)).setCell ⟨A.bT, i * 5 + 3, none⟩ (.slice l.f.a 0 l.f.c)).setCell ⟨A.bT, i * 5, none⟩ (.int .i64 ((5 : Nat) : Int))) A) := by
    obtain ⟨x1, x2⟩ := R1.cutS HH1.out hx (n := 0) (Nat.zero_le _)
    have i1 : (mz.setTh i { t1 with stack := t1.stack.take 0 }).ths[i]? = some { t1 with stack := t1.stack.take 0 } := by show (mz.ths.set i _)[i]? = _; rw [List.getElem?_set_self hil]
    obtain ⟨y1, y2⟩ := x1.cutF i1 hx (n := 0) (Nat.zero_le _)
    have i2 : ((mz.setTh i { t1 with stack := t1.stack.take 0 }).setTh i { t1 with stack := t1.stack.take 0, frames := t1.frames.take 0 }).ths[i]? = some { t1 with stack := t1.stack.take 0, frames := t1.frames.take 0 } := by
      show ((mz.ths.set i _).set i _)[i]? = _
      rw [List.getElem?_set_self (by simpa using hil)]
    obtain ⟨u1, u2⟩ := y1.setSt i2 hx 5
    refine ⟨?_, ((S1.trans (x2.weaken (fun k hk => .inr hk))).trans (y2.weaken (fun k hk => .inr hk))).trans (u2.weaken (fun k hk => .inr hk))⟩
    simpa [VMD.setTh] using u1
  have hcs : 0 ≤ l.s.c := Nat.zero_le _
  clear R1 S1 hx
  go_wp2_with fail
  go_end0
  exact ⟨rfl, FIN.out⟩
end
end Go.Proofs.Qxb6500574aGreatDoor
