/-
  THE WALKS of compm: pop, do, pushBool, pushStr, finish, burn.
-/
import Derived.Test.Qxb6500574aGreatDoorZC2
import Derived.Test.Qxb6500574aGreatDoorReg8
namespace Go.Proofs.Qxb6500574aGreatDoor
open Go Go.RowKit
set_option linter.unusedVariables false
set_option linter.unusedSimpArgs false
section
variable {w : World} {A : RnP} {N : List Nd} {root j : Nat} {m : MD} {T : MTh} {x : XtP}
/-- values are cut -/
theorem MRep.cutV (h : MRep w A N root m) (ht : m.ths[j]? = some T) (hx : A.X[j]? = some x) (n : Nat) (hn : n ≤ T.vals.length) :
    ∃ A', MRep (w.setCell ⟨x.b, 4, none⟩ (.slice x.vl.a n x.vl.c)) A' N root { m with ths := m.ths.set j { T with vals := T.vals.take n } } ∧ MSt w A (w.setCell ⟨x.b, 4, none⟩ (.slice x.vl.a n x.vl.c)) A' ∧ A'.X[j]? = some x := by
  have O := h.one _ _ _ ht hx
  have e : (T.vals.take n).length = n := by rw [List.length_take]; omega
  obtain ⟨p1, p2⟩ := O.b.put 4 (.slice x.vl.a n x.vl.c) (cs' := thV x { T with vals := T.vals.take n }) (by simp [thV, e])
  have hX : (A.X.set j x)[j]? = some x := List.getElem?_set_self (List.getElem?_eq_some_iff.1 hx).1
  refine (fun z => ⟨_, z.1, z.2, hX⟩) (h.turn ht hx (p2.weaken (fun l hl => by omega)) (x' := x) ⟨p1, O.tk.st p2 (by omega), ?_⟩ rfl)
  show Row _ _ _ _ _ _ (T.vals.take n).length ((T.vals.take n).flatMap vCells)
  rw [e, flatMap_take _ 3 vCells_len]
  exact (O.vl.take n hn rfl).st p2 (by omega)
/-- the top task goes -/
theorem MRep.cutT (h : MRep w A N root m) {k : TkD} {r : List TkD} (ht : m.ths[j]? = some T) (hk : T.tasks = k :: r) (hx : A.X[j]? = some x) :
    ∃ A', MRep (w.setCell ⟨x.b, 3, none⟩ (.slice x.tk.a r.length x.tk.c)) A' N root { m with ths := m.ths.set j { T with tasks := r } } ∧ MSt w A (w.setCell ⟨x.b, 3, none⟩ (.slice x.tk.a r.length x.tk.c)) A' ∧ A'.X[j]? = some x := by
  have O := h.one _ _ _ ht hx
  obtain ⟨p1, p2⟩ := O.b.put 3 (.slice x.tk.a r.length x.tk.c) (cs' := thV x { T with tasks := r }) (by simp [thV])
  have hX : (A.X.set j x)[j]? = some x := List.getElem?_set_self (List.getElem?_eq_some_iff.1 hx).1
  refine (fun z => ⟨_, z.1, z.2, hX⟩) (h.turn ht hx (p2.weaken (fun l hl => by omega)) (x' := x) ⟨p1, ?_, O.vl.st p2 (by omega)⟩ rfl)
  have tk := O.tk
  rw [hk] at tk
  refine Row.st ?_ p2 (by omega)
  refine tk.take r.length (by simp) ?_
  rw [List.reverse_cons, List.flatMap_append, List.take_append_of_le_length (by rw [flatMap_len _ 4 (tkV_len A.E)]; simp), List.take_of_length_le (by rw [flatMap_len _ 4 (tkV_len A.E)]; simp)]
/-- what pop comes to -/
def PPm (w : World) (A : RnP) (N : List Nd) (root : Nat) (m : MD) (e : Ending) (w' : World) : Prop := e = .returned (m.topM 0).val ∧ ∃ A', MRep w' A' N root (m.pops 1) ∧ MSt w A w' A'
set_option maxRecDepth 100000
set_option maxHeartbeats 1000000
theorem pop_m (h : MRep w A N root m) (hc : m.cur < m.ths.length) (hv : 0 < m.th.vals.length) (hl : m.th.vals.length ≤ 1000000) : Calls Tryz.prog 116 #[.pointer (some ⟨A.br, 0, none⟩)] w (PPm w A N root m) := by
  obtain ⟨gt, x, hx, ht, ⟨c5, c12, cg, l1, l2, l3, lc, cl, t5⟩, O⟩ := h.cur hc
  have c4 := O.b.has.cell 4
  simp only [thV, List.getElem?_toArray, List.getElem?_cons_succ, List.getElem?_cons_zero, Sl.v] at c4
  obtain ⟨⟨vt, vn, vs⟩, hv0⟩ : ∃ v, m.th.vals[m.th.vals.length - 1]? = some v := ⟨m.th.vals[m.th.vals.length - 1]'(by omega), by simp⟩
  have htop : m.topM 0 = ⟨vt, vn, vs⟩ := by unfold MD.topM; rw [Nat.sub_zero, List.getD_eq_getElem?_getD, hv0]; rfl
  obtain ⟨g, ga, gc, _, gl, gx, _⟩ := O.vl.cells hv
  obtain ⟨a0, a1, a2⟩ := at3 hv0
  have v0 := (gx _ (show _ < m.th.vals.length * 3 by omega)).trans a0
  have v1 := (gx _ (show _ < m.th.vals.length * 3 by omega)).trans a1
  have v2 := (gx _ (show _ < m.th.vals.length * 3 by omega)).trans a2
  dsimp only at v0 v1 v2
  rw [ga] at c4
  have HGA := hid ga
  have HO := hid O
  have HH := hid h
  have HX := hid hx
  have HT := hid ht
  have HTOP := hid htop
  clear O h hx ht hc a0 a1 a2 hv0 gx ga htop
  obtain ⟨M, HM⟩ : ∃ M : Nat, Hid (m.th.vals.length - 1 = M) := ⟨_, rfl⟩
  have hM1 : m.th.vals.length = M + 1 := by have := HM.out; omega
  obtain ⟨LT, HLT⟩ : ∃ LT : Nat, Hid (m.ths.length = LT) := ⟨_, rfl⟩
  obtain ⟨cu, HCU⟩ : ∃ cu : Nat, Hid (m.cur = cu) := ⟨_, rfl⟩
  rw [hM1] at c4 hl gc
  rw [HM.out] at v0 v1 v2
  have HM1 := hid hM1
  clear hv hM1
  rw [HLT.out] at c5 lc cl t5
  rw [HCU.out] at c12 cg cl
  have e1 : (M : Int) + 1 - 1 = M := by omega
  go_enter Tryz.func116, Tryz.ntmps116
  go_wp2
  refine wp_region_tail 10 (by kernel_rfl) (by kernel_rfl) (fun _ _ _ _ _ h => h) ?_
  simp only [List.take_succ_cons, List.take_zero, List.drop_succ_cons, List.drop_zero]
  repeat go_big_quiet_step (fail)
  refine wpQuiet_nil ?_
  go_wp2_with fail
  obtain ⟨W, HW⟩ : ∃ W, Hid ((w.alloc (.cells #[.int .i64 0, .int .u64 0, sv []] 68)).drew = W) := ⟨_, rfl⟩
  rw [HW.out]
  have FW : Fr (fun _ => False) w W := by rw [← HW.out]; exact ((Fr.refl _ _).alloc _).drew
  have BW : Has W w.heap.size #[.int .i64 0, .int .u64 0, sv []] 68 := by rw [← HW.out]; exact (Has.new _ _ _).drew
  have HFW := hid FW
  have HBW := hid BW
  have k1 := fun z : WS W => z.f.cell (FW.cell c4)
  have k2 := fun z : WS W => z.f.cell (FW.cell v0)
  have k3 := fun z : WS W => z.f.cell (FW.cell v1)
  have k4 := fun z : WS W => z.f.cell (FW.cell v2)
  have NE := WS.non W
  have lW : x.b < W.heap.size := Nat.lt_of_lt_of_le l3 FW.size
  have lW2 : g < W.heap.size := Nat.lt_of_lt_of_le gl FW.size
  clear FW BW c5 c12 cg l1 l2 HW
  refine wp_region_head 12 1 (fun y => ∃ s : WS W, y = s.y) (by kernel_rfl) (by kernel_rfl) (fun _ _ _ _ _ h => h) ⟨⟨W.drew, (Fr.refl _ _).drew⟩, rfl⟩ ?_
  simp only [List.take_succ_cons, List.take_zero, List.drop_succ_cons, List.drop_zero]
  repeat go_big_quiet_step (fail)
  refine wpQuiet_nil ?_
  unfold wpChain
  go_wp2_with fail
  refine ⟨⟨⟨_, ((Fr.refl _ _).alloc _).drew⟩, rfl⟩, ?_⟩
  rw [wpChain_zero]
  go_wp2_with fail
  clear k1 k2 k3 k4 NE
  obtain ⟨V, HV⟩ : ∃ V, Hid ((W.alloc (.cells #[.int .i64 vt, .int .u64 vn, sv vs] 68)).drew = V) := ⟨_, rfl⟩
  rw [HV.out]
  have FV : Fr (fun _ => False) W V := by rw [← HV.out]; exact ((Fr.refl _ _).alloc _).drew
  have BV : Has V W.heap.size #[.int .i64 vt, .int .u64 vn, sv vs] 68 := by rw [← HV.out]; exact (Has.new _ _ _).drew
  have HFV := hid (HFW.out.trans FV (fun _ _ x => x))
  have HRV := hid (HBW.out.fr FV (fun x => x))
  have c4V := HFV.out.cell c4
  have lV : x.b < V.heap.size := Nat.lt_of_lt_of_le lW FV.size
  have ne1 : x.b ≠ W.heap.size := by omega
  have ne2 : x.b ≠ w.heap.size := by omega
  have ne3 : w.heap.size ≠ W.heap.size := by have := HBW.out.lt; omega
  have fz := HO.out.b.has.frozen 4
  have fzV : V.frozen? ⟨x.b, 4, none⟩ = false := by rw [HFV.out.frz l3]; exact fz
  obtain ⟨r0, r1, r2⟩ := Has.cells3 (v := ⟨vt, vn, vs⟩) BV
  dsimp only at r0 r1 r2
  have lr := BV.lt
  obtain ⟨s0, s1, s2⟩ := HRV.out.zero3
  obtain ⟨s3, s4, s5⟩ := HRV.out.frz3
  have ls := HRV.out.lt
  clear FV BV HV lW lW2 v0 v1 v2 fz c4
  obtain ⟨A', f1, f2, _⟩ := (HH.out.fresh HFV.out).cutV HT.out HX.out M (by rw [HM1.out]; omega)
  rw [HGA.out] at f1 f2
  have zB : A'.o w.heap.size = 0 := (f2.s.ext _ ls).trans (HH.out.own _ (Nat.le_refl _))
  have FIN : Hid (MRep ((((V.setCell ⟨x.b, 4, none⟩ (.slice (some ⟨g, 0, none⟩) M x.vl.c)).setCell ⟨w.heap.size, 0, none⟩ (.int .i64 vt)).setCell ⟨w.heap.size, 1, none⟩ (.int .u64 vn)).setCell ⟨w.heap.size, 2, none⟩ (sv vs)).drew A' N root (m.pops 1) ∧ MSt w A ((((V.setCell ⟨x.b, 4, none⟩ (.slice (some ⟨g, 0, none⟩) M x.vl.c)).setCell ⟨w.heap.size, 0, none⟩ (.int .i64 vt)).setCell ⟨w.heap.size, 1, none⟩ (.int .u64 vn)).setCell ⟨w.heap.size, 2, none⟩ (sv vs)).drew A' ∧ Has ((((V.setCell ⟨x.b, 4, none⟩ (.slice (some ⟨g, 0, none⟩) M x.vl.c)).setCell ⟨w.heap.size, 0, none⟩ (.int .i64 vt)).setCell ⟨w.heap.size, 1, none⟩ (.int .u64 vn)).setCell ⟨w.heap.size, 2, none⟩ (sv vs)).drew w.heap.size #[.int .i64 vt, .int .u64 vn, sv vs] 68) := by
    have e : m.pops 1 = { m with ths := m.ths.set m.cur { m.th with vals := m.th.vals.take M } } := by
      show ({ m with ths := m.ths.set m.cur { m.th with vals := m.th.vals.take (m.th.vals.length - 1) } } : MD) = _
      rw [HM.out]
    rw [e]
    refine ⟨(((f1.setL zB _ _).setL zB _ _).setL zB _ _).drew, ((((MSt.fresh A HFV.out).trans f2).setL (Nat.le_refl _) _ _).setL (Nat.le_refl _) _ _).setL (Nat.le_refl _) _ _ |>.drew, ?_⟩
    exact ((HRV.out.other (p := ⟨x.b, 4, none⟩) ne2.symm _).put3 _ _ _).drew
  clear f1 f2 zB
  go_wp2
  refine wp_region_tail 12 (by kernel_rfl) (by kernel_rfl) (fun _ _ _ _ _ h => h) ?_
  simp only [List.take_succ_cons, List.take_zero, List.drop_succ_cons, List.drop_zero]
  repeat go_big_quiet_step (fail)
  refine wpQuiet_nil ?_
  go_wp2
  refine bodyPost_ret (res_cell isVal rfl rfl FIN.out.2.2 rfl) rfl ?_
  exact ⟨by rw [HTOP.out], A', FIN.out.1, FIN.out.2.1⟩
theorem do_m (h : MRep w A N root m) (hc : m.cur < m.ths.length) (hl : m.th.tasks.length ≤ 1000000) (k n x' : Nat) (e : Option Nat) {k' n' y' : Int} (hk : k' = k) (hn : n' = n) (hx' : y' = x') {ev : Value} (he : ev = ePtr A.E e) :
    Calls Tryz.prog 112 #[.pointer (some ⟨A.br, 0, none⟩), .int .i64 k', .int .i64 n', .int .i64 y', ev] w (PQm w A N root (m.todo [⟨k, n, x', e⟩])) := by
  subst hk hn hx' he
  obtain ⟨Q, HQ⟩ : ∃ Q : Ending → World → Prop, Hid (PQm w A N root (m.todo [⟨k, n, x', e⟩]) = Q) := ⟨_, rfl⟩
  rw [HQ.out]
  obtain ⟨gt, x, hx, ht, ⟨c5, c12, cg, l1, l2, l3, lc, cl, t5⟩, O⟩ := h.cur hc
  have c3 := O.b.has.cell 3
  simp only [thV, List.getElem?_toArray, List.getElem?_cons_succ, List.getElem?_cons_zero, Sl.v] at c3
  have HO := hid O
  have HH := hid h
  have HX := hid hx
  have HT := hid ht
  have HEQ : Hid (tkV A.E ⟨k, n, x', e⟩ = [.int .i64 k, .int .i64 n, .int .i64 x', .pointer (eAd A.E e)]) := rfl
  clear O h hx ht hc
  unfold ePtr
  obtain ⟨ev, HE⟩ : ∃ ev, Hid (eAd A.E e = ev) := ⟨_, rfl⟩
  rw [HE.out] at HEQ ⊢
  obtain ⟨M, HM⟩ : ∃ M : Nat, Hid (m.th.tasks.length = M) := ⟨_, rfl⟩
  obtain ⟨LT, HLT⟩ : ∃ LT : Nat, Hid (m.ths.length = LT) := ⟨_, rfl⟩
  obtain ⟨cu, HCU⟩ : ∃ cu : Nat, Hid (m.cur = cu) := ⟨_, rfl⟩
  rw [HM.out] at c3 hl
  rw [HLT.out] at c5 lc cl t5
  rw [HCU.out] at c12 cg cl
  have HRW : Hid (∀ W, Fr (fun _ => False) w W → W.ownsRow 0 224 4 (x.tk.v m.th.tasks.length) m.th.tasks.length (m.th.tasks.reverse.flatMap (tkV A.E))) := fun W hW => (HO.out.tk.st (Stp.fresh (fun _ => False) A.o hW) (fun x => x)).own
  go_enter Tryz.func112, Tryz.ntmps112
  go_wp2
  refine wp_region_tail 10 (by kernel_rfl) (by kernel_rfl) (fun _ _ _ _ _ h => h) ?_
  simp only [List.take_succ_cons, List.take_zero, List.drop_succ_cons, List.drop_zero]
  repeat go_big_quiet_step (fail)
  refine wpQuiet_nil ?_
  go_wp2_with (at_builtin; go_must (refine wpList_appN rowTask _ rfl (.tmp 25) (.tmp 31) rfl (x.tk.v m.th.tasks.length) m.th.tasks.length (m.th.tasks.reverse.flatMap (tkV A.E)) (by rw [HM.out]; rfl) (HRW.out _ (((Fr.refl _ _).drew).alloc _)) w.heap.size 1 1 (tkV A.E ⟨k, n, x', e⟩) rfl (by rw [HEQ.out]; exact Has.newC _ _ _ rfl) rfl (by omega) (by rw [HEQ.out]; intro u hu; simp at hu; rcases hu with hu | hu | hu | hu <;> subst hu <;> rfl) ?bd ?go))
  case bd => rw [HM.out]; omega
  case go =>
    intro g3 cap3 w3 q1 q2 q3 q4
    have hq3 : (x.tk.v m.th.tasks.length).ownBlock = some g3 ∨ w.heap.size ≤ g3 := by
      rcases q3 with q3 | q3
      · exact .inl q3
      · right; rw [q3]; simp
    obtain ⟨hh, A', s1, s2⟩ := HH.out.pushT HT.out HX.out ⟨k, n, x', e⟩ (((Fr.refl _ _).drew).alloc _) q1 q2 hq3 q4
    have FIN : Hid (Q (.returned (.tuple #[])) (w3.setCell ⟨x.b, 3, none⟩ (.slice (some ⟨g3, 0, none⟩) (M + 1) cap3))) := by
      show Q _ _
      rw [← HQ.out]
      rw [HM.out] at s1 s2
      exact ⟨rfl, A', s1, s2⟩
    have e4 := hh.cell 3
    simp only [thV, List.getElem?_toArray, List.getElem?_cons_succ, List.getElem?_cons_zero, Sl.v] at e4
    rw [HM.out] at e4
    have f4 := hh.frozen 3
    have le3 := hh.lt
    rw [HM.out]
    clear q1 q2 q3 q4 hq3 hh s1 s2
    go_wp2
    go_end0
    exact FIN.out
end
end Go.Proofs.Qxb6500574aGreatDoor
