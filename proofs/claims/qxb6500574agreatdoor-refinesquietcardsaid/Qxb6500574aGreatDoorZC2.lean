/-
  THE WALKS of compm: push, pushBool, pushStr, pop, do.
-/
import Derived.Test.Qxb6500574aGreatDoorZC1
import Derived.Test.Qxb6500574aGreatDoorVPop
namespace Go.Proofs.Qxb6500574aGreatDoor
open Go Go.RowKit
set_option linter.unusedVariables false
set_option linter.unusedSimpArgs false
/-- what a call without results comes to -/
def PQm (w : World) (A : RnP) (N : List Nd) (root : Nat) (m' : MD) (e : Ending) (w' : World) : Prop := e = .returned (.tuple #[]) ∧ ∃ A', MRep w' A' N root m' ∧ MSt w A w' A'
theorem rowTask : IsRow Tryz.prog 181 224 (.agg #[.int .i64 0, .int .i64 0, .int .i64 0, .pointer none]) 4 32 := ⟨by kernel_rfl, by kernel_rfl, rfl, by decide⟩
theorem isTask : IsStr 224 4 := ⟨by kernel_rfl, by kernel_rfl⟩
section
variable {w : World} {A : RnP} {N : List Nd} {root j : Nat} {m : MD} {T : MTh} {x : XtP}
/-- a block of a walk's own -/
structure LcB (w : World) (A : RnP) (b : Nat) (cs : Array Value) (T : TypeId) : Prop where
  h : Has w b cs T
  z : A.o b = 0
theorem LcB.st {w1 : World} {A1 : RnP} {b : Nat} {cs : Array Value} {T : TypeId} (h : LcB w A b cs T) (s : MSt w A w1 A1) : LcB w1 A1 b cs T := ⟨s.s.has h.h (by rw [h.z]; omega), (s.s.ext b h.h.lt).trans h.z⟩
theorem LcB.fr {w1 : World} {b : Nat} {cs : Array Value} {T : TypeId} (h : LcB w A b cs T) (s : Fr (fun _ => False) w w1) : LcB w1 A b cs T := h.st (MSt.fresh A s)
theorem LcB.new (ow : Ow w A.o) (cs : Array Value) (T : TypeId) : LcB (w.alloc (.cells cs T)) A w.heap.size cs T := ⟨Has.new _ _ _, ow _ (Nat.le_refl _)⟩
theorem LcB.newC (ow : Ow w A.o) (cs : Array Value) (T : TypeId) {b : Nat} (hb : b = w.heap.size) : LcB (w.alloc (.cells cs T)) A b cs T := by subst hb; exact LcB.new ow cs T
theorem MRep.setL (h : MRep w A N root m) {b : Nat} (z : A.o b = 0) (i : Nat) (u : Value) : MRep (w.setCell ⟨b, i, none⟩ u) A N root m := h.st ((Stp.refl (fun l => l = 0) w A.o).setCell (p := ⟨b, i, none⟩) z u) (fun l hl hq => by omega)
theorem MSt.setL {w1 : World} {A1 : RnP} (s : MSt w A w1 A1) {b : Nat} (hb : w.heap.size ≤ b) (i : Nat) (u : Value) : MSt w A (w1.setCell ⟨b, i, none⟩ u) A1 := ⟨s.s.own (p := ⟨b, i, none⟩) hb u, s.br, s.bn, s.bt, s.e, s.x⟩
theorem MRep.drew (h : MRep w A N root m) : MRep w.drew A N root m := h.fresh ((Fr.refl _ _).drew)
theorem MSt.drew {w1 : World} {A1 : RnP} (s : MSt w A w1 A1) : MSt w A w1.drew A1 := s.trans (MSt.fresh A1 ((Fr.refl _ _).drew))
/-- where the thread at hand is read -/
structure CurAt (w : World) (A : RnP) (m : MD) (gt : Nat) (b : Nat) : Prop where
  c5 : w.cell? ⟨A.br, 5, none⟩ = some (.slice (some ⟨gt, 0, none⟩) m.ths.length A.th.c)
  c12 : w.cell? ⟨A.br, 12, none⟩ = some (.int .i64 m.cur)
  cg : w.cell? ⟨gt, m.cur, none⟩ = some (.pointer (some ⟨b, 0, none⟩))
  l1 : A.br < w.heap.size
  l2 : gt < w.heap.size
  l3 : b < w.heap.size
  lc : m.ths.length ≤ A.th.c
  cl : m.cur < m.ths.length
  t5 : m.ths.length ≤ 5
theorem MRep.cur (h : MRep w A N root m) (hc : m.cur < m.ths.length) : ∃ gt x, A.X[m.cur]? = some x ∧ m.ths[m.cur]? = some m.th ∧ CurAt w A m gt x.b ∧ ThM w A.o A.E m.cur m.th x := by
  have ht : m.ths[m.cur]? = some m.th := by
    unfold MD.th
    rw [List.getD_eq_getElem?_getD, List.getElem?_eq_getElem hc]
    rfl
  obtain ⟨x, hx⟩ := h.xat ht
  have O := h.one _ _ _ ht hx
  obtain ⟨g, h1, h2, h3, h4, h5, h6⟩ := h.ths.cells (show 0 < m.ths.length by omega)
  refine ⟨g, x, hx, ht, ⟨?_, ?_, ?_, h.run.has.lt, h4, O.b.has.lt, h2, hc, h.l5⟩, O⟩
  · rw [h.run.has.cell]
    simp [rnV, h1]
  · rw [h.run.has.cell]
    simp [rnV]
  · have a := flatMap_at xtV 1 xtV_len A.X m.cur 0 _ hx (by omega)
    rw [Nat.mul_one, Nat.add_zero] at a
    rw [h5 m.cur (by omega), a]
    rfl
/-- values have been laid behind the others -/
theorem MRep.pushV (h : MRep w A N root m) (ht : m.ths[j]? = some T) (hx : A.X[j]? = some x) (vs : List Vl) {w1 w2 : World} {g cap : Nat} (hf : Fr (fun _ => False) w w1)
    (q1 : w2.ownsRow 0 68 3 (.slice (some ⟨g, 0, none⟩) (T.vals.length + vs.length) cap) (T.vals.length + vs.length) (T.vals.flatMap vCells ++ vs.flatMap vCells)) (q2 : Fr (fun k => (x.vl.v T.vals.length).ownBlock = some k) w1 w2) (q3 : (x.vl.v T.vals.length).ownBlock = some g ∨ w.heap.size ≤ g) (q4 : g < w2.heap.size) :
    Has w2 x.b (thV x T) 183 ∧ ∃ A', MRep (w2.setCell ⟨x.b, 4, none⟩ (.slice (some ⟨g, 0, none⟩) (T.vals.length + vs.length) cap)) A' N root { m with ths := m.ths.set j { T with vals := T.vals ++ vs } } ∧ MSt w A (w2.setCell ⟨x.b, 4, none⟩ (.slice (some ⟨g, 0, none⟩) (T.vals.length + vs.length) cap)) A' := by
  have O := h.one _ _ _ ht hx
  obtain ⟨r1, r2⟩ := O.vl.app hf q1 q2 q3 q4
  have hb := O.b.st r2 (by omega)
  obtain ⟨p1, p2⟩ := hb.put 4 (.slice (some ⟨g, 0, none⟩) (T.vals.length + vs.length) cap) (cs' := thV { x with vl := ⟨some ⟨g, 0, none⟩, cap⟩ } { T with vals := T.vals ++ vs }) (by simp [thV])
  refine ⟨hb.has, _, h.turn ht hx ((r2.weaken (fun l hl => by omega)).trans (p2.weaken (fun l hl => by omega))) (x' := { x with vl := ⟨some ⟨g, 0, none⟩, cap⟩ }) ⟨p1, (O.tk.st r2 (by omega)).st p2 (by omega), ?_⟩ rfl⟩
  show Row _ _ _ _ _ _ (T.vals ++ vs).length ((T.vals ++ vs).flatMap vCells)
  rw [List.length_append, List.flatMap_append]
  exact r1.st p2 (by omega)
/-- a task has been laid on top of the others -/
theorem MRep.pushT (h : MRep w A N root m) (ht : m.ths[j]? = some T) (hx : A.X[j]? = some x) (k : TkD) {w1 w2 : World} {g cap : Nat} (hf : Fr (fun _ => False) w w1)
    (q1 : w2.ownsRow 0 224 4 (.slice (some ⟨g, 0, none⟩) (T.tasks.length + 1) cap) (T.tasks.length + 1) (T.tasks.reverse.flatMap (tkV A.E) ++ tkV A.E k)) (q2 : Fr (fun k => (x.tk.v T.tasks.length).ownBlock = some k) w1 w2) (q3 : (x.tk.v T.tasks.length).ownBlock = some g ∨ w.heap.size ≤ g) (q4 : g < w2.heap.size) :
    Has w2 x.b (thV x T) 183 ∧ ∃ A', MRep (w2.setCell ⟨x.b, 3, none⟩ (.slice (some ⟨g, 0, none⟩) (T.tasks.length + 1) cap)) A' N root { m with ths := m.ths.set j { T with tasks := k :: T.tasks } } ∧ MSt w A (w2.setCell ⟨x.b, 3, none⟩ (.slice (some ⟨g, 0, none⟩) (T.tasks.length + 1) cap)) A' := by
  have O := h.one _ _ _ ht hx
  obtain ⟨r1, r2⟩ := O.tk.app hf q1 q2 q3 q4
  have hb := O.b.st r2 (by omega)
  obtain ⟨p1, p2⟩ := hb.put 3 (.slice (some ⟨g, 0, none⟩) (T.tasks.length + 1) cap) (cs' := thV { x with tk := ⟨some ⟨g, 0, none⟩, cap⟩ } { T with tasks := k :: T.tasks }) (by simp [thV])
  refine ⟨hb.has, _, h.turn ht hx ((r2.weaken (fun l hl => by omega)).trans (p2.weaken (fun l hl => by omega))) (x' := { x with tk := ⟨some ⟨g, 0, none⟩, cap⟩ }) ⟨p1, ?_, (O.vl.st r2 (by omega)).st p2 (by omega)⟩ rfl⟩
  show Row _ _ _ _ _ _ (k :: T.tasks).length ((k :: T.tasks).reverse.flatMap (tkV A.E))
  rw [List.length_cons, List.reverse_cons, List.flatMap_append]
  have e : [k].flatMap (tkV A.E) = tkV A.E k := by simp
  rw [e]
  exact r1.st p2 (by omega)
set_option maxRecDepth 100000
set_option maxHeartbeats 1000000
theorem push_m (h : MRep w A N root m) (hc : m.cur < m.ths.length) (v : Vl) (hl : m.th.vals.length ≤ 1000000) : Calls Tryz.prog 124 #[.pointer (some ⟨A.br, 0, none⟩), v.val] w (PQm w A N root (m.push [v])) := by
  obtain ⟨Q, HQ⟩ : ∃ Q : Ending → World → Prop, Hid (PQm w A N root (m.push [v]) = Q) := ⟨_, rfl⟩
  rw [HQ.out]
  obtain ⟨gt, x, hx, ht, ⟨c5, c12, cg, l1, l2, l3, lc, cl, t5⟩, O⟩ := h.cur hc
  have c4 := O.b.has.cell 4
  simp only [thV, List.getElem?_toArray, List.getElem?_cons_succ, List.getElem?_cons_zero, Sl.v] at c4
  have HO := hid O
  have HH := hid h
  have HX := hid hx
  have HT := hid ht
  have HR : Hid (w.ownsRow 0 68 3 (x.vl.v m.th.vals.length) m.th.vals.length (m.th.vals.flatMap vCells)) := O.vl.own
  have HVO := hid (vCells_one [v])
  clear O h hx ht hc
  obtain ⟨M, HM⟩ : ∃ M : Nat, Hid (m.th.vals.length = M) := ⟨_, rfl⟩
  obtain ⟨LT, HLT⟩ : ∃ LT : Nat, Hid (m.ths.length = LT) := ⟨_, rfl⟩
  obtain ⟨cu, HCU⟩ : ∃ cu : Nat, Hid (m.cur = cu) := ⟨_, rfl⟩
  rw [HM.out] at c4 hl
  rw [HLT.out] at c5 lc cl t5
  rw [HCU.out] at c12 cg cl
  obtain ⟨vt, vn, vs⟩ := v
  go_enter Tryz.func124, Tryz.ntmps124
  go_wp2
  refine wp_region_tail 10 (by kernel_rfl) (by kernel_rfl) (fun _ _ _ _ _ h => h) ?_
  simp only [List.take_succ_cons, List.take_zero, List.drop_succ_cons, List.drop_zero]
  repeat go_big_quiet_step (fail)
  refine wpQuiet_nil ?_
  go_wp2_with fail
  obtain ⟨W, HW⟩ : ∃ W, Hid ((w.alloc (.cells #[.int .i64 vt, .int .u64 vn, sv vs] 68)).drew = W) := ⟨_, rfl⟩
  rw [HW.out]
  have FW : Fr (fun _ => False) w W := by rw [← HW.out]; exact ((Fr.refl _ _).alloc _).drew
  have BW : Has W w.heap.size #[.int .i64 vt, .int .u64 vn, sv vs] 68 := by rw [← HW.out]; exact (Has.new _ _ _).drew
  have d4 := FW.cell c4
  have l3W : x.b < W.heap.size := Nat.lt_of_lt_of_le l3 FW.size
  obtain ⟨y0, y1, y2⟩ := Has.cells3 (v := ⟨vt, vn, vs⟩) BW
  dsimp only at y0 y1 y2
  have lB := BW.lt
  have HFW := hid FW
  have HBW := hid BW
  clear FW BW c5 c12 cg c4 l1 l2 l3 HW
  have HRW : Hid (W.ownsRow 0 68 3 (x.vl.v m.th.vals.length) m.th.vals.length (m.th.vals.flatMap vCells)) := (HO.out.vl.st (Stp.fresh (fun _ => False) A.o HFW.out) (fun x => x)).own
  refine wp_region_app rowVal 6 (by kernel_rfl) (by kernel_rfl) (fun _ _ _ _ _ h => h) _ _ _ rfl (.tmp 20) (.tmp 19) 21 22 rfl rfl rfl rfl rfl rfl (x.vl.v m.th.vals.length) m.th.vals.length (m.th.vals.flatMap vCells) HRW.out (.agg #[.int .i64 vt, .int .u64 vn, sv vs]) rfl (by decide) (by simp [Value.cells, Value.oneCell']) (by rw [HM.out]; omega) ?_
  intro g3 cap3 w3 q1 q2 q3 q4
  have hq3 : (x.vl.v m.th.vals.length).ownBlock = some g3 ∨ w.heap.size ≤ g3 := by
    rcases q3 with q3 | q3
    · exact .inl q3
    · right; rw [q3]; have := HFW.out.size; omega
  obtain ⟨hh, A', s1, s2⟩ := HH.out.pushV HT.out HX.out [⟨vt, vn, vs⟩] (HFW.out.alloc _) q1 q2 hq3 q4
  have FIN : Hid (Q (.returned (.tuple #[])) (w3.setCell ⟨x.b, 4, none⟩ (.slice (some ⟨g3, 0, none⟩) (M + 1) cap3))) := by
    show Q _ _
    rw [← HQ.out]
    rw [HM.out] at s1 s2
    exact ⟨rfl, A', s1, s2⟩
  have hB3 : Has w3 w.heap.size #[.int .i64 vt, .int .u64 vn, sv vs] 68 := by
    refine (HBW.out.alloc _).fr q2 (fun hq => ?_)
    have := HO.out.vl.lt (by rw [ownBlock_any _ _ _ 0 0] at hq; exact hq)
    omega
  obtain ⟨z0, z1, z2⟩ := Has.cells3 (v := ⟨vt, vn, vs⟩) hB3
  dsimp only at z0 z1 z2
  have lz := hB3.lt
  have e4 := hh.cell 4
  simp only [thV, List.getElem?_toArray, List.getElem?_cons_succ, List.getElem?_cons_zero, Sl.v] at e4
  rw [HM.out] at e4
  have f4 := hh.frozen 4
  have le3 := hh.lt
  rw [HM.out]
  clear q1 q2 q3 q4 hq3 hh s1 s2 hB3
  simp only [List.take_succ_cons, List.take_zero]
  repeat go_big_quiet_step (fail)
  refine wpQuiet_nil ⟨rfl, rfl, by simp, rfl, ?_⟩
  go_wp2_with fail
  go_end0
  exact FIN.out
end
end Go.Proofs.Qxb6500574aGreatDoor
