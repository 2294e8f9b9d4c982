/-
  THE WALK of table: CheckMid.
-/
import Derived.Test.Qxb6500574aGreatDoorUCkM2
import Derived.Test.Qxb6500574aGreatDoorUCkM3
import Derived.Test.Qxb6500574aGreatDoorUCkM4
import Derived.Test.Qxb6500574aGreatDoorUShowT
namespace Go.Proofs.Qxb6500574aGreatDoor
open Go Go.RowKit
set_option linter.unusedVariables false
set_option linter.unusedSimpArgs false
open Go.Shelf

attribute [local go_sem] Oper.semAt_some

theorem run_lenMapS {w : World} {o : Nat → Nat} {lab b : Nat} {l : List (Bs × Nat)} (h : MapAt w o lab b (ents sk l)) (ty : TypeId) : (Builtin.len_ #[245] ty #[.map (some b)]).run Tryz.prog w = .ok (.int .i64 l.length) w := by
  obtain ⟨es, c, h1, h2, _⟩ := h.here
  have hl : es.size = l.length := by
    have := congrArg List.length h2
    simpa [ents] using this
  unfold Builtin.len_
  simp [Sem.run_bind, run_underlying mapS.m, MapKept.run_getObj_map h1, Result.andThen, hl, goInt]
theorem mapNil1 (b : Nat) (W : World) : (binOp .eql 244 (.map (some b)) (.map none)).run Tryz.prog W = .ok (.bool false) W := by kernel_rfl
theorem mapNil2 (b : Nat) (W : World) : (binOp .eql 245 (.map (some b)) (.map none)).run Tryz.prog W = .ok (.bool false) W := by kernel_rfl
/-- a part that does not panic -/
def calm (Q : Exit → Act → World → Prop) : Exit → Act → World → Prop
  | .panic _, _, _ => False
  | e, a, w => Q e a w
theorem calm_normal {Q : Exit → Act → World → Prop} {a : Act} {w : World} (h : Q .normal a w) : calm Q .normal a w := h
theorem wp_calm {P : Program} {c : Code} {Q : Exit → Act → World → Prop} {a : Act} {w : World} (h : c.wp P (calm Q) a w) : c.wp P Q a w := by
  intro b k cs
  obtain ⟨e, a', w', q, r⟩ := h b k cs
  refine ⟨e, a', w', ?_, r⟩
  cases e <;> first | exact q | exact q.elim
theorem heap_new (W : World) (o : Obj) : (W.alloc o).heap[W.heap.size]? = some o := by unfold World.alloc; exact Array.getElem?_push_size
/-- a place that is well formed -/
abbrev EnW := { x : Nat × (Vl × Vl) // wellV x.2.1 = true ∧ wellV x.2.2 = true ∧ isNilV x.2.1 = false }
/-- the dead that were counted, in a cell of their own -/
structure DeadI (w W : World) (Dc X c : Nat) : Prop where
  fr : Fr (fun _ => False) w W
  d : Has W Dc #[.bool false] 4
  dw : w.heap.size ≤ Dc
  x : Has W X #[.int .i64 c] 3
  xw : w.heap.size ≤ X
  ne : Dc ≠ X
theorem DeadI.fresh {w W W1 : World} {Dc X c : Nat} (h : DeadI w W Dc X c) (f : Fr (fun _ => False) W W1) : DeadI w W1 Dc X c := ⟨h.fr.trans f (fun _ _ x => x), h.d.fr f (fun x => x), h.dw, h.x.fr f (fun x => x), h.xw, h.ne⟩
theorem DeadI.own {w W W' : World} {Dc X c N : Nat} {row : Option Nat} (h : DeadI w W Dc X c) (hg : W.grownBy W' row) (hN : w.heap.size ≤ N) (hr : ∀ r, row = some r → N ≤ r ∧ ∃ o : Obj, W.heap[r]? = some o ∧ o.isCells = false) : DeadI w W' Dc X c := by
  have hf := Fr.of_grown hg
  have nc : ∀ {b : Nat} {cs : Array Value} {T : TypeId}, Has W b cs T → ¬ (row = some b) := by
    intro b cs T hb e
    obtain ⟨_, o, ho, hc⟩ := hr b e
    have hb' : W.heap[b]? = some (.cells cs T (0, 0)) := hb
    rw [hb'] at ho
    cases ho
    cases hc
  exact ⟨h.fr.trans hf (fun j hj e => by have := (hr j e).1; omega), h.d.fr hf (nc h.d), h.dw, h.x.fr hf (nc h.x), h.xw, h.ne⟩
theorem DeadI.put {w W : World} {Dc X c : Nat} (h : DeadI w W Dc X c) : DeadI w (W.setCell ⟨X, 0, none⟩ (.int .i64 ((c : Int) + 1))) Dc X (c + 1) := by
  have f : Fr (fun k => k = X) W (W.setCell ⟨X, 0, none⟩ (.int .i64 ((c : Int) + 1))) := Fr.setCell (S := fun k => k = X) (Fr.refl _ _) (p := ⟨X, 0, none⟩) (.inl rfl) _
  refine ⟨h.fr.trans f (fun j hj e => by have := h.xw; omega), h.d.fr f h.ne, h.dw, ?_, h.xw, h.ne⟩
  have := h.x.put 0 (.int .i64 ((c : Int) + 1))
  simpa using this
theorem DeadI.k {w W W2 : World} {Dc X c : Nat} (h : DeadI w W Dc X c) (f : Fr (fun k => k = X) W W2) : KeepsOthers W W2 := ⟨f.size, fun k o hk ho => by
  have hkl : k < W.heap.size := (Array.getElem?_eq_some_iff.1 hk).1
  rw [f.block k hkl (fun e => ?_)]
  · exact hk
  · have hc' : W.heap[X]? = some (.cells _ _ (0, 0)) := h.x
    rw [← e, hk] at hc'
    cases hc'
    cases ho⟩
theorem fr_keeps {W W2 : World} (f : Fr (fun _ => False) W W2) : KeepsOthers W W2 := ⟨f.size, fun k o hk ho => (f.block k (Array.getElem?_eq_some_iff.1 hk).1 (fun x => x)).trans hk⟩
def deadN (pre : List EnW) : Nat := pre.countP (fun x => isNilV x.1.2.2)
theorem deadN_snoc (pre : List EnW) (x : EnW) : deadN (pre ++ [x]) = deadN pre + (if isNilV x.1.2.2 then 1 else 0) := by
  unfold deadN
  rw [List.countP_append]
  simp [List.countP_cons]
theorem deadN_le (pre : List EnW) : deadN pre ≤ pre.length := List.countP_le_length
theorem allL_dead (o : List (Vl × Vl)) : ∀ d, d ≤ o.length → (allL o 0 d).countP (fun x => isNilV x.2.2) = (o.take d).countP (fun e => isNilV e.2) := by
  intro d
  induction d with
  | zero => intro _; rfl
  | succ d ih =>
    intro h
    rw [allL_succ, List.countP_append, ih (by omega), List.take_add_one, List.countP_append]
    have : o[d]? = some (o.getD d (nilV, nilV)) := by rw [List.getD_eq_getElem?_getD, List.getElem?_eq_getElem (show d < o.length by omega)]; rfl
    rw [this]
    simp [List.countP_cons]
theorem leave_cell {fn : Func} {tmps : Array Value} {R : Ending → World → Prop} {w W : World} {p Dc D : Nat} (hres : fn.results = #[.cell p 4]) (hp : tmps.getD p undef = .pointer (some ⟨Dc, 0, none⟩)) (hD : W.heap[D]? = some (.deferred (some []))) (hDw : w.heap.size ≤ D) (hF : Fr (fun _ => False) w W) (hc : Has W Dc #[.bool true] 4) (hR : ∀ W', Fr (fun _ => False) w W' → R (.returned (.bool true)) W') :
    LeavesInM Fence.wide 6 Tryz.prog fn tmps R [mrk D] .returning W := by
  have hg := grownBy_putObj' W D (.deferred none)
  have hne : Dc ≠ D := by
    intro e
    have hb : W.heap[Dc]? = some (.cells _ _ (0, 0)) := hc
    rw [e, hD] at hb
    cases hb
  have hc2 : Has (W.putObj D (.deferred none)) Dc #[.bool true] 4 := hc.fr (Fr.of_grown hg) (fun e => by cases e; exact hne rfl)
  refine ⟨by simp, .inl ⟨D, _, rfl, run_takeDeferred hD, ?_⟩⟩
  refine ⟨.bool true, ?_, hR _ (hF.trans (Fr.of_grown hg) (fun j hj e => by cases e; omega))⟩
  simp only [results, hres]
  have hp' : tmps[p]?.getD undef = .pointer (some ⟨Dc, 0, none⟩) := by simpa using hp
  have c3 : (W.putObj D (.deferred none)).cell? ⟨Dc, 0, none⟩ = some (.bool true) := by have := hc2.cell 0; simpa using this
  have l3 : (loadVar 4 ⟨Dc, 0, none⟩).run Tryz.prog (W.putObj D (.deferred none)) = .ok (.bool true) (W.putObj D (.deferred none)) := by simp [go_sem, c3]
  simp [Sem.run_bind, Result.andThen, hp', asAddr, l3]
section
variable {w : World} {o : Nat → Nat} {bt bn n h g : Nat} {s : Sl} {xs : List (TabD × TbL)} {t : TabD} {l : TbL}
set_option maxRecDepth 100000
set_option maxHeartbeats 1000000
theorem checkMid_any (r : TabsRep w o bt bn s n xs) (hx : xs[h]? = some (t, l)) (hm : TMid t) (hxl : xs.length ≤ 12) :
    Calls Tryz.prog 145 #[.pointer (some ⟨bt, 0, none⟩), .int .i64 h] w fun e' w' => e' = .returned (.bool true) ∧ Fr (fun _ => False) w w' := by
  obtain ⟨Q, HQ⟩ : ∃ Q : Ending → World → Prop, Hid ((fun e' w' => e' = .returned (.bool true) ∧ Fr (fun _ => False) w w') = Q) := ⟨_, rfl⟩
  rw [HQ.out]
  have FIN : Hid (∀ W, Fr (fun _ => False) w W → Q (.returned (.bool true)) W) := fun W hF => by rw [← HQ.out]; exact ⟨rfl, hF⟩
  refine (callsIn_wide (n := 6)).1 ?_
  obtain ⟨g, hg, gcap, _, gl, gc, gf⟩ := r.at hx
  have hhl := (List.getElem?_eq_some_iff.1 hx).1
  have b0 := r.here.has.cell 0
  have b1 := r.here.has.cell 1
  have hbt := r.here.has.lt
  have c0 := gc 0 (by omega)
  have c1 := gc 1 (by omega)
  have c2 := gc 2 (by omega)
  have c3 := gc 3 (by omega)
  have c4 := gc 4 (by omega)
  have c5 := gc 5 (by omega)
  simp only [List.getElem?_toArray, List.getElem?_cons_zero, List.getElem?_cons_succ, Sl.v, tbCells, hg, Nat.add_zero] at b0 b1 c0 c1 c2 c3 c4 c5
  have HR : Hid (TabsRep w o bt bn s n xs) := r
  have HX : Hid (xs[h]? = some (t, l)) := hx
  have HG : Hid (s.a = some ⟨g, 0, none⟩) := hg
  have HM : Hid (TMid t) := hm
  have hol := hm.ol
  have hsz := hm.sz
  have HF0 : Hid (Fr (fun _ => False) w (w.alloc (.cells #[.bool false] 4))) := (Fr.refl _ _).alloc _
  have r0 := r.st (Stp.fresh (fun _ => False) o HF0.out.drew) (fun _ _ x => x)
  have l1 := fun ty => run_lenMap (r0.one h _ hx).nums ty
  have l2 := fun ty => run_lenMapS (r0.one h _ hx).strs ty
  have l3 := fun ty => run_lenMap (r0.one h _ hx).refs ty
  dsimp only at l1 l2 l3
  obtain ⟨NO, HNO⟩ : ∃ x, Hid (t.order.length = x) := ⟨_, rfl⟩
  obtain ⟨N1, HN1⟩ : ∃ x, Hid (t.nums.length = x) := ⟨_, rfl⟩
  obtain ⟨N2, HN2⟩ : ∃ x, Hid (t.strs.length = x) := ⟨_, rfl⟩
  obtain ⟨N3, HN3⟩ : ∃ x, Hid (t.refs.length = x) := ⟨_, rfl⟩
  obtain ⟨NX, HNX⟩ : ∃ x, Hid (xs.length = x) := ⟨_, rfl⟩
  rw [HNO.out] at c0 hol hsz
  rw [HN1.out] at l1 hsz
  rw [HN2.out] at l2 hsz
  rw [HN3.out] at l3 hsz
  rw [HNX.out] at b1 hhl hxl gcap
  have g1 : decide ((h : Int) < 0) = false := by rw [decide_eq_false_iff_not]; omega
  have g2 : decide (NX ≤ h) = false := by rw [decide_eq_false_iff_not]; omega
  have g3 : decide (32 < NO) = false := by rw [decide_eq_false_iff_not]; omega
  clear r hx hg hm gc gf r0
  refine callsIn_of_wp_marks Tryz.func145 rfl trivial ?_ rfl
  simp only [Tryz.ntmps145, List.size_toArray, List.length_cons, List.length_nil, Nat.reduceAdd, Nat.reduceSub, Array.replicate_succ, Array.replicate_zero, List.push_toArray, List.append_toArray, List.nil_append, List.cons_append]
  refine wpIn_wide.2 ?_
  have m1 := mapNil1
  have m2 := mapNil2
  have hn1 : N1 ≤ 32 := by omega
  have hn2 : N2 ≤ 32 := by omega
  have hn3 : N3 ≤ 32 := by omega
  have hna : t.arr.length ≤ 32 := by omega
  have hsum : ((t.arr.length : Int) + N1 + N2 + N3 != NO) = false := by rw [bne_eq_false_iff_eq]; omega
  have hsm2 : ((t.arr.length : Int) + N1 + N2 + N3) = NO := by omega
  go_wp2_with fail
  refine wp_calm ?_
  refine wp_region_tail 28 (by kernel_rfl) (by kernel_rfl) (fun _ _ _ _ _ h => h) ?_
  simp only [List.take_succ_cons, List.take_zero, List.drop_succ_cons, List.drop_zero]
  repeat go_big_quiet_step (fail)
  refine wpQuiet_nil ?_
  go_wp2_with fail
  refine calm_normal ?_
  clear l1 l2 l3 m1 m2
  have HS0 : Hid (∀ cs, cs = snC (List.replicate 32 false) → Seen w (((w.alloc (.cells #[.bool false] 4)).drew).alloc (.cells cs 343)) w.heap.size (w.heap.size + 1) (List.replicate 32 false) (fun _ => False)) := by
    rintro cs rfl
    refine ⟨((HF0.out.drew).alloc _), (((Has.newC w _ _ rfl).drew).alloc _), Nat.le_refl _, Has.newC _ _ _ (by simp), by omega, by omega, rfl, fun q hq => ?_⟩
    rw [List.getElem?_replicate] at hq
    split at hq <;> cases hq
  go_wp2_with fail
  refine cm_arr HR.out HX.out HG.out HM.out (HS0.out _ rfl) ?ha ?h100 ?h101 ?h102 ?_
  case ha => exact ⟨by kernel_rfl, rfl, by kernel_rfl, by kernel_rfl, by kernel_rfl, by kernel_rfl⟩
  case h100 => kernel_rfl
  case h101 => kernel_rfl
  case h102 => kernel_rfl
  intro a1 W1 sn1 ha hS1
  clear HS0
  obtain ⟨B, HB⟩ : ∃ B, Hid (w.heap.size + 1 = B) := ⟨_, rfl⟩
  obtain ⟨Dc, HDC⟩ : ∃ D, Hid (w.heap.size = D) := ⟨_, rfl⟩
  rw [HB.out] at ha hS1
  rw [HDC.out] at ha hS1
  obtain ⟨u, ea, hu⟩ := form249 ha.size ha.df
  rw [hu 0 _ ha.t0, hu 4 _ ha.t4, hu 5 _ ha.t5, hu 6 _ ha.t6] at ea
  subst ea
  clear hu ha
  obtain ⟨es1, k1, e1, e2, e3⟩ := (HR.out.one h _ HX.out).nums.here
  have hml := (Array.getElem?_eq_some_iff.1 e1).1
  have hrg := run_range_map (P := Tryz.prog) W1 244 36 21 l.nums es1 k1 mapU.m ((hS1.fr.block _ hml (fun x => x)).trans e1)
  have d2 := hS1.fr.cell c2
  have gl1 := Nat.lt_of_lt_of_le gl hS1.fr.size
  have HS1 : Hid (Seen w (W1.alloc (.mapIter (some l.nums) k1 #[] k1)) Dc B sn1 (fun q => q ∈ t.arr)) := hS1.fresh ((Fr.refl _ _).alloc _)
  have HN : Hid (w.heap.size ≤ W1.heap.size ∧ W1.heap.size ≠ B ∧ W1.heap.size ≠ Dc) := ⟨hS1.fr.size, fun e => by have := hS1.h.lt; omega, fun e => by have := hS1.d.lt; omega⟩
  have HIT : Hid ((W1.alloc (.mapIter (some l.nums) k1 #[] k1)).heap[W1.heap.size]? = some (.mapIter (some l.nums) k1 #[] k1)) := heap_new _ _
  have HE : Hid (_ ∧ _ ∧ _) := ⟨e1, e2, e3⟩
  clear hS1 e1 e2 e3 hml
  go_wp2_with fail
  refine cm_nums HR.out HX.out HG.out HM.out HE.out.1 HE.out.2.1 HE.out.2.2 HS1.out HN.out.1 HN.out.2.1 HN.out.2.2 HIT.out ?ha ?hsl ?_
  case ha => exact ⟨by kernel_rfl, rfl, by kernel_rfl, by kernel_rfl, by kernel_rfl, by kernel_rfl⟩
  case hsl => kernel_rfl
  clear HS1 HN HIT HE d2 gl1 hrg
  intro a2 W2 sn2 ha hS2
  obtain ⟨u, ea, hu⟩ := form249 ha.size ha.df
  rw [hu 0 _ ha.t0, hu 4 _ ha.t4, hu 5 _ ha.t5, hu 6 _ ha.t6] at ea
  subst ea
  clear hu ha
  obtain ⟨es2, k2, e1, e2, e3⟩ := (HR.out.one h _ HX.out).strs.here
  have hml := (Array.getElem?_eq_some_iff.1 e1).1
  have hrg := run_range_map (P := Tryz.prog) W2 245 9 21 l.strs es2 k2 mapS.m ((hS2.fr.block _ hml (fun x => x)).trans e1)
  have d2 := hS2.fr.cell c3
  have gl1 := Nat.lt_of_lt_of_le gl hS2.fr.size
  have HS1 : Hid (Seen w (W2.alloc (.mapIter (some l.strs) k2 #[] k2)) Dc B sn2 (fun q => q ∈ t.arr ∨ q ∈ t.nums.map (fun e => e.2))) := hS2.fresh ((Fr.refl _ _).alloc _)
  have HN : Hid (w.heap.size ≤ W2.heap.size ∧ W2.heap.size ≠ B ∧ W2.heap.size ≠ Dc) := ⟨hS2.fr.size, fun e => by have := hS2.h.lt; omega, fun e => by have := hS2.d.lt; omega⟩
  have HIT : Hid ((W2.alloc (.mapIter (some l.strs) k2 #[] k2)).heap[W2.heap.size]? = some (.mapIter (some l.strs) k2 #[] k2)) := heap_new _ _
  have HE : Hid (_ ∧ _ ∧ _) := ⟨e1, e2, e3⟩
  clear hS2 e1 e2 e3 hml
  go_wp2_with fail
  refine cm_strs HR.out HX.out HG.out HM.out HE.out.1 HE.out.2.1 HE.out.2.2 HS1.out HN.out.1 HN.out.2.1 HN.out.2.2 HIT.out ?ha ?hsl ?_
  case ha => exact ⟨by kernel_rfl, rfl, by kernel_rfl, by kernel_rfl, by kernel_rfl, by kernel_rfl⟩
  case hsl => kernel_rfl
  clear HS1 HN HIT HE d2 gl1 hrg
  intro a3 W3 sn3 ha hS3
  obtain ⟨u, ea, hu⟩ := form249 ha.size ha.df
  rw [hu 0 _ ha.t0, hu 4 _ ha.t4, hu 5 _ ha.t5, hu 6 _ ha.t6] at ea
  subst ea
  clear hu ha
  obtain ⟨es3, k3, e1, e2, e3⟩ := (HR.out.one h _ HX.out).refs.here
  have hml := (Array.getElem?_eq_some_iff.1 e1).1
  have hrg := run_range_map (P := Tryz.prog) W3 244 36 21 l.refs es3 k3 mapU.m ((hS3.fr.block _ hml (fun x => x)).trans e1)
  have d2 := hS3.fr.cell c4
  have gl1 := Nat.lt_of_lt_of_le gl hS3.fr.size
  have HS1 : Hid (Seen w (W3.alloc (.mapIter (some l.refs) k3 #[] k3)) Dc B sn3 (fun q => (q ∈ t.arr ∨ q ∈ t.nums.map (fun e => e.2)) ∨ q ∈ t.strs.map (fun e => e.2))) := hS3.fresh ((Fr.refl _ _).alloc _)
  have HN : Hid (w.heap.size ≤ W3.heap.size ∧ W3.heap.size ≠ B ∧ W3.heap.size ≠ Dc) := ⟨hS3.fr.size, fun e => by have := hS3.h.lt; omega, fun e => by have := hS3.d.lt; omega⟩
  have HIT : Hid ((W3.alloc (.mapIter (some l.refs) k3 #[] k3)).heap[W3.heap.size]? = some (.mapIter (some l.refs) k3 #[] k3)) := heap_new _ _
  have HE : Hid (_ ∧ _ ∧ _) := ⟨e1, e2, e3⟩
  clear hS3 e1 e2 e3 hml
  go_wp2_with fail
  refine cm_refs HR.out HX.out HG.out HM.out HE.out.1 HE.out.2.1 HE.out.2.2 HS1.out HN.out.1 HN.out.2.1 HN.out.2.2 HIT.out ?ha ?hsl ?_
  case ha => exact ⟨by kernel_rfl, rfl, by kernel_rfl, by kernel_rfl, by kernel_rfl, by kernel_rfl⟩
  case hsl => kernel_rfl
  clear HS1 HN HIT HE d2 gl1 hrg
  intro a4 W4 sn4 ha hS4
  obtain ⟨u, ea, hu⟩ := form249 ha.size ha.df
  rw [hu 0 _ ha.t0, hu 4 _ ha.t4, hu 5 _ ha.t5, hu 6 _ ha.t6] at ea
  subst ea
  clear hu ha
  obtain ⟨X, HXX⟩ : ∃ X, Hid (W4.heap.size = X) := ⟨_, rfl⟩
  have HD1 : Hid (DeadI w (W4.alloc (.cells #[.int .i64 0] 3)) Dc X 0) := ⟨hS4.fr.alloc _, hS4.d.alloc _, hS4.dw, Has.newC _ _ _ HXX.out.symm, by rw [← HXX.out]; exact hS4.fr.size, fun e => by have := hS4.d.lt; have := HXX.out; omega⟩
  clear hS4
  obtain ⟨W5, HW5⟩ : ∃ W5, Hid (W4.alloc (.cells #[.int .i64 0] 3) = W5) := ⟨_, rfl⟩
  go_wp2_with fail
  rw [HW5.out] at HD1 ⊢
  rw [HXX.out]
  refine ((callsIn_wide (n := 6)).1 (places_inA g h 0 _)).mono ?_
  rintro e' w2 ⟨rfl, hw2⟩
  have F2 : Fr (fun _ => False) W5 w2 := by rw [hw2]; exact (((Fr.refl _ W5).alloc _).alloc _).alloc _
  have j1 : Has w2 W5.heap.size #[.pointer (some ⟨g, h * 6, none⟩)] 241 := by rw [hw2]; exact ((Has.new W5 _ _).alloc _).alloc _
  have j2 : Has w2 (W5.heap.size + 1) #[.int .i64 0] 3 := by rw [hw2]; exact (Has.newC _ _ _ (by simp)).alloc _
  have j3 : Has w2 (W5.heap.size + 2) #[.bool true] 4 := by rw [hw2]; exact Has.newC _ _ _ (by simp)
  have HD2 : Hid (DeadI w w2 Dc X 0) := HD1.out.fresh F2
  have FW := HD2.out.fr
  have HFW : Hid (Fr (fun _ => False) w w2) := FW
  have hj1' : w2.cell? ⟨W5.heap.size, 0, none⟩ = some (.pointer (some ⟨g, h * 6, none⟩)) := by have := j1.cell 0; simpa using this
  have HJ1 : Hid (w2.cell? ⟨W5.heap.size, 0, none⟩ = some (.pointer (some ⟨g, h * 6, none⟩))) := hj1'
  have hj2' : w2.cell? ⟨W5.heap.size + 1, 0, none⟩ = some (.int .i64 0) := by have := j2.cell 0; simpa using this
  have HJ2 : Hid (w2.cell? ⟨W5.heap.size + 1, 0, none⟩ = some (.int .i64 0)) := hj2'
  have hj3' : w2.cell? ⟨W5.heap.size + 2, 0, none⟩ = some (.bool true) := by have := j3.cell 0; simpa using this
  have HJ3 : Hid (w2.cell? ⟨W5.heap.size + 2, 0, none⟩ = some (.bool true)) := hj3'
  have hj3 := j3.lt
  have HCC : Hid (w2.cell? ⟨g, h * 6, none⟩ = some (.slice l.ord.a t.order.length l.ord.c)) := by
    rw [HNO.out]
    exact FW.cell c0
  have HROW : Hid (∀ j, j < t.order.length → ∃ go, l.ord.a = some ⟨go, 0, none⟩ ∧ go < w.heap.size ∧ ∀ d, d < 6 → w2.cell? ⟨go, j * 6 + d, none⟩ = (eCells (t.order.getD j (nilV, nilV)))[d]?) := by
    intro j hj
    obtain ⟨go, q1, q2, q3, q4, q5, q6⟩ := ((HR.out.one h _ HX.out).ord).at eCells_len (show (t, l).1.order[j]? = some t.order[j] by simp)
    refine ⟨go, q1, q4, fun d hd => ?_⟩
    have h5 := q5 d hd
    rw [show t.order.getD j (nilV, nilV) = t.order[j] by simp [hj]]
    obtain ⟨v, hv⟩ : ∃ v, (eCells t.order[j])[d]? = some v := ⟨(eCells t.order[j])[d]'(by rw [eCells_len]; exact hd), by simp⟩
    rw [hv] at h5 ⊢
    exact FW.cell h5
  have HSB : Hid (w.heap.size ≤ X ∧ X < W5.heap.size ∧ W5.heap.size + 2 < w2.heap.size ∧ w.heap.size ≤ w2.heap.size) := ⟨HD1.out.xw, HD1.out.x.lt, hj3, FW.size⟩
  have HVV : Hid (∀ e ∈ t.order, wellV e.1 = true ∧ wellV e.2 = true ∧ isNilV e.1 = false) := fun e he => by
    obtain ⟨z1, z2, z3⟩ := HM.out.wk e he
    refine ⟨z1, z2, ?_⟩
    unfold isNilV Vl.same
    have : (e.1.t == nilV.t) = false := by rw [beq_eq_false_iff_ne]; exact z3
    rw [this]
    rfl
  have HGL : Hid (g < w.heap.size) := gl
  have ho32 := HM.out.ol
  have hh12 : h ≤ 12 := by omega
  clear hw2 F2 j1 j2 j3 hj1' hj2' hj3' FW c0 c1 c2 c3 c4 b0 b1 hbt gl HD1
  go_wp2_with fail
  refine (wpIn_wide (n := 6)).1 ?_
  generalize ha : ({ tmps := _, defers := _ } : Act) = a0
  refine wpIn_rangeFunc_ownH (α := EnW) rfl (by omega) (gf := 270) (lb := #[.pointer (some ⟨W5.heap.size + 1, 0, none⟩), .pointer (some ⟨W5.heap.size, 0, none⟩), .pointer (some ⟨W5.heap.size + 2, 0, none⟩)]) (by rw [← ha]; rfl) trivial (enters_of Tryz.func270 (by kernel_rfl) rfl)
    (encs := fun x : EnW => #[.int .i64 (x.1.1 : Int), encE x.1.2]) (Kp := KX (fun k => k < w2.heap.size ∧ k ≠ X)) (S := fun ys => ys.map Subtype.val = allL t.order 0 (t.order.length - 0)) (Sp := fun _ => True) (N := 33) (w0 := w2)
    (fun l' J Jx W hW hJ hJx hY h0 => (placesA_in (by omega) l' (W5.heap.size + 1) W5.heap.size (W5.heap.size + 2) w2.heap.size g h 0 t.order l.ord.a l.ord.c ho32 (by omega) (by omega) (fun k => k < w2.heap.size ∧ k ≠ X) (fun k hk => hk.1) (by have := HGL.out; have := HSB.out; exact ⟨by omega, by omega⟩) (by have := HSB.out; exact ⟨by omega, by omega⟩) (by have := HSB.out; exact ⟨by omega, by omega⟩) (by have := HSB.out; exact ⟨by omega, by omega⟩)
      (fun pre W => ∃ pre' : List EnW, pre'.map Subtype.val = pre ∧ J pre' W) (fun pre W => ∃ pre' : List EnW, Jx pre' W)
      (fun pre x W hx hJp hlen => by
        obtain ⟨pre', rfl, hJ'⟩ := hJp
        obtain ⟨fn, tmps, assign, body, hy, hR⟩ := hY pre' ⟨x, HVV.out _ hx⟩ W hJ' (by simpa using hlen)
        refine ⟨fn, tmps, assign, body, hy, hR.mono ?_⟩
        rintro e W' (⟨h1, h2, h3⟩ | ⟨h1, h2⟩)
        · exact .inl ⟨h1, ⟨pre' ++ [⟨x, HVV.out _ hx⟩], by simp, h2⟩, h3⟩
        · exact .inr ⟨h1, _, h2⟩)
      (fun pre A B hA hAB => by obtain ⟨pre', e, hA⟩ := hA; exact ⟨pre', e, hJ pre' A B none hA (Fr.grown hAB) (fun r e => by cases e)⟩) W ((hW.cell (p := ⟨W5.heap.size + 1, 0, none⟩) (by have := HSB.out; simp; omega)).trans HJ2.out) ((hW.cell (p := ⟨W5.heap.size, 0, none⟩) (by have := HSB.out; simp; omega)).trans HJ1.out) ((hW.cell (p := ⟨W5.heap.size + 2, 0, none⟩) (by have := HSB.out; simp; omega)).trans HJ3.out) ((hW.cell (p := ⟨g, h * 6, none⟩) (by have := HGL.out; have := HSB.out; simp; omega)).trans HCC.out) hW.size
      (fun j hj => by
        obtain ⟨go, q1, q2, q3⟩ := HROW.out j hj
        have hSB := HSB.out
        exact ⟨go, q1, ⟨by omega, by omega⟩, fun d hd => (hW.cell (p := ⟨go, j * 6 + d, none⟩) (by simp; omega)).trans (q3 d hd)⟩) ⟨[], rfl, h0⟩).mono (by
        rintro e W' ⟨h1, ⟨ys, rfl, pre', e1, h2⟩ | ⟨pre, _, pre', h2⟩⟩
        · exact ⟨h1, .inl ⟨pre', e1, h2⟩⟩
        · exact ⟨h1, .inr ⟨pre', trivial, h2⟩⟩))
    KX.trans (fun W l o o' hl => KX.put (fun k hk => hk.1) W l o o' hl) (Below.refl _ _) (fun _ => rfl)
    (fun pre W => DeadI w W Dc X (deadN pre) ∧ w2.heap.size ≤ W.heap.size)
    (fun _ _ _ => False)
    ?ownI (fun _ _ _ _ _ x => x.elim) ?start
    (fun x a' W => ∃ Bx, w2.heap.size ≤ Bx ∧ Has W Bx #[.int .i64 x.1.2.1.t, .int .u64 x.1.2.1.n, sv x.1.2.1.s, .int .i64 x.1.2.2.t, .int .u64 x.1.2.2.n, sv x.1.2.2.s] 259 ∧ a' = { tmps := ((a0.tmps.setIfInBounds 219 (.int .i64 (x.1.1 : Int))).setIfInBounds 220 (encE x.1.2)).setIfInBounds 21 (.pointer (some ⟨Bx, 0, none⟩)), defers := [] })
    ?ownA ?assign ?body ?done ?stop
  case ownI =>
    rintro pre W W' row ⟨h1, h3⟩ hg hr
    exact ⟨h1.own hg HSB.out.2.2.2 hr, Nat.le_trans h3 hg.size⟩
  case start => exact ⟨HD2.out, Nat.le_refl _⟩
  case ownA =>
    intro x a' u X Y row hs hg hr
    obtain ⟨Bx, h1, h2, h3⟩ := hs
    refine ⟨Bx, h1, h2.fr (Fr.of_grown hg) (fun e => ?_), h3⟩
    obtain ⟨_, o, ho, hc⟩ := hr Bx e
    have hb' : X.heap[Bx]? = some (.cells _ _ (0, 0)) := h2
    rw [hb'] at ho
    cases ho
    cases hc
  case assign =>
    rintro l' pre ⟨⟨x1, ⟨⟨kt, kn, ks⟩, ⟨vt, vn, vs⟩⟩⟩, hxs⟩ W K ⟨h1, h3⟩ hK
    have HK : Hid (∀ (a' : Act) (W' : World), _) := hK
    have HA : Hid (_ = a0) := ha
    have HI : Hid (DeadI w W Dc X (deadN pre)) := h1
    rw [← ha]
    clear hK ha h1
    dsimp only [encE]
    gi_wp2
    refine HK.out _ _ ((KeepsOthers.alloc _ _).from _) (KX.of_fr ((Fr.refl _ W).alloc _) (fun k hk => ⟨by omega, fun x => x⟩)) ⟨HI.out.fresh ((Fr.refl _ W).alloc _), by simp; omega⟩ ⟨W.heap.size, h3, Has.new W _ _, by rw [← HA.out]; rfl⟩
  case body =>
    rintro l' pre ⟨⟨x1', ⟨⟨kt, kn, ks⟩, ⟨vt, vn, vs⟩⟩⟩, hxs⟩ a' W hl ⟨r, hr⟩ ⟨h1, h3⟩ ⟨Bx, hBx, bX, rfl⟩ hlen
    rw [← ha]
    simp only [encE, List.setIfInBounds_toArray, List.set_cons_succ, List.set_cons_zero]
    dsimp only at bX hxs
    have hdl := deadN_le pre
    have HXS : Hid (wellV ⟨kt, kn, ks⟩ = true ∧ wellV ⟨vt, vn, vs⟩ = true ∧ isNilV ⟨kt, kn, ks⟩ = false) := hxs
    have x0 := bX.cell 0
    have x1 := bX.cell 1
    have x2 := bX.cell 2
    have x3 := bX.cell 3
    have x4 := bX.cell 4
    have x5 := bX.cell 5
    simp only [List.getElem?_toArray, List.getElem?_cons_succ, List.getElem?_cons_zero] at x0 x1 x2 x3 x4 x5
    have xl := bX.lt
    have HI : Hid (DeadI w W Dc X (deadN pre)) := h1
    generalize hqb : ownPostG w2.heap.size _ _ _ _ W = QB
    have HQB : Hid (∀ a' W', KeepsFrom w2.heap.size W W' ∧ KX (fun k => k < w2.heap.size ∧ k ≠ X) W W' ∧ (DeadI w W' Dc X (deadN (pre ++ [(⟨(x1', (⟨kt, kn, ks⟩, ⟨vt, vn, vs⟩)), hxs⟩ : EnW)])) ∧ w2.heap.size ≤ W'.heap.size) → QB .normal a' W') := by
      rw [← hqb]
      exact fun a' W' h => h
    rw [deadN_snoc] at HQB
    dsimp only at HQB
    obtain ⟨dn, HDN⟩ : ∃ d, Hid (deadN pre = d) := ⟨_, rfl⟩
    rw [HDN.out] at HQB HI hdl
    have hwk : ∀ W, Calls Tryz.prog 108 #[.agg #[.int .i64 kt, .int .u64 kn, sv ks]] W fun e w' => e = .returned (.bool true) ∧ Fr (fun _ => False) W w' := fun W => by have := well_any (w := W) ⟨kt, kn, ks⟩; rw [HXS.out.1] at this; exact this
    have HWK : Hid (∀ W, Calls Tryz.prog 108 #[.agg #[.int .i64 kt, .int .u64 kn, sv ks]] W fun e w' => e = .returned (.bool true) ∧ Fr (fun _ => False) W w') := hwk
    have hwv : ∀ W, Calls Tryz.prog 108 #[.agg #[.int .i64 vt, .int .u64 vn, sv vs]] W fun e w' => e = .returned (.bool true) ∧ Fr (fun _ => False) W w' := fun W => by have := well_any (w := W) ⟨vt, vn, vs⟩; rw [HXS.out.2.1] at this; exact this
    have HWV : Hid (∀ W, Calls Tryz.prog 108 #[.agg #[.int .i64 vt, .int .u64 vn, sv vs]] W fun e w' => e = .returned (.bool true) ∧ Fr (fun _ => False) W w') := hwv
    have hnk : ∀ W, Calls Tryz.prog 138 #[.agg #[.int .i64 kt, .int .u64 kn, sv ks]] W fun e w' => e = .returned (.bool false) ∧ Fr (fun _ => False) W w' := fun W => by have := isNil_any (w := W) ⟨kt, kn, ks⟩; rw [HXS.out.2.2] at this; exact this
    have HNK : Hid (∀ W, Calls Tryz.prog 138 #[.agg #[.int .i64 kt, .int .u64 kn, sv ks]] W fun e w' => e = .returned (.bool false) ∧ Fr (fun _ => False) W w') := hnk
    obtain ⟨nv, HNV⟩ : ∃ b, Hid (isNilV ⟨vt, vn, vs⟩ = b) := ⟨_, rfl⟩
    rw [HNV.out] at HQB
    have hnv : ∀ W, Calls Tryz.prog 138 #[.agg #[.int .i64 vt, .int .u64 vn, sv vs]] W fun e w' => e = .returned (.bool nv) ∧ Fr (fun _ => False) W w' := fun W => by have := isNil_any (w := W) ⟨vt, vn, vs⟩; rw [HNV.out] at this; exact this
    have HNW : Hid (∀ W, Calls Tryz.prog 138 #[.agg #[.int .i64 vt, .int .u64 vn, sv vs]] W fun e w' => e = .returned (.bool nv) ∧ Fr (fun _ => False) W w') := hnv
    clear h1 bX ha hr hl r hqb hxs hwk hwv hnk hnv
    gi_wp2
    refine ⟨trivial, ?_⟩
    refine (CallsIn.inRound l' (callsIn_wide.2 (HWK.out _))).mono ?_
    rintro e' w3 ⟨rfl, f3⟩
    have HF3 : Hid (Fr (fun _ => False) W w3) := f3
    have y3 := f3.cell x3
    have y4 := f3.cell x4
    have y5 := f3.cell x5
    have yl := Nat.lt_of_lt_of_le xl f3.size
    clear f3
    gi_wp2
    refine ⟨trivial, ?_⟩
    refine (CallsIn.inRound l' (callsIn_wide.2 (HWV.out _))).mono ?_
    rintro e' w4 ⟨rfl, f4⟩
    have HF4 : Hid (Fr (fun _ => False) W w4) := HF3.out.trans f4 (fun _ _ x => x)
    have y0 := HF4.out.cell x0
    have y1 := HF4.out.cell x1
    have y2 := HF4.out.cell x2
    have yl := Nat.lt_of_lt_of_le xl HF4.out.size
    clear f4 y3 y4 y5
    gi_wp2
    refine ⟨trivial, ?_⟩
    refine (CallsIn.inRound l' (callsIn_wide.2 (HNK.out _))).mono ?_
    rintro e' w5 ⟨rfl, f5⟩
    have HF5 : Hid (Fr (fun _ => False) W w5) := HF4.out.trans f5 (fun _ _ x => x)
    have y3 := HF5.out.cell x3
    have y4 := HF5.out.cell x4
    have y5 := HF5.out.cell x5
    have yl := Nat.lt_of_lt_of_le xl HF5.out.size
    clear f5 y0 y1 y2
    gi_wp2
    refine ⟨trivial, ?_⟩
    refine (CallsIn.inRound l' (callsIn_wide.2 (HNW.out _))).mono ?_
    rintro e' w6 ⟨rfl, f6⟩
    have HF6 : Hid (Fr (fun _ => False) W w6) := HF5.out.trans f6 (fun _ _ x => x)
    have HI6 : Hid (DeadI w w6 Dc X dn) := HI.out.fresh HF6.out
    have q0 := HI6.out.x.cell 0
    have q1 := HI6.out.x.frozen 0
    have ql := HI6.out.x.lt
    simp only [List.getElem?_toArray, List.getElem?_cons_zero] at q0
    clear f6 y3 y4 y5
    cases nv with
    | false =>
      have FINB : Hid (∀ a', QB .normal a' w6) := fun a' => HQB.out a' w6 ⟨(fr_keeps HF6.out).from _, KX.of_fr HF6.out (fun k hk => ⟨by omega, fun x => x⟩), by simpa using HI6.out, Nat.le_trans h3 HF6.out.size⟩
      gi_wp2
      exact FINB.out _
    | true =>
      have hfx : Fr (fun k => k = X) W (w6.setCell ⟨X, 0, none⟩ (.int .i64 ((dn : Int) + 1))) := (HF6.out.weaken (fun _ _ x => x.elim)).trans (Fr.setCell (S := fun k => k = X) (Fr.refl _ _) (p := ⟨X, 0, none⟩) (.inl rfl) _) (fun _ _ x => x)
      have FINB : Hid (∀ a', QB .normal a' (w6.setCell ⟨X, 0, none⟩ (.int .i64 ((dn : Int) + 1)))) := fun a' => HQB.out a' _ ⟨(HI.out.k hfx).from _, KX.of_fr hfx (fun k hk => ⟨by omega, hk.2⟩), by simpa using HI6.out.put, Nat.le_trans h3 hfx.size⟩
      clear hfx
      gi_wp2
      exact FINB.out _
  case done =>
    rintro D ys W9 hD hS ⟨h1, h3⟩ hK
    have hdd : deadN ys = t.dead := by
      have e1 : deadN ys = (ys.map Subtype.val).countP (fun x => isNilV x.2.2) := by unfold deadN; rw [List.countP_map]; rfl
      rw [e1, hS, allL_dead _ _ (by omega), show t.order.length - 0 = t.order.length from rfl, List.take_length]
      exact HM.out.dd.symm
    rw [hdd] at h1
    rw [← ha]
    have HI : Hid (DeadI w W9 Dc X t.dead) := h1
    have hd0 := h1.x.cell 0
    simp only [List.getElem?_toArray, List.getElem?_cons_zero] at hd0
    have hdl := h1.x.lt
    have r0 := h1.d.cell 0
    have r1 := h1.d.frozen 0
    have rl := h1.d.lt
    simp only [List.getElem?_toArray, List.getElem?_cons_zero] at r0
    have d5 := h1.fr.cell c5
    have gl9 := Nat.lt_of_lt_of_le HGL.out h1.fr.size
    obtain ⟨dn, HDN⟩ : ∃ d, Hid (t.dead = d) := ⟨_, rfl⟩
    have FINW : Hid (∀ fn tmps, fn.results = #[.cell 4 4] → tmps.getD 4 undef = .pointer (some ⟨Dc, 0, none⟩) → LeavesInM Fence.wide 6 Tryz.prog fn tmps Q [mrk D] .returning (W9.drew.setCell ⟨Dc, 0, none⟩ (.bool true))) := by
      intro fn tmps h2 h4
      have hne : D ≠ Dc := by
        intro e
        have hb : W9.heap[Dc]? = some (.cells _ _ (0, 0)) := HI.out.d
        rw [← e, hK] at hb
        cases hb
      have hg := Fr.setCell (S := fun k => k = Dc) ((Fr.refl _ W9).drew) (p := ⟨Dc, 0, none⟩) (.inl rfl) (.bool true)
      refine leave_cell (w := w) h2 h4 (D := D) ?_ (Nat.le_trans HSB.out.2.2.2 (by omega)) ?_ ?_ FIN.out
      · rw [hg.block D (Array.getElem?_eq_some_iff.1 hK).1 hne]
        exact hK
      · exact HI.out.fr.trans hg (fun j hj e => by have := HI.out.dw; omega)
      · have := HI.out.d.drew.put 0 (.bool true)
        simpa using this
    rw [HDN.out] at hd0 d5
    clear h1 hK ha hS hdd
    dsimp only
    go_wp2_with fail
    refine wp_calm ?_
    refine wp_region_tail 6 (by kernel_rfl) (by kernel_rfl) (fun _ _ _ _ _ h => h) ?_
    simp only [List.take_succ_cons, List.take_zero, List.drop_succ_cons, List.drop_zero]
    repeat go_big_quiet_step (fail)
    refine wpQuiet_nil ?_
    go_wp2_with fail
    refine calm_normal ?_
    go_wp2_with fail
    exact FINW.out _ _ rfl (by kernel_rfl)
  case stop => exact fun _ _ _ _ _ _ x => x.elim
end
end Go.Proofs.Qxb6500574aGreatDoor
