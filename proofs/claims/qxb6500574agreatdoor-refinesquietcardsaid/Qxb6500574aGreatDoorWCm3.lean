/-
  THE WALK of comp: declare, bind, leave.
-/
import Derived.Test.Qxb6500574aGreatDoorWCm2
namespace Go.Proofs.Qxb6500574aGreatDoor
open Go Go.RowKit
set_option linter.unusedVariables false
set_option linter.unusedSimpArgs false
open Go.Lib
section
set_option maxRecDepth 100000
set_option maxHeartbeats 1000000
variable {w : World} {o : Nat → Nat} {C : CC} {N : List Nd} {c : CmD} {x : Nat}
theorem max2n {P : Program} {ts : Array TypeId} {t : TypeId} (w : World) (a b : Nat) : (Builtin.max_ ts t #[.int .i64 (a : Nat), .int .i64 (b : Nat)]).run P w = .ok (.int .i64 ((max a b : Nat) : Int)) w := by
  have e : (if (b : Int) > (a : Int) then (b : Int) else a) = ((max a b : Nat) : Int) := by split <;> omega
  rw [← e]
  simp [Builtin.max_, Builtin.max2]
theorem declare_any (R : CRep w o C N c) (hx : x < c.np) (s : Bs) (hl : (c.fn x).locals.length ≤ 100) :
    Calls Tryz.prog 168 #[fptr C.gF x, sv s] w fun e w' => e = .returned (.int .i64 (c.fn x).locals.length) ∧ ∃ o', CRep w' o' C N (c.declare x s) ∧ Stp (QF1 x) w o w' o' := by
  obtain ⟨W0, HW0⟩ : ∃ W0, Hid (w.alloc (.cells #[sv s] 9) = W0) := ⟨_, rfl⟩
  have R0 := R.alloc (.cells #[sv s] 9)
  have hB := Has.new w #[sv s] 9
  have hS0 : Stp (QF1 x) w o (w.alloc (.cells #[sv s] 9)) o := (Stp.refl _ _ _).alloc _
  have hc := R.len
  have hlt0 : x < c.fns.length := by have := R.np; omega
  obtain ⟨xs, L, F9⟩ := R.fn hx
  have c3 := F9.cell 3 (by omega)
  have hlt := F9.lt
  have F := F9.fresh ((Fr.refl _ _).alloc (.cells #[sv s] 9))
  have HF : Hid (FnAt (w.alloc (.cells #[sv s] 9)) o C c x xs L) := F
  have HRR : Hid (CRep (w.alloc (.cells #[sv s] 9)) o C N c) := R0
  have HR : Hid ((w.alloc (.cells #[sv s] 9)).ownsRow 0 9 1 (L.lo.v (c.fn x).locals.length) (c.fn x).locals.length ((c.fn x).locals.flatMap nmV)) := F.one.lo.own
  have HB : Hid (Has (w.alloc (.cells #[sv s] 9)) w.heap.size (nmV s).toArray 9) := hB
  have HS0 : Hid (Stp (QF1 x) w o (w.alloc (.cells #[sv s] 9)) o) := hS0
  simp only [fnV, List.getElem?_cons_succ, List.getElem?_cons_zero, Sl.v] at c3
  obtain ⟨n, HN⟩ : ∃ n : Nat, Hid ((c.fn x).locals.length = n) := ⟨_, rfl⟩
  rw [HN.out] at c3 hl ⊢
  clear F R R0 hB hS0 F9
  unfold fptr
  go_enter Tryz.func168, Tryz.ntmps168
  go_wp2_with (at_builtin; go_must (refine wpList_appN rowStr _ rfl (.tmp 9) (.tmp 11) rfl (L.lo.v (c.fn x).locals.length) (c.fn x).locals.length _ (by rw [HN.out]; rfl) HR.out w.heap.size 1 1 (nmV s) rfl HB.out rfl (by omega) (by intro u hu; simp [nmV] at hu; subst hu; rfl) ?bd ?go))
  case bd => rw [HN.out]; omega
  case go =>
    intro g' cap' w2 q1 q2 q3 q4
    have hq3 : (L.lo.v (c.fn x).locals.length).ownBlock = some g' ∨ (w.alloc (.cells #[sv s] 9)).heap.size ≤ g' := q3.imp_right (fun h => by rw [h]; simp)
    obtain ⟨r1, r2⟩ := HF.out.one.lo.app (Fr.refl _ _) q1 q2 hq3 q4
    have hb2 := HF.out.rep.here.st r2 (by unfold labF; omega)
    obtain ⟨p1, p2⟩ := HF.out.put r2 (by unfold labF; omega) (j := 3) (by omega) (d' := ({ c.fn x with locals := (c.fn x).locals ++ [s] }, { L with lo := ⟨some ⟨g', 0, none⟩, cap'⟩ })) (u := .slice (some ⟨g', 0, none⟩) ((c.fn x).locals.length + 1) cap') (by simp [fnV])
    have d4 : w2.cell? ⟨C.gF, x * 11 + 3, none⟩ = some (.slice L.lo.a n L.lo.c) := by
      have := flatMap_at (fnV C.gF) 11 (fnV_len C.gF) xs x 3 _ HF.out.at_ (by omega)
      rw [hb2.has.cell, List.getElem?_toArray, this]
      simp [fnV, HN.out]
    have d3 := hb2.has.frozen (x * 11 + 3)
    have k3 := hb2.has.lt
    have s2 : Stp (fun k => k = 1051 ∨ k = labF x 0) _ o _ (upd o g' (labF x 0)) := (r2.weaken (fun k h => .inr h)).trans (p2.weaken (fun k h => .inl h))
    have sF : Stp (QF1 x) _ o _ (upd o g' (labF x 0)) := s2.weaken (fun k h => h.imp_right (fun h => ⟨0, h⟩))
    have R2 : CRep _ (upd o g' (labF x 0)) C N (c.upd x (fun d => { d with locals := d.locals ++ [s] })) := HF.out.set (u := fun d => { d with locals := d.locals ++ [s] }) HRR.out hx sF p1 (HF.out.one.locals (ns := (c.fn x).nslots) s2 (by
      have := r1.st p2 (by unfold labF; omega)
      rw [List.length_append, List.flatMap_append]
      exact this)) HF.out.ok
    have S2 := HS0.out.trans sF
    have hself : (c.upd x (fun d => { d with locals := d.locals ++ [s] })).fn x = { c.fn x with locals := (c.fn x).locals ++ [s] } := by rw [fn_upd c hlt0, if_pos rfl]
    rw [HN.out] at R2 S2 ⊢
    clear q1 q2 q3 q4 hq3 r1 r2 hb2 p1 p2 s2 sF
    obtain ⟨W2, HW2⟩ : ∃ W2, Hid (w2.setCell ⟨C.gF, x * 11 + 3, none⟩ (.slice (some ⟨g', 0, none⟩) (n + 1) cap') = W2) := ⟨_, rfl⟩
    rw [HW2.out] at R2 S2
    obtain ⟨xs2, L2, F2⟩ := R2.fn (x := x) hx
    have e3 := F2.cell 3 (by omega)
    have e4 := F2.cell 4 (by omega)
    have z4 := F2.frozen (x * 11 + 4)
    have l4 := F2.lt
    rw [hself] at e3 e4
    simp only [fnV, List.getElem?_cons_succ, List.getElem?_cons_zero, Sl.v, List.length_append, List.length_singleton, HN.out] at e3 e4
    obtain ⟨ns, HNS⟩ : ∃ ns : Nat, Hid ((c.fn x).nslots = ns) := ⟨_, rfl⟩
    rw [HNS.out] at e4
    have FIN : ∀ v : Int, v = ((max ns (n + 1) : Nat) : Int) → Hid (∃ o', CRep (W2.setCell ⟨C.gF, x * 11 + 4, none⟩ (.int .i64 v)).drew o' C N (c.declare x s) ∧ Stp (QF1 x) w o (W2.setCell ⟨C.gF, x * 11 + 4, none⟩ (.int .i64 v)).drew o') := by
      rintro _ rfl
      obtain ⟨p1, p2⟩ := F2.put (Stp.refl (fun _ => False) _ _) (fun x => x) (j := 4) (by omega) (d' := ({ c.fn x with locals := (c.fn x).locals ++ [s], nslots := max ns (n + 1) }, L2)) (u := .int .i64 ((max ns (n + 1) : Nat) : Int)) (by rw [hself]; simp [fnV])
      have sF : Stp (QF1 x) W2 (upd o g' (labF x 0)) _ (upd o g' (labF x 0)) := p2.weaken (fun k h => .inl h)
      have hd : c.declare x s = (c.upd x (fun d => { d with locals := d.locals ++ [s] })).upd x (fun d => { d with nslots := max ns (n + 1) }) := by
        rw [upd_upd c hlt0]
        simp only [CmD.declare, CmD.upd, HN.out, HNS.out]
      rw [hd]
      refine ⟨_, CRep.fresh (F2.set (l' := L2) (u := fun d => { d with nslots := max ns (n + 1) }) R2 hx sF ?_ ?_ F2.ok) ((Fr.refl _ _).drew), (S2.trans sF).drew⟩
      · rw [hself]
        exact p1
      · refine FnOne.plain F2.one p2 ?_ ?_ ?_ ?_ ?_ ?_ <;> rfl
    clear R2 S2
    go_wp2_with fail
    rw [HW2.out]
    refine wp_region_head 10 1 (fun x => x = W2.drew) (by kernel_rfl) (by kernel_rfl) (fun _ _ _ _ _ h => h) rfl ?_
    simp only [List.take_succ_cons, List.take_zero, List.drop_succ_cons, List.drop_zero]
    repeat go_big_quiet_step (fail)
    refine wpQuiet_nil ?_
    refine chain_of_run (v := .int .i64 ((max ns (n + 1) : Nat) : Int)) (w' := W2.drew) rfl ?_ ⟨rfl, ?_⟩
    · simp only [execOp, resolve, Sem.run_bind, Sem.run_pure, Result.andThen_ok, invoke, builtin, List.map_toArray, List.map_cons, List.map_nil]
      show ((Builtin.max_ _ _ #[.int .i64 (ns : Nat), .int .i64 ((n + 1 : Nat) : Int)]).run _ _).andThen _ = _
      rw [max2n]
      rfl
    · rw [wpChain_zero]
      go_wp2_with fail
      go_ret
      exact ⟨rfl, (FIN _ rfl).out⟩
theorem declare_np (c : CmD) (s : Bs) : (c.declare x s).np = c.np := rfl
theorem bind_any (R : CRep w o C N c) (hx : x < c.np) (s : Bs) (hl : (c.fn x).locals.length ≤ 100) (hk : (c.fn x).code.length + 1 ≤ 65535) :
    Calls Tryz.prog 166 #[fptr C.gF x, sv s] w fun e w' => e = .returned (.tuple #[]) ∧ ∃ o', CRep w' o' C N (c.bind x s) ∧ Stp (QF1 x) w o w' o' := by
  have hlt0 : x < c.fns.length := by have := R.len; have := R.np; omega
  have hself : ((c.declare x s).fn x).code = (c.fn x).code := by unfold CmD.declare; rw [fn_upd c hlt0, if_pos rfl]
  have hD := declare_any R hx s hl
  have HB : Hid (c.bind x s = (c.declare x s).emit x [(6, (c.fn x).locals.length % 65536)]) := rfl
  obtain ⟨n, HN⟩ : ∃ n : Nat, Hid ((c.fn x).locals.length = n) := ⟨_, rfl⟩
  rw [HN.out] at hl hD HB
  go_enter Tryz.func166, Tryz.ntmps166
  go_wp2_with (go_at_call 168; refine hD.mono ?_; rintro e w1 ⟨rfl, o1, R1, S1⟩)
  go_wp2_with (go_at_call 65; refine (emit1 R1 hx rfl rfl (by rw [hself]; exact hk)).mono ?_; rintro e w2 ⟨rfl, o2, R2, S2⟩)
  go_end0
  rw [HB.out, Nat.mod_eq_of_lt (by omega)]
  exact ⟨rfl, o2, R2, S1.trans S2⟩
theorem leave_any (R : CRep w o C N c) (hx : x < c.np) (base : Nat) (hb : base < 65536) (hk : (c.fn x).code.length + 1 ≤ 65535) :
    Calls Tryz.prog 100 #[fptr C.gF x, .int .i64 base] w fun e w' => e = .returned (.tuple #[]) ∧ ∃ o', CRep w' o' C N (c.leave x base) ∧ Stp (QF1 x) w o w' o' := by
  have hlt0 : x < c.fns.length := by have := R.len; have := R.np; omega
  obtain ⟨xs, L, F⟩ := R.fn hx
  have c3 := F.cell 3 (by omega)
  have hlt := F.lt
  simp only [fnV, List.getElem?_cons_succ, List.getElem?_cons_zero, Sl.v] at c3
  have HL : Hid (c.leave x base = if base < (c.fn x).locals.length then (c.emit x [(29, base % 65536)]).upd x fun d => { d with locals := d.locals.take base } else c) := rfl
  obtain ⟨n, HN⟩ : ∃ n : Nat, Hid ((c.fn x).locals.length = n) := ⟨_, rfl⟩
  rw [HN.out] at c3 HL
  rw [Nat.mod_eq_of_lt hb] at HL
  clear F
  by_cases hc : base < n
  · rw [if_pos hc] at HL
    have hcd : decide ((base : Int) < (n : Int)) = true := by simp; omega
    unfold fptr
    go_enter Tryz.func100, Tryz.ntmps100
    have he : ((c.emit x [(29, base)]).fn x).locals.length = n := by unfold CmD.emit; rw [fn_upd c hlt0, if_pos rfl]; exact HN.out
    have HE : Hid (((c.emit x [(29, base)]).fn x).locals.length = n) := he
    clear he
    go_wp2_with (go_at_call 65; refine (emit1 R hx rfl rfl hk).mono ?_; rintro e w1 ⟨rfl, o1, R1, S1⟩; obtain ⟨xs1, L1, F1⟩ := R1.fn (x := x) hx; have e3 := F1.cell 3 (by omega); have l3 := F1.lt; have z3 := F1.frozen (x * 11 + 3); simp only [fnV, List.getElem?_cons_succ, List.getElem?_cons_zero, Sl.v] at e3; rw [HE.out] at e3; obtain ⟨g1, a1, a2, a3, a4, a5, a6⟩ := F1.one.lo.cells (by show 0 < ((c.emit x [(29, base)]).fn x).locals.length; rw [HE.out]; omega); have a2 : n ≤ L1.lo.c := HE.out ▸ a2; clear a3 a5 a6)
    go_end0
    obtain ⟨p1, p2⟩ := F1.put (Stp.refl (fun _ => False) _ _) (fun x => x) (j := 3) (by omega) (d' := ({ (c.emit x [(29, base)]).fn x with locals := ((c.emit x [(29, base)]).fn x).locals.take base }, L1)) (u := .slice (some ⟨g1, 0, none⟩) base L1.lo.c) (by
      simp only [fnV, List.set_cons_succ, List.set_cons_zero, List.length_take, HE.out, Sl.v, a1]
      rw [Nat.min_eq_left (by omega)])
    have sF : Stp (QF1 x) w1 o1 _ o1 := p2.weaken (fun k h => .inl h)
    refine ⟨rfl, o1, ?_, S1.trans sF⟩
    rw [HL.out]
    refine F1.set (u := fun d => { d with locals := d.locals.take base }) R1 hx sF p1 ?_ F1.ok
    refine F1.one.locals (s := L1.lo) (ns := ((c.emit x [(29, base)]).fn x).nslots) (p2.weaken (fun k h => .inl h)) ?_
    have hr := (F1.one.lo.take base (by show base ≤ ((c.emit x [(29, base)]).fn x).locals.length; rw [HE.out]; omega) (flatMap_take nmV 1 nmV_len _ base).symm).st p2 (by unfold labF; omega)
    rw [List.length_take, HE.out, Nat.min_eq_left (by omega)]
    exact hr
  · rw [if_neg hc] at HL
    have hcd : decide (base < n) = false := by simp; omega
    unfold fptr
    go_enter Tryz.func100, Tryz.ntmps100
    go_wp2
    go_end0
    refine ⟨rfl, o, ?_, Stp.refl _ _ _⟩
    rw [HL.out]
    exact R
end
end Go.Proofs.Qxb6500574aGreatDoor
