/-
  THE WALK of runlaw.Build.
-/
import Derived.Test.Qxb6500575aGreatDoorRBelow
import Derived.Test.Qxb6500575aGreatDoorRegApp
import Derived.Test.Qxb6500575aGreatDoorReg
import Derived.BigQuiet
namespace Go.Proofs.Qxb6500575aGreatDoor
open Go Go.RowKit
set_option linter.unusedVariables false
set_option linter.unusedSimpArgs false

theorem Own.mono {S : Nat → Prop} {w w0 w1 : World} (h : w.heap.size ≤ w0.heap.size) (k : Nat) (hk : Own S w0 w1 k) : Own S w w1 k := by
  rcases hk with hk | ⟨a, b⟩
  · exact .inl hk
  · exact .inr ⟨by omega, b⟩
def BuildPost (q : Q4) (S : Nat → Prop) (w : World) (bb : Nat) (r : BelD × Int) (e : Ending) (w' : World) : Prop :=
  e = .returned (.int .i64 r.2) ∧ (∃ K', BelRep q (Own S w w') w' bb K' r.1) ∧ Fr S w w'
theorem BuildPost.of {q : Q4} {S : Nat → Prop} {w w0 w' : World} {bb : Nat} {K' : BelL} {r : BelD × Int} (h0 : Fr (fun _ => False) w w0) (h : BelRep q (Own S w0 w') w' bb K' r.1 ∧ Fr S w0 w') : BuildPost q S w bb r (.returned (.int .i64 r.2)) w' :=
  ⟨rfl, ⟨K', h.1.sub (Own.mono h0.size)⟩, (h0.weaken (fun _ _ h => h.elim)).trans h.2 (fun _ _ h => h)⟩

section
variable {q : Q4} (S : Nat → Prop) (bb : Nat) (K : BelL) (x : BelD) (o : OpD) (w : World) 
set_option maxRecDepth 100000
set_option maxHeartbeats 2000000
theorem build_type (hk : o.kind = 1) (h : BelRep q S w bb K x) (hr : x.m.results.length ≤ 1000) : Calls Tryz.prog 11 #[.pointer (some ⟨bb, 0, none⟩), o.val] w (BuildPost q S w bb (x.build o)) := by
  have e0 : x.build o = ({ x with m := (x.m.addType o.s o.t).1 }, (x.m.addType o.s o.t).2) := by unfold BelD.build; rw [if_pos hk]
  rw [e0]
  obtain ⟨kind, oa, ob, oc, os, ot⟩ := o
  simp only at hk ⊢
  subst hk
  unfold OpD.val
  have c0 := h.here.cell 0
  simp at c0
  have hb := h.here.lt
  have hb1 : bb < w.heap.size + 1 := by omega
  have HC : Hid (∀ w', BelRep q S w' bb K x → _) := fun w' h' => addType_any _ K.bm K.L x.m os ot w' h'.mod hr
  have H : Hid (BelRep q S w bb K x) := h
  clear e0 h
  go_enter Tryz.func11, Tryz.ntmps11
  go_wp2
  refine wp_region_tail 8 (by kernel_rfl) (by kernel_rfl) (fun _ _ _ _ _ h => h) ?_
  simp only [List.take_succ_cons, List.take_zero, List.drop_succ_cons, List.drop_zero]
  repeat go_big_quiet_step (fail)
  refine wpQuiet_nil ?_
  have F0 : Fr (fun _ => False) w (w.alloc (.cells #[.int .i64 1, .int .i64 oa, .int .i64 ob, .int .i64 oc, sv os, sv ot] 39)).drew := ((Fr.refl _ w).alloc _).drew
  have HB := H.out.newer F0
  have HF0 : Hid (Fr _ w _) := F0
  have HHB : Hid (BelRep q S _ bb K x) := HB
  clear F0 HB
  go_wp2_with fail
  refine (HC.out _ HHB.out).mono ?_
  rintro e w1 ⟨rfl, ⟨L1, g1⟩, g2⟩
  have FIN := BuildPost.of (r := ({ x with m := (x.m.addType os ot).1 }, (x.m.addType os ot).2)) HF0.out (HHB.out.putMod g1 g2)
  have HFIN : Hid (BuildPost _ _ _ _ _ _ _) := FIN
  clear g1 g2 HC H FIN HF0 HHB
  go_wp2
  go_ret
  exact HFIN.out
theorem build_import (hk : o.kind = 2) (h : BelRep q S w bb K x) : Calls Tryz.prog 11 #[.pointer (some ⟨bb, 0, none⟩), o.val] w (BuildPost q S w bb (x.build o)) := by
  have e0 : x.build o = ({ x with m := (x.m.addImport o.a).1 }, (x.m.addImport o.a).2) := by unfold BelD.build; rw [if_neg (by rw [hk]; decide), if_pos hk]
  rw [e0]
  obtain ⟨kind, oa, ob, oc, os, ot⟩ := o
  simp only at hk ⊢
  subst hk
  unfold OpD.val
  have c0 := h.here.cell 0
  simp at c0
  have hb := h.here.lt
  have hb1 : bb < w.heap.size + 1 := by omega
  have HC : Hid (∀ w', BelRep q S w' bb K x → _) := fun w' h' => addImport_any _ K.bm K.L x.m oa w' h'.mod
  have H : Hid (BelRep q S w bb K x) := h
  clear e0 h
  go_enter Tryz.func11, Tryz.ntmps11
  go_wp2
  refine wp_region_tail 6 (by kernel_rfl) (by kernel_rfl) (fun _ _ _ _ _ h => h) ?_
  simp only [List.take_succ_cons, List.take_zero, List.drop_succ_cons, List.drop_zero]
  repeat go_big_quiet_step (fail)
  refine wpQuiet_nil ?_
  have F0 : Fr (fun _ => False) w (w.alloc (.cells #[.int .i64 2, .int .i64 oa, .int .i64 ob, .int .i64 oc, sv os, sv ot] 39)).drew := ((Fr.refl _ w).alloc _).drew
  have HB := H.out.newer F0
  have HF0 : Hid (Fr _ w _) := F0
  have HHB : Hid (BelRep q S _ bb K x) := HB
  clear F0 HB
  go_wp2_with fail
  refine (HC.out _ HHB.out).mono ?_
  rintro e w1 ⟨rfl, ⟨L1, g1⟩, g2⟩
  have FIN := BuildPost.of (r := ({ x with m := (x.m.addImport oa).1 }, (x.m.addImport oa).2)) HF0.out (HHB.out.putMod g1 g2)
  have HFIN : Hid (BuildPost _ _ _ _ _ _ _) := FIN
  clear g1 g2 HC H FIN HF0 HHB
  go_wp2
  go_ret
  exact HFIN.out
theorem build_mem (hk : o.kind = 3) (h : BelRep q S w bb K x) : Calls Tryz.prog 11 #[.pointer (some ⟨bb, 0, none⟩), o.val] w (BuildPost q S w bb (x.build o)) := by
  have e0 : x.build o = ({ x with m := (x.m.setMem o.a o.b).1 }, (x.m.setMem o.a o.b).2) := by unfold BelD.build; rw [if_neg (by rw [hk]; decide), if_neg (by rw [hk]; decide), if_pos hk]
  rw [e0]
  obtain ⟨kind, oa, ob, oc, os, ot⟩ := o
  simp only at hk ⊢
  subst hk
  unfold OpD.val
  have c0 := h.here.cell 0
  simp at c0
  have hb := h.here.lt
  have hb1 : bb < w.heap.size + 1 := by omega
  have HC : Hid (∀ w', BelRep q S w' bb K x → _) := fun w' h' => setMem_any _ K.bm K.L x.m oa ob w' h'.mod
  have H : Hid (BelRep q S w bb K x) := h
  clear e0 h
  go_enter Tryz.func11, Tryz.ntmps11
  go_wp2
  refine wp_region_tail 8 (by kernel_rfl) (by kernel_rfl) (fun _ _ _ _ _ h => h) ?_
  simp only [List.take_succ_cons, List.take_zero, List.drop_succ_cons, List.drop_zero]
  repeat go_big_quiet_step (fail)
  refine wpQuiet_nil ?_
  have F0 : Fr (fun _ => False) w (w.alloc (.cells #[.int .i64 3, .int .i64 oa, .int .i64 ob, .int .i64 oc, sv os, sv ot] 39)).drew := ((Fr.refl _ w).alloc _).drew
  have HB := H.out.newer F0
  have HF0 : Hid (Fr _ w _) := F0
  have HHB : Hid (BelRep q S _ bb K x) := HB
  clear F0 HB
  go_wp2_with fail
  refine (HC.out _ HHB.out).mono ?_
  rintro e w1 ⟨rfl, ⟨L1, g1⟩, g2⟩
  have FIN := BuildPost.of (r := ({ x with m := (x.m.setMem oa ob).1 }, (x.m.setMem oa ob).2)) HF0.out (HHB.out.putMod g1 g2)
  have HFIN : Hid (BuildPost _ _ _ _ _ _ _) := FIN
  clear g1 g2 HC H FIN HF0 HHB
  go_wp2
  go_ret
  exact HFIN.out
theorem build_func (hk : o.kind = 5) (h : BelRep q S w bb K x) (hc : x.code.length ≤ 1000) : Calls Tryz.prog 11 #[.pointer (some ⟨bb, 0, none⟩), o.val] w (BuildPost q S w bb (x.build o)) := by
  have e0 : x.build o = ({ m := (x.m.addFunc o.a o.s x.code).1, code := [] }, (x.m.addFunc o.a o.s x.code).2) := by unfold BelD.build; rw [if_neg (by rw [hk]; decide), if_neg (by rw [hk]; decide), if_neg (by rw [hk]; decide), if_neg (by rw [hk]; decide), if_pos hk]
  rw [e0]
  obtain ⟨kind, oa, ob, oc, os, ot⟩ := o
  simp only at hk ⊢
  subst hk
  unfold OpD.val
  have c0 := h.here.cell 0
  have c1 := h.here.cell 1
  simp at c0 c1
  have hb := h.here.lt
  have hb1 : bb < w.heap.size + 1 := by omega
  have HC : Hid (∀ w', BelRep q S w' bb K x → _) := fun w' h' => addFunc_any _ K.bm K.L x.m oa os x.code _ w' h'.mod h'.code hc
  have H : Hid (BelRep q S w bb K x) := h
  clear e0 h
  go_enter Tryz.func11, Tryz.ntmps11
  go_wp2
  refine wp_region_tail 12 (by kernel_rfl) (by kernel_rfl) (fun _ _ _ _ _ h => h) ?_
  simp only [List.take_succ_cons, List.take_zero, List.drop_succ_cons, List.drop_zero]
  repeat go_big_quiet_step (fail)
  refine wpQuiet_nil ?_
  have F0 : Fr (fun _ => False) w (w.alloc (.cells #[.int .i64 5, .int .i64 oa, .int .i64 ob, .int .i64 oc, sv os, sv ot] 39)).drew := ((Fr.refl _ w).alloc _).drew
  have HB := H.out.newer F0
  have HF0 : Hid (Fr _ w _) := F0
  have HHB : Hid (BelRep q S _ bb K x) := HB
  clear F0 HB
  go_wp2_with fail
  refine (HC.out _ HHB.out).mono ?_
  rintro e w1 ⟨rfl, ⟨L1, g1⟩, g2⟩
  obtain ⟨p1, p2⟩ := HHB.out.putMod g1 g2
  have k1 := p1.here.cell 1
  have kf := p1.here.frozen 1
  have kl := p1.here.lt
  simp at k1
  obtain ⟨q1, q2⟩ := p1.putNil
  have FIN := BuildPost.of (r := ({ m := (x.m.addFunc oa os x.code).1, code := [] }, (x.m.addFunc oa os x.code).2)) HF0.out ⟨q1.sub (Own.trans q2.size p2.size), Own.step q2 p2⟩
  have HFIN : Hid (BuildPost _ _ _ _ _ _ _) := FIN
  clear g1 g2 HC H FIN HF0 HHB p1 p2 q1 q2
  go_wp2
  go_ret
  exact HFIN.out
theorem build_fresh (hk : o.kind = 6) (h : BelRep q S w bb K x) : Calls Tryz.prog 11 #[.pointer (some ⟨bb, 0, none⟩), o.val] w (BuildPost q S w bb (x.build o)) := by
  have e0 : x.build o = ({ x with m := ModD.empty }, 0) := by unfold BelD.build; rw [if_neg (by rw [hk]; decide), if_neg (by rw [hk]; decide), if_neg (by rw [hk]; decide), if_neg (by rw [hk]; decide), if_neg (by rw [hk]; decide), if_pos hk]
  rw [e0]
  obtain ⟨kind, oa, ob, oc, os, ot⟩ := o
  simp only at hk ⊢
  subst hk
  unfold OpD.val
  have hb := h.here.lt
  have hb1 : bb < w.heap.size + 1 := by omega
  have F0 : Fr (fun _ => False) w (w.alloc (.cells #[.int .i64 6, .int .i64 oa, .int .i64 ob, .int .i64 oc, sv os, sv ot] 39)) := ((Fr.refl _ w).alloc _)
  have HHB : Hid (BelRep q S _ bb K x) := h.newer F0
  have HF0 : Hid (Fr _ w _) := F0
  have HC : Hid (∀ w', _) := fun w' => modNew_any w'
  clear e0 h F0
  go_enter Tryz.func11, Tryz.ntmps11
  go_wp2_with fail
  refine (HC.out _).mono ?_
  rintro e w1 ⟨rfl, ⟨L1, g1⟩, g2, g3⟩
  have p1 := HHB.out.newer g2
  have k1 := p1.here.cell 0
  have kf := p1.here.frozen 0
  have kl := p1.here.lt
  simp at k1
  have FIN := BuildPost.of (r := ({ x with m := ModD.empty }, 0)) HF0.out (HHB.out.putNew g2 g1 (Nat.le_refl _))
  have e1 : (w.alloc (.cells #[.int .i64 6, .int .i64 oa, .int .i64 ob, .int .i64 oc, sv os, sv ot] 39)).heap.size = w.heap.size + 1 := by simp
  rw [e1] at FIN
  have HFIN : Hid (BuildPost _ _ _ _ _ _ _) := FIN
  clear g1 g2 g3 HC FIN HF0 HHB p1
  go_wp2
  go_ret
  exact HFIN.out
theorem build_other (h1 : o.kind ≠ 1) (h2 : o.kind ≠ 2) (h3 : o.kind ≠ 3) (h4 : o.kind ≠ 4) (h5 : o.kind ≠ 5) (h6 : o.kind ≠ 6) (h : BelRep q S w bb K x) : Calls Tryz.prog 11 #[.pointer (some ⟨bb, 0, none⟩), o.val] w (BuildPost q S w bb (x.build o)) := by
  have e0 : x.build o = (x, 0) := by unfold BelD.build; rw [if_neg h1, if_neg h2, if_neg h3, if_neg h4, if_neg h5, if_neg h6]
  rw [e0]
  obtain ⟨kind, oa, ob, oc, os, ot⟩ := o
  simp only at h1 h2 h3 h4 h5 h6 ⊢
  unfold OpD.val
  have b1 := beq_eq_false_iff_ne.2 h1
  have b2 := beq_eq_false_iff_ne.2 h2
  have b3 := beq_eq_false_iff_ne.2 h3
  have b4 := beq_eq_false_iff_ne.2 h4
  have b5 := beq_eq_false_iff_ne.2 h5
  have b6 := beq_eq_false_iff_ne.2 h6
  have F0 : Fr (fun _ => False) w (w.alloc (.cells #[.int .i64 kind, .int .i64 oa, .int .i64 ob, .int .i64 oc, sv os, sv ot] 39)) := ((Fr.refl _ w).alloc _)
  have HFIN : Hid (BuildPost q S w bb (x, 0) (.returned (.int .i64 0)) _) := BuildPost.of (r := (x, 0)) F0 ⟨(h.newer F0).sub (fun _ => .inl), Fr.refl _ _⟩
  clear e0 h F0 h1 h2 h3 h4 h5 h6
  go_enter Tryz.func11, Tryz.ntmps11
  go_wp2
  go_ret
  exact HFIN.out
theorem build_full (hk : o.kind = 4) (h : BelRep q S w bb K x) (hc : ¬ x.code.length ≤ 26) (hc' : x.code.length ≤ 1000) : Calls Tryz.prog 11 #[.pointer (some ⟨bb, 0, none⟩), o.val] w (BuildPost q S w bb (x.build o)) := by
  have e0 : x.build o = (x, 0) := by unfold BelD.build; rw [if_neg (by rw [hk]; decide), if_neg (by rw [hk]; decide), if_neg (by rw [hk]; decide), if_pos hk, if_neg hc]
  rw [e0]
  obtain ⟨kind, oa, ob, oc, os, ot⟩ := o
  simp only at hk ⊢
  subst hk
  unfold OpD.val
  have c1 := h.here.cell 1
  simp at c1
  have hb := h.here.lt
  have hb1 : bb < w.heap.size + 1 := by omega
  have F0 : Fr (fun _ => False) w (w.alloc (.cells #[.int .i64 4, .int .i64 oa, .int .i64 ob, .int .i64 oc, sv os, sv ot] 39)) := ((Fr.refl _ w).alloc _)
  have HFIN : Hid (BuildPost q S w bb (x, 0) (.returned (.int .i64 0)) _) := BuildPost.of (r := (x, 0)) F0 ⟨(h.newer F0).sub (fun _ => .inl), Fr.refl _ _⟩
  clear e0 h F0
  go_enter Tryz.func11, Tryz.ntmps11
  go_wp2
  go_ret
  exact HFIN.out
theorem build_ins (hk : o.kind = 4) (h : BelRep q S w bb K x) (hc : x.code.length ≤ 26) : Calls Tryz.prog 11 #[.pointer (some ⟨bb, 0, none⟩), o.val] w (BuildPost q S w bb (x.build o)) := by
  have e0 : x.build o = ({ x with code := x.code ++ [⟨o.a, o.b, o.s⟩] }, 0) := by unfold BelD.build; rw [if_neg (by rw [hk]; decide), if_neg (by rw [hk]; decide), if_neg (by rw [hk]; decide), if_pos hk, if_pos hc]
  rw [e0]
  obtain ⟨kind, oa, ob, oc, os, ot⟩ := o
  simp only at hk ⊢
  subst hk
  unfold OpD.val
  have c1 := h.here.cell 1
  simp at c1
  have hb := h.here.lt
  have hb1 : bb < w.heap.size + 1 := by omega
  go_enter Tryz.func11, Tryz.ntmps11
  go_wp2
  obtain ⟨W, hW⟩ : ∃ W, W = w.alloc (.cells #[.int .i64 4, .int .i64 oa, .int .i64 ob, .int .i64 oc, sv os, sv ot] 39) := ⟨_, rfl⟩
  rw [← hW]
  have F0 : Fr (fun _ => False) w W := by rw [hW]; exact (Fr.refl _ w).alloc _
  have k0 : Has W w.heap.size #[.int .i64 4, .int .i64 oa, .int .i64 ob, .int .i64 oc, sv os, sv ot] 39 := by rw [hW]; exact Has.new w _ _
  have r0 := h.newer F0
  clear hW
  have d1 := k0.cell 1
  have d2 := k0.cell 2
  have d4 := k0.cell 4
  have d5 := r0.here.cell 1
  simp at d1 d2 d4 d5
  have l0 := k0.lt
  have l2 := r0.here.lt
  have hne := owns_ne r0.code r0.here (by decide)
  have hne0 := owns_ne r0.code k0 (by decide)
  refine wp_region_app rowIns 12 (by kernel_rfl) (by kernel_rfl) (fun _ _ _ _ _ h => h) _ _ _ rfl (.tmp 58) (.tmp 51) 59 60 rfl rfl rfl rfl rfl rfl _ _ _ r0.code (.agg #[.int .i64 oa, .int .i64 ob, sv os]) rfl (by decide) (by simp [Value.cells, Value.oneCell']) (by omega) ?_
  intro g cap w2 q1 q2 q3 q4
  have k0' : Has w2 w.heap.size _ _ := (k0.alloc _).fr q2 hne0
  have hH' : Has w2 bb _ _ := (r0.here.alloc _).fr q2 hne
  have d1' := k0'.cell 1
  have d2' := k0'.cell 2
  have d4' := k0'.cell 4
  have d5' := hH'.cell 1
  have e5' := hH'.frozen 1
  simp at d1' d2' d4' d5'
  obtain ⟨n1, n2, n3, n4, n5⟩ := app_net r0.here hne q2 q1 (by decide) q3 q4 1
  have fin := r0.putCode (x.code ++ [⟨oa, ob, os⟩]) (ca' := some ⟨g, 0, none⟩) (cc' := cap) n1 (by simpa using n2) (by rw [insCells_snoc]; simpa [Ins.cells, Value.cells] using n3) (fun k hk => by simp [Value.ownBlock] at hk; subst hk; exact n4)
  have FIN := BuildPost.of (r := ({ x with code := x.code ++ [⟨oa, ob, os⟩] }, 0)) F0 fin
  have HFIN : Hid (BuildPost _ _ _ _ _ _ _) := FIN
  clear n1 n2 n3 n4 n5 fin FIN q1 q2 q3 q4 hne hne0 r0 h k0 k0' hH' F0
  simp only [List.take_succ_cons, List.take_zero]
  repeat go_big_quiet_step (fail)
  refine wpQuiet_nil ⟨rfl, rfl, by simp, rfl, ?_⟩
  go_wp2
  go_ret
  exact HFIN.out
theorem build_any (h : BelRep q S w bb K x) (hr : x.m.results.length ≤ 1000) (hc : x.code.length ≤ 1000) : Calls Tryz.prog 11 #[.pointer (some ⟨bb, 0, none⟩), o.val] w (BuildPost q S w bb (x.build o)) := by
  by_cases h1 : o.kind = 1
  · exact build_type S bb K x o w h1 h hr
  by_cases h2 : o.kind = 2
  · exact build_import S bb K x o w h2 h
  by_cases h3 : o.kind = 3
  · exact build_mem S bb K x o w h3 h
  by_cases h4 : o.kind = 4
  · by_cases h26 : x.code.length ≤ 26
    · exact build_ins S bb K x o w h4 h h26
    · exact build_full S bb K x o w h4 h h26 hc
  by_cases h5 : o.kind = 5
  · exact build_func S bb K x o w h5 h hc
  by_cases h6 : o.kind = 6
  · exact build_fresh S bb K x o w h6 h
  exact build_other S bb K x o w h1 h2 h3 h4 h5 h6 h
end
end Go.Proofs.Qxb6500575aGreatDoor
