/-
  THE WALK of preplaw.Do.
-/
import Derived.Test.Qxb6500576aGreatDoorFault
import Derived.Test.Qxb6500576aGreatDoorShow2
import Derived.Test.Qxb6500576aGreatDoorCheck2
import Derived.Test.Qxb6500576aGreatDoorDoNew
namespace Go.Proofs.Qxb6500576aGreatDoor
open Go Go.RowKit
set_option linter.unusedVariables false
set_option linter.unusedSimpArgs false

def sigT (p : ProgD) (f : Int) : List UInt8 :=
  (p.sig f).1.params ++ ([62] ++ ((p.sig f).1.results ++ ([43] ++ ((p.sig f).1.locals ++ [32])))) ++ numT p.min ++ numT p.max
def doP (p : ProgD) (m : ModD) (o : OpD) : ProgD × AnsD :=
  if o.kind = 7 then (if m.load.2.2 = 0 then (m.prog, AnsD.zero) else (p, ⟨m.load.2.2, m.load.1, m.load.2.1, []⟩))
  else if o.kind = 8 then (p, ⟨7, 0, 0, []⟩)
  else if o.kind = 10 then (p, ⟨0, p.nimp, if (p.sig o.a).2 then 1 else 0, sigT p o.a⟩)
  else if o.kind = 13 then ({ p with steps := p.steps + 1 }, ⟨0, 0, 0, flatT (p.at o.a o.b)⟩)
  else if o.kind = 14 then (p, ⟨0, p.steps, 0, []⟩)
  else if o.kind = 15 then ({ p with steps := 0 }, AnsD.zero)
  else if o.kind = 16 then (p, ⟨0, 0, 0, p.show⟩)
  else if o.kind = 17 then (p, ⟨0, 0, 1, []⟩)
  else (p, AnsD.zero)
theorem ba_app7 (a b c : List UInt8) : (⟨a.toArray⟩ : ByteArray) ++ ⟨#[62]⟩ ++ ⟨b.toArray⟩ ++ ⟨#[43]⟩ ++ ⟨c.toArray⟩ ++ ⟨#[32]⟩ = ⟨(a ++ ([62] ++ (b ++ ([43] ++ (c ++ [32]))))).toArray⟩ := by
  have h2 : (⟨#[62]⟩ : ByteArray) = ⟨[62].toArray⟩ := rfl
  have h3 : (⟨#[43]⟩ : ByteArray) = ⟨[43].toArray⟩ := rfl
  have h4 : (⟨#[32]⟩ : ByteArray) = ⟨[32].toArray⟩ := rfl
  rw [h2, h3, h4, ba_app, ba_app, ba_app, ba_app, ba_app]
  simp
theorem sig_len {p : ProgD} (h : ShowOk p) (f : Int) : (p.sig f).1.params.length ≤ 10 ∧ (p.sig f).1.results.length ≤ 10 ∧ (p.sig f).1.locals.length ≤ 10 := by
  unfold ProgD.sig
  split
  · simp
  · split
    · simp
    · rename_i u hu
      exact h.np u (List.mem_of_getElem? hu)
/-- what every Prog of the law's is -/
structure ProgOk (p : ProgD) : Prop where
  sh : ShowOk p
  ck : ∃ k, CheckOk p k
  s0 : 0 ≤ p.steps
  s1 : p.steps ≤ 1000000000000000
theorem ProgOk.cl {p : ProgD} (h : ProgOk p) {S : Nat → Prop} {w : World} {bp : Nat} {L : ProgL} (hr : ProgRep S w bp L p) : p.codes.length ≤ 1000 ∧ (∀ c ∈ p.codes, c.length ≤ 1000) := by
  have := h.sh.nf
  refine ⟨by rw [hr.clen]; omega, fun c hc => ?_⟩
  have := h.sh.nc c hc
  omega

structure DoPost (Sp : Nat → Prop) (w : World) (bp : Nat) (r : ProgD × AnsD) (e : Ending) (w' : World) : Prop where
  out : ∃ bp' Lp' Sp', e = .returned (.tuple #[.pointer (some ⟨bp', 0, none⟩), r.2.val]) ∧ ProgRep Sp' w' bp' Lp' r.1 ∧ (∀ k, Sp' k → (Sp k ∨ w.heap.size ≤ k) ∧ k < w'.heap.size)
  fr : Fr (fun k => k = bp) w w'
/-- the Prog that was there -/
theorem DoPost.same {Sp : Nat → Prop} {w w' : World} {bp : Nat} {L : ProgL} {p : ProgD} {a : AnsD} (hS : ∀ k, Sp k → k < w.heap.size) (hr : ProgRep Sp w' bp L p) (hF : Fr (fun k => k = bp) w w') : DoPost Sp w bp (p, a) (.returned (.tuple #[.pointer (some ⟨bp, 0, none⟩), a.val])) w' :=
  ⟨⟨bp, L, Sp, rfl, hr, fun k hk => ⟨.inl hk, by have := hS k hk; have := hF.size; omega⟩⟩, hF⟩

section
variable (Sp : Nat → Prop) (bp : Nat) (L : ProgL) (p : ProgD) (m : ModD) (bb : Nat) (o : OpD) (w : World)
set_option maxRecDepth 100000
set_option maxHeartbeats 4000000
/-- the world in which Do's own two blocks lie -/
theorem do_world (o : OpD) (w : World) : ∃ W, W = (w.alloc (.cells #[.int .i64 o.kind, .int .i64 o.a, .int .i64 o.b, .int .i64 o.c, sv o.s, sv o.t] 43)).alloc (.cells #[.int .i64 0, .int .i64 0, .int .i64 0, .string ⟨#[]⟩] 46) ∧ Fr (fun _ => False) w W ∧
    Has W (w.heap.size + 1) #[.int .i64 0, .int .i64 0, .int .i64 0, .string ⟨#[]⟩] 46 ∧ Has W w.heap.size #[.int .i64 o.kind, .int .i64 o.a, .int .i64 o.b, .int .i64 o.c, sv o.s, sv o.t] 43 := by
  refine ⟨_, rfl, ((Fr.refl _ w).alloc _).alloc _, ?_, (Has.new w _ _).alloc _⟩
  have := Has.new (w.alloc (.cells #[.int .i64 o.kind, .int .i64 o.a, .int .i64 o.b, .int .i64 o.c, sv o.s, sv o.t] 43)) #[.int .i64 0, .int .i64 0, .int .i64 0, .string ⟨#[]⟩] 46
  simpa using this

theorem do_steps (hk : o.kind = 14) (h : ProgRep Sp w bp L p) (hS : ∀ k, Sp k → k < w.heap.size) :
    Calls Tryz.prog 12 #[.pointer (some ⟨bp, 0, none⟩), .pointer (some ⟨bb, 0, none⟩), o.val] w (DoPost Sp w bp (doP p m o)) := by
  have e0 : doP p m o = (p, ⟨0, p.steps, 0, []⟩) := by unfold doP; rw [if_neg (by omega), if_neg (by omega), if_neg (by omega), if_neg (by omega), if_pos hk]
  rw [e0]
  obtain ⟨W, hW, F0, kA, kO⟩ := do_world o w
  obtain ⟨kind, oa, ob, oc, os, ot⟩ := o
  simp only at hk hW kO ⊢
  subst hk
  unfold OpD.val
  simp only
  have hblt := h.funs.here.lt
  have R0 := h.fresh F0
  have HK : Hid (Has W (w.heap.size + 1) #[.int .i64 0, .int .i64 0, .int .i64 0, .string ⟨#[]⟩] 46) := kA
  have HKO : Hid (Has W w.heap.size #[.int .i64 14, .int .i64 oa, .int .i64 ob, .int .i64 oc, sv os, sv ot] 43) := kO
  have HR : Hid (ProgRep Sp W bp L p) := R0
  have HF : Hid (Fr (fun k => k = bp) w W) := F0.weaken (fun _ _ h => h.elim)
  clear e0 h kA kO R0
  have HC : Hid (Calls _ _ _ _ _) := steps_any Sp bp L p W HR.out
  rw [hW] at HC
  go_enter Tryz.func12, Tryz.ntmps12
  go_wp2_with fail
  refine HC.out.mono ?_
  rintro e w1 ⟨rfl, hw1⟩
  rw [← hW] at hw1
  subst hw1
  clear HC hW
  have x0 := HK.out.cell 0
  have x1 := HK.out.cell 1
  have x2 := HK.out.cell 2
  have x3 := HK.out.cell 3
  simp at x0 x1 x2 x3
  have y0 := HK.out.frozen 0
  have y1 := HK.out.frozen 1
  have y2 := HK.out.frozen 2
  have y3 := HK.out.frozen 3
  have yl := HK.out.lt
  go_wp2
  (try simp only [Exit.inBlock, Exit.then])
  obtain ⟨g1, g2⟩ := HK.out.put4 (.int .i64 0) (.int .i64 p.steps) (.int .i64 0) (.string ⟨#[]⟩)
  refine bodyPost_ret (do_res _ _ (w.heap.size + 1) _ _ _ _ rfl g1) rfl ?_
  exact DoPost.same (a := ⟨0, p.steps, 0, []⟩) hS (HR.out.fr g2 (fun k hk hs e => by have := hS k hs; omega)) (HF.out.trans g2 (fun j hj e => by omega))
theorem do_mark (hk : o.kind = 15) (h : ProgRep Sp w bp L p) (hS : ∀ k, Sp k → k < w.heap.size) :
    Calls Tryz.prog 12 #[.pointer (some ⟨bp, 0, none⟩), .pointer (some ⟨bb, 0, none⟩), o.val] w (DoPost Sp w bp (doP p m o)) := by
  have e0 : doP p m o = ({ p with steps := 0 }, AnsD.zero) := by unfold doP; rw [if_neg (by omega), if_neg (by omega), if_neg (by omega), if_neg (by omega), if_neg (by omega), if_pos hk]
  rw [e0]
  obtain ⟨W, hW, F0, kA, kO⟩ := do_world o w
  obtain ⟨kind, oa, ob, oc, os, ot⟩ := o
  simp only at hk hW kO ⊢
  subst hk
  unfold OpD.val
  simp only
  have hblt := h.funs.here.lt
  have R0 := h.fresh F0
  have HK : Hid (Has W (w.heap.size + 1) #[.int .i64 0, .int .i64 0, .int .i64 0, .string ⟨#[]⟩] 46) := kA
  have HKO : Hid (Has W w.heap.size #[.int .i64 15, .int .i64 oa, .int .i64 ob, .int .i64 oc, sv os, sv ot] 43) := kO
  have HR : Hid (ProgRep Sp W bp L p) := R0
  have HF : Hid (Fr (fun k => k = bp) w W) := F0.weaken (fun _ _ h => h.elim)
  clear e0 h kA kO R0
  have HC : Hid (Calls _ _ _ _ _) := mark_any Sp bp L p W HR.out
  rw [hW] at HC
  go_enter Tryz.func12, Tryz.ntmps12
  go_wp2_with fail
  refine HC.out.mono ?_
  rintro e w1 ⟨rfl, g1, g2⟩
  rw [← hW] at g2
  have HK1 : Hid (Has w1 (w.heap.size + 1) _ _) := HK.out.fr g2 (fun e => by omega)
  have HR1 : Hid (ProgRep Sp w1 bp L _) := g1
  have HF1 : Hid (Fr (fun k => k = bp) w w1) := HF.out.trans g2 (fun _ _ h => h)
  clear HC hW g1 g2 HK HR HF HKO
  have x0 := HK1.out.cell 0
  have x1 := HK1.out.cell 1
  have x2 := HK1.out.cell 2
  have x3 := HK1.out.cell 3
  simp at x0 x1 x2 x3
  have y0 := HK1.out.frozen 0
  have y1 := HK1.out.frozen 1
  have y2 := HK1.out.frozen 2
  have y3 := HK1.out.frozen 3
  have yl := HK1.out.lt
  go_wp2
  (try simp only [Exit.inBlock, Exit.then])
  obtain ⟨g1, g2⟩ := HK1.out.put4 (.int .i64 0) (.int .i64 0) (.int .i64 0) (.string ⟨#[]⟩)
  refine bodyPost_ret (do_res _ _ (w.heap.size + 1) _ _ _ _ rfl g1) rfl ?_
  exact DoPost.same (a := AnsD.zero) hS (HR1.out.fr g2 (fun k hk hs e => by have := hS k hs; omega)) (HF1.out.trans g2 (fun j hj e => by omega))
theorem do_show (hk : o.kind = 16) (h : ProgRep Sp w bp L p) (hS : ∀ k, Sp k → k < w.heap.size) (ho : ProgOk p) :
    Calls Tryz.prog 12 #[.pointer (some ⟨bp, 0, none⟩), .pointer (some ⟨bb, 0, none⟩), o.val] w (DoPost Sp w bp (doP p m o)) := by
  have e0 : doP p m o = (p, ⟨0, 0, 0, p.show⟩) := by unfold doP; rw [if_neg (by omega), if_neg (by omega), if_neg (by omega), if_neg (by omega), if_neg (by omega), if_neg (by omega), if_pos hk]
  rw [e0]
  obtain ⟨W, hW, F0, kA, kO⟩ := do_world o w
  obtain ⟨kind, oa, ob, oc, os, ot⟩ := o
  simp only at hk hW kO ⊢
  subst hk
  unfold OpD.val
  simp only
  have hblt := h.funs.here.lt
  have R0 := h.fresh F0
  have HK : Hid (Has W (w.heap.size + 1) #[.int .i64 0, .int .i64 0, .int .i64 0, .string ⟨#[]⟩] 46) := kA
  have HKO : Hid (Has W w.heap.size #[.int .i64 16, .int .i64 oa, .int .i64 ob, .int .i64 oc, sv os, sv ot] 43) := kO
  have HR : Hid (ProgRep Sp W bp L p) := R0
  have HF : Hid (Fr (fun k => k = bp) w W) := F0.weaken (fun _ _ h => h.elim)
  clear e0 h kA kO R0
  have HC : Hid (Calls _ _ _ _ _) := show_any Sp bp L p W HR.out ho.sh
  rw [hW] at HC
  go_enter Tryz.func12, Tryz.ntmps12
  go_wp2_with fail
  refine HC.out.mono ?_
  rintro e w1 ⟨T, rfl, HT, g2⟩
  rw [← hW] at g2
  have HK1 : Hid (Has w1 (w.heap.size + 1) _ _) := HK.out.fr g2 (fun h => h)
  have HR1 : Hid (ProgRep Sp w1 bp L _) := HR.out.fresh g2
  have HF1 : Hid (Fr (fun k => k = bp) w w1) := HF.out.trans g2 (fun _ _ h => h.elim)
  clear HC hW g2 HK HR HF HKO
  have x0 := HK1.out.cell 0
  have x1 := HK1.out.cell 1
  have x2 := HK1.out.cell 2
  have x3 := HK1.out.cell 3
  simp at x0 x1 x2 x3
  have y0 := HK1.out.frozen 0
  have y1 := HK1.out.frozen 1
  have y2 := HK1.out.frozen 2
  have y3 := HK1.out.frozen 3
  have yl := HK1.out.lt
  go_wp2
  (try simp only [Exit.inBlock, Exit.then])
  have hT := HT.out
  subst hT
  obtain ⟨g1, g2⟩ := HK1.out.put4 (.int .i64 0) (.int .i64 0) (.int .i64 0) (sv p.show)
  refine bodyPost_ret (do_res _ _ (w.heap.size + 1) _ _ _ _ rfl g1) rfl ?_
  exact DoPost.same (a := ⟨0, 0, 0, p.show⟩) hS (HR1.out.fr g2 (fun k hk hs e => by have := hS k hs; omega)) (HF1.out.trans g2 (fun j hj e => by omega))
theorem do_check (hk : o.kind = 17) (h : ProgRep Sp w bp L p) (hS : ∀ k, Sp k → k < w.heap.size) (ho : ProgOk p) :
    Calls Tryz.prog 12 #[.pointer (some ⟨bp, 0, none⟩), .pointer (some ⟨bb, 0, none⟩), o.val] w (DoPost Sp w bp (doP p m o)) := by
  have e0 : doP p m o = (p, ⟨0, 0, 1, []⟩) := by unfold doP; rw [if_neg (by omega), if_neg (by omega), if_neg (by omega), if_neg (by omega), if_neg (by omega), if_neg (by omega), if_neg (by omega), if_pos hk]
  rw [e0]
  obtain ⟨W, hW, F0, kA, kO⟩ := do_world o w
  obtain ⟨kind, oa, ob, oc, os, ot⟩ := o
  simp only at hk hW kO ⊢
  subst hk
  unfold OpD.val
  simp only
  have hblt := h.funs.here.lt
  have R0 := h.fresh F0
  have HK : Hid (Has W (w.heap.size + 1) #[.int .i64 0, .int .i64 0, .int .i64 0, .string ⟨#[]⟩] 46) := kA
  have HKO : Hid (Has W w.heap.size #[.int .i64 17, .int .i64 oa, .int .i64 ob, .int .i64 oc, sv os, sv ot] 43) := kO
  have HR : Hid (ProgRep Sp W bp L p) := R0
  have HF : Hid (Fr (fun k => k = bp) w W) := F0.weaken (fun _ _ h => h.elim)
  clear e0 h kA kO R0
  obtain ⟨ck, hck⟩ := ho.ck
  have HC : Hid (Calls _ _ _ _ _) := check_any Sp bp L p ck W HR.out hck
  rw [hW] at HC
  go_enter Tryz.func12, Tryz.ntmps12
  go_wp2_with fail
  refine HC.out.mono ?_
  rintro e w1 ⟨rfl, g2⟩
  rw [← hW] at g2
  have HK1 : Hid (Has w1 (w.heap.size + 1) _ _) := HK.out.fr g2 (fun h => h)
  have HR1 : Hid (ProgRep Sp w1 bp L _) := HR.out.fresh g2
  have HF1 : Hid (Fr (fun k => k = bp) w w1) := HF.out.trans g2 (fun _ _ h => h.elim)
  have HC2 : Hid (Calls _ _ _ _ _) := truth_any true w1
  clear HC hW g2 HK HR HF HKO
  go_wp2_with fail
  refine HC2.out.mono ?_
  rintro e w2 ⟨rfl, hw2⟩
  subst hw2
  clear HC2
  have x0 := HK1.out.cell 0
  have x1 := HK1.out.cell 1
  have x2 := HK1.out.cell 2
  have x3 := HK1.out.cell 3
  simp at x0 x1 x2 x3
  have y0 := HK1.out.frozen 0
  have y1 := HK1.out.frozen 1
  have y2 := HK1.out.frozen 2
  have y3 := HK1.out.frozen 3
  have yl := HK1.out.lt
  go_wp2
  (try simp only [Exit.inBlock, Exit.then])
  obtain ⟨g1, g2⟩ := HK1.out.put4 (.int .i64 0) (.int .i64 0) (.int .i64 1) (.string ⟨#[]⟩)
  refine bodyPost_ret (do_res _ _ (w.heap.size + 1) _ _ _ _ rfl g1) rfl ?_
  exact DoPost.same (a := ⟨0, 0, 1, []⟩) hS (HR1.out.fr g2 (fun k hk hs e => by have := hS k hs; omega)) (HF1.out.trans g2 (fun j hj e => by omega))
theorem do_at (hk : o.kind = 13) (h : ProgRep Sp w bp L p) (hS : ∀ k, Sp k → k < w.heap.size) (ho : ProgOk p) :
    Calls Tryz.prog 12 #[.pointer (some ⟨bp, 0, none⟩), .pointer (some ⟨bb, 0, none⟩), o.val] w (DoPost Sp w bp (doP p m o)) := by
  have e0 : doP p m o = ({ p with steps := p.steps + 1 }, ⟨0, 0, 0, flatT (p.at o.a o.b)⟩) := by unfold doP; rw [if_neg (by omega), if_neg (by omega), if_neg (by omega), if_pos hk]
  rw [e0]
  obtain ⟨W, hW, F0, kA, kO⟩ := do_world o w
  obtain ⟨kind, oa, ob, oc, os, ot⟩ := o
  simp only at hk hW kO ⊢
  subst hk
  unfold OpD.val
  simp only
  have hblt := h.funs.here.lt
  have R0 := h.fresh F0
  have HK : Hid (Has W (w.heap.size + 1) #[.int .i64 0, .int .i64 0, .int .i64 0, .string ⟨#[]⟩] 46) := kA
  have HKO : Hid (Has W w.heap.size #[.int .i64 13, .int .i64 oa, .int .i64 ob, .int .i64 oc, sv os, sv ot] 43) := kO
  have HR : Hid (ProgRep Sp W bp L p) := R0
  have HF : Hid (Fr (fun k => k = bp) w W) := F0.weaken (fun _ _ h => h.elim)
  clear e0 h kA kO R0
  have hs0 := ho.s0
  have hs1 := ho.s1
  have HC : Hid (Calls _ _ _ _ _) := at_any Sp bp L p oa ob W HR.out (ho.cl HR.out).1 (ho.cl HR.out).2 hs0 (by omega)
  rw [hW] at HC
  generalize p.at oa ob = fl at *
  obtain ⟨f1, f2, f3, f4⟩ := fl
  unfold Flat.val at HC
  simp only at HC
  go_enter Tryz.func12, Tryz.ntmps12
  go_wp2_with fail
  refine HC.out.mono ?_
  rintro e w1 ⟨rfl, g1, g2⟩
  rw [← hW] at g2
  have F1 : Fr (fun _ => False) w1 (w1.alloc (.cells #[.int .i64 f1, .int .i64 f2, .int .i64 f3, .int .i64 f4] 97)) := (Fr.refl _ w1).alloc _
  have HC2 : Hid (Calls _ _ _ _ _) := four_any ⟨f1, f2, f3, f4⟩ (w1.alloc (.cells #[.int .i64 f1, .int .i64 f2, .int .i64 f3, .int .i64 f4] 97))
  unfold Flat.val at HC2
  simp only at HC2
  have HK1 : Hid (Has w1 (w.heap.size + 1) _ _) := HK.out.fr g2 (fun e => by omega)
  have HR1 : Hid (ProgRep Sp w1 bp L _) := g1
  have HF1 : Hid (Fr (fun k => k = bp) w w1) := HF.out.trans g2 (fun _ _ h => h)
  have HA1 : Hid (Fr (fun _ => False) w1 _) := F1
  clear HC hW g1 g2 HK HR HF HKO F1
  go_wp2_with fail
  refine HC2.out.mono ?_
  rintro e w2 ⟨T, rfl, HT, g3⟩
  have F2 : Fr (fun _ => False) w1 w2 := HA1.out.trans g3 (fun _ _ h => h)
  have HK2 : Hid (Has w2 (w.heap.size + 1) _ _) := HK1.out.fr F2 (fun h => h)
  have HR2 : Hid (ProgRep Sp w2 bp L _) := HR1.out.fresh F2
  have HF2 : Hid (Fr (fun k => k = bp) w w2) := HF1.out.trans F2 (fun _ _ h => h.elim)
  clear HC2 g3 F2 HK1 HR1 HF1 HA1
  have x0 := HK2.out.cell 0
  have x1 := HK2.out.cell 1
  have x2 := HK2.out.cell 2
  have x3 := HK2.out.cell 3
  simp at x0 x1 x2 x3
  have y0 := HK2.out.frozen 0
  have y1 := HK2.out.frozen 1
  have y2 := HK2.out.frozen 2
  have y3 := HK2.out.frozen 3
  have yl := HK2.out.lt
  go_wp2
  (try simp only [Exit.inBlock, Exit.then])
  have hT := HT.out
  subst hT
  obtain ⟨g1, g2⟩ := HK2.out.put4 (.int .i64 0) (.int .i64 0) (.int .i64 0) (sv (flatT ⟨f1, f2, f3, f4⟩))
  refine bodyPost_ret (do_res _ _ (w.heap.size + 1) _ _ _ _ rfl g1) rfl ?_
  exact DoPost.same (a := ⟨0, 0, 0, flatT ⟨f1, f2, f3, f4⟩⟩) hS (HR2.out.fr g2 (fun k hk hs e => by have := hS k hs; omega)) (HF2.out.trans g2 (fun j hj e => by omega))
theorem do_other (n7 : o.kind ≠ 7) (n8 : o.kind ≠ 8) (n10 : o.kind ≠ 10) (n13 : o.kind ≠ 13) (n14 : o.kind ≠ 14) (n15 : o.kind ≠ 15) (n16 : o.kind ≠ 16) (n17 : o.kind ≠ 17) (h : ProgRep Sp w bp L p) (hS : ∀ k, Sp k → k < w.heap.size) :
    Calls Tryz.prog 12 #[.pointer (some ⟨bp, 0, none⟩), .pointer (some ⟨bb, 0, none⟩), o.val] w (DoPost Sp w bp (doP p m o)) := by
  have e0 : doP p m o = (p, AnsD.zero) := by unfold doP; rw [if_neg n7, if_neg n8, if_neg n10, if_neg n13, if_neg n14, if_neg n15, if_neg n16, if_neg n17]
  rw [e0]
  obtain ⟨W, hW, F0, kA, kO⟩ := do_world o w
  obtain ⟨kind, oa, ob, oc, os, ot⟩ := o
  simp only at n7 n8 n10 n13 n14 n15 n16 n17 hW kO
  unfold OpD.val
  simp only
  have b7 := beq_eq_false_iff_ne.2 n7
  have b8 := beq_eq_false_iff_ne.2 n8
  have b10 := beq_eq_false_iff_ne.2 n10
  have b13 := beq_eq_false_iff_ne.2 n13
  have b14 := beq_eq_false_iff_ne.2 n14
  have b15 := beq_eq_false_iff_ne.2 n15
  have b16 := beq_eq_false_iff_ne.2 n16
  have b17 := beq_eq_false_iff_ne.2 n17
  have FIN := DoPost.same (a := AnsD.zero) hS (h.fresh F0) (F0.weaken (fun _ _ h => h.elim))
  have HFIN : Hid (DoPost _ _ _ _ _ _) := FIN
  have HK : Hid (Has W (w.heap.size + 1) #[.int .i64 0, .int .i64 0, .int .i64 0, .string ⟨#[]⟩] 46) := kA
  rw [hW] at HFIN HK
  clear e0 h kA kO F0 hW FIN n7 n8 n10 n13 n14 n15 n16 n17
  go_enter Tryz.func12, Tryz.ntmps12
  go_wp2
  (try simp only [Exit.inBlock, Exit.then])
  refine bodyPost_ret (do_res _ _ (w.heap.size + 1) _ _ _ _ rfl HK.out) rfl ?_
  exact HFIN.out
theorem do_sig (hk : o.kind = 10) (h : ProgRep Sp w bp L p) (hS : ∀ k, Sp k → k < w.heap.size) (ho : ProgOk p) :
    Calls Tryz.prog 12 #[.pointer (some ⟨bp, 0, none⟩), .pointer (some ⟨bb, 0, none⟩), o.val] w (DoPost Sp w bp (doP p m o)) := by
  have e0 : doP p m o = (p, ⟨0, p.nimp, if (p.sig o.a).2 then 1 else 0, sigT p o.a⟩) := by unfold doP; rw [if_neg (by omega), if_neg (by omega), if_pos hk]
  rw [e0]
  obtain ⟨W, hW, F0, kA, kO⟩ := do_world o w
  obtain ⟨kind, oa, ob, oc, os, ot⟩ := o
  simp only at hk hW kO ⊢
  subst hk
  unfold OpD.val
  simp only
  have hblt := h.funs.here.lt
  have R0 := h.fresh F0
  have HK : Hid (Has W (w.heap.size + 1) #[.int .i64 0, .int .i64 0, .int .i64 0, .string ⟨#[]⟩] 46) := kA
  have HKO : Hid (Has W w.heap.size #[.int .i64 10, .int .i64 oa, .int .i64 ob, .int .i64 oc, sv os, sv ot] 43) := kO
  have HR : Hid (ProgRep Sp W bp L p) := R0
  have HF : Hid (Fr (fun k => k = bp) w W) := F0.weaken (fun _ _ h => h.elim)
  clear e0 h kA kO R0
  have hsl : (p.sig oa).1.params.length ≤ 10 ∧ (p.sig oa).1.results.length ≤ 10 ∧ (p.sig oa).1.locals.length ≤ 10 := sig_len ho.sh oa
  have hnf := ho.sh.nf
  have HC : Hid (Calls _ _ _ _ _) := sig_any Sp bp L p W oa HR.out (by omega)
  rw [hW] at HC
  have HSG : Hid (∀ x : List UInt8, x = (p.sig oa).1.params ++ ([62] ++ ((p.sig oa).1.results ++ ([43] ++ ((p.sig oa).1.locals ++ [32])))) → sigT p oa = x ++ numT p.min ++ numT p.max) := fun x hx => by rw [hx]; rfl
  generalize p.sig oa = sg at *
  obtain ⟨⟨sp, sr, sl⟩, sb⟩ := sg
  simp only at HC hsl HSG ⊢
  obtain ⟨l1, l2, l3⟩ := hsl
  obtain ⟨ST, hST⟩ : ∃ ST, ST = sigT p oa := ⟨_, rfl⟩
  have HST : Hid (ST = sigT p oa) := hST
  rw [← hST]
  have e7 := ba_app7 sp sr sl
  obtain ⟨Y, hY, hYl⟩ : ∃ Y, sp ++ ([62] ++ (sr ++ ([43] ++ (sl ++ [32])))) = Y ∧ Y.length ≤ 40 := ⟨_, rfl, by simp; omega⟩
  rw [hY] at e7
  have HY : Hid (Y = sp ++ ([62] ++ (sr ++ ([43] ++ (sl ++ [32]))))) := hY.symm
  clear hST hY
  cases sb
  · go_enter Tryz.func12, Tryz.ntmps12
    go_wp2_with fail
    refine HC.out.mono ?_
    rintro e w1 ⟨rfl, n1, hw1⟩
    rw [← hW] at hw1
    have F1 : Fr (fun _ => False) W w1 := by rw [hw1]; exact (Fr.refl _ W).drewN n1
    have R1 := HR.out.fresh F1
    have HC2 : Hid (Calls _ _ _ _ _) := pmem_any Sp bp L p w1 R1
    have HF1 : Hid (Fr (fun _ => False) W w1) := F1
    clear HC hw1 F1 R1
    go_wp2_with fail
    refine HC2.out.mono ?_
    rintro e w2 ⟨rfl, n2, hw2⟩
    have HF2 : Hid (Fr (fun _ => False) W w2) := by rw [hw2]; exact HF1.out.drewN n2
    have HC3 : Hid (Calls _ _ _ _ _) := num_named Y p.min w2 (by omega)
    clear hw2 HC2 HF1
    go_wp2_with fail
    refine HC3.out.mono ?_
    rintro e w3 ⟨T1, rfl, HT1, m1, hF3⟩
    have HF3 : Hid (Fr (fun _ => False) W w3) := HF2.out.trans hF3 (fun _ _ h => h)
    have HC4 : Hid (Calls _ _ _ _ _) := num_named T1 p.max w3 (by omega)
    clear hF3 HC3 HF2
    go_wp2_with fail
    refine HC4.out.mono ?_
    rintro e w4 ⟨T2, rfl, HT2, m2, hF4⟩
    have HF4 : Hid (Fr (fun _ => False) W w4) := HF3.out.trans hF4 (fun _ _ h => h)
    have HC5 : Hid (Calls _ _ _ _ _) := truth_any false w4
    clear hF4 HC4 HF3
    go_wp2_with fail
    refine HC5.out.mono ?_
    rintro e w5 ⟨rfl, hw5⟩
    subst hw5
    have R5 := HR.out.fresh HF4.out
    have HC6 : Hid (Calls _ _ _ _ _) := pnimports_any Sp bp L p w5 R5
    clear HC5
    go_wp2_with fail
    refine HC6.out.mono ?_
    rintro e w6 ⟨rfl, hw6⟩
    subst hw6
    have HK1 : Hid (Has w6 (w.heap.size + 1) _ _) := HK.out.fr HF4.out (fun h => h)
    have HR1 : Hid (ProgRep Sp w6 bp L _) := R5
    have HF5 : Hid (Fr (fun k => k = bp) w w6) := HF.out.trans HF4.out (fun _ _ h => h.elim)
    clear HC6 hW HK HR HF HKO R5 HF4
    have x0 := HK1.out.cell 0
    have x1 := HK1.out.cell 1
    have x2 := HK1.out.cell 2
    have x3 := HK1.out.cell 3
    simp at x0 x1 x2 x3
    have y0 := HK1.out.frozen 0
    have y1 := HK1.out.frozen 1
    have y2 := HK1.out.frozen 2
    have y3 := HK1.out.frozen 3
    have yl := HK1.out.lt
    go_wp2
    (try simp only [Exit.inBlock, Exit.then])
    have hT : T2 = ST := by rw [HT2.out, HT1.out, HST.out, HSG.out Y HY.out]
    subst hT
    obtain ⟨g1, g2⟩ := HK1.out.put4 (.int .i64 0) (.int .i64 p.nimp) (.int .i64 0) (sv T2)
    refine bodyPost_ret (do_res _ _ (w.heap.size + 1) _ _ _ _ rfl g1) rfl ?_
    exact DoPost.same (a := ⟨0, p.nimp, 0, T2⟩) hS (HR1.out.fr g2 (fun k hk hs e => by have := hS k hs; omega)) (HF5.out.trans g2 (fun j hj e => by omega))
  · go_enter Tryz.func12, Tryz.ntmps12
    go_wp2_with fail
    refine HC.out.mono ?_
    rintro e w1 ⟨rfl, n1, hw1⟩
    rw [← hW] at hw1
    have F1 : Fr (fun _ => False) W w1 := by rw [hw1]; exact (Fr.refl _ W).drewN n1
    have R1 := HR.out.fresh F1
    have HC2 : Hid (Calls _ _ _ _ _) := pmem_any Sp bp L p w1 R1
    have HF1 : Hid (Fr (fun _ => False) W w1) := F1
    clear HC hw1 F1 R1
    go_wp2_with fail
    refine HC2.out.mono ?_
    rintro e w2 ⟨rfl, n2, hw2⟩
    have HF2 : Hid (Fr (fun _ => False) W w2) := by rw [hw2]; exact HF1.out.drewN n2
    have HC3 : Hid (Calls _ _ _ _ _) := num_named Y p.min w2 (by omega)
    clear hw2 HC2 HF1
    go_wp2_with fail
    refine HC3.out.mono ?_
    rintro e w3 ⟨T1, rfl, HT1, m1, hF3⟩
    have HF3 : Hid (Fr (fun _ => False) W w3) := HF2.out.trans hF3 (fun _ _ h => h)
    have HC4 : Hid (Calls _ _ _ _ _) := num_named T1 p.max w3 (by omega)
    clear hF3 HC3 HF2
    go_wp2_with fail
    refine HC4.out.mono ?_
    rintro e w4 ⟨T2, rfl, HT2, m2, hF4⟩
    have HF4 : Hid (Fr (fun _ => False) W w4) := HF3.out.trans hF4 (fun _ _ h => h)
    have HC5 : Hid (Calls _ _ _ _ _) := truth_any true w4
    clear hF4 HC4 HF3
    go_wp2_with fail
    refine HC5.out.mono ?_
    rintro e w5 ⟨rfl, hw5⟩
    subst hw5
    have R5 := HR.out.fresh HF4.out
    have HC6 : Hid (Calls _ _ _ _ _) := pnimports_any Sp bp L p w5 R5
    clear HC5
    go_wp2_with fail
    refine HC6.out.mono ?_
    rintro e w6 ⟨rfl, hw6⟩
    subst hw6
    have HK1 : Hid (Has w6 (w.heap.size + 1) _ _) := HK.out.fr HF4.out (fun h => h)
    have HR1 : Hid (ProgRep Sp w6 bp L _) := R5
    have HF5 : Hid (Fr (fun k => k = bp) w w6) := HF.out.trans HF4.out (fun _ _ h => h.elim)
    clear HC6 hW HK HR HF HKO R5 HF4
    have x0 := HK1.out.cell 0
    have x1 := HK1.out.cell 1
    have x2 := HK1.out.cell 2
    have x3 := HK1.out.cell 3
    simp at x0 x1 x2 x3
    have y0 := HK1.out.frozen 0
    have y1 := HK1.out.frozen 1
    have y2 := HK1.out.frozen 2
    have y3 := HK1.out.frozen 3
    have yl := HK1.out.lt
    go_wp2
    (try simp only [Exit.inBlock, Exit.then])
    have hT : T2 = ST := by rw [HT2.out, HT1.out, HST.out, HSG.out Y HY.out]
    subst hT
    obtain ⟨g1, g2⟩ := HK1.out.put4 (.int .i64 0) (.int .i64 p.nimp) (.int .i64 1) (sv T2)
    refine bodyPost_ret (do_res _ _ (w.heap.size + 1) _ _ _ _ rfl g1) rfl ?_
    exact DoPost.same (a := ⟨0, p.nimp, 1, T2⟩) hS (HR1.out.fr g2 (fun k hk hs e => by have := hS k hs; omega)) (HF5.out.trans g2 (fun j hj e => by omega))
theorem do_nil (hk : o.kind = 8) (h : ProgRep Sp w bp L p) (hS : ∀ k, Sp k → k < w.heap.size) (hg : GlobOk w) :
    Calls Tryz.prog 12 #[.pointer (some ⟨bp, 0, none⟩), .pointer (some ⟨bb, 0, none⟩), o.val] w (DoPost Sp w bp (doP p m o)) := by
  have e0 : doP p m o = (p, ⟨7, 0, 0, []⟩) := by unfold doP; rw [if_neg (by omega), if_pos hk]
  rw [e0]
  obtain ⟨W, hW, F0, kA, kO⟩ := do_world o w
  obtain ⟨kind, oa, ob, oc, os, ot⟩ := o
  simp only at hk hW kO ⊢
  subst hk
  unfold OpD.val
  simp only
  have hblt := h.funs.here.lt
  have R0 := h.fresh F0
  have HK : Hid (Has W (w.heap.size + 1) #[.int .i64 0, .int .i64 0, .int .i64 0, .string ⟨#[]⟩] 46) := kA
  have HKO : Hid (Has W w.heap.size #[.int .i64 8, .int .i64 oa, .int .i64 ob, .int .i64 oc, sv os, sv ot] 43) := kO
  have HR : Hid (ProgRep Sp W bp L p) := R0
  have HF : Hid (Fr (fun k => k = bp) w W) := F0.weaken (fun _ _ h => h.elim)
  clear e0 h kA kO R0
  have hw0 : 0 < w.heap.size := Nat.lt_of_le_of_lt (Nat.zero_le _) hblt
  have HG : Hid (GlobOk W) := hg.fr F0 (fun h => h)
  have HC : Hid (Calls _ _ _ _ _) := new_nil W
  rw [hW] at HC
  go_enter Tryz.func12, Tryz.ntmps12
  go_wp2_with fail
  refine HC.out.mono ?_
  rintro e w1 ⟨hF1, be, rfl, hB, hbe⟩
  rw [← hW] at hF1 hbe
  have hsz : w.heap.size ≤ W.heap.size := HF.out.size
  have HC2 : Hid (Calls _ _ _ _ _) := fault_any be 0 0 7 w1 ⟨hB, .inr (.inr rfl)⟩ (HG.out.fr hF1 (fun h => h)) (by omega)
  unfold AnsD.val at HC2
  simp only at HC2
  have HF1 : Hid (Fr (fun _ => False) W w1) := hF1
  clear HC hF1 hB hbe HG
  go_wp2_with fail
  refine HC2.out.mono ?_
  rintro e w2 ⟨rfl, hF2⟩
  have F2 := HF1.out.trans hF2 (fun _ _ h => h)
  have HK1 : Hid (Has w2 (w.heap.size + 1) _ _) := HK.out.fr F2 (fun h => h)
  have HR1 : Hid (ProgRep Sp w2 bp L _) := HR.out.fresh F2
  have HF2 : Hid (Fr (fun k => k = bp) w w2) := HF.out.trans F2 (fun _ _ h => h.elim)
  clear HC2 hW HK HR HF HKO F2 hF2 HF1
  have x0 := HK1.out.cell 0
  have x1 := HK1.out.cell 1
  have x2 := HK1.out.cell 2
  have x3 := HK1.out.cell 3
  simp at x0 x1 x2 x3
  have y0 := HK1.out.frozen 0
  have y1 := HK1.out.frozen 1
  have y2 := HK1.out.frozen 2
  have y3 := HK1.out.frozen 3
  have yl := HK1.out.lt
  go_wp2
  (try simp only [Exit.inBlock, Exit.then])
  obtain ⟨g1, g2⟩ := HK1.out.put4 (.int .i64 7) (.int .i64 0) (.int .i64 0) (.string ⟨#[]⟩)
  refine bodyPost_ret (do_res _ _ (w.heap.size + 1) _ _ _ _ rfl g1) rfl ?_
  exact DoPost.same (a := ⟨7, 0, 0, []⟩) hS (HR1.out.fr g2 (fun k hk hs e => by have := hS k hs; omega)) (HF2.out.trans g2 (fun j hj e => by omega))
theorem do_bad (hk : o.kind = 7) (h : ProgRep Sp w bp L p) (hS : ∀ k, Sp k → k < w.heap.size) (hg : GlobOk w) (Sb : Nat → Prop) (K : BelL) (x : BelD) (hx : x.m = m) (hb : BelRep Sb w bb K x) (hSb : ∀ k, Sb k → k < w.heap.size) (hgood : ModGood m) (hbad : m.load.2.2 ≠ 0) :
    Calls Tryz.prog 12 #[.pointer (some ⟨bp, 0, none⟩), .pointer (some ⟨bb, 0, none⟩), o.val] w (DoPost Sp w bp (doP p m o)) := by
  have e0 : doP p m o = (p, ⟨m.load.2.2, m.load.1, m.load.2.1, []⟩) := by unfold doP; rw [if_pos hk, if_neg hbad]
  rw [e0]
  obtain ⟨W, hW, F0, kA, kO⟩ := do_world o w
  obtain ⟨kind, oa, ob, oc, os, ot⟩ := o
  simp only at hk hW kO ⊢
  subst hk
  unfold OpD.val
  simp only
  have hblt := h.funs.here.lt
  have R0 := h.fresh F0
  have HK : Hid (Has W (w.heap.size + 1) #[.int .i64 0, .int .i64 0, .int .i64 0, .string ⟨#[]⟩] 46) := kA
  have HKO : Hid (Has W w.heap.size #[.int .i64 7, .int .i64 oa, .int .i64 ob, .int .i64 oc, sv os, sv ot] 43) := kO
  have HR : Hid (ProgRep Sp W bp L p) := R0
  have HF : Hid (Fr (fun k => k = bp) w W) := F0.weaken (fun _ _ h => h.elim)
  clear e0 h kA kO R0
  subst hx
  have hw0 : 0 < w.heap.size := Nat.lt_of_le_of_lt (Nat.zero_le _) hblt
  have hcode : x.m.load.2.2 = 5 ∨ x.m.load.2.2 = 6 ∨ x.m.load.2.2 = 7 := by
    rcases hgood.load_codes with h | h | h
    · exact absurd h hbad
    · exact .inl h
    · exact .inr (.inl h)
  have HG : Hid (GlobOk W) := hg.fr F0 (fun h => h)
  have B0 := hb.newer F0
  have c0 := B0.here.cell 0
  simp at c0
  have bl := B0.here.lt
  rw [hW] at c0 bl
  have HC : Hid (Calls _ _ _ _ _) := new_bad _ K.bm K.L x.m W B0.mod (fun k hk => by have := hSb k hk.1; have := HF.out.size; omega) hgood.ok hgood.bodies hbad
  rw [hW] at HC
  generalize x.m.load = q at *
  obtain ⟨qf, qa, qe⟩ := q
  simp only at HC hcode ⊢
  clear B0 hb hgood hbad hSb
  go_enter Tryz.func12, Tryz.ntmps12
  go_wp2_with fail
  refine HC.out.mono ?_
  rintro e w1 ⟨hF1, be, rfl, hB, hbe⟩
  rw [← hW] at hF1 hbe
  have hsz : w.heap.size ≤ W.heap.size := HF.out.size
  have HC2 : Hid (Calls _ _ _ _ _) := fault_any be qf qa qe w1 ⟨hB, hcode⟩ (HG.out.fr hF1 (fun h => h)) (by omega)
  unfold AnsD.val at HC2
  simp only at HC2
  have HF1 : Hid (Fr (fun _ => False) W w1) := hF1
  clear HC hF1 hB hbe HG c0 bl
  go_wp2_with fail
  refine HC2.out.mono ?_
  rintro e w2 ⟨rfl, hF2⟩
  have F2 := HF1.out.trans hF2 (fun _ _ h => h)
  have HK1 : Hid (Has w2 (w.heap.size + 1) _ _) := HK.out.fr F2 (fun h => h)
  have HR1 : Hid (ProgRep Sp w2 bp L _) := HR.out.fresh F2
  have HF2 : Hid (Fr (fun k => k = bp) w w2) := HF.out.trans F2 (fun _ _ h => h.elim)
  clear HC2 hW HK HR HF HKO F2 hF2 HF1
  have x0 := HK1.out.cell 0
  have x1 := HK1.out.cell 1
  have x2 := HK1.out.cell 2
  have x3 := HK1.out.cell 3
  simp at x0 x1 x2 x3
  have y0 := HK1.out.frozen 0
  have y1 := HK1.out.frozen 1
  have y2 := HK1.out.frozen 2
  have y3 := HK1.out.frozen 3
  have yl := HK1.out.lt
  go_wp2
  (try simp only [Exit.inBlock, Exit.then])
  obtain ⟨g1, g2⟩ := HK1.out.put4 (.int .i64 qe) (.int .i64 qf) (.int .i64 qa) (.string ⟨#[]⟩)
  refine bodyPost_ret (do_res _ _ (w.heap.size + 1) _ _ _ _ rfl g1) rfl ?_
  exact DoPost.same (a := ⟨qe, qf, qa, []⟩) hS (HR1.out.fr g2 (fun k hk hs e => by have := hS k hs; omega)) (HF2.out.trans g2 (fun j hj e => by omega))
theorem do_any (Sb : Nat → Prop) (K : BelL) (x : BelD) (h : ProgRep Sp w bp L p) (hS : ∀ k, Sp k → k < w.heap.size) (ho : ProgOk p) (hg : GlobOk w) (hb : BelRep Sb w bb K x) (hSb : ∀ k, Sb k → k < w.heap.size) (hgood : ModGood x.m) :
    Calls Tryz.prog 12 #[.pointer (some ⟨bp, 0, none⟩), .pointer (some ⟨bb, 0, none⟩), o.val] w (DoPost Sp w bp (doP p x.m o)) := by
  by_cases h7 : o.kind = 7
  · by_cases hz : x.m.load.2.2 = 0
    · have e0 : doP p x.m o = (x.m.prog, AnsD.zero) := by unfold doP; rw [if_pos h7, if_pos hz]
      rw [e0]
      refine (do_new_ok Sb bb K x o (.pointer (some ⟨bp, 0, none⟩)) w hb h7 hSb hgood.ok hgood.bodies hz).mono ?_
      rintro e w' ⟨hF, bp', Lp', rfl, hP⟩
      exact ⟨⟨bp', Lp', (fun k => w.heap.size ≤ k ∧ k < w'.heap.size), rfl, hP.sub (fun k hk h => ⟨h, hk⟩), fun k hk => ⟨.inr hk.1, hk.2⟩⟩, hF.weaken (fun _ _ h => h.elim)⟩
    · exact do_bad Sp bp L p x.m bb o w h7 h hS hg Sb K x rfl hb hSb hgood hz
  by_cases h8 : o.kind = 8
  · exact do_nil Sp bp L p x.m bb o w h8 h hS hg
  by_cases h10 : o.kind = 10
  · exact do_sig Sp bp L p x.m bb o w h10 h hS ho
  by_cases h13 : o.kind = 13
  · exact do_at Sp bp L p x.m bb o w h13 h hS ho
  by_cases h14 : o.kind = 14
  · exact do_steps Sp bp L p x.m bb o w h14 h hS
  by_cases h15 : o.kind = 15
  · exact do_mark Sp bp L p x.m bb o w h15 h hS
  by_cases h16 : o.kind = 16
  · exact do_show Sp bp L p x.m bb o w h16 h hS ho
  by_cases h17 : o.kind = 17
  · exact do_check Sp bp L p x.m bb o w h17 h hS ho
  exact do_other Sp bp L p x.m bb o w h7 h8 h10 h13 h14 h15 h16 h17 h hS
end
end Go.Proofs.Qxb6500576aGreatDoor
