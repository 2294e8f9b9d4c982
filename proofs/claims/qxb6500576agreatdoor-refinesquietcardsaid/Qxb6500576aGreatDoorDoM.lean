/-
  THE WALK of preplaw.DoM.
-/
import Derived.Test.Qxb6500576aGreatDoorMNew
import Derived.Test.Qxb6500576aGreatDoorMShow
import Derived.Test.Qxb6500576aGreatDoorDo
namespace Go.Proofs.Qxb6500576aGreatDoor
open Go Go.RowKit
set_option linter.unusedVariables false
set_option linter.unusedSimpArgs false

def ModD.progM (m : ModD) : ProgD := { nimp := m.imports.length, min := m.min, max := m.max, steps := 0, funs := m.sigs, codes := (List.range m.nall).map m.codeM }
def domP (p : ProgD) (m : ModD) (o : OpD) : ProgD × AnsD :=
  if o.kind = 7 then (if m.loadM.2.2 = 0 then (m.progM, AnsD.zero) else (p, ⟨m.loadM.2.2, m.loadM.1, m.loadM.2.1, []⟩))
  else if o.kind = 8 then (p, ⟨7, 0, 0, []⟩)
  else if o.kind = 10 then (p, ⟨0, p.nimp, if (p.sig o.a).2 then 1 else 0, sigT p o.a⟩)
  else if o.kind = 13 then ({ p with steps := p.steps + 1 }, ⟨0, 0, 0, flatT (p.at o.a o.b)⟩)
  else if o.kind = 14 then (p, ⟨0, p.steps, 0, []⟩)
  else if o.kind = 15 then ({ p with steps := 0 }, AnsD.zero)
  else if o.kind = 16 then (p, ⟨0, 0, 0, p.show⟩)
  else if o.kind = 17 then (p, ⟨0, 0, 1, []⟩)
  else (p, AnsD.zero)
theorem dom_res (tmps : Array Value) (w : World) (b : Nat) (x y z u : Value) (hp : tmps.getD 7 undef = .pointer (some ⟨b, 0, none⟩)) (hb : Has w b #[x, y, z, u] 46) :
    (results Tryz.f13 tmps).run Tryz.prog w = .ok (.tuple #[tmps.getD 6 undef, .agg #[x, y, z, u]]) w := by
  rw [results_tmp_cell (p := 7) (u := 6) (ty := 46) rfl]
  rw [hp]
  simp only [asAddr, Sem.run_pure, Result.andThen_ok]
  obtain ⟨fs, hu⟩ : ∃ fs, Tryz.prog.underlying 46 = some (.struct fs) := by
    have hk : (match Tryz.prog.underlying 46 with | some (.struct _) => true | _ => false) = true := by kernel_rfl
    split at hk
    · rename_i fs he
      exact ⟨fs, he⟩
    · cases hk
  rw [run_loadVar_row w b 46 46 #[x, y, z, u] _ _ hb hu rfl (by kernel_rfl)]
  rfl
theorem ProgOk.clM {p : ProgD} (h : ProgOk p) {S : Nat → Prop} {w : World} {bp : Nat} {L : MPL} {srcs : List (List Ins)} (hr : MProg S w bp L p srcs) : p.codes.length ≤ 1000 ∧ (∀ c ∈ p.codes, c.length ≤ 1000) := by
  have := h.sh.nf
  refine ⟨by rw [hr.cl]; omega, fun c hc => ?_⟩
  have := h.sh.nc c hc
  omega
structure DoMPost (Sp : Nat → Prop) (w : World) (bp : Nat) (r : ProgD × AnsD) (e : Ending) (w' : World) : Prop where
  out : ∃ bp' Lp' Sp' srcs', e = .returned (.tuple #[.pointer (some ⟨bp', 0, none⟩), r.2.val]) ∧ MProg Sp' w' bp' Lp' r.1 srcs' ∧ (∀ k, Sp' k → (Sp k ∨ w.heap.size ≤ k) ∧ k < w'.heap.size)
  fr : Fr (fun k => k = bp) w w'
theorem DoMPost.same {Sp : Nat → Prop} {w w' : World} {bp : Nat} {L : MPL} {p : ProgD} {srcs : List (List Ins)} {a : AnsD} (hS : ∀ k, Sp k → k < w.heap.size) (hr : MProg Sp w' bp L p srcs) (hF : Fr (fun k => k = bp) w w') : DoMPost Sp w bp (p, a) (.returned (.tuple #[.pointer (some ⟨bp, 0, none⟩), a.val])) w' :=
  ⟨⟨bp, L, Sp, srcs, rfl, hr, fun k hk => ⟨.inl hk, by have := hS k hk; have := hF.size; omega⟩⟩, hF⟩
section
variable (Sp : Nat → Prop) (bp : Nat) (L : MPL) (p : ProgD) (srcs : List (List Ins)) (m : ModD) (bb : Nat) (o : OpD) (w : World)
set_option maxRecDepth 100000
set_option maxHeartbeats 4000000
theorem dom_steps (hk : o.kind = 14) (h : MProg Sp w bp L p srcs) (hS : ∀ k, Sp k → k < w.heap.size) :
    Calls Tryz.prog 13 #[.pointer (some ⟨bp, 0, none⟩), .pointer (some ⟨bb, 0, none⟩), o.val] w (DoMPost Sp w bp (domP p m o)) := by
  have e0 : domP p m o = (p, ⟨0, p.steps, 0, []⟩) := by unfold domP; rw [if_neg (by omega), if_neg (by omega), if_neg (by omega), if_neg (by omega), if_pos hk]
  rw [e0]
  obtain ⟨W, hW, F0, kA, kO⟩ := do_world o w
  obtain ⟨kind, oa, ob, oc, os, ot⟩ := o
  simp only at hk hW kO ⊢
  subst hk
  unfold OpD.val
  simp only
  have hblt := h.here.lt
  have R0 := h.fresh F0
  have HK : Hid (Has W (w.heap.size + 1) #[.int .i64 0, .int .i64 0, .int .i64 0, .string ⟨#[]⟩] 46) := kA
  have HKO : Hid (Has W w.heap.size #[.int .i64 14, .int .i64 oa, .int .i64 ob, .int .i64 oc, sv os, sv ot] 43) := kO
  have HR : Hid (MProg Sp W bp L p srcs) := R0
  have HF : Hid (Fr (fun k => k = bp) w W) := F0.weaken (fun _ _ h => h.elim)
  clear e0 h kA kO R0
  have HC : Hid (Calls _ _ _ _ _) := msteps_any Sp bp L p srcs W HR.out
  rw [hW] at HC
  go_enter Tryz.func13, Tryz.ntmps13
  go_wp2_with fail
  refine HC.out.mono ?_
  rintro e w1 ⟨rfl, hw1⟩
  rw [← hW] at hw1
  subst hw1
  clear HC hW
  have x0 := HK.out.cell 0
  have x1 := HK.out.cell 1
  have x2 := HK.out.cell 2
  have x3 := HK.out.cell 3
  simp at x0 x1 x2 x3
  have y0 := HK.out.frozen 0
  have y1 := HK.out.frozen 1
  have y2 := HK.out.frozen 2
  have y3 := HK.out.frozen 3
  have yl := HK.out.lt
  go_wp2
  (try simp only [Exit.inBlock, Exit.then])
  obtain ⟨g1, g2⟩ := HK.out.put4 (.int .i64 0) (.int .i64 p.steps) (.int .i64 0) (.string ⟨#[]⟩)
  refine bodyPost_ret (dom_res _ _ (w.heap.size + 1) _ _ _ _ rfl g1) rfl ?_
  exact DoMPost.same (a := ⟨0, p.steps, 0, []⟩) hS (HR.out.fr g2 (fun k hk hs e => by have := hS k hs; omega)) (HF.out.trans g2 (fun j hj e => by omega))
theorem dom_mark (hk : o.kind = 15) (h : MProg Sp w bp L p srcs) (hS : ∀ k, Sp k → k < w.heap.size) :
    Calls Tryz.prog 13 #[.pointer (some ⟨bp, 0, none⟩), .pointer (some ⟨bb, 0, none⟩), o.val] w (DoMPost Sp w bp (domP p m o)) := by
  have e0 : domP p m o = ({ p with steps := 0 }, AnsD.zero) := by unfold domP; rw [if_neg (by omega), if_neg (by omega), if_neg (by omega), if_neg (by omega), if_neg (by omega), if_pos hk]
  rw [e0]
  obtain ⟨W, hW, F0, kA, kO⟩ := do_world o w
  obtain ⟨kind, oa, ob, oc, os, ot⟩ := o
  simp only at hk hW kO ⊢
  subst hk
  unfold OpD.val
  simp only
  have hblt := h.here.lt
  have R0 := h.fresh F0
  have HK : Hid (Has W (w.heap.size + 1) #[.int .i64 0, .int .i64 0, .int .i64 0, .string ⟨#[]⟩] 46) := kA
  have HKO : Hid (Has W w.heap.size #[.int .i64 15, .int .i64 oa, .int .i64 ob, .int .i64 oc, sv os, sv ot] 43) := kO
  have HR : Hid (MProg Sp W bp L p srcs) := R0
  have HF : Hid (Fr (fun k => k = bp) w W) := F0.weaken (fun _ _ h => h.elim)
  clear e0 h kA kO R0
  have HC : Hid (Calls _ _ _ _ _) := mmark_any Sp bp L p srcs W HR.out
  rw [hW] at HC
  go_enter Tryz.func13, Tryz.ntmps13
  go_wp2_with fail
  refine HC.out.mono ?_
  rintro e w1 ⟨rfl, g1, g2⟩
  rw [← hW] at g2
  have HK1 : Hid (Has w1 (w.heap.size + 1) _ _) := HK.out.fr g2 (fun e => by omega)
  have HR1 : Hid (MProg Sp w1 bp L _ srcs) := g1
  have HF1 : Hid (Fr (fun k => k = bp) w w1) := HF.out.trans g2 (fun _ _ h => h)
  clear HC hW g1 g2 HK HR HF HKO
  have x0 := HK1.out.cell 0
  have x1 := HK1.out.cell 1
  have x2 := HK1.out.cell 2
  have x3 := HK1.out.cell 3
  simp at x0 x1 x2 x3
  have y0 := HK1.out.frozen 0
  have y1 := HK1.out.frozen 1
  have y2 := HK1.out.frozen 2
  have y3 := HK1.out.frozen 3
  have yl := HK1.out.lt
  go_wp2
  (try simp only [Exit.inBlock, Exit.then])
  obtain ⟨g1, g2⟩ := HK1.out.put4 (.int .i64 0) (.int .i64 0) (.int .i64 0) (.string ⟨#[]⟩)
  refine bodyPost_ret (dom_res _ _ (w.heap.size + 1) _ _ _ _ rfl g1) rfl ?_
  exact DoMPost.same (a := AnsD.zero) hS (HR1.out.fr g2 (fun k hk hs e => by have := hS k hs; omega)) (HF1.out.trans g2 (fun j hj e => by omega))
theorem dom_show (hk : o.kind = 16) (h : MProg Sp w bp L p srcs) (hS : ∀ k, Sp k → k < w.heap.size) (ho : ProgOk p) :
    Calls Tryz.prog 13 #[.pointer (some ⟨bp, 0, none⟩), .pointer (some ⟨bb, 0, none⟩), o.val] w (DoMPost Sp w bp (domP p m o)) := by
  have e0 : domP p m o = (p, ⟨0, 0, 0, p.show⟩) := by unfold domP; rw [if_neg (by omega), if_neg (by omega), if_neg (by omega), if_neg (by omega), if_neg (by omega), if_neg (by omega), if_pos hk]
  rw [e0]
  obtain ⟨W, hW, F0, kA, kO⟩ := do_world o w
  obtain ⟨kind, oa, ob, oc, os, ot⟩ := o
  simp only at hk hW kO ⊢
  subst hk
  unfold OpD.val
  simp only
  have hblt := h.here.lt
  have R0 := h.fresh F0
  have HK : Hid (Has W (w.heap.size + 1) #[.int .i64 0, .int .i64 0, .int .i64 0, .string ⟨#[]⟩] 46) := kA
  have HKO : Hid (Has W w.heap.size #[.int .i64 16, .int .i64 oa, .int .i64 ob, .int .i64 oc, sv os, sv ot] 43) := kO
  have HR : Hid (MProg Sp W bp L p srcs) := R0
  have HF : Hid (Fr (fun k => k = bp) w W) := F0.weaken (fun _ _ h => h.elim)
  clear e0 h kA kO R0
  have HC : Hid (Calls _ _ _ _ _) := mshow_any Sp bp L p srcs W HR.out ho.sh
  rw [hW] at HC
  go_enter Tryz.func13, Tryz.ntmps13
  go_wp2_with fail
  refine HC.out.mono ?_
  rintro e w1 ⟨T, rfl, HT, g2⟩
  rw [← hW] at g2
  have HK1 : Hid (Has w1 (w.heap.size + 1) _ _) := HK.out.fr g2 (fun h => h)
  have HR1 : Hid (MProg Sp w1 bp L _ srcs) := HR.out.fresh g2
  have HF1 : Hid (Fr (fun k => k = bp) w w1) := HF.out.trans g2 (fun _ _ h => h.elim)
  clear HC hW g2 HK HR HF HKO
  have x0 := HK1.out.cell 0
  have x1 := HK1.out.cell 1
  have x2 := HK1.out.cell 2
  have x3 := HK1.out.cell 3
  simp at x0 x1 x2 x3
  have y0 := HK1.out.frozen 0
  have y1 := HK1.out.frozen 1
  have y2 := HK1.out.frozen 2
  have y3 := HK1.out.frozen 3
  have yl := HK1.out.lt
  go_wp2
  (try simp only [Exit.inBlock, Exit.then])
  have hT := HT.out
  subst hT
  obtain ⟨g1, g2⟩ := HK1.out.put4 (.int .i64 0) (.int .i64 0) (.int .i64 0) (sv p.show)
  refine bodyPost_ret (dom_res _ _ (w.heap.size + 1) _ _ _ _ rfl g1) rfl ?_
  exact DoMPost.same (a := ⟨0, 0, 0, p.show⟩) hS (HR1.out.fr g2 (fun k hk hs e => by have := hS k hs; omega)) (HF1.out.trans g2 (fun j hj e => by omega))
theorem dom_at (hk : o.kind = 13) (h : MProg Sp w bp L p srcs) (hS : ∀ k, Sp k → k < w.heap.size) (ho : ProgOk p) :
    Calls Tryz.prog 13 #[.pointer (some ⟨bp, 0, none⟩), .pointer (some ⟨bb, 0, none⟩), o.val] w (DoMPost Sp w bp (domP p m o)) := by
  have e0 : domP p m o = ({ p with steps := p.steps + 1 }, ⟨0, 0, 0, flatT (p.at o.a o.b)⟩) := by unfold domP; rw [if_neg (by omega), if_neg (by omega), if_neg (by omega), if_pos hk]
  rw [e0]
  obtain ⟨W, hW, F0, kA, kO⟩ := do_world o w
  obtain ⟨kind, oa, ob, oc, os, ot⟩ := o
  simp only at hk hW kO ⊢
  subst hk
  unfold OpD.val
  simp only
  have hblt := h.here.lt
  have R0 := h.fresh F0
  have HK : Hid (Has W (w.heap.size + 1) #[.int .i64 0, .int .i64 0, .int .i64 0, .string ⟨#[]⟩] 46) := kA
  have HKO : Hid (Has W w.heap.size #[.int .i64 13, .int .i64 oa, .int .i64 ob, .int .i64 oc, sv os, sv ot] 43) := kO
  have HR : Hid (MProg Sp W bp L p srcs) := R0
  have HF : Hid (Fr (fun k => k = bp) w W) := F0.weaken (fun _ _ h => h.elim)
  clear e0 h kA kO R0
  have hs0 := ho.s0
  have hs1 := ho.s1
  have HC : Hid (Calls _ _ _ _ _) := mat_any Sp bp L p srcs oa ob W HR.out (ho.clM HR.out).1 (ho.clM HR.out).2 hs0 (by omega)
  rw [hW] at HC
  generalize p.at oa ob = fl at *
  obtain ⟨f1, f2, f3, f4⟩ := fl
  unfold Flat.val at HC
  simp only at HC
  go_enter Tryz.func13, Tryz.ntmps13
  go_wp2_with fail
  refine HC.out.mono ?_
  rintro e w1 ⟨rfl, g1, g2⟩
  rw [← hW] at g2
  have F1 : Fr (fun _ => False) w1 (w1.alloc (.cells #[.int .i64 f1, .int .i64 f2, .int .i64 f3, .int .i64 f4] 97)) := (Fr.refl _ w1).alloc _
  have HC2 : Hid (Calls _ _ _ _ _) := four_any ⟨f1, f2, f3, f4⟩ (w1.alloc (.cells #[.int .i64 f1, .int .i64 f2, .int .i64 f3, .int .i64 f4] 97))
  unfold Flat.val at HC2
  simp only at HC2
  have HK1 : Hid (Has w1 (w.heap.size + 1) _ _) := HK.out.fr g2 (fun e => by omega)
  have HR1 : Hid (MProg Sp w1 bp L _ srcs) := g1
  have HF1 : Hid (Fr (fun k => k = bp) w w1) := HF.out.trans g2 (fun _ _ h => h)
  have HA1 : Hid (Fr (fun _ => False) w1 _) := F1
  clear HC hW g1 g2 HK HR HF HKO F1
  go_wp2_with fail
  refine HC2.out.mono ?_
  rintro e w2 ⟨T, rfl, HT, g3⟩
  have F2 : Fr (fun _ => False) w1 w2 := HA1.out.trans g3 (fun _ _ h => h)
  have HK2 : Hid (Has w2 (w.heap.size + 1) _ _) := HK1.out.fr F2 (fun h => h)
  have HR2 : Hid (MProg Sp w2 bp L _ srcs) := HR1.out.fresh F2
  have HF2 : Hid (Fr (fun k => k = bp) w w2) := HF1.out.trans F2 (fun _ _ h => h.elim)
  clear HC2 g3 F2 HK1 HR1 HF1 HA1
  have x0 := HK2.out.cell 0
  have x1 := HK2.out.cell 1
  have x2 := HK2.out.cell 2
  have x3 := HK2.out.cell 3
  simp at x0 x1 x2 x3
  have y0 := HK2.out.frozen 0
  have y1 := HK2.out.frozen 1
  have y2 := HK2.out.frozen 2
  have y3 := HK2.out.frozen 3
  have yl := HK2.out.lt
  go_wp2
  (try simp only [Exit.inBlock, Exit.then])
  have hT := HT.out
  subst hT
  obtain ⟨g1, g2⟩ := HK2.out.put4 (.int .i64 0) (.int .i64 0) (.int .i64 0) (sv (flatT ⟨f1, f2, f3, f4⟩))
  refine bodyPost_ret (dom_res _ _ (w.heap.size + 1) _ _ _ _ rfl g1) rfl ?_
  exact DoMPost.same (a := ⟨0, 0, 0, flatT ⟨f1, f2, f3, f4⟩⟩) hS (HR2.out.fr g2 (fun k hk hs e => by have := hS k hs; omega)) (HF2.out.trans g2 (fun j hj e => by omega))
theorem dom_other (n7 : o.kind ≠ 7) (n8 : o.kind ≠ 8) (n10 : o.kind ≠ 10) (n13 : o.kind ≠ 13) (n14 : o.kind ≠ 14) (n15 : o.kind ≠ 15) (n16 : o.kind ≠ 16) (n17 : o.kind ≠ 17) (h : MProg Sp w bp L p srcs) (hS : ∀ k, Sp k → k < w.heap.size) :
    Calls Tryz.prog 13 #[.pointer (some ⟨bp, 0, none⟩), .pointer (some ⟨bb, 0, none⟩), o.val] w (DoMPost Sp w bp (domP p m o)) := by
  have e0 : domP p m o = (p, AnsD.zero) := by unfold domP; rw [if_neg n7, if_neg n8, if_neg n10, if_neg n13, if_neg n14, if_neg n15, if_neg n16, if_neg n17]
  rw [e0]
  obtain ⟨W, hW, F0, kA, kO⟩ := do_world o w
  obtain ⟨kind, oa, ob, oc, os, ot⟩ := o
  simp only at n7 n8 n10 n13 n14 n15 n16 n17 hW kO
  unfold OpD.val
  simp only
  have b7 := beq_eq_false_iff_ne.2 n7
  have b8 := beq_eq_false_iff_ne.2 n8
  have b10 := beq_eq_false_iff_ne.2 n10
  have b13 := beq_eq_false_iff_ne.2 n13
  have b14 := beq_eq_false_iff_ne.2 n14
  have b15 := beq_eq_false_iff_ne.2 n15
  have b16 := beq_eq_false_iff_ne.2 n16
  have b17 := beq_eq_false_iff_ne.2 n17
  have FIN := DoMPost.same (a := AnsD.zero) hS (h.fresh F0) (F0.weaken (fun _ _ h => h.elim))
  have HFIN : Hid (DoMPost _ _ _ _ _ _) := FIN
  have HK : Hid (Has W (w.heap.size + 1) #[.int .i64 0, .int .i64 0, .int .i64 0, .string ⟨#[]⟩] 46) := kA
  rw [hW] at HFIN HK
  clear e0 h kA kO F0 hW FIN n7 n8 n10 n13 n14 n15 n16 n17
  go_enter Tryz.func13, Tryz.ntmps13
  go_wp2
  (try simp only [Exit.inBlock, Exit.then])
  refine bodyPost_ret (dom_res _ _ (w.heap.size + 1) _ _ _ _ rfl HK.out) rfl ?_
  exact HFIN.out
theorem dom_sig (hk : o.kind = 10) (h : MProg Sp w bp L p srcs) (hS : ∀ k, Sp k → k < w.heap.size) (ho : ProgOk p) :
    Calls Tryz.prog 13 #[.pointer (some ⟨bp, 0, none⟩), .pointer (some ⟨bb, 0, none⟩), o.val] w (DoMPost Sp w bp (domP p m o)) := by
  have e0 : domP p m o = (p, ⟨0, p.nimp, if (p.sig o.a).2 then 1 else 0, sigT p o.a⟩) := by unfold domP; rw [if_neg (by omega), if_neg (by omega), if_pos hk]
  rw [e0]
  obtain ⟨W, hW, F0, kA, kO⟩ := do_world o w
  obtain ⟨kind, oa, ob, oc, os, ot⟩ := o
  simp only at hk hW kO ⊢
  subst hk
  unfold OpD.val
  simp only
  have hblt := h.here.lt
  have R0 := h.fresh F0
  have HK : Hid (Has W (w.heap.size + 1) #[.int .i64 0, .int .i64 0, .int .i64 0, .string ⟨#[]⟩] 46) := kA
  have HKO : Hid (Has W w.heap.size #[.int .i64 10, .int .i64 oa, .int .i64 ob, .int .i64 oc, sv os, sv ot] 43) := kO
  have HR : Hid (MProg Sp W bp L p srcs) := R0
  have HF : Hid (Fr (fun k => k = bp) w W) := F0.weaken (fun _ _ h => h.elim)
  clear e0 h kA kO R0
  have hsl : (p.sig oa).1.params.length ≤ 10 ∧ (p.sig oa).1.results.length ≤ 10 ∧ (p.sig oa).1.locals.length ≤ 10 := sig_len ho.sh oa
  have hnf := ho.sh.nf
  have HC : Hid (Calls _ _ _ _ _) := msig_any Sp bp L p srcs W oa HR.out (by omega)
  rw [hW] at HC
  have HSG : Hid (∀ x : List UInt8, x = (p.sig oa).1.params ++ ([62] ++ ((p.sig oa).1.results ++ ([43] ++ ((p.sig oa).1.locals ++ [32])))) → sigT p oa = x ++ numT p.min ++ numT p.max) := fun x hx => by rw [hx]; rfl
  generalize p.sig oa = sg at *
  obtain ⟨⟨sp, sr, sl⟩, sb⟩ := sg
  simp only at HC hsl HSG ⊢
  obtain ⟨l1, l2, l3⟩ := hsl
  obtain ⟨ST, hST⟩ : ∃ ST, ST = sigT p oa := ⟨_, rfl⟩
  have HST : Hid (ST = sigT p oa) := hST
  rw [← hST]
  have e7 := ba_app7 sp sr sl
  obtain ⟨Y, hY, hYl⟩ : ∃ Y, sp ++ ([62] ++ (sr ++ ([43] ++ (sl ++ [32])))) = Y ∧ Y.length ≤ 40 := ⟨_, rfl, by simp; omega⟩
  rw [hY] at e7
  have HY : Hid (Y = sp ++ ([62] ++ (sr ++ ([43] ++ (sl ++ [32]))))) := hY.symm
  clear hST hY
  cases sb
  · go_enter Tryz.func13, Tryz.ntmps13
    go_wp2_with fail
    refine HC.out.mono ?_
    rintro e w1 ⟨rfl, n1, hw1⟩
    rw [← hW] at hw1
    have F1 : Fr (fun _ => False) W w1 := by rw [hw1]; exact (Fr.refl _ W).drewN n1
    have R1 := HR.out.fresh F1
    have HC2 : Hid (Calls _ _ _ _ _) := mpmem_any Sp bp L p srcs w1 R1
    have HF1 : Hid (Fr (fun _ => False) W w1) := F1
    clear HC hw1 F1 R1
    go_wp2_with fail
    refine HC2.out.mono ?_
    rintro e w2 ⟨rfl, n2, hw2⟩
    have HF2 : Hid (Fr (fun _ => False) W w2) := by rw [hw2]; exact HF1.out.drewN n2
    have HC3 : Hid (Calls _ _ _ _ _) := num_named Y p.min w2 (by omega)
    clear hw2 HC2 HF1
    go_wp2_with fail
    refine HC3.out.mono ?_
    rintro e w3 ⟨T1, rfl, HT1, m1, hF3⟩
    have HF3 : Hid (Fr (fun _ => False) W w3) := HF2.out.trans hF3 (fun _ _ h => h)
    have HC4 : Hid (Calls _ _ _ _ _) := num_named T1 p.max w3 (by omega)
    clear hF3 HC3 HF2
    go_wp2_with fail
    refine HC4.out.mono ?_
    rintro e w4 ⟨T2, rfl, HT2, m2, hF4⟩
    have HF4 : Hid (Fr (fun _ => False) W w4) := HF3.out.trans hF4 (fun _ _ h => h)
    have HC5 : Hid (Calls _ _ _ _ _) := truth_any false w4
    clear hF4 HC4 HF3
    go_wp2_with fail
    refine HC5.out.mono ?_
    rintro e w5 ⟨rfl, hw5⟩
    subst hw5
    have R5 := HR.out.fresh HF4.out
    have HC6 : Hid (Calls _ _ _ _ _) := mpnimports_any Sp bp L p srcs w5 R5
    clear HC5
    go_wp2_with fail
    refine HC6.out.mono ?_
    rintro e w6 ⟨rfl, hw6⟩
    subst hw6
    have HK1 : Hid (Has w6 (w.heap.size + 1) _ _) := HK.out.fr HF4.out (fun h => h)
    have HR1 : Hid (MProg Sp w6 bp L _ srcs) := R5
    have HF5 : Hid (Fr (fun k => k = bp) w w6) := HF.out.trans HF4.out (fun _ _ h => h.elim)
    clear HC6 hW HK HR HF HKO R5 HF4
    have x0 := HK1.out.cell 0
    have x1 := HK1.out.cell 1
    have x2 := HK1.out.cell 2
    have x3 := HK1.out.cell 3
    simp at x0 x1 x2 x3
    have y0 := HK1.out.frozen 0
    have y1 := HK1.out.frozen 1
    have y2 := HK1.out.frozen 2
    have y3 := HK1.out.frozen 3
    have yl := HK1.out.lt
    go_wp2
    (try simp only [Exit.inBlock, Exit.then])
    have hT : T2 = ST := by rw [HT2.out, HT1.out, HST.out, HSG.out Y HY.out]
    subst hT
    obtain ⟨g1, g2⟩ := HK1.out.put4 (.int .i64 0) (.int .i64 p.nimp) (.int .i64 0) (sv T2)
    refine bodyPost_ret (dom_res _ _ (w.heap.size + 1) _ _ _ _ rfl g1) rfl ?_
    exact DoMPost.same (a := ⟨0, p.nimp, 0, T2⟩) hS (HR1.out.fr g2 (fun k hk hs e => by have := hS k hs; omega)) (HF5.out.trans g2 (fun j hj e => by omega))
  · go_enter Tryz.func13, Tryz.ntmps13
    go_wp2_with fail
    refine HC.out.mono ?_
    rintro e w1 ⟨rfl, n1, hw1⟩
    rw [← hW] at hw1
    have F1 : Fr (fun _ => False) W w1 := by rw [hw1]; exact (Fr.refl _ W).drewN n1
    have R1 := HR.out.fresh F1
    have HC2 : Hid (Calls _ _ _ _ _) := mpmem_any Sp bp L p srcs w1 R1
    have HF1 : Hid (Fr (fun _ => False) W w1) := F1
    clear HC hw1 F1 R1
    go_wp2_with fail
    refine HC2.out.mono ?_
    rintro e w2 ⟨rfl, n2, hw2⟩
    have HF2 : Hid (Fr (fun _ => False) W w2) := by rw [hw2]; exact HF1.out.drewN n2
    have HC3 : Hid (Calls _ _ _ _ _) := num_named Y p.min w2 (by omega)
    clear hw2 HC2 HF1
    go_wp2_with fail
    refine HC3.out.mono ?_
    rintro e w3 ⟨T1, rfl, HT1, m1, hF3⟩
    have HF3 : Hid (Fr (fun _ => False) W w3) := HF2.out.trans hF3 (fun _ _ h => h)
    have HC4 : Hid (Calls _ _ _ _ _) := num_named T1 p.max w3 (by omega)
    clear hF3 HC3 HF2
    go_wp2_with fail
    refine HC4.out.mono ?_
    rintro e w4 ⟨T2, rfl, HT2, m2, hF4⟩
    have HF4 : Hid (Fr (fun _ => False) W w4) := HF3.out.trans hF4 (fun _ _ h => h)
    have HC5 : Hid (Calls _ _ _ _ _) := truth_any true w4
    clear hF4 HC4 HF3
    go_wp2_with fail
    refine HC5.out.mono ?_
    rintro e w5 ⟨rfl, hw5⟩
    subst hw5
    have R5 := HR.out.fresh HF4.out
    have HC6 : Hid (Calls _ _ _ _ _) := mpnimports_any Sp bp L p srcs w5 R5
    clear HC5
    go_wp2_with fail
    refine HC6.out.mono ?_
    rintro e w6 ⟨rfl, hw6⟩
    subst hw6
    have HK1 : Hid (Has w6 (w.heap.size + 1) _ _) := HK.out.fr HF4.out (fun h => h)
    have HR1 : Hid (MProg Sp w6 bp L _ srcs) := R5
    have HF5 : Hid (Fr (fun k => k = bp) w w6) := HF.out.trans HF4.out (fun _ _ h => h.elim)
    clear HC6 hW HK HR HF HKO R5 HF4
    have x0 := HK1.out.cell 0
    have x1 := HK1.out.cell 1
    have x2 := HK1.out.cell 2
    have x3 := HK1.out.cell 3
    simp at x0 x1 x2 x3
    have y0 := HK1.out.frozen 0
    have y1 := HK1.out.frozen 1
    have y2 := HK1.out.frozen 2
    have y3 := HK1.out.frozen 3
    have yl := HK1.out.lt
    go_wp2
    (try simp only [Exit.inBlock, Exit.then])
    have hT : T2 = ST := by rw [HT2.out, HT1.out, HST.out, HSG.out Y HY.out]
    subst hT
    obtain ⟨g1, g2⟩ := HK1.out.put4 (.int .i64 0) (.int .i64 p.nimp) (.int .i64 1) (sv T2)
    refine bodyPost_ret (dom_res _ _ (w.heap.size + 1) _ _ _ _ rfl g1) rfl ?_
    exact DoMPost.same (a := ⟨0, p.nimp, 1, T2⟩) hS (HR1.out.fr g2 (fun k hk hs e => by have := hS k hs; omega)) (HF5.out.trans g2 (fun j hj e => by omega))
theorem dom_check (hk : o.kind = 17) (h : MProg Sp w bp L p srcs) (hS : ∀ k, Sp k → k < w.heap.size) :
    Calls Tryz.prog 13 #[.pointer (some ⟨bp, 0, none⟩), .pointer (some ⟨bb, 0, none⟩), o.val] w (DoMPost Sp w bp (domP p m o)) := by
  have e0 : domP p m o = (p, ⟨0, 0, 1, []⟩) := by unfold domP; rw [if_neg (by omega), if_neg (by omega), if_neg (by omega), if_neg (by omega), if_neg (by omega), if_neg (by omega), if_neg (by omega), if_pos hk]
  rw [e0]
  obtain ⟨kind, oa, ob, oc, os, ot⟩ := o
  simp only at hk ⊢
  subst hk
  unfold OpD.val
  simp only
  have hA : Has ((w.alloc (.cells #[.int .i64 17, .int .i64 oa, .int .i64 ob, .int .i64 oc, .string ⟨os.toArray⟩, .string ⟨ot.toArray⟩] 43)).alloc (.cells #[.int .i64 0, .int .i64 0, .int .i64 1, .string ⟨#[]⟩] 46)) (w.heap.size + 1) #[.int .i64 0, .int .i64 0, .int .i64 1, .string ⟨#[]⟩] 46 := by
    have := Has.new (w.alloc (.cells #[.int .i64 17, .int .i64 oa, .int .i64 ob, .int .i64 oc, .string ⟨os.toArray⟩, .string ⟨ot.toArray⟩] 43)) #[.int .i64 0, .int .i64 0, .int .i64 1, .string ⟨#[]⟩] 46
    simpa using this
  have HA : Hid (Has _ (w.heap.size + 1) _ _) := hA
  have F0 : Fr (fun _ => False) w ((w.alloc (.cells #[.int .i64 17, .int .i64 oa, .int .i64 ob, .int .i64 oc, .string ⟨os.toArray⟩, .string ⟨ot.toArray⟩] 43)).alloc (.cells #[.int .i64 0, .int .i64 0, .int .i64 1, .string ⟨#[]⟩] 46)) := ((Fr.refl _ w).alloc _).alloc _
  have HFIN : Hid (DoMPost Sp w bp (p, ⟨0, 0, 1, []⟩) _ _) := DoMPost.same (a := ⟨0, 0, 1, []⟩) hS (h.fresh F0) (F0.weaken (fun _ _ h => h.elim))
  clear e0 h hA F0
  go_enter Tryz.func13, Tryz.ntmps13
  go_wp2
  (try simp only [Exit.inBlock, Exit.then])
  refine bodyPost_ret (dom_res _ _ (w.heap.size + 1) _ _ _ _ rfl HA.out) rfl ?_
  exact HFIN.out
theorem mnew_nil (w : World) : Calls Tryz.prog 10 #[.pointer none] w fun e w' => e = .returned (.tuple #[.pointer none, .int .i64 7, .int .i64 0, .int .i64 0]) ∧ w' = w := by
  go_enter Tryz.func10, Tryz.ntmps10
  go_wp2
  (try simp only [Exit.inBlock, Exit.then])
  refine bodyPost_ret (results_tmp4 rfl _ _ _) rfl ?_
  exact ⟨rfl, rfl⟩
theorem dom_nil (hk : o.kind = 8) (h : MProg Sp w bp L p srcs) (hS : ∀ k, Sp k → k < w.heap.size) :
    Calls Tryz.prog 13 #[.pointer (some ⟨bp, 0, none⟩), .pointer (some ⟨bb, 0, none⟩), o.val] w (DoMPost Sp w bp (domP p m o)) := by
  have e0 : domP p m o = (p, ⟨7, 0, 0, []⟩) := by unfold domP; rw [if_neg (by omega), if_pos hk]
  rw [e0]
  obtain ⟨W, hW, F0, kA, kO⟩ := do_world o w
  obtain ⟨kind, oa, ob, oc, os, ot⟩ := o
  simp only at hk hW kO ⊢
  subst hk
  unfold OpD.val
  simp only
  have R0 := h.fresh F0
  have HK : Hid (Has W (w.heap.size + 1) #[.int .i64 0, .int .i64 0, .int .i64 0, .string ⟨#[]⟩] 46) := kA
  have HR : Hid (MProg Sp W bp L p srcs) := R0
  have HF : Hid (Fr (fun k => k = bp) w W) := F0.weaken (fun _ _ h => h.elim)
  clear e0 h kA kO R0
  have HC : Hid (Calls _ _ _ _ _) := mnew_nil W
  rw [hW] at HC
  go_enter Tryz.func13, Tryz.ntmps13
  go_wp2_with fail
  refine HC.out.mono ?_
  rintro e w1 ⟨rfl, hw1⟩
  rw [← hW] at hw1
  subst hw1
  clear HC hW
  have x0 := HK.out.cell 0
  have x1 := HK.out.cell 1
  have x2 := HK.out.cell 2
  have x3 := HK.out.cell 3
  simp at x0 x1 x2 x3
  have y0 := HK.out.frozen 0
  have y1 := HK.out.frozen 1
  have y2 := HK.out.frozen 2
  have y3 := HK.out.frozen 3
  have yl := HK.out.lt
  go_wp2
  (try simp only [Exit.inBlock, Exit.then])
  obtain ⟨g1, g2⟩ := HK.out.put4 (.int .i64 7) (.int .i64 0) (.int .i64 0) (.string ⟨#[]⟩)
  refine bodyPost_ret (dom_res _ _ (w.heap.size + 1) _ _ _ _ rfl g1) rfl ?_
  exact DoMPost.same (a := ⟨7, 0, 0, []⟩) hS (HR.out.fr g2 (fun k hk hs e => by have := hS k hs; omega)) (HF.out.trans g2 (fun j hj e => by omega))
/-- what New asks of the ground's module -/
structure ModM (m : ModD) : Prop where
  ok : ModOk m
  body : ∀ f, m.imports.length ≤ f → f < m.nall → MBodyOk (m.env f) (m.body f)
  tab : ∀ fn ∈ m.funcs, ∀ c ∈ fn.code, c.tab.length ≤ 100
theorem dom_new (hk : o.kind = 7) (h : MProg Sp w bp L p srcs) (hS : ∀ k, Sp k → k < w.heap.size) (Sb : Nat → Prop) (K : BelL) (x : BelD) (hb : BelRep Sb w bb K x) (hSb : ∀ k, Sb k → k < w.heap.size) (hm : ModM x.m) :
    Calls Tryz.prog 13 #[.pointer (some ⟨bp, 0, none⟩), .pointer (some ⟨bb, 0, none⟩), o.val] w (DoMPost Sp w bp (domP p x.m o)) := by
  have e0 : domP p x.m o = (if x.m.loadM.2.2 = 0 then (x.m.progM, AnsD.zero) else (p, ⟨x.m.loadM.2.2, x.m.loadM.1, x.m.loadM.2.1, []⟩)) := by unfold domP; rw [if_pos hk]
  rw [e0]
  generalize hrr : (if x.m.loadM.2.2 = 0 then (x.m.progM, AnsD.zero) else (p, ⟨x.m.loadM.2.2, x.m.loadM.1, x.m.loadM.2.1, []⟩)) = rr
  have HRR : Hid (_ = rr) := hrr
  clear hrr e0
  obtain ⟨W, hW, F0, kA, kO⟩ := do_world o w
  obtain ⟨kind, oa, ob, oc, os, ot⟩ := o
  simp only at hk hW kO ⊢
  subst hk
  unfold OpD.val
  simp only
  have c0 := hb.here.cell 0
  simp at c0
  have hbl := hb.here.lt
  have hb1 : bb < w.heap.size + 1 := by omega
  have hb2 : bb < w.heap.size + 1 + 1 := by omega
  have hszW := F0.size
  have HB := hb.newer F0
  have HC : Hid (Calls _ _ _ _ _) := mnew_any _ K.bm K.L x.m W HB.mod (fun k hk => by have := hSb k hk.1; omega) hm.ok hm.body hm.tab
  rw [hW] at HC
  have HK : Hid (Has W (w.heap.size + 1) #[.int .i64 0, .int .i64 0, .int .i64 0, .string ⟨#[]⟩] 46) := kA
  have HR : Hid (MProg Sp W bp L p srcs) := h.fresh F0
  have HF0 : Hid (Fr (fun _ => False) w W) := F0
  clear h kA kO HB hb F0
  go_enter Tryz.func13, Tryz.ntmps13
  go_wp2_with fail
  refine HC.out.mono ?_
  rintro e w1 hp
  rw [← hW] at hp
  have HP : Hid (MNewPost x.m W e w1) := hp
  clear hp HC hW c0 hb1 hb2
  have HK1 : Hid (Has w1 (w.heap.size + 1) #[.int .i64 0, .int .i64 0, .int .i64 0, .string ⟨#[]⟩] 46) := HK.out.fr HP.out.fr id
  have HR1 : Hid (MProg Sp w1 bp L p srcs) := HR.out.fresh HP.out.fr
  have HF1 : Hid (Fr (fun _ => False) w w1) := HF0.out.trans HP.out.fr (fun _ _ h => h)
  have x0 := HK1.out.cell 0
  have x1 := HK1.out.cell 1
  have x2 := HK1.out.cell 2
  have x3 := HK1.out.cell 3
  simp at x0 x1 x2 x3
  have y0 := HK1.out.frozen 0
  have y1 := HK1.out.frozen 1
  have y2 := HK1.out.frozen 2
  have y3 := HK1.out.frozen 3
  have yl := HK1.out.lt
  by_cases hz : x.m.loadM.2.2 = 0
  · have hrr := HRR.out
    rw [if_pos hz] at hrr
    subst hrr
    obtain ⟨bq, Lq, srq, rfl, hq⟩ := HP.out.good hz
    have HQ : Hid (MProg (fun k => W.heap.size ≤ k) w1 bq Lq x.m.progM srq) := hq
    clear hq HR1 HP HRR
    go_wp2
    (try simp only [Exit.inBlock, Exit.then])
    obtain ⟨g1, g2⟩ := HK1.out.put4 (.int .i64 0) (.int .i64 0) (.int .i64 0) (.string ⟨#[]⟩)
    refine bodyPost_ret (dom_res _ _ (w.heap.size + 1) _ _ _ _ rfl g1) rfl ?_
    have hkW := HK.out.lt
    refine ⟨⟨bq, Lq, fun k => W.heap.size ≤ k ∧ k < w1.heap.size, srq, rfl, (HQ.out.fr g2 (fun k _ hk e => by omega)).sub (fun k hk h => ⟨h, by simpa [World.setCell] using hk⟩), fun k hk => ⟨.inr (by have := HF0.out.size; omega), by have := g2.size; omega⟩⟩, ?_⟩
    exact (HF1.out.weaken (fun _ _ h => h.elim)).trans g2 (fun j hj e => by omega)
  · have hrr := HRR.out
    rw [if_neg hz] at hrr
    subst hrr
    have he := HP.out.bad hz
    subst he
    have hzb : (x.m.loadM.2.2 == 0) = false := beq_eq_false_iff_ne.2 hz
    clear HP HRR
    generalize x.m.loadM = lm at *
    obtain ⟨l1, l2, l3⟩ := lm
    simp only at hzb hz ⊢
    go_wp2
    (try simp only [Exit.inBlock, Exit.then])
    obtain ⟨g1, g2⟩ := HK1.out.put4 (.int .i64 l3) (.int .i64 l1) (.int .i64 l2) (.string ⟨#[]⟩)
    refine bodyPost_ret (dom_res _ _ (w.heap.size + 1) _ _ _ _ rfl g1) rfl ?_
    exact DoMPost.same (a := ⟨l3, l1, l2, []⟩) hS (HR1.out.fr g2 (fun k hk hs e => by have := hS k hs; omega)) ((HF1.out.weaken (fun _ _ h => h.elim)).trans g2 (fun j hj e => by omega))
theorem dom_any (Sb : Nat → Prop) (K : BelL) (x : BelD) (h : MProg Sp w bp L p srcs) (hS : ∀ k, Sp k → k < w.heap.size) (ho : ProgOk p) (hb : BelRep Sb w bb K x) (hSb : ∀ k, Sb k → k < w.heap.size) (hm : ModM x.m) :
    Calls Tryz.prog 13 #[.pointer (some ⟨bp, 0, none⟩), .pointer (some ⟨bb, 0, none⟩), o.val] w (DoMPost Sp w bp (domP p x.m o)) := by
  by_cases n7 : o.kind = 7
  · exact dom_new Sp bp L p srcs bb o w n7 h hS Sb K x hb hSb hm
  by_cases n8 : o.kind = 8
  · exact dom_nil Sp bp L p srcs x.m bb o w n8 h hS
  by_cases n10 : o.kind = 10
  · exact dom_sig Sp bp L p srcs x.m bb o w n10 h hS ho
  by_cases n13 : o.kind = 13
  · exact dom_at Sp bp L p srcs x.m bb o w n13 h hS ho
  by_cases n14 : o.kind = 14
  · exact dom_steps Sp bp L p srcs x.m bb o w n14 h hS
  by_cases n15 : o.kind = 15
  · exact dom_mark Sp bp L p srcs x.m bb o w n15 h hS
  by_cases n16 : o.kind = 16
  · exact dom_show Sp bp L p srcs x.m bb o w n16 h hS ho
  by_cases n17 : o.kind = 17
  · exact dom_check Sp bp L p srcs x.m bb o w n17 h hS
  exact dom_other Sp bp L p srcs x.m bb o w n7 n8 n10 n13 n14 n15 n16 n17 h hS
end
end Go.Proofs.Qxb6500576aGreatDoor
