/-
  THE WALK of comp: a fresh function state.
-/
import Derived.Test.Qxb6500574aGreatDoorWCm10
namespace Go.Proofs.Qxb6500574aGreatDoor
open Go Go.RowKit
set_option linter.unusedVariables false
set_option linter.unusedSimpArgs false
open Go.Lib
section
set_option maxRecDepth 100000
set_option maxHeartbeats 2000000
variable {w : World} {o : Nat → Nat} {C : CC} {N : List Nd} {c : CmD} {x : Nat}
/-- a list cut to 0 -/
theorem run_cut0 (T e : TypeId) (sz : Nat) (hT : Tryz.prog.underlying T = some (.slice e)) (hz : ∀ W, (sizeOf e).run Tryz.prog W = .ok sz W) {a : Option Addr} {n k : Nat} (h : (a = none ∧ n = 0 ∧ k = 0) ∨ ∃ g, a = some ⟨g, 0, none⟩ ∧ n ≤ k) (W : World) : (Instr.slice T (.slice a n k) none (some (.int .i64 0)) none).run Tryz.prog W = .ok (.slice a 0 k) W := by
  rcases h with ⟨rfl, rfl, rfl⟩ | ⟨g, rfl, _⟩
  · simp [Instr.slice, Instr.sliceBounds, Instr.sliceBound, asIntOf, run_underlying hT, hz]
  · have hadd : (⟨g, 0, none⟩ : Addr).add 0 = ⟨g, 0, none⟩ := by unfold Addr.add; split <;> simp_all
    simp [Instr.slice, Instr.sliceBounds, Instr.sliceBound, asIntOf, run_underlying hT, hz, hadd]
theorem run_mkN (W : World) : (Instr.makeMap 97 none).run Tryz.prog W = .ok (.map (some W.heap.size)) (W.alloc (.map #[] 0)) := rfl
theorem run_mkS (W : World) : (Instr.makeMap 98 none).run Tryz.prog W = .ok (.map (some W.heap.size)) (W.alloc (.map #[] 0)) := rfl
theorem fns_puts {xs : List (FnD × FnL)} {g : Nat} {d d' : FnD × FnL} (h : Has w g ((xs.set x d).flatMap (fnV g)).toArray 102) (hl : x < xs.length) {j : Nat} (hj : j < 11) {u : Value} (e : fnV g d' = (fnV g d).set j u) : Has (w.setCell ⟨g, x * 11 + j, none⟩ u) g ((xs.set x d').flatMap (fnV g)).toArray 102 := by
  have := fns_put h (List.getElem?_set_self hl) hj e
  rwa [List.set_set] at this
theorem alloc_at (V : World) (b : Obj) {k : Nat} (h : k = V.heap.size) : (V.alloc b).heap[k]? = some b := by
  subst h
  exact Array.getElem?_push_size
theorem fresh_mem (R : CRep w o C N c) (hx : c.np = x) (h13 : x < 13) {p : Option Nat} {q : Option Addr} (hq : pptr C.gF p = .pointer q) {xs : List (FnD × FnL)} (F : FnsRep w o C.gF xs) (hlen : xs.length = 13) (hall : ∀ y, y < c.np → ∃ l, xs[y]? = some (c.fn y, l) ∧ l.ok C.cb) {d : FnD} {l : FnL} (hd : xs[x]? = some (d, l)) {W : World}
    (hW : W = ((((((((((((((w.setCell ⟨C.cb, 4, none⟩ (.int .i64 ((x : Int) + 1))).setCell ⟨C.gF, x * 11, none⟩ (.pointer (some ⟨C.cb, 0, none⟩))).setCell ⟨C.gF, x * 11 + 1, none⟩ (.pointer q)).setCell ⟨C.gF, x * 11 + 2, none⟩ (.int .i64 0)).setCell ⟨C.gF, x * 11 + 4, none⟩ (.int .i64 0)).setCell ⟨C.gF, x * 11 + 3, none⟩ (.slice l.lo.a 0 l.lo.c)).setCell ⟨C.gF, x * 11 + 5, none⟩ (.slice l.up.a 0 l.up.c)).setCell ⟨C.gF, x * 11 + 6, none⟩ (.slice l.cn.a 0 l.cn.c)).setCell ⟨C.gF, x * 11 + 9, none⟩ (.slice l.cd.a 0 l.cd.c)).setCell ⟨C.gF, x * 11 + 10, none⟩ (.slice l.lp.a 0 l.lp.c)).setCell ⟨C.gF, x * 11 + 7, none⟩ (.map (some w.heap.size))).setCell ⟨C.gF, x * 11 + 8, none⟩ (.map (some (w.heap.size + 1)))).alloc (.map #[] 0)).alloc (.map #[] 0))) :
    ∃ o', CRep W o' C N (c.fresh x p) ∧ Stp QC w o W o' := by
  obtain ⟨k1, k2⟩ := R.blk.put 4 (.int .i64 ((x : Int) + 1)) (cs' := comC C N.length (x + 1)) rfl
  have g0 := (F.here.st k2 (by omega)).has
  have lb := F.here.lb
  have hxl : x < xs.length := by omega
  have g1 := fns_put g0 hd (j := 0) (by omega) (d' := (d, { l with c := some C.cb })) (u := .pointer (some ⟨C.cb, 0, none⟩)) rfl
  have g2 := fns_puts g1 hxl (j := 1) (by omega) (d' := ({ d with parent := p }, { l with c := some C.cb })) (u := .pointer q) (by simp [fnV, hq])
  have g3 := fns_puts g2 hxl (j := 2) (by omega) (d' := ({ d with parent := p, np := 0 }, { l with c := some C.cb })) (u := .int .i64 0) rfl
  have g4 := fns_puts g3 hxl (j := 4) (by omega) (d' := ({ d with parent := p, np := 0, nslots := 0 }, { l with c := some C.cb })) (u := .int .i64 0) rfl
  have g5 := fns_puts g4 hxl (j := 3) (by omega) (d' := ({ d with parent := p, np := 0, nslots := 0, locals := [] }, { l with c := some C.cb })) (u := .slice l.lo.a 0 l.lo.c) rfl
  have g6 := fns_puts g5 hxl (j := 5) (by omega) (d' := ({ d with parent := p, np := 0, nslots := 0, locals := [], ups := [] }, { l with c := some C.cb })) (u := .slice l.up.a 0 l.up.c) rfl
  have g7 := fns_puts g6 hxl (j := 6) (by omega) (d' := ({ d with parent := p, np := 0, nslots := 0, locals := [], ups := [], consts := [] }, { l with c := some C.cb })) (u := .slice l.cn.a 0 l.cn.c) rfl
  have g8 := fns_puts g7 hxl (j := 9) (by omega) (d' := ({ d with parent := p, np := 0, nslots := 0, locals := [], ups := [], consts := [], code := [] }, { l with c := some C.cb })) (u := .slice l.cd.a 0 l.cd.c) rfl
  have g9 := fns_puts g8 hxl (j := 10) (by omega) (d' := ({ fn0 with parent := p }, { l with c := some C.cb, br := [] })) (u := .slice l.lp.a 0 l.lp.c) rfl
  have g10 := fns_puts g9 hxl (j := 7) (by omega) (d' := ({ fn0 with parent := p }, { l with c := some C.cb, br := [], nu := some w.heap.size })) (u := .map (some w.heap.size)) rfl
  have g11 := fns_puts g10 hxl (j := 8) (by omega) (d' := ({ fn0 with parent := p }, { l with c := some C.cb, br := [], nu := some w.heap.size, st := some (w.heap.size + 1) })) (u := .map (some (w.heap.size + 1))) rfl
  have t0 : Stp (fun k => k = 1050 ∨ k = 1051) w o _ o := k2.weaken (fun k h => .inl h)
  have t1 := (((((((((((t0.setCell (p := ⟨C.gF, x * 11 + 0, none⟩) (.inr lb) (.pointer (some ⟨C.cb, 0, none⟩))).setCell (p := ⟨C.gF, x * 11 + 1, none⟩) (.inr lb) (.pointer q)).setCell (p := ⟨C.gF, x * 11 + 2, none⟩) (.inr lb) (.int .i64 0)).setCell (p := ⟨C.gF, x * 11 + 4, none⟩) (.inr lb) (.int .i64 0)).setCell (p := ⟨C.gF, x * 11 + 3, none⟩) (.inr lb) (.slice l.lo.a 0 l.lo.c)).setCell (p := ⟨C.gF, x * 11 + 5, none⟩) (.inr lb) (.slice l.up.a 0 l.up.c)).setCell (p := ⟨C.gF, x * 11 + 6, none⟩) (.inr lb) (.slice l.cn.a 0 l.cn.c)).setCell (p := ⟨C.gF, x * 11 + 9, none⟩) (.inr lb) (.slice l.cd.a 0 l.cd.c)).setCell (p := ⟨C.gF, x * 11 + 10, none⟩) (.inr lb) (.slice l.lp.a 0 l.lp.c)).setCell (p := ⟨C.gF, x * 11 + 7, none⟩) (.inr lb) (.map (some w.heap.size))).setCell (p := ⟨C.gF, x * 11 + 8, none⟩) (.inr lb) (.map (some (w.heap.size + 1))))
  have u0 : Stp (fun k => k = 1051) (w.setCell ⟨C.cb, 4, none⟩ (.int .i64 ((x : Int) + 1))) o (w.setCell ⟨C.cb, 4, none⟩ (.int .i64 ((x : Int) + 1))) o := Stp.refl _ _ _
  have kb := k1.st (((((((((((u0.setCell (p := ⟨C.gF, x * 11 + 0, none⟩) lb (.pointer (some ⟨C.cb, 0, none⟩))).setCell (p := ⟨C.gF, x * 11 + 1, none⟩) lb (.pointer q)).setCell (p := ⟨C.gF, x * 11 + 2, none⟩) lb (.int .i64 0)).setCell (p := ⟨C.gF, x * 11 + 4, none⟩) lb (.int .i64 0)).setCell (p := ⟨C.gF, x * 11 + 3, none⟩) lb (.slice l.lo.a 0 l.lo.c)).setCell (p := ⟨C.gF, x * 11 + 5, none⟩) lb (.slice l.up.a 0 l.up.c)).setCell (p := ⟨C.gF, x * 11 + 6, none⟩) lb (.slice l.cn.a 0 l.cn.c)).setCell (p := ⟨C.gF, x * 11 + 9, none⟩) lb (.slice l.cd.a 0 l.cd.c)).setCell (p := ⟨C.gF, x * 11 + 10, none⟩) lb (.slice l.lp.a 0 l.lp.c)).setCell (p := ⟨C.gF, x * 11 + 7, none⟩) lb (.map (some w.heap.size))).setCell (p := ⟨C.gF, x * 11 + 8, none⟩) lb (.map (some (w.heap.size + 1)))) (by omega)
  rw [Nat.add_zero] at t1 g11 kb
  generalize hV : (((((((((((w.setCell ⟨C.cb, 4, none⟩ (.int .i64 ((x : Int) + 1))).setCell ⟨C.gF, x * 11, none⟩ (.pointer (some ⟨C.cb, 0, none⟩))).setCell ⟨C.gF, x * 11 + 1, none⟩ (.pointer q)).setCell ⟨C.gF, x * 11 + 2, none⟩ (.int .i64 0)).setCell ⟨C.gF, x * 11 + 4, none⟩ (.int .i64 0)).setCell ⟨C.gF, x * 11 + 3, none⟩ (.slice l.lo.a 0 l.lo.c)).setCell ⟨C.gF, x * 11 + 5, none⟩ (.slice l.up.a 0 l.up.c)).setCell ⟨C.gF, x * 11 + 6, none⟩ (.slice l.cn.a 0 l.cn.c)).setCell ⟨C.gF, x * 11 + 9, none⟩ (.slice l.cd.a 0 l.cd.c)).setCell ⟨C.gF, x * 11 + 10, none⟩ (.slice l.lp.a 0 l.lp.c)).setCell ⟨C.gF, x * 11 + 7, none⟩ (.map (some w.heap.size))).setCell ⟨C.gF, x * 11 + 8, none⟩ (.map (some (w.heap.size + 1))) = V at *
  have hsz : V.heap.size = w.heap.size := by rw [← hV]; simp [World.setCell]
  have a1 : Stp (fun k => k = 1050 ∨ k = 1051) V o (V.alloc (.map #[] 0)) (upd o w.heap.size (labF x 3)) := by rw [← hsz]; exact Stp.label _ _ _
  have a2 : Stp (fun k => k = 1050 ∨ k = 1051) (V.alloc (.map #[] 0)) (upd o w.heap.size (labF x 3)) ((V.alloc (.map #[] 0)).alloc (.map #[] 0)) (upd (upd o w.heap.size (labF x 3)) (w.heap.size + 1) (labF x 4)) := by
    have := Stp.label (w := V.alloc (.map #[] 0)) (o := upd o w.heap.size (labF x 3)) (fun k => k = 1050 ∨ k = 1051) (.map #[] 0) (labF x 4)
    have e : (V.alloc (.map #[] 0)).heap.size = w.heap.size + 1 := by simp [hsz]
    rwa [e] at this
  have b1 : Stp (fun _ => False) V o (V.alloc (.map #[] 0)) (upd o w.heap.size (labF x 3)) := by rw [← hsz]; exact Stp.label _ _ _
  have b2 : Stp (fun _ => False) (V.alloc (.map #[] 0)) (upd o w.heap.size (labF x 3)) ((V.alloc (.map #[] 0)).alloc (.map #[] 0)) (upd (upd o w.heap.size (labF x 3)) (w.heap.size + 1) (labF x 4)) := by
    have := Stp.label (w := V.alloc (.map #[] 0)) (o := upd o w.heap.size (labF x 3)) (fun _ => False) (.map #[] 0) (labF x 4)
    have e : (V.alloc (.map #[] 0)).heap.size = w.heap.size + 1 := by simp [hsz]
    rwa [e] at this
  have t2 := (t1.trans a1).trans a2
  have b12 := b1.trans b2
  have M1 : MapAt (V.alloc (.map #[] 0)) (upd o w.heap.size (labF x 3)) (labF x 3) w.heap.size [] := ⟨⟨#[], 0, alloc_at _ _ hsz.symm, rfl, by simp [MapKept.Stamped]⟩, upd_self _ _ _⟩
  have M2 : MapAt ((V.alloc (.map #[] 0)).alloc (.map #[] 0)) (upd (upd o w.heap.size (labF x 3)) (w.heap.size + 1) (labF x 4)) (labF x 4) (w.heap.size + 1) [] := ⟨⟨#[], 0, alloc_at _ _ (by simp [hsz]), rfl, by simp [MapKept.Stamped]⟩, upd_self _ _ _⟩
  subst hW
  refine ⟨_, ⟨?_, ?_, ?_, ⟨xs.set x ({ fn0 with parent := p }, { l with c := some C.cb, br := [], nu := some w.heap.size, st := some (w.heap.size + 1) }), ?_, by rw [List.length_set]; exact hlen, fun y hy => ?_⟩, ?_, ?_, t2.hi R.ow⟩, t2.weaken (fun k h => by unfold QC; omega)⟩
  · show Blk _ _ 1050 C.cb (comC C N.length (max c.np (x + 1))) _
    rw [hx, Nat.max_eq_right (by omega)]
    exact kb.st b12 (fun h => h)
  · exact R.nds.st t2 (by omega)
  · exact R.buf.st t2 (by omega)
  · have f1 := F.one x _ hd
    refine F.set hlen hd t2 (by omega) (fun y j _ _ => by unfold labF; omega) (b12.has g11 (fun h => h)) ⟨?_, ?_, ?_, fun b e => ?_, fun b e => ?_, ?_, ?_, rfl, fun i l b e1 e2 => by simp [fn0] at e1⟩
    · exact (f1.lo.take 0 (Nat.zero_le _) (by simp [fn0])).st t2 (by unfold labF; omega)
    · exact (f1.up.take 0 (Nat.zero_le _) (by simp [fn0])).st t2 (by unfold labF; omega)
    · exact (f1.cn.take 0 (Nat.zero_le _) (by simp [fn0])).st t2 (by unfold labF; omega)
    · cases e
      exact M1.st b2 (fun h => h)
    · cases e
      exact M2
    · exact (f1.cd.take 0 (Nat.zero_le _) (by simp [fn0])).st t2 (by unfold labF; omega)
    · exact (f1.lp.take 0 (Nat.zero_le _) (by simp [fn0])).st t2 (by unfold labF; omega)
  · have hlt : x < c.fns.length := by rw [R.len]; exact h13
    have hy' : y < max c.np (x + 1) := hy
    rw [fn_fresh c hlt]
    by_cases e : y = x
    · subst e
      rw [if_pos rfl, List.getElem?_set_self hxl]
      exact ⟨_, rfl, rfl, ⟨_, rfl⟩, _, rfl⟩
    · rw [if_neg e, List.getElem?_set_ne (fun h => e h.symm)]
      exact hall y (by omega)
  · unfold CmD.fresh
    simp only [upd_len]
    exact R.len
  · show max c.np (x + 1) ≤ 13
    omega
theorem fresh_any (R : CRep w o C N c) (hx : c.np = x) (h13 : x < 13) (p : Option Nat) :
    Calls Tryz.prog 39 #[.pointer (some ⟨C.cb, 0, none⟩), .int .i64 x, pptr C.gF p] w fun e w' => e = .returned (fptr C.gF x) ∧ ∃ o', CRep w' o' C N (c.fresh x p) ∧ Stp QC w o w' o' := by
  obtain ⟨xs, F, hlen, hall⟩ := R.fns
  obtain ⟨⟨d, l⟩, hd⟩ : ∃ d, xs[x]? = some d := ⟨_, List.getElem?_eq_getElem (by omega)⟩
  have f0 := F.cell hd (j := 0) (by omega)
  have f1 := F.cell hd (j := 1) (by omega)
  have f2 := F.cell hd (j := 2) (by omega)
  have f3 := F.cell hd (j := 3) (by omega)
  have f4 := F.cell hd (j := 4) (by omega)
  have f5 := F.cell hd (j := 5) (by omega)
  have f6 := F.cell hd (j := 6) (by omega)
  have f7 := F.cell hd (j := 7) (by omega)
  have f8 := F.cell hd (j := 8) (by omega)
  have f9 := F.cell hd (j := 9) (by omega)
  have f10 := F.cell hd (j := 10) (by omega)
  have z := F.here.has.frozen
  have flt := F.here.has.lt
  have b3 := R.blk.has.cell 3
  have b4 := R.blk.has.cell 4
  have bz := R.blk.has.frozen 4
  have blt := R.blk.has.lt
  simp only [fnV, comC, List.getElem?_toArray, List.getElem?_cons_succ, List.getElem?_cons_zero, Sl.v] at f0 f1 f2 f3 f4 f5 f6 f7 f8 f9 f10 b3 b4
  have hne : C.cb ≠ C.gF := fun e => by have h1 := R.blk.lb; have h2 := F.here.lb; rw [e] at h1; omega
  obtain ⟨q, hq⟩ : ∃ q, pptr C.gF p = .pointer q := by cases p <;> exact ⟨_, rfl⟩
  rw [hq]
  rw [hx] at b4
  obtain ⟨q', hq'⟩ : ∃ q', pptr C.gF d.parent = .pointer q' := by cases d.parent <;> exact ⟨_, rfl⟩
  rw [hq'] at f1
  have s3 := run_cut0 95 9 1 (by kernel_rfl) (fun W => by kernel_rfl) (F.one x _ hd).lo.form
  have s5 := run_cut0 96 135 2 (by kernel_rfl) (fun W => by kernel_rfl) (F.one x _ hd).up.form
  have s6 := run_cut0 85 68 3 (by kernel_rfl) (fun W => by kernel_rfl) (F.one x _ hd).cn.form
  have s9 := run_cut0 99 105 2 (by kernel_rfl) (fun W => by kernel_rfl) (F.one x _ hd).cd.form
  have s10 := run_cut0 100 139 2 (by kernel_rfl) (fun W => by kernel_rfl) (F.one x _ hd).lp.form
  have HQ : Hid (pptr C.gF p = .pointer q) := hq
  obtain ⟨q0, hq0⟩ : ∃ q0, Value.pointer (Option.map (fun b => (⟨b, 0, none⟩ : Addr)) l.c) = .pointer q0 := ⟨_, rfl⟩
  rw [hq0, Nat.add_zero] at f0
  have z0 := z (x * 11)
  have z1 := z (x * 11 + 1)
  have z2 := z (x * 11 + 2)
  have z3 := z (x * 11 + 3)
  have z4 := z (x * 11 + 4)
  have z5 := z (x * 11 + 5)
  have z6 := z (x * 11 + 6)
  have z7 := z (x * 11 + 7)
  have z8 := z (x * 11 + 8)
  have z9 := z (x * 11 + 9)
  have z10 := z (x * 11 + 10)
  have HF : Hid (FnsRep w o C.gF xs) := F
  have HR : Hid (CRep w o C N c) := R
  have HX : Hid (c.np = x) := hx
  have HD : Hid (xs[x]? = some (d, l)) := hd
  have HALL : Hid (∀ y, y < c.np → ∃ l, xs[y]? = some (c.fn y, l) ∧ l.ok C.cb) := hall
  have HNE : Hid (C.cb ≠ C.gF) := hne
  have hb1 : ¬ C.cb = C.gF := hne
  have hb2 : ¬ C.gF = C.cb := fun e => hne e.symm
  clear hq hq' hq0 z F R hx hd hall hne
  generalize d.locals.length = n3 at *
  generalize d.ups.length = n5 at *
  generalize d.consts.length = n6 at *
  generalize d.code.length = n9 at *
  generalize d.loops.length = n10 at *
  have m1 := run_mkN
  have m2 := run_mkS
  go_enter Tryz.func39, Tryz.ntmps39
  go_wp2_with fail
  go_ret
  exact ⟨rfl, fresh_mem HR.out HX.out h13 HQ.out HF.out hlen HALL.out HD.out rfl⟩
end
end Go.Proofs.Qxb6500574aGreatDoor
