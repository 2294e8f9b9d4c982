/-
  THE WALK of vm: unwind.
-/
import Derived.Test.Qxb6500574aGreatDoorVRet
namespace Go.Proofs.Qxb6500574aGreatDoor
open Go Go.RowKit
set_option linter.unusedVariables false
set_option linter.unusedSimpArgs false

def UnPost (R : Option VMD) (K : VMD) (v : Vl) (w : World) (A : VL) (f e i : Nat) (e' : Ending) (w' : World) : Prop :=
  (∃ m' A', R = some m' ∧ e' = .returned (.tuple #[EvD.val ev0, .bool false]) ∧ VRep w' A' m' f e ∧ VSt (fun k => isCo k ∨ isT i k) w A w' A') ∨
  (∃ A', R = none ∧ e' = .returned (.tuple #[EvD.val ⟨2, 0, 0, v, nilV⟩, .bool true]) ∧ VRep w' A' K f e ∧ VSt (fun k => isCo k ∨ isT i k) w A w' A')
section
variable {w : World} {A : VL} {m : VMD} {f e i : Nat} {t : ThD} {l : ThL}
set_option maxRecDepth 100000
set_option maxHeartbeats 1000000
theorem unwind_any (h : VRep w A m f e) (hi : m.ths[i]? = some t) (ok : OpnOk m t) (v : Vl) (hsl : t.stack.length ≤ 10000) {N : Nat} (hN : t.frames.length = N + 1) (hNb : N ≤ 1000) (hret : ∀ fm ∈ t.frames, fm.ret ≤ t.stack.length) :
    Calls Tryz.prog 213 #[.pointer (some ⟨A.b, 0, none⟩), .pointer (some ⟨A.bT, i * 5, none⟩), v.val] w (UnPost (unwindN (t.frames.length - 1) m i v) (kill m i) v w A f e i) := by
  obtain ⟨l, hx⟩ := h.lays hi
  have H : Hid (VRep w A m f e) := h
  have HI : Hid (m.ths[i]? = some t) := hi
  have HX : Hid (A.X[i]? = some l) := hx
  have OK : Hid (OpnOk m t) := ok
  have HN : Hid (t.frames.length = N + 1) := hN
  have HRET : Hid (∀ fm ∈ t.frames, fm.ret ≤ t.stack.length) := hret
  have c3 := h.thCell hi hx (j := 3) (by omega)
  simp only [thCells, List.getElem?_cons_succ, List.getElem?_cons_zero, Sl.v, hN] at c3
  have hT := h.ths.here.has.lt
  have hr := (h.one hi hx).f
  obtain ⟨fm0', hfm0⟩ : ∃ x, t.frames[0]? = some x := ⟨_, List.getElem?_eq_getElem (by omega)⟩
  obtain ⟨g, ga, gcap, _, gl, _, _⟩ := h.fm hi hx hfm0
  rw [ga] at c3
  have HG : Hid (l.f.a = some ⟨g, 0, none⟩) := ga
  have FM : Hid (∀ k fm, t.frames[k]? = some fm → w.cell? ⟨g, k * 5 + 2, none⟩ = some (.int .i64 fm.base) ∧ w.cell? ⟨g, k * 5 + 3, none⟩ = some (.int .i64 fm.ret) ∧ w.cell? ⟨g, k * 5 + 4, none⟩ = some (.bool fm.prot)) := fun k fm hk => by
    obtain ⟨g', ga', _, _, _, gc, _⟩ := h.fm hi hx hk
    rw [ga] at ga'
    cases ga'
    have q2 := gc 2 (by omega)
    have q3 := gc 3 (by omega)
    have q4 := gc 4 (by omega)
    simp only [fCells, List.getElem?_cons_succ, List.getElem?_cons_zero] at q2 q3 q4
    exact ⟨q2, q3, q4⟩
  rw [hN] at gcap ⊢
  rw [Nat.add_sub_cancel]
  obtain ⟨UN, HUN⟩ : ∃ x, Hid (unwindN N m i v = x) := ⟨_, rfl⟩
  rw [HUN.out]
  obtain ⟨KL, HKL⟩ : ∃ x, Hid (kill m i = x) := ⟨_, rfl⟩
  rw [HKL.out]
  have hN1 : (((N + 1 : Nat) : Int) - 1) = (N : Int) := by omega
  clear h hi hx ok hN hret hr hfm0 ga
  obtain ⟨vt, vn, vs⟩ := v
  go_enter Tryz.func213, Tryz.ntmps213
  go_wp2_with fail
  go_loopw [8] (fun u wr => ∃ (n : Nat), n ≤ N ∧ u = .int .i64 n ∧ Hid (wr = (w.alloc (.cells #[.int .i64 vt, .int .u64 vn, sv vs] 68)).alloc (.cells (evCells ev0) 190)) ∧ Hid (UN = unwindN n m i ⟨vt, vn, vs⟩)) (fun u _ => (intOf u).toNat)
  case atStart => exact ⟨N, Nat.le_refl _, by go_num, rfl, HUN.out.symm⟩
  case round =>
    obtain ⟨n, hn, rfl, HW, HU⟩ := hrel
    by_cases hn0 : n = 0
    · subst hn0
      have HU2 : Hid (UN = none) := HU.out
      have FR : Fr (fun _ => False) w wr := by rw [HW.out]; exact ((Fr.refl _ _).alloc _).alloc _
      have hB5 : Has wr w.heap.size #[.int .i64 vt, .int .u64 vn, sv vs] 68 := by rw [HW.out]; exact (Has.new _ _ _).alloc _
      have hB6 : Has wr (w.heap.size + 1) (evCells ev0) 190 := by rw [HW.out]; exact Has.newC _ _ _ (by simp)
      have hK := kill_any (H.out.fresh FR) HI.out OK.out
      rw [HKL.out] at hK
      have HK : Hid (Calls _ _ _ _ _) := hK
      have HB5 : Hid (Has wr w.heap.size #[.int .i64 vt, .int .u64 vn, sv vs] 68) := hB5
      have HB6 : Hid (Has wr (w.heap.size + 1) (evCells ev0) 190) := hB6
      have HFR : Hid (Fr (fun _ => False) w wr) := FR
      clear FR hB5 hB6 hK HW HU
      go_wp2_with fail
      refine HK.out.mono ?_
      rintro e' w3 ⟨rfl, R3, S3⟩
      obtain ⟨b5, _⟩ := S3.keep0 isC0 HB5.out (H.out.own _ (Nat.le_refl _))
      obtain ⟨b6, o6⟩ := S3.keep0 isC0 HB6.out (H.out.own _ (Nat.le_succ _))
      obtain ⟨y0, y1, y2⟩ := b5.cells3 (v := ⟨vt, vn, vs⟩)
      obtain ⟨x0, x1, x2, x3, x4, x5, x6, x7, x8⟩ := b6.ev
      dsimp only [ev0, nilV] at x0 x1 x2 x3 x4 x5 x6 x7 x8 y0 y1 y2
      have hz := b6.frozen
      have hz0 := hz 0
      have hz1 := hz 1
      have hz2 := hz 2
      have hz3 := hz 3
      have hz4 := hz 4
      have hz5 := hz 5
      have hz6 := hz 6
      have hz7 := hz 7
      have hz8 := hz 8
      have hb5 := b5.lt
      have hb6 := b6.lt
      have FIN : Hid (VRep (set9 w3 (w.heap.size + 1) ⟨2, 0, 0, ⟨vt, vn, vs⟩, ⟨0, 0, []⟩⟩) A KL f e ∧ VSt (fun k => isCo k ∨ isT i k) w A (set9 w3 (w.heap.size + 1) ⟨2, 0, 0, ⟨vt, vn, vs⟩, ⟨0, 0, []⟩⟩) A) := ⟨R3.set9 o6 _, VSt.set9 ((VSt.fresh HFR.out).trans S3) (by omega) _⟩
      have HB6 : Hid (Has w3 (w.heap.size + 1) (evCells ⟨0, 0, 0, ⟨0, 0, []⟩, ⟨0, 0, []⟩⟩) 190) := b6
      clear R3 S3 b5 b6 hz HK
      go_wp2_with fail
      refine bodyPost_ret (res_cell_tmp isEvent rfl rfl (Has.set9 ⟨2, 0, 0, ⟨vt, vn, vs⟩, ⟨0, 0, []⟩⟩ HB6.out) rfl) rfl ?_
      exact .inr ⟨A, HU2.out, rfl, FIN.out.1, FIN.out.2⟩
    · obtain ⟨k, rfl⟩ : ∃ k, n = k + 1 := ⟨n - 1, by omega⟩
      obtain ⟨fm, hfm⟩ : ∃ x, t.frames[k + 1]? = some x := ⟨_, List.getElem?_eq_getElem (by rw [HN.out]; omega)⟩
      have HFM : Hid (t.frames[k + 1]? = some fm) := hfm
      have FR : Fr (fun _ => False) w wr := by rw [HW.out]; exact ((Fr.refl _ _).alloc _).alloc _
      obtain ⟨q2, q3, q4⟩ := FM.out _ _ hfm
      have q2 := FR.cell q2
      have q3 := FR.cell q3
      have q4 := FR.cell q4
      have c3 := FR.cell c3
      have hsz := FR.size
      have hk1 : (0 : Int) < ((k + 1 : Nat) : Int) := by omega
      have hk2 : ((k + 1 : Nat) : Int) - 1 = (k : Int) := by omega
      have hk3 : (k : Int) + 1 - 1 = (k : Int) := by omega
      have HFR : Hid (Fr (fun _ => False) w wr) := FR
      clear FR hfm
      cases hpr : fm.prot with
      | false =>
        rw [hpr] at q4
        have hU2 : UN = unwindN k m i ⟨vt, vn, vs⟩ := by
          rw [HU.out]
          simp [unwindN, VMD.th_some HI.out, HFM.out, hpr]
        have HU2 : Hid (UN = unwindN k m i ⟨vt, vn, vs⟩) := hU2
        clear hpr hU2
        go_wp2_with fail
        exact ⟨⟨k, by omega, by go_num, HW, HU2⟩, by simp [intOf]⟩
      | true =>
        rw [hpr] at q4
        have hB5 : Has wr w.heap.size #[.int .i64 vt, .int .u64 vn, sv vs] 68 := by rw [HW.out]; exact (Has.new _ _ _).alloc _
        have hB6 : Has wr (w.heap.size + 1) (evCells ev0) 190 := by rw [HW.out]; exact Has.newC _ _ _ (by simp)
        have HC : Hid (Calls _ _ _ _ _) := closeFrom_any (H.out.fresh HFR.out) HI.out OK.out fm.base
        have HB5 : Hid (Has wr w.heap.size #[.int .i64 vt, .int .u64 vn, sv vs] 68) := hB5
        have HB6 : Hid (Has wr (w.heap.size + 1) (evCells ev0) 190) := hB6
        have hU2 : ∀ t1, (closeFrom m i fm.base).ths[i]? = some t1 → t1.stack = t.stack → t1.frames = t.frames → UN = some ((closeFrom m i fm.base).setTh i { t1 with stack := t.stack.take fm.ret ++ [boolV false, ⟨vt, vn, vs⟩], frames := t.frames.take (k + 1) }) := fun t1 h1 h2 h3 => by
          rw [HU.out]
          have e1 : (m.th i).frames.getD (k + 1) fm0 = fm := by rw [VMD.th_some HI.out, List.getD_eq_getElem?_getD, HFM.out]; rfl
          simp only [unwindN, e1, hpr, if_true, cut, push, VMD.th_some h1, setTh_set, VMD.th_some (setTh_at h1), h2, h3]
        have HU2 : Hid (∀ t1, (closeFrom m i fm.base).ths[i]? = some t1 → t1.stack = t.stack → t1.frames = t.frames → UN = some ((closeFrom m i fm.base).setTh i { t1 with stack := t.stack.take fm.ret ++ [boolV false, ⟨vt, vn, vs⟩], frames := t.frames.take (k + 1) })) := hU2
        have hrr := HRET.out fm (List.mem_of_getElem? HFM.out)
        clear hpr hB5 hB6 hU2 HU HW
        go_wp2_with fail
        refine HC.out.mono ?_
        rintro e' w3 ⟨rfl, R3, S3⟩
        obtain ⟨t1, h1, h2, h3, h4, h5, h6⟩ := closeFrom_th (i := i) fm.base HI.out
        have HH1 : Hid ((closeFrom m i fm.base).ths[i]? = some t1) := h1
        have HH2 : Hid (t1.stack = t.stack) := h2
        have HH3 : Hid (t1.frames = t.frames) := h3
        obtain ⟨b5, o5⟩ := S3.keep0 isC0 HB5.out (H.out.own _ (Nat.le_refl _))
        obtain ⟨b6, o6⟩ := S3.keep0 isC0 HB6.out (H.out.own _ (Nat.le_succ _))
        have HB6 : Hid (Has w3 (w.heap.size + 1) (evCells ev0) 190) := b6
        have HB5 : Hid (Has w3 w.heap.size #[.int .i64 vt, .int .u64 vn, sv vs] 68) := b5
        have HS3 : Hid (VSt (fun k => isCo k ∨ isT i k) w A w3 A) := (VSt.fresh HFR.out).trans S3
        have HR3 : Hid (VRep w3 A (closeFrom m i fm.base) f e) := R3
        obtain ⟨g', ga, _, go3, gl3, gc, gf⟩ := R3.fm h1 HX.out (j := k + 1) (by rw [h3]; exact HFM.out)
        rw [HG.out] at ga
        cases ga
        have c53 := gc 3 (by omega)
        simp only [fCells, List.getElem?_cons_succ, List.getElem?_cons_zero] at c53
        have d2 := R3.thCell h1 HX.out (j := 2) (by omega)
        have d3 := R3.thCell h1 HX.out (j := 3) (by omega)
        simp only [thCells, List.getElem?_cons_succ, List.getElem?_cons_zero, Sl.v, h2, h3, HN.out, HG.out] at d2 d3
        have z2 := R3.ths.frozen (i * 5 + 2)
        have z3 := R3.ths.frozen (i * 5 + 3)
        have hT3 := R3.ths.here.has.lt
        have hcap : t.stack.length ≤ l.s.c := by
          rcases (R3.one h1 HX.out).s.form with ⟨h, h', h''⟩ | ⟨_, _, h⟩
          · dsimp only at h'; rw [h2] at h'; rw [h']; exact Nat.zero_le _
          · dsimp only at h; rw [h2] at h; exact h
        have hbT : A.o A.bT = 13 := R3.ths.here.lb
        have hne : g ≠ A.bT := fun e => by rw [e, hbT] at go3; omega
        have hne' : A.bT ≠ g := fun e => hne e.symm
        obtain ⟨RL, HRL⟩ : ∃ N : Nat, Hid (t.stack.length = N) := ⟨_, rfl⟩
        rw [HRL.out] at d2 hcap hrr hsl
        have hrr2 : ¬ (fm.ret : Int) < 0 := by omega
        have hrr3 : fm.ret ≤ l.s.c := by omega
        have hrb : fm.ret ≤ 100000 := by omega
        have hkN : k + 1 ≤ l.f.c := by omega
        obtain ⟨F1, F2, F3⟩ : VRep ((w3.drew.setCell ⟨A.bT, i * 5 + 2, none⟩ (.slice l.s.a fm.ret l.s.c)).setCell ⟨A.bT, i * 5 + 3, none⟩ (.slice (some ⟨g, 0, none⟩) (k + 1) l.f.c)) A ((closeFrom m i fm.base).setTh i { t1 with stack := t.stack.take fm.ret, frames := t.frames.take (k + 1) }) f e ∧ VSt (fun k => isCo k ∨ isT i k) w A ((w3.drew.setCell ⟨A.bT, i * 5 + 2, none⟩ (.slice l.s.a fm.ret l.s.c)).setCell ⟨A.bT, i * 5 + 3, none⟩ (.slice (some ⟨g, 0, none⟩) (k + 1) l.f.c)) A ∧ Has ((w3.drew.setCell ⟨A.bT, i * 5 + 2, none⟩ (.slice l.s.a fm.ret l.s.c)).setCell ⟨A.bT, i * 5 + 3, none⟩ (.slice (some ⟨g, 0, none⟩) (k + 1) l.f.c)) (w.heap.size + 1) (evCells ev0) 190 := by
          obtain ⟨x1, x2⟩ := (HR3.out.fresh (Fr.refl _ w3).drew).cutS HH1.out HX.out (n := fm.ret) (by rw [HH2.out, HRL.out]; exact hrr)
          rw [HH2.out] at x1
          obtain ⟨y1, y2⟩ := x1.cutF (setTh_at HH1.out) HX.out (n := k + 1) (by show k + 1 ≤ t1.frames.length; rw [HH3.out, HN.out]; omega)
          rw [setTh_set] at y1
          dsimp only at y1
          rw [HH3.out, HG.out] at y1
          rw [HG.out] at y2
          exact ⟨y1, ((HS3.out.trans (VSt.fresh (Fr.refl _ w3).drew)).trans (x2.weaken (fun k hk => .inr hk))).trans (y2.weaken (fun k hk => .inr hk)), (y2.keep0 isT0 (x2.keep0 isT0 (HB6.out.drew) o6).1 o6).1⟩
        have HF1 : Hid (VRep _ _ _ _ _) := F1
        have HF2 : Hid (VSt _ _ _ _ _) := F2
        have HF3 : Hid (Has _ _ _ _) := F3
        have HUF : Hid (UN = _) := HU2.out t1 h1 h2 h3
        obtain ⟨x0, x1, x2⟩ := HB5.out.cells3 (v := ⟨vt, vn, vs⟩)
        dsimp only at x0 x1 x2
        have hn5 : w.heap.size ≠ A.bT := by omega
        have hn5' : A.bT ≠ w.heap.size := fun e => hn5 e.symm
        have hb5 := HB5.out.lt
        have hb6 := HB6.out.lt
        clear R3 S3 b5 b6 gc gf h1 h2 h3 h4 h5 h6 F1 F2 F3 HU2 HC
        go_wp2_with fail
        refine wp_region_tail 10 (by kernel_rfl) (by kernel_rfl) (fun _ _ _ _ _ h => h) ?_
        simp only [List.take_succ_cons, List.take_zero, List.drop_succ_cons, List.drop_zero]
        repeat go_big_quiet_step (fail)
        refine wpQuiet_nil ?_
        go_wp2_with fail
        have hp := vpush_any (c := 2) (B := w3.heap.size) (HF1.out.fresh ((Fr.refl _ _).alloc (.cells #[.int .i64 1, .int .u64 0, sv [], .int .i64 vt, .int .u64 vn, sv vs] 68))) (setTh_at HH1.out) [boolV false, ⟨vt, vn, vs⟩] (by show 0 < 2; omega) (by simp [HRL.out]; omega) (Has.newC _ _ _ (by simp))
        refine hp.mono ?_
        rintro e' w5 ⟨rfl, A5, R5, S5⟩
        rw [setTh_set] at R5
        obtain ⟨b6, o65⟩ := S5.keep0 isT0 (HF3.out.alloc _) o6
        have HB5 : Hid (Has w5 (w.heap.size + 1) (evCells ⟨0, 0, 0, ⟨0, 0, []⟩, ⟨0, 0, []⟩⟩) 190) := b6
        have hb5 := b6.lt
        have FIN : Hid (VRep (set9 w5 (w.heap.size + 1) ⟨0, 0, 0, ⟨0, 0, []⟩, ⟨0, 0, []⟩⟩) A5 ((closeFrom m i fm.base).setTh i { t1 with stack := t.stack.take fm.ret ++ [boolV false, ⟨vt, vn, vs⟩], frames := t.frames.take (k + 1) }) f e ∧ VSt (fun k => isCo k ∨ isT i k) w A (set9 w5 (w.heap.size + 1) ⟨0, 0, 0, ⟨0, 0, []⟩, ⟨0, 0, []⟩⟩) A5) :=
          ⟨R5.set9 o65 _, VSt.set9 ((HF2.out.trans (VSt.fresh ((Fr.refl _ _).alloc _))).trans (S5.weaken (fun k hk => .inr hk))) (by omega) _⟩
        obtain ⟨x0, x1, x2, x3, x4, x5, x6, x7, x8⟩ := HB5.out.ev
        dsimp only [ev0, nilV] at x0 x1 x2 x3 x4 x5 x6 x7 x8
        have hz := b6.frozen
        have hz0 := hz 0
        have hz1 := hz 1
        have hz2 := hz 2
        have hz3 := hz 3
        have hz4 := hz 4
        have hz5 := hz 5
        have hz6 := hz 6
        have hz7 := hz 7
        have hz8 := hz 8
        clear R5 S5 hp b6 hz
        go_wp2_with fail
        refine bodyPost_ret (res_cell_tmp isEvent rfl rfl (Has.set9 ⟨0, 0, 0, ⟨0, 0, []⟩, ⟨0, 0, []⟩⟩ HB5.out) rfl) rfl ?_
        exact .inl ⟨_, A5, HUF.out, rfl, FIN.out.1, FIN.out.2⟩
end
end Go.Proofs.Qxb6500574aGreatDoor
