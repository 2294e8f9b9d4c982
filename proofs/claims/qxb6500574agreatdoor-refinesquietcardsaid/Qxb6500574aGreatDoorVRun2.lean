/-
  THE WALK of vm: run.
-/
import Derived.Test.Qxb6500574aGreatDoorVRun
namespace Go.Proofs.Qxb6500574aGreatDoor
open Go Go.RowKit
set_option linter.unusedVariables false
set_option linter.unusedSimpArgs false
/-- the machine behind a trap -/
def TrapM (m9 : VMD) (e9 : Nat) (r : EvD × Nat × VMD) : Prop := m9.out = r.2.2.out ∧ (r.1.k = 5 → m9 = wipeM r.2.2 ∧ e9 = r.1.e)
def RunPost (w : World) (A : VL) (e i n f : Nat) (r : EvD × Nat × VMD) (e' : Ending) (w' : World) : Prop :=
  (∃ A' m9 e9, e' = .returned (.tuple #[r.1.val, .bool true]) ∧ VRep w' A' m9 r.2.1 e9 ∧ TrapM m9 e9 r ∧ (r.1.k ≠ 5 → m9 = r.2.2 ∧ e9 = e) ∧ VSt isVM w A w' A') ∨
  (∃ A' m2 f1 k K t fm, e' = .returned (.tuple #[EvD.val ev0, .bool false]) ∧ k < n ∧ roundsP k f1 m2 i = some r ∧ VRep w' A' m2 f1 e ∧ VSt isVM w A w' A' ∧ At K m2 i t fm ∧ Room K 0 t ∧ Low m2 ∧ f1 ≤ f)
theorem run_res (tmps : Array Value) (w : World) (b6 b7 : Nat) (ev : EvD) (d : Bool) (p6 : tmps.getD 6 undef = .pointer (some ⟨b6, 0, none⟩)) (p7 : tmps.getD 7 undef = .pointer (some ⟨b7, 0, none⟩))
    (h6 : Has w b6 (evCells ev) 190) (h7 : Has w b7 #[.bool d] 4) :
    (results Tryz.f144 tmps).run Tryz.prog w = .ok (.tuple #[ev.val, .bool d]) w := by
  have hr : Tryz.f144.results = #[.cell 6 190, .cell 7 4] := by kernel_rfl
  have q6 : tmps[6]?.getD undef = .pointer (some ⟨b6, 0, none⟩) := by simpa using p6
  have q7 : tmps[7]?.getD undef = .pointer (some ⟨b7, 0, none⟩) := by simpa using p7
  have key : ∀ (ty : TypeId) (p : Addr) (v : Value), (isAgg ty).run Tryz.prog = (fun w => .ok false w) → w.cell? p = some v → (loadVar ty p).run Tryz.prog w = .ok v w := by
    intro ty p v hT hc
    simp [loadVar, Sem.run_bind, hT, load, Sem.run, hc]
  have l6 := isEvent.load h6 rfl
  have l7 := key 4 ⟨b7, 0, none⟩ (.bool d) (by kernel_rfl) (h7.cell 0)
  simp [results, hr, q6, q7, asAddr, l6, l7]
section
variable {w : World} {A : VL} {m : VMD} {f e i : Nat} {t : ThD} {K : Cx} {fm : FmD}
set_option maxRecDepth 100000
set_option maxHeartbeats 1000000
theorem set9_twice_has {w : World} {b6 b7 : Nat} {x : EvD} {y : Bool} (h6 : Has w b6 (evCells x) 190) (h7 : Has w b7 #[.bool y] 4) (ev : EvD) (d : Bool) :
    Has ((set9 w b6 ev).setCell ⟨b7, 0, none⟩ (.bool d)) b6 (evCells ev) 190 ∧ Has ((set9 w b6 ev).setCell ⟨b7, 0, none⟩ (.bool d)) b7 #[.bool d] 4 := by
  have ne := h6.ne h7 (by decide)
  refine ⟨(h6.set9 ev).other (p := ⟨b7, 0, none⟩) ne _, ?_⟩
  have := (has_set9_ne h7 (Ne.symm ne) ev).put 0 (.bool d)
  simpa using this
theorem run_any (R : VRep w A m f e) (h : At K m i t fm) (room : Room K 0 t) (low : Low m) (fu : f < 9223372036854775808) {n : Nat} {r : EvD × Nat × VMD} (hr : roundsP n f m i = some r) :
    Calls Tryz.prog 144 #[.pointer (some ⟨A.b, 0, none⟩), .int .i64 i, .pointer (some ⟨A.bT, i * 5, none⟩)] w (RunPost w A e i n f r) := by
  have hmf : ∀ (fn : Fn) (first cap : Array Value) (w : World), (Instr.makeFunc fn first cap).run Tryz.prog w = .ok (.func fn first cap) w := fun _ _ _ _ => rfl
  obtain ⟨W, HW⟩ : ∃ W, Hid (W = (((w.alloc (.cells #[.pointer (some ⟨A.b, 0, none⟩)] 44)).alloc (.cells #[.pointer (some ⟨A.bT, i * 5, none⟩)] 262)).alloc (.cells (evCells ev0) 190)).alloc (.cells #[.bool false] 4)) := ⟨_, rfl⟩
  obtain ⟨b3, H3⟩ : ∃ b, Hid (b = w.heap.size) := ⟨_, rfl⟩
  obtain ⟨b5, H5⟩ : ∃ b, Hid (b = w.heap.size + 1) := ⟨_, rfl⟩
  obtain ⟨b6, H6⟩ : ∃ b, Hid (b = w.heap.size + 1 + 1) := ⟨_, rfl⟩
  obtain ⟨b7, H7⟩ : ∃ b, Hid (b = w.heap.size + 1 + 1 + 1) := ⟨_, rfl⟩
  have hF : Fr (fun _ => False) w W := by
    rw [HW.out]
    exact ((((Fr.refl _ _).alloc _).alloc _).alloc _).alloc _
  have RW := R.fresh hF
  have SW : VSt isVM w A W A := VSt.fresh hF
  have g3 := H3.out
  have g5 := H5.out
  have g6 := H6.out
  have g7 := H7.out
  have o3 : A.o b3 = 0 := R.own _ (by omega)
  have o5 : A.o b5 = 0 := R.own _ (by omega)
  have o6 : A.o b6 = 0 := R.own _ (by omega)
  have o7 : A.o b7 = 0 := R.own _ (by omega)
  have q3 : Has W b3 #[.pointer (some ⟨A.b, 0, none⟩)] 44 := by rw [HW.out]; exact (((Has.newC _ _ _ g3).alloc _).alloc _).alloc _
  have q5 : Has W b5 #[.pointer (some ⟨A.bT, i * 5, none⟩)] 262 := by rw [HW.out]; exact ((Has.newC _ _ _ (by simp; omega)).alloc _).alloc _
  have q6 : Has W b6 (evCells ev0) 190 := by rw [HW.out]; exact (Has.newC _ _ _ (by simp; omega)).alloc _
  have q7 : Has W b7 #[.bool false] 4 := by rw [HW.out]; exact Has.newC _ _ _ (by simp; omega)
  -- behind a step of the machine
  have KEEP : Hid (∀ w' A', VSt isVM W A w' A' → (Has w' b3 #[.pointer (some ⟨A.b, 0, none⟩)] 44 ∧ A'.o b3 = 0) ∧ (Has w' b5 #[.pointer (some ⟨A.bT, i * 5, none⟩)] 262 ∧ A'.o b5 = 0) ∧ (Has w' b6 (evCells ev0) 190 ∧ A'.o b6 = 0) ∧ (Has w' b7 #[.bool false] 4 ∧ A'.o b7 = 0)) := fun w' A' S => ⟨S.keep0 notVM0 q3 o3, S.keep0 notVM0 q5 o5, S.keep0 notVM0 q6 o6, S.keep0 notVM0 q7 o7⟩
  -- the two results are written
  have PUT : Hid (∀ w' A' m' f' e' ev d, VSt isVM W A w' A' → VRep w' A' m' f' e' → VRep ((set9 w' b6 ev).setCell ⟨b7, 0, none⟩ (.bool d)) A' m' f' e' ∧ VSt isVM w A ((set9 w' b6 ev).setCell ⟨b7, 0, none⟩ (.bool d)) A') := by
    intro w' A' m' f' e' ev d S R'
    obtain ⟨_, _, k6, k7⟩ := KEEP.out w' A' S
    refine ⟨(R'.set9 k6.2 ev).zero ((Stp.refl _ _ _).setCell (p := ⟨b7, 0, none⟩) k7.2 _), ((SW.trans S).set9 (by omega) ev).own (by omega) _⟩
  -- the door
  have DOORI : Hid (∀ w' A' (ev : EvD) (tmps : Array Value), VSt isVM W A w' A' → VRep w' A' r.2.2 r.2.1 e → ev = r.1 ∧ r.1.k ≠ 5 → tmps.getD 6 undef = .pointer (some ⟨b6, 0, none⟩) → tmps.getD 7 undef = .pointer (some ⟨b7, 0, none⟩) →
      Leaves Tryz.prog Tryz.f144 tmps (RunPost w A e i n f r) [{ target := .fn (.func 212) #[.pointer (some ⟨b3, 0, none⟩), .pointer (some ⟨b5, 0, none⟩), .pointer (some ⟨b6, 0, none⟩), .pointer (some ⟨b7, 0, none⟩)], args := #[] }] .returning ((set9 (set9 w' b6 ev) b6 ev).setCell ⟨b7, 0, none⟩ (.bool true))) := by
    intro w' A' ev tmps S R' ⟨hev, hk5⟩ p6 p7
    obtain ⟨k3, k5, k6, k7⟩ := KEEP.out w' A' S
    refine leaves_cons (f := 212) (args := #[.pointer (some ⟨b3, 0, none⟩), .pointer (some ⟨b5, 0, none⟩), .pointer (some ⟨b6, 0, none⟩), .pointer (some ⟨b7, 0, none⟩)]) (by simp) (by simp [go_sem]) ?_
    refine (rcatch_idle b3 b5 b6 b7).mono ?_
    rintro e1 u1 w1 ⟨rfl, rfl, rfl⟩
    have n67 := k6.1.ne k7.1 (by decide)
    obtain ⟨c6, c7⟩ := set9_twice_has (k6.1.set9 ev) (has_set9_ne k7.1 (Ne.symm n67) ev) ev true
    refine ⟨_, run_res tmps _ b6 b7 ev true p6 p7 c6 c7, ?_⟩
    subst hev
    have R1 := R'.set9 k6.2 r.1
    exact .inl ⟨A', r.2.2, e, rfl, (R1.set9 k6.2 r.1).zero ((Stp.refl _ _ _).setCell (p := ⟨b7, 0, none⟩) k7.2 _), ⟨rfl, fun h => absurd h hk5⟩, fun _ => ⟨rfl, rfl⟩, (((SW.trans S).set9 (by omega) r.1).set9 (by omega) r.1).own (by omega) _⟩
  have DOORK : Hid (∀ w' A' (k : Nat) m9 (tmps : Array Value), VSt isVM W A w' A' → VRep w' A' m9 r.2.1 e → r.1 = ⟨5, 0, k, nilV, nilV⟩ → OT m9 r.2.2 → tmps.getD 6 undef = .pointer (some ⟨b6, 0, none⟩) → tmps.getD 7 undef = .pointer (some ⟨b7, 0, none⟩) →
      Leaves Tryz.prog Tryz.f144 tmps (RunPost w A e i n f r) [{ target := .fn (.func 212) #[.pointer (some ⟨b3, 0, none⟩), .pointer (some ⟨b5, 0, none⟩), .pointer (some ⟨b6, 0, none⟩), .pointer (some ⟨b7, 0, none⟩)], args := #[] }] (.panicking (trapE k)) w') := by
    intro w' A' k m9 tmps S R' hev ho p6 p7
    obtain ⟨k3, k5, k6, k7⟩ := KEEP.out w' A' S
    refine leaves_cons (f := 212) (args := #[.pointer (some ⟨b3, 0, none⟩), .pointer (some ⟨b5, 0, none⟩), .pointer (some ⟨b6, 0, none⟩), .pointer (some ⟨b7, 0, none⟩)]) (by simp) (by simp [go_sem]) ?_
    refine (rcatch_trap b3 b5 b6 b7 A.b k (k3.1.cell 0) (P := fun w1 => ∃ A1, VRep w1 A1 (wipeM m9) r.2.1 k ∧ VSt isVM W A w1 A1) ?_).mono ?_
    · have hw := wipe_any R' k
      rw [S.b] at hw
      refine hw.mono ?_
      rintro e1 w1 ⟨rfl, A1, R1, S1⟩
      have S2 := S.trans (S1.weaken (fun l hl => by unfold isVM; rcases hl with hl | hl | hl <;> omega))
      obtain ⟨_, _, c6, c7⟩ := KEEP.out w1 A1 S2
      exact ⟨rfl, c6.1, c7.1, A1, R1, S2⟩
    rintro e1 u1 w1 ⟨rfl, rfl, w2, c6, c7, ⟨A2, R2, S2⟩, rfl⟩
    obtain ⟨d6, d7⟩ := set9_twice_has c6 c7 ⟨5, 0, k, nilV, nilV⟩ true
    refine ⟨_, run_res tmps _ b6 b7 ⟨5, 0, k, nilV, nilV⟩ true p6 p7 d6 d7, ?_⟩
    obtain ⟨R3, S3⟩ := PUT.out w2 A2 _ _ _ ⟨5, 0, k, nilV, nilV⟩ true S2 R2
    exact .inl ⟨A2, wipeM m9, k, by rw [hev], R3, ⟨ho.1, fun _ => ⟨by unfold wipeM; rw [ho.1, ho.2], by rw [hev]⟩⟩, fun hk => absurd (by rw [hev]) hk, S3⟩
  have DOORT : Hid (∀ w' A' b v m1 f1 K1 t1 (tmps : Array Value), VSt isVM W A w' A' → VRep w' A' m1 f1 e → Has w' b #[.int .i64 v.t, .int .u64 v.n, sv v.s] 340 → f1 ≤ f → ThrAt m1 i v K1 t1 → ThrTo n f1 m1 i v t1 r → tmps.getD 6 undef = .pointer (some ⟨b6, 0, none⟩) → tmps.getD 7 undef = .pointer (some ⟨b7, 0, none⟩) →
      Leaves Tryz.prog Tryz.f144 tmps (RunPost w A e i n f r) [{ target := .fn (.func 212) #[.pointer (some ⟨b3, 0, none⟩), .pointer (some ⟨b5, 0, none⟩), .pointer (some ⟨b6, 0, none⟩), .pointer (some ⟨b7, 0, none⟩)], args := #[] }] (.panicking (thrE b)) w') := by
    intro w' A' b v m1 f1 K1 t1 tmps S R' hb hf1 TA TT p6 p7
    obtain ⟨k3, k5, k6, k7⟩ := KEEP.out w' A' S
    have hc5 := k5.1.cell 0
    refine leaves_cons (f := 212) (args := #[.pointer (some ⟨b3, 0, none⟩), .pointer (some ⟨b5, 0, none⟩), .pointer (some ⟨b6, 0, none⟩), .pointer (some ⟨b7, 0, none⟩)]) (by simp) (by simp [go_sem]) ?_
    refine (rcatch_thr b3 b5 b6 b7 A.b A.bT i b v (k3.1.cell 0) hc5 hb (P := fun ev d w1 => ∃ A1, VSt isVM W A w1 A1 ∧ ((d = false ∧ ev = ev0 ∧ ∃ m2, unwindN (t1.frames.length - 1) m1 i v = some m2 ∧ VRep w1 A1 m2 f1 e) ∨ (d = true ∧ ev = ⟨2, 0, 0, v, nilV⟩ ∧ unwindN (t1.frames.length - 1) m1 i v = none ∧ VRep w1 A1 (kill m1 i) f1 e))) ?_).mono ?_
    · have hup := UpL.le TA.vi TA.up
      have hfl := (TA.vi.th i t1 TA.hi).fr
      have h0 : 0 < t1.frames.length := List.length_pos_iff.2 TA.ne
      have h8 := hfl.len
      have hu := unwind_any (w := w'.drew) (R'.fresh ((Fr.refl _ _).drew)) TA.hi (TA.vi.opnOk TA.hi TA.sl (by omega)) v TA.sl (N := t1.frames.length - 1) (by omega) (by omega) (fun fm hfm => by
        have := hfl.below hfm
        obtain ⟨j, hj, rfl⟩ := List.getElem_of_mem hfm
        have := (hfl.each j _ (List.getElem?_eq_getElem hj)).2.1
        omega)
      rw [S.b, S.bT] at hu
      refine hu.mono ?_
      have wk : ∀ w1 A1, VSt (fun k => isCo k ∨ isT i k) w'.drew A' w1 A1 → VSt isVM W A w1 A1 := fun w1 A1 S1 => (S.trans (VSt.fresh ((Fr.refl _ _).drew))).trans (S1.weaken (fun l hl => by
        unfold isVM
        rcases hl with hl | hl
        · rcases hl with hl | hl | hl <;> omega
        · rcases hl with hl | hl <;> omega))
      rintro e1 w1 (⟨m2, A1, hu1, rfl, R1, S1⟩ | ⟨A1, hu1, rfl, R1, S1⟩)
      · obtain ⟨_, _, c6, c7⟩ := KEEP.out w1 A1 (wk _ _ S1)
        exact ⟨ev0, false, rfl, c6.1, c7.1, A1, wk _ _ S1, .inl ⟨rfl, rfl, m2, hu1, R1⟩⟩
      · obtain ⟨_, _, c6, c7⟩ := KEEP.out w1 A1 (wk _ _ S1)
        exact ⟨_, true, rfl, c6.1, c7.1, A1, wk _ _ S1, .inr ⟨rfl, rfl, hu1, R1⟩⟩
    rintro e1 u1 w1 ⟨rfl, rfl, w2, ev, d, c6, c7, ⟨A2, S2, hh⟩, rfl⟩
    obtain ⟨d6, d7⟩ := set9_twice_has c6 c7 ev d
    refine ⟨_, run_res tmps _ b6 b7 ev d p6 p7 d6 d7, ?_⟩
    rcases hh with ⟨rfl, rfl, m2, hu1, R2⟩ | ⟨rfl, rfl, hu1, R2⟩
    · obtain ⟨R3, S3⟩ := PUT.out w2 A2 _ _ _ ev0 false S2 R2
      rcases TT with ⟨m3, k, hu2, hk, hrs⟩ | ⟨hu2, _⟩
      · rw [hu1] at hu2
        cases hu2
        obtain ⟨t2, fm2, x1, x2, x3, x4⟩ := unwindN_ok TA.vi TA.up TA.hi TA.st TA.ok _ m2 (by have : 0 < t1.frames.length := List.length_pos_iff.2 TA.ne; omega) hu1
        exact .inr ⟨A2, m2, f1, k, K1, t2, fm2, rfl, hk, hrs, R3, S3, x1, x3, Low.next TA.low x1.vi x2 x1.hi (by have := x1.sl x3; omega), hf1⟩
      · rw [hu1] at hu2
        cases hu2
    · obtain ⟨R3, S3⟩ := PUT.out w2 A2 _ _ _ ⟨2, 0, 0, v, nilV⟩ true S2 R2
      rcases TT with ⟨m3, k, hu2, hk, hrs⟩ | ⟨hu2, hrs⟩
      · rw [hu1] at hu2
        cases hu2
      · subst hrs
        exact .inl ⟨A2, _, e, rfl, R3, ⟨rfl, fun h => by cases h⟩, fun _ => ⟨rfl, rfl⟩, S3⟩
  have LOOP := loop_any RW h room low fu hr
  have x3 := q3.cell 0
  have x5 := q5.cell 0
  have l3 := q3.lt
  have l5 := q5.lt
  simp only [List.getElem?_toArray, List.getElem?_cons_zero] at x3 x5
  clear q3 q5 q6 q7 o3 o5 o6 o7 g3 g5 g6 g7 R h room low hr RW hF SW
  go_enter_defers Tryz.func144, Tryz.ntmps144
  go_wp2_with fail
  have eW : (((w.alloc (.cells #[.pointer (some ⟨A.b, 0, none⟩)] 44)).alloc (.cells #[.pointer (some ⟨A.bT, i * 5, none⟩)] 262)).alloc (.cells #[.int .i64 0, .int .i64 0, .int .i64 0, .int .i64 0, .int .u64 0, sv [], .int .i64 0, .int .u64 0, sv []] 190)).alloc (.cells #[.bool false] 4) = W := HW.out.symm
  rw [eW, ← H7.out, ← H6.out, ← H5.out, ← H3.out]
  refine LOOP.mono ?_
  rintro e1 w1 (⟨A1, rfl, hk, R1, S1⟩ | ⟨A1, k, m9, rfl, hev, R1, ho, S1⟩ | ⟨A1, b, v, m1, f1, K1, t1, rfl, hb, hsz, R1, S1, hf1, TA, TT⟩)
  · obtain ⟨k3, k5, q6, q7⟩ := KEEP.out w1 A1 S1
    have q6 := q6.1
    have q7 := q7.1
    obtain ⟨x0, x1, x2, x3, x4, x5, x6, x7, x8⟩ := q6.ev
    have z0 := q6.frozen 0
    have z1 := q6.frozen 1
    have z2 := q6.frozen 2
    have z3 := q6.frozen 3
    have z4 := q6.frozen 4
    have z5 := q6.frozen 5
    have z6 := q6.frozen 6
    have z7 := q6.frozen 7
    have z8 := q6.frozen 8
    have y0 := q7.cell 0
    have f0 := q7.frozen 0
    have l6 := q6.lt
    have l7 := q7.lt
    have ne := q6.ne q7 (by decide)
    simp only [List.getElem?_toArray, List.getElem?_cons_zero] at y0
    have DI := DOORI.out w1 A1 r.1
    have HS1 : Hid (VSt isVM W A w1 A1) := S1
    have HR1 : Hid (VRep w1 A1 r.2.2 r.2.1 e) := R1
    have HK5 : Hid (r.1.k ≠ 5) := hk.2
    obtain ⟨⟨ek, eth, ee, ⟨evt, evn, evs⟩, ⟨ewt, ewn, ews⟩⟩, r2, r3⟩ := r
    dsimp only [ev0, nilV] at x0 x1 x2 x3 x4 x5 x6 x7 x8
    have HDI : Hid (∀ (tmps : Array Value), _) := fun tmps => DI tmps HS1.out HR1.out ⟨rfl, HK5.out⟩
    clear q6 q7 k3 k5 S1 R1 KEEP PUT DOORI DOORK DOORT LOOP DI
    go_wp2_with fail
    exact HDI.out _ rfl rfl
  · clear LOOP
    go_wp2_with fail
    exact DOORK.out w1 A1 k m9 _ S1 R1 hev ho rfl rfl
  · clear LOOP
    go_wp2_with fail
    exact DOORT.out w1 A1 b v m1 f1 K1 t1 _ S1 R1 hb hf1 TA TT rfl rfl
end
end Go.Proofs.Qxb6500574aGreatDoor
