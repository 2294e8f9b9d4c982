/-
  THE WALK of vm: call: its beginning.
-/
import Derived.Test.Qxb6500574aGreatDoorVPrint
import Derived.Test.Qxb6500574aGreatDoorVBu2
import Derived.Test.Qxb6500574aGreatDoorVPl0
import Derived.Test.Qxb6500574aGreatDoorVEnterW
import Derived.Test.Qxb6500574aGreatDoorVRet
import Derived.Test.Qxb6500574aGreatDoorVInv9
namespace Go.Proofs.Qxb6500574aGreatDoor
open Go Go.RowKit
set_option linter.unusedVariables false
set_option linter.unusedSimpArgs false
/-- what a call, an instruction come to -/
def CaPost (r : RR EvD) (w : World) (A : VL) (f e : Nat) (e' : Ending) (w' : World) : Prop :=
  match r with
  | (.inr ev, m') => e' = .returned ev.val ∧ ∃ A', VRep w' A' m' f e ∧ VSt isVM w A w' A'
  | (.inl (.inl v), m') => Thrown v w e' w' ∧ ∃ A', VRep w' A' m' f e ∧ VSt isVM w A w' A'
  | (.inl (.inr k), m') => e' = .panicked (trapE k) ∧ ∃ A', VRep w' A' m' f e ∧ VSt isVM w A w' A'
/-- where a call stands: the stack: r, the function, its arguments -/
structure CaB (w : World) (A : VL) (m : VMD) (f e : Nat) (K : Cx) (i : Nat) (t : ThD) (fm : FmD) (l : ThL) (g gs j x P N : Nat) (fn : Vl) (args : List Vl) : Prop where
  rep : VRep w A m (f + 1) e
  at' : At K m i t fm
  room : Room K 0 t
  hx : A.X[i]? = some l
  fa : l.f.a = some ⟨g, 0, none⟩
  sa : l.s.a = some ⟨gs, 0, none⟩
  hj : t.frames[j]? = some fm
  jl : j = t.frames.length - 1
  nl : t.stack.length = N
  pl : N = P + 1 + x
  x3 : x ≤ 3
  fx : t.stack[P]? = some fn
  ax : t.stack.drop (P + 1) = args
  low : Low m
  fu : f + 1 < 9223372036854775808
  pc : fm.pc < 65536
  pcd : fm.pc < K.cd fm.clo
theorem setPc_is {w : World} {A : VL} {m : VMD} {f e i g gs j x P N : Nat} {t : ThD} {l : ThL} {K : Cx} {fm : FmD} {fn : Vl} {args : List Vl} (h : CaB w A m f e K i t fm l g gs j x P N fn args) : setPc m i (fm.pc + 1) = m.setTh i { t with frames := t.frames.set j { fm with pc := fm.pc + 1 } } := by
  unfold setPc
  rw [th_get h.at'.hi]
  dsimp only
  rw [← h.jl]
  have e : t.frames.getD j fm0 = fm := by simp [h.hj]
  rw [e]
theorem win_slice {gs P N c : Nat} (h1 : P + 1 ≤ N) (h2 : N ≤ c) (hN : N ≤ 100000) {W : World} : (Instr.sliceAt 85 (.slice (some ⟨gs, 0, none⟩) N c) (some (.int .i64 ((P : Int) + 1))) (some (.int .i64 N)) (some (.int .i64 N))).run Tryz.prog W = .ok (.slice (some ⟨gs, if N = P + 1 then 0 else (P + 1) * 3, none⟩) (N - (P + 1)) (N - (P + 1))) W := by
  have hu : Tryz.prog.underlying 85 = some (.slice (Tryz.prog.elem 85)) := by kernel_rfl
  have hz : ∀ W, (sizeOf (Tryz.prog.elem 85)).run Tryz.prog W = .ok 3 W := fun W => by kernel_rfl
  rw [run_sliceAt_slice _ _ _ _ _ _ hu]
  have := run_slice_lhm (P := Tryz.prog) W 85 (some ⟨gs, 0, none⟩) N c hu .i64 .i64 .i64 ((P : Int) + 1) N N (by omega) (by omega) (by omega) (by omega)
  rw [this, hz]
  have h3 : ((P : Int) + 1).toNat = P + 1 := by omega
  have h4 : ((N : Int)).toNat = N := by omega
  simp only [Result.andThen_ok, sliced, h3, h4]
  by_cases hx : N = P + 1
  · rw [if_pos hx, if_pos hx]
  · rw [if_neg hx, if_neg hx, Option.map_some, addr_lit, Nat.zero_add]
theorem isT_vm {i k : Nat} (h : isT i k) : isVM k := by
  unfold isVM
  unfold isT at h
  omega
/-- callP behind the count -/
def caQ (m : VMD) (i : Nat) (t : ThD) (F P : Nat) (fn : Vl) (args : List Vl) : RR EvD :=
  if fn.t = 5 then
    if F ≥ 8 then thrR mDepth m else (.inr ev0, enter m i fn.n args P false)
  else if fn.t ≠ 6 then thrR mCall m
  else
    let a0 := args.getD 0 nilV
    let a1 := args.getD 1 nilV
    if fn.n = 6 then
      if a0.t = 5 ∧ F < 8 then (.inr ev0, enter m i a0.n [a1] P true)
      else (.inr ev0, push (cut m i P) i [boolV false, strV (if a0.t = 5 then mDepth else mCall)])
    else if fn.n = 9 then
      if a0.t ≠ 7 then thrR mCo m
      else
        let st := (m.th a0.n).st
        if st = 1 ∨ st = 2 then (.inr ⟨4, a0.n, 0, a1, nilV⟩, m.setTh i { t with st := 3, stack := t.stack.take P })
        else (.inr ev0, push (cut m i P) i [boolV false, strV (statusN st)])
    else if fn.n = 10 then
      if i = 0 then thrR mYield m
      else (.inr ⟨3, 0, 0, a0, nilV⟩, m.setTh i { t with st := 2, stack := t.stack.take P })
    else match builtinP m fn.n a0 a1 with
      | (.inl fl, m1) => (.inl fl, m1)
      | (.inr r, m1) => (.inr ev0, push (cut m1 i P) i [r.1, r.2])
theorem callP_caQ {m m1 : VMD} {t t1 : ThD} {i x P N F : Nat} {fn : Vl} {args : List Vl} (h1 : setPc m i ((topF m i).pc + 1) = m1) (h2 : m1.ths[i]? = some t1) (h3 : t1.stack = t.stack) (h4 : t1.frames.length = F) (hn : t.stack.length = N) (hp : N = P + 1 + x) (hf : t.stack[P]? = some fn) (ha : t.stack.drop (P + 1) = args) : callP m i x = caQ m1 i t1 F P fn args := by
  unfold callP caQ
  have e1 : t1.stack.length - x - 1 = P := by rw [h3, hn]; omega
  have e2 : t1.stack.getD P nilV = fn := by rw [h3]; simp [hf]
  have e3 : t1.stack.drop (P + 1) = args := by rw [h3, ha]
  dsimp only
  rw [h1, th_get h2, e1, e2, e3, h4]
  rfl
theorem caWin {w : World} {A : VL} {m : VMD} {f e i gs x P D : Nat} {t : ThD} {l : ThL} {args : List Vl} (h : VRep w A m f e) (hi : m.ths[i]? = some t) (hx : A.X[i]? = some l) (hs : l.s.a = some ⟨gs, 0, none⟩) (hl : t.stack.length = P + 1 + x) (ha : t.stack.drop (P + 1) = args) (hD : D = if x = 0 then 0 else (P + 1) * 3) : Win w w A i t (.slice (some ⟨gs, D, none⟩) x x) args := by
  have hal : args.length = x := by rw [← ha, List.length_drop]; omega
  have hO := h.one hi hx
  have hgl : gs < w.heap.size := hO.s.lt (g := gs) (by dsimp only; rw [hs]; rfl)
  refine ⟨gs, D, x, ⟨by rw [hal], fun j u hj => ?_, .inl hal.symm, by omega, hgl⟩⟩
  have hx0 : x ≠ 0 := fun e => by
    have : args = [] := List.length_eq_zero_iff.1 (by omega)
    rw [this] at hj
    simp at hj
  rw [if_neg hx0] at hD
  have hlj : j < x * 3 := by
    have h1 := (List.getElem?_eq_some_iff.1 hj).1
    rw [flatMap_len vCells 3 (fun _ => rfl), hal] at h1
    exact h1
  have own := hO.s.own
  have e1 : (t.stack.flatMap vCells)[(P + 1) * 3 + j]? = some u := by
    rw [← List.take_append_drop (P + 1) t.stack, List.flatMap_append, ha]
    have h2 : ((t.stack.take (P + 1)).flatMap vCells).length = (P + 1) * 3 := by
      rw [flatMap_len vCells 3 (fun _ => rfl), List.length_take]
      congr 1
      omega
    rw [List.getElem?_append_right (by omega), h2, Nat.add_sub_cancel_left]
    exact hj
  refine ⟨?_, fun eb => ?_, fun l' hl' ha' => ?_⟩
  · rw [hD]
    refine ownsRow_cell (c := l.s.c) (n := t.stack.length) (T := 68) (k := 3) ?_ _ _ e1
    have := own
    dsimp only [Sl.v] at this
    rw [hs] at this
    exact this
  · have h1 := hO.s.lb gs (by dsimp only; rw [hs]; rfl)
    rw [eb, h.ths.here.lb] at h1
    omega
  · rw [hl, hD]
    omega
/-- three arguments: the two that are looked at -/
theorem Win.at3 {w w0 : World} {A : VL} {i : Nat} {t : ThD} {v : Value} {xs : List Vl} (W : Win w w0 A i t v xs) (h3 : xs.length = 3) : ∃ B d c, v = .slice (some ⟨B, d, none⟩) 3 c ∧ 3 ≤ c ∧ B < w.heap.size ∧ Ar w B d (xs.getD 0 nilV) (xs.getD 1 nilV) ∧ Win w w A i t (.slice (some ⟨B, d + 3, none⟩) 1 1) [xs.getD 1 nilV] := by
  obtain ⟨B, d, c, W⟩ := W
  match xs, h3 with
  | [a, b, c'], _ =>
    have hv := W.hv
    have hc := W.le
    refine ⟨B, d, c, hv, hc, W.lt, ⟨(W.cl 0 _ rfl).1, (W.cl 1 _ rfl).1, (W.cl 2 _ rfl).1, (W.cl 3 _ rfl).1, (W.cl 4 _ rfl).1, (W.cl 5 _ rfl).1, W.lt⟩, B, d + 3, 1, rfl, fun j u hj => ?_, .inl rfl, Nat.le_refl _, W.lt⟩
    have h1 := W.cl (3 + j) u (by
      have e : ([a, b, c'].flatMap vCells) = vCells a ++ (([b].flatMap vCells) ++ vCells c') := by simp
      have h9 : j < 3 := by
        have h8 := (List.getElem?_eq_some_iff.1 hj).1
        simpa [vCells] using h8
      rw [e, List.getElem?_append_right (by simp [vCells]), List.getElem?_append_left (by simp [vCells]; omega)]
      have : 3 + j - (vCells a).length = j := by simp [vCells]
      rw [this]
      exact hj)
    rw [← Nat.add_assoc] at h1
    exact h1
section
variable {w : World} {A : VL} {m : VMD} {f e i g gs j x P N : Nat} {t : ThD} {l : ThL} {K : Cx} {fm : FmD} {fn : Vl} {args : List Vl}
set_option maxRecDepth 100000
set_option maxHeartbeats 600000
theorem call_dep (h : CaB w A m f e K i t fm l g gs j x P N fn args) (h5 : fn.t = 5) (h8 : 8 ≤ t.frames.length) : Calls Tryz.prog 267 #[.pointer (some ⟨A.b, 0, none⟩), .int .i64 i, .pointer (some ⟨A.bT, i * 5, none⟩), .pointer (some ⟨g, j * 5, none⟩), .int .i64 x] w (CaPost (callP m i x) w A f e) := by
  obtain ⟨Q, HQ⟩ : ∃ Q : Ending → World → Prop, Hid (CaPost (callP m i x) w A f e = Q) := ⟨_, rfl⟩
  rw [HQ.out]
  have HB : Hid (CaB w A m f e K i t fm l g gs j x P N fn args) := h
  have hx3 := h.x3
  have hpl := h.pl
  have hN : N ≤ 1120 := by rw [← h.nl]; exact h.at'.sl h.room
  have hpc := h.pc
  have HZ : Hid (A.o w.heap.size = 0) := h.rep.own _ (Nat.le_refl _)
  have hbl := h.rep.bl
  obtain ⟨fnt, fnn, fns⟩ := fn
  clear h
  go_enter Tryz.func267, Tryz.ntmps267
  go_wp2_with fail
  refine (burn_ok (HB.out.rep.fresh ((Fr.refl _ w).alloc (.cells #[.int .i64 0, .int .i64 0, .int .i64 0, .int .i64 0, .int .u64 0, sv [], .int .i64 0, .int .u64 0, sv []] 190))) HB.out.fu).mono ?_
  rintro e' w1 ⟨rfl, r1, s1⟩
  have hz1 : A.o w1.heap.size = 0 := r1.own _ (Nat.le_refl _)
  have HZ1 : Hid (A.o w1.heap.size = 0) := hz1
  have HR1 : Hid (VRep w1 A m f e) := r1
  have HS1 : Hid (VSt isVM w A w1 A) := (VSt.fresh ((Fr.refl _ w).alloc _)).trans (s1.weaken (fun k hk => by unfold isVM; unfold isCo at hk; omega))
  have HE1 : Hid (Has w1 w.heap.size #[.int .i64 0, .int .i64 0, .int .i64 0, .int .i64 0, .int .u64 0, sv [], .int .i64 0, .int .u64 0, sv []] 190) := (s1.keep0 (fun x => by unfold isCo at x; omega) (Has.new w _ _) HZ.out).1
  have c2 := r1.thCell HB.out.at'.hi HB.out.hx (j := 2) (by omega)
  simp only [thCells, List.getElem?_cons_succ, List.getElem?_cons_zero, Sl.v, HB.out.sa, HB.out.nl] at c2
  obtain ⟨g1, v1, v2, v3, v4, v5, v6, v7, v8⟩ := r1.val HB.out.at'.hi HB.out.hx HB.out.fx
  rw [HB.out.sa] at v1
  cases v1
  rw [HB.out.nl] at v2
  obtain ⟨g2, f1, f2, f3, f4, f5, f6⟩ := r1.fm HB.out.at'.hi HB.out.hx HB.out.hj
  rw [HB.out.fa] at f1
  cases f1
  have q1 := f5 1 (by omega)
  simp only [fCells, List.getElem?_cons_succ, List.getElem?_cons_zero] at q1
  have q2 := f6 (j * 5 + 1)
  have hTl := r1.ths.here.has.lt
  have e1 : (N : Int) - (x : Int) - 1 = (P : Int) := by omega
  have hPN : P < N := by omega
  have c3 := r1.thCell HB.out.at'.hi HB.out.hx (j := 3) (by omega)
  simp only [thCells, List.getElem?_cons_succ, List.getElem?_cons_zero, Sl.v, HB.out.fa] at c3
  obtain ⟨F, HF⟩ : ∃ F, Hid (t.frames.length = F) := ⟨_, rfl⟩
  rw [HF.out] at c3
  have hF8 : F ≤ 8 := by rw [← HF.out]; exact HB.out.at'.ok.fr.len
  have hgT : g ≠ A.bT := fun e => by
    have h1 := f3
    rw [e, r1.ths.here.lb] at h1
    omega
  have hgs : g ≠ gs := fun e => by
    rw [e, v3] at f3
    omega
  have hTg : A.bT ≠ g := fun e => hgT e.symm
  have hsg : gs ≠ g := fun e => hgs e.symm
  obtain ⟨D, HD⟩ : ∃ D : Nat, Hid (D = if x = 0 then 0 else (P + 1) * 3) := ⟨_, rfl⟩
  have hsl : ∀ W, (Instr.sliceAt 85 (.slice (some ⟨gs, 0, none⟩) N l.s.c) (some (.int .i64 ((P : Int) + 1))) (some (.int .i64 N)) (some (.int .i64 N))).run Tryz.prog W = .ok (.slice (some ⟨gs, D, none⟩) x x) W := fun W => by
    rw [win_slice (by omega) v2 (by omega)]
    rw [show N - (P + 1) = x by omega]
    by_cases hx0 : x = 0
    · rw [HD.out, if_pos hx0, if_pos (by omega)]
    · rw [HD.out, if_neg hx0, if_neg (by omega)]
  have hvc := r1.setPc HB.out.at'.hi HB.out.hx HB.out.fa HB.out.hj (fm.pc + 1)
  obtain ⟨m1, HM1⟩ : ∃ m1, Hid (m.setTh i { t with frames := t.frames.set j { fm with pc := fm.pc + 1 } } = m1) := ⟨_, rfl⟩
  obtain ⟨t1, HT1⟩ : ∃ t1 : ThD, Hid ({ t with frames := t.frames.set j { fm with pc := fm.pc + 1 } } = t1) := ⟨_, rfl⟩
  rw [HM1.out] at hvc
  obtain ⟨w2, HW2⟩ : ∃ w2, Hid ((w1.setCell ⟨g, j * 5 + 1, none⟩ (.int .i64 ((fm.pc : Int) + 1))).alloc (.cells #[.int .i64 fnt, .int .u64 fnn, sv fns] 68) = w2) := ⟨_, rfl⟩
  have HR2 : Hid (VRep w2 A m1 f e) := by rw [← HW2.out]; exact hvc.1.fresh ((Fr.refl _ _).alloc _)
  have HS2 : Hid (VSt isVM w A w2 A) := by rw [← HW2.out]; exact (HS1.out.trans (hvc.2.weaken (fun k hk => by unfold isVM; unfold isT at hk; omega))).trans (VSt.fresh ((Fr.refl _ _).alloc _))
  have hE2 : Has w2 w.heap.size #[.int .i64 0, .int .i64 0, .int .i64 0, .int .i64 0, .int .u64 0, sv [], .int .i64 0, .int .u64 0, sv []] 190 ∧ A.o w.heap.size = 0 := by
    have h1 := hvc.2.keep0 isT0 HE1.out HZ.out
    rw [← HW2.out]
    exact ⟨h1.1.alloc _, h1.2⟩
  have HE2 : Hid (Has w2 w.heap.size #[.int .i64 0, .int .i64 0, .int .i64 0, .int .i64 0, .int .u64 0, sv [], .int .i64 0, .int .u64 0, sv []] 190 ∧ A.o w.heap.size = 0) := hE2
  have HF2 : Hid (Has w2 w1.heap.size #[.int .i64 fnt, .int .u64 fnn, sv fns] 68) := by rw [← HW2.out]; exact Has.newC _ _ _ (by simp [World.setCell])
  have HI1 : Hid (m1.ths[i]? = some t1) := by rw [← HM1.out, ← HT1.out]; exact setTh_at HB.out.at'.hi
  have HA1 : Hid (At K m1 i t1 { fm with pc := fm.pc + 1 }) := by
    have h1 := HB.out.at'.pc (x := fm.pc + 1) HB.out.pcd
    rw [← HB.out.jl] at h1
    have h2 : setPc m i (fm.pc + 1) = m1 := by rw [← HM1.out]; exact setPc_is HB.out
    rw [h2, HT1.out] at h1
    exact h1.1
  have HCP : Hid (setPc m i ((topF m i).pc + 1) = m1) := by
    show _ = _
    rw [HB.out.at'.topF, ← HM1.out]
    exact setPc_is HB.out
  have HC : Hid (callP m i x = caQ m1 i t1 F P ⟨fnt, fnn, fns⟩ args) := callP_caQ HCP.out HI1.out (by rw [← HT1.out]) (by rw [← HT1.out, ← HF.out]; simp) HB.out.nl HB.out.pl HB.out.fx HB.out.ax
  rw [HC.out] at HQ
  clear HC HCP
  have HT1S : Hid (t1.stack = t.stack ∧ t1.frames.length = t.frames.length) := by rw [← HT1.out]; exact ⟨rfl, by simp⟩
  clear v3 v8 f2 f3 f5 f6 r1 s1 hz1 hpl hvc hE2
  subst h5
  obtain rfl : F = 8 := by rw [HF.out] at h8; omega
  clear h8
  go_wp2_with fail
  refine (raise_any mDepth).mono ?_
  rintro e' w3 ⟨⟨b, rfl, hb, hbl2⟩, f3⟩
  rw [HW2.out] at f3 hbl2
  have FIN : Hid (Q (.panicked (thrE b)) w3) := by
    rw [← HQ.out]
    rw [show caQ m1 i t1 8 P ⟨5, fnn, fns⟩ args = thrR mDepth m1 from rfl]
    exact ⟨⟨b, rfl, hb, by have := HS2.out.st.fr.size; omega⟩, A, HR2.out.fresh f3, HS2.out.trans (VSt.fresh f3)⟩
  exact ⟨rfl, FIN.out⟩
theorem call_not (h : CaB w A m f e K i t fm l g gs j x P N fn args) (h5 : fn.t ≠ 5) (h6 : fn.t ≠ 6) : Calls Tryz.prog 267 #[.pointer (some ⟨A.b, 0, none⟩), .int .i64 i, .pointer (some ⟨A.bT, i * 5, none⟩), .pointer (some ⟨g, j * 5, none⟩), .int .i64 x] w (CaPost (callP m i x) w A f e) := by
  obtain ⟨Q, HQ⟩ : ∃ Q : Ending → World → Prop, Hid (CaPost (callP m i x) w A f e = Q) := ⟨_, rfl⟩
  rw [HQ.out]
  have HB : Hid (CaB w A m f e K i t fm l g gs j x P N fn args) := h
  have hx3 := h.x3
  have hpl := h.pl
  have hN : N ≤ 1120 := by rw [← h.nl]; exact h.at'.sl h.room
  have hpc := h.pc
  have HZ : Hid (A.o w.heap.size = 0) := h.rep.own _ (Nat.le_refl _)
  have hbl := h.rep.bl
  obtain ⟨fnt, fnn, fns⟩ := fn
  clear h
  go_enter Tryz.func267, Tryz.ntmps267
  go_wp2_with fail
  refine (burn_ok (HB.out.rep.fresh ((Fr.refl _ w).alloc (.cells #[.int .i64 0, .int .i64 0, .int .i64 0, .int .i64 0, .int .u64 0, sv [], .int .i64 0, .int .u64 0, sv []] 190))) HB.out.fu).mono ?_
  rintro e' w1 ⟨rfl, r1, s1⟩
  have hz1 : A.o w1.heap.size = 0 := r1.own _ (Nat.le_refl _)
  have HZ1 : Hid (A.o w1.heap.size = 0) := hz1
  have HR1 : Hid (VRep w1 A m f e) := r1
  have HS1 : Hid (VSt isVM w A w1 A) := (VSt.fresh ((Fr.refl _ w).alloc _)).trans (s1.weaken (fun k hk => by unfold isVM; unfold isCo at hk; omega))
  have HE1 : Hid (Has w1 w.heap.size #[.int .i64 0, .int .i64 0, .int .i64 0, .int .i64 0, .int .u64 0, sv [], .int .i64 0, .int .u64 0, sv []] 190) := (s1.keep0 (fun x => by unfold isCo at x; omega) (Has.new w _ _) HZ.out).1
  have c2 := r1.thCell HB.out.at'.hi HB.out.hx (j := 2) (by omega)
  simp only [thCells, List.getElem?_cons_succ, List.getElem?_cons_zero, Sl.v, HB.out.sa, HB.out.nl] at c2
  obtain ⟨g1, v1, v2, v3, v4, v5, v6, v7, v8⟩ := r1.val HB.out.at'.hi HB.out.hx HB.out.fx
  rw [HB.out.sa] at v1
  cases v1
  rw [HB.out.nl] at v2
  obtain ⟨g2, f1, f2, f3, f4, f5, f6⟩ := r1.fm HB.out.at'.hi HB.out.hx HB.out.hj
  rw [HB.out.fa] at f1
  cases f1
  have q1 := f5 1 (by omega)
  simp only [fCells, List.getElem?_cons_succ, List.getElem?_cons_zero] at q1
  have q2 := f6 (j * 5 + 1)
  have hTl := r1.ths.here.has.lt
  have e1 : (N : Int) - (x : Int) - 1 = (P : Int) := by omega
  have hPN : P < N := by omega
  have c3 := r1.thCell HB.out.at'.hi HB.out.hx (j := 3) (by omega)
  simp only [thCells, List.getElem?_cons_succ, List.getElem?_cons_zero, Sl.v, HB.out.fa] at c3
  obtain ⟨F, HF⟩ : ∃ F, Hid (t.frames.length = F) := ⟨_, rfl⟩
  rw [HF.out] at c3
  have hF8 : F ≤ 8 := by rw [← HF.out]; exact HB.out.at'.ok.fr.len
  have hgT : g ≠ A.bT := fun e => by
    have h1 := f3
    rw [e, r1.ths.here.lb] at h1
    omega
  have hgs : g ≠ gs := fun e => by
    rw [e, v3] at f3
    omega
  have hTg : A.bT ≠ g := fun e => hgT e.symm
  have hsg : gs ≠ g := fun e => hgs e.symm
  obtain ⟨D, HD⟩ : ∃ D : Nat, Hid (D = if x = 0 then 0 else (P + 1) * 3) := ⟨_, rfl⟩
  have hsl : ∀ W, (Instr.sliceAt 85 (.slice (some ⟨gs, 0, none⟩) N l.s.c) (some (.int .i64 ((P : Int) + 1))) (some (.int .i64 N)) (some (.int .i64 N))).run Tryz.prog W = .ok (.slice (some ⟨gs, D, none⟩) x x) W := fun W => by
    rw [win_slice (by omega) v2 (by omega)]
    rw [show N - (P + 1) = x by omega]
    by_cases hx0 : x = 0
    · rw [HD.out, if_pos hx0, if_pos (by omega)]
    · rw [HD.out, if_neg hx0, if_neg (by omega)]
  have hvc := r1.setPc HB.out.at'.hi HB.out.hx HB.out.fa HB.out.hj (fm.pc + 1)
  obtain ⟨m1, HM1⟩ : ∃ m1, Hid (m.setTh i { t with frames := t.frames.set j { fm with pc := fm.pc + 1 } } = m1) := ⟨_, rfl⟩
  obtain ⟨t1, HT1⟩ : ∃ t1 : ThD, Hid ({ t with frames := t.frames.set j { fm with pc := fm.pc + 1 } } = t1) := ⟨_, rfl⟩
  rw [HM1.out] at hvc
  obtain ⟨w2, HW2⟩ : ∃ w2, Hid ((w1.setCell ⟨g, j * 5 + 1, none⟩ (.int .i64 ((fm.pc : Int) + 1))).alloc (.cells #[.int .i64 fnt, .int .u64 fnn, sv fns] 68) = w2) := ⟨_, rfl⟩
  have HR2 : Hid (VRep w2 A m1 f e) := by rw [← HW2.out]; exact hvc.1.fresh ((Fr.refl _ _).alloc _)
  have HS2 : Hid (VSt isVM w A w2 A) := by rw [← HW2.out]; exact (HS1.out.trans (hvc.2.weaken (fun k hk => by unfold isVM; unfold isT at hk; omega))).trans (VSt.fresh ((Fr.refl _ _).alloc _))
  have hE2 : Has w2 w.heap.size #[.int .i64 0, .int .i64 0, .int .i64 0, .int .i64 0, .int .u64 0, sv [], .int .i64 0, .int .u64 0, sv []] 190 ∧ A.o w.heap.size = 0 := by
    have h1 := hvc.2.keep0 isT0 HE1.out HZ.out
    rw [← HW2.out]
    exact ⟨h1.1.alloc _, h1.2⟩
  have HE2 : Hid (Has w2 w.heap.size #[.int .i64 0, .int .i64 0, .int .i64 0, .int .i64 0, .int .u64 0, sv [], .int .i64 0, .int .u64 0, sv []] 190 ∧ A.o w.heap.size = 0) := hE2
  have HF2 : Hid (Has w2 w1.heap.size #[.int .i64 fnt, .int .u64 fnn, sv fns] 68) := by rw [← HW2.out]; exact Has.newC _ _ _ (by simp [World.setCell])
  have HI1 : Hid (m1.ths[i]? = some t1) := by rw [← HM1.out, ← HT1.out]; exact setTh_at HB.out.at'.hi
  have HA1 : Hid (At K m1 i t1 { fm with pc := fm.pc + 1 }) := by
    have h1 := HB.out.at'.pc (x := fm.pc + 1) HB.out.pcd
    rw [← HB.out.jl] at h1
    have h2 : setPc m i (fm.pc + 1) = m1 := by rw [← HM1.out]; exact setPc_is HB.out
    rw [h2, HT1.out] at h1
    exact h1.1
  have HCP : Hid (setPc m i ((topF m i).pc + 1) = m1) := by
    show _ = _
    rw [HB.out.at'.topF, ← HM1.out]
    exact setPc_is HB.out
  have HC : Hid (callP m i x = caQ m1 i t1 F P ⟨fnt, fnn, fns⟩ args) := callP_caQ HCP.out HI1.out (by rw [← HT1.out]) (by rw [← HT1.out, ← HF.out]; simp) HB.out.nl HB.out.pl HB.out.fx HB.out.ax
  rw [HC.out] at HQ
  clear HC HCP
  have HT1S : Hid (t1.stack = t.stack ∧ t1.frames.length = t.frames.length) := by rw [← HT1.out]; exact ⟨rfl, by simp⟩
  clear v3 v8 f2 f3 f5 f6 r1 s1 hz1 hpl hvc hE2
  have h5b : (fnt == 5) = false := by rw [beq_eq_false_iff_ne]; exact h5
  have h6b : (fnt == 6) = false := by rw [beq_eq_false_iff_ne]; exact h6
  have H56 : Hid (fnt ≠ 5 ∧ fnt ≠ 6) := ⟨h5, h6⟩
  clear h5 h6
  go_wp2_with fail
  refine (raise_any mCall).mono ?_
  rintro e' w3 ⟨⟨b, rfl, hb, hbl2⟩, f3⟩
  rw [HW2.out] at f3 hbl2
  have FIN : Hid (Q (.panicked (thrE b)) w3) := by
    rw [← HQ.out]
    have hc : caQ m1 i t1 F P ⟨fnt, fnn, fns⟩ args = thrR mCall m1 := by
      unfold caQ
      rw [if_neg (by exact H56.out.1), if_pos (by exact H56.out.2)]
    rw [hc]
    exact ⟨⟨b, rfl, hb, by have := HS2.out.st.fr.size; omega⟩, A, HR2.out.fresh f3, HS2.out.trans (VSt.fresh f3)⟩
  exact ⟨rfl, FIN.out⟩
theorem call_clo (h : CaB w A m f e K i t fm l g gs j x P N fn args) (h5 : fn.t = 5) (h8 : t.frames.length < 8) : Calls Tryz.prog 267 #[.pointer (some ⟨A.b, 0, none⟩), .int .i64 i, .pointer (some ⟨A.bT, i * 5, none⟩), .pointer (some ⟨g, j * 5, none⟩), .int .i64 x] w (CaPost (callP m i x) w A f e) := by
  obtain ⟨Q, HQ⟩ : ∃ Q : Ending → World → Prop, Hid (CaPost (callP m i x) w A f e = Q) := ⟨_, rfl⟩
  rw [HQ.out]
  have HB : Hid (CaB w A m f e K i t fm l g gs j x P N fn args) := h
  have hx3 := h.x3
  have hpl := h.pl
  have hN : N ≤ 1120 := by rw [← h.nl]; exact h.at'.sl h.room
  have hpc := h.pc
  have HZ : Hid (A.o w.heap.size = 0) := h.rep.own _ (Nat.le_refl _)
  have hbl := h.rep.bl
  obtain ⟨fnt, fnn, fns⟩ := fn
  clear h
  go_enter Tryz.func267, Tryz.ntmps267
  go_wp2_with fail
  refine (burn_ok (HB.out.rep.fresh ((Fr.refl _ w).alloc (.cells #[.int .i64 0, .int .i64 0, .int .i64 0, .int .i64 0, .int .u64 0, sv [], .int .i64 0, .int .u64 0, sv []] 190))) HB.out.fu).mono ?_
  rintro e' w1 ⟨rfl, r1, s1⟩
  have hz1 : A.o w1.heap.size = 0 := r1.own _ (Nat.le_refl _)
  have HZ1 : Hid (A.o w1.heap.size = 0) := hz1
  have HR1 : Hid (VRep w1 A m f e) := r1
  have HS1 : Hid (VSt isVM w A w1 A) := (VSt.fresh ((Fr.refl _ w).alloc _)).trans (s1.weaken (fun k hk => by unfold isVM; unfold isCo at hk; omega))
  have HE1 : Hid (Has w1 w.heap.size #[.int .i64 0, .int .i64 0, .int .i64 0, .int .i64 0, .int .u64 0, sv [], .int .i64 0, .int .u64 0, sv []] 190) := (s1.keep0 (fun x => by unfold isCo at x; omega) (Has.new w _ _) HZ.out).1
  have c2 := r1.thCell HB.out.at'.hi HB.out.hx (j := 2) (by omega)
  simp only [thCells, List.getElem?_cons_succ, List.getElem?_cons_zero, Sl.v, HB.out.sa, HB.out.nl] at c2
  obtain ⟨g1, v1, v2, v3, v4, v5, v6, v7, v8⟩ := r1.val HB.out.at'.hi HB.out.hx HB.out.fx
  rw [HB.out.sa] at v1
  cases v1
  rw [HB.out.nl] at v2
  obtain ⟨g2, f1, f2, f3, f4, f5, f6⟩ := r1.fm HB.out.at'.hi HB.out.hx HB.out.hj
  rw [HB.out.fa] at f1
  cases f1
  have q1 := f5 1 (by omega)
  simp only [fCells, List.getElem?_cons_succ, List.getElem?_cons_zero] at q1
  have q2 := f6 (j * 5 + 1)
  have hTl := r1.ths.here.has.lt
  have e1 : (N : Int) - (x : Int) - 1 = (P : Int) := by omega
  have hPN : P < N := by omega
  have c3 := r1.thCell HB.out.at'.hi HB.out.hx (j := 3) (by omega)
  simp only [thCells, List.getElem?_cons_succ, List.getElem?_cons_zero, Sl.v, HB.out.fa] at c3
  obtain ⟨F, HF⟩ : ∃ F, Hid (t.frames.length = F) := ⟨_, rfl⟩
  rw [HF.out] at c3
  have hF8 : F ≤ 8 := by rw [← HF.out]; exact HB.out.at'.ok.fr.len
  have hgT : g ≠ A.bT := fun e => by
    have h1 := f3
    rw [e, r1.ths.here.lb] at h1
    omega
  have hgs : g ≠ gs := fun e => by
    rw [e, v3] at f3
    omega
  have hTg : A.bT ≠ g := fun e => hgT e.symm
  have hsg : gs ≠ g := fun e => hgs e.symm
  obtain ⟨D, HD⟩ : ∃ D : Nat, Hid (D = if x = 0 then 0 else (P + 1) * 3) := ⟨_, rfl⟩
  have hsl : ∀ W, (Instr.sliceAt 85 (.slice (some ⟨gs, 0, none⟩) N l.s.c) (some (.int .i64 ((P : Int) + 1))) (some (.int .i64 N)) (some (.int .i64 N))).run Tryz.prog W = .ok (.slice (some ⟨gs, D, none⟩) x x) W := fun W => by
    rw [win_slice (by omega) v2 (by omega)]
    rw [show N - (P + 1) = x by omega]
    by_cases hx0 : x = 0
    · rw [HD.out, if_pos hx0, if_pos (by omega)]
    · rw [HD.out, if_neg hx0, if_neg (by omega)]
  have hvc := r1.setPc HB.out.at'.hi HB.out.hx HB.out.fa HB.out.hj (fm.pc + 1)
  obtain ⟨m1, HM1⟩ : ∃ m1, Hid (m.setTh i { t with frames := t.frames.set j { fm with pc := fm.pc + 1 } } = m1) := ⟨_, rfl⟩
  obtain ⟨t1, HT1⟩ : ∃ t1 : ThD, Hid ({ t with frames := t.frames.set j { fm with pc := fm.pc + 1 } } = t1) := ⟨_, rfl⟩
  rw [HM1.out] at hvc
  obtain ⟨w2, HW2⟩ : ∃ w2, Hid ((w1.setCell ⟨g, j * 5 + 1, none⟩ (.int .i64 ((fm.pc : Int) + 1))).alloc (.cells #[.int .i64 fnt, .int .u64 fnn, sv fns] 68) = w2) := ⟨_, rfl⟩
  have HR2 : Hid (VRep w2 A m1 f e) := by rw [← HW2.out]; exact hvc.1.fresh ((Fr.refl _ _).alloc _)
  have HS2 : Hid (VSt isVM w A w2 A) := by rw [← HW2.out]; exact (HS1.out.trans (hvc.2.weaken (fun k hk => by unfold isVM; unfold isT at hk; omega))).trans (VSt.fresh ((Fr.refl _ _).alloc _))
  have hE2 : Has w2 w.heap.size #[.int .i64 0, .int .i64 0, .int .i64 0, .int .i64 0, .int .u64 0, sv [], .int .i64 0, .int .u64 0, sv []] 190 ∧ A.o w.heap.size = 0 := by
    have h1 := hvc.2.keep0 isT0 HE1.out HZ.out
    rw [← HW2.out]
    exact ⟨h1.1.alloc _, h1.2⟩
  have HE2 : Hid (Has w2 w.heap.size #[.int .i64 0, .int .i64 0, .int .i64 0, .int .i64 0, .int .u64 0, sv [], .int .i64 0, .int .u64 0, sv []] 190 ∧ A.o w.heap.size = 0) := hE2
  have HF2 : Hid (Has w2 w1.heap.size #[.int .i64 fnt, .int .u64 fnn, sv fns] 68) := by rw [← HW2.out]; exact Has.newC _ _ _ (by simp [World.setCell])
  have HI1 : Hid (m1.ths[i]? = some t1) := by rw [← HM1.out, ← HT1.out]; exact setTh_at HB.out.at'.hi
  have HA1 : Hid (At K m1 i t1 { fm with pc := fm.pc + 1 }) := by
    have h1 := HB.out.at'.pc (x := fm.pc + 1) HB.out.pcd
    rw [← HB.out.jl] at h1
    have h2 : setPc m i (fm.pc + 1) = m1 := by rw [← HM1.out]; exact setPc_is HB.out
    rw [h2, HT1.out] at h1
    exact h1.1
  have HCP : Hid (setPc m i ((topF m i).pc + 1) = m1) := by
    show _ = _
    rw [HB.out.at'.topF, ← HM1.out]
    exact setPc_is HB.out
  have HC : Hid (callP m i x = caQ m1 i t1 F P ⟨fnt, fnn, fns⟩ args) := callP_caQ HCP.out HI1.out (by rw [← HT1.out]) (by rw [← HT1.out, ← HF.out]; simp) HB.out.nl HB.out.pl HB.out.fx HB.out.ax
  rw [HC.out] at HQ
  clear HC HCP
  have HT1S : Hid (t1.stack = t.stack ∧ t1.frames.length = t.frames.length) := by rw [← HT1.out]; exact ⟨rfl, by simp⟩
  clear v3 v8 f2 f3 f5 f6 r1 s1 hz1 hpl hvc hE2
  subst h5
  have hF9 : F < 8 := by rw [HF.out] at h8; exact h8
  clear h8
  have hF9b : decide ((F : Int) ≥ 8) = false := by rw [decide_eq_false_iff_not]; omega
  have vfn : VOk K ⟨5, fnn, fns⟩ := HB.out.at'.ok.sv _ (List.mem_of_getElem? HB.out.fx)
  have hnn := vfn.c rfl
  have hc24 := HB.out.at'.vi.cn
  obtain ⟨q, p, hq, hp, hpe, hpm, hnup, hup⟩ := HA1.out.vi.proto hnn
  have HCA : Hid (Calls Tryz.prog 142 #[.pointer (some ⟨A.b, 0, none⟩), .pointer (some ⟨A.bT, i * 5, none⟩), .int .i64 fnn, (.slice (some ⟨gs, D, none⟩) x x), .int .i64 P, .bool false] w2 fun e' w' => e' = .returned (.tuple #[]) ∧ ∃ A', VRep w' A' (enter m1 i fnn args P false) f e ∧ VSt (isT i) w2 A w' A') := by
    have hpk := HA1.out.vi.txt.pr p hpm
    have hts := HT1S.out
    exact enter_any HR2.out HI1.out hq hp hpk.np hpk.ns (by rw [HA1.out.vi.kc]; omega) (by have := HA1.out.vi.txt.pl; omega) (caWin HR2.out HI1.out HB.out.hx HB.out.sa (by rw [hts.1, HB.out.nl, HB.out.pl]) (by rw [hts.1]; exact HB.out.ax) HD.out) (by rw [← HB.out.ax, List.length_drop, HB.out.nl, HB.out.pl]; omega) (by omega) false (by rw [hts.1, HB.out.nl]; omega) (by rw [hts.2, HF.out]; omega)
  clear hpm hnup hup hpe hq hp vfn
  go_wp2_with fail
  rw [HW2.out]
  refine HCA.out.mono ?_
  rintro e' w3 ⟨rfl, A3, r3, s3⟩
  have HR3 : Hid (VRep w3 A3 (enter m1 i fnn args P false) f e) := r3
  have HS3 : Hid (VSt isVM w A w3 A3) := HS2.out.trans (s3.weaken (fun _ => isT_vm))
  have HE3 : Hid (Has w3 w.heap.size (evCells ev0) 190 ∧ A3.o w.heap.size = 0) := s3.keep0 isT0 HE2.out.1 HE2.out.2
  clear r3 s3
  have FIN : Hid (Q (.returned (EvD.val ev0)) (set9 w3 w.heap.size ev0)) := by
    rw [← HQ.out]
    have hc : caQ m1 i t1 F P ⟨5, fnn, fns⟩ args = (.inr ev0, enter m1 i fnn args P false) := by
      unfold caQ
      rw [if_pos rfl, if_neg (by omega)]
    rw [hc]
    exact ⟨rfl, A3, HR3.out.set9 HE3.out.2 _, HS3.out.set9 (Nat.le_refl _) _⟩
  obtain ⟨x0, x1, x2, x3, x4, x5, x6, x7, x8⟩ := HE3.out.1.ev
  have hz := HE3.out.1.frozen
  have hz0 := hz 0
  have hz1 := hz 1
  have hz2 := hz 2
  have hz3 := hz 3
  have hz4 := hz 4
  have hz5 := hz 5
  have hz6 := hz 6
  have hz7 := hz 7
  have hz8 := hz 8
  clear hz
  dsimp only [ev0, nilV] at x0 x1 x2 x3 x4 x5 x6 x7 x8
  have hbe := HE3.out.1.lt
  go_wp2_with fail
  refine bodyPost_ret (res_cell isEvent rfl rfl (Has.set9 ev0 HE3.out.1) rfl) rfl FIN.out
end
end Go.Proofs.Qxb6500574aGreatDoor
