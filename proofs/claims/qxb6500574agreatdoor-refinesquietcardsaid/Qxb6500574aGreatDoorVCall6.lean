/-
  THE WALK of vm: call: yield; call whole.
-/
import Derived.Test.Qxb6500574aGreatDoorVCall5
import Derived.Test.Qxb6500574aGreatDoorVCall4
import Derived.Test.Qxb6500574aGreatDoorVCall2
namespace Go.Proofs.Qxb6500574aGreatDoor
open Go Go.RowKit
set_option linter.unusedVariables false
set_option linter.unusedSimpArgs false
section
variable {w : World} {A : VL} {m : VMD} {f e i g gs j x P N : Nat} {t : ThD} {l : ThL} {K : Cx} {fm : FmD} {fn : Vl} {args : List Vl}
set_option maxRecDepth 100000
set_option maxHeartbeats 600000
theorem call_ym (h : CaB w A m f e K i t fm l g gs j x P N fn args) (h6 : fn.t = 6) (hn : fn.n = 10) (H0 : Hid (i = 0)) : Calls Tryz.prog 267 #[.pointer (some ⟨A.b, 0, none⟩), .int .i64 i, .pointer (some ⟨A.bT, i * 5, none⟩), .pointer (some ⟨g, j * 5, none⟩), .int .i64 x] w (CaPost (callP m i x) w A f e) := by
  obtain ⟨Q, HQ⟩ : ∃ Q : Ending → World → Prop, Hid (CaPost (callP m i x) w A f e = Q) := ⟨_, rfl⟩
  rw [HQ.out]
  have HB : Hid (CaB w A m f e K i t fm l g gs j x P N fn args) := h
  have hx3 := h.x3
  have hpl := h.pl
  have hN : N ≤ 1120 := by rw [← h.nl]; exact h.at'.sl h.room
  have hpc := h.pc
  have HZ : Hid (A.o w.heap.size = 0) := h.rep.own _ (Nat.le_refl _)
  have hbl := h.rep.bl
  obtain ⟨fnt, fnn, fns⟩ := fn
  clear h
  go_enter Tryz.func267, Tryz.ntmps267
  go_wp2_with fail
  refine (burn_ok (HB.out.rep.fresh ((Fr.refl _ w).alloc (.cells #[.int .i64 0, .int .i64 0, .int .i64 0, .int .i64 0, .int .u64 0, sv [], .int .i64 0, .int .u64 0, sv []] 190))) HB.out.fu).mono ?_
  rintro e' w1 ⟨rfl, r1, s1⟩
  have hz1 : A.o w1.heap.size = 0 := r1.own _ (Nat.le_refl _)
  have HZ1 : Hid (A.o w1.heap.size = 0) := hz1
  have HR1 : Hid (VRep w1 A m f e) := r1
  have HS1 : Hid (VSt isVM w A w1 A) := (VSt.fresh ((Fr.refl _ w).alloc _)).trans (s1.weaken (fun k hk => by unfold isVM; unfold isCo at hk; omega))
  have HE1 : Hid (Has w1 w.heap.size #[.int .i64 0, .int .i64 0, .int .i64 0, .int .i64 0, .int .u64 0, sv [], .int .i64 0, .int .u64 0, sv []] 190) := (s1.keep0 (fun x => by unfold isCo at x; omega) (Has.new w _ _) HZ.out).1
  have c2 := r1.thCell HB.out.at'.hi HB.out.hx (j := 2) (by omega)
  simp only [thCells, List.getElem?_cons_succ, List.getElem?_cons_zero, Sl.v, HB.out.sa, HB.out.nl] at c2
  obtain ⟨g1, v1, v2, v3, v4, v5, v6, v7, v8⟩ := r1.val HB.out.at'.hi HB.out.hx HB.out.fx
  rw [HB.out.sa] at v1
  cases v1
  rw [HB.out.nl] at v2
  obtain ⟨g2, f1, f2, f3, f4, f5, f6⟩ := r1.fm HB.out.at'.hi HB.out.hx HB.out.hj
  rw [HB.out.fa] at f1
  cases f1
  have q1 := f5 1 (by omega)
  simp only [fCells, List.getElem?_cons_succ, List.getElem?_cons_zero] at q1
  have q2 := f6 (j * 5 + 1)
  have hTl := r1.ths.here.has.lt
  have e1 : (N : Int) - (x : Int) - 1 = (P : Int) := by omega
  have hPN : P < N := by omega
  have c3 := r1.thCell HB.out.at'.hi HB.out.hx (j := 3) (by omega)
  simp only [thCells, List.getElem?_cons_succ, List.getElem?_cons_zero, Sl.v, HB.out.fa] at c3
  obtain ⟨F, HF⟩ : ∃ F, Hid (t.frames.length = F) := ⟨_, rfl⟩
  rw [HF.out] at c3
  have hF8 : F ≤ 8 := by rw [← HF.out]; exact HB.out.at'.ok.fr.len
  have hgT : g ≠ A.bT := fun e => by
    have h1 := f3
    rw [e, r1.ths.here.lb] at h1
    omega
  have hgs : g ≠ gs := fun e => by
    rw [e, v3] at f3
    omega
  have hTg : A.bT ≠ g := fun e => hgT e.symm
  have hsg : gs ≠ g := fun e => hgs e.symm
  obtain ⟨D, HD⟩ : ∃ D : Nat, Hid (D = if x = 0 then 0 else (P + 1) * 3) := ⟨_, rfl⟩
  have hsl : ∀ W, (Instr.sliceAt 85 (.slice (some ⟨gs, 0, none⟩) N l.s.c) (some (.int .i64 ((P : Int) + 1))) (some (.int .i64 N)) (some (.int .i64 N))).run Tryz.prog W = .ok (.slice (some ⟨gs, D, none⟩) x x) W := fun W => by
    rw [win_slice (by omega) v2 (by omega)]
    rw [show N - (P + 1) = x by omega]
    by_cases hx0 : x = 0
    · rw [HD.out, if_pos hx0, if_pos (by omega)]
    · rw [HD.out, if_neg hx0, if_neg (by omega)]
  have hvc := r1.setPc HB.out.at'.hi HB.out.hx HB.out.fa HB.out.hj (fm.pc + 1)
  obtain ⟨m1, HM1⟩ : ∃ m1, Hid (m.setTh i { t with frames := t.frames.set j { fm with pc := fm.pc + 1 } } = m1) := ⟨_, rfl⟩
  obtain ⟨t1, HT1⟩ : ∃ t1 : ThD, Hid ({ t with frames := t.frames.set j { fm with pc := fm.pc + 1 } } = t1) := ⟨_, rfl⟩
  rw [HM1.out] at hvc
  obtain ⟨w2, HW2⟩ : ∃ w2, Hid ((w1.setCell ⟨g, j * 5 + 1, none⟩ (.int .i64 ((fm.pc : Int) + 1))).alloc (.cells #[.int .i64 fnt, .int .u64 fnn, sv fns] 68) = w2) := ⟨_, rfl⟩
  have HR2 : Hid (VRep w2 A m1 f e) := by rw [← HW2.out]; exact hvc.1.fresh ((Fr.refl _ _).alloc _)
  have HS2 : Hid (VSt isVM w A w2 A) := by rw [← HW2.out]; exact (HS1.out.trans (hvc.2.weaken (fun k hk => by unfold isVM; unfold isT at hk; omega))).trans (VSt.fresh ((Fr.refl _ _).alloc _))
  have hE2 : Has w2 w.heap.size #[.int .i64 0, .int .i64 0, .int .i64 0, .int .i64 0, .int .u64 0, sv [], .int .i64 0, .int .u64 0, sv []] 190 ∧ A.o w.heap.size = 0 := by
    have h1 := hvc.2.keep0 isT0 HE1.out HZ.out
    rw [← HW2.out]
    exact ⟨h1.1.alloc _, h1.2⟩
  have HE2 : Hid (Has w2 w.heap.size #[.int .i64 0, .int .i64 0, .int .i64 0, .int .i64 0, .int .u64 0, sv [], .int .i64 0, .int .u64 0, sv []] 190 ∧ A.o w.heap.size = 0) := hE2
  have HF2 : Hid (Has w2 w1.heap.size #[.int .i64 fnt, .int .u64 fnn, sv fns] 68) := by rw [← HW2.out]; exact Has.newC _ _ _ (by simp [World.setCell])
  have HI1 : Hid (m1.ths[i]? = some t1) := by rw [← HM1.out, ← HT1.out]; exact setTh_at HB.out.at'.hi
  have HA1 : Hid (At K m1 i t1 { fm with pc := fm.pc + 1 }) := by
    have h1 := HB.out.at'.pc (x := fm.pc + 1) HB.out.pcd
    rw [← HB.out.jl] at h1
    have h2 : setPc m i (fm.pc + 1) = m1 := by rw [← HM1.out]; exact setPc_is HB.out
    rw [h2, HT1.out] at h1
    exact h1.1
  have HCP : Hid (setPc m i ((topF m i).pc + 1) = m1) := by
    show _ = _
    rw [HB.out.at'.topF, ← HM1.out]
    exact setPc_is HB.out
  have HC : Hid (callP m i x = caQ m1 i t1 F P ⟨fnt, fnn, fns⟩ args) := callP_caQ HCP.out HI1.out (by rw [← HT1.out]) (by rw [← HT1.out, ← HF.out]; simp) HB.out.nl HB.out.pl HB.out.fx HB.out.ax
  rw [HC.out] at HQ
  clear HC HCP
  have HT1S : Hid (t1.stack = t.stack ∧ t1.frames.length = t.frames.length) := by rw [← HT1.out]; exact ⟨rfl, by simp⟩
  clear v3 v8 f2 f3 f5 f6 r1 s1 hz1 hpl hvc hE2
  have HN : Hid (fnn = 10) := hn
  clear hn
  subst h6
  go_wp2_with fail
  rw [HW2.out]
  have hal : args.length = x := by rw [← HB.out.ax, List.length_drop, HB.out.nl, HB.out.pl]; omega
  have HW0 : Hid (Win w2 w2 A i t1 (.slice (some ⟨gs, D, none⟩) x x) args) := caWin HR2.out HI1.out HB.out.hx HB.out.sa (by rw [HT1S.out.1, HB.out.nl, HB.out.pl]) (by rw [HT1S.out.1]; exact HB.out.ax) HD.out
  have HAL : Hid (args.length = x) := hal
  clear hal
  go_loopw [14] (fun u wr => ∃ (xs : List Vl), xs.length ≤ 3 ∧ slLen u = xs.length ∧ Hid (Win wr w2 A i t1 u xs) ∧ Hid (Fr (fun _ => False) w2 wr) ∧ Hid (∀ j, xs.getD j nilV = args.getD j nilV)) (fun u _ => 4 - slLen u)
  case atStart =>
    refine ⟨args, by rw [HAL.out]; exact hx3, ?_, HW0, Fr.refl _ _, fun _ => rfl⟩
    rw [HAL.out]
    rfl
  case round =>
    obtain ⟨xs, hxs3, hxl, W1, F1, G1⟩ := hrel
    obtain ⟨B, d, cc, W2⟩ := W1.out
    have hv2 := W2.hv
    subst hv2
    obtain ⟨X, HX⟩ : ∃ N : Nat, Hid (xs.length = N) := ⟨_, rfl⟩
    have w2le := W2.le
    have w2lt := W2.lt
    clear W2 hxl
    rw [HX.out] at hxs3 w2le W1 ⊢
    by_cases hlt : X < 3
    · have hlt2 : (X : Int) < 3 := by omega
      have HG : Hid (∀ b, Win (wr.alloc b) w2 A i t1 (.slice (some ⟨B, d, none⟩) X cc) xs ∧ Fr (fun _ => False) w2 (wr.alloc b)) := fun b => ⟨W1.out.fresh ((Fr.refl _ _).alloc b), F1.out.alloc b⟩
      go_wp2_with (at_builtin; go_must (refine wpList_appWin rfl (.tmp 81) (.tmp 83) rfl HR2.out HI1.out (HG.out _).2 rfl (HG.out _).1 rfl (Has.new _ _ _) ?bd ?go))
      case bd => rw [HX.out]; omega
      case go =>
        intro v' w' q1 q2
        have Q1 : Hid (Win w' w2 A i t1 v' (xs ++ [nilV])) := q1
        have Q2 : Hid (Fr (fun _ => False) w2 w') := q2
        have hxl : (xs ++ [nilV]).length = X + 1 := by rw [List.length_append, HX.out]; rfl
        have hsl2 : slLen v' = X + 1 := by
          obtain ⟨B, d, c, W⟩ := q1
          rw [W.hv, hxl]
          rfl
        clear q1 q2
        go_wp2_with fail
        refine ⟨⟨xs ++ [nilV], by omega, by rw [hsl2, hxl], Q1, Q2, fun j => ?_⟩, ?_⟩
        · rw [← G1.out j]
          exact getD_nil xs j
        · rw [hsl2]
          simp only [slLen]
          omega
    · obtain rfl : X = 3 := by omega
      clear hlt hxs3
      obtain ⟨B2, d2, c2', h1, _, _, h2, h3⟩ := W1.out.at3 HX.out
      have e4 := h1
      simp only [Value.slice.injEq, Option.some.injEq, Addr.mk.injEq] at e4
      obtain ⟨⟨rfl, rfl, _⟩, _, _⟩ := e4
      clear h1
      rw [G1.out 0, G1.out 1] at h2
      rw [G1.out 1] at h3
      obtain ⟨a0, HA0⟩ : ∃ v, Hid (args.getD 0 nilV = v) := ⟨_, rfl⟩
      obtain ⟨a1, HA1v⟩ : ∃ v, Hid (args.getD 1 nilV = v) := ⟨_, rfl⟩
      rw [HA0.out, HA1v.out] at h2
      rw [HA1v.out] at h3
      obtain ⟨W3, HW3⟩ : ∃ W3, Hid ((wr.alloc (.cells #[.int .i64 0, .int .u64 0, sv []] 68)).alloc (.cells #[.int .i64 0, .int .u64 0, sv []] 68) = W3) := ⟨_, rfl⟩
      have f23 : Fr (fun _ => False) wr W3 := by rw [← HW3.out]; exact ((Fr.refl _ wr).alloc _).alloc _
      have f13 : Fr (fun _ => False) w2 W3 := F1.out.trans f23 (fun _ _ x => x)
      have HR3 : Hid (VRep W3 A m1 f e) := HR2.out.fresh f13
      have HS3 : Hid (VSt isVM w A W3 A) := HS2.out.trans (VSt.fresh f13)
      have HE3 : Hid (Has W3 w.heap.size (evCells ev0) 190 ∧ A.o w.heap.size = 0) := ⟨HE2.out.1.fr f13 (fun x => x), HE2.out.2⟩
      have HAR : Hid (Ar W3 B d a0 a1) := h2.fresh f23
      have HARr : Hid (Ar wr B d a0 a1) := h2
      have har : ∀ W c, (Instr.arrayAt 317 (.slice (some ⟨B, d, none⟩) 3 c)).run Tryz.prog W = .ok (.pointer (some ⟨B, d, none⟩)) W := fun W c => run_arrayAt _ _ 68 3 _ _ _ (by kernel_rfl) (Nat.le_refl _)
      have HSr : Hid (VSt isVM w A wr A) := HS2.out.trans (VSt.fresh F1.out)
      have HEr : Hid (Has wr w.heap.size (evCells ev0) 190 ∧ A.o w.heap.size = 0) := ⟨HE2.out.1.fr F1.out (fun x => x), HE2.out.2⟩
      have HF3r : Hid (Fr (fun _ => False) wr W3) := f23
      have HWN : Hid (Win W3 W3 A i t1 (.slice (some ⟨B, d + 3, none⟩) 1 1) [a1]) := by
        obtain ⟨b1, d1, c1, w1'⟩ := h3
        refine ⟨b1, d1, c1, w1'.hv, fun j u hj => ⟨f23.cell (w1'.cl j u hj).1, (w1'.cl j u hj).2⟩, ?_, w1'.le, Nat.lt_of_lt_of_le w1'.lt f23.size⟩
        have := w1'.hv
        simp only [Value.slice.injEq] at this
        exact .inl (by rw [← this.2.2]; rfl)
      have HRR : Hid (R2 W3 wr.heap.size nilV nilV) := by rw [← HW3.out]; exact R2.new wr
      have hwr := F1.out.size
      have HZR : Hid (A.o wr.heap.size = 0 ∧ A.o (wr.heap.size + 1) = 0) := ⟨HR2.out.own _ hwr, HR2.out.own _ (Nat.le_succ_of_le hwr)⟩
      have HFN : Hid (Has wr w1.heap.size #[.int .i64 6, .int .u64 fnn, sv fns] 68) := HF2.out.fr F1.out (fun x => x)
      obtain ⟨fn0, fn1, fn2⟩ := HFN.out.cells3 (v := ⟨6, fnn, fns⟩)
      dsimp only at fn0 fn1 fn2
      have fnl := HFN.out.lt
      have va0 : VOk K a0 := by rw [← HA0.out]; exact getD_ok (fun v hv => HB.out.at'.ok.sv v (by rw [← HB.out.ax] at hv; exact List.mem_of_mem_drop hv)) 0
      have va1 : VOk K a1 := by rw [← HA1v.out]; exact getD_ok (fun v hv => HB.out.at'.ok.sv v (by rw [← HB.out.ax] at hv; exact List.mem_of_mem_drop hv)) 1
      have HV0 : Hid (VOk K a0) := va0
      have HV1 : Hid (VOk K a1) := va1
      obtain ⟨n0t, n0n, n0s⟩ := a0
      obtain ⟨n1t, n1n, n1s⟩ := a1
      clear h2 h3 f23 f13 va0 va1
      have HWS : Hid (w2.heap.size ≤ wr.heap.size ∧ W3.heap.size = wr.heap.size + 2) := ⟨hwr, by rw [← HW3.out]; simp⟩
      clear hwr
      obtain rfl := HN.out
      have fnc : ((10 : Nat) : Int) = 10 := rfl
      rw [fnc] at fn1
      clear fnc HN
      obtain ⟨g0, g1, g2, g3, g4, g5, gl⟩ := HARr.out
      dsimp only at g0 g1 g2 g3 g4 g5
      have c3r := (HR2.out.fresh F1.out).thCell HI1.out HB.out.hx (j := 3) (by omega)
      simp only [thCells, List.getElem?_cons_succ, List.getElem?_cons_zero, Sl.v, HT1S.out.2, HF.out, HB.out.fa] at c3r
      have hTr := (HR2.out.fresh F1.out).ths.here.has.lt
      have b0 : ((i : Int) == 0) = true := by rw [beq_iff_eq]; have := H0.out; omega
      go_wp2_with fail
      refine (raise_any mYield).mono ?_
      rintro e' w4 ⟨⟨b, rfl, hb, hbl2⟩, f3⟩
      rw [HW3.out] at f3 hbl2
      have FIN : Hid (Q (.panicked (thrE b)) w4) := by
        rw [← HQ.out]
        have hc : caQ m1 i t1 F P ⟨6, 10, fns⟩ args = thrR mYield m1 := by
          unfold caQ
          rw [if_neg (fun h => by cases h), if_neg (fun h => h rfl)]
          dsimp only
          rw [if_neg (by decide), if_neg (by decide), if_pos rfl, if_pos H0.out]
        rw [hc]
        exact ⟨⟨b, rfl, hb, by have := HS3.out.st.fr.size; omega⟩, A, HR3.out.fresh f3, HS3.out.trans (VSt.fresh f3)⟩
      exact ⟨rfl, FIN.out⟩
theorem call_yield (h : CaB w A m f e K i t fm l g gs j x P N fn args) (h6 : fn.t = 6) (hn : fn.n = 10) (h0 : i ≠ 0) : Calls Tryz.prog 267 #[.pointer (some ⟨A.b, 0, none⟩), .int .i64 i, .pointer (some ⟨A.bT, i * 5, none⟩), .pointer (some ⟨g, j * 5, none⟩), .int .i64 x] w (CaPost (callP m i x) w A f e) := by
  obtain ⟨Q, HQ⟩ : ∃ Q : Ending → World → Prop, Hid (CaPost (callP m i x) w A f e = Q) := ⟨_, rfl⟩
  rw [HQ.out]
  have HB : Hid (CaB w A m f e K i t fm l g gs j x P N fn args) := h
  have hx3 := h.x3
  have hpl := h.pl
  have hN : N ≤ 1120 := by rw [← h.nl]; exact h.at'.sl h.room
  have hpc := h.pc
  have HZ : Hid (A.o w.heap.size = 0) := h.rep.own _ (Nat.le_refl _)
  have hbl := h.rep.bl
  obtain ⟨fnt, fnn, fns⟩ := fn
  clear h
  go_enter Tryz.func267, Tryz.ntmps267
  go_wp2_with fail
  refine (burn_ok (HB.out.rep.fresh ((Fr.refl _ w).alloc (.cells #[.int .i64 0, .int .i64 0, .int .i64 0, .int .i64 0, .int .u64 0, sv [], .int .i64 0, .int .u64 0, sv []] 190))) HB.out.fu).mono ?_
  rintro e' w1 ⟨rfl, r1, s1⟩
  have hz1 : A.o w1.heap.size = 0 := r1.own _ (Nat.le_refl _)
  have HZ1 : Hid (A.o w1.heap.size = 0) := hz1
  have HR1 : Hid (VRep w1 A m f e) := r1
  have HS1 : Hid (VSt isVM w A w1 A) := (VSt.fresh ((Fr.refl _ w).alloc _)).trans (s1.weaken (fun k hk => by unfold isVM; unfold isCo at hk; omega))
  have HE1 : Hid (Has w1 w.heap.size #[.int .i64 0, .int .i64 0, .int .i64 0, .int .i64 0, .int .u64 0, sv [], .int .i64 0, .int .u64 0, sv []] 190) := (s1.keep0 (fun x => by unfold isCo at x; omega) (Has.new w _ _) HZ.out).1
  have c2 := r1.thCell HB.out.at'.hi HB.out.hx (j := 2) (by omega)
  simp only [thCells, List.getElem?_cons_succ, List.getElem?_cons_zero, Sl.v, HB.out.sa, HB.out.nl] at c2
  obtain ⟨g1, v1, v2, v3, v4, v5, v6, v7, v8⟩ := r1.val HB.out.at'.hi HB.out.hx HB.out.fx
  rw [HB.out.sa] at v1
  cases v1
  rw [HB.out.nl] at v2
  obtain ⟨g2, f1, f2, f3, f4, f5, f6⟩ := r1.fm HB.out.at'.hi HB.out.hx HB.out.hj
  rw [HB.out.fa] at f1
  cases f1
  have q1 := f5 1 (by omega)
  simp only [fCells, List.getElem?_cons_succ, List.getElem?_cons_zero] at q1
  have q2 := f6 (j * 5 + 1)
  have hTl := r1.ths.here.has.lt
  have e1 : (N : Int) - (x : Int) - 1 = (P : Int) := by omega
  have hPN : P < N := by omega
  have c3 := r1.thCell HB.out.at'.hi HB.out.hx (j := 3) (by omega)
  simp only [thCells, List.getElem?_cons_succ, List.getElem?_cons_zero, Sl.v, HB.out.fa] at c3
  obtain ⟨F, HF⟩ : ∃ F, Hid (t.frames.length = F) := ⟨_, rfl⟩
  rw [HF.out] at c3
  have hF8 : F ≤ 8 := by rw [← HF.out]; exact HB.out.at'.ok.fr.len
  have hgT : g ≠ A.bT := fun e => by
    have h1 := f3
    rw [e, r1.ths.here.lb] at h1
    omega
  have hgs : g ≠ gs := fun e => by
    rw [e, v3] at f3
    omega
  have hTg : A.bT ≠ g := fun e => hgT e.symm
  have hsg : gs ≠ g := fun e => hgs e.symm
  obtain ⟨D, HD⟩ : ∃ D : Nat, Hid (D = if x = 0 then 0 else (P + 1) * 3) := ⟨_, rfl⟩
  have hsl : ∀ W, (Instr.sliceAt 85 (.slice (some ⟨gs, 0, none⟩) N l.s.c) (some (.int .i64 ((P : Int) + 1))) (some (.int .i64 N)) (some (.int .i64 N))).run Tryz.prog W = .ok (.slice (some ⟨gs, D, none⟩) x x) W := fun W => by
    rw [win_slice (by omega) v2 (by omega)]
    rw [show N - (P + 1) = x by omega]
    by_cases hx0 : x = 0
    · rw [HD.out, if_pos hx0, if_pos (by omega)]
    · rw [HD.out, if_neg hx0, if_neg (by omega)]
  have hvc := r1.setPc HB.out.at'.hi HB.out.hx HB.out.fa HB.out.hj (fm.pc + 1)
  obtain ⟨m1, HM1⟩ : ∃ m1, Hid (m.setTh i { t with frames := t.frames.set j { fm with pc := fm.pc + 1 } } = m1) := ⟨_, rfl⟩
  obtain ⟨t1, HT1⟩ : ∃ t1 : ThD, Hid ({ t with frames := t.frames.set j { fm with pc := fm.pc + 1 } } = t1) := ⟨_, rfl⟩
  rw [HM1.out] at hvc
  obtain ⟨w2, HW2⟩ : ∃ w2, Hid ((w1.setCell ⟨g, j * 5 + 1, none⟩ (.int .i64 ((fm.pc : Int) + 1))).alloc (.cells #[.int .i64 fnt, .int .u64 fnn, sv fns] 68) = w2) := ⟨_, rfl⟩
  have HR2 : Hid (VRep w2 A m1 f e) := by rw [← HW2.out]; exact hvc.1.fresh ((Fr.refl _ _).alloc _)
  have HS2 : Hid (VSt isVM w A w2 A) := by rw [← HW2.out]; exact (HS1.out.trans (hvc.2.weaken (fun k hk => by unfold isVM; unfold isT at hk; omega))).trans (VSt.fresh ((Fr.refl _ _).alloc _))
  have hE2 : Has w2 w.heap.size #[.int .i64 0, .int .i64 0, .int .i64 0, .int .i64 0, .int .u64 0, sv [], .int .i64 0, .int .u64 0, sv []] 190 ∧ A.o w.heap.size = 0 := by
    have h1 := hvc.2.keep0 isT0 HE1.out HZ.out
    rw [← HW2.out]
    exact ⟨h1.1.alloc _, h1.2⟩
  have HE2 : Hid (Has w2 w.heap.size #[.int .i64 0, .int .i64 0, .int .i64 0, .int .i64 0, .int .u64 0, sv [], .int .i64 0, .int .u64 0, sv []] 190 ∧ A.o w.heap.size = 0) := hE2
  have HF2 : Hid (Has w2 w1.heap.size #[.int .i64 fnt, .int .u64 fnn, sv fns] 68) := by rw [← HW2.out]; exact Has.newC _ _ _ (by simp [World.setCell])
  have HI1 : Hid (m1.ths[i]? = some t1) := by rw [← HM1.out, ← HT1.out]; exact setTh_at HB.out.at'.hi
  have HA1 : Hid (At K m1 i t1 { fm with pc := fm.pc + 1 }) := by
    have h1 := HB.out.at'.pc (x := fm.pc + 1) HB.out.pcd
    rw [← HB.out.jl] at h1
    have h2 : setPc m i (fm.pc + 1) = m1 := by rw [← HM1.out]; exact setPc_is HB.out
    rw [h2, HT1.out] at h1
    exact h1.1
  have HCP : Hid (setPc m i ((topF m i).pc + 1) = m1) := by
    show _ = _
    rw [HB.out.at'.topF, ← HM1.out]
    exact setPc_is HB.out
  have HC : Hid (callP m i x = caQ m1 i t1 F P ⟨fnt, fnn, fns⟩ args) := callP_caQ HCP.out HI1.out (by rw [← HT1.out]) (by rw [← HT1.out, ← HF.out]; simp) HB.out.nl HB.out.pl HB.out.fx HB.out.ax
  rw [HC.out] at HQ
  clear HC HCP
  have HT1S : Hid (t1.stack = t.stack ∧ t1.frames.length = t.frames.length) := by rw [← HT1.out]; exact ⟨rfl, by simp⟩
  clear v3 v8 f2 f3 f5 f6 r1 s1 hz1 hpl hvc hE2
  have HN : Hid (fnn = 10) := hn
  clear hn
  have H0 : Hid (i ≠ 0) := h0
  clear h0
  subst h6
  go_wp2_with fail
  rw [HW2.out]
  have hal : args.length = x := by rw [← HB.out.ax, List.length_drop, HB.out.nl, HB.out.pl]; omega
  have HW0 : Hid (Win w2 w2 A i t1 (.slice (some ⟨gs, D, none⟩) x x) args) := caWin HR2.out HI1.out HB.out.hx HB.out.sa (by rw [HT1S.out.1, HB.out.nl, HB.out.pl]) (by rw [HT1S.out.1]; exact HB.out.ax) HD.out
  have HAL : Hid (args.length = x) := hal
  clear hal
  go_loopw [14] (fun u wr => ∃ (xs : List Vl), xs.length ≤ 3 ∧ slLen u = xs.length ∧ Hid (Win wr w2 A i t1 u xs) ∧ Hid (Fr (fun _ => False) w2 wr) ∧ Hid (∀ j, xs.getD j nilV = args.getD j nilV)) (fun u _ => 4 - slLen u)
  case atStart =>
    refine ⟨args, by rw [HAL.out]; exact hx3, ?_, HW0, Fr.refl _ _, fun _ => rfl⟩
    rw [HAL.out]
    rfl
  case round =>
    obtain ⟨xs, hxs3, hxl, W1, F1, G1⟩ := hrel
    obtain ⟨B, d, cc, W2⟩ := W1.out
    have hv2 := W2.hv
    subst hv2
    obtain ⟨X, HX⟩ : ∃ N : Nat, Hid (xs.length = N) := ⟨_, rfl⟩
    have w2le := W2.le
    have w2lt := W2.lt
    clear W2 hxl
    rw [HX.out] at hxs3 w2le W1 ⊢
    by_cases hlt : X < 3
    · have hlt2 : (X : Int) < 3 := by omega
      have HG : Hid (∀ b, Win (wr.alloc b) w2 A i t1 (.slice (some ⟨B, d, none⟩) X cc) xs ∧ Fr (fun _ => False) w2 (wr.alloc b)) := fun b => ⟨W1.out.fresh ((Fr.refl _ _).alloc b), F1.out.alloc b⟩
      go_wp2_with (at_builtin; go_must (refine wpList_appWin rfl (.tmp 81) (.tmp 83) rfl HR2.out HI1.out (HG.out _).2 rfl (HG.out _).1 rfl (Has.new _ _ _) ?bd ?go))
      case bd => rw [HX.out]; omega
      case go =>
        intro v' w' q1 q2
        have Q1 : Hid (Win w' w2 A i t1 v' (xs ++ [nilV])) := q1
        have Q2 : Hid (Fr (fun _ => False) w2 w') := q2
        have hxl : (xs ++ [nilV]).length = X + 1 := by rw [List.length_append, HX.out]; rfl
        have hsl2 : slLen v' = X + 1 := by
          obtain ⟨B, d, c, W⟩ := q1
          rw [W.hv, hxl]
          rfl
        clear q1 q2
        go_wp2_with fail
        refine ⟨⟨xs ++ [nilV], by omega, by rw [hsl2, hxl], Q1, Q2, fun j => ?_⟩, ?_⟩
        · rw [← G1.out j]
          exact getD_nil xs j
        · rw [hsl2]
          simp only [slLen]
          omega
    · obtain rfl : X = 3 := by omega
      clear hlt hxs3
      obtain ⟨B2, d2, c2', h1, _, _, h2, h3⟩ := W1.out.at3 HX.out
      have e4 := h1
      simp only [Value.slice.injEq, Option.some.injEq, Addr.mk.injEq] at e4
      obtain ⟨⟨rfl, rfl, _⟩, _, _⟩ := e4
      clear h1
      rw [G1.out 0, G1.out 1] at h2
      rw [G1.out 1] at h3
      obtain ⟨a0, HA0⟩ : ∃ v, Hid (args.getD 0 nilV = v) := ⟨_, rfl⟩
      obtain ⟨a1, HA1v⟩ : ∃ v, Hid (args.getD 1 nilV = v) := ⟨_, rfl⟩
      rw [HA0.out, HA1v.out] at h2
      rw [HA1v.out] at h3
      obtain ⟨W3, HW3⟩ : ∃ W3, Hid ((wr.alloc (.cells #[.int .i64 0, .int .u64 0, sv []] 68)).alloc (.cells #[.int .i64 0, .int .u64 0, sv []] 68) = W3) := ⟨_, rfl⟩
      have f23 : Fr (fun _ => False) wr W3 := by rw [← HW3.out]; exact ((Fr.refl _ wr).alloc _).alloc _
      have f13 : Fr (fun _ => False) w2 W3 := F1.out.trans f23 (fun _ _ x => x)
      have HR3 : Hid (VRep W3 A m1 f e) := HR2.out.fresh f13
      have HS3 : Hid (VSt isVM w A W3 A) := HS2.out.trans (VSt.fresh f13)
      have HE3 : Hid (Has W3 w.heap.size (evCells ev0) 190 ∧ A.o w.heap.size = 0) := ⟨HE2.out.1.fr f13 (fun x => x), HE2.out.2⟩
      have HAR : Hid (Ar W3 B d a0 a1) := h2.fresh f23
      have HARr : Hid (Ar wr B d a0 a1) := h2
      have har : ∀ W c, (Instr.arrayAt 317 (.slice (some ⟨B, d, none⟩) 3 c)).run Tryz.prog W = .ok (.pointer (some ⟨B, d, none⟩)) W := fun W c => run_arrayAt _ _ 68 3 _ _ _ (by kernel_rfl) (Nat.le_refl _)
      have HSr : Hid (VSt isVM w A wr A) := HS2.out.trans (VSt.fresh F1.out)
      have HEr : Hid (Has wr w.heap.size (evCells ev0) 190 ∧ A.o w.heap.size = 0) := ⟨HE2.out.1.fr F1.out (fun x => x), HE2.out.2⟩
      have HF3r : Hid (Fr (fun _ => False) wr W3) := f23
      have HWN : Hid (Win W3 W3 A i t1 (.slice (some ⟨B, d + 3, none⟩) 1 1) [a1]) := by
        obtain ⟨b1, d1, c1, w1'⟩ := h3
        refine ⟨b1, d1, c1, w1'.hv, fun j u hj => ⟨f23.cell (w1'.cl j u hj).1, (w1'.cl j u hj).2⟩, ?_, w1'.le, Nat.lt_of_lt_of_le w1'.lt f23.size⟩
        have := w1'.hv
        simp only [Value.slice.injEq] at this
        exact .inl (by rw [← this.2.2]; rfl)
      have HRR : Hid (R2 W3 wr.heap.size nilV nilV) := by rw [← HW3.out]; exact R2.new wr
      have hwr := F1.out.size
      have HZR : Hid (A.o wr.heap.size = 0 ∧ A.o (wr.heap.size + 1) = 0) := ⟨HR2.out.own _ hwr, HR2.out.own _ (Nat.le_succ_of_le hwr)⟩
      have HFN : Hid (Has wr w1.heap.size #[.int .i64 6, .int .u64 fnn, sv fns] 68) := HF2.out.fr F1.out (fun x => x)
      obtain ⟨fn0, fn1, fn2⟩ := HFN.out.cells3 (v := ⟨6, fnn, fns⟩)
      dsimp only at fn0 fn1 fn2
      have fnl := HFN.out.lt
      have va0 : VOk K a0 := by rw [← HA0.out]; exact getD_ok (fun v hv => HB.out.at'.ok.sv v (by rw [← HB.out.ax] at hv; exact List.mem_of_mem_drop hv)) 0
      have va1 : VOk K a1 := by rw [← HA1v.out]; exact getD_ok (fun v hv => HB.out.at'.ok.sv v (by rw [← HB.out.ax] at hv; exact List.mem_of_mem_drop hv)) 1
      have HV0 : Hid (VOk K a0) := va0
      have HV1 : Hid (VOk K a1) := va1
      obtain ⟨n0t, n0n, n0s⟩ := a0
      obtain ⟨n1t, n1n, n1s⟩ := a1
      clear h2 h3 f23 f13 va0 va1
      have HWS : Hid (w2.heap.size ≤ wr.heap.size ∧ W3.heap.size = wr.heap.size + 2) := ⟨hwr, by rw [← HW3.out]; simp⟩
      clear hwr
      obtain rfl := HN.out
      have fnc : ((10 : Nat) : Int) = 10 := rfl
      rw [fnc] at fn1
      clear fnc HN
      obtain ⟨g0, g1, g2, g3, g4, g5, gl⟩ := HARr.out
      dsimp only at g0 g1 g2 g3 g4 g5
      have c3r := (HR2.out.fresh F1.out).thCell HI1.out HB.out.hx (j := 3) (by omega)
      simp only [thCells, List.getElem?_cons_succ, List.getElem?_cons_zero, Sl.v, HT1S.out.2, HF.out, HB.out.fa] at c3r
      have hTr := (HR2.out.fresh F1.out).ths.here.has.lt
      have b0 : ((i : Int) == 0) = false := by rw [beq_eq_false_iff_ne]; have := H0.out; omega
      have c2r := (HR2.out.fresh F1.out).thCell HI1.out HB.out.hx (j := 2) (by omega)
      simp only [thCells, List.getElem?_cons_succ, List.getElem?_cons_zero, Sl.v, HT1S.out.1, HB.out.nl, HB.out.sa] at c2r
      have f2r := (HR2.out.fresh F1.out).ths.frozen (i * 5 + 2)
      have hPn : ¬ (P : Int) < 0 := by omega
      have hPc : P ≤ l.s.c := by omega
      have c0r := (HR2.out.fresh F1.out).thCell HI1.out HB.out.hx (j := 0) (by omega)
      simp only [thCells, List.getElem?_cons_zero, Nat.add_zero] at c0r
      have f0r := (HR2.out.fresh F1.out).ths.frozen (i * 5)
      have hBT : B ≠ A.bT := by
        obtain ⟨b1, d1, c1, w1'⟩ := HWN.out
        have hv := w1'.hv
        have hk := (w1'.cl 0 _ rfl).2.1
        simp only [Value.slice.injEq, Option.some.injEq, Addr.mk.injEq] at hv
        rw [hv.1.1]
        exact hk
      have hBT' : A.bT ≠ B := fun h => hBT h.symm
      have hTo := (HR2.out.fresh F1.out).ths.here.lb
      have hTe : A.bT ≠ w.heap.size := fun h => by rw [h, HE2.out.2] at hTo; omega
      have hTe' : w.heap.size ≠ A.bT := fun h => hTe h.symm
      obtain ⟨x0, x1, x2, x3, x4, x5, x6, x7, x8⟩ := HEr.out.1.ev
      have hz := HEr.out.1.frozen
      have hz0 := hz 0
      have hz1 := hz 1
      have hz2 := hz 2
      have hz3 := hz 3
      have hz4 := hz 4
      have hz5 := hz 5
      have hz6 := hz 6
      have hz7 := hz 7
      have hz8 := hz 8
      clear hz
      dsimp only [ev0, nilV] at x0 x1 x2 x3 x4 x5 x6 x7 x8
      have hbe := HEr.out.1.lt
      have h1 := (HR2.out.fresh F1.out).setSt HI1.out HB.out.hx 2
      rw [Nat.add_zero] at h1
      have h2 := h1.1.cutS (setTh_at HI1.out) HB.out.hx (n := P) (by show P ≤ t1.stack.length; rw [HT1S.out.1, HB.out.nl]; omega)
      rw [setTh_set, HB.out.sa] at h2
      dsimp only at h2
      rw [show ((2 : Nat) : Int) = 2 from rfl] at h1 h2
      obtain ⟨w6, HW6⟩ : ∃ w6, Hid ((wr.setCell ⟨A.bT, i * 5, none⟩ (.int .i64 2)).setCell ⟨A.bT, i * 5 + 2, none⟩ (.slice (some ⟨gs, 0, none⟩) P l.s.c) = w6) := ⟨_, rfl⟩
      rw [HW6.out] at h2
      have s6 : VSt isVM wr A w6 A := (h1.2.weaken (fun _ => isT_vm)).trans (h2.2.weaken (fun _ => isT_vm))
      have HE6 : Hid (Has w6 w.heap.size (evCells ev0) 190 ∧ A.o w.heap.size = 0) := s6.keep0 (fun h => h rfl) HEr.out.1 HEr.out.2
      have HR6 : Hid (VRep w6 A (m1.setTh i { t1 with st := 2, stack := t1.stack.take P }) f e) := h2.1
      have HS6 : Hid (VSt isVM w A w6 A) := HSr.out.trans s6
      clear h1 h2 s6
      have FIN : Hid (Q (.returned (EvD.val ⟨3, 0, 0, ⟨n0t, n0n, n0s⟩, nilV⟩)) (((set9 w6 w.heap.size ⟨3, 0, 0, ⟨n0t, n0n, n0s⟩, nilV⟩).alloc (.cells #[.int .i64 0, .int .u64 0, sv []] 68)).alloc (.cells #[.int .i64 0, .int .u64 0, sv []] 68))) := by
        rw [← HQ.out]
        have hc : caQ m1 i t1 F P ⟨6, 10, fns⟩ args = (.inr ⟨3, 0, 0, ⟨n0t, n0n, n0s⟩, nilV⟩, m1.setTh i { t1 with st := 2, stack := t1.stack.take P }) := by
          unfold caQ
          rw [if_neg (fun h => by cases h), if_neg (fun h => h rfl)]
          dsimp only
          rw [if_neg (by decide), if_neg (by decide), if_pos rfl, if_neg H0.out, HA0.out]
        rw [hc]
        have f6 : Fr (fun _ => False) (set9 w6 w.heap.size ⟨3, 0, 0, ⟨n0t, n0n, n0s⟩, nilV⟩) (((set9 w6 w.heap.size ⟨3, 0, 0, ⟨n0t, n0n, n0s⟩, nilV⟩).alloc (.cells #[.int .i64 0, .int .u64 0, sv []] 68)).alloc (.cells #[.int .i64 0, .int .u64 0, sv []] 68)) := ((Fr.refl _ _).alloc _).alloc _
        exact ⟨rfl, A, (HR6.out.set9 HE6.out.2 _).fresh f6, (HS6.out.set9 (Nat.le_refl _) _).trans (VSt.fresh f6)⟩
      clear HQ
      go_wp2_with fail
      rw [HW6.out]
      exact bodyPost_ret (res_cell isEvent rfl rfl (Has.alloc (Has.alloc (Has.set9 ⟨3, 0, 0, ⟨n0t, n0n, n0s⟩, nilV⟩ HE6.out.1) _) _) rfl) rfl FIN.out
/-- vm.call -/
theorem call_any (h : CaB w A m f e K i t fm l g gs j x P N fn args)  : Calls Tryz.prog 267 #[.pointer (some ⟨A.b, 0, none⟩), .int .i64 i, .pointer (some ⟨A.bT, i * 5, none⟩), .pointer (some ⟨g, j * 5, none⟩), .int .i64 x] w (CaPost (callP m i x) w A f e) := by
  by_cases h5 : fn.t = 5
  · by_cases h8 : 8 ≤ t.frames.length
    · exact call_dep h h5 h8
    · exact call_clo h h5 (by omega)
  by_cases h6 : fn.t = 6
  · by_cases k6 : fn.n = 6
    · by_cases a5 : (args.getD 0 nilV).t = 5
      · by_cases h8 : 8 ≤ t.frames.length
        · exact call_pc_dep h h6 k6 a5 h8
        · exact call_pcall h h6 k6 a5 (by omega)
      · exact call_pc_not h h6 k6 a5
    by_cases k9 : fn.n = 9
    · by_cases a7 : (args.getD 0 nilV).t = 7
      · exact call_resume h h6 k9 a7
      · exact call_rs_co h h6 k9 a7
    by_cases k10 : fn.n = 10
    · by_cases i0 : i = 0
      · exact call_ym h h6 k10 i0
      · exact call_yield h h6 k10 i0
    by_cases k1 : fn.n = 1
    · exact call_print h h6 k1
    by_cases k2 : fn.n = 2
    · exact call_tostring h h6 k2
    by_cases k3 : fn.n = 3
    · exact call_tonumber h h6 k3
    by_cases k4 : fn.n = 4
    · exact call_type h h6 k4
    by_cases k5 : fn.n = 5
    · exact call_error h h6 k5
    by_cases k7 : fn.n = 7
    · exact call_next h h6 k7
    by_cases k8 : fn.n = 8
    · exact call_create h h6 k8
    by_cases k11 : fn.n = 11
    · exact call_status h h6 k11
    exact call_other h h6 k6 k9 k10 k1 k2 k3 k4 k5 k7 k8 k11
  exact call_not h h5 h6
/-- .. without fuel -/
theorem call_no (h : VRep w A m 0 e) {va vb vc vd : Value} : Calls Tryz.prog 267 #[.pointer (some ⟨A.b, 0, none⟩), va, vb, vc, vd] w fun e' w' => e' = .panicked (trapE 9) ∧ VRep w' A m 0 e ∧ VSt isVM w A w' A := by
  obtain ⟨Q, HQ⟩ : ∃ Q : Ending → World → Prop, Hid ((fun e' w' => e' = .panicked (trapE 9) ∧ VRep w' A m 0 e ∧ VSt isVM w A w' A) = Q) := ⟨_, rfl⟩
  rw [HQ.out]
  have H : Hid (VRep w A m 0 e) := h
  have hbl := h.bl
  clear h
  go_enter Tryz.func267, Tryz.ntmps267
  go_wp2_with fail
  refine (burn_no (H.out.fresh ((Fr.refl _ w).alloc (.cells #[.int .i64 0, .int .i64 0, .int .i64 0, .int .i64 0, .int .u64 0, sv [], .int .i64 0, .int .u64 0, sv []] 190)))).mono ?_
  rintro e' w1 ⟨rfl, hw1⟩
  refine ⟨rfl, ?_⟩
  rw [← HQ.out, hw1]
  exact ⟨rfl, H.out.fresh ((Fr.refl _ w).alloc _), VSt.fresh ((Fr.refl _ w).alloc _)⟩
end
end Go.Proofs.Qxb6500574aGreatDoor
