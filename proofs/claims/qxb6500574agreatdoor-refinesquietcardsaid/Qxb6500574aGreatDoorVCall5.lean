/-
  THE WALK of vm: call: resume.
-/
import Derived.Test.Qxb6500574aGreatDoorVCall3
namespace Go.Proofs.Qxb6500574aGreatDoor
open Go Go.RowKit
set_option linter.unusedVariables false
set_option linter.unusedSimpArgs false
section
variable {w : World} {A : VL} {m : VMD} {f e i g gs j x P N : Nat} {t : ThD} {l : ThL} {K : Cx} {fm : FmD} {fn : Vl} {args : List Vl}
set_option maxRecDepth 100000
set_option maxHeartbeats 600000
theorem call_rs_co (h : CaB w A m f e K i t fm l g gs j x P N fn args) (h6 : fn.t = 6) (hn : fn.n = 9) (h0 : (args.getD 0 nilV).t ≠ 7) : Calls Tryz.prog 267 #[.pointer (some ⟨A.b, 0, none⟩), .int .i64 i, .pointer (some ⟨A.bT, i * 5, none⟩), .pointer (some ⟨g, j * 5, none⟩), .int .i64 x] w (CaPost (callP m i x) w A f e) := by
  obtain ⟨Q, HQ⟩ : ∃ Q : Ending → World → Prop, Hid (CaPost (callP m i x) w A f e = Q) := ⟨_, rfl⟩
  rw [HQ.out]
  have HB : Hid (CaB w A m f e K i t fm l g gs j x P N fn args) := h
  have hx3 := h.x3
  have hpl := h.pl
  have hN : N ≤ 1120 := by rw [← h.nl]; exact h.at'.sl h.room
  have hpc := h.pc
  have HZ : Hid (A.o w.heap.size = 0) := h.rep.own _ (Nat.le_refl _)
  have hbl := h.rep.bl
  obtain ⟨fnt, fnn, fns⟩ := fn
  clear h
  go_enter Tryz.func267, Tryz.ntmps267
  go_wp2_with fail
  refine (burn_ok (HB.out.rep.fresh ((Fr.refl _ w).alloc (.cells #[.int .i64 0, .int .i64 0, .int .i64 0, .int .i64 0, .int .u64 0, sv [], .int .i64 0, .int .u64 0, sv []] 190))) HB.out.fu).mono ?_
  rintro e' w1 ⟨rfl, r1, s1⟩
  have hz1 : A.o w1.heap.size = 0 := r1.own _ (Nat.le_refl _)
  have HZ1 : Hid (A.o w1.heap.size = 0) := hz1
  have HR1 : Hid (VRep w1 A m f e) := r1
  have HS1 : Hid (VSt isVM w A w1 A) := (VSt.fresh ((Fr.refl _ w).alloc _)).trans (s1.weaken (fun k hk => by unfold isVM; unfold isCo at hk; omega))
  have HE1 : Hid (Has w1 w.heap.size #[.int .i64 0, .int .i64 0, .int .i64 0, .int .i64 0, .int .u64 0, sv [], .int .i64 0, .int .u64 0, sv []] 190) := (s1.keep0 (fun x => by unfold isCo at x; omega) (Has.new w _ _) HZ.out).1
  have c2 := r1.thCell HB.out.at'.hi HB.out.hx (j := 2) (by omega)
  simp only [thCells, List.getElem?_cons_succ, List.getElem?_cons_zero, Sl.v, HB.out.sa, HB.out.nl] at c2
  obtain ⟨g1, v1, v2, v3, v4, v5, v6, v7, v8⟩ := r1.val HB.out.at'.hi HB.out.hx HB.out.fx
  rw [HB.out.sa] at v1
  cases v1
  rw [HB.out.nl] at v2
  obtain ⟨g2, f1, f2, f3, f4, f5, f6⟩ := r1.fm HB.out.at'.hi HB.out.hx HB.out.hj
  rw [HB.out.fa] at f1
  cases f1
  have q1 := f5 1 (by omega)
  simp only [fCells, List.getElem?_cons_succ, List.getElem?_cons_zero] at q1
  have q2 := f6 (j * 5 + 1)
  have hTl := r1.ths.here.has.lt
  have e1 : (N : Int) - (x : Int) - 1 = (P : Int) := by omega
  have hPN : P < N := by omega
  have c3 := r1.thCell HB.out.at'.hi HB.out.hx (j := 3) (by omega)
  simp only [thCells, List.getElem?_cons_succ, List.getElem?_cons_zero, Sl.v, HB.out.fa] at c3
  obtain ⟨F, HF⟩ : ∃ F, Hid (t.frames.length = F) := ⟨_, rfl⟩
  rw [HF.out] at c3
  have hF8 : F ≤ 8 := by rw [← HF.out]; exact HB.out.at'.ok.fr.len
  have hgT : g ≠ A.bT := fun e => by
    have h1 := f3
    rw [e, r1.ths.here.lb] at h1
    omega
  have hgs : g ≠ gs := fun e => by
    rw [e, v3] at f3
    omega
  have hTg : A.bT ≠ g := fun e => hgT e.symm
  have hsg : gs ≠ g := fun e => hgs e.symm
  obtain ⟨D, HD⟩ : ∃ D : Nat, Hid (D = if x = 0 then 0 else (P + 1) * 3) := ⟨_, rfl⟩
  have hsl : ∀ W, (Instr.sliceAt 85 (.slice (some ⟨gs, 0, none⟩) N l.s.c) (some (.int .i64 ((P : Int) + 1))) (some (.int .i64 N)) (some (.int .i64 N))).run Tryz.prog W = .ok (.slice (some ⟨gs, D, none⟩) x x) W := fun W => by
    rw [win_slice (by omega) v2 (by omega)]
    rw [show N - (P + 1) = x by omega]
    by_cases hx0 : x = 0
    · rw [HD.out, if_pos hx0, if_pos (by omega)]
    · rw [HD.out, if_neg hx0, if_neg (by omega)]
  have hvc := r1.setPc HB.out.at'.hi HB.out.hx HB.out.fa HB.out.hj (fm.pc + 1)
  obtain ⟨m1, HM1⟩ : ∃ m1, Hid (m.setTh i { t with frames := t.frames.set j { fm with pc := fm.pc + 1 } } = m1) := ⟨_, rfl⟩
  obtain ⟨t1, HT1⟩ : ∃ t1 : ThD, Hid ({ t with frames := t.frames.set j { fm with pc := fm.pc + 1 } } = t1) := ⟨_, rfl⟩
  rw [HM1.out] at hvc
  obtain ⟨w2, HW2⟩ : ∃ w2, Hid ((w1.setCell ⟨g, j * 5 + 1, none⟩ (.int .i64 ((fm.pc : Int) + 1))).alloc (.cells #[.int .i64 fnt, .int .u64 fnn, sv fns] 68) = w2) := ⟨_, rfl⟩
  have HR2 : Hid (VRep w2 A m1 f e) := by rw [← HW2.out]; exact hvc.1.fresh ((Fr.refl _ _).alloc _)
  have HS2 : Hid (VSt isVM w A w2 A) := by rw [← HW2.out]; exact (HS1.out.trans (hvc.2.weaken (fun k hk => by unfold isVM; unfold isT at hk; omega))).trans (VSt.fresh ((Fr.refl _ _).alloc _))
  have hE2 : Has w2 w.heap.size #[.int .i64 0, .int .i64 0, .int .i64 0, .int .i64 0, .int .u64 0, sv [], .int .i64 0, .int .u64 0, sv []] 190 ∧ A.o w.heap.size = 0 := by
    have h1 := hvc.2.keep0 isT0 HE1.out HZ.out
    rw [← HW2.out]
    exact ⟨h1.1.alloc _, h1.2⟩
  have HE2 : Hid (Has w2 w.heap.size #[.int .i64 0, .int .i64 0, .int .i64 0, .int .i64 0, .int .u64 0, sv [], .int .i64 0, .int .u64 0, sv []] 190 ∧ A.o w.heap.size = 0) := hE2
  have HF2 : Hid (Has w2 w1.heap.size #[.int .i64 fnt, .int .u64 fnn, sv fns] 68) := by rw [← HW2.out]; exact Has.newC _ _ _ (by simp [World.setCell])
  have HI1 : Hid (m1.ths[i]? = some t1) := by rw [← HM1.out, ← HT1.out]; exact setTh_at HB.out.at'.hi
  have HA1 : Hid (At K m1 i t1 { fm with pc := fm.pc + 1 }) := by
    have h1 := HB.out.at'.pc (x := fm.pc + 1) HB.out.pcd
    rw [← HB.out.jl] at h1
    have h2 : setPc m i (fm.pc + 1) = m1 := by rw [← HM1.out]; exact setPc_is HB.out
    rw [h2, HT1.out] at h1
    exact h1.1
  have HCP : Hid (setPc m i ((topF m i).pc + 1) = m1) := by
    show _ = _
    rw [HB.out.at'.topF, ← HM1.out]
    exact setPc_is HB.out
  have HC : Hid (callP m i x = caQ m1 i t1 F P ⟨fnt, fnn, fns⟩ args) := callP_caQ HCP.out HI1.out (by rw [← HT1.out]) (by rw [← HT1.out, ← HF.out]; simp) HB.out.nl HB.out.pl HB.out.fx HB.out.ax
  rw [HC.out] at HQ
  clear HC HCP
  have HT1S : Hid (t1.stack = t.stack ∧ t1.frames.length = t.frames.length) := by rw [← HT1.out]; exact ⟨rfl, by simp⟩
  clear v3 v8 f2 f3 f5 f6 r1 s1 hz1 hpl hvc hE2
  have HN : Hid (fnn = 9) := hn
  clear hn
  have H0 : Hid ((args.getD 0 nilV).t ≠ 7) := h0
  clear h0
  subst h6
  go_wp2_with fail
  rw [HW2.out]
  have hal : args.length = x := by rw [← HB.out.ax, List.length_drop, HB.out.nl, HB.out.pl]; omega
  have HW0 : Hid (Win w2 w2 A i t1 (.slice (some ⟨gs, D, none⟩) x x) args) := caWin HR2.out HI1.out HB.out.hx HB.out.sa (by rw [HT1S.out.1, HB.out.nl, HB.out.pl]) (by rw [HT1S.out.1]; exact HB.out.ax) HD.out
  have HAL : Hid (args.length = x) := hal
  clear hal
  go_loopw [14] (fun u wr => ∃ (xs : List Vl), xs.length ≤ 3 ∧ slLen u = xs.length ∧ Hid (Win wr w2 A i t1 u xs) ∧ Hid (Fr (fun _ => False) w2 wr) ∧ Hid (∀ j, xs.getD j nilV = args.getD j nilV)) (fun u _ => 4 - slLen u)
  case atStart =>
    refine ⟨args, by rw [HAL.out]; exact hx3, ?_, HW0, Fr.refl _ _, fun _ => rfl⟩
    rw [HAL.out]
    rfl
  case round =>
    obtain ⟨xs, hxs3, hxl, W1, F1, G1⟩ := hrel
    obtain ⟨B, d, cc, W2⟩ := W1.out
    have hv2 := W2.hv
    subst hv2
    obtain ⟨X, HX⟩ : ∃ N : Nat, Hid (xs.length = N) := ⟨_, rfl⟩
    have w2le := W2.le
    have w2lt := W2.lt
    clear W2 hxl
    rw [HX.out] at hxs3 w2le W1 ⊢
    by_cases hlt : X < 3
    · have hlt2 : (X : Int) < 3 := by omega
      have HG : Hid (∀ b, Win (wr.alloc b) w2 A i t1 (.slice (some ⟨B, d, none⟩) X cc) xs ∧ Fr (fun _ => False) w2 (wr.alloc b)) := fun b => ⟨W1.out.fresh ((Fr.refl _ _).alloc b), F1.out.alloc b⟩
      go_wp2_with (at_builtin; go_must (refine wpList_appWin rfl (.tmp 81) (.tmp 83) rfl HR2.out HI1.out (HG.out _).2 rfl (HG.out _).1 rfl (Has.new _ _ _) ?bd ?go))
      case bd => rw [HX.out]; omega
      case go =>
        intro v' w' q1 q2
        have Q1 : Hid (Win w' w2 A i t1 v' (xs ++ [nilV])) := q1
        have Q2 : Hid (Fr (fun _ => False) w2 w') := q2
        have hxl : (xs ++ [nilV]).length = X + 1 := by rw [List.length_append, HX.out]; rfl
        have hsl2 : slLen v' = X + 1 := by
          obtain ⟨B, d, c, W⟩ := q1
          rw [W.hv, hxl]
          rfl
        clear q1 q2
        go_wp2_with fail
        refine ⟨⟨xs ++ [nilV], by omega, by rw [hsl2, hxl], Q1, Q2, fun j => ?_⟩, ?_⟩
        · rw [← G1.out j]
          exact getD_nil xs j
        · rw [hsl2]
          simp only [slLen]
          omega
    · obtain rfl : X = 3 := by omega
      clear hlt hxs3
      obtain ⟨B2, d2, c2', h1, _, _, h2, h3⟩ := W1.out.at3 HX.out
      have e4 := h1
      simp only [Value.slice.injEq, Option.some.injEq, Addr.mk.injEq] at e4
      obtain ⟨⟨rfl, rfl, _⟩, _, _⟩ := e4
      clear h1
      rw [G1.out 0, G1.out 1] at h2
      rw [G1.out 1] at h3
      obtain ⟨a0, HA0⟩ : ∃ v, Hid (args.getD 0 nilV = v) := ⟨_, rfl⟩
      obtain ⟨a1, HA1v⟩ : ∃ v, Hid (args.getD 1 nilV = v) := ⟨_, rfl⟩
      rw [HA0.out, HA1v.out] at h2
      rw [HA1v.out] at h3
      obtain ⟨W3, HW3⟩ : ∃ W3, Hid ((wr.alloc (.cells #[.int .i64 0, .int .u64 0, sv []] 68)).alloc (.cells #[.int .i64 0, .int .u64 0, sv []] 68) = W3) := ⟨_, rfl⟩
      have f23 : Fr (fun _ => False) wr W3 := by rw [← HW3.out]; exact ((Fr.refl _ wr).alloc _).alloc _
      have f13 : Fr (fun _ => False) w2 W3 := F1.out.trans f23 (fun _ _ x => x)
      have HR3 : Hid (VRep W3 A m1 f e) := HR2.out.fresh f13
      have HS3 : Hid (VSt isVM w A W3 A) := HS2.out.trans (VSt.fresh f13)
      have HE3 : Hid (Has W3 w.heap.size (evCells ev0) 190 ∧ A.o w.heap.size = 0) := ⟨HE2.out.1.fr f13 (fun x => x), HE2.out.2⟩
      have HAR : Hid (Ar W3 B d a0 a1) := h2.fresh f23
      have HARr : Hid (Ar wr B d a0 a1) := h2
      have har : ∀ W c, (Instr.arrayAt 317 (.slice (some ⟨B, d, none⟩) 3 c)).run Tryz.prog W = .ok (.pointer (some ⟨B, d, none⟩)) W := fun W c => run_arrayAt _ _ 68 3 _ _ _ (by kernel_rfl) (Nat.le_refl _)
      have HSr : Hid (VSt isVM w A wr A) := HS2.out.trans (VSt.fresh F1.out)
      have HEr : Hid (Has wr w.heap.size (evCells ev0) 190 ∧ A.o w.heap.size = 0) := ⟨HE2.out.1.fr F1.out (fun x => x), HE2.out.2⟩
      have HF3r : Hid (Fr (fun _ => False) wr W3) := f23
      have HWN : Hid (Win W3 W3 A i t1 (.slice (some ⟨B, d + 3, none⟩) 1 1) [a1]) := by
        obtain ⟨b1, d1, c1, w1'⟩ := h3
        refine ⟨b1, d1, c1, w1'.hv, fun j u hj => ⟨f23.cell (w1'.cl j u hj).1, (w1'.cl j u hj).2⟩, ?_, w1'.le, Nat.lt_of_lt_of_le w1'.lt f23.size⟩
        have := w1'.hv
        simp only [Value.slice.injEq] at this
        exact .inl (by rw [← this.2.2]; rfl)
      have HRR : Hid (R2 W3 wr.heap.size nilV nilV) := by rw [← HW3.out]; exact R2.new wr
      have hwr := F1.out.size
      have HZR : Hid (A.o wr.heap.size = 0 ∧ A.o (wr.heap.size + 1) = 0) := ⟨HR2.out.own _ hwr, HR2.out.own _ (Nat.le_succ_of_le hwr)⟩
      have HFN : Hid (Has wr w1.heap.size #[.int .i64 6, .int .u64 fnn, sv fns] 68) := HF2.out.fr F1.out (fun x => x)
      obtain ⟨fn0, fn1, fn2⟩ := HFN.out.cells3 (v := ⟨6, fnn, fns⟩)
      dsimp only at fn0 fn1 fn2
      have fnl := HFN.out.lt
      have va0 : VOk K a0 := by rw [← HA0.out]; exact getD_ok (fun v hv => HB.out.at'.ok.sv v (by rw [← HB.out.ax] at hv; exact List.mem_of_mem_drop hv)) 0
      have va1 : VOk K a1 := by rw [← HA1v.out]; exact getD_ok (fun v hv => HB.out.at'.ok.sv v (by rw [← HB.out.ax] at hv; exact List.mem_of_mem_drop hv)) 1
      have HV0 : Hid (VOk K a0) := va0
      have HV1 : Hid (VOk K a1) := va1
      obtain ⟨n0t, n0n, n0s⟩ := a0
      obtain ⟨n1t, n1n, n1s⟩ := a1
      clear h2 h3 f23 f13 va0 va1
      have HWS : Hid (w2.heap.size ≤ wr.heap.size ∧ W3.heap.size = wr.heap.size + 2) := ⟨hwr, by rw [← HW3.out]; simp⟩
      clear hwr
      obtain rfl := HN.out
      have fnc : ((9 : Nat) : Int) = 9 := rfl
      rw [fnc] at fn1
      clear fnc HN
      obtain ⟨g0, g1, g2, g3, g4, g5, gl⟩ := HARr.out
      dsimp only at g0 g1 g2 g3 g4 g5
      have c3r := (HR2.out.fresh F1.out).thCell HI1.out HB.out.hx (j := 3) (by omega)
      simp only [thCells, List.getElem?_cons_succ, List.getElem?_cons_zero, Sl.v, HT1S.out.2, HF.out, HB.out.fa] at c3r
      have hTr := (HR2.out.fresh F1.out).ths.here.has.lt
      have hn5 : n0t ≠ 7 := by have := H0.out; rw [HA0.out] at this; exact this
      have hn5b : (n0t == 7) = false := by rw [beq_eq_false_iff_ne]; exact hn5
      have HN5 : Hid (n0t ≠ 7) := hn5
      clear H0 hn5
      go_wp2_with fail
      refine (raise_any mCo).mono ?_
      rintro e' w4 ⟨⟨b, rfl, hb, hbl2⟩, f3⟩
      rw [HW3.out] at f3 hbl2
      have FIN : Hid (Q (.panicked (thrE b)) w4) := by
        rw [← HQ.out]
        have hc : caQ m1 i t1 F P ⟨6, 9, fns⟩ args = thrR mCo m1 := by
          unfold caQ
          rw [if_neg (fun h => by cases h), if_neg (fun h => h rfl)]
          dsimp only
          rw [if_neg (by decide), if_pos rfl, HA0.out, HA1v.out, if_pos (fun h => HN5.out h)]
        rw [hc]
        exact ⟨⟨b, rfl, hb, by have := HS3.out.st.fr.size; omega⟩, A, HR3.out.fresh f3, HS3.out.trans (VSt.fresh f3)⟩
      exact ⟨rfl, FIN.out⟩
theorem Ar.setOther {w : World} {B d : Nat} {a0 a1 : Vl} (h : Ar w B d a0 a1) {b : Nat} (hb : B ≠ b) (j : Nat) (v : Value) : Ar (w.setCell ⟨b, j, none⟩ v) B d a0 a1 := by
  obtain ⟨h0, h1, h2, h3, h4, h5, h6⟩ := h
  have hc : ∀ k u, w.cell? ⟨B, k, none⟩ = some u → (w.setCell ⟨b, j, none⟩ v).cell? ⟨B, k, none⟩ = some u := fun k u hk => by rw [World.cell?_setCell_other w ⟨b, j, none⟩ ⟨B, k, none⟩ _ (fun h => hb (congrArg Addr.block h).symm)]; exact hk
  exact ⟨hc _ _ h0, hc _ _ h1, hc _ _ h2, hc _ _ h3, hc _ _ h4, hc _ _ h5, by simpa [World.setCell] using h6⟩
theorem call_resume (h : CaB w A m f e K i t fm l g gs j x P N fn args) (h6 : fn.t = 6) (hn : fn.n = 9) (h0 : (args.getD 0 nilV).t = 7) : Calls Tryz.prog 267 #[.pointer (some ⟨A.b, 0, none⟩), .int .i64 i, .pointer (some ⟨A.bT, i * 5, none⟩), .pointer (some ⟨g, j * 5, none⟩), .int .i64 x] w (CaPost (callP m i x) w A f e) := by
  obtain ⟨Q, HQ⟩ : ∃ Q : Ending → World → Prop, Hid (CaPost (callP m i x) w A f e = Q) := ⟨_, rfl⟩
  rw [HQ.out]
  have HB : Hid (CaB w A m f e K i t fm l g gs j x P N fn args) := h
  have hx3 := h.x3
  have hpl := h.pl
  have hN : N ≤ 1120 := by rw [← h.nl]; exact h.at'.sl h.room
  have hpc := h.pc
  have HZ : Hid (A.o w.heap.size = 0) := h.rep.own _ (Nat.le_refl _)
  have hbl := h.rep.bl
  obtain ⟨fnt, fnn, fns⟩ := fn
  clear h
  go_enter Tryz.func267, Tryz.ntmps267
  go_wp2_with fail
  refine (burn_ok (HB.out.rep.fresh ((Fr.refl _ w).alloc (.cells #[.int .i64 0, .int .i64 0, .int .i64 0, .int .i64 0, .int .u64 0, sv [], .int .i64 0, .int .u64 0, sv []] 190))) HB.out.fu).mono ?_
  rintro e' w1 ⟨rfl, r1, s1⟩
  have hz1 : A.o w1.heap.size = 0 := r1.own _ (Nat.le_refl _)
  have HZ1 : Hid (A.o w1.heap.size = 0) := hz1
  have HR1 : Hid (VRep w1 A m f e) := r1
  have HS1 : Hid (VSt isVM w A w1 A) := (VSt.fresh ((Fr.refl _ w).alloc _)).trans (s1.weaken (fun k hk => by unfold isVM; unfold isCo at hk; omega))
  have HE1 : Hid (Has w1 w.heap.size #[.int .i64 0, .int .i64 0, .int .i64 0, .int .i64 0, .int .u64 0, sv [], .int .i64 0, .int .u64 0, sv []] 190) := (s1.keep0 (fun x => by unfold isCo at x; omega) (Has.new w _ _) HZ.out).1
  have c2 := r1.thCell HB.out.at'.hi HB.out.hx (j := 2) (by omega)
  simp only [thCells, List.getElem?_cons_succ, List.getElem?_cons_zero, Sl.v, HB.out.sa, HB.out.nl] at c2
  obtain ⟨g1, v1, v2, v3, v4, v5, v6, v7, v8⟩ := r1.val HB.out.at'.hi HB.out.hx HB.out.fx
  rw [HB.out.sa] at v1
  cases v1
  rw [HB.out.nl] at v2
  obtain ⟨g2, f1, f2, f3, f4, f5, f6⟩ := r1.fm HB.out.at'.hi HB.out.hx HB.out.hj
  rw [HB.out.fa] at f1
  cases f1
  have q1 := f5 1 (by omega)
  simp only [fCells, List.getElem?_cons_succ, List.getElem?_cons_zero] at q1
  have q2 := f6 (j * 5 + 1)
  have hTl := r1.ths.here.has.lt
  have e1 : (N : Int) - (x : Int) - 1 = (P : Int) := by omega
  have hPN : P < N := by omega
  have c3 := r1.thCell HB.out.at'.hi HB.out.hx (j := 3) (by omega)
  simp only [thCells, List.getElem?_cons_succ, List.getElem?_cons_zero, Sl.v, HB.out.fa] at c3
  obtain ⟨F, HF⟩ : ∃ F, Hid (t.frames.length = F) := ⟨_, rfl⟩
  rw [HF.out] at c3
  have hF8 : F ≤ 8 := by rw [← HF.out]; exact HB.out.at'.ok.fr.len
  have hgT : g ≠ A.bT := fun e => by
    have h1 := f3
    rw [e, r1.ths.here.lb] at h1
    omega
  have hgs : g ≠ gs := fun e => by
    rw [e, v3] at f3
    omega
  have hTg : A.bT ≠ g := fun e => hgT e.symm
  have hsg : gs ≠ g := fun e => hgs e.symm
  obtain ⟨D, HD⟩ : ∃ D : Nat, Hid (D = if x = 0 then 0 else (P + 1) * 3) := ⟨_, rfl⟩
  have hsl : ∀ W, (Instr.sliceAt 85 (.slice (some ⟨gs, 0, none⟩) N l.s.c) (some (.int .i64 ((P : Int) + 1))) (some (.int .i64 N)) (some (.int .i64 N))).run Tryz.prog W = .ok (.slice (some ⟨gs, D, none⟩) x x) W := fun W => by
    rw [win_slice (by omega) v2 (by omega)]
    rw [show N - (P + 1) = x by omega]
    by_cases hx0 : x = 0
    · rw [HD.out, if_pos hx0, if_pos (by omega)]
    · rw [HD.out, if_neg hx0, if_neg (by omega)]
  have hvc := r1.setPc HB.out.at'.hi HB.out.hx HB.out.fa HB.out.hj (fm.pc + 1)
  obtain ⟨m1, HM1⟩ : ∃ m1, Hid (m.setTh i { t with frames := t.frames.set j { fm with pc := fm.pc + 1 } } = m1) := ⟨_, rfl⟩
  obtain ⟨t1, HT1⟩ : ∃ t1 : ThD, Hid ({ t with frames := t.frames.set j { fm with pc := fm.pc + 1 } } = t1) := ⟨_, rfl⟩
  rw [HM1.out] at hvc
  obtain ⟨w2, HW2⟩ : ∃ w2, Hid ((w1.setCell ⟨g, j * 5 + 1, none⟩ (.int .i64 ((fm.pc : Int) + 1))).alloc (.cells #[.int .i64 fnt, .int .u64 fnn, sv fns] 68) = w2) := ⟨_, rfl⟩
  have HR2 : Hid (VRep w2 A m1 f e) := by rw [← HW2.out]; exact hvc.1.fresh ((Fr.refl _ _).alloc _)
  have HS2 : Hid (VSt isVM w A w2 A) := by rw [← HW2.out]; exact (HS1.out.trans (hvc.2.weaken (fun k hk => by unfold isVM; unfold isT at hk; omega))).trans (VSt.fresh ((Fr.refl _ _).alloc _))
  have hE2 : Has w2 w.heap.size #[.int .i64 0, .int .i64 0, .int .i64 0, .int .i64 0, .int .u64 0, sv [], .int .i64 0, .int .u64 0, sv []] 190 ∧ A.o w.heap.size = 0 := by
    have h1 := hvc.2.keep0 isT0 HE1.out HZ.out
    rw [← HW2.out]
    exact ⟨h1.1.alloc _, h1.2⟩
  have HE2 : Hid (Has w2 w.heap.size #[.int .i64 0, .int .i64 0, .int .i64 0, .int .i64 0, .int .u64 0, sv [], .int .i64 0, .int .u64 0, sv []] 190 ∧ A.o w.heap.size = 0) := hE2
  have HF2 : Hid (Has w2 w1.heap.size #[.int .i64 fnt, .int .u64 fnn, sv fns] 68) := by rw [← HW2.out]; exact Has.newC _ _ _ (by simp [World.setCell])
  have HI1 : Hid (m1.ths[i]? = some t1) := by rw [← HM1.out, ← HT1.out]; exact setTh_at HB.out.at'.hi
  have HA1 : Hid (At K m1 i t1 { fm with pc := fm.pc + 1 }) := by
    have h1 := HB.out.at'.pc (x := fm.pc + 1) HB.out.pcd
    rw [← HB.out.jl] at h1
    have h2 : setPc m i (fm.pc + 1) = m1 := by rw [← HM1.out]; exact setPc_is HB.out
    rw [h2, HT1.out] at h1
    exact h1.1
  have HCP : Hid (setPc m i ((topF m i).pc + 1) = m1) := by
    show _ = _
    rw [HB.out.at'.topF, ← HM1.out]
    exact setPc_is HB.out
  have HC : Hid (callP m i x = caQ m1 i t1 F P ⟨fnt, fnn, fns⟩ args) := callP_caQ HCP.out HI1.out (by rw [← HT1.out]) (by rw [← HT1.out, ← HF.out]; simp) HB.out.nl HB.out.pl HB.out.fx HB.out.ax
  rw [HC.out] at HQ
  clear HC HCP
  have HT1S : Hid (t1.stack = t.stack ∧ t1.frames.length = t.frames.length) := by rw [← HT1.out]; exact ⟨rfl, by simp⟩
  clear v3 v8 f2 f3 f5 f6 r1 s1 hz1 hpl hvc hE2
  have HN : Hid (fnn = 9) := hn
  clear hn
  have H0 : Hid ((args.getD 0 nilV).t = 7) := h0
  clear h0
  subst h6
  go_wp2_with fail
  rw [HW2.out]
  have hal : args.length = x := by rw [← HB.out.ax, List.length_drop, HB.out.nl, HB.out.pl]; omega
  have HW0 : Hid (Win w2 w2 A i t1 (.slice (some ⟨gs, D, none⟩) x x) args) := caWin HR2.out HI1.out HB.out.hx HB.out.sa (by rw [HT1S.out.1, HB.out.nl, HB.out.pl]) (by rw [HT1S.out.1]; exact HB.out.ax) HD.out
  have HAL : Hid (args.length = x) := hal
  clear hal
  go_loopw [14] (fun u wr => ∃ (xs : List Vl), xs.length ≤ 3 ∧ slLen u = xs.length ∧ Hid (Win wr w2 A i t1 u xs) ∧ Hid (Fr (fun _ => False) w2 wr) ∧ Hid (∀ j, xs.getD j nilV = args.getD j nilV)) (fun u _ => 4 - slLen u)
  case atStart =>
    refine ⟨args, by rw [HAL.out]; exact hx3, ?_, HW0, Fr.refl _ _, fun _ => rfl⟩
    rw [HAL.out]
    rfl
  case round =>
    obtain ⟨xs, hxs3, hxl, W1, F1, G1⟩ := hrel
    obtain ⟨B, d, cc, W2⟩ := W1.out
    have hv2 := W2.hv
    subst hv2
    obtain ⟨X, HX⟩ : ∃ N : Nat, Hid (xs.length = N) := ⟨_, rfl⟩
    have w2le := W2.le
    have w2lt := W2.lt
    clear W2 hxl
    rw [HX.out] at hxs3 w2le W1 ⊢
    by_cases hlt : X < 3
    · have hlt2 : (X : Int) < 3 := by omega
      have HG : Hid (∀ b, Win (wr.alloc b) w2 A i t1 (.slice (some ⟨B, d, none⟩) X cc) xs ∧ Fr (fun _ => False) w2 (wr.alloc b)) := fun b => ⟨W1.out.fresh ((Fr.refl _ _).alloc b), F1.out.alloc b⟩
      go_wp2_with (at_builtin; go_must (refine wpList_appWin rfl (.tmp 81) (.tmp 83) rfl HR2.out HI1.out (HG.out _).2 rfl (HG.out _).1 rfl (Has.new _ _ _) ?bd ?go))
      case bd => rw [HX.out]; omega
      case go =>
        intro v' w' q1 q2
        have Q1 : Hid (Win w' w2 A i t1 v' (xs ++ [nilV])) := q1
        have Q2 : Hid (Fr (fun _ => False) w2 w') := q2
        have hxl : (xs ++ [nilV]).length = X + 1 := by rw [List.length_append, HX.out]; rfl
        have hsl2 : slLen v' = X + 1 := by
          obtain ⟨B, d, c, W⟩ := q1
          rw [W.hv, hxl]
          rfl
        clear q1 q2
        go_wp2_with fail
        refine ⟨⟨xs ++ [nilV], by omega, by rw [hsl2, hxl], Q1, Q2, fun j => ?_⟩, ?_⟩
        · rw [← G1.out j]
          exact getD_nil xs j
        · rw [hsl2]
          simp only [slLen]
          omega
    · obtain rfl : X = 3 := by omega
      clear hlt hxs3
      obtain ⟨B2, d2, c2', h1, _, _, h2, h3⟩ := W1.out.at3 HX.out
      have e4 := h1
      simp only [Value.slice.injEq, Option.some.injEq, Addr.mk.injEq] at e4
      obtain ⟨⟨rfl, rfl, _⟩, _, _⟩ := e4
      clear h1
      rw [G1.out 0, G1.out 1] at h2
      rw [G1.out 1] at h3
      obtain ⟨a0, HA0⟩ : ∃ v, Hid (args.getD 0 nilV = v) := ⟨_, rfl⟩
      obtain ⟨a1, HA1v⟩ : ∃ v, Hid (args.getD 1 nilV = v) := ⟨_, rfl⟩
      rw [HA0.out, HA1v.out] at h2
      rw [HA1v.out] at h3
      obtain ⟨W3, HW3⟩ : ∃ W3, Hid ((wr.alloc (.cells #[.int .i64 0, .int .u64 0, sv []] 68)).alloc (.cells #[.int .i64 0, .int .u64 0, sv []] 68) = W3) := ⟨_, rfl⟩
      have f23 : Fr (fun _ => False) wr W3 := by rw [← HW3.out]; exact ((Fr.refl _ wr).alloc _).alloc _
      have f13 : Fr (fun _ => False) w2 W3 := F1.out.trans f23 (fun _ _ x => x)
      have HR3 : Hid (VRep W3 A m1 f e) := HR2.out.fresh f13
      have HS3 : Hid (VSt isVM w A W3 A) := HS2.out.trans (VSt.fresh f13)
      have HE3 : Hid (Has W3 w.heap.size (evCells ev0) 190 ∧ A.o w.heap.size = 0) := ⟨HE2.out.1.fr f13 (fun x => x), HE2.out.2⟩
      have HAR : Hid (Ar W3 B d a0 a1) := h2.fresh f23
      have HARr : Hid (Ar wr B d a0 a1) := h2
      have har : ∀ W c, (Instr.arrayAt 317 (.slice (some ⟨B, d, none⟩) 3 c)).run Tryz.prog W = .ok (.pointer (some ⟨B, d, none⟩)) W := fun W c => run_arrayAt _ _ 68 3 _ _ _ (by kernel_rfl) (Nat.le_refl _)
      have HSr : Hid (VSt isVM w A wr A) := HS2.out.trans (VSt.fresh F1.out)
      have HEr : Hid (Has wr w.heap.size (evCells ev0) 190 ∧ A.o w.heap.size = 0) := ⟨HE2.out.1.fr F1.out (fun x => x), HE2.out.2⟩
      have HF3r : Hid (Fr (fun _ => False) wr W3) := f23
      have HWN : Hid (Win W3 W3 A i t1 (.slice (some ⟨B, d + 3, none⟩) 1 1) [a1]) := by
        obtain ⟨b1, d1, c1, w1'⟩ := h3
        refine ⟨b1, d1, c1, w1'.hv, fun j u hj => ⟨f23.cell (w1'.cl j u hj).1, (w1'.cl j u hj).2⟩, ?_, w1'.le, Nat.lt_of_lt_of_le w1'.lt f23.size⟩
        have := w1'.hv
        simp only [Value.slice.injEq] at this
        exact .inl (by rw [← this.2.2]; rfl)
      have HRR : Hid (R2 W3 wr.heap.size nilV nilV) := by rw [← HW3.out]; exact R2.new wr
      have hwr := F1.out.size
      have HZR : Hid (A.o wr.heap.size = 0 ∧ A.o (wr.heap.size + 1) = 0) := ⟨HR2.out.own _ hwr, HR2.out.own _ (Nat.le_succ_of_le hwr)⟩
      have HFN : Hid (Has wr w1.heap.size #[.int .i64 6, .int .u64 fnn, sv fns] 68) := HF2.out.fr F1.out (fun x => x)
      obtain ⟨fn0, fn1, fn2⟩ := HFN.out.cells3 (v := ⟨6, fnn, fns⟩)
      dsimp only at fn0 fn1 fn2
      have fnl := HFN.out.lt
      have va0 : VOk K a0 := by rw [← HA0.out]; exact getD_ok (fun v hv => HB.out.at'.ok.sv v (by rw [← HB.out.ax] at hv; exact List.mem_of_mem_drop hv)) 0
      have va1 : VOk K a1 := by rw [← HA1v.out]; exact getD_ok (fun v hv => HB.out.at'.ok.sv v (by rw [← HB.out.ax] at hv; exact List.mem_of_mem_drop hv)) 1
      have HV0 : Hid (VOk K a0) := va0
      have HV1 : Hid (VOk K a1) := va1
      obtain ⟨n0t, n0n, n0s⟩ := a0
      obtain ⟨n1t, n1n, n1s⟩ := a1
      clear h2 h3 f23 f13 va0 va1
      have HWS : Hid (w2.heap.size ≤ wr.heap.size ∧ W3.heap.size = wr.heap.size + 2) := ⟨hwr, by rw [← HW3.out]; simp⟩
      clear hwr
      obtain rfl := HN.out
      have fnc : ((9 : Nat) : Int) = 9 := rfl
      rw [fnc] at fn1
      clear fnc HN
      obtain ⟨g0, g1, g2, g3, g4, g5, gl⟩ := HARr.out
      dsimp only at g0 g1 g2 g3 g4 g5
      have c3r := (HR2.out.fresh F1.out).thCell HI1.out HB.out.hx (j := 3) (by omega)
      simp only [thCells, List.getElem?_cons_succ, List.getElem?_cons_zero, Sl.v, HT1S.out.2, HF.out, HB.out.fa] at c3r
      have hTr := (HR2.out.fresh F1.out).ths.here.has.lt
      obtain rfl : n0t = 7 := by have := H0.out; rw [HA0.out] at this; exact this
      clear H0
      have hnn : n0n < K.nh := HV0.out.h rfl
      rw [← HA1.out.vi.kh] at hnn
      obtain ⟨u, hu⟩ : ∃ u, m1.ths[n0n]? = some u := ⟨_, List.getElem?_eq_getElem hnn⟩
      have HU : Hid (m1.ths[n0n]? = some u) := hu
      clear hu hnn
      go_wp2_with fail
      rw [HW3.out]
      obtain ⟨lu, hlu⟩ := HR3.out.lays HU.out
      have n9 := HR3.out.cell0 9
      simp only [vmCells, List.getElem?_toArray, List.getElem?_cons_succ, List.getElem?_cons_zero] at n9
      have c00 := HR3.out.thCell HU.out hlu (j := 0) (by omega)
      simp only [thCells, List.getElem?_cons_zero, Nat.add_zero] at c00
      have hi5 := HR3.out.i5 HU.out
      have hil := (List.getElem?_eq_some_iff.1 HU.out).1
      have h5l := HR3.out.len5
      obtain ⟨NT, HNT⟩ : ∃ N, Hid (m1.ths.length = N) := ⟨_, rfl⟩
      rw [HNT.out] at n9 hil
      have hN5 : NT ≤ 5 := by rw [← HNT.out]; omega
      clear h5l hlu
      have hT3 := HR3.out.ths.here.has.lt
      have hb3 := HR3.out.bl
      obtain ⟨p0, p1, p2, p3, p4, p5, pl⟩ := HAR.out
      dsimp only at p0 p1 p2 p3 p4 p5
      obtain ⟨st, HSU⟩ : ∃ st, Hid (u.st = st) := ⟨_, rfl⟩
      rw [HSU.out] at c00
      refine wp_region_tail 12 (by kernel_rfl) (by kernel_rfl) (fun _ _ _ _ _ h => h) ?_
      simp only [List.take_succ_cons, List.take_zero, List.drop_succ_cons, List.drop_zero]
      repeat go_big_quiet_step (fail)
      refine wpQuiet_nil ?_
      obtain ⟨w4, HW4⟩ : ∃ w4, Hid (W3.drew = w4) := ⟨_, rfl⟩
      rw [HW4.out]
      have f34 : Fr (fun _ => False) W3 w4 := by rw [← HW4.out]; exact (Fr.refl _ _).drew
      have HR4 : Hid (VRep w4 A m1 f e) := HR3.out.fresh f34
      have HST : Hid (VSt isVM wr A w4 A) := VSt.fresh (HF3r.out.trans f34 (fun _ _ x => x))
      have HR24 : Hid (R2 w4 wr.heap.size nilV nilV) := HRR.out.fr f34
      have HAR4 : Hid (Ar w4 B d ⟨7, n0n, n0s⟩ ⟨n1t, n1n, n1s⟩) := HAR.out.fresh f34
      have c24 := HR4.out.thCell HI1.out HB.out.hx (j := 2) (by omega)
      simp only [thCells, List.getElem?_cons_succ, List.getElem?_cons_zero, Sl.v, HT1S.out.1, HB.out.nl, HB.out.sa] at c24
      have c04 := HR4.out.thCell HI1.out HB.out.hx (j := 0) (by omega)
      simp only [thCells, List.getElem?_cons_zero, Nat.add_zero] at c04
      have f24 := HR4.out.ths.frozen (i * 5 + 2)
      have f04 := HR4.out.ths.frozen (i * 5)
      have hTl4 := HR4.out.ths.here.has.lt
      have hPn : ¬ (P : Int) < 0 := by omega
      have hPc : P ≤ l.s.c := by omega
      clear n9 c00 p0 p1 p2 p3 p4 p5 pl f34 hT3 hb3 HW4
      by_cases hs1 : st = 1
      · subst hs1
        go_wp2_with fail
        obtain ⟨w6, HW6⟩ : ∃ w6, Hid ((w4.setCell ⟨A.bT, i * 5, none⟩ (.int .i64 3)).setCell ⟨A.bT, i * 5 + 2, none⟩ (.slice (some ⟨gs, 0, none⟩) P l.s.c) = w6) := ⟨_, rfl⟩
        rw [HW6.out]
        have h1 := HR4.out.setSt HI1.out HB.out.hx 3
        rw [Nat.add_zero] at h1
        have h2 := h1.1.cutS (setTh_at HI1.out) HB.out.hx (n := P) (by show P ≤ t1.stack.length; rw [HT1S.out.1, HB.out.nl]; omega)
        rw [setTh_set, HB.out.sa] at h2
        dsimp only at h2
        rw [show ((3 : Nat) : Int) = 3 from rfl, HW6.out] at h2
        have s6 : VSt isVM wr A w6 A := (HST.out.trans (h1.2.weaken (fun _ => isT_vm))).trans (h2.2.weaken (fun _ => isT_vm))
        have hBT : B ≠ A.bT := by
          obtain ⟨b1, d1, c1, w1'⟩ := HWN.out
          have hv := w1'.hv
          have hk := (w1'.cl 0 _ rfl).2.1
          simp only [Value.slice.injEq, Option.some.injEq, Addr.mk.injEq] at hv
          rw [hv.1.1]
          exact hk
        have HAR6 : Hid (Ar w6 B d ⟨7, n0n, n0s⟩ ⟨n1t, n1n, n1s⟩) := by
          rw [← HW6.out]
          exact (HAR4.out.setOther hBT _ _).setOther hBT _ _
        obtain ⟨w7, HW7⟩ : ∃ w7, Hid (w6.drew = w7) := ⟨_, rfl⟩
        have f67 : Fr (fun _ => False) w6 w7 := by rw [← HW7.out]; exact (Fr.refl _ _).drew
        clear HR3 HS3 HE3
        have HR3 : Hid (VRep w7 A (m1.setTh i { t1 with st := 3, stack := t1.stack.take P }) f e) := h2.1.fresh f67
        have s7 : VSt isVM wr A w7 A := s6.trans (VSt.fresh f67)
        have HS3 : Hid (VSt isVM w A w7 A) := HSr.out.trans s7
        have HE3 : Hid (Has w7 w.heap.size (evCells ev0) 190 ∧ A.o w.heap.size = 0) := s7.keep0 (fun h => h rfl) HEr.out.1 HEr.out.2
        obtain ⟨p0, p1, p2, p3, p4, p5, pl⟩ := HAR6.out
        dsimp only at p0 p1 p2 p3 p4 p5
        clear h1 h2 s6 s7 f67 c24 c04 f24 f04
        refine C.wp_region_tail 11 (by kernel_rfl) (by kernel_rfl) (fun _ _ _ _ _ h => h) ?_
        simp only [List.take_succ_cons, List.take_zero, List.drop_succ_cons, List.drop_zero]
        repeat go_big_quiet_step (fail)
        refine wpQuiet_nil ?_
        rw [HW7.out]
        have FIN : Hid (Q (.returned (EvD.val ⟨4, n0n, 0, ⟨n1t, n1n, n1s⟩, nilV⟩)) (set9 w7 w.heap.size ⟨4, n0n, 0, ⟨n1t, n1n, n1s⟩, nilV⟩)) := by
          rw [← HQ.out]
          have hc : caQ m1 i t1 F P ⟨6, 9, fns⟩ args = (.inr ⟨4, n0n, 0, ⟨n1t, n1n, n1s⟩, nilV⟩, m1.setTh i { t1 with st := 3, stack := t1.stack.take P }) := by
            unfold caQ
            rw [if_neg (fun h => by cases h), if_neg (fun h => h rfl)]
            dsimp only
            rw [if_neg (by decide), if_pos rfl, HA0.out, HA1v.out, if_neg (fun h => h rfl), th_get HU.out, HSU.out, if_pos (by decide)]
          rw [hc]
          exact ⟨rfl, A, HR3.out.set9 HE3.out.2 _, HS3.out.set9 (Nat.le_refl _) _⟩
        obtain ⟨x0, x1, x2, x3, x4, x5, x6, x7, x8⟩ := HE3.out.1.ev
        have hz := HE3.out.1.frozen
        have hz0 := hz 0
        have hz1 := hz 1
        have hz2 := hz 2
        have hz3 := hz 3
        have hz4 := hz 4
        have hz5 := hz 5
        have hz6 := hz 6
        have hz7 := hz 7
        have hz8 := hz 8
        clear hz
        dsimp only [ev0, nilV] at x0 x1 x2 x3 x4 x5 x6 x7 x8
        have hbe := HE3.out.1.lt
        go_wp2_with fail
        refine bodyPost_ret (res_cell isEvent rfl rfl (Has.set9 ⟨4, n0n, 0, ⟨n1t, n1n, n1s⟩, nilV⟩ HE3.out.1) rfl) rfl FIN.out
      by_cases hs2 : st = 2
      · subst hs2
        go_wp2_with fail
        obtain ⟨w6, HW6⟩ : ∃ w6, Hid ((w4.setCell ⟨A.bT, i * 5, none⟩ (.int .i64 3)).setCell ⟨A.bT, i * 5 + 2, none⟩ (.slice (some ⟨gs, 0, none⟩) P l.s.c) = w6) := ⟨_, rfl⟩
        rw [HW6.out]
        have h1 := HR4.out.setSt HI1.out HB.out.hx 3
        rw [Nat.add_zero] at h1
        have h2 := h1.1.cutS (setTh_at HI1.out) HB.out.hx (n := P) (by show P ≤ t1.stack.length; rw [HT1S.out.1, HB.out.nl]; omega)
        rw [setTh_set, HB.out.sa] at h2
        dsimp only at h2
        rw [show ((3 : Nat) : Int) = 3 from rfl, HW6.out] at h2
        have s6 : VSt isVM wr A w6 A := (HST.out.trans (h1.2.weaken (fun _ => isT_vm))).trans (h2.2.weaken (fun _ => isT_vm))
        have hBT : B ≠ A.bT := by
          obtain ⟨b1, d1, c1, w1'⟩ := HWN.out
          have hv := w1'.hv
          have hk := (w1'.cl 0 _ rfl).2.1
          simp only [Value.slice.injEq, Option.some.injEq, Addr.mk.injEq] at hv
          rw [hv.1.1]
          exact hk
        have HAR6 : Hid (Ar w6 B d ⟨7, n0n, n0s⟩ ⟨n1t, n1n, n1s⟩) := by
          rw [← HW6.out]
          exact (HAR4.out.setOther hBT _ _).setOther hBT _ _
        obtain ⟨w7, HW7⟩ : ∃ w7, Hid (w6.drew = w7) := ⟨_, rfl⟩
        have f67 : Fr (fun _ => False) w6 w7 := by rw [← HW7.out]; exact (Fr.refl _ _).drew
        clear HR3 HS3 HE3
        have HR3 : Hid (VRep w7 A (m1.setTh i { t1 with st := 3, stack := t1.stack.take P }) f e) := h2.1.fresh f67
        have s7 : VSt isVM wr A w7 A := s6.trans (VSt.fresh f67)
        have HS3 : Hid (VSt isVM w A w7 A) := HSr.out.trans s7
        have HE3 : Hid (Has w7 w.heap.size (evCells ev0) 190 ∧ A.o w.heap.size = 0) := s7.keep0 (fun h => h rfl) HEr.out.1 HEr.out.2
        obtain ⟨p0, p1, p2, p3, p4, p5, pl⟩ := HAR6.out
        dsimp only at p0 p1 p2 p3 p4 p5
        clear h1 h2 s6 s7 f67 c24 c04 f24 f04
        refine C.wp_region_tail 11 (by kernel_rfl) (by kernel_rfl) (fun _ _ _ _ _ h => h) ?_
        simp only [List.take_succ_cons, List.take_zero, List.drop_succ_cons, List.drop_zero]
        repeat go_big_quiet_step (fail)
        refine wpQuiet_nil ?_
        rw [HW7.out]
        have FIN : Hid (Q (.returned (EvD.val ⟨4, n0n, 0, ⟨n1t, n1n, n1s⟩, nilV⟩)) (set9 w7 w.heap.size ⟨4, n0n, 0, ⟨n1t, n1n, n1s⟩, nilV⟩)) := by
          rw [← HQ.out]
          have hc : caQ m1 i t1 F P ⟨6, 9, fns⟩ args = (.inr ⟨4, n0n, 0, ⟨n1t, n1n, n1s⟩, nilV⟩, m1.setTh i { t1 with st := 3, stack := t1.stack.take P }) := by
            unfold caQ
            rw [if_neg (fun h => by cases h), if_neg (fun h => h rfl)]
            dsimp only
            rw [if_neg (by decide), if_pos rfl, HA0.out, HA1v.out, if_neg (fun h => h rfl), th_get HU.out, HSU.out, if_pos (by decide)]
          rw [hc]
          exact ⟨rfl, A, HR3.out.set9 HE3.out.2 _, HS3.out.set9 (Nat.le_refl _) _⟩
        obtain ⟨x0, x1, x2, x3, x4, x5, x6, x7, x8⟩ := HE3.out.1.ev
        have hz := HE3.out.1.frozen
        have hz0 := hz 0
        have hz1 := hz 1
        have hz2 := hz 2
        have hz3 := hz 3
        have hz4 := hz 4
        have hz5 := hz 5
        have hz6 := hz 6
        have hz7 := hz 7
        have hz8 := hz 8
        clear hz
        dsimp only [ev0, nilV] at x0 x1 x2 x3 x4 x5 x6 x7 x8
        have hbe := HE3.out.1.lt
        go_wp2_with fail
        refine bodyPost_ret (res_cell isEvent rfl rfl (Has.set9 ⟨4, n0n, 0, ⟨n1t, n1n, n1s⟩, nilV⟩ HE3.out.1) rfl) rfl FIN.out
      have b1 : ((st : Int) == 1) = false := by rw [beq_eq_false_iff_ne]; omega
      have b2 : ((st : Int) == 2) = false := by rw [beq_eq_false_iff_ne]; omega
      have HNS : Hid (¬ (st = 1 ∨ st = 2)) := fun h => by omega
      clear hs1 hs2
      go_wp2_with fail
      refine (statusName_any st).mono ?_
      rintro e' w5 ⟨rfl, hw5⟩
      rw [hw5]
      clear hw5 w5
      have rr := HR24.out
      clear HR24
      have ob4 := HR4.out.ths.here.lb
      obtain ⟨o4, o5⟩ := HZR.out
      obtain ⟨nm, HNM⟩ : ∃ nm, Hid (statusN st = nm) := ⟨_, rfl⟩
      rw [HNM.out]
      obtain ⟨y0, y1, y2⟩ := rr.h4.cells3 (v := nilV)
      obtain ⟨z0, z1, z2⟩ := rr.h5.cells3 (v := nilV)
      have yl := rr.h4.lt
      have zl := rr.h5.lt
      have yf0 := rr.h4.frozen 0
      have yf1 := rr.h4.frozen 1
      have yf2 := rr.h4.frozen 2
      have zf0 := rr.h5.frozen 0
      have zf1 := rr.h5.frozen 1
      have zf2 := rr.h5.frozen 2
      dsimp only [nilV] at y0 y1 y2 z0 z1 z2
      have hr1 : wr.heap.size ≠ A.bT := fun h => by rw [h] at o4; omega
      have hr2 : wr.heap.size + 1 ≠ A.bT := fun h => by rw [h] at o5; omega
      have hr3 : A.bT ≠ wr.heap.size := fun h => hr1 h.symm
      have hr4 : A.bT ≠ wr.heap.size + 1 := fun h => hr2 h.symm
      have HR4b : Hid (VRep (set6 w4 wr.heap.size (boolV false) (strV nm)) A m1 f e ∧ VSt isVM wr A (set6 w4 wr.heap.size (boolV false) (strV nm)) A) := ⟨HR4.out.set6 o4 o5 _ _, HST.out.set6 (Nat.le_refl _) _ _⟩
      have HCU : Hid (VRep ((set6 w4 wr.heap.size (boolV false) (strV nm)).setCell ⟨A.bT, i * 5 + 2, none⟩ (.slice (some ⟨gs, 0, none⟩) P l.s.c)) A (m1.setTh i { t1 with stack := t1.stack.take P }) f e ∧ VSt isVM wr A ((set6 w4 wr.heap.size (boolV false) (strV nm)).setCell ⟨A.bT, i * 5 + 2, none⟩ (.slice (some ⟨gs, 0, none⟩) P l.s.c)) A) := by
        have h := HR4b.out.1.cutS HI1.out HB.out.hx (n := P) (by rw [HT1S.out.1, HB.out.nl]; omega)
        rw [HB.out.sa] at h
        exact ⟨h.1, HR4b.out.2.trans (h.2.weaken (fun _ => isT_vm))⟩
      clear rr HR4b HST HR4
      go_wp2_with fail
      have hp := vpush_any (c := 2) (B := w4.heap.size) (HCU.out.1.fresh ((Fr.refl _ _).alloc (.cells #[.int .i64 1, .int .u64 0, sv [], .int .i64 3, .int .u64 0, sv nm] 68))) (setTh_at HI1.out) [boolV false, strV nm] (by show 0 < 2; omega) (by simp [HT1S.out.1, HB.out.nl]; omega) (Has.newC _ _ _ (by simp [World.setCell]))
      rw [setTh_set] at hp
      dsimp only at hp
      refine hp.mono ?_
      rintro e' w6 ⟨rfl, A5, r5, s5⟩
      have hst : VSt isVM wr A w6 A5 := (HCU.out.2.trans (VSt.fresh ((Fr.refl _ _).alloc _))).trans (s5.weaken (fun _ => isT_vm))
      clear HR3 HS3 HE3
      have HR3 : Hid (VRep w6 A5 (m1.setTh i { t1 with stack := t1.stack.take P ++ [boolV false, strV nm] }) f e) := r5
      have HS3 : Hid (VSt isVM w A w6 A5) := HSr.out.trans hst
      have HE3 : Hid (Has w6 w.heap.size (evCells ev0) 190 ∧ A5.o w.heap.size = 0) := hst.keep0 (fun h => h rfl) HEr.out.1 HEr.out.2
      clear hp r5 s5 hst HCU
      have FIN : Hid (Q (.returned (EvD.val ev0)) (set9 w6 w.heap.size ev0)) := by
        rw [← HQ.out]
        have hc2 : push (cut m1 i P) i [boolV false, strV nm] = m1.setTh i { t1 with stack := t1.stack.take P ++ [boolV false, strV nm] } := by
          simp only [cut, push, th_get HI1.out, setTh_set, th_get (setTh_at HI1.out)]
        have hc : caQ m1 i t1 F P ⟨6, 9, fns⟩ args = (.inr ev0, push (cut m1 i P) i [boolV false, strV nm]) := by
          unfold caQ
          rw [if_neg (fun h => by cases h), if_neg (fun h => h rfl)]
          dsimp only
          rw [if_neg (by decide), if_pos rfl, HA0.out, HA1v.out, if_neg (fun h => h rfl), th_get HU.out, HSU.out, if_neg HNS.out, HNM.out]
        simp only [hc, hc2]
        exact ⟨rfl, A5, HR3.out.set9 HE3.out.2 _, HS3.out.set9 (Nat.le_refl _) _⟩
      obtain ⟨x0, x1, x2, x3, x4, x5, x6, x7, x8⟩ := HE3.out.1.ev
      have hz := HE3.out.1.frozen
      have hz0 := hz 0
      have hz1 := hz 1
      have hz2 := hz 2
      have hz3 := hz 3
      have hz4 := hz 4
      have hz5 := hz 5
      have hz6 := hz 6
      have hz7 := hz 7
      have hz8 := hz 8
      clear hz
      dsimp only [ev0, nilV] at x0 x1 x2 x3 x4 x5 x6 x7 x8
      have hbe := HE3.out.1.lt
      go_wp2_with fail
      refine bodyPost_ret (res_cell isEvent rfl rfl (Has.set9 ev0 HE3.out.1) rfl) rfl FIN.out
end
end Go.Proofs.Qxb6500574aGreatDoor
