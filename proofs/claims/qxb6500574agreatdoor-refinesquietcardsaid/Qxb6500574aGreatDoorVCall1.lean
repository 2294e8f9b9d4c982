/-
  THE WALK of vm: call: builtins.
-/
import Derived.Test.Qxb6500574aGreatDoorVCall0
namespace Go.Proofs.Qxb6500574aGreatDoor
open Go Go.RowKit
set_option linter.unusedVariables false
set_option linter.unusedSimpArgs false
/-- a builtin's answer is pushed -/
def buQ (R : RR (Vl × Vl)) (i P : Nat) : RR EvD :=
  match R with
  | (.inl fl, m1) => (.inl fl, m1)
  | (.inr r, m1) => (.inr ev0, push (cut m1 i P) i [r.1, r.2])
theorem caQ_bu {m : VMD} {i F P n : Nat} {t : ThD} {s : Bs} {args : List Vl} (h6 : n ≠ 6) (h9 : n ≠ 9) (h10 : n ≠ 10) : caQ m i t F P ⟨6, n, s⟩ args = buQ (builtinP m n (args.getD 0 nilV) (args.getD 1 nilV)) i P := by
  unfold caQ
  have e5 : ¬ (Vl.mk 6 n s).t = 5 := fun h => by cases h
  rw [if_neg e5, if_neg (fun h => h rfl)]
  dsimp only
  rw [if_neg h6, if_neg h9, if_neg h10]
  rfl
theorem getD_nil (xs : List Vl) (j : Nat) : (xs ++ [nilV]).getD j nilV = xs.getD j nilV := by
  simp only [List.getD_eq_getElem?_getD]
  rcases Nat.lt_trichotomy j xs.length with h | h | h
  · rw [List.getElem?_append_left h]
  · subst h
    simp
  · rw [List.getElem?_eq_none (by simp; omega), List.getElem?_eq_none (by omega)]
section
variable {w : World} {A : VL} {m : VMD} {f e i g gs j x P N : Nat} {t : ThD} {l : ThL} {K : Cx} {fm : FmD} {fn : Vl} {args : List Vl}
set_option maxRecDepth 100000
set_option maxHeartbeats 600000
theorem call_type (h : CaB w A m f e K i t fm l g gs j x P N fn args) (h6 : fn.t = 6) (hn : fn.n = 4) : Calls Tryz.prog 267 #[.pointer (some ⟨A.b, 0, none⟩), .int .i64 i, .pointer (some ⟨A.bT, i * 5, none⟩), .pointer (some ⟨g, j * 5, none⟩), .int .i64 x] w (CaPost (callP m i x) w A f e) := by
  obtain ⟨Q, HQ⟩ : ∃ Q : Ending → World → Prop, Hid (CaPost (callP m i x) w A f e = Q) := ⟨_, rfl⟩
  rw [HQ.out]
  have HB : Hid (CaB w A m f e K i t fm l g gs j x P N fn args) := h
  have hx3 := h.x3
  have hpl := h.pl
  have hN : N ≤ 1120 := by rw [← h.nl]; exact h.at'.sl h.room
  have hpc := h.pc
  have HZ : Hid (A.o w.heap.size = 0) := h.rep.own _ (Nat.le_refl _)
  have hbl := h.rep.bl
  obtain ⟨fnt, fnn, fns⟩ := fn
  clear h
  go_enter Tryz.func267, Tryz.ntmps267
  go_wp2_with fail
  refine (burn_ok (HB.out.rep.fresh ((Fr.refl _ w).alloc (.cells #[.int .i64 0, .int .i64 0, .int .i64 0, .int .i64 0, .int .u64 0, sv [], .int .i64 0, .int .u64 0, sv []] 190))) HB.out.fu).mono ?_
  rintro e' w1 ⟨rfl, r1, s1⟩
  have hz1 : A.o w1.heap.size = 0 := r1.own _ (Nat.le_refl _)
  have HZ1 : Hid (A.o w1.heap.size = 0) := hz1
  have HR1 : Hid (VRep w1 A m f e) := r1
  have HS1 : Hid (VSt isVM w A w1 A) := (VSt.fresh ((Fr.refl _ w).alloc _)).trans (s1.weaken (fun k hk => by unfold isVM; unfold isCo at hk; omega))
  have HE1 : Hid (Has w1 w.heap.size #[.int .i64 0, .int .i64 0, .int .i64 0, .int .i64 0, .int .u64 0, sv [], .int .i64 0, .int .u64 0, sv []] 190) := (s1.keep0 (fun x => by unfold isCo at x; omega) (Has.new w _ _) HZ.out).1
  have c2 := r1.thCell HB.out.at'.hi HB.out.hx (j := 2) (by omega)
  simp only [thCells, List.getElem?_cons_succ, List.getElem?_cons_zero, Sl.v, HB.out.sa, HB.out.nl] at c2
  obtain ⟨g1, v1, v2, v3, v4, v5, v6, v7, v8⟩ := r1.val HB.out.at'.hi HB.out.hx HB.out.fx
  rw [HB.out.sa] at v1
  cases v1
  rw [HB.out.nl] at v2
  obtain ⟨g2, f1, f2, f3, f4, f5, f6⟩ := r1.fm HB.out.at'.hi HB.out.hx HB.out.hj
  rw [HB.out.fa] at f1
  cases f1
  have q1 := f5 1 (by omega)
  simp only [fCells, List.getElem?_cons_succ, List.getElem?_cons_zero] at q1
  have q2 := f6 (j * 5 + 1)
  have hTl := r1.ths.here.has.lt
  have e1 : (N : Int) - (x : Int) - 1 = (P : Int) := by omega
  have hPN : P < N := by omega
  have c3 := r1.thCell HB.out.at'.hi HB.out.hx (j := 3) (by omega)
  simp only [thCells, List.getElem?_cons_succ, List.getElem?_cons_zero, Sl.v, HB.out.fa] at c3
  obtain ⟨F, HF⟩ : ∃ F, Hid (t.frames.length = F) := ⟨_, rfl⟩
  rw [HF.out] at c3
  have hF8 : F ≤ 8 := by rw [← HF.out]; exact HB.out.at'.ok.fr.len
  have hgT : g ≠ A.bT := fun e => by
    have h1 := f3
    rw [e, r1.ths.here.lb] at h1
    omega
  have hgs : g ≠ gs := fun e => by
    rw [e, v3] at f3
    omega
  have hTg : A.bT ≠ g := fun e => hgT e.symm
  have hsg : gs ≠ g := fun e => hgs e.symm
  obtain ⟨D, HD⟩ : ∃ D : Nat, Hid (D = if x = 0 then 0 else (P + 1) * 3) := ⟨_, rfl⟩
  have hsl : ∀ W, (Instr.sliceAt 85 (.slice (some ⟨gs, 0, none⟩) N l.s.c) (some (.int .i64 ((P : Int) + 1))) (some (.int .i64 N)) (some (.int .i64 N))).run Tryz.prog W = .ok (.slice (some ⟨gs, D, none⟩) x x) W := fun W => by
    rw [win_slice (by omega) v2 (by omega)]
    rw [show N - (P + 1) = x by omega]
    by_cases hx0 : x = 0
    · rw [HD.out, if_pos hx0, if_pos (by omega)]
    · rw [HD.out, if_neg hx0, if_neg (by omega)]
  have hvc := r1.setPc HB.out.at'.hi HB.out.hx HB.out.fa HB.out.hj (fm.pc + 1)
  obtain ⟨m1, HM1⟩ : ∃ m1, Hid (m.setTh i { t with frames := t.frames.set j { fm with pc := fm.pc + 1 } } = m1) := ⟨_, rfl⟩
  obtain ⟨t1, HT1⟩ : ∃ t1 : ThD, Hid ({ t with frames := t.frames.set j { fm with pc := fm.pc + 1 } } = t1) := ⟨_, rfl⟩
  rw [HM1.out] at hvc
  obtain ⟨w2, HW2⟩ : ∃ w2, Hid ((w1.setCell ⟨g, j * 5 + 1, none⟩ (.int .i64 ((fm.pc : Int) + 1))).alloc (.cells #[.int .i64 fnt, .int .u64 fnn, sv fns] 68) = w2) := ⟨_, rfl⟩
  have HR2 : Hid (VRep w2 A m1 f e) := by rw [← HW2.out]; exact hvc.1.fresh ((Fr.refl _ _).alloc _)
  have HS2 : Hid (VSt isVM w A w2 A) := by rw [← HW2.out]; exact (HS1.out.trans (hvc.2.weaken (fun k hk => by unfold isVM; unfold isT at hk; omega))).trans (VSt.fresh ((Fr.refl _ _).alloc _))
  have hE2 : Has w2 w.heap.size #[.int .i64 0, .int .i64 0, .int .i64 0, .int .i64 0, .int .u64 0, sv [], .int .i64 0, .int .u64 0, sv []] 190 ∧ A.o w.heap.size = 0 := by
    have h1 := hvc.2.keep0 isT0 HE1.out HZ.out
    rw [← HW2.out]
    exact ⟨h1.1.alloc _, h1.2⟩
  have HE2 : Hid (Has w2 w.heap.size #[.int .i64 0, .int .i64 0, .int .i64 0, .int .i64 0, .int .u64 0, sv [], .int .i64 0, .int .u64 0, sv []] 190 ∧ A.o w.heap.size = 0) := hE2
  have HF2 : Hid (Has w2 w1.heap.size #[.int .i64 fnt, .int .u64 fnn, sv fns] 68) := by rw [← HW2.out]; exact Has.newC _ _ _ (by simp [World.setCell])
  have HI1 : Hid (m1.ths[i]? = some t1) := by rw [← HM1.out, ← HT1.out]; exact setTh_at HB.out.at'.hi
  have HA1 : Hid (At K m1 i t1 { fm with pc := fm.pc + 1 }) := by
    have h1 := HB.out.at'.pc (x := fm.pc + 1) HB.out.pcd
    rw [← HB.out.jl] at h1
    have h2 : setPc m i (fm.pc + 1) = m1 := by rw [← HM1.out]; exact setPc_is HB.out
    rw [h2, HT1.out] at h1
    exact h1.1
  have HCP : Hid (setPc m i ((topF m i).pc + 1) = m1) := by
    show _ = _
    rw [HB.out.at'.topF, ← HM1.out]
    exact setPc_is HB.out
  have HC : Hid (callP m i x = caQ m1 i t1 F P ⟨fnt, fnn, fns⟩ args) := callP_caQ HCP.out HI1.out (by rw [← HT1.out]) (by rw [← HT1.out, ← HF.out]; simp) HB.out.nl HB.out.pl HB.out.fx HB.out.ax
  rw [HC.out] at HQ
  clear HC HCP
  have HT1S : Hid (t1.stack = t.stack ∧ t1.frames.length = t.frames.length) := by rw [← HT1.out]; exact ⟨rfl, by simp⟩
  clear v3 v8 f2 f3 f5 f6 r1 s1 hz1 hpl hvc hE2
  have HN : Hid (fnn = 4) := hn
  clear hn
  subst h6
  go_wp2_with fail
  rw [HW2.out]
  have hal : args.length = x := by rw [← HB.out.ax, List.length_drop, HB.out.nl, HB.out.pl]; omega
  have HW0 : Hid (Win w2 w2 A i t1 (.slice (some ⟨gs, D, none⟩) x x) args) := caWin HR2.out HI1.out HB.out.hx HB.out.sa (by rw [HT1S.out.1, HB.out.nl, HB.out.pl]) (by rw [HT1S.out.1]; exact HB.out.ax) HD.out
  have HAL : Hid (args.length = x) := hal
  clear hal
  go_loopw [14] (fun u wr => ∃ (xs : List Vl), xs.length ≤ 3 ∧ slLen u = xs.length ∧ Hid (Win wr w2 A i t1 u xs) ∧ Hid (Fr (fun _ => False) w2 wr) ∧ Hid (∀ j, xs.getD j nilV = args.getD j nilV)) (fun u _ => 4 - slLen u)
  case atStart =>
    refine ⟨args, by rw [HAL.out]; exact hx3, ?_, HW0, Fr.refl _ _, fun _ => rfl⟩
    rw [HAL.out]
    rfl
  case round =>
    obtain ⟨xs, hxs3, hxl, W1, F1, G1⟩ := hrel
    obtain ⟨B, d, cc, W2⟩ := W1.out
    have hv2 := W2.hv
    subst hv2
    obtain ⟨X, HX⟩ : ∃ N : Nat, Hid (xs.length = N) := ⟨_, rfl⟩
    have w2le := W2.le
    have w2lt := W2.lt
    clear W2 hxl
    rw [HX.out] at hxs3 w2le W1 ⊢
    by_cases hlt : X < 3
    · have hlt2 : (X : Int) < 3 := by omega
      have HG : Hid (∀ b, Win (wr.alloc b) w2 A i t1 (.slice (some ⟨B, d, none⟩) X cc) xs ∧ Fr (fun _ => False) w2 (wr.alloc b)) := fun b => ⟨W1.out.fresh ((Fr.refl _ _).alloc b), F1.out.alloc b⟩
      go_wp2_with (at_builtin; go_must (refine wpList_appWin rfl (.tmp 81) (.tmp 83) rfl HR2.out HI1.out (HG.out _).2 rfl (HG.out _).1 rfl (Has.new _ _ _) ?bd ?go))
      case bd => rw [HX.out]; omega
      case go =>
        intro v' w' q1 q2
        have Q1 : Hid (Win w' w2 A i t1 v' (xs ++ [nilV])) := q1
        have Q2 : Hid (Fr (fun _ => False) w2 w') := q2
        have hxl : (xs ++ [nilV]).length = X + 1 := by rw [List.length_append, HX.out]; rfl
        have hsl2 : slLen v' = X + 1 := by
          obtain ⟨B, d, c, W⟩ := q1
          rw [W.hv, hxl]
          rfl
        clear q1 q2
        go_wp2_with fail
        refine ⟨⟨xs ++ [nilV], by omega, by rw [hsl2, hxl], Q1, Q2, fun j => ?_⟩, ?_⟩
        · rw [← G1.out j]
          exact getD_nil xs j
        · rw [hsl2]
          simp only [slLen]
          omega
    · obtain rfl : X = 3 := by omega
      clear hlt hxs3
      obtain ⟨B2, d2, c2', h1, _, _, h2, h3⟩ := W1.out.at3 HX.out
      have e4 := h1
      simp only [Value.slice.injEq, Option.some.injEq, Addr.mk.injEq] at e4
      obtain ⟨⟨rfl, rfl, _⟩, _, _⟩ := e4
      clear h1
      rw [G1.out 0, G1.out 1] at h2
      rw [G1.out 1] at h3
      obtain ⟨a0, HA0⟩ : ∃ v, Hid (args.getD 0 nilV = v) := ⟨_, rfl⟩
      obtain ⟨a1, HA1v⟩ : ∃ v, Hid (args.getD 1 nilV = v) := ⟨_, rfl⟩
      rw [HA0.out, HA1v.out] at h2
      rw [HA1v.out] at h3
      obtain ⟨W3, HW3⟩ : ∃ W3, Hid ((wr.alloc (.cells #[.int .i64 0, .int .u64 0, sv []] 68)).alloc (.cells #[.int .i64 0, .int .u64 0, sv []] 68) = W3) := ⟨_, rfl⟩
      have f23 : Fr (fun _ => False) wr W3 := by rw [← HW3.out]; exact ((Fr.refl _ wr).alloc _).alloc _
      have f13 : Fr (fun _ => False) w2 W3 := F1.out.trans f23 (fun _ _ x => x)
      have HR3 : Hid (VRep W3 A m1 f e) := HR2.out.fresh f13
      have HS3 : Hid (VSt isVM w A W3 A) := HS2.out.trans (VSt.fresh f13)
      have HE3 : Hid (Has W3 w.heap.size (evCells ev0) 190 ∧ A.o w.heap.size = 0) := ⟨HE2.out.1.fr f13 (fun x => x), HE2.out.2⟩
      have HAR : Hid (Ar W3 B d a0 a1) := h2.fresh f23
      have HARr : Hid (Ar wr B d a0 a1) := h2
      have har : ∀ W c, (Instr.arrayAt 317 (.slice (some ⟨B, d, none⟩) 3 c)).run Tryz.prog W = .ok (.pointer (some ⟨B, d, none⟩)) W := fun W c => run_arrayAt _ _ 68 3 _ _ _ (by kernel_rfl) (Nat.le_refl _)
      have HSr : Hid (VSt isVM w A wr A) := HS2.out.trans (VSt.fresh F1.out)
      have HEr : Hid (Has wr w.heap.size (evCells ev0) 190 ∧ A.o w.heap.size = 0) := ⟨HE2.out.1.fr F1.out (fun x => x), HE2.out.2⟩
      have HF3r : Hid (Fr (fun _ => False) wr W3) := f23
      have HWN : Hid (Win W3 W3 A i t1 (.slice (some ⟨B, d + 3, none⟩) 1 1) [a1]) := by
        obtain ⟨b1, d1, c1, w1'⟩ := h3
        refine ⟨b1, d1, c1, w1'.hv, fun j u hj => ⟨f23.cell (w1'.cl j u hj).1, (w1'.cl j u hj).2⟩, ?_, w1'.le, Nat.lt_of_lt_of_le w1'.lt f23.size⟩
        have := w1'.hv
        simp only [Value.slice.injEq] at this
        exact .inl (by rw [← this.2.2]; rfl)
      have HRR : Hid (R2 W3 wr.heap.size nilV nilV) := by rw [← HW3.out]; exact R2.new wr
      have hwr := F1.out.size
      have HZR : Hid (A.o wr.heap.size = 0 ∧ A.o (wr.heap.size + 1) = 0) := ⟨HR2.out.own _ hwr, HR2.out.own _ (Nat.le_succ_of_le hwr)⟩
      have HFN : Hid (Has wr w1.heap.size #[.int .i64 6, .int .u64 fnn, sv fns] 68) := HF2.out.fr F1.out (fun x => x)
      obtain ⟨fn0, fn1, fn2⟩ := HFN.out.cells3 (v := ⟨6, fnn, fns⟩)
      dsimp only at fn0 fn1 fn2
      have fnl := HFN.out.lt
      have va0 : VOk K a0 := by rw [← HA0.out]; exact getD_ok (fun v hv => HB.out.at'.ok.sv v (by rw [← HB.out.ax] at hv; exact List.mem_of_mem_drop hv)) 0
      have va1 : VOk K a1 := by rw [← HA1v.out]; exact getD_ok (fun v hv => HB.out.at'.ok.sv v (by rw [← HB.out.ax] at hv; exact List.mem_of_mem_drop hv)) 1
      have HV0 : Hid (VOk K a0) := va0
      have HV1 : Hid (VOk K a1) := va1
      obtain ⟨n0t, n0n, n0s⟩ := a0
      obtain ⟨n1t, n1n, n1s⟩ := a1
      clear h2 h3 f23 f13 va0 va1
      have HWS : Hid (w2.heap.size ≤ wr.heap.size ∧ W3.heap.size = wr.heap.size + 2) := ⟨hwr, by rw [← HW3.out]; simp⟩
      clear hwr
      obtain rfl := HN.out
      have fnc : ((4 : Nat) : Int) = 4 := rfl
      rw [fnc] at fn1
      clear fnc HN
      go_wp2_with fail
      rw [HW3.out]
      obtain ⟨R, HRb⟩ : ∃ R, Hid (builtinP m1 4 ⟨n0t, n0n, n0s⟩ ⟨n1t, n1n, n1s⟩ = R) := ⟨_, rfl⟩
      have HCQ : Hid (caQ m1 i t1 F P ⟨6, 4, fns⟩ args = buQ R i P) := by
        have h := caQ_bu (m := m1) (i := i) (t := t1) (F := F) (P := P) (n := 4) (s := fns) (args := args) (by decide) (by decide) (by decide)
        rw [HA0.out, HA1v.out, HRb.out] at h
        exact h
      have HBO : Hid (BuOk K m1 i t1 R) := by rw [← HRb.out]; exact builtin_ok HA1.out 4 HV0.out HV1.out
      refine (bType_any HR3.out HAR.out).mono ?_
      rw [HRb.out]
      rw [HCQ.out] at HQ
      clear HCQ HRb
      rcases R with ⟨(v | k) | p, m4⟩
      · rintro e' w4 ⟨⟨b, rfl, hb, hbl2⟩, A4, r4, s4⟩
        have FIN : Hid (Q (.panicked (thrE b)) w4) := by
          rw [← HQ.out]
          exact ⟨⟨b, rfl, hb, by have := HS3.out.st.fr.size; omega⟩, A4, r4, HS3.out.trans s4⟩
        exact ⟨rfl, FIN.out⟩
      · rintro e' w4 ⟨rfl, A4, r4, s4⟩
        have FIN : Hid (Q (.panicked (trapE k)) w4) := by
          rw [← HQ.out]
          exact ⟨rfl, A4, r4, HS3.out.trans s4⟩
        exact ⟨rfl, FIN.out⟩
      · rintro e' w4 ⟨rfl, A4, r4, s4⟩
        obtain ⟨K4, t4, c4, hs4, _, _⟩ := HBO.out
        have HI4 : Hid (m4.ths[i]? = some t4) := c4.hi
        have HS4 : Hid (t4.stack = t1.stack) := hs4
        clear c4 hs4
        obtain ⟨⟨kt, kn, ks⟩, ⟨vt, vn, vs⟩⟩ := p
        obtain ⟨rr, o4, o5⟩ := HRR.out.st s4 (fun h => h rfl) HZR.out.1 HZR.out.2
        have HST : Hid (VSt isVM wr A (set6 w4 wr.heap.size ⟨kt, kn, ks⟩ ⟨vt, vn, vs⟩) A4) := ((VSt.fresh HF3r.out).trans s4).set6 (Nat.le_refl _) _ _
        have HR4 : Hid (VRep (set6 w4 wr.heap.size ⟨kt, kn, ks⟩ ⟨vt, vn, vs⟩) A4 m4 f e) := r4.set6 o4 o5 _ _
        have hbT4 := s4.bT
        obtain ⟨l4, hx4⟩ := r4.lays HI4.out
        have HX4 : Hid (A4.X[i]? = some l4) := hx4
        have c24 := r4.thCell HI4.out hx4 (j := 2) (by omega)
        have f24 := r4.ths.frozen (i * 5 + 2)
        have hTl4 := r4.ths.here.has.lt
        have ob4 := r4.ths.here.lb
        rw [hbT4] at c24 f24 hTl4 ob4
        simp only [thCells, List.getElem?_cons_succ, List.getElem?_cons_zero, Sl.v, HS4.out, HT1S.out.1, HB.out.nl] at c24
        have hcap : N ≤ l4.s.c := by
          rcases (r4.one HI4.out hx4).s.form with ⟨h, h', h''⟩ | ⟨_, _, h⟩
          · dsimp only at h'; rw [HS4.out, HT1S.out.1, HB.out.nl] at h'; omega
          · dsimp only at h; rw [HS4.out, HT1S.out.1, HB.out.nl] at h; exact h
        obtain ⟨y0, y1, y2⟩ := rr.h4.cells3 (v := nilV)
        obtain ⟨z0, z1, z2⟩ := rr.h5.cells3 (v := nilV)
        have yl := rr.h4.lt
        have zl := rr.h5.lt
        have yf0 := rr.h4.frozen 0
        have yf1 := rr.h4.frozen 1
        have yf2 := rr.h4.frozen 2
        have zf0 := rr.h5.frozen 0
        have zf1 := rr.h5.frozen 1
        have zf2 := rr.h5.frozen 2
        dsimp only [nilV] at y0 y1 y2 z0 z1 z2
        have hr1 : wr.heap.size ≠ A.bT := fun h => by rw [h] at o4; omega
        have hr2 : wr.heap.size + 1 ≠ A.bT := fun h => by rw [h] at o5; omega
        have hr3 : A.bT ≠ wr.heap.size := fun h => hr1 h.symm
        have hr4 : A.bT ≠ wr.heap.size + 1 := fun h => hr2 h.symm
        have hPn : ¬ (P : Int) < 0 := by omega
        have hPc : P ≤ l4.s.c := by omega
        clear r4 s4 hx4 rr
        have HCU : Hid (VRep ((set6 w4 wr.heap.size ⟨kt, kn, ks⟩ ⟨vt, vn, vs⟩).setCell ⟨A.bT, i * 5 + 2, none⟩ (.slice l4.s.a P l4.s.c)) A4 (m4.setTh i { t4 with stack := t4.stack.take P }) f e ∧ VSt isVM wr A ((set6 w4 wr.heap.size ⟨kt, kn, ks⟩ ⟨vt, vn, vs⟩).setCell ⟨A.bT, i * 5 + 2, none⟩ (.slice l4.s.a P l4.s.c)) A4) := by
          have h := HR4.out.cutS HI4.out HX4.out (n := P) (by rw [HS4.out, HT1S.out.1, HB.out.nl]; omega)
          rw [hbT4] at h
          exact ⟨h.1, HST.out.trans (h.2.weaken (fun _ => isT_vm))⟩
        clear HR4 HST
        go_wp2_with fail
        have hp := vpush_any (c := 2) (B := w4.heap.size) (HCU.out.1.fresh ((Fr.refl _ _).alloc (.cells #[.int .i64 kt, .int .u64 kn, sv ks, .int .i64 vt, .int .u64 vn, sv vs] 68))) (setTh_at HI4.out) [⟨kt, kn, ks⟩, ⟨vt, vn, vs⟩] (by show 0 < 2; omega) (by simp [HS4.out, HT1S.out.1, HB.out.nl]; omega) (Has.newC _ _ _ (by simp [World.setCell]))
        rw [hbT4, setTh_set] at hp
        dsimp only at hp
        refine hp.mono ?_
        rintro e' w5 ⟨rfl, A5, r5, s5⟩
        have HR3 : Hid (VRep w5 A5 (m4.setTh i { t4 with stack := t4.stack.take P ++ [⟨kt, kn, ks⟩, ⟨vt, vn, vs⟩] }) f e) := r5
        have hst : VSt isVM wr A w5 A5 := (HCU.out.2.trans (VSt.fresh ((Fr.refl _ _).alloc _))).trans (s5.weaken (fun _ => isT_vm))
        have HS3 : Hid (VSt isVM w A w5 A5) := HSr.out.trans hst
        have HE3 : Hid (Has w5 w.heap.size (evCells ev0) 190 ∧ A5.o w.heap.size = 0) := hst.keep0 (fun h => h rfl) HEr.out.1 HEr.out.2
        clear hp r5 s5 hst HCU
        have FIN : Hid (Q (.returned (EvD.val ev0)) (set9 w5 w.heap.size ev0)) := by
          rw [← HQ.out]
          have hc : push (cut m4 i P) i [⟨kt, kn, ks⟩, ⟨vt, vn, vs⟩] = m4.setTh i { t4 with stack := t4.stack.take P ++ [⟨kt, kn, ks⟩, ⟨vt, vn, vs⟩] } := by
            simp only [cut, push, th_get HI4.out, setTh_set, th_get (setTh_at HI4.out)]
          simp only [buQ, hc]
          exact ⟨rfl, A5, HR3.out.set9 HE3.out.2 _, HS3.out.set9 (Nat.le_refl _) _⟩
        obtain ⟨x0, x1, x2, x3, x4, x5, x6, x7, x8⟩ := HE3.out.1.ev
        have hz := HE3.out.1.frozen
        have hz0 := hz 0
        have hz1 := hz 1
        have hz2 := hz 2
        have hz3 := hz 3
        have hz4 := hz 4
        have hz5 := hz 5
        have hz6 := hz 6
        have hz7 := hz 7
        have hz8 := hz 8
        clear hz
        dsimp only [ev0, nilV] at x0 x1 x2 x3 x4 x5 x6 x7 x8
        have hbe := HE3.out.1.lt
        go_wp2_with fail
        refine bodyPost_ret (res_cell isEvent rfl rfl (Has.set9 ev0 HE3.out.1) rfl) rfl FIN.out
end
end Go.Proofs.Qxb6500574aGreatDoor
